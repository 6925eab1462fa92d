/- few, at two heaps. -/
import Derived.Test.YtbhbjcgbhklieaaF5
namespace Go.Proofs.Ytbhbjcgbhklieaa
open Go.RowKit Go.Shelf

set_option maxRecDepth 100000 in
set_option maxHeartbeats 1000000 in
theorem c85_2 (b : Nat) (c c2 : Conf) (A B A2 B2 : Option Addr) (n1 k1 n2 k2 n3 k3 n4 k4 : Nat) (gi gi2 : Int) (w : World) (hb : w.heap[b]? = some (.cells #[.int .i64 c.page, .int .i64 c.n, .int .i64 c.red, .int .i64 c.quarantine, .slice A n1 k1, .slice B n2 k2, .int .i64 gi, .int .i64 c2.page, .int .i64 c2.n, .int .i64 c2.red, .int .i64 c2.quarantine, .slice A2 n3 k3, .slice B2 n4 k4, .int .i64 gi2] 26 (0, 0))) :
    Calls Try.prog 85 #[.slice (some ⟨b, 0, none⟩) 2 2, .func (.func 59) #[] #[]] w fun e w' => e = .returned (.int .i64 (if manyF n1 n2 then 0 else if manyF n3 n4 then 1 else -1)) ∧ Below w.heap.size w w' := by
  have q0 := blk_cell hb 0
  have q1 := blk_cell hb 1
  have q2 := blk_cell hb 2
  have q3 := blk_cell hb 3
  have q4 := blk_cell hb 4
  have q5 := blk_cell hb 5
  have q6 := blk_cell hb 6
  have q7 := blk_cell hb 7
  have q8 := blk_cell hb 8
  have q9 := blk_cell hb 9
  have q10 := blk_cell hb 10
  have q11 := blk_cell hb 11
  have q12 := blk_cell hb 12
  have q13 := blk_cell hb 13
  simp only [List.getElem?_toArray, List.getElem?_cons_succ, List.getElem?_cons_zero] at q0 q1 q2 q3 q4 q5 q6 q7 q8 q9 q10 q11 q12 q13
  have h59 := c59 c A B n1 k1 n2 k2 gi w
  have h59b := fun W => c59 c2 A2 B2 n3 k3 n4 k4 gi2 W
  have hlt := blk_lt hb
  obtain ⟨m, hm⟩ : ∃ m, manyF n1 n2 = m := ⟨_, rfl⟩
  obtain ⟨m2, hm2⟩ : ∃ m, manyF n3 n4 = m := ⟨_, rfl⟩
  rw [hm] at h59 ⊢
  rw [hm2] at h59b ⊢
  clear hm hm2 hb
  have H59 := Lib.hid h59
  have H59B := Lib.hid h59b
  clear h59 h59b
  cases m with
  | true =>
    go_enter Try.func85, Try.ntmps85
    go_wp2
    refine wp_loop_rounds 1 ?_
    rw [rounds_succ]
    go_wp2_with fail
    refine Calls.mono H59.out ?_
    rintro e w' ⟨rfl, hB⟩
    go_wp2
    go_ret
    exact ⟨rfl, hB⟩
  | false =>
    go_enter Try.func85, Try.ntmps85
    go_wp2
    refine wp_loop_rounds 3 ?_
    rw [rounds_succ]
    go_wp2_with fail
    refine Calls.mono H59.out ?_
    rintro e w' ⟨rfl, hB⟩
    have r7 := (hB.cell (p := ⟨b, 7, none⟩) hlt).trans q7
    have r8 := (hB.cell (p := ⟨b, 8, none⟩) hlt).trans q8
    have r9 := (hB.cell (p := ⟨b, 9, none⟩) hlt).trans q9
    have r10 := (hB.cell (p := ⟨b, 10, none⟩) hlt).trans q10
    have r11 := (hB.cell (p := ⟨b, 11, none⟩) hlt).trans q11
    have r12 := (hB.cell (p := ⟨b, 12, none⟩) hlt).trans q12
    have r13 := (hB.cell (p := ⟨b, 13, none⟩) hlt).trans q13
    have HB := Lib.hid hB
    clear hB
    go_wp2
    rw [rounds_succ]
    go_wp2_with fail
    refine Calls.mono (H59B.out w') ?_
    rintro e w2 ⟨rfl, hB2⟩
    have HB2 : Hid (Below w.heap.size w w2) := HB.out.trans (hB2.mono HB.out.size)
    clear hB2
    cases m2 with
    | true =>
      go_wp2
      go_ret
      exact ⟨rfl, HB2.out⟩
    | false =>
      go_wp2
      rw [rounds_succ]
      go_wp2
      go_ret
      exact ⟨rfl, HB2.out⟩

theorem c58_2 (b : Nat) (c c2 : Conf) (A B A2 B2 : Option Addr) (n1 k1 n2 k2 n3 k3 n4 k4 : Nat) (gi gi2 : Int) (w : World) (hb : w.heap[b]? = some (.cells #[.int .i64 c.page, .int .i64 c.n, .int .i64 c.red, .int .i64 c.quarantine, .slice A n1 k1, .slice B n2 k2, .int .i64 gi, .int .i64 c2.page, .int .i64 c2.n, .int .i64 c2.red, .int .i64 c2.quarantine, .slice A2 n3 k3, .slice B2 n4 k4, .int .i64 gi2] 26 (0, 0))) :
    Calls Try.prog 58 #[.slice (some ⟨b, 0, none⟩) 2 2, .func (.func 59) #[] #[]] w fun e w' => e = .returned (.bool (manyF n1 n2 || manyF n3 n4)) ∧ Below w.heap.size w w' := by
  have h := c85_2 b c c2 A B A2 B2 n1 k1 n2 k2 n3 k3 n4 k4 gi gi2 w hb
  obtain ⟨m, hm⟩ : ∃ m, manyF n1 n2 = m := ⟨_, rfl⟩
  obtain ⟨m2, hm2⟩ : ∃ m, manyF n3 n4 = m := ⟨_, rfl⟩
  rw [hm, hm2] at h ⊢
  clear hm hm2 hb
  cases m <;> cases m2
  all_goals
    go_enter Try.func58, Try.ntmps58
    go_wp2_with fail
    refine Calls.mono h ?_
    rintro e w' ⟨rfl, hB⟩
    go_wp2
    go_ret
    exact ⟨rfl, hB⟩
theorem c17_2 (b : Nat) (c c2 : Conf) (A B A2 B2 : Option Addr) (n1 k1 n2 k2 n3 k3 n4 k4 : Nat) (gi gi2 : Int) (w : World) (hb : w.heap[b]? = some (.cells #[.int .i64 c.page, .int .i64 c.n, .int .i64 c.red, .int .i64 c.quarantine, .slice A n1 k1, .slice B n2 k2, .int .i64 gi, .int .i64 c2.page, .int .i64 c2.n, .int .i64 c2.red, .int .i64 c2.quarantine, .slice A2 n3 k3, .slice B2 n4 k4, .int .i64 gi2] 26 (0, 0))) :
    Calls Try.prog 17 #[.slice (some ⟨b, 0, none⟩) 2 2] w fun e w' => e = .returned (.bool (!(manyF n1 n2 || manyF n3 n4))) ∧ Below w.heap.size w w' := by
  have h := c58_2 b c c2 A B A2 B2 n1 k1 n2 k2 n3 k3 n4 k4 gi gi2 w hb
  clear hb
  go_enter Try.func17, Try.ntmps17
  go_wp2_with fail
  refine Calls.mono h ?_
  rintro e w' ⟨rfl, hB⟩
  go_wp2
  go_ret
  exact ⟨by rw [Bool.not_or]; rfl, hB⟩
end Go.Proofs.Ytbhbjcgbhklieaa
