/- few, at one heap. -/
import Derived.Test.YtbhbjcgbhklieaaE4
namespace Go.Proofs.Ytbhbjcgbhklieaa
open Go.RowKit Go.Shelf

def manyF (n1 n2 : Nat) : Bool := decide (60 < wrap64 ((n1 : Int) + (n2 : Int)))

theorem c59 (c : Conf) (A B : Option Addr) (n1 k1 n2 k2 : Nat) (gi : Int) (w : World) :
    Calls Try.prog 59 #[hAgg c (.slice A n1 k1) (.slice B n2 k2) gi] w fun e w' => e = .returned (.bool (manyF n1 n2)) ∧ Below w.heap.size w w' := by
  go_enter Try.func59, Try.ntmps59
  go_wp2
  go_ret
  exact ⟨rfl, below_alloc1 _ _⟩

set_option maxRecDepth 100000 in
set_option maxHeartbeats 1000000 in
theorem c85 (b : Nat) (c : Conf) (A B : Option Addr) (n1 k1 n2 k2 : Nat) (gi : Int) (w : World) (hb : w.heap[b]? = some (.cells #[.int .i64 c.page, .int .i64 c.n, .int .i64 c.red, .int .i64 c.quarantine, .slice A n1 k1, .slice B n2 k2, .int .i64 gi] 26 (0, 0))) :
    Calls Try.prog 85 #[.slice (some ⟨b, 0, none⟩) 1 1, .func (.func 59) #[] #[]] w fun e w' => e = .returned (.int .i64 (if manyF n1 n2 then 0 else -1)) ∧ Below w.heap.size w w' := by
  have q0 := blk_cell hb 0
  have q1 := blk_cell hb 1
  have q2 := blk_cell hb 2
  have q3 := blk_cell hb 3
  have q4 := blk_cell hb 4
  have q5 := blk_cell hb 5
  have q6 := blk_cell hb 6
  simp only [List.getElem?_toArray, List.getElem?_cons_succ, List.getElem?_cons_zero] at q0 q1 q2 q3 q4 q5 q6
  have h59 := c59 c A B n1 k1 n2 k2 gi w
  obtain ⟨m, hm⟩ : ∃ m, manyF n1 n2 = m := ⟨_, rfl⟩
  rw [hm] at h59 ⊢
  clear hm hb
  cases m with
  | true =>
    go_enter Try.func85, Try.ntmps85
    go_wp2
    refine wp_loop_rounds 1 ?_
    rw [rounds_succ]
    go_wp2_with fail
    refine Calls.mono h59 ?_
    rintro e w' ⟨rfl, hB⟩
    go_wp2
    go_ret
    exact ⟨rfl, hB⟩
  | false =>
    go_enter Try.func85, Try.ntmps85
    go_wp2
    refine wp_loop_rounds 2 ?_
    rw [rounds_succ]
    go_wp2_with fail
    refine Calls.mono h59 ?_
    rintro e w' ⟨rfl, hB⟩
    go_wp2
    rw [rounds_succ]
    go_wp2
    go_ret
    exact ⟨rfl, hB⟩

theorem c58 (b : Nat) (c : Conf) (A B : Option Addr) (n1 k1 n2 k2 : Nat) (gi : Int) (w : World) (hb : w.heap[b]? = some (.cells #[.int .i64 c.page, .int .i64 c.n, .int .i64 c.red, .int .i64 c.quarantine, .slice A n1 k1, .slice B n2 k2, .int .i64 gi] 26 (0, 0))) :
    Calls Try.prog 58 #[.slice (some ⟨b, 0, none⟩) 1 1, .func (.func 59) #[] #[]] w fun e w' => e = .returned (.bool (manyF n1 n2)) ∧ Below w.heap.size w w' := by
  have h := c85 b c A B n1 k1 n2 k2 gi w hb
  obtain ⟨m, hm⟩ : ∃ m, manyF n1 n2 = m := ⟨_, rfl⟩
  rw [hm] at h ⊢
  clear hm hb
  cases m
  all_goals
    go_enter Try.func58, Try.ntmps58
    go_wp2_with fail
    refine Calls.mono h ?_
    rintro e w' ⟨rfl, hB⟩
    go_wp2
    go_ret
    exact ⟨rfl, hB⟩
theorem c17 (b : Nat) (c : Conf) (A B : Option Addr) (n1 k1 n2 k2 : Nat) (gi : Int) (w : World) (hb : w.heap[b]? = some (.cells #[.int .i64 c.page, .int .i64 c.n, .int .i64 c.red, .int .i64 c.quarantine, .slice A n1 k1, .slice B n2 k2, .int .i64 gi] 26 (0, 0))) :
    Calls Try.prog 17 #[.slice (some ⟨b, 0, none⟩) 1 1] w fun e w' => e = .returned (.bool (!manyF n1 n2)) ∧ Below w.heap.size w w' := by
  have h := c58 b c A B n1 k1 n2 k2 gi w hb
  clear hb
  go_enter Try.func17, Try.ntmps17
  go_wp2_with fail
  refine Calls.mono h ?_
  rintro e w' ⟨rfl, hB⟩
  go_wp2
  go_ret
  exact ⟨rfl, hB⟩
end Go.Proofs.Ytbhbjcgbhklieaa
