/- The specification's live, Size. -/
import Derived.Test.YtbhbjcgbhklieaaP1
import Derived.Test.YtbhbjcgbhklieaaF4
namespace Go.Proofs.Ytbhbjcgbhklieaa
open Go.RowKit Go.Shelf

set_option maxRecDepth 100000 in
set_option maxHeartbeats 1000000 in
theorem c81 (c : Conf) (lv qv : Value) (gi : Int) (live : List Piece) (at_ : Int) (w : World) (hl : Sl 3 encP w lv live) (hn : live.length ≤ 1000) :
    Calls Try.prog 81 #[hAgg c lv qv gi, .int .u32 at_] w fun e w' => e = .returned (.int .i64 (rLiveGo at_ live 0)) ∧ Below w.heap.size w w' := by
  obtain ⟨A, ca, rfl, _, hl⟩ := hl
  have HL := Lib.hid hl
  obtain ⟨n, hnn⟩ : ∃ n, live.length = n := ⟨_, rfl⟩
  rw [hnn] at hn ⊢
  have HN := Lib.hid hnn
  clear hl hnn
  go_enter Try.func81, Try.ntmps81
  go_wp2
  go_loopg [5] n (fun kx s5 wr => ∃ k : Nat, k ≤ n ∧ s5 = .int .i64 k ∧ n - k ≤ kx ∧ Hid (rLiveGo at_ (live.drop k) k = rLiveGo at_ live 0) ∧ Hid (Below w.heap.size w wr) ∧ wr.cell? ⟨w.heap.size, 4, none⟩ = some (.slice A n ca) ∧ w.heap.size < wr.heap.size)
  case atStart => exact ⟨0, Nat.zero_le _, rfl, by omega, (rfl : rLiveGo at_ (live.drop 0) 0 = rLiveGo at_ live 0), below_alloc1 _ _, by simp [go_sem], by simp⟩
  case round =>
    obtain ⟨k, hk, rfl, hkx, HG, HB, hbx, hsz⟩ := hrel
    by_cases hlt : k < n
    · have hkl : k < live.length := by rw [HN.out]; exact hlt
      obtain ⟨b, off, rfl, hL⟩ := HL.out.resolve_left (by rintro rfl; simp at hkl)
      obtain ⟨m0, m1, m2⟩ := (hL.below HB.out).at3 k hkl
      have hd := rLiveGo_drop at_ live k hkl
      generalize live[k]! = x at m0 hd
      have HD := Lib.hid hd
      clear hd hL hkl m1 m2
      by_cases hx : x.pos = at_
      · subst hx
        go_wp2
        go_ret
        exact ⟨ret_int (by rw [← HG.out, HD.out]; simp), HB.out⟩
      · have HX : Hid (¬ x.pos = at_) := hx
        go_wp2
        go_roundg (n - (k + 1))
        case measure => omega
        case rel => exact ⟨k + 1, by omega, by go_num, Nat.le_refl _, (by rw [← HG.out, HD.out, if_neg HX.out] : rLiveGo at_ (live.drop (k + 1)) (k + 1) = rLiveGo at_ live 0), HB.out, hbx, hsz⟩
    · obtain rfl : k = n := by omega
      go_wp2
      go_ret
      exact ⟨ret_int (by rw [← HG.out, ← HN.out, List.drop_length]; rfl), HB.out⟩

set_option maxRecDepth 100000 in
set_option maxHeartbeats 1000000 in
theorem c36 (c : Conf) (lv qv : Value) (gi : Int) (live quar : List Piece) (at_ : Int) (w : World) (hl : Sl 3 encP w lv live) (hq : Sl 3 encP w qv quar) (wl : ∀ p ∈ live, WfP p) (wq : ∀ p ∈ quar, WfP p) :
    Calls Try.prog 36 #[hAgg c lv qv gi, .int .u32 at_] w fun e w' => Below w.heap.size w w' ∧
      ((¬ Good c gi live quar ∧ e = .returned (.tuple #[.int .i64 0, .int .i64 60])) ∨
       (Good c gi live quar ∧ isI live at_ = false ∧ e = .returned (.tuple #[.int .i64 0, .int .i64 61])) ∨
       (Good c gi live quar ∧ isI live at_ = true ∧ e = .returned (.tuple #[.int .i64 live[atI live at_]!.size, .int .i64 0]))) := by
  have hi := good_iff (c := c) (gi := gi) wl wq
  have hB : Below w.heap.size w (w.alloc (.cells #[.int .i64 c.page, .int .i64 c.n, .int .i64 c.red, .int .i64 c.quarantine, lv, qv, .int .i64 gi] 26)) := below_alloc1 w _
  have h := c18 c lv qv gi live quar _ (hl.below hB) (hq.below hB) wl wq
  have H := Lib.hid h
  have HB := Lib.hid hB
  have HL := Lib.hid hl
  have HI := Lib.hid hi
  obtain ⟨A, ca, rfl, _, _⟩ := id hl
  obtain ⟨B, cb, rfl, _, _⟩ := hq
  clear h hB wl wq hl hi
  go_enter Try.func36, Try.ntmps36
  go_wp2_with fail
  refine Calls.mono H.out ?_
  clear H
  rintro e w1 ⟨hB1, ⟨hg, rfl⟩ | ⟨hg, rfl⟩⟩
  · have HG := Lib.hid hg
    clear hg
    go_wp2
    go_ret2
    exact ⟨HB.out.trans (hB1.mono (by simp)), .inl ⟨fun g => HG.out (HI.out.1 g), rfl⟩⟩
  · have hb1 : w1.heap[w.heap.size]? = some (.cells #[.int .i64 c.page, .int .i64 c.n, .int .i64 c.red, .int .i64 c.quarantine, .slice A live.length ca, .slice B quar.length cb, .int .i64 gi] 26 (0, 0)) := (hB1.block _ (by simp)).trans (hal_new rfl)
    have hBw := HB.out.trans (hB1.mono (by simp))
    have hn1 := hg.n1
    have hv := rLive_eq hg.pos at_
    have HBW := Lib.hid hBw
    have HG := Lib.hid (HI.out.2 hg)
    have HB1 := Lib.hid hb1
    have h81 := c81 c _ (.slice B quar.length cb) gi live at_ w1 (HL.out.below hBw) hn1
    rw [hv] at h81
    have H81 := Lib.hid h81
    have q0 := blk_cell hb1 0
    have q1 := blk_cell hb1 1
    have q2 := blk_cell hb1 2
    have q3 := blk_cell hb1 3
    have q4 := blk_cell hb1 4
    have q5 := blk_cell hb1 5
    have q6 := blk_cell hb1 6
    simp only [List.getElem?_toArray, List.getElem?_cons_succ, List.getElem?_cons_zero] at q0 q1 q2 q3 q4 q5 q6
    clear hg hB1 hv h81 hBw hb1 HB
    go_wp2_with fail
    refine Calls.mono H81.out ?_
    rintro e w2 ⟨rfl, hB2⟩
    have HB2 := Lib.hid hB2
    clear hB2
    have hb2 := (HB2.out.block _ (blk_lt HB1.out)).trans HB1.out
    clear q0 q1 q2 q3 q4 q5 q6
    have q4 := blk_cell hb2 4
    simp only [List.getElem?_toArray, List.getElem?_cons_succ, List.getElem?_cons_zero] at q4
    clear hb2
    cases hf : isI live at_ with
    | false =>
      simp only [Bool.false_eq_true, if_false]
      go_wp2
      go_ret2
      exact ⟨HBW.out.trans (HB2.out.mono HBW.out.size), .inr (.inl ⟨HG.out, hf, rfl⟩)⟩
    | true =>
      simp only [if_true]
      have hlt : atI live at_ < live.length := by
        have := hf; unfold isI bsIs at this; simp only [decide_eq_true_eq] at this; exact this.1
      have hsl := (HL.out.below HBW.out).below HB2.out
      obtain ⟨i, hi⟩ : ∃ i, atI live at_ = i := ⟨_, rfl⟩
      rw [hi] at hlt ⊢
      obtain ⟨A', c', e', _, hl'⟩ := hsl
      cases e'
      obtain ⟨b, off, rfl, hll⟩ := hl'.resolve_left (by rintro rfl; simp at hlt)
      obtain ⟨l0, l1, l2⟩ := hll.at3 _ hlt
      have HHI := Lib.hid hi
      have HHF := Lib.hid hf
      generalize hx : live[i]! = x at l0 l1 l2
      have HX := Lib.hid hx
      clear hi hx hll hl' hf l0 l2
      generalize live.length = n at *
      go_wp2
      go_ret2
      exact ⟨HBW.out.trans (HB2.out.mono HBW.out.size), .inr (.inr ⟨HG.out, HHF.out, by rw [HHI.out, HX.out]; rfl⟩)⟩
end Go.Proofs.Ytbhbjcgbhklieaa
