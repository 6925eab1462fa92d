/- Same. -/
import Derived.Test.YtbhbjcgbhklieaaC7
import Derived.Test.YtbhbjcgbhklieaaE4
namespace Go.Proofs.Ytbhbjcgbhklieaa
open Go.RowKit Go.Shelf

def sameF (c c' : Conf) (gi gi' : Int) (live live' quar quar' : List Piece) : Bool :=
  decide (c = c') && (decide (gi = gi') && (Lib.allEq eqP live live' && Lib.allEq eqP quar quar'))

set_option maxRecDepth 100000 in
set_option maxHeartbeats 2000000 in
theorem c33 (c c' : Conf) (lv qv lv' qv' : Value) (gi gi' : Int) (live quar live' quar' : List Piece) (w : World) (hl : Sl 3 encP w lv live) (hq : Sl 3 encP w qv quar) (hl' : Sl 3 encP w lv' live') (hq' : Sl 3 encP w qv' quar')
    (n1 : live.length ≤ 9223372036854775807) (n2 : quar.length ≤ 9223372036854775807) (n3 : live'.length ≤ 9223372036854775807) (n4 : quar'.length ≤ 9223372036854775807) :
    Calls Try.prog 33 #[hAgg c lv qv gi, hAgg c' lv' qv' gi'] w fun e w' => e = .returned (.bool (sameF c c' gi gi' live live' quar quar')) ∧ Below w.heap.size w w' := by
  have e1 := fun W (hW : Below w.heap.size w W) => c22v lv lv' live live' W n1 n3 (hl.below hW) (hl'.below hW)
  have e2 := fun W (hW : Below w.heap.size w W) => c22v qv qv' quar quar' W n2 n4 (hq.below hW) (hq'.below hW)
  obtain ⟨A, ca, rfl, _, _⟩ := hl
  obtain ⟨B, cb, rfl, _, _⟩ := hq
  obtain ⟨A', ca', rfl, _, _⟩ := hl'
  obtain ⟨B', cb', rfl, _, _⟩ := hq'
  obtain ⟨E1, hE1⟩ : ∃ z, Lib.allEq eqP live live' = z := ⟨_, rfl⟩
  obtain ⟨E2, hE2⟩ : ∃ z, Lib.allEq eqP quar quar' = z := ⟨_, rfl⟩
  rw [hE1] at e1
  rw [hE2] at e2
  have HE1 := Lib.hid hE1
  have HE2 := Lib.hid hE2
  have H1 := Lib.hid e1
  have H2 := Lib.hid e2
  generalize live.length = l1 at H1 ⊢
  generalize live'.length = l2 at H1 ⊢
  generalize quar.length = l3 at H2 ⊢
  generalize quar'.length = l4 at H2 ⊢
  clear n1 n2 n3 n4 hE1 hE2 e1 e2
  have hw2 : Below w.heap.size w ((w.alloc (.cells #[.int .i64 c.page, .int .i64 c.n, .int .i64 c.red, .int .i64 c.quarantine, .slice A l1 ca, .slice B l3 cb, .int .i64 gi] 26)).alloc (.cells #[.int .i64 c'.page, .int .i64 c'.n, .int .i64 c'.red, .int .i64 c'.quarantine, .slice A' l2 ca', .slice B' l4 cb', .int .i64 gi'] 26)) := ((Below.refl _ _).alloc (Nat.le_refl _) _).alloc (by simp) _
  have HW2 := Lib.hid hw2
  clear hw2
  by_cases hc : c = c'
  · subst hc
    by_cases hgi : gi = gi'
    · subst hgi
      have hs : sameF c c gi gi live live' quar quar' = (E1 && E2) := by simp [sameF, HE1.out, HE2.out]
      have HS := Lib.hid hs
      clear hs
      go_enter Try.func33, Try.ntmps33
      go_wp2_with fail
      refine gen_worldC (fun W => Below w.heap.size w W ∧ W.heap[w.heap.size]? = some (.cells #[.int .i64 c.page, .int .i64 c.n, .int .i64 c.red, .int .i64 c.quarantine, .slice A l1 ca, .slice B l3 cb, .int .i64 gi] 26 (0, 0)) ∧ W.heap[w.heap.size + 1]? = some (.cells #[.int .i64 c.page, .int .i64 c.n, .int .i64 c.red, .int .i64 c.quarantine, .slice A' l2 ca', .slice B' l4 cb', .int .i64 gi] 26 (0, 0))) ⟨HW2.out, hal_old (hal_new rfl), hal_new (by simp)⟩ ?_
      rintro W3 ⟨hW3, hb0, hb1⟩
      refine Calls.mono (H1.out W3 hW3) ?_
      rintro e w4 ⟨rfl, hB4⟩
      have hB0 := (hB4.block _ (blk_lt hb0)).trans hb0
      have hB1 := (hB4.block _ (blk_lt hb1)).trans hb1
      have q0 := blk_cell hB0 0
      have q1 := blk_cell hB0 1
      have q2 := blk_cell hB0 2
      have q3 := blk_cell hB0 3
      have q4 := blk_cell hB0 4
      have q5 := blk_cell hB0 5
      have q6 := blk_cell hB0 6
      simp only [List.getElem?_toArray, List.getElem?_cons_succ, List.getElem?_cons_zero] at q0 q1 q2 q3 q4 q5 q6
      have r0 := blk_cell hB1 0
      have r1 := blk_cell hB1 1
      have r2 := blk_cell hB1 2
      have r3 := blk_cell hB1 3
      have r4 := blk_cell hB1 4
      have r5 := blk_cell hB1 5
      have r6 := blk_cell hB1 6
      simp only [List.getElem?_toArray, List.getElem?_cons_succ, List.getElem?_cons_zero] at r0 r1 r2 r3 r4 r5 r6
      have HW4 : Hid (Below w.heap.size w w4) := hW3.trans (hB4.mono hW3.size)
      clear hW3 hb0 hb1 hB4 hB0 hB1
      cases E1 with
      | false =>
        go_wp2
        go_ret
        exact ⟨by rw [HS.out]; rfl, HW4.out⟩
      | true =>
        go_wp2_with fail
        refine Calls.mono (H2.out w4 HW4.out) ?_
        rintro e w5 ⟨rfl, hB5⟩
        go_wp2
        go_ret
        exact ⟨by rw [HS.out]; rfl, HW4.out.trans (hB5.mono HW4.out.size)⟩
    · have hs : sameF c c gi gi' live live' quar quar' = false := by simp [sameF, hgi]
      have HS := Lib.hid hs
      clear hs
      go_enter Try.func33, Try.ntmps33
      go_wp2
      go_ret
      exact ⟨by rw [HS.out]; rfl, HW2.out⟩
  · have hs : sameF c c' gi gi' live live' quar quar' = false := by simp [sameF, hc]
    have HS := Lib.hid hs
    clear hs
    obtain ⟨pg, n, rd, qn⟩ := c
    obtain ⟨pg', n', rd', qn'⟩ := c'
    have hc4 : ¬ pg = pg' ∨ ¬ n = n' ∨ ¬ rd = rd' ∨ ¬ qn = qn' := by
      by_cases a1 : pg = pg' <;> by_cases a2 : n = n' <;> by_cases a3 : rd = rd' <;> by_cases a4 : qn = qn' <;> simp_all
    simp only at HW2
    clear hc
    rcases hc4 with h | h | h | h
    all_goals
      go_enter Try.func33, Try.ntmps33
      go_wp2
      go_ret
      exact ⟨by rw [HS.out]; rfl, HW2.out⟩
end Go.Proofs.Ytbhbjcgbhklieaa
