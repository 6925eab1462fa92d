/- gives, and what a call of Alloc, of Free answers at a heap that is known. -/
import Derived.Test.YtbhbjcgbhklieaaE5
namespace Go.Proofs.Ytbhbjcgbhklieaa
open Go.RowKit Go.Shelf

theorem gen_worldB {P : Program} {fn : Func} {R : Ending → World → Prop} {e : Exit} {a : Act} {w : World} (R0 : World → Prop) (h : R0 w) (k : ∀ W, R0 W → bodyPost P fn R e a W) : bodyPost P fn R e a w := k w h

theorem Fresh.kept {N : Nat} {w W : World} {v : Value} {zs : List Piece} (h : Fresh N w v zs) (hs : w.heap.size ≤ W.heap.size) (hk : ∀ k, k < w.heap.size → N ≤ k → W.heap[k]? = w.heap[k]?) : Fresh N W v zs := by
  obtain ⟨A, c, rfl, hc, hl⟩ := h.sl
  refine ⟨⟨A, c, rfl, hc, hl.imp id fun ⟨b, off, hA, hL⟩ => ⟨b, off, hA, Nat.lt_of_lt_of_le hL.1 hs, fun j hj i u hu => ?_⟩⟩, h.new⟩
  subst hA
  obtain ⟨b', off', e, hb⟩ := h.new _ _ _ rfl
  cases e
  rw [← hL.2 j hj i u hu]
  simp only [World.cell?]
  rw [hk b hL.1 hb]

theorem AllocAns.ok {c : Conf} {gi : Int} {live quar : List Piece} {size : Int} {N : Nat} {e : Ending} {w' : World} (h : AllocAns c gi live quar size N e w') (hg : Good c gi live quar) (h0 : 0 ≤ size) (h1 : size ≤ 65536) {L0 : List Ext} (hp : L0.Perm (items c.red live quar)) (hs : L0.Pairwise (fun x y => x.fr < y.fr)) {v : Int}
    (hv : roomGo c.red size (gapsF c L0) = some v) (hn : live.length ≠ 1000) (hgi : gi ≠ 1073741824) :
    ∃ lv' qv', e = .returned (.tuple #[hAgg c lv' qv' (gi + 1), .int .u32 v, .int .i64 0]) ∧ Fresh N w' lv' (insF live (atI live v) ⟨v, size, gi + 1⟩) ∧ Fresh N w' qv' quar := by
  rcases h with ⟨h, _⟩ | ⟨_, h, _⟩ | ⟨L, hL, _, _, h, _⟩ | ⟨L, v', hL, _, _, hr, _, _, lv', qv', he, h2, h3⟩
  · exact absurd hg h
  · omega
  · have := hL.unique hp hs
    subst this
    rw [hv] at h
    rcases h with h | h | h
    · cases h
    · exact absurd h hn
    · exact absurd h hgi
  · have := hL.unique hp hs
    subst this
    rw [hv] at hr
    cases hr
    exact ⟨lv', qv', he, h2, h3⟩
theorem FreeAns.ok {c : Conf} {gi : Int} {live quar : List Piece} {at_ : Int} {N : Nat} {e : Ending} {w' : World} (h : FreeAns c gi live quar at_ N e w') (hg : Good c gi live quar) (hi : isI live at_ = true) :
    ∃ lv' qv', e = .returned (.tuple #[hAgg c lv' qv' gi, .int .i64 0]) ∧ Fresh N w' lv' (live.eraseIdx (atI live at_)) ∧ Fresh N w' qv' (trimF c.quarantine (quar ++ [live[atI live at_]!])) := by
  rcases h with ⟨h, _⟩ | ⟨_, h, _⟩ | ⟨_, _, h⟩
  · exact absurd hg h
  · rw [hi] at h; cases h
  · exact h

set_option maxRecDepth 100000 in
set_option maxHeartbeats 2000000 in
theorem c57 (c : Conf) (lv qv : Value) (gi : Int) (live quar : List Piece) (size want : Int) (w : World) (hl : Sl 3 encP w lv live) (hq : Sl 3 encP w qv quar) (wl : ∀ p ∈ live, WfP p) (wq : ∀ p ∈ quar, WfP p) (sl : SlShape lv) (sq : SlShape qv)
    (hg : Good c gi live quar) (h0 : 0 ≤ size) (h1 : size ≤ 65536) {L0 : List Ext} (hp : L0.Perm (items c.red live quar)) (hs : L0.Pairwise (fun x y => x.fr < y.fr)) {v : Int}
    (hv : roomGo c.red size (gapsF c L0) = some v) (hn : live.length ≠ 1000) (hgi : gi ≠ 1073741824) :
    Calls Try.prog 57 #[hAgg c lv qv gi, .int .i64 size, .int .u32 want] w fun e w' => Below w.heap.size w w' ∧ ∃ lv' qv', e = .returned (.tuple #[hAgg c lv' qv' (gi + 1), .bool (decide (v = want))]) ∧ Fresh w.heap.size w' lv' (insF live (atI live v) ⟨v, size, gi + 1⟩) ∧ Fresh w.heap.size w' qv' quar := by
  have hw1 := (below_alloc1 w (.cells #[.int .i64 c.page, .int .i64 c.n, .int .i64 c.red, .int .i64 c.quarantine, lv, qv, .int .i64 gi] 26)).alloc (by simp) (.cells #[.int .i64 0, .int .i64 0, .int .i64 0, .int .i64 0, .slice none 0 0, .slice none 0 0, .int .i64 0] 26)
  have hcall := c23 c lv qv gi live quar size _ (hl.below hw1) (hq.below hw1) wl wq sl sq
  have HW1 := Lib.hid hw1
  clear hw1 hl hq wl wq sl sq
  have HOK := fun (N : Nat) (e : Ending) (w' : World) (h : AllocAns c gi live quar size N e w') => h.ok hg h0 h1 hp hs hv hn hgi
  have HOK := Lib.hid HOK
  clear hg hp hs hv hn hgi
  go_enter Try.func57, Try.ntmps57
  go_wp2_with fail
  refine hcall.mono ?_
  clear hcall
  rintro e w1 ⟨hB, ha⟩
  obtain ⟨lv', qv', rfl, fr1, fr2⟩ := HOK.out _ _ _ ha
  have hb1 : w1.heap[w.heap.size + 1]? = some (.cells #[.int .i64 0, .int .i64 0, .int .i64 0, .int .i64 0, .slice none 0 0, .slice none 0 0, .int .i64 0] 26 (0, 0)) := (hB.block _ (by simp)).trans (hal_new (by simp))
  have hBw : Below w.heap.size w w1 := HW1.out.trans (hB.mono (by simp; try omega))
  have hsz : w.heap.size + 2 ≤ w1.heap.size := by have := hB.size; simpa using this
  simp only [World.size_alloc] at fr1 fr2
  obtain ⟨A1, n1, k1, e1⟩ : ∃ A n k, lv' = .slice A n k := by obtain ⟨A, c', h, _⟩ := fr1.sl; exact ⟨A, _, c', h⟩
  obtain ⟨A2, n2, k2, e2⟩ : ∃ A n k, qv' = .slice A n k := by obtain ⟨A, c', h, _⟩ := fr2.sl; exact ⟨A, _, c', h⟩
  subst e1; subst e2
  have F1 := Lib.hid fr1
  have F2 := Lib.hid fr2
  have HBW := Lib.hid hBw
  have q0 := blk_cell hb1 0
  have f0 : w1.frozen? ⟨w.heap.size + 1, 0, none⟩ = false := frozen_of_row _ _ _ _ _ hb1
  have q1 := blk_cell hb1 1
  have f1 : w1.frozen? ⟨w.heap.size + 1, 1, none⟩ = false := frozen_of_row _ _ _ _ _ hb1
  have q2 := blk_cell hb1 2
  have f2 : w1.frozen? ⟨w.heap.size + 1, 2, none⟩ = false := frozen_of_row _ _ _ _ _ hb1
  have q3 := blk_cell hb1 3
  have f3 : w1.frozen? ⟨w.heap.size + 1, 3, none⟩ = false := frozen_of_row _ _ _ _ _ hb1
  have q4 := blk_cell hb1 4
  have f4 : w1.frozen? ⟨w.heap.size + 1, 4, none⟩ = false := frozen_of_row _ _ _ _ _ hb1
  have q5 := blk_cell hb1 5
  have f5 : w1.frozen? ⟨w.heap.size + 1, 5, none⟩ = false := frozen_of_row _ _ _ _ _ hb1
  have q6 := blk_cell hb1 6
  have f6 : w1.frozen? ⟨w.heap.size + 1, 6, none⟩ = false := frozen_of_row _ _ _ _ _ hb1
  simp only [List.getElem?_toArray, List.getElem?_cons_succ, List.getElem?_cons_zero] at q0 q1 q2 q3 q4 q5 q6
  have HB1 := Lib.hid hb1
  have hlt1 : w.heap.size + 1 < w1.heap.size := by omega
  clear ha hB fr1 fr2 hBw hb1
  by_cases hvw : v = want
  all_goals go_wp2
  all_goals
    refine gen_worldB (fun W => Below w.heap.size w W ∧ W.heap[w.heap.size + 1]? = some (.cells #[.int .i64 c.page, .int .i64 c.n, .int .i64 c.red, .int .i64 c.quarantine, .slice A1 n1 k1, .slice A2 n2 k2, .int .i64 (gi + 1)] 26 (0, 0)) ∧ w1.heap.size ≤ W.heap.size ∧ (∀ k, k < w1.heap.size → w.heap.size + 1 + 1 ≤ k → W.heap[k]? = w1.heap[k]?)) ⟨Below.alloc ?_ (by simp; omega) _, hal_old ?_, by simp; try omega, fun k hk hne => ?_⟩ ?_
    · repeat' first | refine Below.setCell ?_ (by simp) _ | exact HBW.out
    · have e1 := row_setCell (o := 0) (.int .i64 c.page) HB1.out
      have e2 := row_setCell (o := 1) (.int .i64 c.n) e1
      have e3 := row_setCell (o := 2) (.int .i64 c.red) e2
      have e4 := row_setCell (o := 3) (.int .i64 c.quarantine) e3
      have e5 := row_setCell (o := 4) (.slice A1 n1 k1) e4
      have e6 := row_setCell (o := 5) (.slice A2 n2 k2) e5
      have e7 := row_setCell (o := 6) (.int .i64 (gi + 1)) e6
      simp only [List.setIfInBounds_toArray, List.set_cons_zero, List.set_cons_succ] at e7
      exact e7
    · refine (Below.heap_alloc _ _ k (by simp; exact hk)).trans ?_
      have hne1 : k ≠ w.heap.size + 1 := by omega
      repeat' first | refine Eq.trans (Below.heap_setCell _ _ _ _ hne1) ?_ | rfl
    rintro W ⟨t1, t2, t3, t4⟩
    have r0 := blk_cell t2 0
    have r1 := blk_cell t2 1
    have r2 := blk_cell t2 2
    have r3 := blk_cell t2 3
    have r4 := blk_cell t2 4
    have r5 := blk_cell t2 5
    have r6 := blk_cell t2 6
    simp only [List.getElem?_toArray, List.getElem?_cons_succ, List.getElem?_cons_zero] at r0 r1 r2 r3 r4 r5 r6
    refine bodyPost_ret (v := .tuple #[hAgg c (.slice A1 n1 k1) (.slice A2 n2 k2) (gi + 1), .bool (decide (v = want))]) (by simp [results, Try.results57, go_sem, hvw, r0, r1, r2, r3, r4, r5, r6]) rfl ⟨t1, _, _, rfl, ?_, ?_⟩
    · exact (F1.out.kept t3 t4).base (by omega)
    · exact (F2.out.kept t3 t4).base (by omega)
end Go.Proofs.Ytbhbjcgbhklieaa
