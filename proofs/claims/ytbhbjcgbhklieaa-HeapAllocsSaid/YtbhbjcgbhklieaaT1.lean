/- The specification's copied. -/
import Derived.Test.YtbhbjcgbhklieaaF3
import Derived.Test.YtbhbjcgbhklieaaE10
namespace Go.Proofs.Ytbhbjcgbhklieaa
open Go.RowKit Go.Shelf

set_option maxRecDepth 100000 in
set_option maxHeartbeats 400000 in
theorem c84 (c : Conf) (lv qv : Value) (gi : Int) (live quar : List Piece) (w : World) (hl : Sl 3 encP w lv live) (hq : Sl 3 encP w qv quar) (n1 : live.length ≤ 1000) (n2 : quar.length ≤ 1000) :
    Calls Try.prog 84 #[hAgg c lv qv gi] w fun e w' => Below w.heap.size w w' ∧ ∃ A k B m, e = .returned (hAgg c (.slice A live.length k) (.slice B quar.length m) gi) ∧ Fresh w.heap.size w' (.slice A live.length k) live ∧ Fresh w.heap.size w' (.slice B quar.length m) quar ∧
      w'.ownsRow w.heap.size 38 3 (.slice A live.length k) live.length (live.flatMap encP) ∧ w'.ownsRow w.heap.size 38 3 (.slice B quar.length m) quar.length (quar.flatMap encP) ∧ ∀ g, (Value.slice A live.length k).ownBlock = some g → (Value.slice B quar.length m).ownBlock = some g → False := by
  have hB1 := (below_alloc1 w (.cells #[.int .i64 c.page, .int .i64 c.n, .int .i64 c.red, .int .i64 c.quarantine, lv, qv, .int .i64 gi] 26)).alloc (by simp) (.cells #[.int .i64 0, .int .i64 0, .int .i64 0, .int .i64 0, .slice none 0 0, .slice none 0 0, .int .i64 0] 26)
  obtain ⟨v1, w1, hr1, ho1, hg1⟩ := append_sl (w.heap.size + 2) (.slice none 0 0) [] live lv _ (World.ownsRow_nil _ _ _ _) (hl.below hB1) (by simp) n1 (by simp)
  have hw1 : Below w.heap.size w w1 := hB1.trans (below_of_grown hg1 (by simp; omega) (by simp [Value.ownBlock]))
  have hbx1 : w1.heap[w.heap.size]? = some (.cells #[.int .i64 c.page, .int .i64 c.n, .int .i64 c.red, .int .i64 c.quarantine, lv, qv, .int .i64 gi] 26 (0, 0)) := (hg1.block _ (by simp; omega) (by simp [Value.ownBlock])).trans (hal_old (hal_new rfl))
  have hre1 : w1.heap[w.heap.size + 1]? = some (.cells #[.int .i64 0, .int .i64 0, .int .i64 0, .int .i64 0, .slice none 0 0, .slice none 0 0, .int .i64 0] 26 (0, 0)) := (hg1.block _ (by simp) (by simp [Value.ownBlock])).trans (hal_new (by simp))
  obtain ⟨v2, w2, hr2, ho2, hg2⟩ := append_sl w1.heap.size (.slice none 0 0) [] quar qv w1 (World.ownsRow_nil _ _ _ _) (hq.below hw1) (by simp) n2 (Nat.le_refl _)
  have hw2 : Below w1.heap.size w1 w2 := below_of_grown hg2 (Nat.le_refl _) (by simp [Value.ownBlock])
  have hbx2 := (hw2.block _ (blk_lt hbx1)).trans hbx1
  have hre2 := (hw2.block _ (blk_lt hre1)).trans hre1
  have ho12 : w2.ownsRow (w.heap.size + 2) 38 3 v1 ([] ++ live).length (([] ++ live).flatMap encP) := ⟨ho1.1, ho1.2.imp id fun ⟨g, cap, cur, hv, hb, hg, rest⟩ => ⟨g, cap, cur, hv, hb, (hw2.block g (blk_lt hg)).trans hg, rest⟩⟩
  have ho22 : w2.ownsRow (w.heap.size + 2) 38 3 v2 ([] ++ quar).length (([] ++ quar).flatMap encP) := own_base ho2 (by have := hg1.size; simp at this; omega)
  simp only [List.nil_append] at ho12 ho22
  have HBW : Hid (Below w.heap.size w w2) := hw1.trans (hw2.mono hw1.size)
  obtain ⟨A1, k1, rfl⟩ : ∃ A k, v1 = .slice A live.length k := by obtain ⟨A, c', h, _⟩ := (Fresh.of_own ho12 rfl).sl; exact ⟨A, c', h⟩
  obtain ⟨A2, k2, rfl⟩ : ∃ A k, v2 = .slice A quar.length k := by obtain ⟨A, c', h, _⟩ := (Fresh.of_own ho22 rfl).sl; exact ⟨A, c', h⟩
  have hsep : Hid (∀ g, (Value.slice A1 live.length k1).ownBlock = some g → (Value.slice A2 quar.length k2).ownBlock = some g → False) := fun g h1 h2 => by
    have a := own_lt ho1 g h1
    have b := own_lt ho2 g h2
    omega
  have H1 := Lib.hid ho12
  have H2 := Lib.hid ho22
  have HBX := Lib.hid hbx2
  have HRE := Lib.hid hre2
  have hlt : w.heap.size + 1 < w2.heap.size := blk_lt hre2
  obtain ⟨AA, ca, rfl, _, _⟩ := hl
  obtain ⟨BB, cb, rfl, _, _⟩ := hq
  have p0 := blk_cell hbx1 0
  have p1 := blk_cell hbx1 1
  have p2 := blk_cell hbx1 2
  have p3 := blk_cell hbx1 3
  have p4 := blk_cell hbx1 4
  have p5 := blk_cell hbx1 5
  have p6 := blk_cell hbx1 6
  simp only [List.getElem?_toArray, List.getElem?_cons_succ, List.getElem?_cons_zero] at p0 p1 p2 p3 p4 p5 p6
  have q0 := blk_cell hbx2 0
  have fq0 : w2.frozen? ⟨w.heap.size, 0, none⟩ = false := frozen_of_row _ _ _ _ _ hbx2
  have q1 := blk_cell hbx2 1
  have fq1 : w2.frozen? ⟨w.heap.size, 1, none⟩ = false := frozen_of_row _ _ _ _ _ hbx2
  have q2 := blk_cell hbx2 2
  have fq2 : w2.frozen? ⟨w.heap.size, 2, none⟩ = false := frozen_of_row _ _ _ _ _ hbx2
  have q3 := blk_cell hbx2 3
  have fq3 : w2.frozen? ⟨w.heap.size, 3, none⟩ = false := frozen_of_row _ _ _ _ _ hbx2
  have q4 := blk_cell hbx2 4
  have fq4 : w2.frozen? ⟨w.heap.size, 4, none⟩ = false := frozen_of_row _ _ _ _ _ hbx2
  have q5 := blk_cell hbx2 5
  have fq5 : w2.frozen? ⟨w.heap.size, 5, none⟩ = false := frozen_of_row _ _ _ _ _ hbx2
  have q6 := blk_cell hbx2 6
  have fq6 : w2.frozen? ⟨w.heap.size, 6, none⟩ = false := frozen_of_row _ _ _ _ _ hbx2
  simp only [List.getElem?_toArray, List.getElem?_cons_succ, List.getElem?_cons_zero] at q0 q1 q2 q3 q4 q5 q6
  have z0 := blk_cell hre2 0
  have fz0 : w2.frozen? ⟨w.heap.size + 1, 0, none⟩ = false := frozen_of_row _ _ _ _ _ hre2
  have z1 := blk_cell hre2 1
  have fz1 : w2.frozen? ⟨w.heap.size + 1, 1, none⟩ = false := frozen_of_row _ _ _ _ _ hre2
  have z2 := blk_cell hre2 2
  have fz2 : w2.frozen? ⟨w.heap.size + 1, 2, none⟩ = false := frozen_of_row _ _ _ _ _ hre2
  have z3 := blk_cell hre2 3
  have fz3 : w2.frozen? ⟨w.heap.size + 1, 3, none⟩ = false := frozen_of_row _ _ _ _ _ hre2
  have z4 := blk_cell hre2 4
  have fz4 : w2.frozen? ⟨w.heap.size + 1, 4, none⟩ = false := frozen_of_row _ _ _ _ _ hre2
  have z5 := blk_cell hre2 5
  have fz5 : w2.frozen? ⟨w.heap.size + 1, 5, none⟩ = false := frozen_of_row _ _ _ _ _ hre2
  have z6 := blk_cell hre2 6
  have fz6 : w2.frozen? ⟨w.heap.size + 1, 6, none⟩ = false := frozen_of_row _ _ _ _ _ hre2
  simp only [List.getElem?_toArray, List.getElem?_cons_succ, List.getElem?_cons_zero] at z0 z1 z2 z3 z4 z5 z6
  clear hB1 ho1 hg1 hw1 hbx1 hre1 ho2 hg2 hw2 hbx2 hre2 ho12 ho22
  have HR1 := Lib.hid hr1
  have HR2 := Lib.hid hr2
  clear hr1 hr2
  go_enter Try.func84, Try.ntmps84
  go_wp2_with (first
    | (at_builtin; refine Lib.wpList_append_run _ rfl _ _ _ _ rfl _ _ rfl rfl _ _ HR1.out ?_; clear HR1)
    | (at_builtin; refine Lib.wpList_append_run _ rfl _ _ _ _ rfl _ _ rfl rfl _ _ HR2.out ?_; clear HR2))
  refine gen_worldB (fun W => Below w.heap.size w W ∧ W.heap[w.heap.size + 1]? = some (.cells #[.int .i64 c.page, .int .i64 c.n, .int .i64 c.red, .int .i64 c.quarantine, .slice A1 live.length k1, .slice A2 quar.length k2, .int .i64 gi] 26 (0, 0)) ∧ w2.heap.size ≤ W.heap.size ∧ (∀ j, j < w2.heap.size → w.heap.size + 2 ≤ j → W.heap[j]? = w2.heap[j]?)) ⟨?_, ?_, by simp [World.setCell], fun j hj hne => ?_⟩ ?_
  · repeat' first | refine Below.setCell ?_ (by simp; try omega) _ | exact HBW.out
  · have hre : ((w2.setCell ⟨w.heap.size, 4, none⟩ (.slice A1 live.length k1)).setCell ⟨w.heap.size, 5, none⟩ (.slice A2 quar.length k2)).heap[w.heap.size + 1]? = some (.cells #[.int .i64 0, .int .i64 0, .int .i64 0, .int .i64 0, .slice none 0 0, .slice none 0 0, .int .i64 0] 26 (0, 0)) :=
      (Below.heap_setCell _ _ _ _ (show w.heap.size + 1 ≠ w.heap.size by omega)).trans ((Below.heap_setCell _ _ _ _ (show w.heap.size + 1 ≠ w.heap.size by omega)).trans HRE.out)
    have e1 := row_setCell (o := 0) (.int .i64 c.page) hre
    have e2 := row_setCell (o := 1) (.int .i64 c.n) e1
    have e3 := row_setCell (o := 2) (.int .i64 c.red) e2
    have e4 := row_setCell (o := 3) (.int .i64 c.quarantine) e3
    have e5 := row_setCell (o := 4) (.slice A1 live.length k1) e4
    have e6 := row_setCell (o := 5) (.slice A2 quar.length k2) e5
    have e7 := row_setCell (o := 6) (.int .i64 gi) e6
    simp only [List.setIfInBounds_toArray, List.set_cons_zero, List.set_cons_succ] at e7
    exact e7
  · have hn1 : j ≠ w.heap.size := by omega
    have hn2 : j ≠ w.heap.size + 1 := by omega
    repeat' first | refine Eq.trans (Below.heap_setCell _ _ _ _ hn1) ?_ | refine Eq.trans (Below.heap_setCell _ _ _ _ hn2) ?_ | rfl
  rintro W ⟨t1, t2, t3, t4⟩
  have hk1 : W.ownsRow (w.heap.size + 2) 38 3 (.slice A1 live.length k1) live.length (live.flatMap encP) := ⟨H1.out.1, H1.out.2.imp id fun ⟨g, cap, cur, hv, hb, hg, rest⟩ => ⟨g, cap, cur, hv, hb, (t4 g (blk_lt hg) hb).trans hg, rest⟩⟩
  have hk2 : W.ownsRow (w.heap.size + 2) 38 3 (.slice A2 quar.length k2) quar.length (quar.flatMap encP) := ⟨H2.out.1, H2.out.2.imp id fun ⟨g, cap, cur, hv, hb, hg, rest⟩ => ⟨g, cap, cur, hv, hb, (t4 g (blk_lt hg) hb).trans hg, rest⟩⟩
  have r0 := blk_cell t2 0
  have r1 := blk_cell t2 1
  have r2 := blk_cell t2 2
  have r3 := blk_cell t2 3
  have r4 := blk_cell t2 4
  have r5 := blk_cell t2 5
  have r6 := blk_cell t2 6
  simp only [List.getElem?_toArray, List.getElem?_cons_succ, List.getElem?_cons_zero] at r0 r1 r2 r3 r4 r5 r6
  refine bodyPost_ret (v := hAgg c (.slice A1 live.length k1) (.slice A2 quar.length k2) gi) (by simp [results, Try.results84, go_sem, r0, r1, r2, r3, r4, r5, r6]) rfl ⟨t1, A1, k1, A2, k2, rfl, (Fresh.of_own hk1 rfl).base (by omega), (Fresh.of_own hk2 rfl).base (by omega), own_base hk1 (by omega), own_base hk2 (by omega), hsep.out⟩
end Go.Proofs.Ytbhbjcgbhklieaa
