/- HeapChecks: the walk. -/
import Derived.Test.YtbhbjcgbhklieaaE12
import Derived.Test.YtbhbjcgbhklieaaN1
import Derived.Test.YtbhbjcgbhklieaaN3
import Derived.Test.YtbhbjcgbhklieaaN5
import Derived.Test.YtbhbjcgbhklieaaF3
import Derived.Test.YtbhbjcgbhklieaaR2
import Derived.BigQuiet
namespace Go.Proofs.Ytbhbjcgbhklieaa
open Go.RowKit Go.Shelf

theorem allEq_self : ∀ (xs : List Piece), Lib.allEq eqP xs xs = true
  | [] => rfl
  | x :: xs => by simp [Lib.allEq, eqP, allEq_self xs]
theorem sl_nilP (w : World) : Sl 3 encP w (.slice none 0 0) [] := ⟨none, 0, rfl, Nat.le_refl _, .inl rfl⟩

theorem new_both (d : Conf) : ∃ (dd : Conf) (ev : Int), (∀ W, Calls Try.prog 30 #[.agg #[.int .i64 d.page, .int .i64 d.n, .int .i64 d.red, .int .i64 d.quarantine]] W fun e w' => e = .returned (.tuple #[hAgg dd (.slice none 0 0) (.slice none 0 0) 0, .int .i64 ev]) ∧ Below W.heap.size W w') ∧
    (∀ W, Calls Try.prog 31 #[.agg #[.int .i64 d.page, .int .i64 d.n, .int .i64 d.red, .int .i64 d.quarantine]] W fun e w' => e = .returned (.tuple #[hAgg dd (.slice none 0 0) (.slice none 0 0) 0, .int .i64 ev]) ∧ Below W.heap.size W w') := by
  cases hok : okConf d with
  | true =>
    refine ⟨d, 0, fun W => (c30 d W).mono ?_, fun W => (c31 d W).mono ?_⟩ <;> rintro e w' ⟨hB, ⟨h, rfl⟩ | ⟨h, rfl⟩⟩
    · rw [hok] at h; cases h
    · exact ⟨rfl, hB⟩
    · rw [hok] at h; cases h
    · exact ⟨rfl, hB⟩
  | false =>
    refine ⟨⟨0, 0, 0, 0⟩, 1, fun W => (c30 d W).mono ?_, fun W => (c31 d W).mono ?_⟩ <;> rintro e w' ⟨hB, ⟨h, rfl⟩ | ⟨h, rfl⟩⟩
    · exact ⟨rfl, hB⟩
    · rw [hok] at h; cases h
    · exact ⟨rfl, hB⟩
    · rw [hok] at h; cases h
theorem check_both (c : Conf) (lv qv : Value) (gi : Int) (live quar : List Piece) (w : World) (hl : Sl 3 encP w lv live) (hq : Sl 3 encP w qv quar) (wl : ∀ p ∈ live, WfP p) (wq : ∀ p ∈ quar, WfP p) :
    ∃ cv : Int, (∀ W, Below w.heap.size w W → Calls Try.prog 20 #[hAgg c lv qv gi] W fun e w' => e = .returned (.int .i64 cv) ∧ Below W.heap.size W w') ∧
      (∀ W, Below w.heap.size w W → Calls Try.prog 32 #[hAgg c lv qv gi] W fun e w' => e = .returned (.int .i64 cv) ∧ Below W.heap.size W w') := by
  have hi := good_iff (c := c) (gi := gi) wl wq
  by_cases hg : GoodP c gi live quar
  · refine ⟨0, fun W hW => (c20 c lv qv gi live quar W (hl.below hW) (hq.below hW) wl wq).mono ?_, fun W hW => (c32 c lv qv gi live quar W (hl.below hW) (hq.below hW) wl wq).mono ?_⟩ <;> rintro e w' ⟨hB, ⟨h, rfl⟩ | ⟨h, rfl⟩⟩
    · exact absurd (hi.2 hg) h
    · exact ⟨rfl, hB⟩
    · exact absurd hg h
    · exact ⟨rfl, hB⟩
  · refine ⟨60, fun W hW => (c20 c lv qv gi live quar W (hl.below hW) (hq.below hW) wl wq).mono ?_, fun W hW => (c32 c lv qv gi live quar W (hl.below hW) (hq.below hW) wl wq).mono ?_⟩ <;> rintro e w' ⟨hB, ⟨h, rfl⟩ | ⟨h, rfl⟩⟩
    · exact ⟨rfl, hB⟩
    · exact absurd (hi.1 h) hg
    · exact ⟨rfl, hB⟩
    · exact absurd h hg

set_option maxRecDepth 100000 in
set_option maxHeartbeats 4000000 in
theorem c7 (c : Conf) (lv qv : Value) (gi : Int) (live quar : List Piece) (c' : Conf) (lv' qv' : Value) (gi' : Int) (live' quar' : List Piece) (d : Conf) (w : World) (hin : HeapIn w c lv qv gi live quar) (hin' : HeapIn w c' lv' qv' gi' live' quar') :
    Calls Try.prog 7 #[hAgg c lv qv gi, hAgg c' lv' qv' gi', .agg #[.int .i64 d.page, .int .i64 d.n, .int .i64 d.red, .int .i64 d.quarantine]] w fun e w' => e = .returned (.bool true) ∧ Below w.heap.size w w' := by
  obtain ⟨cv, k20, k32⟩ := check_both c lv qv gi live quar w hin.hl hin.hq (fun p hp => (hin.wl p hp).1) (fun p hp => (hin.wq p hp).1)
  obtain ⟨dd, ev, k30, k31⟩ := new_both d
  have k33 := fun W (hW : Below w.heap.size w W) => c33 c c' lv qv lv' qv' gi gi' live quar live' quar' W (hin.hl.below hW) (hin.hq.below hW) (hin'.hl.below hW) (hin'.hq.below hW) hin.nl hin.nq hin'.nl hin'.nq
  have k34 := fun W (hW : Below w.heap.size w W) => c34 c c' lv qv lv' qv' gi gi' live quar live' quar' W (hin.hl.below hW) (hin.hq.below hW) (hin'.hl.below hW) (hin'.hq.below hW) hin.nl hin.nq hin'.nl hin'.nq
  have k33s := fun W (hW : Below w.heap.size w W) => c33 c c lv qv lv qv gi gi live quar live quar W (hin.hl.below hW) (hin.hq.below hW) (hin.hl.below hW) (hin.hq.below hW) hin.nl hin.nq hin.nl hin.nq
  have k34s := fun W => c34 dd dd (.slice none 0 0) (.slice none 0 0) (.slice none 0 0) (.slice none 0 0) 0 0 [] [] [] [] W (sl_nilP W) (sl_nilP W) (sl_nilP W) (sl_nilP W) (by simp) (by simp) (by simp) (by simp)
  rw [show sameF c c gi gi live live quar quar = true by simp [sameF, allEq_self]] at k33s
  rw [show sameF dd dd 0 0 [] [] [] [] = true by simp [sameF, Lib.allEq]] at k34s
  obtain ⟨s, hs⟩ : ∃ s, sameF c c' gi gi' live live' quar quar' = s := ⟨_, rfl⟩
  rw [hs] at k33 k34
  clear hs
  have K20 := Lib.hid k20
  have K32 := Lib.hid k32
  have K30 := Lib.hid k30
  have K31 := Lib.hid k31
  have K33 := Lib.hid k33
  have K34 := Lib.hid k34
  have K33S := Lib.hid k33s
  have K34S := Lib.hid k34s
  clear k20 k32 k30 k31 k33 k34 k33s k34s
  obtain ⟨A, ca, rfl, _, _⟩ := id hin.hl
  obtain ⟨B, cb, rfl, _, _⟩ := id hin.hq
  obtain ⟨A', ca', rfl, _, _⟩ := id hin'.hl
  obtain ⟨B', cb', rfl, _, _⟩ := id hin'.hq
  clear hin hin'
  generalize live.length = n1 at *
  generalize quar.length = n2 at *
  generalize live'.length = n3 at *
  generalize quar'.length = n4 at *
  go_enter Try.func7, Try.ntmps7
  go_wp2_with fail
  refine Calls.mono (c16 _) ?_
  rintro e w1 ⟨rfl, hB1⟩
  have hb0 : w1.heap[w.heap.size]? = some (.cells #[.int .i64 c.page, .int .i64 c.n, .int .i64 c.red, .int .i64 c.quarantine, .slice A n1 ca, .slice B n2 cb, .int .i64 gi] 26 (0, 0)) := (hB1.block _ (by simp; try omega)).trans (hal_old (hal_old (hal_new rfl)))
  have hb1 : w1.heap[w.heap.size + 1]? = some (.cells #[.int .i64 c'.page, .int .i64 c'.n, .int .i64 c'.red, .int .i64 c'.quarantine, .slice A' n3 ca', .slice B' n4 cb', .int .i64 gi'] 26 (0, 0)) := (hB1.block _ (by simp; try omega)).trans (hal_old (hal_new (by simp)))
  have hb2 : w1.heap[w.heap.size + 2]? = some (.cells #[.int .i64 d.page, .int .i64 d.n, .int .i64 d.red, .int .i64 d.quarantine] 23 (0, 0)) := (hB1.block _ (by simp; try omega)).trans (hal_new (by simp))
  have hBw : Below w.heap.size w w1 := ((((Below.refl _ _).alloc (Nat.le_refl _) _).alloc (by simp; try omega) _).alloc (by simp; try omega) _).trans (hB1.mono (by simp; try omega))
  have q0 := blk_cell hb0 0
  have q1 := blk_cell hb0 1
  have q2 := blk_cell hb0 2
  have q3 := blk_cell hb0 3
  have q4 := blk_cell hb0 4
  have q5 := blk_cell hb0 5
  have q6 := blk_cell hb0 6
  simp only [List.getElem?_toArray, List.getElem?_cons_succ, List.getElem?_cons_zero] at q0 q1 q2 q3 q4 q5 q6
  have r0 := blk_cell hb1 0
  have r1 := blk_cell hb1 1
  have r2 := blk_cell hb1 2
  have r3 := blk_cell hb1 3
  have r4 := blk_cell hb1 4
  have r5 := blk_cell hb1 5
  have r6 := blk_cell hb1 6
  simp only [List.getElem?_toArray, List.getElem?_cons_succ, List.getElem?_cons_zero] at r0 r1 r2 r3 r4 r5 r6
  have HB0 := Lib.hid hb0
  have HB1 := Lib.hid hb1
  have HB2 := Lib.hid hb2
  have HBW := Lib.hid hBw
  have hlt0 : w.heap.size + 2 < w1.heap.size := blk_lt hb2
  clear hB1 hBw hb0 hb1 hb2
  go_wp2_with fail
  refine Calls.mono (c17_2 w1.heap.size c c' A B A' B' n1 ca n2 cb n3 ca' n4 cb' gi gi' _ (hal_new rfl)) ?_
  rintro e w2 ⟨rfl, hB2⟩
  have HBW2 : Hid (Below w.heap.size w w2) := HBW.out.trans (((below_alloc1 w1 _).mono (by omega)).trans (hB2.mono (by simp; omega)))
  have HB12 : Hid (Below w1.heap.size w1 w2) := (below_alloc1 w1 _).trans (hB2.mono (by simp))
  clear q0 q1 q2 q3 q4 q5 q6
  clear r0 r1 r2 r3 r4 r5 r6
  clear hB2
  have hlt2 : w1.heap.size ≤ w2.heap.size := HB12.out.size
  have hb22 := (HB12.out.block _ hlt0).trans HB2.out
  have q0 := blk_cell hb22 0
  have q1 := blk_cell hb22 1
  have q2 := blk_cell hb22 2
  have q3 := blk_cell hb22 3
  simp only [List.getElem?_toArray, List.getElem?_cons_succ, List.getElem?_cons_zero] at q0 q1 q2 q3
  clear hb22
  cases hmf : (manyF n1 n2 || manyF n3 n4) with
  | true =>
    go_wp2
    go_ret
    exact ⟨rfl, HBW2.out⟩
  | false =>
    go_wp2_with fail
    refine Calls.mono (K30.out _) ?_
    rintro e w3 ⟨rfl, hB3⟩
    have HBW3 : Hid (Below w.heap.size w w3) := HBW2.out.trans (hB3.mono HBW2.out.size)
    have HB13 : Hid (Below w1.heap.size w1 w3) := HB12.out.trans (hB3.mono HB12.out.size)
    have hlt3 : w1.heap.size ≤ w3.heap.size := HB13.out.size
    have hlt33 : w.heap.size + 2 < w3.heap.size := by omega
    have hlt34 : w.heap.size + 1 + 1 < w3.heap.size := by omega
    clear q0 q1 q2 q3
    clear hB3
    have hb23 := (HB13.out.block _ hlt0).trans HB2.out
    have q0 := blk_cell hb23 0
    have q1 := blk_cell hb23 1
    have q2 := blk_cell hb23 2
    have q3 := blk_cell hb23 3
    simp only [List.getElem?_toArray, List.getElem?_cons_succ, List.getElem?_cons_zero] at q0 q1 q2 q3
    clear hb23
    go_wp2_with fail
    refine Calls.mono (K31.out _) ?_
    rintro e w4 ⟨rfl, hB4⟩
    have HB7 : Hid (w4.heap[w3.heap.size]? = some (.cells #[.int .i64 dd.page, .int .i64 dd.n, .int .i64 dd.red, .int .i64 dd.quarantine, .slice none 0 0, .slice none 0 0, .int .i64 0] 26 (0, 0))) := (hB4.block _ (by simp)).trans (hal_new rfl)
    have HBW4 : Hid (Below w.heap.size w w4) := HBW3.out.trans (((below_alloc1 w3 _).mono HBW3.out.size).trans (hB4.mono (by simp; have := HBW3.out.size; omega)))
    have HB14 : Hid (Below w1.heap.size w1 w4) := HB13.out.trans (((below_alloc1 w3 _).mono HB13.out.size).trans (hB4.mono (by simp; omega)))
    clear q0 q1 q2 q3
    clear hB4
    go_wp2
    refine gen_worldP (fun W => Below w.heap.size w W ∧ Below w1.heap.size w1 W ∧ W.heap[w3.heap.size]? = some (.cells #[.int .i64 dd.page, .int .i64 dd.n, .int .i64 dd.red, .int .i64 dd.quarantine, .slice none 0 0, .slice none 0 0, .int .i64 0] 26 (0, 0)) ∧ W.heap[w4.heap.size]? = some (.cells #[.int .i64 dd.page, .int .i64 dd.n, .int .i64 dd.red, .int .i64 dd.quarantine, .slice none 0 0, .slice none 0 0, .int .i64 0] 26 (0, 0))) ⟨HBW4.out.trans ((below_alloc1 w4 _).mono HBW4.out.size), HB14.out.trans ((below_alloc1 w4 _).mono HB14.out.size), hal_old HB7.out, hal_new rfl⟩ ?_
    rintro W ⟨u1, u2, u3, u4⟩
    have v0 := (u2.block _ (by omega)).trans HB0.out
    have v1 := (u2.block _ (by omega)).trans HB1.out
    have y0 : ∀ d os, (far W d os).cell? ⟨w.heap.size, 0, none⟩ = some (.int .i64 c.page) := far_cell (blk_lt v0) (blk_cell v0 0)
    have y1 : ∀ d os, (far W d os).cell? ⟨w.heap.size, 1, none⟩ = some (.int .i64 c.n) := far_cell (blk_lt v0) (blk_cell v0 1)
    have y2 : ∀ d os, (far W d os).cell? ⟨w.heap.size, 2, none⟩ = some (.int .i64 c.red) := far_cell (blk_lt v0) (blk_cell v0 2)
    have y3 : ∀ d os, (far W d os).cell? ⟨w.heap.size, 3, none⟩ = some (.int .i64 c.quarantine) := far_cell (blk_lt v0) (blk_cell v0 3)
    have y4 : ∀ d os, (far W d os).cell? ⟨w.heap.size, 4, none⟩ = some (.slice A n1 ca) := far_cell (blk_lt v0) (blk_cell v0 4)
    have y5 : ∀ d os, (far W d os).cell? ⟨w.heap.size, 5, none⟩ = some (.slice B n2 cb) := far_cell (blk_lt v0) (blk_cell v0 5)
    have y6 : ∀ d os, (far W d os).cell? ⟨w.heap.size, 6, none⟩ = some (.int .i64 gi) := far_cell (blk_lt v0) (blk_cell v0 6)
    have z0 : ∀ d os, (far W d os).cell? ⟨w.heap.size + 1, 0, none⟩ = some (.int .i64 c'.page) := far_cell (blk_lt v1) (blk_cell v1 0)
    have z1 : ∀ d os, (far W d os).cell? ⟨w.heap.size + 1, 1, none⟩ = some (.int .i64 c'.n) := far_cell (blk_lt v1) (blk_cell v1 1)
    have z2 : ∀ d os, (far W d os).cell? ⟨w.heap.size + 1, 2, none⟩ = some (.int .i64 c'.red) := far_cell (blk_lt v1) (blk_cell v1 2)
    have z3 : ∀ d os, (far W d os).cell? ⟨w.heap.size + 1, 3, none⟩ = some (.int .i64 c'.quarantine) := far_cell (blk_lt v1) (blk_cell v1 3)
    have z4 : ∀ d os, (far W d os).cell? ⟨w.heap.size + 1, 4, none⟩ = some (.slice A' n3 ca') := far_cell (blk_lt v1) (blk_cell v1 4)
    have z5 : ∀ d os, (far W d os).cell? ⟨w.heap.size + 1, 5, none⟩ = some (.slice B' n4 cb') := far_cell (blk_lt v1) (blk_cell v1 5)
    have z6 : ∀ d os, (far W d os).cell? ⟨w.heap.size + 1, 6, none⟩ = some (.int .i64 gi') := far_cell (blk_lt v1) (blk_cell v1 6)
    have x0 : ∀ d os, (far W d os).cell? ⟨w3.heap.size, 0, none⟩ = some (.int .i64 dd.page) := far_cell (blk_lt u3) (blk_cell u3 0)
    have x1 : ∀ d os, (far W d os).cell? ⟨w3.heap.size, 1, none⟩ = some (.int .i64 dd.n) := far_cell (blk_lt u3) (blk_cell u3 1)
    have x2 : ∀ d os, (far W d os).cell? ⟨w3.heap.size, 2, none⟩ = some (.int .i64 dd.red) := far_cell (blk_lt u3) (blk_cell u3 2)
    have x3 : ∀ d os, (far W d os).cell? ⟨w3.heap.size, 3, none⟩ = some (.int .i64 dd.quarantine) := far_cell (blk_lt u3) (blk_cell u3 3)
    have x4 : ∀ d os, (far W d os).cell? ⟨w3.heap.size, 4, none⟩ = some (.slice none 0 0) := far_cell (blk_lt u3) (blk_cell u3 4)
    have x5 : ∀ d os, (far W d os).cell? ⟨w3.heap.size, 5, none⟩ = some (.slice none 0 0) := far_cell (blk_lt u3) (blk_cell u3 5)
    have x6 : ∀ d os, (far W d os).cell? ⟨w3.heap.size, 6, none⟩ = some (.int .i64 0) := far_cell (blk_lt u3) (blk_cell u3 6)
    have p0 : ∀ d os, (far W d os).cell? ⟨w4.heap.size, 0, none⟩ = some (.int .i64 dd.page) := far_cell (blk_lt u4) (blk_cell u4 0)
    have p1 : ∀ d os, (far W d os).cell? ⟨w4.heap.size, 1, none⟩ = some (.int .i64 dd.n) := far_cell (blk_lt u4) (blk_cell u4 1)
    have p2 : ∀ d os, (far W d os).cell? ⟨w4.heap.size, 2, none⟩ = some (.int .i64 dd.red) := far_cell (blk_lt u4) (blk_cell u4 2)
    have p3 : ∀ d os, (far W d os).cell? ⟨w4.heap.size, 3, none⟩ = some (.int .i64 dd.quarantine) := far_cell (blk_lt u4) (blk_cell u4 3)
    have p4 : ∀ d os, (far W d os).cell? ⟨w4.heap.size, 4, none⟩ = some (.slice none 0 0) := far_cell (blk_lt u4) (blk_cell u4 4)
    have p5 : ∀ d os, (far W d os).cell? ⟨w4.heap.size, 5, none⟩ = some (.slice none 0 0) := far_cell (blk_lt u4) (blk_cell u4 5)
    have p6 : ∀ d os, (far W d os).cell? ⟨w4.heap.size, 6, none⟩ = some (.int .i64 0) := far_cell (blk_lt u4) (blk_cell u4 6)
    have hmx : Try.prog.follows .mixedOrders = true := by kernel_rfl
    have j20 := fun dn os => Calls.far_of (K20.out (far W dn os) (u1.trans ((below_far W dn os).mono u1.size)))
    have j32 := fun dn os => Calls.far_of (K32.out (far W dn os) (u1.trans ((below_far W dn os).mono u1.size)))
    have j33 := fun dn os => Calls.far_of (K33.out (far W dn os) (u1.trans ((below_far W dn os).mono u1.size)))
    have j34 := fun dn os => Calls.far_of (K34.out (far W dn os) (u1.trans ((below_far W dn os).mono u1.size)))
    have j33s := fun dn os => Calls.far_of (K33S.out (far W dn os) (u1.trans ((below_far W dn os).mono u1.size)))
    have j34s := fun dn os => Calls.far_of (K34S.out (far W dn os))
    have J20 := Lib.hid j20
    have J32 := Lib.hid j32
    have J33 := Lib.hid j33
    have J34 := Lib.hid j34
    have J33S := Lib.hid j33s
    have J34S := Lib.hid j34s
    have U1 := Lib.hid u1
    clear j20 j32 j33 j34 j33s j34s u1 u2 u3 u4 v0 v1
    cases s
    all_goals
      refine wp_region_far hmx (by kernel_rfl) ?_
      repeat (go_big_quiet_step ((first | (go_at_call 20; exact J20.out _ _) | (go_at_call 32; exact J32.out _ _) | (go_at_call 33; first | with_reducible exact J33.out _ _ | with_reducible exact J33S.out _ _) | (go_at_call 34; first | with_reducible exact J34.out _ _ | with_reducible exact J34S.out _ _))))
      refine wpQuiet_nil ?_
      intro _ hw'
      obtain ⟨⟨d', os'⟩, hw''⟩ := hw'
      subst hw''
      go_wp2
      go_ret
      exact ⟨rfl, U1.out.trans ((below_far W d' os').mono U1.out.size)⟩
end Go.Proofs.Ytbhbjcgbhklieaa
