/- A good heap's sorted list; the specification's look-ups at a heap that is not good. -/
import Derived.Test.YtbhbjcgbhklieaaP1
import Derived.Test.YtbhbjcgbhklieaaF4
namespace Go.Proofs.Ytbhbjcgbhklieaa
open Go.RowKit Go.Shelf

theorem items_ne {c : Conf} {gi : Int} {live quar : List Piece} (g : GoodP c gi live quar) (wl : ∀ p ∈ live, WfP p) (wq : ∀ p ∈ quar, WfP p) : ∀ x ∈ items c.red live quar, x.fr < x.to := by
  obtain ⟨⟨r0, r1⟩, hw⟩ := good_wf g wl wq
  intro x hm
  rcases List.mem_append.1 hm with hm | hm
  · obtain ⟨j, hj, rfl⟩ := items_ix _ _ _ _ _ hm
    obtain ⟨w1, w2, w3⟩ := hw live[j]! (List.mem_append_left _ (by rw [getElem!_pos live j hj]; exact List.getElem_mem hj))
    have e := mkE_ne c.red r0 r1 false (0 + j) live[j]! w1 w2 w3
    rw [e.1, e.2]; omega
  · obtain ⟨j, hj, rfl⟩ := items_ix _ _ _ _ _ hm
    obtain ⟨w1, w2, w3⟩ := hw quar[j]! (List.mem_append_right _ (by rw [getElem!_pos quar j hj]; exact List.getElem_mem hj))
    have e := mkE_ne c.red r0 r1 true (0 + j) quar[j]! w1 w2 w3
    rw [e.1, e.2]; omega
theorem good_op {c : Conf} {gi : Int} {live quar : List Piece} (g : Good c gi live quar) (wl : ∀ p ∈ live, WfP p) (wq : ∀ p ∈ quar, WfP p) : ∃ L, Op c gi live quar L := by
  have gp := (good_iff wl wq).1 g
  have hne := items_ne gp wl wq
  obtain ⟨L, hL⟩ : ∃ L, (items c.red live quar).mergeSort (fun x y => decide (x.fr ≤ y.fr)) = L := ⟨_, rfl⟩
  have hp : L.Perm (items c.red live quar) := hL ▸ List.mergeSort_perm _ _
  have hpw : L.Pairwise (fun x y => x.fr ≤ y.fr) := by
    have h := List.pairwise_mergeSort (le := fun x y : Ext => decide (x.fr ≤ y.fr)) (by intro a b d h1 h2; simp only [decide_eq_true_eq] at *; omega) (by intro a b; simp only [Bool.or_eq_true, decide_eq_true_eq]; omega) (items c.red live quar)
    rw [hL] at h
    exact h.imp (fun h => by simpa using h)
  have hs : SortedFr L := fun i j hij hj => by
    rw [List.pairwise_iff_getElem] at hpw
    have := hpw i j (by omega) hj hij
    rwa [getElem!_pos L i (by omega), getElem!_pos L j hj]
  have ha : Adj L := (adj_iff L (fun x hx => hne x (hp.mem_iff.1 hx)) hs).2 (g.dj.perm hp.symm (fun {x y} h => h.symm))
  obtain ⟨k1, k2, k3, k4⟩ := good_list g wl wq hp hs ha
  exact ⟨L, ⟨g, hp, hs, ha, k1, k2, k3, k4⟩⟩

set_option maxRecDepth 100000 in
set_option maxHeartbeats 1000000 in
theorem c38_no (c : Conf) (lv qv : Value) (gi : Int) (live quar : List Piece) (at_ : Int) (w : World) (hl : Sl 3 encP w lv live) (hq : Sl 3 encP w qv quar) (wl : ∀ p ∈ live, WfP p) (wq : ∀ p ∈ quar, WfP p) (hng : ¬ GoodP c gi live quar) :
    Calls Try.prog 38 #[hAgg c lv qv gi, .int .u32 at_] w fun e w' => e = .returned (.agg #[.int .i64 0, .int .i64 0, .int .i64 0]) ∧ Below w.heap.size w w' := by
  have hB : Below w.heap.size w ((w.alloc (.cells #[.int .i64 c.page, .int .i64 c.n, .int .i64 c.red, .int .i64 c.quarantine, lv, qv, .int .i64 gi] 26)).alloc (.cells #[.int .i64 0, .int .i64 0, .int .i64 0] 48)) := (below_alloc1 w _).alloc (by simp) _
  have h := c18 c lv qv gi live quar _ (hl.below hB) (hq.below hB) wl wq
  have H := Lib.hid h
  have HB := Lib.hid hB
  have HNG := Lib.hid hng
  obtain ⟨A, ca, rfl, _, _⟩ := hl
  obtain ⟨B, cb, rfl, _, _⟩ := hq
  clear h hB wl wq hng
  go_enter Try.func38, Try.ntmps38
  go_wp2_with fail
  refine Calls.mono H.out ?_
  clear H
  rintro e w1 ⟨hB1, ⟨hg, rfl⟩ | ⟨hg, rfl⟩⟩
  rotate_left
  · exact absurd hg HNG.out
  have hb1 : w1.heap[w.heap.size + 1]? = some (.cells #[.int .i64 0, .int .i64 0, .int .i64 0] 48 (0, 0)) := (hB1.block _ (by simp)).trans (hal_new (by simp))
  have z0 := blk_cell hb1 0
  have fz0 : w1.frozen? ⟨w.heap.size + 1, 0, none⟩ = false := frozen_of_row _ _ _ _ _ hb1
  have z1 := blk_cell hb1 1
  have fz1 : w1.frozen? ⟨w.heap.size + 1, 1, none⟩ = false := frozen_of_row _ _ _ _ _ hb1
  have z2 := blk_cell hb1 2
  have fz2 : w1.frozen? ⟨w.heap.size + 1, 2, none⟩ = false := frozen_of_row _ _ _ _ _ hb1
  simp only [List.getElem?_toArray, List.getElem?_cons_succ, List.getElem?_cons_zero] at z0 z1 z2
  have hlt : w.heap.size + 1 < w1.heap.size := blk_lt hb1
  have HBW : Hid (Below w.heap.size w w1) := HB.out.trans (hB1.mono (by simp; omega))
  clear hb1 hB1 hg
  go_wp2
  refine bodyPost_ret (v := .agg #[.int .i64 0, .int .i64 0, .int .i64 0]) (by simp [results, Try.results38, go_sem, z0, z1, z2]) rfl ⟨rfl, ?_⟩
  repeat' first | with_reducible exact HBW.out | with_reducible refine Below.setCell ?_ (by simp; try omega) _

set_option maxRecDepth 100000 in
set_option maxHeartbeats 1000000 in
theorem c37_no (c : Conf) (lv qv : Value) (gi : Int) (live quar : List Piece) (at_ n : Int) (w : World) (hl : Sl 3 encP w lv live) (hq : Sl 3 encP w qv quar) (wl : ∀ p ∈ live, WfP p) (wq : ∀ p ∈ quar, WfP p) (hng : ¬ GoodP c gi live quar) :
    Calls Try.prog 37 #[hAgg c lv qv gi, .int .u32 at_, .int .i64 n] w fun e w' => e = .returned (.tuple #[.int .u32 0, .bool false]) ∧ Below w.heap.size w w' := by
  have hB : Below w.heap.size w (w.alloc (.cells #[.int .i64 c.page, .int .i64 c.n, .int .i64 c.red, .int .i64 c.quarantine, lv, qv, .int .i64 gi] 26)) := below_alloc1 w _
  have h := c18 c lv qv gi live quar _ (hl.below hB) (hq.below hB) wl wq
  have H := Lib.hid h
  have HB := Lib.hid hB
  have HNG := Lib.hid hng
  obtain ⟨A, ca, rfl, _, _⟩ := hl
  obtain ⟨B, cb, rfl, _, _⟩ := hq
  clear h hB wl wq hng
  go_enter Try.func37, Try.ntmps37
  go_wp2_with fail
  refine Calls.mono H.out ?_
  clear H
  rintro e w1 ⟨hB1, ⟨hg, rfl⟩ | ⟨hg, rfl⟩⟩
  rotate_left
  · exact absurd hg HNG.out
  have HBW : Hid (Below w.heap.size w w1) := HB.out.trans (hB1.mono (by simp))
  clear hB1 hg
  go_wp2
  go_ret2
  exact ⟨rfl, HBW.out⟩

set_option maxRecDepth 100000 in
set_option maxHeartbeats 1000000 in
theorem c40_no (c : Conf) (lv qv : Value) (gi : Int) (live quar : List Piece) (w : World) (hl : Sl 3 encP w lv live) (hq : Sl 3 encP w qv quar) (wl : ∀ p ∈ live, WfP p) (wq : ∀ p ∈ quar, WfP p) (hng : ¬ GoodP c gi live quar) :
    Calls Try.prog 40 #[hAgg c lv qv gi] w fun e w' => e = .returned (.slice none 0 0) ∧ Below w.heap.size w w' := by
  have hB : Below w.heap.size w (w.alloc (.cells #[.int .i64 c.page, .int .i64 c.n, .int .i64 c.red, .int .i64 c.quarantine, lv, qv, .int .i64 gi] 26)) := below_alloc1 w _
  have h := c18 c lv qv gi live quar _ (hl.below hB) (hq.below hB) wl wq
  have H := Lib.hid h
  have HB := Lib.hid hB
  have HNG := Lib.hid hng
  obtain ⟨A, ca, rfl, _, _⟩ := hl
  obtain ⟨B, cb, rfl, _, _⟩ := hq
  clear h hB wl wq hng
  go_enter Try.func40, Try.ntmps40
  go_wp2_with fail
  refine Calls.mono H.out ?_
  clear H
  rintro e w1 ⟨hB1, ⟨hg, rfl⟩ | ⟨hg, rfl⟩⟩
  rotate_left
  · exact absurd hg HNG.out
  have HBW : Hid (Below w.heap.size w w1) := HB.out.trans (hB1.mono (by simp))
  clear hB1 hg
  go_wp2
  go_ret
  exact ⟨rfl, HBW.out⟩

set_option maxRecDepth 100000 in
set_option maxHeartbeats 1000000 in
theorem c41_no (c : Conf) (lv qv : Value) (gi : Int) (live quar : List Piece) (w : World) (hl : Sl 3 encP w lv live) (hq : Sl 3 encP w qv quar) (wl : ∀ p ∈ live, WfP p) (wq : ∀ p ∈ quar, WfP p) (hng : ¬ GoodP c gi live quar) :
    Calls Try.prog 41 #[hAgg c lv qv gi] w fun e w' => e = .returned (.agg #[.int .i64 0, .int .i64 0, .int .i64 0, .int .i64 0, .int .i64 0, .int .i64 0, .int .i64 0]) ∧ Below w.heap.size w w' := by
  have hB : Below w.heap.size w ((w.alloc (.cells #[.int .i64 c.page, .int .i64 c.n, .int .i64 c.red, .int .i64 c.quarantine, lv, qv, .int .i64 gi] 26)).alloc (.cells #[.int .i64 0, .int .i64 0, .int .i64 0, .int .i64 0, .int .i64 0, .int .i64 0, .int .i64 0] 59)) := (below_alloc1 w _).alloc (by simp) _
  have h := c18 c lv qv gi live quar _ (hl.below hB) (hq.below hB) wl wq
  have H := Lib.hid h
  have HB := Lib.hid hB
  have HNG := Lib.hid hng
  obtain ⟨A, ca, rfl, _, _⟩ := hl
  obtain ⟨B, cb, rfl, _, _⟩ := hq
  clear h hB wl wq hng
  go_enter Try.func41, Try.ntmps41
  go_wp2_with fail
  refine Calls.mono H.out ?_
  clear H
  rintro e w1 ⟨hB1, ⟨hg, rfl⟩ | ⟨hg, rfl⟩⟩
  rotate_left
  · exact absurd hg HNG.out
  have hb1 : w1.heap[w.heap.size + 1]? = some (.cells #[.int .i64 0, .int .i64 0, .int .i64 0, .int .i64 0, .int .i64 0, .int .i64 0, .int .i64 0] 59 (0, 0)) := (hB1.block _ (by simp)).trans (hal_new (by simp))
  have z0 := blk_cell hb1 0
  have fz0 : w1.frozen? ⟨w.heap.size + 1, 0, none⟩ = false := frozen_of_row _ _ _ _ _ hb1
  have z1 := blk_cell hb1 1
  have fz1 : w1.frozen? ⟨w.heap.size + 1, 1, none⟩ = false := frozen_of_row _ _ _ _ _ hb1
  have z2 := blk_cell hb1 2
  have fz2 : w1.frozen? ⟨w.heap.size + 1, 2, none⟩ = false := frozen_of_row _ _ _ _ _ hb1
  have z3 := blk_cell hb1 3
  have fz3 : w1.frozen? ⟨w.heap.size + 1, 3, none⟩ = false := frozen_of_row _ _ _ _ _ hb1
  have z4 := blk_cell hb1 4
  have fz4 : w1.frozen? ⟨w.heap.size + 1, 4, none⟩ = false := frozen_of_row _ _ _ _ _ hb1
  have z5 := blk_cell hb1 5
  have fz5 : w1.frozen? ⟨w.heap.size + 1, 5, none⟩ = false := frozen_of_row _ _ _ _ _ hb1
  have z6 := blk_cell hb1 6
  have fz6 : w1.frozen? ⟨w.heap.size + 1, 6, none⟩ = false := frozen_of_row _ _ _ _ _ hb1
  simp only [List.getElem?_toArray, List.getElem?_cons_succ, List.getElem?_cons_zero] at z0 z1 z2 z3 z4 z5 z6
  have hlt : w.heap.size + 1 < w1.heap.size := blk_lt hb1
  have HBW : Hid (Below w.heap.size w w1) := HB.out.trans (hB1.mono (by simp; omega))
  clear hb1 hB1 hg
  go_wp2
  refine bodyPost_ret (v := .agg #[.int .i64 0, .int .i64 0, .int .i64 0, .int .i64 0, .int .i64 0, .int .i64 0, .int .i64 0]) (by simp [results, Try.results41, go_sem, z0, z1, z2, z3, z4, z5, z6]) rfl ⟨rfl, ?_⟩
  repeat' first | with_reducible exact HBW.out | with_reducible refine Below.setCell ?_ (by simp; try omega) _

end Go.Proofs.Ytbhbjcgbhklieaa
