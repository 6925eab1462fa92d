/- Free. -/
import Derived.Test.YtbhbjcgbhklieaaE4
import Derived.Deep.AppendLies
namespace Go.Proofs.Ytbhbjcgbhklieaa
open Go.RowKit Go.Shelf

def FreeAns (c : Conf) (gi : Int) (live quar : List Piece) (at_ : Int) (N : Nat) (e : Ending) (w' : World) : Prop :=
  (¬ Good c gi live quar ∧ e = .returned (.tuple #[hNil, .int .i64 60])) ∨
  (Good c gi live quar ∧ isI live at_ = false ∧ e = .returned (.tuple #[hNil, .int .i64 61])) ∨
  (Good c gi live quar ∧ isI live at_ = true ∧ ∃ lv' qv', e = .returned (.tuple #[hAgg c lv' qv' gi, .int .i64 0]) ∧
    Fresh N w' lv' (live.eraseIdx (atI live at_)) ∧ Fresh N w' qv' (trimF c.quarantine (quar ++ [live[atI live at_]!])))

theorem region_join {P : Program} {id : Nat} {ops : Array Oper} {b : Bool} {Q : Exit → Act → World → Prop} {a : Act} {w : World} (F : Nat → Nat → Array Value → Array Value) (R : Nat → Nat → World → Prop)
    (h1 : (Code.region id ops b).wp P (fun e a' w' => e = .normal ∧ ∃ gg cap, a' = { tmps := F gg cap a.tmps, defers := a.defers } ∧ R gg cap w') a w) (h2 : ∀ gg cap W, R gg cap W → Q .normal { tmps := F gg cap a.tmps, defers := a.defers } W) : (Code.region id ops b).wp P Q a w :=
  wp_mono h1 (by rintro e a' w' ⟨rfl, gg, cap, rfl, h⟩; exact h2 gg cap w' h)

theorem good_size {c : Conf} {gi : Int} {live quar : List Piece} (g : Good c gi live quar) (wl : ∀ p ∈ live, WfP p) (wq : ∀ p ∈ quar, WfP p) : ∀ p ∈ live ++ quar, 0 ≤ p.size ∧ p.size ≤ 65536 := fun p hp => by
  have := ((good_iff wl wq).1 g).each p hp
  exact ⟨this.2.1, this.2.2.1⟩
theorem sum_range : ∀ (l : List Piece), (∀ p ∈ l, 0 ≤ p.size ∧ p.size ≤ 65536) → 0 ≤ (l.map (·.size)).sum ∧ (l.map (·.size)).sum ≤ 65536 * l.length
  | [], _ => by simp
  | p :: l, h => by
    have h1 := h p (List.mem_cons_self ..)
    have h2 := sum_range l (fun q hq => h q (List.mem_cons_of_mem _ hq))
    simp only [List.map_cons, List.sum_cons, List.length_cons]
    omega
theorem sum_take (l : List Piece) (k : Nat) (hk : k < l.length) : ((l.take (k + 1)).map (·.size)).sum = ((l.take k).map (·.size)).sum + l[k]!.size := by
  rw [List.take_succ_eq_append_getElem hk, List.map_append, List.sum_append, getElem!_pos l k hk]; simp

set_option maxRecDepth 100000 in
set_option maxHeartbeats 4000000 in
theorem c19 (c : Conf) (lv qv : Value) (gi : Int) (live quar : List Piece) (at_ : Int) (w : World) (hl : Sl 3 encP w lv live) (hq : Sl 3 encP w qv quar) (wl : ∀ p ∈ live, WfP p) (wq : ∀ p ∈ quar, WfP p) (sl : SlShape lv) (sq : SlShape qv) :
    Calls Try.prog 19 #[hAgg c lv qv gi, .int .u32 at_] w fun e w' => Below w.heap.size w w' ∧ FreeAns c gi live quar at_ w.heap.size e w' := by
  have HL := Lib.hid hl
  have HQ := Lib.hid hq
  have HSL := Lib.hid sl
  have HSQ := Lib.hid sq
  have HWL := Lib.hid wl
  have HWQ := Lib.hid wq
  obtain ⟨A, ca, rfl, _, _⟩ := hl
  obtain ⟨B, cb, rfl, _, _⟩ := hq
  have hw1 := (below_alloc1 w (.cells #[.int .i64 c.page, .int .i64 c.n, .int .i64 c.red, .int .i64 c.quarantine, .slice A live.length ca, .slice B quar.length cb, .int .i64 gi] 26)).alloc (by simp) (.cells #[.int .i64 0, .int .i64 0, .int .i64 0, .int .i64 0, .slice none 0 0, .slice none 0 0, .int .i64 0] 26)
  have hcall := c68' c _ _ gi live quar _ (HL.out.below hw1) (HQ.out.below hw1) wl wq
  have HW1 := Lib.hid hw1
  clear wl wq hw1 sl sq
  go_enter Try.func19, Try.ntmps19
  go_wp2_with fail
  refine hcall.mono ?_
  rintro e w1 ⟨hB, hr⟩
  have hb0 : w1.heap[w.heap.size]? = some (.cells #[.int .i64 c.page, .int .i64 c.n, .int .i64 c.red, .int .i64 c.quarantine, .slice A live.length ca, .slice B quar.length cb, .int .i64 gi] 26 (0, 0)) := (hB.block _ (by simp; try omega)).trans (hal_old (hal_new rfl))
  have hb1 : w1.heap[w.heap.size + 1]? = some (.cells #[.int .i64 0, .int .i64 0, .int .i64 0, .int .i64 0, .slice none 0 0, .slice none 0 0, .int .i64 0] 26 (0, 0)) := (hB.block _ (by simp)).trans (hal_new (by simp))
  have hBw : Below w.heap.size w w1 := HW1.out.trans (hB.mono (by simp; try omega))
  have hsz : w.heap.size + 2 ≤ w1.heap.size := by have := hB.size; simpa using this
  simp only [World.size_alloc] at hr
  clear hB hcall
  obtain ⟨hg, p, rfl⟩ | ⟨rfl, L, hL, hH⟩ := hr
  · have q0 := blk_cell hb1 0
    have f0 : w1.frozen? ⟨w.heap.size + 1, 0, none⟩ = false := frozen_of_row _ _ _ _ _ hb1
    have q1 := blk_cell hb1 1
    have f1 : w1.frozen? ⟨w.heap.size + 1, 1, none⟩ = false := frozen_of_row _ _ _ _ _ hb1
    have q2 := blk_cell hb1 2
    have f2 : w1.frozen? ⟨w.heap.size + 1, 2, none⟩ = false := frozen_of_row _ _ _ _ _ hb1
    have q3 := blk_cell hb1 3
    have f3 : w1.frozen? ⟨w.heap.size + 1, 3, none⟩ = false := frozen_of_row _ _ _ _ _ hb1
    have q4 := blk_cell hb1 4
    have f4 : w1.frozen? ⟨w.heap.size + 1, 4, none⟩ = false := frozen_of_row _ _ _ _ _ hb1
    have q5 := blk_cell hb1 5
    have f5 : w1.frozen? ⟨w.heap.size + 1, 5, none⟩ = false := frozen_of_row _ _ _ _ _ hb1
    have q6 := blk_cell hb1 6
    have f6 : w1.frozen? ⟨w.heap.size + 1, 6, none⟩ = false := frozen_of_row _ _ _ _ _ hb1
    simp only [List.getElem?_toArray, List.getElem?_cons_succ, List.getElem?_cons_zero] at q0 q1 q2 q3 q4 q5 q6
    have HBW := Lib.hid hBw
    clear hBw hb0 hb1
    go_wp2
    refine bodyPost_ret (v := .tuple #[hNil, .int .i64 60]) (by simp [results, Try.results19, go_sem, q0, q1, q2, q3, q4, q5, q6]) rfl ⟨?_, .inl ⟨hg, rfl⟩⟩
    repeat' first | refine Below.setCell ?_ (by simp; try omega) _ | refine Below.alloc ?_ (by simp; try omega) _ | exact HBW.out
  have hop := Lib.hid hL
  have hHH := Lib.hid hH
  have hn1 := hL.good.n1
  have hn2 := hL.good.n2
  have hlive := c69 (w.heap.size + 1 + 1 + 3) c _ _ gi L live at_ w1 hH (HL.out.below hBw) (by omega) hop.out.live
  clear hL hH
  have HBW := Lib.hid hBw
  have HB0 := Lib.hid hb0
  have HB1 := Lib.hid hb1
  have HLV := Lib.hid hlive
  clear hBw hb0 hb1 hlive
  go_wp2_with fail
  refine Calls.mono HLV.out ?_
  clear HLV
  rintro e w2 ⟨rfl, hB2⟩
  have hb0 : w2.heap[w.heap.size]? = some (.cells #[.int .i64 c.page, .int .i64 c.n, .int .i64 c.red, .int .i64 c.quarantine, .slice A live.length ca, .slice B quar.length cb, .int .i64 gi] 26 (0, 0)) := (hB2.block _ (by omega)).trans HB0.out
  have hb1 : w2.heap[w.heap.size + 1]? = some (.cells #[.int .i64 0, .int .i64 0, .int .i64 0, .int .i64 0, .slice none 0 0, .slice none 0 0, .int .i64 0] 26 (0, 0)) := (hB2.block _ (by omega)).trans HB1.out
  have hBw2 : Below w.heap.size w w2 := HBW.out.trans (hB2.mono (by omega))
  have hsz2 : w.heap.size + 2 ≤ w2.heap.size := Nat.le_trans hsz hB2.size
  have HB0' := Lib.hid hb0
  have HB1' := Lib.hid hb1
  have HBW2 := Lib.hid hBw2
  have HB2 := Lib.hid hB2
  clear hBw2 hB2
  obtain ⟨i, hi⟩ : ∃ i, bsAt (fun x : Piece => cmpI x.pos at_) live = i := ⟨_, rfl⟩
  have HI : Hid (atI live at_ = i) := hi
  have hit : isI live at_ = true → i < live.length := fun h => by unfold isI bsIs at h; rw [hi] at h; simp only [decide_eq_true_eq] at h; exact h.1
  rw [hi]
  obtain ⟨bb, hbb⟩ : ∃ bb, bsIs (fun x : Piece => cmpI x.pos at_) live = bb := ⟨_, rfl⟩
  rw [hbb]
  have HBBB : Hid (isI live at_ = bb) := hbb
  clear hi hbb
  cases bb with
  | false =>
    clear hit
    have q0 := blk_cell hb1 0
    have f0 : w2.frozen? ⟨w.heap.size + 1, 0, none⟩ = false := frozen_of_row _ _ _ _ _ hb1
    have q1 := blk_cell hb1 1
    have f1 : w2.frozen? ⟨w.heap.size + 1, 1, none⟩ = false := frozen_of_row _ _ _ _ _ hb1
    have q2 := blk_cell hb1 2
    have f2 : w2.frozen? ⟨w.heap.size + 1, 2, none⟩ = false := frozen_of_row _ _ _ _ _ hb1
    have q3 := blk_cell hb1 3
    have f3 : w2.frozen? ⟨w.heap.size + 1, 3, none⟩ = false := frozen_of_row _ _ _ _ _ hb1
    have q4 := blk_cell hb1 4
    have f4 : w2.frozen? ⟨w.heap.size + 1, 4, none⟩ = false := frozen_of_row _ _ _ _ _ hb1
    have q5 := blk_cell hb1 5
    have f5 : w2.frozen? ⟨w.heap.size + 1, 5, none⟩ = false := frozen_of_row _ _ _ _ _ hb1
    have q6 := blk_cell hb1 6
    have f6 : w2.frozen? ⟨w.heap.size + 1, 6, none⟩ = false := frozen_of_row _ _ _ _ _ hb1
    simp only [List.getElem?_toArray, List.getElem?_cons_succ, List.getElem?_cons_zero] at q0 q1 q2 q3 q4 q5 q6
    clear hb0 hb1
    go_wp2
    refine bodyPost_ret (v := .tuple #[hNil, .int .i64 61]) (by simp [results, Try.results19, go_sem, q0, q1, q2, q3, q4, q5, q6]) rfl ⟨?_, .inr (.inl ⟨hop.out.good, HBBB.out, rfl⟩)⟩
    repeat' first | refine Below.setCell ?_ (by simp; try omega) _ | refine Below.alloc ?_ (by simp; try omega) _ | exact HBW2.out
  | true =>
  have hilt : i < live.length := hit HBBB.out
  clear hit hb0 hb1
  have HLW : Hid (Sl 3 encP w2 (.slice A live.length ca) live) := HL.out.below HBW2.out
  have HQW : Hid (Sl 3 encP w2 (.slice B quar.length cb) quar) := HQ.out.below HBW2.out
  have hHW := hHH.out.below HB2.out
  have hbare := c70 (w.heap.size + 1 + 1 + 3) c _ _ gi L live quar w2 hHW HLW.out HQW.out HSL.out HSQ.out hn1 hn2
  have HBARE := Lib.hid hbare
  clear hHW hbare
  go_wp2_with fail
  refine Calls.mono HBARE.out ?_
  clear HBARE
  rintro e w3 ⟨hB3, A1, c1, A2, c2, B3, rfl, ho1, hB3a, hB3b, ho2⟩
  have HBW3 : Hid (Below w.heap.size w w3) := HBW2.out.trans (hB3.mono (by omega))
  have HB03 : Hid (w3.heap[w.heap.size]? = some (.cells #[.int .i64 c.page, .int .i64 c.n, .int .i64 c.red, .int .i64 c.quarantine, .slice A live.length ca, .slice B quar.length cb, .int .i64 gi] 26 (0, 0))) := (hB3.block _ (by omega)).trans HB0'.out
  have HB13 : Hid (w3.heap[w.heap.size + 1]? = some (.cells #[.int .i64 0, .int .i64 0, .int .i64 0, .int .i64 0, .slice none 0 0, .slice none 0 0, .int .i64 0] 26 (0, 0))) := (hB3.block _ (by omega)).trans HB1'.out
  have hsz3 : w2.heap.size ≤ w3.heap.size := hB3.size
  obtain ⟨g1, cap1, cur1, e1, hg1b, hg1, hc1, hm1, hcs1, ht1⟩ := ho1.2.resolve_left (by rintro ⟨_, h⟩; omega)
  cases e1
  have hB3c := hB3b g1 rfl
  have hg1lt := blk_lt hg1
  have HO2 := Lib.hid ho2
  have HG1 := Lib.hid hg1
  have HT1 := Lib.hid ht1
  have HB3B := Lib.hid hB3b
  clear hB3 ho1 ho2 hg1 ht1 hB3b HLW HQW HB2 HB0' HB1' HB0 HB1
  go_wp2
  refine gen_worldP (fun W => Below w3.heap.size w3 W ∧ W.heap.size = w3.heap.size + 1 ∧ W.heap[w3.heap.size]? = some (.cells #[.int .i64 c.page, .int .i64 c.n, .int .i64 c.red, .int .i64 c.quarantine, .slice (some ⟨g1, 0, none⟩) live.length c1, .slice A2 quar.length c2, .int .i64 gi] 26 (0, 0))) ?_ ?_
  · refine ⟨?_, by simp, hal_new rfl⟩
    repeat' first | refine Below.setCell ?_ (by simp; try omega) _ | refine Below.alloc ?_ (by simp; try omega) _ | exact Below.refl _ _
  rintro W ⟨hBW, hsW, hbx⟩
  have hg1W : W.heap[g1]? = some (.cells cur1 38 (0, 0)) := (hBW.block g1 hg1lt).trans HG1.out
  have x4 := blk_cell hbx 4
  have x5 := blk_cell hbx 5
  simp only [List.getElem?_toArray, List.getElem?_cons_succ, List.getElem?_cons_zero] at x4 x5
  obtain ⟨p, hp⟩ : ∃ p, live[i]! = p := ⟨_, rfl⟩
  have hpc : ∀ k u, (encP p)[k]? = some u → W.cell? ⟨g1, i * 3 + k, none⟩ = some u := fun k u hu => by
    have hk : k < 3 := (List.getElem?_eq_some_iff.1 hu).1
    rw [row_cell hg1W, ← hu, ← hp, ← flat_get encP 3 encP_len live i k hilt hk, ← HT1.out, List.getElem?_take_of_lt (by omega)]
  have m0 : W.cell? ⟨g1, i * 3, none⟩ = some (.int .u32 p.pos) := hpc 0 _ rfl
  have m1 : W.cell? ⟨g1, i * 3 + 1, none⟩ = some (.int .i64 p.size) := hpc 1 _ rfl
  have m2 : W.cell? ⟨g1, i * 3 + 2, none⟩ = some (.int .i64 p.born) := hpc 2 _ rfl
  have HP := Lib.hid hp
  have HBX := Lib.hid hbx
  have HG1W := Lib.hid hg1W
  have HBWW := Lib.hid hBW
  have hmx : Try.prog.follows .mixedOrders = true := by kernel_rfl
  clear hp hbx hg1W hBW hpc
  refine region_join (fun gg cap T => ((((((((((T.setIfInBounds 32 (.pointer (some ⟨w3.heap.size, 5, none⟩))).setIfInBounds 33 (.slice A2 quar.length c2)).setIfInBounds 34 (.pointer (some ⟨w3.heap.size, 4, none⟩))).setIfInBounds 35 (.slice (some ⟨g1, 0, none⟩) live.length c1)).setIfInBounds 36 (.int .i64 i)).setIfInBounds 37 (.pointer (some ⟨g1, i * 3, none⟩))).setIfInBounds 38 (.agg #[.int .u32 p.pos, .int .i64 p.size, .int .i64 p.born])).setIfInBounds 39 (.slice (some ⟨w3.heap.size + 1, 0, none⟩) 1 1)).setIfInBounds 40 (.slice (some ⟨gg, 0, none⟩) (quar.length + 1) cap)).setIfInBounds 41 (.pointer (some ⟨w3.heap.size, 5, none⟩)))) (fun gg cap W5 => Below w2.heap.size W W5 ∧ w3.heap.size + 1 ≤ W5.heap.size ∧ W5.heap[w3.heap.size]? = some (.cells #[.int .i64 c.page, .int .i64 c.n, .int .i64 c.red, .int .i64 c.quarantine, .slice (some ⟨g1, 0, none⟩) live.length c1, .slice (some ⟨gg, 0, none⟩) (quar.length + 1) cap, .int .i64 gi] 26 (0, 0)) ∧ W5.heap[g1]? = some (.cells cur1 38 (0, 0)) ∧ W5.ownsRow w2.heap.size 38 3 (.slice (some ⟨gg, 0, none⟩) (quar.length + 1) cap) (quar.length + 1) ((quar ++ [p]).flatMap encP) ∧ gg ≠ g1) ?_ ?_
  · refine wp_region_held_drew (S := fun w' => w'.cell? ⟨w3.heap.size, 4, none⟩ = some (.slice (some ⟨g1, 0, none⟩) live.length c1) ∧ w'.cell? ⟨g1, i * 3, none⟩ = some (.int .u32 p.pos) ∧ w'.cell? ⟨g1, i * 3 + 1, none⟩ = some (.int .i64 p.size) ∧ w'.cell? ⟨g1, i * 3 + 2, none⟩ = some (.int .i64 p.born)) hmx ⟨x4, m0, m1, m2⟩ ?_
    intro hS0
    refine wpAnyH_take (i := 0) (v := .pointer (some ⟨w3.heap.size, 5, none⟩)) rfl (by kernel_rfl) (by kernel_rfl) (by kernel_rfl) (fun _ _ _ h => nomatch h.1) (Or.inl ⟨by rfl, ?hy⟩) hS0 ?_
    case hy => intro w9 hSw; obtain ⟨s0, s1, s2, s3⟩ := hSw; go_simp
    simp only [Act.put, List.setIfInBounds_toArray, List.set_cons_zero, List.set_cons_succ]
    refine wpAnyH_take (i := 2) (v := .pointer (some ⟨w3.heap.size, 4, none⟩)) rfl (by kernel_rfl) (by kernel_rfl) (by kernel_rfl) (fun _ _ _ h => nomatch h.1) (Or.inl ⟨by rfl, ?hy⟩) hS0 ?_
    case hy => intro w9 hSw; obtain ⟨s0, s1, s2, s3⟩ := hSw; go_simp
    simp only [Act.put]
    refine wpAnyH_take (i := 3) (v := .slice (some ⟨g1, 0, none⟩) live.length c1) rfl (by kernel_rfl) (by kernel_rfl) (by kernel_rfl) (fun _ _ _ h => nomatch h.1) (Or.inl ⟨by rfl, ?hy⟩) hS0 ?_
    case hy => intro w9 hSw; obtain ⟨s0, s1, s2, s3⟩ := hSw; go_simp
    simp only [Act.put]
    refine wpAnyH_take (i := 4) (v := .int .i64 i) rfl (by kernel_rfl) (by kernel_rfl) (by kernel_rfl) (fun _ _ _ h => nomatch h.1) (Or.inl ⟨by rfl, ?hy⟩) hS0 ?_
    case hy => intro w9 hSw; obtain ⟨s0, s1, s2, s3⟩ := hSw; go_simp
    simp only [Act.put]
    refine wpAnyH_take (i := 5) (v := .pointer (some ⟨g1, i * 3, none⟩)) rfl (by kernel_rfl) (by kernel_rfl) (by kernel_rfl) (fun _ _ _ h => nomatch h.1) (Or.inl ⟨by rfl, ?hy⟩) hS0 ?_
    case hy => intro w9 hSw; obtain ⟨s0, s1, s2, s3⟩ := hSw; go_simp
    simp only [Act.put]
    refine wpAnyH_take (i := 6) (v := .agg #[.int .u32 p.pos, .int .i64 p.size, .int .i64 p.born]) rfl (by kernel_rfl) (by kernel_rfl) (by kernel_rfl) (fun _ _ _ h => nomatch h.1) (Or.inl ⟨by rfl, ?hy⟩) hS0 ?_
    case hy => intro w9 hSw; obtain ⟨s0, s1, s2, s3⟩ := hSw; go_simp
    simp only [Act.put]
    have x5' : (W.drew.alloc (.cells #[.int .u32 p.pos, .int .i64 p.size, .int .i64 p.born] 38)).cell? ⟨w3.heap.size, 5, none⟩ = some (.slice A2 quar.length c2) := cells_alloc (w := W.drew) x5
    have hS1 := (show (W.drew.alloc (.cells #[.int .u32 p.pos, .int .i64 p.size, .int .i64 p.born] 38)).cell? ⟨w3.heap.size, 4, none⟩ = some (.slice (some ⟨g1, 0, none⟩) live.length c1) ∧ (W.drew.alloc (.cells #[.int .u32 p.pos, .int .i64 p.size, .int .i64 p.born] 38)).cell? ⟨g1, i * 3, none⟩ = some (.int .u32 p.pos) ∧ (W.drew.alloc (.cells #[.int .u32 p.pos, .int .i64 p.size, .int .i64 p.born] 38)).cell? ⟨g1, i * 3 + 1, none⟩ = some (.int .i64 p.size) ∧ (W.drew.alloc (.cells #[.int .u32 p.pos, .int .i64 p.size, .int .i64 p.born] 38)).cell? ⟨g1, i * 3 + 2, none⟩ = some (.int .i64 p.born) from ⟨cells_alloc hS0.1, cells_alloc hS0.2.1, cells_alloc hS0.2.2.1, cells_alloc hS0.2.2.2⟩)
    refine wpAnyH_ready (rs := [1, 7]) (by kernel_rfl) (by simp) ?_
    refine AllReadyH.cons rfl (fun K hK => ?_) (AllReadyH.cons rfl (fun K hK => ?_) AllReadyH.nil)
    go_simp
    refine hK.out _ _ hS0 (fun _ => ?_)
    clear hK K
    refine wpAnyH_ready (rs := [7]) (by kernel_rfl) (by simp) ?_
    refine AllReadyH.cons rfl (fun K hK => ?_) AllReadyH.nil
    go_simp
    refine hK.out _ _ hS1 (fun _ => ?_)
    clear hK K
    rotate_left
    go_simp
    refine hK.out _ _ hS1 (fun _ => ?_)
    clear hK K
    refine wpAnyH_ready (rs := [1]) (by kernel_rfl) (by simp) ?_
    refine AllReadyH.cons rfl (fun K hK => ?_) AllReadyH.nil
    go_simp
    refine hK.out _ _ hS1 (fun _ => ?_)
    clear hK K
    all_goals
      have hro2 : (W.drew.alloc (.cells #[.int .u32 p.pos, .int .i64 p.size, .int .i64 p.born] 38)).ownsRow w2.heap.size 38 3 (.slice A2 quar.length c2) quar.length (quar.flatMap encP) := own_base (own_blk HO2.out fun g hg => (Below.heap_alloc W.drew _ g (by have := own_lt HO2.out g hg; show g < W.heap.size; omega)).trans (HBWW.out.block g (own_lt HO2.out g hg).2)) hB3a
      obtain ⟨i0, hi0, hi1, hi2, hi3⟩ := info38'
      refine wpAnyH_ready (rs := [8]) (by kernel_rfl) (by simp) ?_
      refine AllReadyH.cons rfl (fun K hK => ?_) AllReadyH.nil
      refine step_append_lies _ rfl _ _ _ rfl w2.heap.size 38 i0 (.agg #[.int .u32 0, .int .i64 0, .int .i64 0]) 3 24 (by kernel_rfl) hi0 hi1 hi2 hi3 rfl (by omega) (.slice A2 quar.length c2) quar.length (quar.flatMap encP) rfl hro2 ⟨w3.heap.size + 1, 0, none⟩ 1 1 (encP p) rfl rfl (fun j u hu => World.news_of_block (hal_new (w := W.drew) (o := .cells #[.int .u32 p.pos, .int .i64 p.size, .int .i64 p.born] 38) hsW.symm) j u hu) (by intro u hu; simp [encP] at hu; rcases hu with rfl | rfl | rfl <;> rfl) (by omega) (by unfold maxLen; omega) (by omega) (by simp; omega) _ rfl ?_
      intro gg cap W4 hown4 hgrow4 hat4 hlt4
      have hb : ∀ k o, k < w3.heap.size + 1 → (∀ g, (Value.slice A2 quar.length c2).ownBlock = some g → k ≠ g) → W.heap[k]? = some o → W4.heap[k]? = some o := fun k o hk hne ho => (hgrow4.block k (by simp; omega) (fun e => hne k e.symm rfl)).trans ((Below.heap_alloc W.drew _ k (by show k < W.heap.size; omega)).trans ho)
      have hg1W4 := hb g1 _ (by omega) (fun g hg => by have := own_lt HO2.out g hg; omega) HG1W.out
      have hbx4 := hb w3.heap.size _ (by omega) (fun g hg => by have := own_lt HO2.out g hg; omega) HBX.out
      have hgg1 : gg ≠ g1 := by
        rintro rfl
        rcases hat4 with h | h
        · have := own_lt HO2.out _ h; omega
        · simp at h; omega
      have hggx : gg ≠ w3.heap.size := by
        rintro rfl
        rcases hat4 with h | h
        · have := own_lt HO2.out _ h; omega
        · simp at h; omega
      have hBW4 : Below w2.heap.size W W4 := ⟨hgrow4.os, hgrow4.tape, hgrow4.output, by have := hgrow4.size; simp at this ⊢; omega, fun k hk => by
        obtain ⟨o, ho⟩ : ∃ o, W.heap[k]? = some o := ⟨W.heap[k]'(by omega), Array.getElem?_eq_getElem _⟩
        rw [ho]
        exact hb k _ (by omega) (fun g hg => by have := own_lt HO2.out g hg; omega) ho⟩
      have hce : ∀ k, W4.cell? ⟨g1, k, none⟩ = W.cell? ⟨g1, k, none⟩ := fun k => by simp only [World.cell?, hg1W4, HG1W.out]
      have y4 := blk_cell hbx4 4
      have y5 := blk_cell hbx4 5
      simp only [List.getElem?_toArray, List.getElem?_cons_succ, List.getElem?_cons_zero] at y4 y5
      have z5 : W4.frozen? ⟨w3.heap.size, 5, none⟩ = false := frozen_of_row _ _ _ _ _ hbx4
      refine hK.out _ _ ⟨y4, (hce _).trans m0, (hce _).trans m1, (hce _).trans m2⟩ (fun hS4 => ?_)
      clear hK K
      simp only [Act.put, List.setIfInBounds_toArray]
      refine wpAnyH_take (i := 9) (v := .pointer (some ⟨w3.heap.size, 5, none⟩)) rfl (by kernel_rfl) (by kernel_rfl) (by kernel_rfl) (fun _ _ _ h => nomatch h.1) (Or.inl ⟨by rfl, ?hy⟩) hS4 ?_
      case hy => intro w9 hSw; obtain ⟨s0, s1, s2, s3⟩ := hSw; go_simp
      simp only [Act.put]
      refine wpAnyH_ready (rs := [10]) (by kernel_rfl) (by simp) ?_
      refine AllReadyH.cons rfl (fun K hK => ?_) AllReadyH.nil
      go_simp
      have hne : (w3.heap.size : Nat) ≠ g1 := by omega
      refine hK.out _ _ ⟨?_, (World.cell?_setCell_far _ _ _ _ hne).trans ((hce _).trans m0), (World.cell?_setCell_far _ _ _ _ hne).trans ((hce _).trans m1), (World.cell?_setCell_far _ _ _ _ hne).trans ((hce _).trans m2)⟩ (fun _ => ?_)
      · exact (World.cell?_setCell_other _ _ _ _ (by simp)).trans y4
      clear hK K
      refine wpAnyH_done (by kernel_rfl) ?_ _
      go_simp
      refine ⟨gg, cap, ?_, ?_⟩
      · exact ⟨rfl, rfl⟩
      · have hs4 := hgrow4.size
        simp at hs4
        refine ⟨hBW4.setCell (p := ⟨w3.heap.size, 5, none⟩) (by simp; omega) _, by first | omega | (simp; omega), by simpa using row_setCell (o := 5) (.slice (some ⟨gg, 0, none⟩) (quar.length + 1) cap) hbx4, (Below.heap_setCell _ _ _ _ (Ne.symm hne)).trans hg1W4, ?_, hgg1⟩
        refine own_blk hown4 fun g hg => Below.heap_setCell _ _ _ _ ?_
        cases hg; exact hggx
  · rintro gg cap W5 ⟨r1, r2, r3, r4, r5, r6⟩
    simp only [List.setIfInBounds_toArray, List.set_cons_zero, List.set_cons_succ]
    have y4 := blk_cell r3 4
    simp only [List.getElem?_toArray, List.getElem?_cons_succ, List.getElem?_cons_zero] at y4
    have hdel := c71 g1 c1 cur1 live i W5 r4 hc1 hm1 hcs1 HT1.out hilt
    have R1 := Lib.hid r1
    have R3 := Lib.hid r3
    have R5 := Lib.hid r5
    have HDEL := Lib.hid hdel
    clear r1 r3 r4 r5 hdel
    go_wp2_with fail
    refine Calls.mono HDEL.out ?_
    rintro e w6 ⟨rfl, hg6, ho6⟩
    clear HDEL
    have hk6 : ∀ k, k < W5.heap.size → k ≠ g1 → w6.heap[k]? = W5.heap[k]? := fun k hk hne => hg6.block k hk (fun e => hne (Option.some.inj e))
    have hbx6 := (hk6 _ (by omega) (by omega)).trans R3.out
    have y4 := blk_cell hbx6 4
    have z4 : w6.frozen? ⟨w3.heap.size, 4, none⟩ = false := frozen_of_row _ _ _ _ _ hbx6
    have y5 := blk_cell hbx6 5
    simp only [List.getElem?_toArray, List.getElem?_cons_succ, List.getElem?_cons_zero] at y4 y5
    have ho56 : w6.ownsRow w2.heap.size 38 3 (.slice (some ⟨gg, 0, none⟩) (quar.length + 1) cap) (quar.length + 1) ((quar ++ [p]).flatMap encP) := own_blk R5.out fun g hg => hk6 g (own_lt R5.out g hg).2 (by cases hg; exact r6)
    have HO56 := Lib.hid ho56
    have HO6 := Lib.hid ho6
    have HBX6 := Lib.hid hbx6
    have HK6 := Lib.hid hk6
    have hs6 := hg6.size
    have HG6 := Lib.hid hg6
    clear ho56 ho6 hbx6 hk6 hg6
    go_wp2
    refine gen_worldP (fun W7 => Below w.heap.size w W7 ∧ w3.heap.size < W7.heap.size ∧ W7.heap[w.heap.size]? = some (.cells #[.int .i64 c.page, .int .i64 c.n, .int .i64 c.red, .int .i64 c.quarantine, .slice A live.length ca, .slice B quar.length cb, .int .i64 gi] 26 (0, 0)) ∧ W7.heap[w.heap.size + 1]? = some (.cells #[.int .i64 0, .int .i64 0, .int .i64 0, .int .i64 0, .slice none 0 0, .slice none 0 0, .int .i64 0] 26 (0, 0)) ∧ W7.heap[w3.heap.size]? = some (.cells #[.int .i64 c.page, .int .i64 c.n, .int .i64 c.red, .int .i64 c.quarantine, .slice (some ⟨g1, 0, none⟩) (live.length - 1) c1, .slice (some ⟨gg, 0, none⟩) (quar.length + 1) cap, .int .i64 gi] 26 (0, 0)) ∧
      W7.ownsRow g1 38 3 (.slice (some ⟨g1, 0, none⟩) (live.length - 1) c1) (live.length - 1) ((live.eraseIdx i).flatMap encP) ∧ W7.ownsRow w2.heap.size 38 3 (.slice (some ⟨gg, 0, none⟩) (quar.length + 1) cap) (quar.length + 1) ((quar ++ [p]).flatMap encP)) ?_ ?_
    · have hold : ∀ k o, k < w2.heap.size → k ≠ w3.heap.size → w3.heap[k]? = some o → (w6.setCell ⟨w3.heap.size, 4, none⟩ (.slice (some ⟨g1, 0, none⟩) (live.length - 1) c1)).heap[k]? = some o := fun k o hk hne ho => (Below.heap_setCell _ _ _ _ hne).trans ((HK6.out k (by omega) (by omega)).trans ((R1.out.block k hk).trans ((HBWW.out.block k (by omega)).trans ho)))
      have hB26 : Below w.heap.size w w6 := ((HBW3.out.trans (HBWW.out.mono (by omega))).trans (R1.out.mono (by omega))).trans (below_of_grown HG6.out (by omega) (fun j e => by cases e; omega))
      refine ⟨hB26.setCell (p := ⟨w3.heap.size, 4, none⟩) (by simp; omega) _, by first | omega | (simp; omega), hold _ _ (by omega) (by omega) HB03.out, hold _ _ (by omega) (by omega) HB13.out, by simpa using row_setCell (o := 4) (.slice (some ⟨g1, 0, none⟩) (live.length - 1) c1) HBX6.out, own_blk HO6.out fun g hg => Below.heap_setCell _ _ _ _ ?_, own_blk HO56.out fun g hg => Below.heap_setCell _ _ _ _ ?_⟩
      · obtain rfl : g1 = g := by simpa [Value.ownBlock] using hg
        exact Nat.ne_of_lt hg1lt
      · rintro rfl
        obtain ⟨_, cur, h2⟩ := ownB HO56.out _ hg.symm
        rw [HBX6.out] at h2; cases h2
    rintro W7 ⟨t1, t2, t3, t4, t5, t6, t7⟩
    obtain ⟨l, hl⟩ : ∃ l, quar ++ [p] = l := ⟨_, rfl⟩
    have hll : l.length = quar.length + 1 := by rw [← hl]; simp
    have hlsz : ∀ q ∈ l, 0 ≤ q.size ∧ q.size ≤ 65536 := fun q hq => by
      have hgs := good_size hop.out.good HWL.out HWQ.out
      rw [← hl] at hq
      rcases List.mem_append.1 hq with hq | hq
      · exact hgs q (List.mem_append_right _ hq)
      · have : q = live[i]! := by rw [HP.out]; simpa using hq
        subst this
        exact hgs _ (List.mem_append_left _ (by rw [getElem!_pos live i hilt]; exact List.getElem_mem hilt))
    rw [hl] at t7
    obtain ⟨_, cap', cur2, e2, hg2b, hg2, hc2, hm2, hcs2, ht2⟩ := t7.2.resolve_left (by rintro ⟨h, _⟩; cases h)
    cases e2
    have HL2 := Lib.hid hl
    have HLL := Lib.hid hll
    have HSZ := Lib.hid hlsz
    have T1 := Lib.hid t1
    have T3 := Lib.hid t3
    have T4 := Lib.hid t4
    have T5 := Lib.hid t5
    have T6 := Lib.hid t6
    have HG2 := Lib.hid hg2
    have HT2 := Lib.hid ht2
    have HCS2 := Lib.hid hcs2
    have hsq0 := hop.out.good.conf
    simp only [okConf, decide_eq_true_eq] at hsq0
    have hQ0 : 0 ≤ c.quarantine := by omega
    have hQ1 : c.quarantine ≤ 65536 := by omega
    clear t1 t3 t4 t5 t6 t7 hg2 ht2 hcs2 hl hll hlsz y4 y5 z4 hsq0 HK6 HG6 HBX6 HO6 HO56 R1 R3 R5 HBWW HBX HG1W x4 x5 m0 m1 m2 HT1 HG1 hcs1
    have t5q := blk_cell T5.out 5
    simp only [List.getElem?_toArray, List.getElem?_cons_succ, List.getElem?_cons_zero] at t5q
    go_wp2
    go_loopg [10, 52] (quar.length + 1) (fun kx s10 s52 wr => ∃ k : Nat, k ≤ quar.length + 1 ∧ s52 = .int .i64 k ∧ s10 = .int .i64 ((l.take k).map (·.size)).sum ∧ quar.length + 1 - k ≤ kx ∧ Hid (Below W7.heap.size W7 wr))
    case atStart => exact ⟨0, by omega, rfl, rfl, by omega, Below.refl _ _⟩
    case round =>
      obtain ⟨k, hk, rfl, rfl, hkx, HBr⟩ := hrel
      have hsr := HBr.out.size
      by_cases hlt : k < quar.length + 1
      · have hg2r : wr.heap[gg]? = some (.cells cur2 38 (0, 0)) := (HBr.out.block gg (blk_lt HG2.out)).trans HG2.out
        have hkl : k < l.length := by rw [HLL.out]; exact hlt
        have hpc : ∀ j u, (encP l[k]!)[j]? = some u → wr.cell? ⟨gg, k * 3 + j, none⟩ = some u := fun j u hu => by
          have hj : j < 3 := (List.getElem?_eq_some_iff.1 hu).1
          rw [row_cell hg2r, ← hu, ← flat_get encP 3 encP_len l k j hkl hj, ← HT2.out, List.getElem?_take_of_lt (by omega)]
        have hst := sum_take l k hkl
        have hr1 := sum_range (l.take k) (fun q hq => HSZ.out q (List.mem_of_mem_take hq))
        have hr2 := HSZ.out l[k]! (by rw [getElem!_pos l k hkl]; exact List.getElem_mem hkl)
        generalize hq : l[k]! = q at hpc hst hr2
        have m0 : wr.cell? ⟨gg, k * 3, none⟩ = some (.int .u32 q.pos) := hpc 0 _ rfl
        have m1 : wr.cell? ⟨gg, k * 3 + 1, none⟩ = some (.int .i64 q.size) := hpc 1 _ rfl
        have m2 : wr.cell? ⟨gg, k * 3 + 2, none⟩ = some (.int .i64 q.born) := hpc 2 _ rfl
        have hlt' : (l.take k).length ≤ 1001 := by simp; omega
        generalize hsm : ((l.take k).map (·.size)).sum = sm at hst hr1
        have hsw : IntKind.i64.wrap (sm + q.size) = sm + q.size := by rw [IntKind.wrap_i64]; omega
        have HST := Lib.hid hst
        clear hq hpc hst hr1 hr2 hsm hg2r hkl hlt'
        go_wp2
        go_roundg (quar.length + 1 - (k + 1))
        case measure => omega
        case rel => exact ⟨k + 1, by omega, by go_num, by rw [HST.out], Nat.le_refl _, HBr.out.alloc hsr _⟩
      · obtain rfl : k = quar.length + 1 := by omega
        have hall : l.take (quar.length + 1) = l := by rw [← HLL.out]; exact List.take_length
        rw [hall]
        clear hall
        go_wp2
        have hbxr : wr.heap[w3.heap.size]? = some (.cells #[.int .i64 c.page, .int .i64 c.n, .int .i64 c.red, .int .i64 c.quarantine, .slice (some ⟨g1, 0, none⟩) (live.length - 1) c1, .slice (some ⟨gg, 0, none⟩) (quar.length + 1) cap, .int .i64 gi] 26 (0, 0)) := (HBr.out.block _ t2).trans T5.out
        have hb0r : wr.heap[w.heap.size]? = some (.cells #[.int .i64 c.page, .int .i64 c.n, .int .i64 c.red, .int .i64 c.quarantine, .slice A live.length ca, .slice B quar.length cb, .int .i64 gi] 26 (0, 0)) := (HBr.out.block _ (blk_lt T3.out)).trans T3.out
        have hslr : Sl 3 encP wr (.slice (some ⟨gg, 0, none⟩) (quar.length + 1) cap) l := by
          have := (Fresh.of_own (own_blk (W' := wr) (show W7.ownsRow w2.heap.size 38 3 (.slice (some ⟨gg, 0, none⟩) (quar.length + 1) cap) (quar.length + 1) (l.flatMap encP) from ⟨by rw [flat_length, HLL.out], .inr ⟨gg, cap, cur2, rfl, hg2b, HG2.out, hc2, hm2, HCS2.out, HT2.out⟩⟩) fun g hg => by cases hg; exact HBr.out.block gg (blk_lt HG2.out)) HLL.out.symm).sl
          exact this
        have HSLR := Lib.hid hslr
        have HBXR := Lib.hid hbxr
        have HB0R := Lib.hid hb0r
        clear hslr hbxr hb0r hlt hkx hk
        obtain ⟨wz, rfl⟩ : ∃ wz : World, wz = wr := ⟨_, rfl⟩
        go_loopg [10] (quar.length + 1) (fun kx s10 wr => ∃ k : Nat, k ≤ quar.length + 1 ∧ s10 = .int .i64 ((l.drop k).map (·.size)).sum ∧ quar.length + 1 - k ≤ kx ∧ ∃ vk, Hid (wr.heap[w3.heap.size]? = some (.cells #[.int .i64 c.page, .int .i64 c.n, .int .i64 c.red, .int .i64 c.quarantine, .slice (some ⟨g1, 0, none⟩) (live.length - 1) c1, vk, .int .i64 gi] 26 (0, 0))) ∧ Hid (Sl 3 encP wr vk (l.drop k)) ∧ Hid (SlShape vk) ∧ Hid (trimF c.quarantine (l.drop k) = trimF c.quarantine l) ∧ Hid (wz.grownBy wr (some w3.heap.size)))
        case atStart => exact ⟨0, by omega, by rw [List.drop_zero], by omega, _, HBXR.out, (by rw [List.drop_zero]; exact HSLR.out), (fun A n c e => by cases e; exact ⟨gg, 0, rfl⟩ : SlShape (.slice (some ⟨gg, 0, none⟩) (quar.length + 1) cap)), (by rw [List.drop_zero] : trimF c.quarantine (l.drop 0) = trimF c.quarantine l), grown_refl _ _⟩
        case round =>
          obtain ⟨k, hk, rfl, hkx, vk, KBX, KSL, KSH, KTR, KGR⟩ := hrel
          have hb0q : wr.heap[w.heap.size]? = some (.cells #[.int .i64 c.page, .int .i64 c.n, .int .i64 c.red, .int .i64 c.quarantine, .slice A live.length ca, .slice B quar.length cb, .int .i64 gi] 26 (0, 0)) := (KGR.out.block _ (blk_lt HB0R.out) (by simp; omega)).trans HB0R.out
          have u3 := blk_cell hb0q 3
          have u5 := blk_cell KBX.out 5
          have v5 : wr.frozen? ⟨w3.heap.size, 5, none⟩ = false := frozen_of_row _ _ _ _ _ KBX.out
          simp only [List.getElem?_toArray, List.getElem?_cons_succ, List.getElem?_cons_zero] at u3 u5
          have hsr := sum_range (l.drop k) (fun q hq => HSZ.out q (List.mem_of_mem_drop hq))
          have hdl : (l.drop k).length = quar.length + 1 - k := by rw [List.length_drop, HLL.out]
          obtain ⟨Ak, ck, rfl, hck, hlk⟩ := KSL.out
          by_cases ht : 1000 < (l.drop k).length ∨ c.quarantine < ((l.drop k).map (·.size)).sum
          · have hkl : k < l.length := by
              rw [HLL.out]
              rcases Nat.lt_or_eq_of_le hk with h | h
              · exact h
              · exfalso
                have : l.drop k = [] := List.drop_eq_nil_of_le (by rw [HLL.out]; omega)
                rw [this] at ht
                simp at ht; omega
            obtain ⟨b, off, rfl, hLies⟩ := hlk.resolve_left (by intro e; have := congrArg List.length e; rw [hdl] at this; simp at this; rw [HLL.out] at hkl; omega)
            obtain ⟨m0, m1, m2⟩ := hLies.at3 0 (by rw [hdl]; rw [HLL.out] at hkl; omega)
            have hd : l.drop k = l[k]! :: l.drop (k + 1) := by rw [List.drop_eq_getElem_cons hkl, getElem!_pos l k hkl]
            have h0 : (l.drop k)[0]! = l[k]! := by rw [hd]; rfl
            have hsum : ((l.drop k).map (·.size)).sum = l[k]!.size + ((l.drop (k + 1)).map (·.size)).sum := by rw [hd]; simp
            have hr2 := HSZ.out l[k]! (by rw [getElem!_pos l k hkl]; exact List.getElem_mem hkl)
            have hr3 := sum_range (l.drop (k + 1)) (fun q hq => HSZ.out q (List.mem_of_mem_drop hq))
            have hr4 : (l.drop (k + 1)).length ≤ 1001 := by rw [List.length_drop, HLL.out]; omega
            have htr : trimF c.quarantine (l.drop (k + 1)) = trimF c.quarantine l := by
              rw [← KTR.out, hd, trimF, if_pos]
              rw [hd] at ht
              simpa using ht
            have hLn : Lies 3 encP wr b (off + 3) (l.drop (k + 1)) := ⟨hLies.1, fun j hj u v hv => by
              have hj' : j + 1 < (l.drop k).length := by rw [hd]; simpa using hj
              have := hLies.2 (j + 1) hj' u v (by rw [hd]; simpa using hv)
              rwa [show off + (j + 1) * 3 + u = off + 3 + j * 3 + u by omega] at this⟩
            have hdn : (l.drop (k + 1)).length + 1 = (l.drop k).length := by rw [hd]; simp
            rw [h0] at m0 m1 m2
            rw [hsum] at ht hsr ⊢
            simp only [Nat.zero_mul, Nat.add_zero] at m0 m1 m2
            obtain ⟨mm, hmm⟩ : ∃ mm, (l.drop (k + 1)).length = mm := ⟨_, rfl⟩
            rw [hmm] at hdn hr3 hr4
            rw [← hdn] at u5 hck ht hdl
            generalize l[k]! = q at m0 m1 m2 ht hsr hr2 ⊢
            generalize hsrr : ((l.drop (k + 1)).map (·.size)).sum = sr at ht hsr hr3 ⊢
            have hbn : b ≠ w3.heap.size := by
              rintro rfl
              have e := (blk_cell KBX.out off).symm.trans m0
              rcases off with _ | _ | _ | _ | _ | _ | _ | off <;> simp at e
            have HSRR := Lib.hid hsrr
            have HTR := Lib.hid htr
            have HLN := Lib.hid hLn
            have HMM := Lib.hid hmm
            have hw1 : IntKind.i64.wrap (q.size + sr - q.size) = sr := by rw [IntKind.wrap_i64]; omega
            have hkn : k + 1 ≤ quar.length + 1 := by rw [← HLL.out]; omega
            have HDL := Lib.hid hdl
            have HDN := Lib.hid hdn
            clear hdn hdl hsum hd htr hLn hmm hsrr hLies hlk hb0q h0 hkl
            have hfin : ∀ A' c', (∀ A n c, Value.slice A' mm c' = .slice (some A) n c → ∃ b off, A = ⟨b, off, none⟩) → mm ≤ c' → (l.drop (k + 1) = [] ∨ A' = some ⟨b, off + 3, none⟩) →
                ∃ k' : Nat, k' ≤ quar.length + 1 ∧ Value.int .i64 sr = .int .i64 ((l.drop k').map (·.size)).sum ∧ quar.length + 1 - k' ≤ quar.length + 1 - (k + 1) ∧ ∃ vk, Hid ((wr.setCell ⟨w3.heap.size, 5, none⟩ (.slice A' mm c')).heap[w3.heap.size]? = some (.cells #[.int .i64 c.page, .int .i64 c.n, .int .i64 c.red, .int .i64 c.quarantine, .slice (some ⟨g1, 0, none⟩) (live.length - 1) c1, vk, .int .i64 gi] 26 (0, 0))) ∧ Hid (Sl 3 encP (wr.setCell ⟨w3.heap.size, 5, none⟩ (.slice A' mm c')) vk (l.drop k')) ∧ Hid (SlShape vk) ∧ Hid (trimF c.quarantine (l.drop k') = trimF c.quarantine l) ∧ Hid (wz.grownBy (wr.setCell ⟨w3.heap.size, 5, none⟩ (.slice A' mm c')) (some w3.heap.size)) := fun A' c' hsh hle hA => by
              refine ⟨k + 1, hkn, by rw [HSRR.out], Nat.le_refl _, _, (by have h := row_setCell (o := 5) (.slice A' mm c') KBX.out; simp only [List.setIfInBounds_toArray, List.set_cons_zero, List.set_cons_succ] at h; exact h), ?_, hsh, HTR.out, grown_trans KGR.out (grownBy_setCellJ _ _ _ _)⟩
              refine ⟨A', c', by rw [HMM.out], by rw [HMM.out]; exact hle, hA.imp id fun e => ⟨b, off + 3, e, ?_⟩⟩
              exact ⟨by simp only [World.size_setCell]; exact HLN.out.1, fun j hj u v hv => (World.cell?_setCell_far _ _ _ _ (Ne.symm hbn)).trans (HLN.out.2 j hj u v hv)⟩
            have HFIN := Lib.hid hfin
            clear hfin
            by_cases hc1' : ck = 1
            · subst hc1'
              obtain rfl : mm = 0 := by omega
              have hemp : l.drop (k + 1) = [] := List.eq_nil_of_length_eq_zero HMM.out
              have HEMP := Lib.hid hemp
              clear hemp
              have h2 : c.quarantine < q.size + sr := by omega
              go_wp2
              go_roundg (quar.length + 1 - (k + 1))
              case measure => have := HDL.out; omega
              case rel => exact HFIN.out _ _ (fun A n c e => by cases e; exact ⟨b, off, rfl⟩) (by omega) (.inl HEMP.out)
            · have hcn : ¬ (ck = 1) := hc1'
              by_cases h1 : 1000 < mm + 1
              · have h3 : (1000 : Int) < (mm : Int) + 1 := by omega
                go_wp2
                go_roundg (quar.length + 1 - (k + 1))
                case measure => have := HDL.out; omega
                case rel => exact HFIN.out _ _ (fun A n c e => by cases e; exact ⟨b, off + 3, rfl⟩) (by omega) (.inr rfl)
              · have h2 : c.quarantine < q.size + sr := by omega
                have h3 : ¬ (1000 : Int) < (mm : Int) + 1 := by omega
                go_wp2
                go_roundg (quar.length + 1 - (k + 1))
                case measure => have := HDL.out; omega
                case rel => exact HFIN.out _ _ (fun A n c e => by cases e; exact ⟨b, off + 3, rfl⟩) (by omega) (.inr rfl)
          · have h1 : ¬ 1000 < (l.drop k).length := fun h => ht (.inl h)
            have h2 : ¬ c.quarantine < ((l.drop k).map (·.size)).sum := fun h => ht (.inr h)
            have hcl := c21 (.slice Ak (l.drop k).length ck) (l.drop k) wr KSL.out KSH.out (by rw [hdl]; omega)
            have HCL := Lib.hid hcl
            have htrk : trimF c.quarantine l = l.drop k := by
              rw [← KTR.out]
              cases hd : l.drop k with
              | nil => rfl
              | cons q r =>
                rw [trimF, if_neg]
                rw [hd] at h1 h2
                simp at h1 h2
                omega
            have HTRK := Lib.hid htrk
            have HH1 : ¬ (1000 : Int) < ((l.drop k).length : Int) := by omega
            generalize hsm : ((l.drop k).map (·.size)).sum = sm at h2 hsr ⊢
            generalize hln : (l.drop k).length = ln at u5 hck h1 HH1 HCL hdl
            have HLN := Lib.hid hln
            have HSM := Lib.hid hsm
            clear hcl htrk ht h1 hlk hb0q hsm hln hdl
            go_wp2_with fail
            refine Calls.mono HCL.out ?_
            clear HCL
            rintro e w9 ⟨hB9, A9, c9, rfl, ho9⟩
            have hs9 := hB9.size
            have hbx9 : w9.heap[w3.heap.size]? = some (.cells #[.int .i64 c.page, .int .i64 c.n, .int .i64 c.red, .int .i64 c.quarantine, .slice (some ⟨g1, 0, none⟩) (live.length - 1) c1, .slice Ak ln ck, .int .i64 gi] 26 (0, 0)) := by
              rw [← HLN.out]
              exact (hB9.block _ (blk_lt KBX.out)).trans KBX.out
            have h19 : w9.heap[w.heap.size + 1]? = some (.cells #[.int .i64 0, .int .i64 0, .int .i64 0, .int .i64 0, .slice none 0 0, .slice none 0 0, .int .i64 0] 26 (0, 0)) := (hB9.block _ (by have := KGR.out.size; have := HBr.out.size; omega)).trans ((KGR.out.block _ (by have := HBr.out.size; omega) (by simp; omega)).trans ((HBr.out.block _ (blk_lt T4.out)).trans T4.out))
            have hB39 : Below w.heap.size w w9 := ((T1.out.trans (HBr.out.mono (by omega))).trans (below_of_grown KGR.out (by have := HBr.out.size; omega) (fun j e => by cases e; omega))).trans (hB9.mono (by have := KGR.out.size; have := HBr.out.size; omega))
            have HB39 := Lib.hid hB39
            have hlt7 : w.heap.size ≤ w9.heap.size := hB39.size
            have hgA : g1 < wz.heap.size := by have := HBr.out.size; omega
            have hgB : g1 < wr.heap.size := Nat.lt_of_lt_of_le hgA KGR.out.size
            have hgC : g1 ≠ w3.heap.size := Nat.ne_of_lt hg1lt
            have hrow1 : w9.ownsRow g1 38 3 (.slice (some ⟨g1, 0, none⟩) (live.length - 1) c1) (live.length - 1) ((live.eraseIdx i).flatMap encP) := own_blk T6.out fun g hg => by
              obtain rfl : g1 = g := by simpa [Value.ownBlock] using hg
              exact (hB9.block g1 hgB).trans ((KGR.out.block g1 hgA (fun e => hgC (Option.some.inj e))).trans (HBr.out.block g1 (Nat.lt_trans hg1lt t2)))
            have HROW1 := Lib.hid hrow1
            have HO9 := Lib.hid ho9
            have HBX9 := Lib.hid hbx9
            have q0 := blk_cell hbx9 0
            have f0 : w9.frozen? ⟨w3.heap.size, 0, none⟩ = false := frozen_of_row _ _ _ _ _ hbx9
            have q1 := blk_cell hbx9 1
            have f1 : w9.frozen? ⟨w3.heap.size, 1, none⟩ = false := frozen_of_row _ _ _ _ _ hbx9
            have q2 := blk_cell hbx9 2
            have f2 : w9.frozen? ⟨w3.heap.size, 2, none⟩ = false := frozen_of_row _ _ _ _ _ hbx9
            have q3 := blk_cell hbx9 3
            have f3 : w9.frozen? ⟨w3.heap.size, 3, none⟩ = false := frozen_of_row _ _ _ _ _ hbx9
            have q4 := blk_cell hbx9 4
            have f4 : w9.frozen? ⟨w3.heap.size, 4, none⟩ = false := frozen_of_row _ _ _ _ _ hbx9
            have q5 := blk_cell hbx9 5
            have f5 : w9.frozen? ⟨w3.heap.size, 5, none⟩ = false := frozen_of_row _ _ _ _ _ hbx9
            have q6 := blk_cell hbx9 6
            have f6 : w9.frozen? ⟨w3.heap.size, 6, none⟩ = false := frozen_of_row _ _ _ _ _ hbx9
            simp only [List.getElem?_toArray, List.getElem?_cons_succ, List.getElem?_cons_zero] at q0 q1 q2 q3 q4 q5 q6
            have rq0 := blk_cell h19 0
            have rf0 : w9.frozen? ⟨w.heap.size + 1, 0, none⟩ = false := frozen_of_row _ _ _ _ _ h19
            have rq1 := blk_cell h19 1
            have rf1 : w9.frozen? ⟨w.heap.size + 1, 1, none⟩ = false := frozen_of_row _ _ _ _ _ h19
            have rq2 := blk_cell h19 2
            have rf2 : w9.frozen? ⟨w.heap.size + 1, 2, none⟩ = false := frozen_of_row _ _ _ _ _ h19
            have rq3 := blk_cell h19 3
            have rf3 : w9.frozen? ⟨w.heap.size + 1, 3, none⟩ = false := frozen_of_row _ _ _ _ _ h19
            have rq4 := blk_cell h19 4
            have rf4 : w9.frozen? ⟨w.heap.size + 1, 4, none⟩ = false := frozen_of_row _ _ _ _ _ h19
            have rq5 := blk_cell h19 5
            have rf5 : w9.frozen? ⟨w.heap.size + 1, 5, none⟩ = false := frozen_of_row _ _ _ _ _ h19
            have rq6 := blk_cell h19 6
            have rf6 : w9.frozen? ⟨w.heap.size + 1, 6, none⟩ = false := frozen_of_row _ _ _ _ _ h19
            simp only [List.getElem?_toArray, List.getElem?_cons_succ, List.getElem?_cons_zero] at rq0 rq1 rq2 rq3 rq4 rq5 rq6
            have hne : w.heap.size + 1 ≠ w3.heap.size := by omega
            have hlt1 : w3.heap.size < w9.heap.size := blk_lt hbx9
            have hlt2 : w.heap.size + 1 < w9.heap.size := blk_lt h19
            have hwr : wr.heap.size > w3.heap.size := blk_lt KBX.out
            clear hB9 hrow1 ho9 hbx9 h19 hB39 u3 u5 v5 hsr h2 HH1 hck
            go_wp2
            refine bodyPost_ret (v := .tuple #[hAgg c (.slice (some ⟨g1, 0, none⟩) (live.length - 1) c1) (.slice A9 ln c9) gi, .int .i64 0]) (by simp [results, Try.results19, go_sem, rq0, rq1, rq2, rq3, rq4, rq5, rq6]) rfl ?_
            refine ⟨?_, .inr (.inr ⟨hop.out.good, HBBB.out, _, _, rfl, ?_, ?_⟩)⟩
            · repeat' first | refine Below.setCell ?_ (by simp; try omega) _ | exact HB39.out
            · rw [HI.out]
              refine (Fresh.of_own (own_blk HROW1.out fun g hg => ?_) (by rw [List.length_eraseIdx_of_lt hilt])).base (by omega)
              obtain ⟨h1, cur, h2⟩ := ownB HROW1.out g hg.symm
              have hne1 : g ≠ w3.heap.size := by rintro rfl; rw [HBX9.out] at h2; cases h2
              have hne2 : g ≠ w.heap.size + 1 := by omega
              repeat' first | refine Eq.trans (Below.heap_setCell _ _ _ _ hne2) ?_ | refine Eq.trans (Below.heap_setCell _ _ _ _ hne1) ?_ | rfl
            · rw [HI.out, HP.out, HL2.out, HTRK.out]
              refine (Fresh.of_own (own_blk HO9.out fun g hg => ?_) HLN.out.symm).base (by have := KGR.out.size; have := HBr.out.size; omega)
              obtain ⟨h1, cur, h2⟩ := ownB HO9.out g hg.symm
              have hne1 : g ≠ w3.heap.size := by rintro rfl; rw [HBX9.out] at h2; cases h2
              have hne2 : g ≠ w.heap.size + 1 := by have := KGR.out.size; have := HBr.out.size; omega
              repeat' first | refine Eq.trans (Below.heap_setCell _ _ _ _ hne2) ?_ | refine Eq.trans (Below.heap_setCell _ _ _ _ hne1) ?_ | rfl
end Go.Proofs.Ytbhbjcgbhklieaa
