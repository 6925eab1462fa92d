/- HeapAllocs: the specification's Free. -/
import Derived.Test.YtbhbjcgbhklieaaT1
import Derived.Test.YtbhbjcgbhklieaaP2
import Derived.Test.YtbhbjcgbhklieaaQ1
import Derived.Test.YtbhbjcgbhklieaaS1
import Derived.Test.YtbhbjcgbhklieaaG4
import Derived.Test.YtbhbjcgbhklieaaU0
import Derived.Test.YtbhbjcgbhklieaaU3
import Derived.Test.YtbhbjcgbhklieaaE5
import Derived.Deep.RegionHeld3
import Derived.Deep.QuietTactic
import Derived.BigQuiet
namespace Go.Proofs.Ytbhbjcgbhklieaa
open Go.RowKit Go.Shelf

/-- Free's answer. -/
def FAns (N : Nat) (w' : World) (e : Ending) (err : Int) (r : HRes) : Prop := ∃ A k B m, e = .returned (.tuple #[hAgg r.c (.slice A r.live.length k) (.slice B r.quar.length m) r.gi, .int .i64 err]) ∧ Fresh N w' (.slice A r.live.length k) r.live ∧ Fresh N w' (.slice B r.quar.length m) r.quar
theorem fans_nil (N : Nat) (w : World) (err : Int) : FAns N w (.returned (.tuple #[hNil, .int .i64 err])) err hZ := ⟨none, 0, none, 0, rfl, fresh_nilP _ _, fresh_nilP _ _⟩
theorem FAns.of {N : Nat} {w : World} {c : Conf} {lv qv : Value} {gi err : Int} {l q : List Piece} (h1 : Fresh N w lv l) (h2 : Fresh N w qv q) : FAns N w (.returned (.tuple #[hAgg c lv qv gi, .int .i64 err])) err ⟨c, gi, l, q⟩ := by
  obtain ⟨A, k, rfl, _, _⟩ := id h1.sl
  obtain ⟨B, m, rfl, _, _⟩ := id h2.sl
  exact ⟨A, k, B, m, rfl, h1, h2⟩

set_option maxRecDepth 100000 in
set_option maxHeartbeats 8000000 in
theorem c48 (c : Conf) (lv qv : Value) (gi : Int) (live quar : List Piece) (tg : Int) (w : World) (hl : Sl 3 encP w lv live) (hq : Sl 3 encP w qv quar) (wl : ∀ p ∈ live, WfP p) (wq : ∀ p ∈ quar, WfP p) :
    Calls Try.prog 48 #[hAgg c lv qv gi, .int .u32 tg] w fun e w' => Below w.heap.size w w' ∧ ∃ err r, FreeP c gi live quar tg err r ∧ FAns w.heap.size w' e err r := by
  have HL := Lib.hid hl
  have HQ := Lib.hid hq
  have HWL := Lib.hid wl
  have HWQ := Lib.hid wq
  have hgo := good_iff wl wq (c := c) (gi := gi)
  obtain ⟨A, ca, rfl, _, _⟩ := hl
  obtain ⟨B, cb, rfl, _, _⟩ := hq
  have hw1 := (below_alloc1 w (.cells #[.int .i64 c.page, .int .i64 c.n, .int .i64 c.red, .int .i64 c.quarantine, .slice A live.length ca, .slice B quar.length cb, .int .i64 gi] 26)).alloc (by simp) (.cells #[.int .i64 0, .int .i64 0, .int .i64 0, .int .i64 0, .slice none 0 0, .slice none 0 0, .int .i64 0] 26)
  have hcall := c18 c _ _ gi live quar _ (HL.out.below hw1) (HQ.out.below hw1) wl wq
  have HW1 := Lib.hid hw1
  have HGO := Lib.hid hgo
  have HC := Lib.hid hcall
  clear wl wq hw1 hgo hcall
  go_enter Try.func48, Try.ntmps48
  go_wp2_with fail
  refine Calls.mono HC.out ?_
  clear HC
  rintro e w1 ⟨hB, hr⟩
  have hb0 : w1.heap[w.heap.size]? = some (.cells #[.int .i64 c.page, .int .i64 c.n, .int .i64 c.red, .int .i64 c.quarantine, .slice A live.length ca, .slice B quar.length cb, .int .i64 gi] 26 (0, 0)) := (hB.block _ (by simp; try omega)).trans (hal_old (hal_new rfl))
  have hb1 : w1.heap[w.heap.size + 1]? = some (.cells #[.int .i64 0, .int .i64 0, .int .i64 0, .int .i64 0, .slice none 0 0, .slice none 0 0, .int .i64 0] 26 (0, 0)) := (hB.block _ (by simp)).trans (hal_new (by simp))
  have HBW : Hid (Below w.heap.size w w1) := HW1.out.trans (hB.mono (by simp; try omega))
  have hsz : w.heap.size + 2 ≤ w1.heap.size := by have := hB.size; simpa using this
  clear hB
  have q0 := blk_cell hb1 0
  have fq0 : w1.frozen? ⟨w.heap.size + 1, 0, none⟩ = false := frozen_of_row _ _ _ _ _ hb1
  have q1 := blk_cell hb1 1
  have fq1 : w1.frozen? ⟨w.heap.size + 1, 1, none⟩ = false := frozen_of_row _ _ _ _ _ hb1
  have q2 := blk_cell hb1 2
  have fq2 : w1.frozen? ⟨w.heap.size + 1, 2, none⟩ = false := frozen_of_row _ _ _ _ _ hb1
  have q3 := blk_cell hb1 3
  have fq3 : w1.frozen? ⟨w.heap.size + 1, 3, none⟩ = false := frozen_of_row _ _ _ _ _ hb1
  have q4 := blk_cell hb1 4
  have fq4 : w1.frozen? ⟨w.heap.size + 1, 4, none⟩ = false := frozen_of_row _ _ _ _ _ hb1
  have q5 := blk_cell hb1 5
  have fq5 : w1.frozen? ⟨w.heap.size + 1, 5, none⟩ = false := frozen_of_row _ _ _ _ _ hb1
  have q6 := blk_cell hb1 6
  have fq6 : w1.frozen? ⟨w.heap.size + 1, 6, none⟩ = false := frozen_of_row _ _ _ _ _ hb1
  simp only [List.getElem?_toArray, List.getElem?_cons_succ, List.getElem?_cons_zero] at q0 q1 q2 q3 q4 q5 q6
  have p0 := blk_cell hb0 0
  have p1 := blk_cell hb0 1
  have p2 := blk_cell hb0 2
  have p3 := blk_cell hb0 3
  have p4 := blk_cell hb0 4
  have p5 := blk_cell hb0 5
  have p6 := blk_cell hb0 6
  simp only [List.getElem?_toArray, List.getElem?_cons_succ, List.getElem?_cons_zero] at p0 p1 p2 p3 p4 p5 p6
  have HB0 := Lib.hid hb0
  have HB1 := Lib.hid hb1
  clear hb0 hb1
  obtain ⟨hg, rfl⟩ | ⟨hg, rfl⟩ := hr
  · have HG : Hid (¬ Good c gi live quar) := fun h => hg (HGO.out.1 h)
    clear hg
    go_wp2
    refine bodyPost_ret (v := .tuple #[hNil, .int .i64 60]) (by simp [results, Try.results48, go_sem, q0, q1, q2, q3, q4, q5, q6]) rfl ⟨?_, 60, hZ, .inl ⟨HG.out, rfl, rfl⟩, fans_nil _ _ _⟩
    repeat' first | refine Below.setCell ?_ (by simp; try omega) _ | refine Below.alloc ?_ (by simp; try omega) _ | exact HBW.out
  have hgood := HGO.out.2 hg
  have hn1 := hg.n1
  have hn2 := hg.n2
  have hwf := good_wf hg HWL.out HWQ.out
  have hlv := c81 c (.slice A live.length ca) (.slice B quar.length cb) gi live tg w1 (HL.out.below HBW.out) hn1
  have hrl := rLive_eq hg.pos tg
  have HGP := Lib.hid hg
  have HGD := Lib.hid hgood
  have HWF := Lib.hid hwf
  have HLV := Lib.hid hlv
  have HRL := Lib.hid hrl
  clear hg hgood hwf hlv hrl
  go_wp2_with fail
  refine Calls.mono HLV.out ?_
  clear HLV
  rintro e w2 ⟨rfl, hB2⟩
  rw [HRL.out]
  clear HRL
  have hb0 : w2.heap[w.heap.size]? = some (.cells #[.int .i64 c.page, .int .i64 c.n, .int .i64 c.red, .int .i64 c.quarantine, .slice A live.length ca, .slice B quar.length cb, .int .i64 gi] 26 (0, 0)) := (hB2.block _ (by omega)).trans HB0.out
  have hb1 : w2.heap[w.heap.size + 1]? = some (.cells #[.int .i64 0, .int .i64 0, .int .i64 0, .int .i64 0, .slice none 0 0, .slice none 0 0, .int .i64 0] 26 (0, 0)) := (hB2.block _ (by omega)).trans HB1.out
  have hsz2 : w.heap.size + 2 ≤ w2.heap.size := Nat.le_trans hsz hB2.size
  have HBW2 : Hid (Below w.heap.size w w2) := HBW.out.trans (hB2.mono (by omega))
  clear hB2 HBW HB0 HB1 q0 q1 q2 q3 q4 q5 q6 fq0 fq1 fq2 fq3 fq4 fq5 fq6 p0 p1 p2 p3 p4 p5 p6 HW1
  have HBW := HBW2
  clear HBW2
  have q0 := blk_cell hb1 0
  have fq0 : w2.frozen? ⟨w.heap.size + 1, 0, none⟩ = false := frozen_of_row _ _ _ _ _ hb1
  have q1 := blk_cell hb1 1
  have fq1 : w2.frozen? ⟨w.heap.size + 1, 1, none⟩ = false := frozen_of_row _ _ _ _ _ hb1
  have q2 := blk_cell hb1 2
  have fq2 : w2.frozen? ⟨w.heap.size + 1, 2, none⟩ = false := frozen_of_row _ _ _ _ _ hb1
  have q3 := blk_cell hb1 3
  have fq3 : w2.frozen? ⟨w.heap.size + 1, 3, none⟩ = false := frozen_of_row _ _ _ _ _ hb1
  have q4 := blk_cell hb1 4
  have fq4 : w2.frozen? ⟨w.heap.size + 1, 4, none⟩ = false := frozen_of_row _ _ _ _ _ hb1
  have q5 := blk_cell hb1 5
  have fq5 : w2.frozen? ⟨w.heap.size + 1, 5, none⟩ = false := frozen_of_row _ _ _ _ _ hb1
  have q6 := blk_cell hb1 6
  have fq6 : w2.frozen? ⟨w.heap.size + 1, 6, none⟩ = false := frozen_of_row _ _ _ _ _ hb1
  simp only [List.getElem?_toArray, List.getElem?_cons_succ, List.getElem?_cons_zero] at q0 q1 q2 q3 q4 q5 q6
  have p0 := blk_cell hb0 0
  have p1 := blk_cell hb0 1
  have p2 := blk_cell hb0 2
  have p3 := blk_cell hb0 3
  have p4 := blk_cell hb0 4
  have p5 := blk_cell hb0 5
  have p6 := blk_cell hb0 6
  simp only [List.getElem?_toArray, List.getElem?_cons_succ, List.getElem?_cons_zero] at p0 p1 p2 p3 p4 p5 p6
  have HB0 := Lib.hid hb0
  have HB1 := Lib.hid hb1
  clear hb0 hb1
  cases his : isI live tg with
  | false =>
    have HIS := Lib.hid his
    clear his
    simp only [Bool.false_eq_true, if_false]
    go_wp2
    refine bodyPost_ret (v := .tuple #[hNil, .int .i64 61]) (by simp [results, Try.results48, go_sem, q0, q1, q2, q3, q4, q5, q6]) rfl ⟨?_, 61, hZ, .inr (.inl ⟨HGD.out, HIS.out, rfl, rfl⟩), fans_nil _ _ _⟩
    repeat' first | refine Below.setCell ?_ (by simp; try omega) _ | refine Below.alloc ?_ (by simp; try omega) _ | exact HBW.out
  | true =>
  obtain ⟨hilt, hm2, hm3⟩ := at_mem his
  have HIS := Lib.hid his
  rw [if_pos rfl]
  clear his
  obtain ⟨i, hi⟩ : ∃ i, atI live tg = i := ⟨_, rfl⟩
  rw [hi] at hilt hm2 hm3 ⊢
  have HI := Lib.hid hi
  have hin : ¬ (i : Int) < 0 := by omega
  have HCP := Lib.hid (c84 c (.slice A live.length ca) (.slice B quar.length cb) gi live quar w2 (HL.out.below HBW.out) (HQ.out.below HBW.out) hn1 hn2)
  clear hi hm2 hm3
  go_wp2_with fail
  refine Calls.mono HCP.out ?_
  clear HCP
  rintro e w3 ⟨hB3, A1, c1, A2, c2, rfl, _, _, ho1, ho2, hsep⟩
  have HBW3 : Hid (Below w.heap.size w w3) := HBW.out.trans (hB3.mono (by omega))
  have HB13 : Hid (w3.heap[w.heap.size + 1]? = some (.cells #[.int .i64 0, .int .i64 0, .int .i64 0, .int .i64 0, .slice none 0 0, .slice none 0 0, .int .i64 0] 26 (0, 0))) := (hB3.block _ (by omega)).trans HB1.out
  have hsz3 : w2.heap.size ≤ w3.heap.size := hB3.size
  obtain ⟨g1, cap1, cur1, e1, hg1b, hg1, hc1, hm1, hcs1, ht1⟩ := ho1.2.resolve_left (by rintro ⟨_, h⟩; omega)
  cases e1
  have hg1lt := blk_lt hg1
  have HSEP := Lib.hid hsep
  have HO1 := Lib.hid ho1
  have HO2 := Lib.hid ho2
  have HG1 := Lib.hid hg1
  have HT1 := Lib.hid ht1
  clear hB3 ho1 ho2 hsep hg1 ht1 HB0 HB1 HBW q0 q1 q2 q3 q4 q5 q6 fq0 fq1 fq2 fq3 fq4 fq5 fq6 p0 p1 p2 p3 p4 p5 p6
  go_wp2
  refine gen_worldP (fun W => Below w3.heap.size w3 W ∧ W.heap.size = w3.heap.size + 1 ∧ W.heap[w3.heap.size]? = some (.cells #[.int .i64 c.page, .int .i64 c.n, .int .i64 c.red, .int .i64 c.quarantine, .slice (some ⟨g1, 0, none⟩) live.length c1, .slice A2 quar.length c2, .int .i64 gi] 26 (0, 0))) ?_ ?_
  · refine ⟨?_, by simp, hal_new rfl⟩
    repeat' first | refine Below.setCell ?_ (by simp; try omega) _ | refine Below.alloc ?_ (by simp; try omega) _ | exact Below.refl _ _
  rintro W ⟨hBW, hsW, hbx⟩
  have hg1W : W.heap[g1]? = some (.cells cur1 38 (0, 0)) := (hBW.block g1 hg1lt).trans HG1.out
  have x4 := blk_cell hbx 4
  have x5 := blk_cell hbx 5
  simp only [List.getElem?_toArray, List.getElem?_cons_succ, List.getElem?_cons_zero] at x4 x5
  obtain ⟨p, hp⟩ : ∃ p, live[i]! = p := ⟨_, rfl⟩
  have hpc : ∀ k u, (encP p)[k]? = some u → W.cell? ⟨g1, i * 3 + k, none⟩ = some u := fun k u hu => by
    have hk : k < 3 := (List.getElem?_eq_some_iff.1 hu).1
    rw [row_cell hg1W, ← hu, ← hp, ← flat_get encP 3 encP_len live i k hilt hk, ← HT1.out, List.getElem?_take_of_lt (by omega)]
  have m0 : W.cell? ⟨g1, i * 3, none⟩ = some (.int .u32 p.pos) := hpc 0 _ rfl
  have m1 : W.cell? ⟨g1, i * 3 + 1, none⟩ = some (.int .i64 p.size) := hpc 1 _ rfl
  have m2 : W.cell? ⟨g1, i * 3 + 2, none⟩ = some (.int .i64 p.born) := hpc 2 _ rfl
  have HP := Lib.hid hp
  have HBX := Lib.hid hbx
  have HG1W := Lib.hid hg1W
  have HBWW := Lib.hid hBW
  have hmx : Try.prog.follows .mixedOrders = true := by kernel_rfl
  clear hp hbx hg1W hBW hpc
  refine region_join (fun gg cap T => ((((((((((T.setIfInBounds 21 (.pointer (some ⟨w3.heap.size, 5, none⟩))).setIfInBounds 22 (.slice A2 quar.length c2)).setIfInBounds 23 (.pointer (some ⟨w3.heap.size, 4, none⟩))).setIfInBounds 24 (.slice (some ⟨g1, 0, none⟩) live.length c1)).setIfInBounds 25 (.int .i64 i)).setIfInBounds 26 (.pointer (some ⟨g1, i * 3, none⟩))).setIfInBounds 27 (.agg #[.int .u32 p.pos, .int .i64 p.size, .int .i64 p.born])).setIfInBounds 28 (.slice (some ⟨w3.heap.size + 1, 0, none⟩) 1 1)).setIfInBounds 29 (.slice (some ⟨gg, 0, none⟩) (quar.length + 1) cap)).setIfInBounds 30 (.pointer (some ⟨w3.heap.size, 5, none⟩)))) (fun gg cap W5 => Below w2.heap.size W W5 ∧ w3.heap.size + 1 ≤ W5.heap.size ∧ W5.heap[w3.heap.size]? = some (.cells #[.int .i64 c.page, .int .i64 c.n, .int .i64 c.red, .int .i64 c.quarantine, .slice (some ⟨g1, 0, none⟩) live.length c1, .slice (some ⟨gg, 0, none⟩) (quar.length + 1) cap, .int .i64 gi] 26 (0, 0)) ∧ W5.heap[g1]? = some (.cells cur1 38 (0, 0)) ∧ W5.ownsRow w2.heap.size 38 3 (.slice (some ⟨gg, 0, none⟩) (quar.length + 1) cap) (quar.length + 1) ((quar ++ [p]).flatMap encP) ∧ gg ≠ g1) ?_ ?_
  · refine wp_region_held_drew (S := fun w' => w'.cell? ⟨w3.heap.size, 4, none⟩ = some (.slice (some ⟨g1, 0, none⟩) live.length c1) ∧ w'.cell? ⟨g1, i * 3, none⟩ = some (.int .u32 p.pos) ∧ w'.cell? ⟨g1, i * 3 + 1, none⟩ = some (.int .i64 p.size) ∧ w'.cell? ⟨g1, i * 3 + 2, none⟩ = some (.int .i64 p.born)) hmx ⟨x4, m0, m1, m2⟩ ?_
    intro hS0
    refine wpAnyH_take (i := 0) (v := .pointer (some ⟨w3.heap.size, 5, none⟩)) rfl (by kernel_rfl) (by kernel_rfl) (by kernel_rfl) (fun _ _ _ h => nomatch h.1) (Or.inl ⟨by rfl, ?hy⟩) hS0 ?_
    case hy => intro w9 hSw; obtain ⟨s0, s1, s2, s3⟩ := hSw; go_simp
    simp only [Act.put, List.setIfInBounds_toArray, List.set_cons_zero, List.set_cons_succ]
    refine wpAnyH_take (i := 2) (v := .pointer (some ⟨w3.heap.size, 4, none⟩)) rfl (by kernel_rfl) (by kernel_rfl) (by kernel_rfl) (fun _ _ _ h => nomatch h.1) (Or.inl ⟨by rfl, ?hy⟩) hS0 ?_
    case hy => intro w9 hSw; obtain ⟨s0, s1, s2, s3⟩ := hSw; go_simp
    simp only [Act.put]
    refine wpAnyH_take (i := 3) (v := .slice (some ⟨g1, 0, none⟩) live.length c1) rfl (by kernel_rfl) (by kernel_rfl) (by kernel_rfl) (fun _ _ _ h => nomatch h.1) (Or.inl ⟨by rfl, ?hy⟩) hS0 ?_
    case hy => intro w9 hSw; obtain ⟨s0, s1, s2, s3⟩ := hSw; go_simp
    simp only [Act.put]
    refine wpAnyH_take (i := 4) (v := .int .i64 i) rfl (by kernel_rfl) (by kernel_rfl) (by kernel_rfl) (fun _ _ _ h => nomatch h.1) (Or.inl ⟨by rfl, ?hy⟩) hS0 ?_
    case hy => intro w9 hSw; obtain ⟨s0, s1, s2, s3⟩ := hSw; go_simp
    simp only [Act.put]
    refine wpAnyH_take (i := 5) (v := .pointer (some ⟨g1, i * 3, none⟩)) rfl (by kernel_rfl) (by kernel_rfl) (by kernel_rfl) (fun _ _ _ h => nomatch h.1) (Or.inl ⟨by rfl, ?hy⟩) hS0 ?_
    case hy => intro w9 hSw; obtain ⟨s0, s1, s2, s3⟩ := hSw; go_simp
    simp only [Act.put]
    refine wpAnyH_take (i := 6) (v := .agg #[.int .u32 p.pos, .int .i64 p.size, .int .i64 p.born]) rfl (by kernel_rfl) (by kernel_rfl) (by kernel_rfl) (fun _ _ _ h => nomatch h.1) (Or.inl ⟨by rfl, ?hy⟩) hS0 ?_
    case hy => intro w9 hSw; obtain ⟨s0, s1, s2, s3⟩ := hSw; go_simp
    simp only [Act.put]
    have x5' : (W.drew.alloc (.cells #[.int .u32 p.pos, .int .i64 p.size, .int .i64 p.born] 38)).cell? ⟨w3.heap.size, 5, none⟩ = some (.slice A2 quar.length c2) := cells_alloc (w := W.drew) x5
    have hS1 := (show (W.drew.alloc (.cells #[.int .u32 p.pos, .int .i64 p.size, .int .i64 p.born] 38)).cell? ⟨w3.heap.size, 4, none⟩ = some (.slice (some ⟨g1, 0, none⟩) live.length c1) ∧ (W.drew.alloc (.cells #[.int .u32 p.pos, .int .i64 p.size, .int .i64 p.born] 38)).cell? ⟨g1, i * 3, none⟩ = some (.int .u32 p.pos) ∧ (W.drew.alloc (.cells #[.int .u32 p.pos, .int .i64 p.size, .int .i64 p.born] 38)).cell? ⟨g1, i * 3 + 1, none⟩ = some (.int .i64 p.size) ∧ (W.drew.alloc (.cells #[.int .u32 p.pos, .int .i64 p.size, .int .i64 p.born] 38)).cell? ⟨g1, i * 3 + 2, none⟩ = some (.int .i64 p.born) from ⟨cells_alloc hS0.1, cells_alloc hS0.2.1, cells_alloc hS0.2.2.1, cells_alloc hS0.2.2.2⟩)
    refine wpAnyH_ready (rs := [1, 7]) (by kernel_rfl) (by simp) ?_
    refine AllReadyH.cons rfl (fun K hK => ?_) (AllReadyH.cons rfl (fun K hK => ?_) AllReadyH.nil)
    go_simp
    refine hK.out _ _ hS0 (fun _ => ?_)
    clear hK K
    refine wpAnyH_ready (rs := [7]) (by kernel_rfl) (by simp) ?_
    refine AllReadyH.cons rfl (fun K hK => ?_) AllReadyH.nil
    go_simp
    refine hK.out _ _ hS1 (fun _ => ?_)
    clear hK K
    rotate_left
    go_simp
    refine hK.out _ _ hS1 (fun _ => ?_)
    clear hK K
    refine wpAnyH_ready (rs := [1]) (by kernel_rfl) (by simp) ?_
    refine AllReadyH.cons rfl (fun K hK => ?_) AllReadyH.nil
    go_simp
    refine hK.out _ _ hS1 (fun _ => ?_)
    clear hK K
    all_goals
      have hro2 : (W.drew.alloc (.cells #[.int .u32 p.pos, .int .i64 p.size, .int .i64 p.born] 38)).ownsRow w2.heap.size 38 3 (.slice A2 quar.length c2) quar.length (quar.flatMap encP) := own_base (own_blk HO2.out fun g hg => (Below.heap_alloc W.drew _ g (by have := own_lt HO2.out g hg; show g < W.heap.size; omega)).trans (HBWW.out.block g (own_lt HO2.out g hg).2)) (Nat.le_refl _)
      obtain ⟨i0, hi0, hi1, hi2, hi3⟩ := info38'
      refine wpAnyH_ready (rs := [8]) (by kernel_rfl) (by simp) ?_
      refine AllReadyH.cons rfl (fun K hK => ?_) AllReadyH.nil
      refine step_append_lies _ rfl _ _ _ rfl w2.heap.size 38 i0 (.agg #[.int .u32 0, .int .i64 0, .int .i64 0]) 3 24 (by kernel_rfl) hi0 hi1 hi2 hi3 rfl (by omega) (.slice A2 quar.length c2) quar.length (quar.flatMap encP) rfl hro2 ⟨w3.heap.size + 1, 0, none⟩ 1 1 (encP p) rfl rfl (fun j u hu => World.news_of_block (hal_new (w := W.drew) (o := .cells #[.int .u32 p.pos, .int .i64 p.size, .int .i64 p.born] 38) hsW.symm) j u hu) (by intro u hu; simp [encP] at hu; rcases hu with rfl | rfl | rfl <;> rfl) (by omega) (by unfold maxLen; omega) (by omega) (by simp; omega) _ rfl ?_
      intro gg cap W4 hown4 hgrow4 hat4 hlt4
      have hb : ∀ k o, k < w3.heap.size + 1 → (∀ g, (Value.slice A2 quar.length c2).ownBlock = some g → k ≠ g) → W.heap[k]? = some o → W4.heap[k]? = some o := fun k o hk hne ho => (hgrow4.block k (by simp; omega) (fun e => hne k e.symm rfl)).trans ((Below.heap_alloc W.drew _ k (by show k < W.heap.size; omega)).trans ho)
      have hg1W4 := hb g1 _ (by omega) (fun g hg e => HSEP.out g1 rfl (by rw [e]; exact hg)) HG1W.out
      have hbx4 := hb w3.heap.size _ (by omega) (fun g hg => by have := own_lt HO2.out g hg; omega) HBX.out
      have hgg1 : gg ≠ g1 := by
        rintro rfl
        rcases hat4 with h | h
        · exact HSEP.out _ rfl h
        · simp at h; omega
      have hggx : gg ≠ w3.heap.size := by
        rintro rfl
        rcases hat4 with h | h
        · have := own_lt HO2.out _ h; omega
        · simp at h; omega
      have hBW4 : Below w2.heap.size W W4 := ⟨hgrow4.os, hgrow4.tape, hgrow4.output, by have := hgrow4.size; simp at this ⊢; omega, fun k hk => by
        obtain ⟨o, ho⟩ : ∃ o, W.heap[k]? = some o := ⟨W.heap[k]'(by omega), Array.getElem?_eq_getElem _⟩
        rw [ho]
        exact hb k _ (by omega) (fun g hg => by have := own_lt HO2.out g hg; omega) ho⟩
      have hce : ∀ k, W4.cell? ⟨g1, k, none⟩ = W.cell? ⟨g1, k, none⟩ := fun k => by simp only [World.cell?, hg1W4, HG1W.out]
      have y4 := blk_cell hbx4 4
      have y5 := blk_cell hbx4 5
      simp only [List.getElem?_toArray, List.getElem?_cons_succ, List.getElem?_cons_zero] at y4 y5
      have z5 : W4.frozen? ⟨w3.heap.size, 5, none⟩ = false := frozen_of_row _ _ _ _ _ hbx4
      refine hK.out _ _ ⟨y4, (hce _).trans m0, (hce _).trans m1, (hce _).trans m2⟩ (fun hS4 => ?_)
      clear hK K
      simp only [Act.put, List.setIfInBounds_toArray]
      refine wpAnyH_take (i := 9) (v := .pointer (some ⟨w3.heap.size, 5, none⟩)) rfl (by kernel_rfl) (by kernel_rfl) (by kernel_rfl) (fun _ _ _ h => nomatch h.1) (Or.inl ⟨by rfl, ?hy⟩) hS4 ?_
      case hy => intro w9 hSw; obtain ⟨s0, s1, s2, s3⟩ := hSw; go_simp
      simp only [Act.put]
      refine wpAnyH_ready (rs := [10]) (by kernel_rfl) (by simp) ?_
      refine AllReadyH.cons rfl (fun K hK => ?_) AllReadyH.nil
      go_simp
      have hne : (w3.heap.size : Nat) ≠ g1 := by omega
      refine hK.out _ _ ⟨?_, (World.cell?_setCell_far _ _ _ _ hne).trans ((hce _).trans m0), (World.cell?_setCell_far _ _ _ _ hne).trans ((hce _).trans m1), (World.cell?_setCell_far _ _ _ _ hne).trans ((hce _).trans m2)⟩ (fun _ => ?_)
      · exact (World.cell?_setCell_other _ _ _ _ (by simp)).trans y4
      clear hK K
      refine wpAnyH_done (by kernel_rfl) ?_ _
      go_simp
      refine ⟨gg, cap, ?_, ?_⟩
      · exact ⟨rfl, rfl⟩
      · have hs4 := hgrow4.size
        simp at hs4
        refine ⟨hBW4.setCell (p := ⟨w3.heap.size, 5, none⟩) (by simp; omega) _, by first | omega | (simp; omega), by simpa using row_setCell (o := 5) (.slice (some ⟨gg, 0, none⟩) (quar.length + 1) cap) hbx4, (Below.heap_setCell _ _ _ _ (Ne.symm hne)).trans hg1W4, ?_, hgg1⟩
        refine own_blk hown4 fun g hg => Below.heap_setCell _ _ _ _ ?_
        cases hg; exact hggx
  · rintro gg cap W5 ⟨r1, r2, r3, r4, r5, r6⟩
    simp only [List.setIfInBounds_toArray, List.set_cons_zero, List.set_cons_succ]
    have hrow1 : W5.ownsRow w2.heap.size 38 3 (.slice (some ⟨g1, 0, none⟩) live.length c1) live.length (live.flatMap encP) := own_blk HO1.out fun g hg => by
      obtain rfl : g1 = g := by simpa [Value.ownBlock] using hg
      exact r4.trans HG1.out.symm
    have hsl1 : Sl 3 encP W5 (.slice (some ⟨g1, 0, none⟩) live.length c1) live := (Fresh.of_own hrow1 rfl).sl
    have R5 := Lib.hid r5
    obtain ⟨N, hN⟩ : ∃ N, live.length = N := ⟨_, rfl⟩
    obtain ⟨M, hM⟩ : ∃ M, quar.length + 1 = M := ⟨_, rfl⟩
    rw [hN] at hsl1 r3 hilt hc1 hn1
    rw [hM] at r3 R5
    rw [hN, hM]
    have HN := Lib.hid hN
    have HM := Lib.hid hM
    have hnil : W5.heap[w.heap.size + 1]? = some (.cells #[.int .i64 0, .int .i64 0, .int .i64 0, .int .i64 0, .slice none 0 0, .slice none 0 0, .int .i64 0] 26 (0, 0)) := (r1.block _ (by omega)).trans ((HBWW.out.block _ (by omega)).trans HB13.out)
    have HB5 : Hid (Below w.heap.size w W5) := HBW3.out.trans ((HBWW.out.mono (by omega)).trans (r1.mono (by omega)))
    have hiN : i ≤ N := by omega
    have hmp : Hid (∀ q ∈ quar ++ [p], 0 ≤ q.size ∧ q.size ≤ 65536) := fun q hq => by
      have hgs := HWF.out.2
      rcases List.mem_append.1 hq with hq | hq
      · exact (hgs q (List.mem_append_right _ hq)).2
      · have : q = live[i]! := by rw [HP.out]; simpa using hq
        subst this
        exact (hgs _ (List.mem_append_left _ (by rw [getElem!_pos live i (by rw [HN.out]; exact hilt)]; exact List.getElem_mem _))).2
    have hcf := HGP.out.conf
    simp only [okConf, decide_eq_true_eq] at hcf
    have hQ0 : 0 ≤ c.quarantine := by omega
    have hQ1 : c.quarantine ≤ 65536 := by omega
    clear hcf
    obtain ⟨v1, u1, hr1, hq1, hgr1⟩ := append_sl W5.heap.size (.slice none 0 0) [] (live.take i) (.slice (some ⟨g1, 0, none⟩) i c1) W5 (World.ownsRow_nil _ _ _ _) (sl_take hsl1 hN hiN) (by simp) (by rw [List.length_take]; omega) (Nat.le_refl _)
    have hu1 : Below W5.heap.size W5 u1 := below_of_grown hgr1 (Nat.le_refl _) (by simp [Value.ownBlock])
    have hs1 := hu1.size
    have hsl1' := hsl1.below hu1
    have hbx1 := (hu1.block _ (blk_lt r3)).trans r3
    have hlt5 : w3.heap.size < W5.heap.size := blk_lt r3
    have hltu1 : w3.heap.size < u1.heap.size := blk_lt hbx1
    have HR1 := Lib.hid hr1
    have r4' := blk_cell r3 4
    have q4 := blk_cell hbx1 4
    simp only [List.getElem?_toArray, List.getElem?_cons_succ, List.getElem?_cons_zero] at r4' q4
    have hgrow2 : ∀ v2 u2, u2.ownsRow W5.heap.size 38 3 v2 ([] ++ live.take i ++ live.drop (i + 1)).length (([] ++ live.take i ++ live.drop (i + 1)).flatMap encP) → u1.grownBy u2 v1.ownBlock → Below W5.heap.size W5 u2 ∧ Fresh W5.heap.size u2 v2 (live.eraseIdx i) := fun v2 u2 h1 h2 => by
      have he : [] ++ live.take i ++ live.drop (i + 1) = live.eraseIdx i := by rw [List.nil_append, List.eraseIdx_eq_take_drop_succ]
      rw [he] at h1
      exact ⟨hu1.trans (below_of_grown h2 hs1 (fun j e => (own_lt hq1 j e).1)), Fresh.of_own h1 rfl⟩
    have hsrc : ∃ src, (src = (if c1 = i + 1 then Value.slice (some ⟨g1, 0, none⟩) (N - (i + 1)) 0 else .slice (some ⟨g1, (i + 1) * 3, none⟩) (N - (i + 1)) (c1 - (i + 1)))) ∧ Sl 3 encP u1 src (live.drop (i + 1)) := by
      refine ⟨_, rfl, ?_⟩
      by_cases hck : c1 = i + 1
      · rw [if_pos hck]
        have h0 : live.drop (i + 1) = [] := List.drop_eq_nil_iff.2 (by rw [hN]; omega)
        rw [h0]; exact ⟨some ⟨g1, 0, none⟩, 0, by rw [show N - (i + 1) = 0 by omega]; rfl, Nat.le_refl _, .inl rfl⟩
      · rw [if_neg hck]
        have h9 := sl_from hsl1' hN (show i + 1 ≤ N by omega)
        rw [Nat.zero_add] at h9; exact h9
    obtain ⟨src, hsrc, hsl2⟩ := hsrc
    obtain ⟨v2, u2, hr2, hq2, hgr2⟩ := append_sl W5.heap.size v1 ([] ++ live.take i) (live.drop (i + 1)) src u1 hq1 hsl2 (by rw [List.nil_append, List.length_take]; omega) (by rw [List.length_drop]; omega) hs1
    obtain ⟨hu2, hfr2⟩ := hgrow2 v2 u2 hq2 hgr2
    have hbx2 := (hu2.block _ (blk_lt r3)).trans r3
    have hnil2 := (hu2.block _ (by omega)).trans hnil
    have hltu2 : w3.heap.size < u2.heap.size := blk_lt hbx2
    have s4 := blk_cell hbx2 4
    have fs4 : u2.frozen? ⟨w3.heap.size, 4, none⟩ = false := frozen_of_row _ _ _ _ _ hbx2
    simp only [List.getElem?_toArray, List.getElem?_cons_succ, List.getElem?_cons_zero] at s4
    have hers : (live.eraseIdx i).length = N - 1 := by rw [List.length_eraseIdx_of_lt (by rw [hN]; exact hilt), hN]
    obtain ⟨A3, c3, rfl⟩ : ∃ A kk, v2 = .slice A (N - 1) kk := by obtain ⟨A, c', h, _⟩ := hfr2.sl; rw [hers] at h; exact ⟨A, c', h⟩
    have hgq : Hid (u2.ownsRow w2.heap.size 38 3 (.slice (some ⟨gg, 0, none⟩) M cap) M ((quar ++ [p]).flatMap encP)) := own_belowA R5.out hu2
    have HFR2 := Lib.hid hfr2
    have HERS := Lib.hid hers
    have HU2 : Hid (Below w.heap.size w u2) := HB5.out.trans (hu2.mono (by omega))
    have hs25 := hu2.size
    have HBX2 := Lib.hid hbx2
    have HNIL2 := Lib.hid hnil2
    have HR2 := Lib.hid hr2
    have HSRC := Lib.hid hsrc
    have hN9 : N - 1 + 1 = N := by omega
    have hgg3 : Hid (gg ≠ w3.heap.size) := by
      show gg ≠ w3.heap.size
      rintro rfl
      obtain ⟨_, cur, h2⟩ := ownB R5.out _ rfl
      rw [r3] at h2; cases h2
    clear r1 r2 r3 r4 r5 r6 hrow1 hsl1 hN hM hnil hr1 hq1 hgr1 hu1 hsl1' hbx1 hgrow2 hsrc hsl2 hr2 hq2 hgr2 hu2 hfr2 hbx2 hnil2 hers HG1 HT1 HG1W HO1 HO2 HSEP HBX x4 x5 m0 m1 m2 HBWW
    have w1i : IntKind.i64.wrap ((i : Int) + 1) = ((i + 1 : Nat) : Int) := by rw [IntKind.wrap_i64]; omega
    have hrow : Hid ((u2.setCell ⟨w3.heap.size, 4, none⟩ (.slice A3 (N - 1) c3)).heap[w3.heap.size]? = some (.cells #[.int .i64 c.page, .int .i64 c.n, .int .i64 c.red, .int .i64 c.quarantine, .slice A3 (N - 1) c3, .slice (some ⟨gg, 0, none⟩) M cap, .int .i64 gi] 26 (0, 0))) := by
      have e1 := row_setCell (o := 4) (.slice A3 (N - 1) c3) HBX2.out
      simp only [List.setIfInBounds_toArray, List.set_cons_zero, List.set_cons_succ] at e1
      exact e1
    have hkp : Hid (∀ j, j ≠ w3.heap.size → (u2.setCell ⟨w3.heap.size, 4, none⟩ (.slice A3 (N - 1) c3)).heap[j]? = u2.heap[j]?) := fun j hj => Below.heap_setCell _ _ _ _ hj
    have hnil5 : Hid ((u2.setCell ⟨w3.heap.size, 4, none⟩ (.slice A3 (N - 1) c3)).heap[w.heap.size + 1]? = some (.cells #[.int .i64 0, .int .i64 0, .int .i64 0, .int .i64 0, .slice none 0 0, .slice none 0 0, .int .i64 0] 26 (0, 0))) := (hkp.out _ (by omega)).trans HNIL2.out
    have hbel5 : Hid (Below w.heap.size w (u2.setCell ⟨w3.heap.size, 4, none⟩ (.slice A3 (N - 1) c3))) := HU2.out.setCell (by simp; omega) _
    have hsz5 : Hid ((u2.setCell ⟨w3.heap.size, 4, none⟩ (.slice A3 (N - 1) c3)).heap.size = u2.heap.size) := by show _ = _; simp [World.setCell]
    by_cases hck : c1 = i + 1
    · obtain rfl : src = .slice (some ⟨g1, 0, none⟩) (N - (i + 1)) 0 := by have := HSRC.out; rw [if_pos hck] at this; exact this
      clear HSRC
      go_wp2_with (first
        | (at_builtin; refine Lib.wpList_append_run _ rfl _ _ _ _ rfl _ _ rfl rfl _ _ HR1.out ?_; clear HR1)
        | (at_builtin; refine Lib.wpList_append_run _ rfl _ _ _ _ rfl _ _ rfl rfl _ _ HR2.out ?_; clear HR2; go_simp; go_step; go_step; go_step; go_step; go_step; refine gen_worldQ (fun W => Below w.heap.size w W ∧ W.heap[w3.heap.size]? = some (.cells #[.int .i64 c.page, .int .i64 c.n, .int .i64 c.red, .int .i64 c.quarantine, .slice A3 (N - 1) c3, .slice (some ⟨gg, 0, none⟩) M cap, .int .i64 gi] 26 (0, 0)) ∧ W.heap[w.heap.size + 1]? = some (.cells #[.int .i64 0, .int .i64 0, .int .i64 0, .int .i64 0, .slice none 0 0, .slice none 0 0, .int .i64 0] 26 (0, 0)) ∧ W.heap.size = u2.heap.size ∧ ∀ j, j ≠ w3.heap.size → W.heap[j]? = u2.heap[j]?) ⟨hbel5.out, hrow.out, hnil5.out, hsz5.out, hkp.out⟩ ?_; clear hrow hkp hnil5 hbel5 hsz5 r4' q4 s4 fs4 w1i; rintro W6 ⟨t1, t2, t3, t4, t5⟩; have T1 := Lib.hid t1; have T2 := Lib.hid t2; have T3 := Lib.hid t3; have T4 := Lib.hid t4; have T5 := Lib.hid t5; clear t1 t2 t3 t4 t5))
      have hlen : (quar ++ [p]).length = M := by rw [← HM.out]; simp
      refine loop48 _ c gi (.slice A3 (N - 1) c3) (quar ++ [p]) (some ⟨gg, 0, none⟩) cap w3.heap.size w2.heap.size W6 _ _ _ _ _ _ _ _ _ _ _ _ _ _ _ _ _ _ _ _ _ _ _ _ _ _ _ _ _ _ _ _ _ _ _ _ _ _ _ _ _ _ _ _ _ _ _ _ _ _ _ _ _ _ _ _ _ _ _ _ _ _ (by rw [hlen]; exact T2.out) ⟨_, _, _, rfl⟩ (by rw [hlen]; exact Fresh.of_own (own_blk hgq.out fun g hg => by cases hg; exact T5.out gg hgg3.out) hlen.symm) hmp.out (by rw [hlen]; have := HM.out; omega) hQ0 hQ1 ?_
      clear hlen
      intro v45 v46 v47 v48 v49 v50 v51 v52 v53 v54 v55 v56 v57 v58 v59 v60 v61 W7 A4 k4 hB7 hK7 hrow7 hf7
      have hs56 := T4.out
      have hlen2 : w3.heap.size < W6.heap.size := by rw [hs56]; exact hltu2
      have hf3 : Fresh W5.heap.size W7 (.slice A3 (N - 1) c3) (live.eraseIdx i) := ((HFR2.out.kept (by rw [hs56]; exact Nat.le_refl _) (fun k hk hge => T5.out k (by omega))).kept (W := W7) hB7.size (fun k hk hge => hK7 k hk (by omega)))
      have hnil7 := (hK7 (w.heap.size + 1) (by omega) (by omega)).trans T3.out
      have hbel7 : Below w.heap.size w W7 := T1.out.trans (hB7.mono (by omega))
      obtain ⟨tl, htl⟩ : ∃ tl, trimF c.quarantine (quar ++ [p]) = tl := ⟨_, rfl⟩
      rw [htl] at hrow7 hf7
      obtain ⟨M4, hM4⟩ : ∃ M4, tl.length = M4 := ⟨_, rfl⟩
      rw [hM4] at hrow7 hf7
      have HTL := Lib.hid htl
      have HM4 := Lib.hid hM4
      have HF3 := Lib.hid hf3
      have HF7 := Lib.hid hf7
      have HN7 := Lib.hid hnil7
      have HB7 := Lib.hid hbel7
      have hl7 : w3.heap.size < W7.heap.size := blk_lt hrow7
      have hl71 : w.heap.size + 1 < W7.heap.size := blk_lt hnil7
      have s0 := blk_cell hrow7 0
      have s1 := blk_cell hrow7 1
      have s2 := blk_cell hrow7 2
      have s3 := blk_cell hrow7 3
      have s4 := blk_cell hrow7 4
      have s5 := blk_cell hrow7 5
      have s6 := blk_cell hrow7 6
      simp only [List.getElem?_toArray, List.getElem?_cons_succ, List.getElem?_cons_zero] at s0 s1 s2 s3 s4 s5 s6
      have z0 := blk_cell hnil7 0
      have fz0 : W7.frozen? ⟨w.heap.size + 1, 0, none⟩ = false := frozen_of_row _ _ _ _ _ hnil7
      have z1 := blk_cell hnil7 1
      have fz1 : W7.frozen? ⟨w.heap.size + 1, 1, none⟩ = false := frozen_of_row _ _ _ _ _ hnil7
      have z2 := blk_cell hnil7 2
      have fz2 : W7.frozen? ⟨w.heap.size + 1, 2, none⟩ = false := frozen_of_row _ _ _ _ _ hnil7
      have z3 := blk_cell hnil7 3
      have fz3 : W7.frozen? ⟨w.heap.size + 1, 3, none⟩ = false := frozen_of_row _ _ _ _ _ hnil7
      have z4 := blk_cell hnil7 4
      have fz4 : W7.frozen? ⟨w.heap.size + 1, 4, none⟩ = false := frozen_of_row _ _ _ _ _ hnil7
      have z5 := blk_cell hnil7 5
      have fz5 : W7.frozen? ⟨w.heap.size + 1, 5, none⟩ = false := frozen_of_row _ _ _ _ _ hnil7
      have z6 := blk_cell hnil7 6
      have fz6 : W7.frozen? ⟨w.heap.size + 1, 6, none⟩ = false := frozen_of_row _ _ _ _ _ hnil7
      simp only [List.getElem?_toArray, List.getElem?_cons_succ, List.getElem?_cons_zero] at z0 z1 z2 z3 z4 z5 z6
      clear htl hM4 hf3 hf7 hnil7 hbel7 hrow7 hB7 hK7 T1 T2 T3 T4 T5 hmp
      go_wp2
      refine gen_worldB (fun W => Below w.heap.size w W ∧ W.heap[w.heap.size + 1]? = some (.cells #[.int .i64 c.page, .int .i64 c.n, .int .i64 c.red, .int .i64 c.quarantine, .slice A3 (N - 1) c3, .slice A4 M4 k4, .int .i64 gi] 26 (0, 0)) ∧ W7.heap.size ≤ W.heap.size ∧ (∀ j, j < W7.heap.size → j ≠ w.heap.size + 1 → W.heap[j]? = W7.heap[j]?)) ⟨?_, ?_, by simp [World.setCell], fun j hj hn2 => ?_⟩ ?_
      · repeat' first | refine Below.setCell ?_ (by simp; try omega) _ | exact HB7.out
      · have e1 := row_setCell (o := 0) (.int .i64 c.page) HN7.out
        have e2 := row_setCell (o := 1) (.int .i64 c.n) e1
        have e3 := row_setCell (o := 2) (.int .i64 c.red) e2
        have e4 := row_setCell (o := 3) (.int .i64 c.quarantine) e3
        have e5 := row_setCell (o := 4) (.slice A3 (N - 1) c3) e4
        have e6 := row_setCell (o := 5) (.slice A4 M4 k4) e5
        have e7 := row_setCell (o := 6) (.int .i64 gi) e6
        simp only [List.setIfInBounds_toArray, List.set_cons_zero, List.set_cons_succ] at e7
        exact e7
      · repeat' first | refine Eq.trans (Below.heap_setCell _ _ _ _ hn2) ?_ | rfl
      rintro W9 ⟨t1, t2, t3, t4⟩
      have hk1 : Fresh w.heap.size W9 (.slice A3 (N - 1) c3) (live.eraseIdx i) := (HF3.out.kept t3 (fun j hj hge => t4 j hj (by omega))).base (by omega)
      have hk2 : Fresh w.heap.size W9 (.slice A4 M4 k4) tl := (HF7.out.kept t3 (fun j hj hge => t4 j hj (by omega))).base (by omega)
      have hir : (⟨c, gi, live.eraseIdx i, tl⟩ : HRes) = ⟨c, gi, live.eraseIdx (atI live tg), trimF c.quarantine (quar ++ [live[atI live tg]!])⟩ := by rw [HI.out, HP.out, HTL.out]
      have y0 := blk_cell t2 0
      have y1 := blk_cell t2 1
      have y2 := blk_cell t2 2
      have y3 := blk_cell t2 3
      have y4 := blk_cell t2 4
      have y5 := blk_cell t2 5
      have y6 := blk_cell t2 6
      simp only [List.getElem?_toArray, List.getElem?_cons_succ, List.getElem?_cons_zero] at y0 y1 y2 y3 y4 y5 y6
      refine bodyPost_ret (v := .tuple #[hAgg c (.slice A3 (N - 1) c3) (.slice A4 M4 k4) gi, .int .i64 0]) (by simp [results, Try.results48, go_sem, y0, y1, y2, y3, y4, y5, y6]) rfl ⟨t1, 0, _, .inr (.inr ⟨HGD.out, HIS.out, rfl, rfl⟩), ?_⟩
      rw [← hir]
      exact FAns.of hk1 hk2
    · obtain rfl : src = .slice (some ⟨g1, (i + 1) * 3, none⟩) (N - (i + 1)) (c1 - (i + 1)) := by have := HSRC.out; rw [if_neg hck] at this; exact this
      clear HSRC
      go_wp2_with (first
        | (at_builtin; refine Lib.wpList_append_run _ rfl _ _ _ _ rfl _ _ rfl rfl _ _ HR1.out ?_; clear HR1)
        | (at_builtin; refine Lib.wpList_append_run _ rfl _ _ _ _ rfl _ _ rfl rfl _ _ HR2.out ?_; clear HR2; go_simp; go_step; go_step; go_step; go_step; go_step; refine gen_worldQ (fun W => Below w.heap.size w W ∧ W.heap[w3.heap.size]? = some (.cells #[.int .i64 c.page, .int .i64 c.n, .int .i64 c.red, .int .i64 c.quarantine, .slice A3 (N - 1) c3, .slice (some ⟨gg, 0, none⟩) M cap, .int .i64 gi] 26 (0, 0)) ∧ W.heap[w.heap.size + 1]? = some (.cells #[.int .i64 0, .int .i64 0, .int .i64 0, .int .i64 0, .slice none 0 0, .slice none 0 0, .int .i64 0] 26 (0, 0)) ∧ W.heap.size = u2.heap.size ∧ ∀ j, j ≠ w3.heap.size → W.heap[j]? = u2.heap[j]?) ⟨hbel5.out, hrow.out, hnil5.out, hsz5.out, hkp.out⟩ ?_; clear hrow hkp hnil5 hbel5 hsz5 r4' q4 s4 fs4 w1i; rintro W6 ⟨t1, t2, t3, t4, t5⟩; have T1 := Lib.hid t1; have T2 := Lib.hid t2; have T3 := Lib.hid t3; have T4 := Lib.hid t4; have T5 := Lib.hid t5; clear t1 t2 t3 t4 t5))
      have hlen : (quar ++ [p]).length = M := by rw [← HM.out]; simp
      refine loop48 _ c gi (.slice A3 (N - 1) c3) (quar ++ [p]) (some ⟨gg, 0, none⟩) cap w3.heap.size w2.heap.size W6 _ _ _ _ _ _ _ _ _ _ _ _ _ _ _ _ _ _ _ _ _ _ _ _ _ _ _ _ _ _ _ _ _ _ _ _ _ _ _ _ _ _ _ _ _ _ _ _ _ _ _ _ _ _ _ _ _ _ _ _ _ _ (by rw [hlen]; exact T2.out) ⟨_, _, _, rfl⟩ (by rw [hlen]; exact Fresh.of_own (own_blk hgq.out fun g hg => by cases hg; exact T5.out gg hgg3.out) hlen.symm) hmp.out (by rw [hlen]; have := HM.out; omega) hQ0 hQ1 ?_
      clear hlen
      intro v45 v46 v47 v48 v49 v50 v51 v52 v53 v54 v55 v56 v57 v58 v59 v60 v61 W7 A4 k4 hB7 hK7 hrow7 hf7
      have hs56 := T4.out
      have hlen2 : w3.heap.size < W6.heap.size := by rw [hs56]; exact hltu2
      have hf3 : Fresh W5.heap.size W7 (.slice A3 (N - 1) c3) (live.eraseIdx i) := ((HFR2.out.kept (by rw [hs56]; exact Nat.le_refl _) (fun k hk hge => T5.out k (by omega))).kept (W := W7) hB7.size (fun k hk hge => hK7 k hk (by omega)))
      have hnil7 := (hK7 (w.heap.size + 1) (by omega) (by omega)).trans T3.out
      have hbel7 : Below w.heap.size w W7 := T1.out.trans (hB7.mono (by omega))
      obtain ⟨tl, htl⟩ : ∃ tl, trimF c.quarantine (quar ++ [p]) = tl := ⟨_, rfl⟩
      rw [htl] at hrow7 hf7
      obtain ⟨M4, hM4⟩ : ∃ M4, tl.length = M4 := ⟨_, rfl⟩
      rw [hM4] at hrow7 hf7
      have HTL := Lib.hid htl
      have HM4 := Lib.hid hM4
      have HF3 := Lib.hid hf3
      have HF7 := Lib.hid hf7
      have HN7 := Lib.hid hnil7
      have HB7 := Lib.hid hbel7
      have hl7 : w3.heap.size < W7.heap.size := blk_lt hrow7
      have hl71 : w.heap.size + 1 < W7.heap.size := blk_lt hnil7
      have s0 := blk_cell hrow7 0
      have s1 := blk_cell hrow7 1
      have s2 := blk_cell hrow7 2
      have s3 := blk_cell hrow7 3
      have s4 := blk_cell hrow7 4
      have s5 := blk_cell hrow7 5
      have s6 := blk_cell hrow7 6
      simp only [List.getElem?_toArray, List.getElem?_cons_succ, List.getElem?_cons_zero] at s0 s1 s2 s3 s4 s5 s6
      have z0 := blk_cell hnil7 0
      have fz0 : W7.frozen? ⟨w.heap.size + 1, 0, none⟩ = false := frozen_of_row _ _ _ _ _ hnil7
      have z1 := blk_cell hnil7 1
      have fz1 : W7.frozen? ⟨w.heap.size + 1, 1, none⟩ = false := frozen_of_row _ _ _ _ _ hnil7
      have z2 := blk_cell hnil7 2
      have fz2 : W7.frozen? ⟨w.heap.size + 1, 2, none⟩ = false := frozen_of_row _ _ _ _ _ hnil7
      have z3 := blk_cell hnil7 3
      have fz3 : W7.frozen? ⟨w.heap.size + 1, 3, none⟩ = false := frozen_of_row _ _ _ _ _ hnil7
      have z4 := blk_cell hnil7 4
      have fz4 : W7.frozen? ⟨w.heap.size + 1, 4, none⟩ = false := frozen_of_row _ _ _ _ _ hnil7
      have z5 := blk_cell hnil7 5
      have fz5 : W7.frozen? ⟨w.heap.size + 1, 5, none⟩ = false := frozen_of_row _ _ _ _ _ hnil7
      have z6 := blk_cell hnil7 6
      have fz6 : W7.frozen? ⟨w.heap.size + 1, 6, none⟩ = false := frozen_of_row _ _ _ _ _ hnil7
      simp only [List.getElem?_toArray, List.getElem?_cons_succ, List.getElem?_cons_zero] at z0 z1 z2 z3 z4 z5 z6
      clear htl hM4 hf3 hf7 hnil7 hbel7 hrow7 hB7 hK7 T1 T2 T3 T4 T5 hmp
      go_wp2
      refine gen_worldB (fun W => Below w.heap.size w W ∧ W.heap[w.heap.size + 1]? = some (.cells #[.int .i64 c.page, .int .i64 c.n, .int .i64 c.red, .int .i64 c.quarantine, .slice A3 (N - 1) c3, .slice A4 M4 k4, .int .i64 gi] 26 (0, 0)) ∧ W7.heap.size ≤ W.heap.size ∧ (∀ j, j < W7.heap.size → j ≠ w.heap.size + 1 → W.heap[j]? = W7.heap[j]?)) ⟨?_, ?_, by simp [World.setCell], fun j hj hn2 => ?_⟩ ?_
      · repeat' first | refine Below.setCell ?_ (by simp; try omega) _ | exact HB7.out
      · have e1 := row_setCell (o := 0) (.int .i64 c.page) HN7.out
        have e2 := row_setCell (o := 1) (.int .i64 c.n) e1
        have e3 := row_setCell (o := 2) (.int .i64 c.red) e2
        have e4 := row_setCell (o := 3) (.int .i64 c.quarantine) e3
        have e5 := row_setCell (o := 4) (.slice A3 (N - 1) c3) e4
        have e6 := row_setCell (o := 5) (.slice A4 M4 k4) e5
        have e7 := row_setCell (o := 6) (.int .i64 gi) e6
        simp only [List.setIfInBounds_toArray, List.set_cons_zero, List.set_cons_succ] at e7
        exact e7
      · repeat' first | refine Eq.trans (Below.heap_setCell _ _ _ _ hn2) ?_ | rfl
      rintro W9 ⟨t1, t2, t3, t4⟩
      have hk1 : Fresh w.heap.size W9 (.slice A3 (N - 1) c3) (live.eraseIdx i) := (HF3.out.kept t3 (fun j hj hge => t4 j hj (by omega))).base (by omega)
      have hk2 : Fresh w.heap.size W9 (.slice A4 M4 k4) tl := (HF7.out.kept t3 (fun j hj hge => t4 j hj (by omega))).base (by omega)
      have hir : (⟨c, gi, live.eraseIdx i, tl⟩ : HRes) = ⟨c, gi, live.eraseIdx (atI live tg), trimF c.quarantine (quar ++ [live[atI live tg]!])⟩ := by rw [HI.out, HP.out, HTL.out]
      have y0 := blk_cell t2 0
      have y1 := blk_cell t2 1
      have y2 := blk_cell t2 2
      have y3 := blk_cell t2 3
      have y4 := blk_cell t2 4
      have y5 := blk_cell t2 5
      have y6 := blk_cell t2 6
      simp only [List.getElem?_toArray, List.getElem?_cons_succ, List.getElem?_cons_zero] at y0 y1 y2 y3 y4 y5 y6
      refine bodyPost_ret (v := .tuple #[hAgg c (.slice A3 (N - 1) c3) (.slice A4 M4 k4) gi, .int .i64 0]) (by simp [results, Try.results48, go_sem, y0, y1, y2, y3, y4, y5, y6]) rfl ⟨t1, 0, _, .inr (.inr ⟨HGD.out, HIS.out, rfl, rfl⟩), ?_⟩
      rw [← hir]
      exact FAns.of hk1 hk2
end Go.Proofs.Ytbhbjcgbhklieaa
