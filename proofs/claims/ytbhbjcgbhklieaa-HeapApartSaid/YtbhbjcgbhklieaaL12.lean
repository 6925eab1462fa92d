/- HeapApart: the walk. -/
import Derived.Test.YtbhbjcgbhklieaaE12
import Derived.Test.YtbhbjcgbhklieaaS4
import Derived.Test.YtbhbjcgbhklieaaP2
import Derived.Test.YtbhbjcgbhklieaaE7
import Derived.Deep.RegionHeld3
import Derived.Deep.QuietTactic
import Derived.BigQuiet
import Derived.Test.YtbhbjcgbhklieaaF5
import Derived.Test.YtbhbjcgbhklieaaL17
namespace Go.Proofs.Ytbhbjcgbhklieaa
open Go.RowKit Go.Shelf

theorem strict_op {c : Conf} {gi : Int} {live quar : List Piece} {L : List Ext} (h : Op c gi live quar L) : L.Pairwise (fun x y => x.fr < y.fr) := by
  rw [List.pairwise_iff_getElem]
  intro i j hi hj hij
  have h1 := h.adj i (by omega)
  have h2 := (h.ext L[i] (List.getElem_mem hi)).1
  rw [getElem!_pos L i hi, getElem!_pos L (i + 1) (by omega)] at h1
  rcases Nat.lt_or_eq_of_le (show i + 1 ≤ j from hij) with h5 | h5
  · have h3 := h.fr (i + 1) j h5 hj
    rw [getElem!_pos L j hj, getElem!_pos L (i + 1) (by omega)] at h3
    omega
  · subst h5; omega
theorem good_new {c : Conf} (h : okConf c = true) : GoodP c 0 [] [] := by
  have hb := h
  simp only [okConf, decide_eq_true_eq] at hb
  exact ⟨h, by omega, by omega, by simp, by simp, (fun _ hp => by cases hp), by simp, by simp, by simp, by simp; omega⟩
/-- what the law asks of a live block, answered. -/
structure Asks (c : Conf) (gi : Int) (live quar : List Piece) (lv qv : Value) (W : World) : Prop where
  find : ∀ V, Below W.heap.size W V → ∀ i, i < live.length → ∀ x, live[i]!.pos - c.red ≤ x → x < live[i]!.pos + max live[i]!.size 1 + c.red → Calls Try.prog 26 #[hAgg c lv qv gi, .int .u32 x] V fun e w' => e = .returned (.agg #[.int .i64 (if 0 ≤ x - live[i]!.pos ∧ x - live[i]!.pos < live[i]!.size then 1 else 2), .int .i64 i, .int .i64 (x - live[i]!.pos)]) ∧ Below V.heap.size V w'
  size : ∀ V, Below W.heap.size W V → ∀ i, i < live.length → Calls Try.prog 35 #[hAgg c lv qv gi, .int .u32 live[i]!.pos] V fun e w' => e = .returned (.tuple #[.int .i64 live[i]!.size, .int .i64 0]) ∧ Below V.heap.size V w'
  outs : ∀ V, Below W.heap.size W V → ∀ i, i < live.length → Calls Try.prog 28 #[hAgg c lv qv gi, .int .u32 live[i]!.pos, .int .i64 live[i]!.size] V fun e w' => e = .returned (.tuple #[.int .u32 0, .bool false]) ∧ Below V.heap.size V w'
theorem asks_of {c : Conf} {gi : Int} {live quar : List Piece} {lv qv : Value} {W : World} (hl : Sl 3 encP W lv live) (hq : Sl 3 encP W qv quar) (wl : ∀ p ∈ live, WfP p) (wq : ∀ p ∈ quar, WfP p) (g : GoodP c gi live quar) : Asks c gi live quar lv qv W := by
  have hg := (good_iff wl wq).2 g
  obtain ⟨L, hL⟩ := good_op hg wl wq
  obtain ⟨⟨r0, r1⟩, hw⟩ := good_wf g wl wq
  have hb := g.conf
  simp only [okConf, decide_eq_true_eq] at hb
  have hm : ∀ i, i < live.length → live[i]! ∈ live := fun i hi => by rw [getElem!_pos live i hi]; exact List.getElem_mem hi
  have hpo : ∀ i, i < live.length → pOk c gi live[i]! := fun i hi => g.each _ (List.mem_append_left _ (hm i hi))
  refine ⟨fun V hV i hi x x0 x1 => ?_, fun V hV i hi => ?_, fun V hV i hi => ?_⟩
  · have hp := hpo i hi
    unfold pOk at hp
    refine (c26 c lv qv gi live quar x V (hl.below hV) (hq.below hV) wl wq (by omega) (by omega)).mono ?_
    rintro e w' ⟨hB, ⟨h, _⟩ | ⟨L', hL', rfl⟩⟩
    · exact absurd hg h
    · rw [near_ix hL' wl wq hi ⟨x0, x1⟩]; exact ⟨rfl, hB⟩
  · have ha := at_of g.pos hi
    refine (c35 c lv qv gi live quar live[i]!.pos V (hl.below hV) (hq.below hV) wl wq).mono ?_
    rintro e w' ⟨hB, ⟨h, _⟩ | ⟨_, h, _⟩ | ⟨_, _, rfl⟩⟩
    · exact absurd hg h
    · rw [ha.2] at h; cases h
    · rw [ha.1]; exact ⟨rfl, hB⟩
  · obtain ⟨w1, s0, s1⟩ := hw live[i]! (List.mem_append_left _ (hm i hi))
    refine (c28 c lv qv gi live quar live[i]!.pos live[i]!.size V (hl.below hV) (hq.below hV) wl wq w1.1 w1.2 (by omega) (by omega)).mono ?_
    rintro e w' ⟨hB, ⟨h, _⟩ | ⟨L', hL', rfl⟩⟩
    · exact absurd hg h
    · rw [out_none hL' wl wq hi]; exact ⟨rfl, hB⟩

set_option maxRecDepth 100000 in
set_option maxHeartbeats 40000000 in
theorem c12 (c : Conf) (ov : Value) (ops : List OpV) (w : World) (ho : OpsIn w ov ops) :
    Calls Try.prog 12 #[.agg #[.int .i64 c.page, .int .i64 c.n, .int .i64 c.red, .int .i64 c.quarantine], ov] w fun e w' => e = .returned (.bool true) ∧ Below w.heap.size w w' := by
  have HO := Lib.hid ho.sl
  have hol := ho.len
  obtain ⟨PA, pc, rfl, _, _⟩ := id ho.sl
  obtain ⟨n, hnn⟩ : ∃ n, ops.length = n := ⟨_, rfl⟩
  rw [hnn] at hol HO ⊢
  have HN := Lib.hid hnn
  clear ho hnn
  have hmx : Try.prog.follows .mixedOrders = true := by kernel_rfl
  go_enter Try.func12, Try.ntmps12
  go_wp2_with fail
  refine Calls.mono (c16 _) ?_
  rintro e w1 ⟨rfl, hB1⟩
  have hb0 : w1.heap[w.heap.size]? = some (.cells #[.int .i64 c.page, .int .i64 c.n, .int .i64 c.red, .int .i64 c.quarantine] 23 (0, 0)) := (hB1.block _ (by simp)).trans (hal_new rfl)
  have hBw : Below w.heap.size w w1 := (below_alloc1 w _).trans (hB1.mono (by simp))
  have q0 := blk_cell hb0 0
  have q1 := blk_cell hb0 1
  have q2 := blk_cell hb0 2
  have q3 := blk_cell hb0 3
  simp only [List.getElem?_toArray, List.getElem?_cons_succ, List.getElem?_cons_zero] at q0 q1 q2 q3
  have HB0 := Lib.hid hb0
  have HBW := Lib.hid hBw
  have hlt0 : w.heap.size < w1.heap.size := blk_lt hb0
  clear hB1 hb0 hBw
  go_wp2_with fail
  refine Calls.mono (c30 c _) ?_
  rintro e w2 ⟨hB2, ⟨hok, rfl⟩ | ⟨hok, rfl⟩⟩
  · have HBW2 : Hid (Below w.heap.size w w2) := HBW.out.trans (hB2.mono HBW.out.size)
    clear q0 q1 q2 q3 hB2
    go_wp2
    go_ret
    exact ⟨rfl, HBW2.out.alloc HBW2.out.size _⟩
  have HBW2 : Hid (Below w.heap.size w w2) := HBW.out.trans (hB2.mono HBW.out.size)
  have HB02 := Lib.hid ((hB2.block _ hlt0).trans HB0.out)
  have hlt2 : w.heap.size < w2.heap.size := blk_lt HB02.out
  have HOK := Lib.hid hok
  clear q0 q1 q2 q3 hB2 hok
  by_cases hn60 : 60 < n
  · have d1 : decide ((60 : Int) < (n : Int)) = true := decide_eq_true (by omega)
    go_wp2
    go_ret
    exact ⟨rfl, HBW2.out.alloc HBW2.out.size _⟩
  have d1 : decide ((60 : Int) < (n : Int)) = false := decide_eq_false (by omega)
  have hg0 := good_new HOK.out
  have hst0 : StOk ⟨c, 0, [], []⟩ := ⟨(fun _ h => by cases h), (fun _ h => by cases h), by simp, by simp⟩
  have hplay := fun V (hV : Below w.heap.size w V) => c50 ⟨c, 0, [], []⟩ none 0 none 0 (.slice PA n pc) ops V (fresh_nilP 0 V).sl (fresh_nilP 0 V).sl (fresh_nilP 0 V).shape (fresh_nilP 0 V).shape hst0 (HO.out.below hV) (by rw [HN.out]; omega)
  have HPLAY := Lib.hid hplay
  have HST0 := Lib.hid hst0
  have HG0 := Lib.hid hg0
  clear hg0 hst0 hplay
  go_wp2_with fail
  refine Calls.mono (HPLAY.out _ (HBW2.out.alloc HBW2.out.size _)) ?_
  clear HPLAY
  rintro e w3 ⟨hB3, st, outs, A, k, B, m, C, j, hpl, _, rfl, hl, hq, sl, sq, _, hav⟩
  obtain ⟨hsc, hgood⟩ := hpl.good HST0.out HG0.out
  have hsok := hpl.ok HST0.out
  obtain ⟨sc, gi, live, quar⟩ := st
  simp only at hsc hgood hl hq sl sq
  subst hsc
  have hwl : ∀ p ∈ live, WfP p := hsok.wl
  have hwq : ∀ p ∈ quar, WfP p := hsok.wq
  have hb3 : w3.heap[w2.heap.size]? = some (.cells #[.int .i64 sc.page, .int .i64 sc.n, .int .i64 sc.red, .int .i64 sc.quarantine, .slice none 0 0, .slice none 0 0, .int .i64 0] 26 (0, 0)) := (hB3.block _ (by simp)).trans (hal_new rfl)
  have hb03 : w3.heap[w.heap.size]? = some (.cells #[.int .i64 sc.page, .int .i64 sc.n, .int .i64 sc.red, .int .i64 sc.quarantine] 23 (0, 0)) := (hB3.block _ (by simp; omega)).trans (hal_old HB02.out)
  have hBW3 : Below w.heap.size w w3 := (HBW2.out.alloc HBW2.out.size _).trans (hB3.mono (by simp; omega))
  have hlt3 : w2.heap.size < w3.heap.size := blk_lt hb3
  have hAV := hav w2.heap.size (by simp) ⟨(fun _ e => by cases e), (fun _ e => by cases e)⟩
  have HAV := Lib.hid hAV
  have z0 := blk_cell hb3 0
  have fz0 : w3.frozen? ⟨w2.heap.size, 0, none⟩ = false := frozen_of_row _ _ _ _ _ hb3
  have z1 := blk_cell hb3 1
  have fz1 : w3.frozen? ⟨w2.heap.size, 1, none⟩ = false := frozen_of_row _ _ _ _ _ hb3
  have z2 := blk_cell hb3 2
  have fz2 : w3.frozen? ⟨w2.heap.size, 2, none⟩ = false := frozen_of_row _ _ _ _ _ hb3
  have z3 := blk_cell hb3 3
  have fz3 : w3.frozen? ⟨w2.heap.size, 3, none⟩ = false := frozen_of_row _ _ _ _ _ hb3
  have z4 := blk_cell hb3 4
  have fz4 : w3.frozen? ⟨w2.heap.size, 4, none⟩ = false := frozen_of_row _ _ _ _ _ hb3
  have z5 := blk_cell hb3 5
  have fz5 : w3.frozen? ⟨w2.heap.size, 5, none⟩ = false := frozen_of_row _ _ _ _ _ hb3
  have z6 := blk_cell hb3 6
  have fz6 : w3.frozen? ⟨w2.heap.size, 6, none⟩ = false := frozen_of_row _ _ _ _ _ hb3
  simp only [List.getElem?_toArray, List.getElem?_cons_succ, List.getElem?_cons_zero] at z0 z1 z2 z3 z4 z5 z6
  have q0 := blk_cell hb03 0
  have q1 := blk_cell hb03 1
  have q2 := blk_cell hb03 2
  have q3 := blk_cell hb03 3
  simp only [List.getElem?_toArray, List.getElem?_cons_succ, List.getElem?_cons_zero] at q0 q1 q2 q3
  have HL3 := Lib.hid hl
  have HQ3 := Lib.hid hq
  have HBW3 := Lib.hid hBW3
  have HB3 := Lib.hid hb3
  have HB03 := Lib.hid hb03
  have HWL := Lib.hid hwl
  have HWQ := Lib.hid hwq
  have HG := Lib.hid hgood
  clear hB3 hpl hl hq hav hAV hb3 hb03 hBW3 hwl hwq hgood hsok HST0 HG0 HO
  go_wp2_with fail
  refine gen_worldC (fun W => Below w.heap.size w W ∧ W.heap[w2.heap.size]? = some (.cells #[.int .i64 sc.page, .int .i64 sc.n, .int .i64 sc.red, .int .i64 sc.quarantine, .slice A live.length k, .slice B quar.length m, .int .i64 gi] 26 (0, 0)) ∧ W.heap[w.heap.size]? = some (.cells #[.int .i64 sc.page, .int .i64 sc.n, .int .i64 sc.red, .int .i64 sc.quarantine] 23 (0, 0)) ∧ Sl 3 encP W (.slice A live.length k) live ∧ Sl 3 encP W (.slice B quar.length m) quar) ?_ ?_
  · have hkp : ∀ j, j ≠ w2.heap.size → (((((((w3.setCell ⟨w2.heap.size, 0, none⟩ (.int .i64 sc.page)).setCell ⟨w2.heap.size, 1, none⟩ (.int .i64 sc.n)).setCell ⟨w2.heap.size, 2, none⟩ (.int .i64 sc.red)).setCell ⟨w2.heap.size, 3, none⟩ (.int .i64 sc.quarantine)).setCell ⟨w2.heap.size, 4, none⟩ (.slice A live.length k)).setCell ⟨w2.heap.size, 5, none⟩ (.slice B quar.length m)).setCell ⟨w2.heap.size, 6, none⟩ (.int .i64 gi)).heap[j]? = w3.heap[j]? := fun j hj => by
      repeat' first | refine Eq.trans (Below.heap_setCell _ _ _ _ hj) ?_ | rfl
    have hsz7 : (((((((w3.setCell ⟨w2.heap.size, 0, none⟩ (.int .i64 sc.page)).setCell ⟨w2.heap.size, 1, none⟩ (.int .i64 sc.n)).setCell ⟨w2.heap.size, 2, none⟩ (.int .i64 sc.red)).setCell ⟨w2.heap.size, 3, none⟩ (.int .i64 sc.quarantine)).setCell ⟨w2.heap.size, 4, none⟩ (.slice A live.length k)).setCell ⟨w2.heap.size, 5, none⟩ (.slice B quar.length m)).setCell ⟨w2.heap.size, 6, none⟩ (.int .i64 gi)).heap.size = w3.heap.size := by simp [World.setCell]
    have e1 := row_setCell (o := 0) (.int .i64 sc.page) HB3.out
    have e2 := row_setCell (o := 1) (.int .i64 sc.n) e1
    have e3 := row_setCell (o := 2) (.int .i64 sc.red) e2
    have e4 := row_setCell (o := 3) (.int .i64 sc.quarantine) e3
    have e5 := row_setCell (o := 4) (.slice A live.length k) e4
    have e6 := row_setCell (o := 5) (.slice B quar.length m) e5
    have e7 := row_setCell (o := 6) (.int .i64 gi) e6
    simp only [List.setIfInBounds_toArray, List.set_cons_zero, List.set_cons_succ] at e7
    have hw := HBW2.out.size
    exact ⟨((((((HBW3.out.setCell (p := ⟨w2.heap.size, 0, none⟩) hw _).setCell (p := ⟨w2.heap.size, 1, none⟩) hw _).setCell (p := ⟨w2.heap.size, 2, none⟩) hw _).setCell (p := ⟨w2.heap.size, 3, none⟩) hw _).setCell (p := ⟨w2.heap.size, 4, none⟩) hw _).setCell (p := ⟨w2.heap.size, 5, none⟩) hw _).setCell (p := ⟨w2.heap.size, 6, none⟩) hw _,
      e7, (hkp _ (by omega)).trans HB03.out, sl_keepS (P := fun j => j ≠ w2.heap.size) HL3.out (by omega) (fun j _ hj => hkp j hj) HAV.out.1, sl_keepS (P := fun j => j ≠ w2.heap.size) HQ3.out (by omega) (fun j _ hj => hkp j hj) HAV.out.2⟩
  rintro W ⟨x1, x2, x3, x4, x5⟩
  clear z0 z1 z2 z3 z4 z5 z6 fz0 fz1 fz2 fz3 fz4 fz5 fz6 q0 q1 q2 q3
  have hchk := c20 sc _ _ gi live quar W x4 x5 HWL.out HWQ.out
  have hasks := asks_of x4 x5 HWL.out HWQ.out HG.out
  have HASKS := Lib.hid hasks
  have hgg := (good_iff HWL.out HWQ.out).2 HG.out
  have HGG := Lib.hid hgg
  have X1 := Lib.hid x1
  have X2 := Lib.hid x2
  have X3 := Lib.hid x3
  have X4 := Lib.hid x4
  have hltn : w2.heap.size < W.heap.size := blk_lt x2
  have hltc : w.heap.size < W.heap.size := blk_lt x3
  refine Calls.mono hchk ?_
  clear hchk hasks hgg x1 x2 x3 x4 x5 HL3 HQ3 HBW3 HB3 HB03 HAV
  rintro e wz ⟨hBz, ⟨h, rfl⟩ | ⟨_, rfl⟩⟩
  · exact absurd HGG.out h
  have HZ := Lib.hid hBz
  have hzb := (hBz.block _ hltn).trans X2.out
  have hzs := hBz.size
  have q0 := blk_cell hzb 0
  have q1 := blk_cell hzb 1
  have q2 := blk_cell hzb 2
  have q3 := blk_cell hzb 3
  have q4 := blk_cell hzb 4
  have q5 := blk_cell hzb 5
  have q6 := blk_cell hzb 6
  simp only [List.getElem?_toArray, List.getElem?_cons_succ, List.getElem?_cons_zero] at q0 q1 q2 q3 q4 q5 q6
  have HZB := Lib.hid hzb
  generalize hN : w2.heap.size = nb at *
  have hn1 := HG.out.n1
  obtain ⟨N, hNN⟩ : ∃ N, live.length = N := ⟨_, rfl⟩
  have HNN := Lib.hid hNN
  clear hBz hzb hN
  rw [hNN] at HASKS q4 HZB ⊢
  clear hNN
  go_wp2
  clear q0 q1 q2 q3 q4 q5 q6
  generalize (Value.tuple #[.agg #[.int .i64 sc.page, .int .i64 sc.n, .int .i64 sc.red, .int .i64 sc.quarantine, .slice none 0 0, .slice none 0 0, .int .i64 0], .int .i64 0]) = y1
  generalize (Value.agg #[.int .i64 sc.page, .int .i64 sc.n, .int .i64 sc.red, .int .i64 sc.quarantine, .slice none 0 0, .slice none 0 0, .int .i64 0]) = y2
  generalize (Value.tuple #[.agg #[.int .i64 sc.page, .int .i64 sc.n, .int .i64 sc.red, .int .i64 sc.quarantine, .slice A N k, .slice B quar.length m, .int .i64 gi], .slice C ops.length j]) = y3
  go_loopg [51] N (fun kx s51 wr => ∃ i : Nat, i ≤ N ∧ s51 = .int .i64 i ∧ N - i ≤ kx ∧ Hid (Below wz.heap.size wz wr))
  case atStart => exact ⟨0, Nat.zero_le _, rfl, by omega, Below.refl _ _⟩
  case round =>
    (
    obtain ⟨i, hi, rfl, hkx, HBr⟩ := hrel
    have hsr := HBr.out.size
    have HBWr : Hid (Below W.heap.size W wr) := HZ.out.trans (HBr.out.mono hzs)
    have hzb := (HBr.out.block _ (blk_lt HZB.out)).trans HZB.out
    have hcb := (HBWr.out.block _ hltc).trans X3.out
    have hltw : w.heap.size < wr.heap.size := blk_lt hcb
    have hltb : nb < wr.heap.size := blk_lt hzb
    have q0 := blk_cell hzb 0
    have q1 := blk_cell hzb 1
    have q2 := blk_cell hzb 2
    have q3 := blk_cell hzb 3
    have q4 := blk_cell hzb 4
    have q5 := blk_cell hzb 5
    have q6 := blk_cell hzb 6
    simp only [List.getElem?_toArray, List.getElem?_cons_succ, List.getElem?_cons_zero] at q0 q1 q2 q3 q4 q5 q6
    have r0 := blk_cell hcb 0
    have r1 := blk_cell hcb 1
    have r2 := blk_cell hcb 2
    have r3 := blk_cell hcb 3
    simp only [List.getElem?_toArray, List.getElem?_cons_succ, List.getElem?_cons_zero] at r0 r1 r2 r3
    by_cases hlt : i < N
    rotate_left
    · obtain rfl : i = N := by omega
      clear hlt
      go_wp2
      go_ret
      exact ⟨rfl, X1.out.trans (HBWr.out.mono X1.out.size)⟩
    have hil : i < live.length := by rw [HNN.out]; exact hlt
    obtain ⟨bb, off, rfl, hL⟩ := sl_atS (HNN.out ▸ X4.out : Sl 3 encP W (.slice A N k) live) hil
    have hLr := hL.below HBWr.out
    obtain ⟨m0, m1, m2⟩ := hLr.at3 i hil
    have hpm : live[i]! ∈ live := by rw [getElem!_pos live i hil]; exact List.getElem_mem hil
    have hpo := HG.out.each _ (List.mem_append_left _ hpm)
    have hpw := HWL.out _ hpm
    have hbc := HG.out.conf
    simp only [okConf, decide_eq_true_eq] at hbc
    obtain ⟨e1, e2, e3, e4, e5, e6, e7, e8, e9⟩ := hbc
    have hprev : ∀ i', i = i' + 1 → ∃ pp, wr.cell? ⟨bb, off + i' * 3, none⟩ = some (.int .u32 pp) ∧ pp < live[i]!.pos := fun i' e => by
      have h1 : i' < live.length := by omega
      refine ⟨live[i']!.pos, (hLr.at3 i' h1).1, ?_⟩
      have h2 := HG.out.pos
      rw [List.pairwise_iff_getElem] at h2
      have := h2 i' i h1 hil (by omega)
      rw [getElem!_pos live i' h1, getElem!_pos live i hil]; exact this
    have hfind := fun V (hV : Below W.heap.size W V) => HASKS.out.find V hV i hil
    have hsize := fun V (hV : Below W.heap.size W V) => HASKS.out.size V hV i hil
    have houts := fun V (hV : Below W.heap.size W V) => HASKS.out.outs V hV i hil
    generalize live[i]! = p at *
    obtain ⟨o1, o2, o3, o4, o5, o6, o7⟩ := hpo
    obtain ⟨pw0, pw1⟩ := hpw
    have hbbr : bb < wr.heap.size := hLr.1
    have hs1 : IntKind.i64.wrap (p.pos - sc.red) = p.pos - sc.red := by rw [IntKind.wrap_i64]; omega
    have hs2 : IntKind.i64.wrap (p.pos + max p.size 1) = p.pos + max p.size 1 := by rw [IntKind.wrap_i64]; omega
    have hs3 : IntKind.i64.wrap (p.pos + max p.size 1 + sc.red) = p.pos + max p.size 1 + sc.red := by rw [IntKind.wrap_i64]; omega
    have hs4 : IntKind.i64.wrap (p.pos + max p.size 1 + sc.red - 1) = p.pos + max p.size 1 + sc.red - 1 := by rw [IntKind.wrap_i64]; omega
    have d1 : decide (p.pos - sc.red < sc.page * 256) = false := decide_eq_false (by omega)
    have d2 : decide ((sc.page + sc.n) * 256 ≤ p.pos + max p.size 1 + sc.red - 1) = false := decide_eq_false (by omega)
    have hs5 : IntKind.i64.wrap (sc.page * 256) = sc.page * 256 := by rw [IntKind.wrap_i64]; omega
    have hs6 : IntKind.i64.wrap (sc.page + sc.n) = sc.page + sc.n := by rw [IntKind.wrap_i64]; omega
    have hs7 : IntKind.i64.wrap ((sc.page + sc.n) * 256) = (sc.page + sc.n) * 256 := by rw [IntKind.wrap_i64]; omega
    have hx0 : 0 ≤ p.pos - sc.red := by omega
    have hx1 : p.pos + max p.size 1 + sc.red ≤ 4294967296 := by omega
    have hi9 : (i : Int) < 9223372036854775807 := by have := HG.out.n1; omega
    refine round12 _ sc gi (.slice B quar.length m) p i N k bb off w.heap.size nb wr _ _ _ _ _ _ _ _ _ _ _ _ _ _ _ _ _ _ _ _ _ _ _ _ _ _ _ _ _ _ _ _ _ _ _ _ _ _ _ _ _ _ _ _ _ _ _ _ _ _ _ _ _ _ _ _ _ _ _ _ _ _ _ _ _ _ _ _ _ _ _ _ _ _ _ _ _ _ _ _ _ _ _ _ _ _ _ _ _ _ _ _ _ _ _ _ _ _ _ _ _ _ _ _ _ _ _ _ _ _ _ _ _ _ _ _ _ _ _ _ _ _ _ _ _ _ _ _ _ _ _ _ _ _ _ _ _ _ _ _ _ _ _ _ _ _ _ _ _ _ _ _ _ _ _ _ _ _ _ _ _ _ _ _ _ _ _ _ _ _ _ _ _ _ _ _ _ _ _ _ _ _ _ _ _ _ _ _ _ _ _ hcb hzb m0 m1 m2 hprev hbbr hlt hi9 hs1 hs2 hs3 hs4 d1 d2 hs5 hs6 hs7 (fun V hV x h1 h2 => hfind V (HBWr.out.trans (hV.mono HBWr.out.size)) x h1 h2) (fun V hV => hsize V (HBWr.out.trans (hV.mono HBWr.out.size))) (fun V hV => houts V (HBWr.out.trans (hV.mono HBWr.out.size))) pw0 pw1 o2 o3 e6 e7 hx0 hx1 ?_
    clear hL hLr hpm hfind hsize houts hprev hzb hcb q0 q1 q2 q3 q4 q5 q6 r0 r1 r2 r3 m0 m1 m2
    intro v4 v7 v8 v9 v10 v12 v13 v14 v15 v16 v17 v18 v52 v53 v54 v55 v56 v57 v58 v59 v60 v61 v62 v63 v64 v65 v66 v67 v68 v69 v70 v71 v72 v73 v74 v75 v76 v77 v78 v79 v80 v81 v82 v83 v84 v85 v86 v87 v88 v89 v90 v91 v92 v93 v94 v95 v96 v97 v98 v99 v100 v101 v102 v103 v104 v105 v106 v107 v108 v109 v110 v111 v112 v113 v114 v115 v116 v117 v118 v119 v120 v121 v122 v123 v124 v125 v126 v127 v128 v129 v130 v131 v132 v133 v134 v135 v136 v137 v138 v139 v140 v141 v142 v143 v144 v145 v146 v147 v148 v149 v150 v151 v152 v153 v154 v155 v156 v157 v158 v159 v160 v161 v162 v163 v164 v165 v166 v167 v168 v169 v170 v171 v172 v173 v174 v175 v176 v177 v178 v179 v180 v181 v182 v183 v184 v185 v186 v187 v188 v189 v190 v191 v192 v193 v194 v195 W' hW'
    have HW' := Lib.hid hW'
    clear hW'
    go_wp2
    go_roundg (N - (i + 1))
    case measure => omega
    case rel => exact ⟨i + 1, by omega, by go_num, Nat.le_refl _, HBr.out.trans (HW'.out.mono hsr)⟩)
end Go.Proofs.Ytbhbjcgbhklieaa
