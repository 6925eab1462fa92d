/- HeapAllocs: the specification's Resize. -/
import Derived.Test.YtbhbjcgbhklieaaU1
import Derived.Test.YtbhbjcgbhklieaaU2
import Derived.Test.YtbhbjcgbhklieaaP4
namespace Go.Proofs.Ytbhbjcgbhklieaa
open Go.RowKit Go.Shelf

theorem resize_at {c : Conf} {gi : Int} {live quar : List Piece} {L : List Ext} {size at_ tg : Int} (hL : Op c gi live quar L) (wl : ∀ p ∈ live, WfP p) (wq : ∀ p ∈ quar, WfP p) (hi : isI live tg = true) (z0 : 0 ≤ size) (z1 : size ≤ 65536) (hv : roomGo c.red size (gapsF c L) = some at_) (n1 : live.length ≠ 1000) (n2 : gi ≠ 1073741824) :
    Good c (gi + 1) (insF live (atI live at_) ⟨at_, size, gi + 1⟩) quar ∧ isI (insF live (atI live at_) ⟨at_, size, gi + 1⟩) tg = true ∧ ∀ p ∈ insF live (atI live at_) ⟨at_, size, gi + 1⟩, WfP p := by
  have g := alloc_good hL wl wq z0 z1 hv n1 n2
  have hr := room_range hL hv
  have wl' : ∀ q ∈ insF live (atI live at_) ⟨at_, size, gi + 1⟩, WfP q := ins_wf wl ⟨by show 0 ≤ at_; omega, hr.2⟩
  obtain ⟨hm1, hm2, hm3⟩ := at_mem hi
  have hin : live[atI live tg]! ∈ insF live (atI live at_) ⟨at_, size, gi + 1⟩ := (insF_perm _ _ _).mem_iff.2 (List.mem_cons_of_mem _ hm2)
  obtain ⟨j, hj, hje⟩ := List.getElem_of_mem hin
  have ha := at_of g.pos hj
  rw [getElem!_pos _ j hj, hje, hm3] at ha
  exact ⟨(good_iff wl' wq).2 g, ha.2, wl'⟩

set_option maxRecDepth 100000 in
set_option maxHeartbeats 8000000 in
theorem c49 (c : Conf) (lv qv : Value) (gi : Int) (live quar : List Piece) (tg size : Int) (w : World) (hl : Sl 3 encP w lv live) (hq : Sl 3 encP w qv quar) (wl : ∀ p ∈ live, WfP p) (wq : ∀ p ∈ quar, WfP p) :
    Calls Try.prog 49 #[hAgg c lv qv gi, .int .u32 tg, .int .i64 size] w fun e w' => Below w.heap.size w w' ∧ ∃ err at_ r, ResizeP c gi live quar tg size err at_ r ∧ HAns w.heap.size w' e err at_ r := by
  have HL := Lib.hid hl
  have HQ := Lib.hid hq
  have HWL := Lib.hid wl
  have HWQ := Lib.hid wq
  have hgo := good_iff wl wq (c := c) (gi := gi)
  obtain ⟨A, ca, rfl, _, _⟩ := hl
  obtain ⟨B, cb, rfl, _, _⟩ := hq
  have hw1 := (below_alloc1 w (.cells #[.int .i64 c.page, .int .i64 c.n, .int .i64 c.red, .int .i64 c.quarantine, .slice A live.length ca, .slice B quar.length cb, .int .i64 gi] 26)).alloc (by simp) (.cells #[.int .i64 0, .int .i64 0, .int .i64 0, .int .i64 0, .slice none 0 0, .slice none 0 0, .int .i64 0] 26)
  have hcall := c18 c _ _ gi live quar _ (HL.out.below hw1) (HQ.out.below hw1) wl wq
  have HW1 := Lib.hid hw1
  have HGO := Lib.hid hgo
  have HC := Lib.hid hcall
  clear wl wq hw1 hgo hcall
  go_enter Try.func49, Try.ntmps49
  go_wp2_with fail
  refine Calls.mono HC.out ?_
  clear HC
  rintro e w1 ⟨hB, hr⟩
  have hb0 : w1.heap[w.heap.size]? = some (.cells #[.int .i64 c.page, .int .i64 c.n, .int .i64 c.red, .int .i64 c.quarantine, .slice A live.length ca, .slice B quar.length cb, .int .i64 gi] 26 (0, 0)) := (hB.block _ (by simp; try omega)).trans (hal_old (hal_new rfl))
  have hb1 : w1.heap[w.heap.size + 1]? = some (.cells #[.int .i64 0, .int .i64 0, .int .i64 0, .int .i64 0, .slice none 0 0, .slice none 0 0, .int .i64 0] 26 (0, 0)) := (hB.block _ (by simp)).trans (hal_new (by simp))
  have HBW : Hid (Below w.heap.size w w1) := HW1.out.trans (hB.mono (by simp; try omega))
  have hsz : w.heap.size + 2 ≤ w1.heap.size := by have := hB.size; simpa using this
  clear hB
  have q0 := blk_cell hb1 0
  have fq0 : w1.frozen? ⟨w.heap.size + 1, 0, none⟩ = false := frozen_of_row _ _ _ _ _ hb1
  have q1 := blk_cell hb1 1
  have fq1 : w1.frozen? ⟨w.heap.size + 1, 1, none⟩ = false := frozen_of_row _ _ _ _ _ hb1
  have q2 := blk_cell hb1 2
  have fq2 : w1.frozen? ⟨w.heap.size + 1, 2, none⟩ = false := frozen_of_row _ _ _ _ _ hb1
  have q3 := blk_cell hb1 3
  have fq3 : w1.frozen? ⟨w.heap.size + 1, 3, none⟩ = false := frozen_of_row _ _ _ _ _ hb1
  have q4 := blk_cell hb1 4
  have fq4 : w1.frozen? ⟨w.heap.size + 1, 4, none⟩ = false := frozen_of_row _ _ _ _ _ hb1
  have q5 := blk_cell hb1 5
  have fq5 : w1.frozen? ⟨w.heap.size + 1, 5, none⟩ = false := frozen_of_row _ _ _ _ _ hb1
  have q6 := blk_cell hb1 6
  have fq6 : w1.frozen? ⟨w.heap.size + 1, 6, none⟩ = false := frozen_of_row _ _ _ _ _ hb1
  simp only [List.getElem?_toArray, List.getElem?_cons_succ, List.getElem?_cons_zero] at q0 q1 q2 q3 q4 q5 q6
  have p0 := blk_cell hb0 0
  have p1 := blk_cell hb0 1
  have p2 := blk_cell hb0 2
  have p3 := blk_cell hb0 3
  have p4 := blk_cell hb0 4
  have p5 := blk_cell hb0 5
  have p6 := blk_cell hb0 6
  simp only [List.getElem?_toArray, List.getElem?_cons_succ, List.getElem?_cons_zero] at p0 p1 p2 p3 p4 p5 p6
  have HB0 := Lib.hid hb0
  have HB1 := Lib.hid hb1
  clear hb0 hb1
  obtain ⟨hg, rfl⟩ | ⟨hg, rfl⟩ := hr
  · have HG : Hid (¬ Good c gi live quar) := fun h => hg (HGO.out.1 h)
    clear hg
    go_wp2
    refine bodyPost_ret (v := .tuple #[hNil, .int .u32 0, .int .i64 60]) (by simp [results, Try.results49, go_sem, q0, q1, q2, q3, q4, q5, q6]) rfl ⟨?_, 60, 0, hZ, .inl ⟨HG.out, rfl, rfl, rfl⟩, hans_nil _ _ _⟩
    repeat' first | refine Below.setCell ?_ (by simp; try omega) _ | refine Below.alloc ?_ (by simp; try omega) _ | exact HBW.out
  have hgood := HGO.out.2 hg
  have hn1 := hg.n1
  have hlv := c81 c (.slice A live.length ca) (.slice B quar.length cb) gi live tg w1 (HL.out.below HBW.out) hn1
  have hrl := rLive_eq hg.pos tg
  have HGP := Lib.hid hg
  have HGD := Lib.hid hgood
  have HLV := Lib.hid hlv
  have HRL := Lib.hid hrl
  clear hg hgood hlv hrl
  go_wp2_with fail
  refine Calls.mono HLV.out ?_
  clear HLV
  rintro e w2 ⟨rfl, hB2⟩
  rw [HRL.out]
  clear HRL
  have hb0 : w2.heap[w.heap.size]? = some (.cells #[.int .i64 c.page, .int .i64 c.n, .int .i64 c.red, .int .i64 c.quarantine, .slice A live.length ca, .slice B quar.length cb, .int .i64 gi] 26 (0, 0)) := (hB2.block _ (by omega)).trans HB0.out
  have hb1 : w2.heap[w.heap.size + 1]? = some (.cells #[.int .i64 0, .int .i64 0, .int .i64 0, .int .i64 0, .slice none 0 0, .slice none 0 0, .int .i64 0] 26 (0, 0)) := (hB2.block _ (by omega)).trans HB1.out
  have hsz2 : w.heap.size + 2 ≤ w2.heap.size := Nat.le_trans hsz hB2.size
  have HBW2 : Hid (Below w.heap.size w w2) := HBW.out.trans (hB2.mono (by omega))
  clear hB2 HBW HB0 HB1 q0 q1 q2 q3 q4 q5 q6 fq0 fq1 fq2 fq3 fq4 fq5 fq6 p0 p1 p2 p3 p4 p5 p6 HW1
  have HBW := HBW2
  clear HBW2
  have q0 := blk_cell hb1 0
  have fq0 : w2.frozen? ⟨w.heap.size + 1, 0, none⟩ = false := frozen_of_row _ _ _ _ _ hb1
  have q1 := blk_cell hb1 1
  have fq1 : w2.frozen? ⟨w.heap.size + 1, 1, none⟩ = false := frozen_of_row _ _ _ _ _ hb1
  have q2 := blk_cell hb1 2
  have fq2 : w2.frozen? ⟨w.heap.size + 1, 2, none⟩ = false := frozen_of_row _ _ _ _ _ hb1
  have q3 := blk_cell hb1 3
  have fq3 : w2.frozen? ⟨w.heap.size + 1, 3, none⟩ = false := frozen_of_row _ _ _ _ _ hb1
  have q4 := blk_cell hb1 4
  have fq4 : w2.frozen? ⟨w.heap.size + 1, 4, none⟩ = false := frozen_of_row _ _ _ _ _ hb1
  have q5 := blk_cell hb1 5
  have fq5 : w2.frozen? ⟨w.heap.size + 1, 5, none⟩ = false := frozen_of_row _ _ _ _ _ hb1
  have q6 := blk_cell hb1 6
  have fq6 : w2.frozen? ⟨w.heap.size + 1, 6, none⟩ = false := frozen_of_row _ _ _ _ _ hb1
  simp only [List.getElem?_toArray, List.getElem?_cons_succ, List.getElem?_cons_zero] at q0 q1 q2 q3 q4 q5 q6
  have p0 := blk_cell hb0 0
  have p1 := blk_cell hb0 1
  have p2 := blk_cell hb0 2
  have p3 := blk_cell hb0 3
  have p4 := blk_cell hb0 4
  have p5 := blk_cell hb0 5
  have p6 := blk_cell hb0 6
  simp only [List.getElem?_toArray, List.getElem?_cons_succ, List.getElem?_cons_zero] at p0 p1 p2 p3 p4 p5 p6
  have HB0 := Lib.hid hb0
  have HB1 := Lib.hid hb1
  clear hb0 hb1
  cases his : isI live tg with
  | false =>
    have HIS := Lib.hid his
    clear his
    simp only [Bool.false_eq_true, if_false]
    go_wp2
    refine bodyPost_ret (v := .tuple #[hNil, .int .u32 0, .int .i64 61]) (by simp [results, Try.results49, go_sem, q0, q1, q2, q3, q4, q5, q6]) rfl ⟨?_, 61, 0, hZ, .inr (.inl ⟨HGD.out, HIS.out, rfl, rfl, rfl⟩), hans_nil _ _ _⟩
    repeat' first | refine Below.setCell ?_ (by simp; try omega) _ | refine Below.alloc ?_ (by simp; try omega) _ | exact HBW.out
  | true =>
  have HIS := Lib.hid his
  rw [if_pos rfl]
  clear his
  obtain ⟨i, hi⟩ : ∃ i, atI live tg = i := ⟨_, rfl⟩
  rw [hi]
  have hin : ¬ (i : Int) < 0 := by omega
  have HAL := Lib.hid (c47 c (.slice A live.length ca) (.slice B quar.length cb) gi live quar size w2 (HL.out.below HBW.out) (HQ.out.below HBW.out) HWL.out HWQ.out)
  clear hi
  go_wp2_with fail
  refine Calls.mono HAL.out ?_
  clear HAL
  rintro e w3 ⟨hB3, err, at_, r, hal, A1, c1, A2, c2, rfl, hf1, hf2⟩
  have hb1 : w3.heap[w.heap.size + 1]? = some (.cells #[.int .i64 0, .int .i64 0, .int .i64 0, .int .i64 0, .slice none 0 0, .slice none 0 0, .int .i64 0] 26 (0, 0)) := (hB3.block _ (by omega)).trans HB1.out
  have HBW3 : Hid (Below w.heap.size w w3) := HBW.out.trans (hB3.mono (by omega))
  have hsz3 : w.heap.size + 2 ≤ w3.heap.size := Nat.le_trans hsz2 hB3.size
  have HA := Lib.hid hal
  have HF1 := Lib.hid hf1
  have HF2 := Lib.hid hf2
  clear hB3 hal hf1 hf2 HB0 HB1 HBW q0 q1 q2 q3 q4 q5 q6 fq0 fq1 fq2 fq3 fq4 fq5 fq6 p0 p1 p2 p3 p4 p5 p6
  have q0 := blk_cell hb1 0
  have fq0 : w3.frozen? ⟨w.heap.size + 1, 0, none⟩ = false := frozen_of_row _ _ _ _ _ hb1
  have q1 := blk_cell hb1 1
  have fq1 : w3.frozen? ⟨w.heap.size + 1, 1, none⟩ = false := frozen_of_row _ _ _ _ _ hb1
  have q2 := blk_cell hb1 2
  have fq2 : w3.frozen? ⟨w.heap.size + 1, 2, none⟩ = false := frozen_of_row _ _ _ _ _ hb1
  have q3 := blk_cell hb1 3
  have fq3 : w3.frozen? ⟨w.heap.size + 1, 3, none⟩ = false := frozen_of_row _ _ _ _ _ hb1
  have q4 := blk_cell hb1 4
  have fq4 : w3.frozen? ⟨w.heap.size + 1, 4, none⟩ = false := frozen_of_row _ _ _ _ _ hb1
  have q5 := blk_cell hb1 5
  have fq5 : w3.frozen? ⟨w.heap.size + 1, 5, none⟩ = false := frozen_of_row _ _ _ _ _ hb1
  have q6 := blk_cell hb1 6
  have fq6 : w3.frozen? ⟨w.heap.size + 1, 6, none⟩ = false := frozen_of_row _ _ _ _ _ hb1
  simp only [List.getElem?_toArray, List.getElem?_cons_succ, List.getElem?_cons_zero] at q0 q1 q2 q3 q4 q5 q6
  have HB1 := Lib.hid hb1
  clear hb1
  have hl1 : w.heap.size + 1 < w3.heap.size := by omega
  by_cases he : err = 0
  rotate_left
  · have he' : (err == 0) = false := by simpa using he
    have he2 : (err != 0) = true := by simpa using he
    have hres : Hid (at_ = 0 ∧ ResizeP c gi live quar tg size err at_ hZ) := by
      rcases HA.out with ⟨h, _⟩ | ⟨_, hz, rfl, rfl, _⟩ | ⟨L, hL, z0, z1, hn, rfl, rfl, _⟩ | ⟨L, hL, z0, z1, hv, n1, n2, rfl, _⟩
      · exact absurd HGD.out h
      · exact ⟨rfl, .inr (.inr (.inl ⟨HGD.out, HIS.out, hz, rfl, rfl, rfl⟩))⟩
      · exact ⟨rfl, .inr (.inr (.inr (.inl ⟨L, hL, HIS.out, z0, z1, hn, rfl, rfl, rfl⟩)))⟩
      · exact absurd rfl he
    have h2 : Hid (ResizeP c gi live quar tg size err 0 hZ) := by have h := hres.out.2; rw [hres.out.1] at h; exact h
    clear hres
    go_simp
    repeat (first | go_skip | go_guarded | go_step | go_upon | go_in | go_back)
    refine gen_worldB (fun W => Below w.heap.size w W ∧ W.heap[w.heap.size + 1]? = some (.cells #[.int .i64 0, .int .i64 0, .int .i64 0, .int .i64 0, .slice none 0 0, .slice none 0 0, .int .i64 0] 26 (0, 0))) ⟨?_, ?_⟩ ?_
    · refine Below.alloc ?_ (by simp; omega) _
      repeat' first | refine Below.setCell ?_ (by simp) _ | exact HBW3.out
    · refine hal_old ?_
      have e1 := row_setCell (o := 0) (.int .i64 0) HB1.out
      have e2 := row_setCell (o := 1) (.int .i64 0) e1
      have e3 := row_setCell (o := 2) (.int .i64 0) e2
      have e4 := row_setCell (o := 3) (.int .i64 0) e3
      have e5 := row_setCell (o := 4) (.slice none 0 0) e4
      have e6 := row_setCell (o := 5) (.slice none 0 0) e5
      have e7 := row_setCell (o := 6) (.int .i64 0) e6
      simp only [List.setIfInBounds_toArray, List.set_cons_zero, List.set_cons_succ] at e7
      exact e7
    rintro W9 ⟨t1, t2⟩
    have y0 := blk_cell t2 0
    have y1 := blk_cell t2 1
    have y2 := blk_cell t2 2
    have y3 := blk_cell t2 3
    have y4 := blk_cell t2 4
    have y5 := blk_cell t2 5
    have y6 := blk_cell t2 6
    simp only [List.getElem?_toArray, List.getElem?_cons_succ, List.getElem?_cons_zero] at y0 y1 y2 y3 y4 y5 y6
    exact bodyPost_ret (v := .tuple #[hNil, .int .u32 0, .int .i64 err]) (by simp [results, Try.results49, go_sem, y0, y1, y2, y3, y4, y5, y6]) rfl ⟨t1, err, 0, hZ, h2.out, hans_nil _ _ _⟩
  subst he
  obtain ⟨L, hL, z0, z1, hv, n1, n2, hr⟩ : ∃ L, Op c gi live quar L ∧ 0 ≤ size ∧ size ≤ 65536 ∧ roomGo c.red size (gapsF c L) = some at_ ∧ live.length ≠ 1000 ∧ gi ≠ 1073741824 ∧ r = ⟨c, gi + 1, insF live (atI live at_) ⟨at_, size, gi + 1⟩, quar⟩ := by
    rcases HA.out with ⟨_, h, _⟩ | ⟨_, _, h, _⟩ | ⟨_, _, _, _, _, h, _⟩ | ⟨L, hL, z0, z1, hv, n1, n2, _, hr⟩
    · cases h
    · cases h
    · cases h
    · exact ⟨L, hL, z0, z1, hv, n1, n2, hr⟩
  subst hr
  obtain ⟨hg2, his2, hwl2⟩ := resize_at hL HWL.out HWQ.out HIS.out z0 z1 hv n1 n2
  have HRP : Hid (∀ err r, FreeP c (gi + 1) (insF live (atI live at_) ⟨at_, size, gi + 1⟩) quar tg err r → ResizeP c gi live quar tg size err at_ r) := fun err r h => by
    rcases h with ⟨h, _⟩ | ⟨_, h, _⟩ | ⟨_, _, rfl, rfl⟩
    · exact absurd hg2 h
    · rw [his2] at h; cases h
    · exact .inr (.inr (.inr (.inr ⟨L, hL, HIS.out, z0, z1, hv, n1, n2, rfl, rfl⟩)))
  have HWL2 := Lib.hid hwl2
  clear hL z0 z1 hv n1 n2 hg2 his2 hwl2 HA
  generalize insF live (atI live at_) ⟨at_, size, gi + 1⟩ = X at *
  simp only at HF1 HF2
  have hfr := fun V (hV : Below w3.heap.size w3 V) => c48 c (.slice A1 X.length c1) (.slice A2 quar.length c2) (gi + 1) X quar tg V (HF1.out.sl.below hV) (HF2.out.sl.below hV) HWL2.out HWQ.out
  have HFR := Lib.hid hfr
  clear hfr
  go_wp2_with fail
  refine Calls.mono (HFR.out _ (below_alloc1 w3 _)) ?_
  clear HFR
  rintro e w4 ⟨hB4, err2, r2, hfp, A3, c3, A4, c4, rfl, hf3, hf4⟩
  have hg4 : w4.heap[w3.heap.size]? = some (.cells #[.int .i64 c.page, .int .i64 c.n, .int .i64 c.red, .int .i64 c.quarantine, .slice A1 X.length c1, .slice A2 quar.length c2, .int .i64 (gi + 1)] 26 (0, 0)) := (hB4.block _ (by simp)).trans (hal_new rfl)
  have hn4 : w4.heap[w.heap.size + 1]? = some (.cells #[.int .i64 0, .int .i64 0, .int .i64 0, .int .i64 0, .slice none 0 0, .slice none 0 0, .int .i64 0] 26 (0, 0)) := (hB4.block _ (by simp; omega)).trans (hal_old HB1.out)
  have HBW4 : Hid (Below w.heap.size w w4) := (HBW3.out.alloc (by omega) _).trans (hB4.mono (by simp; omega))
  have hsz4 : w3.heap.size + 1 ≤ w4.heap.size := by have := hB4.size; simpa using this
  simp only [World.size_alloc] at hf3 hf4
  have HRES := Lib.hid (HRP.out _ _ hfp)
  have HF3 := Lib.hid hf3
  have HF4 := Lib.hid hf4
  have hl41 : w.heap.size + 1 < w4.heap.size := by omega
  have hl43 : w3.heap.size < w4.heap.size := by omega
  have hne1 : (w.heap.size + 1 = w3.heap.size) = False := eq_false (by omega)
  have hne2 : (w3.heap.size = w.heap.size + 1) = False := eq_false (by omega)
  clear hfp hf3 hf4 hB4 HRP q0 q1 q2 q3 q4 q5 q6 fq0 fq1 fq2 fq3 fq4 fq5 fq6
  have q0 := blk_cell hn4 0
  have fq0 : w4.frozen? ⟨w.heap.size + 1, 0, none⟩ = false := frozen_of_row _ _ _ _ _ hn4
  have q1 := blk_cell hn4 1
  have fq1 : w4.frozen? ⟨w.heap.size + 1, 1, none⟩ = false := frozen_of_row _ _ _ _ _ hn4
  have q2 := blk_cell hn4 2
  have fq2 : w4.frozen? ⟨w.heap.size + 1, 2, none⟩ = false := frozen_of_row _ _ _ _ _ hn4
  have q3 := blk_cell hn4 3
  have fq3 : w4.frozen? ⟨w.heap.size + 1, 3, none⟩ = false := frozen_of_row _ _ _ _ _ hn4
  have q4 := blk_cell hn4 4
  have fq4 : w4.frozen? ⟨w.heap.size + 1, 4, none⟩ = false := frozen_of_row _ _ _ _ _ hn4
  have q5 := blk_cell hn4 5
  have fq5 : w4.frozen? ⟨w.heap.size + 1, 5, none⟩ = false := frozen_of_row _ _ _ _ _ hn4
  have q6 := blk_cell hn4 6
  have fq6 : w4.frozen? ⟨w.heap.size + 1, 6, none⟩ = false := frozen_of_row _ _ _ _ _ hn4
  simp only [List.getElem?_toArray, List.getElem?_cons_succ, List.getElem?_cons_zero] at q0 q1 q2 q3 q4 q5 q6
  have z0 := blk_cell hg4 0
  have fz0 : w4.frozen? ⟨w3.heap.size, 0, none⟩ = false := frozen_of_row _ _ _ _ _ hg4
  have z1 := blk_cell hg4 1
  have fz1 : w4.frozen? ⟨w3.heap.size, 1, none⟩ = false := frozen_of_row _ _ _ _ _ hg4
  have z2 := blk_cell hg4 2
  have fz2 : w4.frozen? ⟨w3.heap.size, 2, none⟩ = false := frozen_of_row _ _ _ _ _ hg4
  have z3 := blk_cell hg4 3
  have fz3 : w4.frozen? ⟨w3.heap.size, 3, none⟩ = false := frozen_of_row _ _ _ _ _ hg4
  have z4 := blk_cell hg4 4
  have fz4 : w4.frozen? ⟨w3.heap.size, 4, none⟩ = false := frozen_of_row _ _ _ _ _ hg4
  have z5 := blk_cell hg4 5
  have fz5 : w4.frozen? ⟨w3.heap.size, 5, none⟩ = false := frozen_of_row _ _ _ _ _ hg4
  have z6 := blk_cell hg4 6
  have fz6 : w4.frozen? ⟨w3.heap.size, 6, none⟩ = false := frozen_of_row _ _ _ _ _ hg4
  simp only [List.getElem?_toArray, List.getElem?_cons_succ, List.getElem?_cons_zero] at z0 z1 z2 z3 z4 z5 z6
  have HN4 := Lib.hid hn4
  clear hn4 hg4
  go_simp
  repeat (first | go_skip | go_guarded | go_step | go_upon | go_in | go_back)
  refine gen_worldB (fun W => Below w.heap.size w W ∧ W.heap[w.heap.size + 1]? = some (.cells #[.int .i64 r2.c.page, .int .i64 r2.c.n, .int .i64 r2.c.red, .int .i64 r2.c.quarantine, .slice A3 r2.live.length c3, .slice A4 r2.quar.length c4, .int .i64 r2.gi] 26 (0, 0)) ∧ w4.heap.size ≤ W.heap.size ∧ (∀ j, j < w4.heap.size → w3.heap.size + 1 ≤ j → W.heap[j]? = w4.heap[j]?)) ⟨?_, ?_, by simp [World.setCell], fun j hj hge => ?_⟩ ?_
  · repeat' first | refine Below.setCell ?_ (by simp; try omega) _ | exact HBW4.out
  · have hkk : ∀ (V : World) (o : Nat) (v : Value), (V.setCell ⟨w3.heap.size, o, none⟩ v).heap[w.heap.size + 1]? = V.heap[w.heap.size + 1]? := fun V o v => Below.heap_setCell _ _ _ _ (show w.heap.size + 1 ≠ w3.heap.size by omega)
    have hbase : (((((((w4.setCell ⟨w3.heap.size, 0, none⟩ (.int .i64 r2.c.page)).setCell ⟨w3.heap.size, 1, none⟩ (.int .i64 r2.c.n)).setCell ⟨w3.heap.size, 2, none⟩ (.int .i64 r2.c.red)).setCell ⟨w3.heap.size, 3, none⟩ (.int .i64 r2.c.quarantine)).setCell ⟨w3.heap.size, 4, none⟩ (.slice A3 r2.live.length c3)).setCell ⟨w3.heap.size, 5, none⟩ (.slice A4 r2.quar.length c4)).setCell ⟨w3.heap.size, 6, none⟩ (.int .i64 r2.gi)).heap[w.heap.size + 1]? = some (.cells #[.int .i64 0, .int .i64 0, .int .i64 0, .int .i64 0, .slice none 0 0, .slice none 0 0, .int .i64 0] 26 (0, 0)) := by
      rw [hkk, hkk, hkk, hkk, hkk, hkk, hkk]; exact HN4.out
    have e1 := row_setCell (o := 0) (.int .i64 r2.c.page) hbase
    have e2 := row_setCell (o := 1) (.int .i64 r2.c.n) e1
    have e3 := row_setCell (o := 2) (.int .i64 r2.c.red) e2
    have e4 := row_setCell (o := 3) (.int .i64 r2.c.quarantine) e3
    have e5 := row_setCell (o := 4) (.slice A3 r2.live.length c3) e4
    have e6 := row_setCell (o := 5) (.slice A4 r2.quar.length c4) e5
    have e7 := row_setCell (o := 6) (.int .i64 r2.gi) e6
    simp only [List.setIfInBounds_toArray, List.set_cons_zero, List.set_cons_succ] at e7
    exact e7
  · have hj1 : j ≠ w.heap.size + 1 := by omega
    have hj2 : j ≠ w3.heap.size := by omega
    repeat' first | refine Eq.trans (Below.heap_setCell _ _ _ _ hj1) ?_ | refine Eq.trans (Below.heap_setCell _ _ _ _ hj2) ?_ | rfl
  rintro W9 ⟨t1, t2, t3, t4⟩
  have y0 := blk_cell t2 0
  have y1 := blk_cell t2 1
  have y2 := blk_cell t2 2
  have y3 := blk_cell t2 3
  have y4 := blk_cell t2 4
  have y5 := blk_cell t2 5
  have y6 := blk_cell t2 6
  simp only [List.getElem?_toArray, List.getElem?_cons_succ, List.getElem?_cons_zero] at y0 y1 y2 y3 y4 y5 y6
  refine bodyPost_ret (v := .tuple #[hAgg r2.c (.slice A3 r2.live.length c3) (.slice A4 r2.quar.length c4) r2.gi, .int .u32 at_, .int .i64 err2]) (by simp [results, Try.results49, go_sem, y0, y1, y2, y3, y4, y5, y6]) rfl ⟨t1, err2, at_, r2, HRES.out, A3, c3, A4, c4, rfl, (HF3.out.kept t3 t4).base (by omega), (HF4.out.kept t3 t4).base (by omega)⟩
end Go.Proofs.Ytbhbjcgbhklieaa
