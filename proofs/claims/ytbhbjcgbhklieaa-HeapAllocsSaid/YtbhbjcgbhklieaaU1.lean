/- HeapAllocs: the specification's Alloc. -/
import Derived.Test.YtbhbjcgbhklieaaT1
import Derived.Test.YtbhbjcgbhklieaaT2
import Derived.Test.YtbhbjcgbhklieaaP2
import Derived.Test.YtbhbjcgbhklieaaS1
import Derived.Test.YtbhbjcgbhklieaaU0
namespace Go.Proofs.Ytbhbjcgbhklieaa
open Go.RowKit Go.Shelf

theorem Sl.form {W : World} {A : Option Addr} {n k : Nat} {l : List Piece} (h : Sl 3 encP W (.slice A n k) l) (hn : l.length = n) : l = [] ∨ ∃ b off, A = some ⟨b, off, none⟩ ∧ Lies 3 encP W b off l := by
  obtain ⟨A', c', e, _, hl⟩ := h
  cases e
  exact hl

set_option maxRecDepth 100000 in
set_option maxHeartbeats 4000000 in
theorem c47 (c : Conf) (lv qv : Value) (gi : Int) (live quar : List Piece) (size : Int) (w : World) (hl : Sl 3 encP w lv live) (hq : Sl 3 encP w qv quar) (wl : ∀ p ∈ live, WfP p) (wq : ∀ p ∈ quar, WfP p) :
    Calls Try.prog 47 #[hAgg c lv qv gi, .int .i64 size] w fun e w' => Below w.heap.size w w' ∧ ∃ err at_ r, AllocP c gi live quar size err at_ r ∧ HAns w.heap.size w' e err at_ r := by
  have HL := Lib.hid hl
  have HQ := Lib.hid hq
  have HWL := Lib.hid wl
  have HWQ := Lib.hid wq
  have hgo := good_iff wl wq (c := c) (gi := gi)
  obtain ⟨A, ca, rfl, _, _⟩ := hl
  obtain ⟨B, cb, rfl, _, _⟩ := hq
  have hw1 := (below_alloc1 w (.cells #[.int .i64 c.page, .int .i64 c.n, .int .i64 c.red, .int .i64 c.quarantine, .slice A live.length ca, .slice B quar.length cb, .int .i64 gi] 26)).alloc (by simp) (.cells #[.int .i64 0, .int .i64 0, .int .i64 0, .int .i64 0, .slice none 0 0, .slice none 0 0, .int .i64 0] 26)
  have hcall := c18 c _ _ gi live quar _ (HL.out.below hw1) (HQ.out.below hw1) wl wq
  have HW1 := Lib.hid hw1
  have HGO := Lib.hid hgo
  have HC := Lib.hid hcall
  clear wl wq hw1 hgo hcall
  go_enter Try.func47, Try.ntmps47
  go_wp2_with fail
  refine Calls.mono HC.out ?_
  clear HC
  rintro e w1 ⟨hB, hr⟩
  have hb0 : w1.heap[w.heap.size]? = some (.cells #[.int .i64 c.page, .int .i64 c.n, .int .i64 c.red, .int .i64 c.quarantine, .slice A live.length ca, .slice B quar.length cb, .int .i64 gi] 26 (0, 0)) := (hB.block _ (by simp; try omega)).trans (hal_old (hal_new rfl))
  have hb1 : w1.heap[w.heap.size + 1]? = some (.cells #[.int .i64 0, .int .i64 0, .int .i64 0, .int .i64 0, .slice none 0 0, .slice none 0 0, .int .i64 0] 26 (0, 0)) := (hB.block _ (by simp)).trans (hal_new (by simp))
  have HBW : Hid (Below w.heap.size w w1) := HW1.out.trans (hB.mono (by simp; try omega))
  have hsz : w.heap.size + 2 ≤ w1.heap.size := by have := hB.size; simpa using this
  clear hB
  have q0 := blk_cell hb1 0
  have f0 : w1.frozen? ⟨w.heap.size + 1, 0, none⟩ = false := frozen_of_row _ _ _ _ _ hb1
  have q1 := blk_cell hb1 1
  have f1 : w1.frozen? ⟨w.heap.size + 1, 1, none⟩ = false := frozen_of_row _ _ _ _ _ hb1
  have q2 := blk_cell hb1 2
  have f2 : w1.frozen? ⟨w.heap.size + 1, 2, none⟩ = false := frozen_of_row _ _ _ _ _ hb1
  have q3 := blk_cell hb1 3
  have f3 : w1.frozen? ⟨w.heap.size + 1, 3, none⟩ = false := frozen_of_row _ _ _ _ _ hb1
  have q4 := blk_cell hb1 4
  have f4 : w1.frozen? ⟨w.heap.size + 1, 4, none⟩ = false := frozen_of_row _ _ _ _ _ hb1
  have q5 := blk_cell hb1 5
  have f5 : w1.frozen? ⟨w.heap.size + 1, 5, none⟩ = false := frozen_of_row _ _ _ _ _ hb1
  have q6 := blk_cell hb1 6
  have f6 : w1.frozen? ⟨w.heap.size + 1, 6, none⟩ = false := frozen_of_row _ _ _ _ _ hb1
  simp only [List.getElem?_toArray, List.getElem?_cons_succ, List.getElem?_cons_zero] at q0 q1 q2 q3 q4 q5 q6
  have p0 := blk_cell hb0 0
  have p1 := blk_cell hb0 1
  have p2 := blk_cell hb0 2
  have p3 := blk_cell hb0 3
  have p4 := blk_cell hb0 4
  have p5 := blk_cell hb0 5
  have p6 := blk_cell hb0 6
  simp only [List.getElem?_toArray, List.getElem?_cons_succ, List.getElem?_cons_zero] at p0 p1 p2 p3 p4 p5 p6
  have HB0 := Lib.hid hb0
  have HB1 := Lib.hid hb1
  clear hb0 hb1
  obtain ⟨hg, rfl⟩ | ⟨hg, rfl⟩ := hr
  · have HG : Hid (¬ Good c gi live quar) := fun h => hg (HGO.out.1 h)
    clear hg
    go_wp2
    refine bodyPost_ret (v := .tuple #[hNil, .int .u32 0, .int .i64 60]) (by simp [results, Try.results47, go_sem, q0, q1, q2, q3, q4, q5, q6]) rfl ⟨?_, 60, 0, hZ, .inl ⟨HG.out, rfl, rfl, rfl⟩, hans_nil _ _ _⟩
    repeat' first | refine Below.setCell ?_ (by simp; try omega) _ | refine Below.alloc ?_ (by simp; try omega) _ | exact HBW.out
  have hgood := HGO.out.2 hg
  obtain ⟨L, hop⟩ := good_op hgood HWL.out HWQ.out
  have HPW : Hid (live.Pairwise (fun p q => p.pos < q.pos)) := hg.pos
  have HOP := Lib.hid hop
  have hgi := hop.good.gi1
  have hgi0 := hop.good.gi0
  have hn1 := hop.good.n1
  have hn2 := hop.good.n2
  clear hgood hop hg
  by_cases hz : size < 0 ∨ 65536 < size
  · have hz' : size < 0 ∨ (0 ≤ size ∧ 65536 < size) := by omega
    have hzz := Lib.hid hz
    clear hz
    rcases hz' with hz1 | ⟨hz0, hz1⟩
    all_goals go_wp2
    all_goals
      refine bodyPost_ret (v := .tuple #[hNil, .int .u32 0, .int .i64 1]) (by simp [results, Try.results47, go_sem, q0, q1, q2, q3, q4, q5, q6]) rfl ⟨?_, 1, 0, hZ, .inr (.inl ⟨HOP.out.good, hzz.out, rfl, rfl, rfl⟩), hans_nil _ _ _⟩
      repeat' first | refine Below.setCell ?_ (by simp; try omega) _ | refine Below.alloc ?_ (by simp; try omega) _ | exact HBW.out
  have hz0 : 0 ≤ size := by omega
  have hz1 : size ≤ 65536 := by omega
  have hnz0 : ¬ size < 0 := by omega
  have hnz1 : ¬ 65536 < size := by omega
  clear hz
  have HPL := Lib.hid (c83 c (.slice A live.length ca) (.slice B quar.length cb) gi live quar L size w1 (HL.out.below HBW.out) (HQ.out.below HBW.out) HWL.out HWQ.out HOP.out hz0 hz1)
  go_wp2_with fail
  refine Calls.mono HPL.out ?_
  clear HPL
  rintro e w2 ⟨rfl, hB2⟩
  have hb0 : w2.heap[w.heap.size]? = some (.cells #[.int .i64 c.page, .int .i64 c.n, .int .i64 c.red, .int .i64 c.quarantine, .slice A live.length ca, .slice B quar.length cb, .int .i64 gi] 26 (0, 0)) := (hB2.block _ (by omega)).trans HB0.out
  have hb1 : w2.heap[w.heap.size + 1]? = some (.cells #[.int .i64 0, .int .i64 0, .int .i64 0, .int .i64 0, .slice none 0 0, .slice none 0 0, .int .i64 0] 26 (0, 0)) := (hB2.block _ (by omega)).trans HB1.out
  have hsz2 : w.heap.size + 2 ≤ w2.heap.size := Nat.le_trans hsz hB2.size
  have HBW2 : Hid (Below w.heap.size w w2) := HBW.out.trans (hB2.mono (by omega))
  clear hB2 HBW HB0 HB1 q0 q1 q2 q3 q4 q5 q6 f0 f1 f2 f3 f4 f5 f6 p0 p1 p2 p3 p4 p5 p6 HW1
  have HBW := HBW2
  clear HBW2
  have q0 := blk_cell hb1 0
  have f0 : w2.frozen? ⟨w.heap.size + 1, 0, none⟩ = false := frozen_of_row _ _ _ _ _ hb1
  have q1 := blk_cell hb1 1
  have f1 : w2.frozen? ⟨w.heap.size + 1, 1, none⟩ = false := frozen_of_row _ _ _ _ _ hb1
  have q2 := blk_cell hb1 2
  have f2 : w2.frozen? ⟨w.heap.size + 1, 2, none⟩ = false := frozen_of_row _ _ _ _ _ hb1
  have q3 := blk_cell hb1 3
  have f3 : w2.frozen? ⟨w.heap.size + 1, 3, none⟩ = false := frozen_of_row _ _ _ _ _ hb1
  have q4 := blk_cell hb1 4
  have f4 : w2.frozen? ⟨w.heap.size + 1, 4, none⟩ = false := frozen_of_row _ _ _ _ _ hb1
  have q5 := blk_cell hb1 5
  have f5 : w2.frozen? ⟨w.heap.size + 1, 5, none⟩ = false := frozen_of_row _ _ _ _ _ hb1
  have q6 := blk_cell hb1 6
  have f6 : w2.frozen? ⟨w.heap.size + 1, 6, none⟩ = false := frozen_of_row _ _ _ _ _ hb1
  simp only [List.getElem?_toArray, List.getElem?_cons_succ, List.getElem?_cons_zero] at q0 q1 q2 q3 q4 q5 q6
  have p0 := blk_cell hb0 0
  have p1 := blk_cell hb0 1
  have p2 := blk_cell hb0 2
  have p3 := blk_cell hb0 3
  have p4 := blk_cell hb0 4
  have p5 := blk_cell hb0 5
  have p6 := blk_cell hb0 6
  simp only [List.getElem?_toArray, List.getElem?_cons_succ, List.getElem?_cons_zero] at p0 p1 p2 p3 p4 p5 p6
  have HB0 := Lib.hid hb0
  have HB1 := Lib.hid hb1
  clear hb0 hb1
  obtain ⟨v, hv⟩ : ∃ v, (roomGo c.red size (gapsF c L)).getD (-1) = v := ⟨_, rfl⟩
  rw [hv]
  by_cases hno : roomGo c.red size (gapsF c L) = none ∨ live.length = 1000 ∨ gi = 1073741824
  · have hsp : 1000 ≤ (live.length : Int) ∨ (¬ 1000 ≤ (live.length : Int) ∧ 1073741824 ≤ gi) ∨ (¬ 1000 ≤ (live.length : Int) ∧ ¬ 1073741824 ≤ gi ∧ v < 0) := by
      rcases hno with h | h | h
      · rw [h] at hv; have : v = -1 := hv.symm; omega
      · omega
      · omega
    have HNO := Lib.hid hno
    have HV := Lib.hid hv
    clear hno hv
    rcases hsp with h1 | ⟨h1, h2⟩ | ⟨h1, h2, h3⟩
    all_goals go_wp2
    all_goals
      refine bodyPost_ret (v := .tuple #[hNil, .int .u32 0, .int .i64 2]) (by simp [results, Try.results47, go_sem, q0, q1, q2, q3, q4, q5, q6]) rfl ⟨?_, 2, 0, hZ, .inr (.inr (.inl ⟨L, HOP.out, hz0, hz1, HNO.out, rfl, rfl, rfl⟩)), hans_nil _ _ _⟩
      repeat' first | refine Below.setCell ?_ (by simp; try omega) _ | refine Below.alloc ?_ (by simp; try omega) _ | exact HBW.out
  have hvs : roomGo c.red size (gapsF c L) = some v := by
    cases h : roomGo c.red size (gapsF c L) with
    | none => exact absurd (.inl h) hno
    | some u => rw [h] at hv; exact congrArg some hv
  have h1000 : live.length ≠ 1000 := fun h => hno (.inr (.inl h))
  have hgx : gi ≠ 1073741824 := fun h => hno (.inr (.inr h))
  have hvr := room_range HOP.out hvs
  have HVS := Lib.hid hvs
  clear hno hv hvs
  have k1 : ¬ 1000 ≤ (live.length : Int) := by omega
  have k2 : ¬ 1073741824 ≤ gi := by omega
  have k3 : ¬ v < 0 := by omega
  have k4 : 0 ≤ v := by omega
  have k5 : v < 4294967296 := hvr.2
  clear hvr
  have HCP := Lib.hid (c84 c (.slice A live.length ca) (.slice B quar.length cb) gi live quar w2 (HL.out.below HBW.out) (HQ.out.below HBW.out) hn1 hn2)
  go_wp2_with fail
  refine Calls.mono HCP.out ?_
  clear HCP
  rintro e w3 ⟨hB3, A1, c1, A2, c2, rfl, _, _, ho1, ho2, _⟩
  have HO1 := Lib.hid ho1
  have HO2 := Lib.hid ho2
  have HBW3 : Hid (Below w.heap.size w w3) := HBW.out.trans (hB3.mono (by omega))
  have HB13 : Hid (w3.heap[w.heap.size + 1]? = some (.cells #[.int .i64 0, .int .i64 0, .int .i64 0, .int .i64 0, .slice none 0 0, .slice none 0 0, .int .i64 0] 26 (0, 0))) := (hB3.block _ (by omega)).trans HB1.out
  have hsz3 : w2.heap.size ≤ w3.heap.size := hB3.size
  clear hB3 ho1 ho2 HB0 HB1 HBW q0 q1 q2 q3 q4 q5 q6 f0 f1 f2 f3 f4 f5 f6 p0 p1 p2 p3 p4 p5 p6
  go_wp2
  refine gen_worldP (fun W => Below w3.heap.size w3 W ∧ W.heap.size = w3.heap.size + 1 ∧ W.heap[w3.heap.size]? = some (.cells #[.int .i64 c.page, .int .i64 c.n, .int .i64 c.red, .int .i64 c.quarantine, .slice A1 live.length c1, .slice A2 quar.length c2, .int .i64 (gi + 1)] 26 (0, 0))) ?_ ?_
  · refine ⟨?_, by simp, hal_new rfl⟩
    repeat' first | refine Below.setCell ?_ (by simp; try omega) _ | refine Below.alloc ?_ (by simp; try omega) _ | exact Below.refl _ _
  rintro W ⟨hBW, hsW, hbx⟩
  have hcut := cut_of v live HPW.out
  obtain ⟨i, hi⟩ : ∃ i, atI live v = i := ⟨_, rfl⟩
  have hile : i ≤ live.length := by rw [← hi]; exact atI_le live v
  rw [hi] at hcut
  have HI := Lib.hid hi
  have HCUT := Lib.hid hcut
  clear hi hcut
  have HSA : Hid (Sl 3 encP W (.slice A1 live.length c1) live) := (Fresh.of_own HO1.out rfl).sl.below hBW
  obtain ⟨N, hN⟩ : ∃ N, live.length = N := ⟨_, rfl⟩
  have HN := Lib.hid hN
  rw [hN] at hbx hile HSA k1 ⊢
  have HBX := Lib.hid hbx
  have HBWW := Lib.hid hBW
  have hltb : w3.heap.size < W.heap.size := by omega
  clear hbx hBW hN
  go_loopg [10] N (fun kx s10 wr => ∃ k : Nat, k ≤ i ∧ s10 = .int .i64 k ∧ N - k ≤ kx ∧ Hid (Below W.heap.size W wr))
  case atStart => exact ⟨0, Nat.zero_le _, rfl, by omega, Below.refl _ _⟩
  case round =>
    obtain ⟨k, hk, rfl, hkx, HBr⟩ := hrel
    have hbr := (HBr.out.block _ hltb).trans HBX.out
    have b4 : wr.cell? ⟨w3.heap.size, 4, none⟩ = some (.slice A1 N c1) := blk_cell hbr 4
    have hltr : w3.heap.size < wr.heap.size := blk_lt hbr
    clear hbr
    by_cases hki : k < i
    · have hkl : k < live.length := by rw [HN.out]; omega
      obtain ⟨b, off, hA, hL⟩ := (Sl.form HSA.out HN.out).resolve_left (by rintro h; rw [h] at hkl; simp at hkl)
      subst hA
      obtain ⟨m0, m1, m2⟩ := (hL.below HBr.out).at3 k hkl
      have hpos : live[k]!.pos < v := HCUT.out.1 _ (by rw [getElem!_pos live k hkl]; exact List.mem_take_iff_getElem.2 ⟨k, by omega, rfl⟩)
      have hbw := hL.1
      have hbw2 : b < wr.heap.size := Nat.lt_of_lt_of_le hbw HBr.out.size
      obtain ⟨hx0, hx1⟩ : WfP live[k]! := HWL.out _ (by rw [getElem!_pos live k hkl]; exact List.getElem_mem hkl)
      generalize live[k]! = x at m0 hpos hx0 hx1
      have hkN : (k : Int) < (N : Int) := by omega
      have d1 : decide ((k : Int) < (N : Int)) = true := decide_eq_true hkN
      clear hL hkl m1 m2
      go_wp2
      go_roundg (N - (k + 1))
      case measure => omega
      case rel => exact ⟨k + 1, by omega, by go_num, Nat.le_refl _, HBr.out⟩
    · obtain rfl : k = i := by omega
      have hkN : k ≤ N := hile
      have hform := HO1.out.2
      rcases hform with ⟨hf, hf0⟩ | ⟨g, cap, cur, hf, hgb, hgh, hgc, _⟩
      · (
          obtain rfl : A1 = none := by injection hf
          obtain rfl : c1 = 0 := by injection hf
          obtain rfl : N = 0 := by rw [← HN.out]; exact hf0
          obtain rfl : k = 0 := by omega
          have d1 : decide (((0 : Nat) : Int) < ((0 : Nat) : Int)) = false := by decide
          clear hf hf0
          have hbr := (HBr.out.block _ hltb).trans HBX.out
          have hre := (HBr.out.block _ (by omega)).trans ((HBWW.out.block _ (by omega)).trans HB13.out)
          have hltr : w3.heap.size < wr.heap.size := blk_lt hbr
          have hp1 : Sl 3 encP wr (.slice none 0 0) (live.take 0) := sl_take (HSA.out.below HBr.out) HN.out hkN
          obtain ⟨v1, u1, hr1, hq1, hg1⟩ := append_sl wr.heap.size (.slice none 0 0) [] (live.take 0) (.slice none 0 0) wr (World.ownsRow_nil _ _ _ _) hp1 (by simp) (by rw [List.length_take]; omega) (Nat.le_refl _)
          have hu1 : Below wr.heap.size wr u1 := below_of_grown hg1 (Nat.le_refl _) (by simp [Value.ownBlock])
          have hs1 := hu1.size
          obtain ⟨v2, u2, hr2, hq2, hg2⟩ := append_sl wr.heap.size v1 ([] ++ live.take 0) [⟨v, size, gi + 1⟩] (.slice (some ⟨u1.heap.size, 0, none⟩) 1 1) (u1.alloc (.cells #[.int .u32 v, .int .i64 size, .int .i64 (gi + 1)] 38)) (hq1.alloc _) (sl_single (hal_new rfl)) (by first | (simp; done) | (simp; omega)) (by simp) (by first | (simp; done) | (simp; omega))
          have hu2 : Below wr.heap.size wr u2 := hu1.trans (((Below.refl _ _).alloc hs1 _).trans (below_of_grown hg2 (by simp; omega) (fun j e => (own_lt hq1 j e).1)))
          have hs2 := hu2.size
          have hp3 : Sl 3 encP u2 (.slice none 0 0) (live.drop 0) := by have h0 : live = [] := List.eq_nil_of_length_eq_zero HN.out; rw [h0]; exact (fresh_nilP 0 u2).sl
          obtain ⟨v3, u3, hr3, hq3, hg3⟩ := append_sl wr.heap.size v2 ([] ++ live.take 0 ++ [⟨v, size, gi + 1⟩]) (live.drop 0) (.slice none 0 0) u2 hq2 hp3 (by first | (simp; done) | (simp; omega)) (by first | (simp; done) | (simp; omega)) hs2
          have hu3 : Below wr.heap.size wr u3 := hu2.trans (below_of_grown hg3 hs2 (fun j e => (own_lt hq2 j e).1))
          have hins : [] ++ live.take 0 ++ [⟨v, size, gi + 1⟩] ++ live.drop 0 = insF live 0 ⟨v, size, gi + 1⟩ := by simp [insF]
          rw [hins] at hq3
          have hbx1 := (hu1.block _ hltr).trans hbr
          have hbx2 := (hu2.block _ hltr).trans hbr
          have hbx3 := (hu3.block _ hltr).trans hbr
          have hre3 := (hu3.block _ (by omega)).trans hre
          have hltu1 : w3.heap.size < u1.heap.size := blk_lt hbx1
          have hltu3 : w3.heap.size < u3.heap.size := blk_lt hbx3
          have HQQ : Hid (u3.ownsRow w2.heap.size 38 3 (.slice A2 quar.length c2) quar.length (quar.flatMap encP)) := own_belowA (own_belowA (own_belowA HO2.out HBWW.out) HBr.out) hu3
          have HU3 : Hid (Below w.heap.size w u3) := HBW3.out.trans ((HBWW.out.mono (by omega)).trans ((HBr.out.mono (by omega)).trans (hu3.mono (by omega))))
          have HBX3 := Lib.hid hbx3
          have HRE3 := Lib.hid hre3
          have hsu3 : wr.heap.size ≤ u3.heap.size := hu3.size
          have hv3 : ∃ A kk, v3 = .slice A (insF live 0 ⟨v, size, gi + 1⟩).length kk := by obtain ⟨A, c', h, _⟩ := (Fresh.of_own hq3 rfl).sl; exact ⟨A, c', h⟩
          obtain ⟨A3, c3, rfl⟩ := hv3
          have hfr := Fresh.of_own hq3 rfl
          obtain ⟨M, hM⟩ : ∃ M, (insF live 0 ⟨v, size, gi + 1⟩).length = M := ⟨_, rfl⟩
          rw [hM] at hr3 hfr
          have HQ3 := Lib.hid hfr
          have HR1 := Lib.hid hr1
          have HR2 := Lib.hid hr2
          have HR3 := Lib.hid hr3
          have p4 := blk_cell hbr 4
          simp only [List.getElem?_toArray, List.getElem?_cons_succ, List.getElem?_cons_zero] at p4
          have q6 := blk_cell hbx1 6
          simp only [List.getElem?_toArray, List.getElem?_cons_succ, List.getElem?_cons_zero] at q6
          have r4 := blk_cell hbx2 4
          simp only [List.getElem?_toArray, List.getElem?_cons_succ, List.getElem?_cons_zero] at r4
          have s4 := blk_cell hbx3 4
          have fs4 : u3.frozen? ⟨w3.heap.size, 4, none⟩ = false := frozen_of_row _ _ _ _ _ hbx3
          simp only [List.getElem?_toArray, List.getElem?_cons_succ, List.getElem?_cons_zero] at s4
          clear hfr hM hbr hre hp1 hr1 hq1 hg1 hu1 hr2 hq2 hg2 hu2 hp3 hr3 hq3 hg3 hu3 hins hbx1 hbx2 hbx3 hre3
          have hrow : Hid ((u3.setCell ⟨w3.heap.size, 4, none⟩ (.slice A3 M c3)).heap[w3.heap.size]? = some (.cells #[.int .i64 c.page, .int .i64 c.n, .int .i64 c.red, .int .i64 c.quarantine, .slice A3 M c3, .slice A2 quar.length c2, .int .i64 (gi + 1)] 26 (0, 0))) := by
            have e1 := row_setCell (o := 4) (.slice A3 M c3) HBX3.out
            simp only [List.setIfInBounds_toArray, List.set_cons_zero, List.set_cons_succ] at e1
            exact e1
          have hkp : Hid (∀ j, j ≠ w3.heap.size → (u3.setCell ⟨w3.heap.size, 4, none⟩ (.slice A3 M c3)).heap[j]? = u3.heap[j]?) := fun j hj => Below.heap_setCell _ _ _ _ hj
          have hnil : Hid ((u3.setCell ⟨w3.heap.size, 4, none⟩ (.slice A3 M c3)).heap[w.heap.size + 1]? = some (.cells #[.int .i64 0, .int .i64 0, .int .i64 0, .int .i64 0, .slice none 0 0, .slice none 0 0, .int .i64 0] 26 (0, 0))) := (hkp.out _ (by omega)).trans HRE3.out
          have hbel5 : Hid (Below w.heap.size w (u3.setCell ⟨w3.heap.size, 4, none⟩ (.slice A3 M c3))) := HU3.out.setCell (by simp; omega) _
          have hsz5 : Hid ((u3.setCell ⟨w3.heap.size, 4, none⟩ (.slice A3 M c3)).heap.size = u3.heap.size) := by show _ = _; simp [World.setCell]
          go_wp2_with (first
            | (at_builtin; refine Lib.wpList_append_run _ rfl _ _ _ _ rfl _ _ rfl rfl _ _ HR1.out ?_; clear HR1)
            | (at_builtin; refine Lib.wpList_append_run _ rfl _ _ _ _ rfl _ _ rfl rfl _ _ HR2.out ?_; clear HR2)
            | (at_builtin; refine Lib.wpList_append_run _ rfl _ _ _ _ rfl _ _ rfl rfl _ _ HR3.out ?_; clear HR3; go_simp; go_step; go_step; go_step; go_step; go_step; refine gen_worldQ (fun W => Below w.heap.size w W ∧ W.heap[w3.heap.size]? = some (.cells #[.int .i64 c.page, .int .i64 c.n, .int .i64 c.red, .int .i64 c.quarantine, .slice A3 M c3, .slice A2 quar.length c2, .int .i64 (gi + 1)] 26 (0, 0)) ∧ W.heap[w.heap.size + 1]? = some (.cells #[.int .i64 0, .int .i64 0, .int .i64 0, .int .i64 0, .slice none 0 0, .slice none 0 0, .int .i64 0] 26 (0, 0)) ∧ W.heap.size = u3.heap.size ∧ ∀ j, j ≠ w3.heap.size → W.heap[j]? = u3.heap[j]?) ⟨hbel5.out, hrow.out, hnil.out, hsz5.out, hkp.out⟩ ?_; clear hrow hkp hnil hbel5 hsz5 p4 q6 r4 s4 fs4; rintro W5 ⟨t1, t2, t3, t4, t5⟩; have s0 := blk_cell t2 0; have s1 := blk_cell t2 1; have s2 := blk_cell t2 2; have s3 := blk_cell t2 3; have s4 := blk_cell t2 4; have s5 := blk_cell t2 5; have s6 := blk_cell t2 6; simp only [List.getElem?_toArray, List.getElem?_cons_succ, List.getElem?_cons_zero] at s0 s1 s2 s3 s4 s5 s6; have z0 := blk_cell t3 0; have fz0 : W5.frozen? ⟨w.heap.size + 1, 0, none⟩ = false := frozen_of_row _ _ _ _ _ t3; have z1 := blk_cell t3 1; have fz1 : W5.frozen? ⟨w.heap.size + 1, 1, none⟩ = false := frozen_of_row _ _ _ _ _ t3; have z2 := blk_cell t3 2; have fz2 : W5.frozen? ⟨w.heap.size + 1, 2, none⟩ = false := frozen_of_row _ _ _ _ _ t3; have z3 := blk_cell t3 3; have fz3 : W5.frozen? ⟨w.heap.size + 1, 3, none⟩ = false := frozen_of_row _ _ _ _ _ t3; have z4 := blk_cell t3 4; have fz4 : W5.frozen? ⟨w.heap.size + 1, 4, none⟩ = false := frozen_of_row _ _ _ _ _ t3; have z5 := blk_cell t3 5; have fz5 : W5.frozen? ⟨w.heap.size + 1, 5, none⟩ = false := frozen_of_row _ _ _ _ _ t3; have z6 := blk_cell t3 6; have fz6 : W5.frozen? ⟨w.heap.size + 1, 6, none⟩ = false := frozen_of_row _ _ _ _ _ t3; simp only [List.getElem?_toArray, List.getElem?_cons_succ, List.getElem?_cons_zero] at z0 z1 z2 z3 z4 z5 z6; have T1 := Lib.hid t1; have T3 := Lib.hid t3; have T4 := Lib.hid t4; have T5 := Lib.hid t5; clear t1 t2 t3 t4 t5; repeat (first | go_skip | go_guarded | go_step | go_upon | go_back)
               refine gen_worldB (fun W => Below w.heap.size w W ∧ W.heap[w.heap.size + 1]? = some (.cells #[.int .i64 c.page, .int .i64 c.n, .int .i64 c.red, .int .i64 c.quarantine, .slice A3 M c3, .slice A2 quar.length c2, .int .i64 (gi + 1)] 26 (0, 0)) ∧ u3.heap.size ≤ W.heap.size ∧ (∀ j, j < u3.heap.size → j ≠ w3.heap.size → j ≠ w.heap.size + 1 → W.heap[j]? = u3.heap[j]?)) ⟨?_, ?_, by simp [World.setCell, T4.out], fun j hj hn1 hn2 => ?_⟩ ?_
               · repeat' first | refine Below.setCell ?_ (by simp; try omega) _ | exact T1.out
               · have e1 := row_setCell (o := 0) (.int .i64 c.page) T3.out
                 have e2 := row_setCell (o := 1) (.int .i64 c.n) e1
                 have e3 := row_setCell (o := 2) (.int .i64 c.red) e2
                 have e4 := row_setCell (o := 3) (.int .i64 c.quarantine) e3
                 have e5 := row_setCell (o := 4) (.slice A3 M c3) e4
                 have e6 := row_setCell (o := 5) (.slice A2 quar.length c2) e5
                 have e7 := row_setCell (o := 6) (.int .i64 (gi + 1)) e6
                 simp only [List.setIfInBounds_toArray, List.set_cons_zero, List.set_cons_succ] at e7
                 exact e7
               · refine Eq.trans ?_ (T5.out j hn1)
                 repeat' first | refine Eq.trans (Below.heap_setCell _ _ _ _ hn2) ?_ | rfl
               rintro W9 ⟨t1, t2, t3, t4⟩
               have hk1 : Fresh w.heap.size W9 (.slice A3 M c3) (insF live 0 ⟨v, size, gi + 1⟩) := (HQ3.out.kept t3 (fun j hj hge => t4 j hj (by omega) (by omega))).base (by omega)
               have hk2 : Fresh w.heap.size W9 (.slice A2 quar.length c2) quar := (Fresh.of_own (own_blk HQQ.out (fun g' hg' => t4 g' (own_lt HQQ.out g' hg').2 (by have := own_lt HO2.out g' hg'; omega) (by have := own_lt HO2.out g' hg'; omega))) rfl).base (by omega)
               have hir : insF live 0 ⟨v, size, gi + 1⟩ = insF live (atI live v) ⟨v, size, gi + 1⟩ := by rw [HI.out]
               have y0 := blk_cell t2 0
               have y1 := blk_cell t2 1
               have y2 := blk_cell t2 2
               have y3 := blk_cell t2 3
               have y4 := blk_cell t2 4
               have y5 := blk_cell t2 5
               have y6 := blk_cell t2 6
               simp only [List.getElem?_toArray, List.getElem?_cons_succ, List.getElem?_cons_zero] at y0 y1 y2 y3 y4 y5 y6
               refine bodyPost_ret (v := .tuple #[hAgg c (.slice A3 M c3) (.slice A2 quar.length c2) (gi + 1), .int .u32 v, .int .i64 0]) (by simp [results, Try.results47, go_sem, y0, y1, y2, y3, y4, y5, y6]) rfl ⟨t1, 0, v, _, .inr (.inr (.inr ⟨L, HOP.out, hz0, hz1, HVS.out, h1000, hgx, rfl, rfl⟩)), ?_⟩
               rw [← hir]
               exact HAns.of hk1 hk2)))
      · obtain rfl : A1 = some ⟨g, 0, none⟩ := by injection hf
        obtain rfl : c1 = cap := by injection hf
        rw [HN.out] at hgc
        clear hf hgb hgh
        by_cases hkN' : k < N
        · (
              have d1 : decide ((k : Int) < (N : Int)) = true := decide_eq_true (by omega)
              have hck : ¬ c1 = k := by omega
              have hcb : (c1 = k) = False := eq_false hck
              have hkl : k < live.length := by rw [HN.out]; exact hkN'
              obtain ⟨b, off, hA, hL⟩ := (Sl.form (HSA.out.below HBr.out) HN.out).resolve_left (by rintro h; rw [h] at hkl; simp at hkl)
              cases hA
              have m0 := (hL.at3 k hkl).1
              rw [Nat.zero_add] at m0
              have hpos : v ≤ live[k]!.pos := HCUT.out.2 _ (by rw [getElem!_pos live k hkl]; exact List.mem_drop_iff_getElem.2 ⟨0, by omega, by simp⟩)
              have hx := HWL.out live[k]! (by rw [getElem!_pos live k hkl]; exact List.getElem_mem hkl)
              obtain ⟨hx0, hx1⟩ := hx
              have hbg : g < wr.heap.size := hL.1
              generalize live[k]!.pos = x at m0 hpos hx0 hx1
              have d2 : decide (x < v) = false := decide_eq_false (by omega)
              clear hL hkl
              have hbr := (HBr.out.block _ hltb).trans HBX.out
              have hre := (HBr.out.block _ (by omega)).trans ((HBWW.out.block _ (by omega)).trans HB13.out)
              have hltr : w3.heap.size < wr.heap.size := blk_lt hbr
              have hp1 : Sl 3 encP wr (.slice (some ⟨g, 0, none⟩) k c1) (live.take k) := sl_take (HSA.out.below HBr.out) HN.out hkN
              obtain ⟨v1, u1, hr1, hq1, hg1⟩ := append_sl wr.heap.size (.slice none 0 0) [] (live.take k) (.slice (some ⟨g, 0, none⟩) k c1) wr (World.ownsRow_nil _ _ _ _) hp1 (by simp) (by rw [List.length_take]; omega) (Nat.le_refl _)
              have hu1 : Below wr.heap.size wr u1 := below_of_grown hg1 (Nat.le_refl _) (by simp [Value.ownBlock])
              have hs1 := hu1.size
              obtain ⟨v2, u2, hr2, hq2, hg2⟩ := append_sl wr.heap.size v1 ([] ++ live.take k) [⟨v, size, gi + 1⟩] (.slice (some ⟨u1.heap.size, 0, none⟩) 1 1) (u1.alloc (.cells #[.int .u32 v, .int .i64 size, .int .i64 (gi + 1)] 38)) (hq1.alloc _) (sl_single (hal_new rfl)) (by first | (simp; done) | (simp; omega)) (by simp) (by first | (simp; done) | (simp; omega))
              have hu2 : Below wr.heap.size wr u2 := hu1.trans (((Below.refl _ _).alloc hs1 _).trans (below_of_grown hg2 (by simp; omega) (fun j e => (own_lt hq1 j e).1)))
              have hs2 := hu2.size
              have hp3 : Sl 3 encP u2 (.slice (some ⟨g, k * 3, none⟩) (N - k) (c1 - k)) (live.drop k) := by have h9 := sl_from ((HSA.out.below HBr.out).below hu2) HN.out hkN; rw [Nat.zero_add] at h9; exact h9
              obtain ⟨v3, u3, hr3, hq3, hg3⟩ := append_sl wr.heap.size v2 ([] ++ live.take k ++ [⟨v, size, gi + 1⟩]) (live.drop k) (.slice (some ⟨g, k * 3, none⟩) (N - k) (c1 - k)) u2 hq2 hp3 (by first | (simp; done) | (simp; omega)) (by first | (simp; done) | (simp; omega)) hs2
              have hu3 : Below wr.heap.size wr u3 := hu2.trans (below_of_grown hg3 hs2 (fun j e => (own_lt hq2 j e).1))
              have hins : [] ++ live.take k ++ [⟨v, size, gi + 1⟩] ++ live.drop k = insF live k ⟨v, size, gi + 1⟩ := by simp [insF]
              rw [hins] at hq3
              have hbx1 := (hu1.block _ hltr).trans hbr
              have hbx2 := (hu2.block _ hltr).trans hbr
              have hbx3 := (hu3.block _ hltr).trans hbr
              have hre3 := (hu3.block _ (by omega)).trans hre
              have hltu1 : w3.heap.size < u1.heap.size := blk_lt hbx1
              have hltu3 : w3.heap.size < u3.heap.size := blk_lt hbx3
              have HQQ : Hid (u3.ownsRow w2.heap.size 38 3 (.slice A2 quar.length c2) quar.length (quar.flatMap encP)) := own_belowA (own_belowA (own_belowA HO2.out HBWW.out) HBr.out) hu3
              have HU3 : Hid (Below w.heap.size w u3) := HBW3.out.trans ((HBWW.out.mono (by omega)).trans ((HBr.out.mono (by omega)).trans (hu3.mono (by omega))))
              have HBX3 := Lib.hid hbx3
              have HRE3 := Lib.hid hre3
              have hsu3 : wr.heap.size ≤ u3.heap.size := hu3.size
              have hv3 : ∃ A kk, v3 = .slice A (insF live k ⟨v, size, gi + 1⟩).length kk := by obtain ⟨A, c', h, _⟩ := (Fresh.of_own hq3 rfl).sl; exact ⟨A, c', h⟩
              obtain ⟨A3, c3, rfl⟩ := hv3
              have hfr := Fresh.of_own hq3 rfl
              obtain ⟨M, hM⟩ : ∃ M, (insF live k ⟨v, size, gi + 1⟩).length = M := ⟨_, rfl⟩
              rw [hM] at hr3 hfr
              have HQ3 := Lib.hid hfr
              have HR1 := Lib.hid hr1
              have HR2 := Lib.hid hr2
              have HR3 := Lib.hid hr3
              have p4 := blk_cell hbr 4
              simp only [List.getElem?_toArray, List.getElem?_cons_succ, List.getElem?_cons_zero] at p4
              have q6 := blk_cell hbx1 6
              simp only [List.getElem?_toArray, List.getElem?_cons_succ, List.getElem?_cons_zero] at q6
              have r4 := blk_cell hbx2 4
              simp only [List.getElem?_toArray, List.getElem?_cons_succ, List.getElem?_cons_zero] at r4
              have s4 := blk_cell hbx3 4
              have fs4 : u3.frozen? ⟨w3.heap.size, 4, none⟩ = false := frozen_of_row _ _ _ _ _ hbx3
              simp only [List.getElem?_toArray, List.getElem?_cons_succ, List.getElem?_cons_zero] at s4
              clear hfr hM hbr hre hp1 hr1 hq1 hg1 hu1 hr2 hq2 hg2 hu2 hp3 hr3 hq3 hg3 hu3 hins hbx1 hbx2 hbx3 hre3
              have hrow : Hid ((u3.setCell ⟨w3.heap.size, 4, none⟩ (.slice A3 M c3)).heap[w3.heap.size]? = some (.cells #[.int .i64 c.page, .int .i64 c.n, .int .i64 c.red, .int .i64 c.quarantine, .slice A3 M c3, .slice A2 quar.length c2, .int .i64 (gi + 1)] 26 (0, 0))) := by
                have e1 := row_setCell (o := 4) (.slice A3 M c3) HBX3.out
                simp only [List.setIfInBounds_toArray, List.set_cons_zero, List.set_cons_succ] at e1
                exact e1
              have hkp : Hid (∀ j, j ≠ w3.heap.size → (u3.setCell ⟨w3.heap.size, 4, none⟩ (.slice A3 M c3)).heap[j]? = u3.heap[j]?) := fun j hj => Below.heap_setCell _ _ _ _ hj
              have hnil : Hid ((u3.setCell ⟨w3.heap.size, 4, none⟩ (.slice A3 M c3)).heap[w.heap.size + 1]? = some (.cells #[.int .i64 0, .int .i64 0, .int .i64 0, .int .i64 0, .slice none 0 0, .slice none 0 0, .int .i64 0] 26 (0, 0))) := (hkp.out _ (by omega)).trans HRE3.out
              have hbel5 : Hid (Below w.heap.size w (u3.setCell ⟨w3.heap.size, 4, none⟩ (.slice A3 M c3))) := HU3.out.setCell (by simp; omega) _
              have hsz5 : Hid ((u3.setCell ⟨w3.heap.size, 4, none⟩ (.slice A3 M c3)).heap.size = u3.heap.size) := by show _ = _; simp [World.setCell]
              go_wp2_with (first
                | (at_builtin; refine Lib.wpList_append_run _ rfl _ _ _ _ rfl _ _ rfl rfl _ _ HR1.out ?_; clear HR1)
                | (at_builtin; refine Lib.wpList_append_run _ rfl _ _ _ _ rfl _ _ rfl rfl _ _ HR2.out ?_; clear HR2)
                | (at_builtin; refine Lib.wpList_append_run _ rfl _ _ _ _ rfl _ _ rfl rfl _ _ HR3.out ?_; clear HR3; go_simp; go_step; go_step; go_step; go_step; go_step; refine gen_worldQ (fun W => Below w.heap.size w W ∧ W.heap[w3.heap.size]? = some (.cells #[.int .i64 c.page, .int .i64 c.n, .int .i64 c.red, .int .i64 c.quarantine, .slice A3 M c3, .slice A2 quar.length c2, .int .i64 (gi + 1)] 26 (0, 0)) ∧ W.heap[w.heap.size + 1]? = some (.cells #[.int .i64 0, .int .i64 0, .int .i64 0, .int .i64 0, .slice none 0 0, .slice none 0 0, .int .i64 0] 26 (0, 0)) ∧ W.heap.size = u3.heap.size ∧ ∀ j, j ≠ w3.heap.size → W.heap[j]? = u3.heap[j]?) ⟨hbel5.out, hrow.out, hnil.out, hsz5.out, hkp.out⟩ ?_; clear hrow hkp hnil hbel5 hsz5 p4 q6 r4 s4 fs4; rintro W5 ⟨t1, t2, t3, t4, t5⟩; have s0 := blk_cell t2 0; have s1 := blk_cell t2 1; have s2 := blk_cell t2 2; have s3 := blk_cell t2 3; have s4 := blk_cell t2 4; have s5 := blk_cell t2 5; have s6 := blk_cell t2 6; simp only [List.getElem?_toArray, List.getElem?_cons_succ, List.getElem?_cons_zero] at s0 s1 s2 s3 s4 s5 s6; have z0 := blk_cell t3 0; have fz0 : W5.frozen? ⟨w.heap.size + 1, 0, none⟩ = false := frozen_of_row _ _ _ _ _ t3; have z1 := blk_cell t3 1; have fz1 : W5.frozen? ⟨w.heap.size + 1, 1, none⟩ = false := frozen_of_row _ _ _ _ _ t3; have z2 := blk_cell t3 2; have fz2 : W5.frozen? ⟨w.heap.size + 1, 2, none⟩ = false := frozen_of_row _ _ _ _ _ t3; have z3 := blk_cell t3 3; have fz3 : W5.frozen? ⟨w.heap.size + 1, 3, none⟩ = false := frozen_of_row _ _ _ _ _ t3; have z4 := blk_cell t3 4; have fz4 : W5.frozen? ⟨w.heap.size + 1, 4, none⟩ = false := frozen_of_row _ _ _ _ _ t3; have z5 := blk_cell t3 5; have fz5 : W5.frozen? ⟨w.heap.size + 1, 5, none⟩ = false := frozen_of_row _ _ _ _ _ t3; have z6 := blk_cell t3 6; have fz6 : W5.frozen? ⟨w.heap.size + 1, 6, none⟩ = false := frozen_of_row _ _ _ _ _ t3; simp only [List.getElem?_toArray, List.getElem?_cons_succ, List.getElem?_cons_zero] at z0 z1 z2 z3 z4 z5 z6; have T1 := Lib.hid t1; have T3 := Lib.hid t3; have T4 := Lib.hid t4; have T5 := Lib.hid t5; clear t1 t2 t3 t4 t5; repeat (first | go_skip | go_guarded | go_step | go_upon | go_back)
                   refine gen_worldB (fun W => Below w.heap.size w W ∧ W.heap[w.heap.size + 1]? = some (.cells #[.int .i64 c.page, .int .i64 c.n, .int .i64 c.red, .int .i64 c.quarantine, .slice A3 M c3, .slice A2 quar.length c2, .int .i64 (gi + 1)] 26 (0, 0)) ∧ u3.heap.size ≤ W.heap.size ∧ (∀ j, j < u3.heap.size → j ≠ w3.heap.size → j ≠ w.heap.size + 1 → W.heap[j]? = u3.heap[j]?)) ⟨?_, ?_, by simp [World.setCell, T4.out], fun j hj hn1 hn2 => ?_⟩ ?_
                   · repeat' first | refine Below.setCell ?_ (by simp; try omega) _ | exact T1.out
                   · have e1 := row_setCell (o := 0) (.int .i64 c.page) T3.out
                     have e2 := row_setCell (o := 1) (.int .i64 c.n) e1
                     have e3 := row_setCell (o := 2) (.int .i64 c.red) e2
                     have e4 := row_setCell (o := 3) (.int .i64 c.quarantine) e3
                     have e5 := row_setCell (o := 4) (.slice A3 M c3) e4
                     have e6 := row_setCell (o := 5) (.slice A2 quar.length c2) e5
                     have e7 := row_setCell (o := 6) (.int .i64 (gi + 1)) e6
                     simp only [List.setIfInBounds_toArray, List.set_cons_zero, List.set_cons_succ] at e7
                     exact e7
                   · refine Eq.trans ?_ (T5.out j hn1)
                     repeat' first | refine Eq.trans (Below.heap_setCell _ _ _ _ hn2) ?_ | rfl
                   rintro W9 ⟨t1, t2, t3, t4⟩
                   have hk1 : Fresh w.heap.size W9 (.slice A3 M c3) (insF live k ⟨v, size, gi + 1⟩) := (HQ3.out.kept t3 (fun j hj hge => t4 j hj (by omega) (by omega))).base (by omega)
                   have hk2 : Fresh w.heap.size W9 (.slice A2 quar.length c2) quar := (Fresh.of_own (own_blk HQQ.out (fun g' hg' => t4 g' (own_lt HQQ.out g' hg').2 (by have := own_lt HO2.out g' hg'; omega) (by have := own_lt HO2.out g' hg'; omega))) rfl).base (by omega)
                   have hir : insF live k ⟨v, size, gi + 1⟩ = insF live (atI live v) ⟨v, size, gi + 1⟩ := by rw [HI.out]
                   have y0 := blk_cell t2 0
                   have y1 := blk_cell t2 1
                   have y2 := blk_cell t2 2
                   have y3 := blk_cell t2 3
                   have y4 := blk_cell t2 4
                   have y5 := blk_cell t2 5
                   have y6 := blk_cell t2 6
                   simp only [List.getElem?_toArray, List.getElem?_cons_succ, List.getElem?_cons_zero] at y0 y1 y2 y3 y4 y5 y6
                   refine bodyPost_ret (v := .tuple #[hAgg c (.slice A3 M c3) (.slice A2 quar.length c2) (gi + 1), .int .u32 v, .int .i64 0]) (by simp [results, Try.results47, go_sem, y0, y1, y2, y3, y4, y5, y6]) rfl ⟨t1, 0, v, _, .inr (.inr (.inr ⟨L, HOP.out, hz0, hz1, HVS.out, h1000, hgx, rfl, rfl⟩)), ?_⟩
                   rw [← hir]
                   exact HAns.of hk1 hk2)))
        · obtain rfl : k = N := by omega
          have d1 : decide ((k : Int) < (k : Int)) = false := decide_eq_false (by omega)
          by_cases hck : c1 = k
          · (
              have hck' : k = c1 := hck.symm
              clear hck
              subst hck'
              have hbr := (HBr.out.block _ hltb).trans HBX.out
              have hre := (HBr.out.block _ (by omega)).trans ((HBWW.out.block _ (by omega)).trans HB13.out)
              have hltr : w3.heap.size < wr.heap.size := blk_lt hbr
              have hp1 : Sl 3 encP wr (.slice (some ⟨g, 0, none⟩) k k) (live.take k) := sl_take (HSA.out.below HBr.out) HN.out hkN
              obtain ⟨v1, u1, hr1, hq1, hg1⟩ := append_sl wr.heap.size (.slice none 0 0) [] (live.take k) (.slice (some ⟨g, 0, none⟩) k k) wr (World.ownsRow_nil _ _ _ _) hp1 (by simp) (by rw [List.length_take]; omega) (Nat.le_refl _)
              have hu1 : Below wr.heap.size wr u1 := below_of_grown hg1 (Nat.le_refl _) (by simp [Value.ownBlock])
              have hs1 := hu1.size
              obtain ⟨v2, u2, hr2, hq2, hg2⟩ := append_sl wr.heap.size v1 ([] ++ live.take k) [⟨v, size, gi + 1⟩] (.slice (some ⟨u1.heap.size, 0, none⟩) 1 1) (u1.alloc (.cells #[.int .u32 v, .int .i64 size, .int .i64 (gi + 1)] 38)) (hq1.alloc _) (sl_single (hal_new rfl)) (by first | (simp; done) | (simp; omega)) (by simp) (by first | (simp; done) | (simp; omega))
              have hu2 : Below wr.heap.size wr u2 := hu1.trans (((Below.refl _ _).alloc hs1 _).trans (below_of_grown hg2 (by simp; omega) (fun j e => (own_lt hq1 j e).1)))
              have hs2 := hu2.size
              have hp3 : Sl 3 encP u2 (.slice (some ⟨g, 0, none⟩) 0 0) (live.drop k) := by have h0 : live.drop k = [] := List.drop_eq_nil_iff.2 (by rw [HN.out]; omega); rw [h0]; exact ⟨_, _, rfl, Nat.le_refl _, .inl rfl⟩
              obtain ⟨v3, u3, hr3, hq3, hg3⟩ := append_sl wr.heap.size v2 ([] ++ live.take k ++ [⟨v, size, gi + 1⟩]) (live.drop k) (.slice (some ⟨g, 0, none⟩) 0 0) u2 hq2 hp3 (by first | (simp; done) | (simp; omega)) (by first | (simp; done) | (simp; omega)) hs2
              have hu3 : Below wr.heap.size wr u3 := hu2.trans (below_of_grown hg3 hs2 (fun j e => (own_lt hq2 j e).1))
              have hins : [] ++ live.take k ++ [⟨v, size, gi + 1⟩] ++ live.drop k = insF live k ⟨v, size, gi + 1⟩ := by simp [insF]
              rw [hins] at hq3
              have hbx1 := (hu1.block _ hltr).trans hbr
              have hbx2 := (hu2.block _ hltr).trans hbr
              have hbx3 := (hu3.block _ hltr).trans hbr
              have hre3 := (hu3.block _ (by omega)).trans hre
              have hltu1 : w3.heap.size < u1.heap.size := blk_lt hbx1
              have hltu3 : w3.heap.size < u3.heap.size := blk_lt hbx3
              have HQQ : Hid (u3.ownsRow w2.heap.size 38 3 (.slice A2 quar.length c2) quar.length (quar.flatMap encP)) := own_belowA (own_belowA (own_belowA HO2.out HBWW.out) HBr.out) hu3
              have HU3 : Hid (Below w.heap.size w u3) := HBW3.out.trans ((HBWW.out.mono (by omega)).trans ((HBr.out.mono (by omega)).trans (hu3.mono (by omega))))
              have HBX3 := Lib.hid hbx3
              have HRE3 := Lib.hid hre3
              have hsu3 : wr.heap.size ≤ u3.heap.size := hu3.size
              have hv3 : ∃ A kk, v3 = .slice A (insF live k ⟨v, size, gi + 1⟩).length kk := by obtain ⟨A, c', h, _⟩ := (Fresh.of_own hq3 rfl).sl; exact ⟨A, c', h⟩
              obtain ⟨A3, c3, rfl⟩ := hv3
              have hfr := Fresh.of_own hq3 rfl
              obtain ⟨M, hM⟩ : ∃ M, (insF live k ⟨v, size, gi + 1⟩).length = M := ⟨_, rfl⟩
              rw [hM] at hr3 hfr
              have HQ3 := Lib.hid hfr
              have HR1 := Lib.hid hr1
              have HR2 := Lib.hid hr2
              have HR3 := Lib.hid hr3
              have p4 := blk_cell hbr 4
              simp only [List.getElem?_toArray, List.getElem?_cons_succ, List.getElem?_cons_zero] at p4
              have q6 := blk_cell hbx1 6
              simp only [List.getElem?_toArray, List.getElem?_cons_succ, List.getElem?_cons_zero] at q6
              have r4 := blk_cell hbx2 4
              simp only [List.getElem?_toArray, List.getElem?_cons_succ, List.getElem?_cons_zero] at r4
              have s4 := blk_cell hbx3 4
              have fs4 : u3.frozen? ⟨w3.heap.size, 4, none⟩ = false := frozen_of_row _ _ _ _ _ hbx3
              simp only [List.getElem?_toArray, List.getElem?_cons_succ, List.getElem?_cons_zero] at s4
              clear hfr hM hbr hre hp1 hr1 hq1 hg1 hu1 hr2 hq2 hg2 hu2 hp3 hr3 hq3 hg3 hu3 hins hbx1 hbx2 hbx3 hre3
              have hrow : Hid ((u3.setCell ⟨w3.heap.size, 4, none⟩ (.slice A3 M c3)).heap[w3.heap.size]? = some (.cells #[.int .i64 c.page, .int .i64 c.n, .int .i64 c.red, .int .i64 c.quarantine, .slice A3 M c3, .slice A2 quar.length c2, .int .i64 (gi + 1)] 26 (0, 0))) := by
                have e1 := row_setCell (o := 4) (.slice A3 M c3) HBX3.out
                simp only [List.setIfInBounds_toArray, List.set_cons_zero, List.set_cons_succ] at e1
                exact e1
              have hkp : Hid (∀ j, j ≠ w3.heap.size → (u3.setCell ⟨w3.heap.size, 4, none⟩ (.slice A3 M c3)).heap[j]? = u3.heap[j]?) := fun j hj => Below.heap_setCell _ _ _ _ hj
              have hnil : Hid ((u3.setCell ⟨w3.heap.size, 4, none⟩ (.slice A3 M c3)).heap[w.heap.size + 1]? = some (.cells #[.int .i64 0, .int .i64 0, .int .i64 0, .int .i64 0, .slice none 0 0, .slice none 0 0, .int .i64 0] 26 (0, 0))) := (hkp.out _ (by omega)).trans HRE3.out
              have hbel5 : Hid (Below w.heap.size w (u3.setCell ⟨w3.heap.size, 4, none⟩ (.slice A3 M c3))) := HU3.out.setCell (by simp; omega) _
              have hsz5 : Hid ((u3.setCell ⟨w3.heap.size, 4, none⟩ (.slice A3 M c3)).heap.size = u3.heap.size) := by show _ = _; simp [World.setCell]
              go_wp2_with (first
                | (at_builtin; refine Lib.wpList_append_run _ rfl _ _ _ _ rfl _ _ rfl rfl _ _ HR1.out ?_; clear HR1)
                | (at_builtin; refine Lib.wpList_append_run _ rfl _ _ _ _ rfl _ _ rfl rfl _ _ HR2.out ?_; clear HR2)
                | (at_builtin; refine Lib.wpList_append_run _ rfl _ _ _ _ rfl _ _ rfl rfl _ _ HR3.out ?_; clear HR3; go_simp; go_step; go_step; go_step; go_step; go_step; refine gen_worldQ (fun W => Below w.heap.size w W ∧ W.heap[w3.heap.size]? = some (.cells #[.int .i64 c.page, .int .i64 c.n, .int .i64 c.red, .int .i64 c.quarantine, .slice A3 M c3, .slice A2 quar.length c2, .int .i64 (gi + 1)] 26 (0, 0)) ∧ W.heap[w.heap.size + 1]? = some (.cells #[.int .i64 0, .int .i64 0, .int .i64 0, .int .i64 0, .slice none 0 0, .slice none 0 0, .int .i64 0] 26 (0, 0)) ∧ W.heap.size = u3.heap.size ∧ ∀ j, j ≠ w3.heap.size → W.heap[j]? = u3.heap[j]?) ⟨hbel5.out, hrow.out, hnil.out, hsz5.out, hkp.out⟩ ?_; clear hrow hkp hnil hbel5 hsz5 p4 q6 r4 s4 fs4; rintro W5 ⟨t1, t2, t3, t4, t5⟩; have s0 := blk_cell t2 0; have s1 := blk_cell t2 1; have s2 := blk_cell t2 2; have s3 := blk_cell t2 3; have s4 := blk_cell t2 4; have s5 := blk_cell t2 5; have s6 := blk_cell t2 6; simp only [List.getElem?_toArray, List.getElem?_cons_succ, List.getElem?_cons_zero] at s0 s1 s2 s3 s4 s5 s6; have z0 := blk_cell t3 0; have fz0 : W5.frozen? ⟨w.heap.size + 1, 0, none⟩ = false := frozen_of_row _ _ _ _ _ t3; have z1 := blk_cell t3 1; have fz1 : W5.frozen? ⟨w.heap.size + 1, 1, none⟩ = false := frozen_of_row _ _ _ _ _ t3; have z2 := blk_cell t3 2; have fz2 : W5.frozen? ⟨w.heap.size + 1, 2, none⟩ = false := frozen_of_row _ _ _ _ _ t3; have z3 := blk_cell t3 3; have fz3 : W5.frozen? ⟨w.heap.size + 1, 3, none⟩ = false := frozen_of_row _ _ _ _ _ t3; have z4 := blk_cell t3 4; have fz4 : W5.frozen? ⟨w.heap.size + 1, 4, none⟩ = false := frozen_of_row _ _ _ _ _ t3; have z5 := blk_cell t3 5; have fz5 : W5.frozen? ⟨w.heap.size + 1, 5, none⟩ = false := frozen_of_row _ _ _ _ _ t3; have z6 := blk_cell t3 6; have fz6 : W5.frozen? ⟨w.heap.size + 1, 6, none⟩ = false := frozen_of_row _ _ _ _ _ t3; simp only [List.getElem?_toArray, List.getElem?_cons_succ, List.getElem?_cons_zero] at z0 z1 z2 z3 z4 z5 z6; have T1 := Lib.hid t1; have T3 := Lib.hid t3; have T4 := Lib.hid t4; have T5 := Lib.hid t5; clear t1 t2 t3 t4 t5; repeat (first | go_skip | go_guarded | go_step | go_upon | go_back)
                   refine gen_worldB (fun W => Below w.heap.size w W ∧ W.heap[w.heap.size + 1]? = some (.cells #[.int .i64 c.page, .int .i64 c.n, .int .i64 c.red, .int .i64 c.quarantine, .slice A3 M c3, .slice A2 quar.length c2, .int .i64 (gi + 1)] 26 (0, 0)) ∧ u3.heap.size ≤ W.heap.size ∧ (∀ j, j < u3.heap.size → j ≠ w3.heap.size → j ≠ w.heap.size + 1 → W.heap[j]? = u3.heap[j]?)) ⟨?_, ?_, by simp [World.setCell, T4.out], fun j hj hn1 hn2 => ?_⟩ ?_
                   · repeat' first | refine Below.setCell ?_ (by simp; try omega) _ | exact T1.out
                   · have e1 := row_setCell (o := 0) (.int .i64 c.page) T3.out
                     have e2 := row_setCell (o := 1) (.int .i64 c.n) e1
                     have e3 := row_setCell (o := 2) (.int .i64 c.red) e2
                     have e4 := row_setCell (o := 3) (.int .i64 c.quarantine) e3
                     have e5 := row_setCell (o := 4) (.slice A3 M c3) e4
                     have e6 := row_setCell (o := 5) (.slice A2 quar.length c2) e5
                     have e7 := row_setCell (o := 6) (.int .i64 (gi + 1)) e6
                     simp only [List.setIfInBounds_toArray, List.set_cons_zero, List.set_cons_succ] at e7
                     exact e7
                   · refine Eq.trans ?_ (T5.out j hn1)
                     repeat' first | refine Eq.trans (Below.heap_setCell _ _ _ _ hn2) ?_ | rfl
                   rintro W9 ⟨t1, t2, t3, t4⟩
                   have hk1 : Fresh w.heap.size W9 (.slice A3 M c3) (insF live k ⟨v, size, gi + 1⟩) := (HQ3.out.kept t3 (fun j hj hge => t4 j hj (by omega) (by omega))).base (by omega)
                   have hk2 : Fresh w.heap.size W9 (.slice A2 quar.length c2) quar := (Fresh.of_own (own_blk HQQ.out (fun g' hg' => t4 g' (own_lt HQQ.out g' hg').2 (by have := own_lt HO2.out g' hg'; omega) (by have := own_lt HO2.out g' hg'; omega))) rfl).base (by omega)
                   have hir : insF live k ⟨v, size, gi + 1⟩ = insF live (atI live v) ⟨v, size, gi + 1⟩ := by rw [HI.out]
                   have y0 := blk_cell t2 0
                   have y1 := blk_cell t2 1
                   have y2 := blk_cell t2 2
                   have y3 := blk_cell t2 3
                   have y4 := blk_cell t2 4
                   have y5 := blk_cell t2 5
                   have y6 := blk_cell t2 6
                   simp only [List.getElem?_toArray, List.getElem?_cons_succ, List.getElem?_cons_zero] at y0 y1 y2 y3 y4 y5 y6
                   refine bodyPost_ret (v := .tuple #[hAgg c (.slice A3 M c3) (.slice A2 quar.length c2) (gi + 1), .int .u32 v, .int .i64 0]) (by simp [results, Try.results47, go_sem, y0, y1, y2, y3, y4, y5, y6]) rfl ⟨t1, 0, v, _, .inr (.inr (.inr ⟨L, HOP.out, hz0, hz1, HVS.out, h1000, hgx, rfl, rfl⟩)), ?_⟩
                   rw [← hir]
                   exact HAns.of hk1 hk2)))
          · (
              have hcb : (c1 = k) = False := eq_false hck
              have hbr := (HBr.out.block _ hltb).trans HBX.out
              have hre := (HBr.out.block _ (by omega)).trans ((HBWW.out.block _ (by omega)).trans HB13.out)
              have hltr : w3.heap.size < wr.heap.size := blk_lt hbr
              have hp1 : Sl 3 encP wr (.slice (some ⟨g, 0, none⟩) k c1) (live.take k) := sl_take (HSA.out.below HBr.out) HN.out hkN
              obtain ⟨v1, u1, hr1, hq1, hg1⟩ := append_sl wr.heap.size (.slice none 0 0) [] (live.take k) (.slice (some ⟨g, 0, none⟩) k c1) wr (World.ownsRow_nil _ _ _ _) hp1 (by simp) (by rw [List.length_take]; omega) (Nat.le_refl _)
              have hu1 : Below wr.heap.size wr u1 := below_of_grown hg1 (Nat.le_refl _) (by simp [Value.ownBlock])
              have hs1 := hu1.size
              obtain ⟨v2, u2, hr2, hq2, hg2⟩ := append_sl wr.heap.size v1 ([] ++ live.take k) [⟨v, size, gi + 1⟩] (.slice (some ⟨u1.heap.size, 0, none⟩) 1 1) (u1.alloc (.cells #[.int .u32 v, .int .i64 size, .int .i64 (gi + 1)] 38)) (hq1.alloc _) (sl_single (hal_new rfl)) (by first | (simp; done) | (simp; omega)) (by simp) (by first | (simp; done) | (simp; omega))
              have hu2 : Below wr.heap.size wr u2 := hu1.trans (((Below.refl _ _).alloc hs1 _).trans (below_of_grown hg2 (by simp; omega) (fun j e => (own_lt hq1 j e).1)))
              have hs2 := hu2.size
              have hp3 : Sl 3 encP u2 (.slice (some ⟨g, k * 3, none⟩) 0 (c1 - k)) (live.drop k) := by have h0 : live.drop k = [] := List.drop_eq_nil_iff.2 (by rw [HN.out]; omega); rw [h0]; exact ⟨_, _, rfl, Nat.zero_le _, .inl rfl⟩
              obtain ⟨v3, u3, hr3, hq3, hg3⟩ := append_sl wr.heap.size v2 ([] ++ live.take k ++ [⟨v, size, gi + 1⟩]) (live.drop k) (.slice (some ⟨g, k * 3, none⟩) 0 (c1 - k)) u2 hq2 hp3 (by first | (simp; done) | (simp; omega)) (by first | (simp; done) | (simp; omega)) hs2
              have hu3 : Below wr.heap.size wr u3 := hu2.trans (below_of_grown hg3 hs2 (fun j e => (own_lt hq2 j e).1))
              have hins : [] ++ live.take k ++ [⟨v, size, gi + 1⟩] ++ live.drop k = insF live k ⟨v, size, gi + 1⟩ := by simp [insF]
              rw [hins] at hq3
              have hbx1 := (hu1.block _ hltr).trans hbr
              have hbx2 := (hu2.block _ hltr).trans hbr
              have hbx3 := (hu3.block _ hltr).trans hbr
              have hre3 := (hu3.block _ (by omega)).trans hre
              have hltu1 : w3.heap.size < u1.heap.size := blk_lt hbx1
              have hltu3 : w3.heap.size < u3.heap.size := blk_lt hbx3
              have HQQ : Hid (u3.ownsRow w2.heap.size 38 3 (.slice A2 quar.length c2) quar.length (quar.flatMap encP)) := own_belowA (own_belowA (own_belowA HO2.out HBWW.out) HBr.out) hu3
              have HU3 : Hid (Below w.heap.size w u3) := HBW3.out.trans ((HBWW.out.mono (by omega)).trans ((HBr.out.mono (by omega)).trans (hu3.mono (by omega))))
              have HBX3 := Lib.hid hbx3
              have HRE3 := Lib.hid hre3
              have hsu3 : wr.heap.size ≤ u3.heap.size := hu3.size
              have hv3 : ∃ A kk, v3 = .slice A (insF live k ⟨v, size, gi + 1⟩).length kk := by obtain ⟨A, c', h, _⟩ := (Fresh.of_own hq3 rfl).sl; exact ⟨A, c', h⟩
              obtain ⟨A3, c3, rfl⟩ := hv3
              have hfr := Fresh.of_own hq3 rfl
              obtain ⟨M, hM⟩ : ∃ M, (insF live k ⟨v, size, gi + 1⟩).length = M := ⟨_, rfl⟩
              rw [hM] at hr3 hfr
              have HQ3 := Lib.hid hfr
              have HR1 := Lib.hid hr1
              have HR2 := Lib.hid hr2
              have HR3 := Lib.hid hr3
              have p4 := blk_cell hbr 4
              simp only [List.getElem?_toArray, List.getElem?_cons_succ, List.getElem?_cons_zero] at p4
              have q6 := blk_cell hbx1 6
              simp only [List.getElem?_toArray, List.getElem?_cons_succ, List.getElem?_cons_zero] at q6
              have r4 := blk_cell hbx2 4
              simp only [List.getElem?_toArray, List.getElem?_cons_succ, List.getElem?_cons_zero] at r4
              have s4 := blk_cell hbx3 4
              have fs4 : u3.frozen? ⟨w3.heap.size, 4, none⟩ = false := frozen_of_row _ _ _ _ _ hbx3
              simp only [List.getElem?_toArray, List.getElem?_cons_succ, List.getElem?_cons_zero] at s4
              clear hfr hM hbr hre hp1 hr1 hq1 hg1 hu1 hr2 hq2 hg2 hu2 hp3 hr3 hq3 hg3 hu3 hins hbx1 hbx2 hbx3 hre3
              have hrow : Hid ((u3.setCell ⟨w3.heap.size, 4, none⟩ (.slice A3 M c3)).heap[w3.heap.size]? = some (.cells #[.int .i64 c.page, .int .i64 c.n, .int .i64 c.red, .int .i64 c.quarantine, .slice A3 M c3, .slice A2 quar.length c2, .int .i64 (gi + 1)] 26 (0, 0))) := by
                have e1 := row_setCell (o := 4) (.slice A3 M c3) HBX3.out
                simp only [List.setIfInBounds_toArray, List.set_cons_zero, List.set_cons_succ] at e1
                exact e1
              have hkp : Hid (∀ j, j ≠ w3.heap.size → (u3.setCell ⟨w3.heap.size, 4, none⟩ (.slice A3 M c3)).heap[j]? = u3.heap[j]?) := fun j hj => Below.heap_setCell _ _ _ _ hj
              have hnil : Hid ((u3.setCell ⟨w3.heap.size, 4, none⟩ (.slice A3 M c3)).heap[w.heap.size + 1]? = some (.cells #[.int .i64 0, .int .i64 0, .int .i64 0, .int .i64 0, .slice none 0 0, .slice none 0 0, .int .i64 0] 26 (0, 0))) := (hkp.out _ (by omega)).trans HRE3.out
              have hbel5 : Hid (Below w.heap.size w (u3.setCell ⟨w3.heap.size, 4, none⟩ (.slice A3 M c3))) := HU3.out.setCell (by simp; omega) _
              have hsz5 : Hid ((u3.setCell ⟨w3.heap.size, 4, none⟩ (.slice A3 M c3)).heap.size = u3.heap.size) := by show _ = _; simp [World.setCell]
              go_wp2_with (first
                | (at_builtin; refine Lib.wpList_append_run _ rfl _ _ _ _ rfl _ _ rfl rfl _ _ HR1.out ?_; clear HR1)
                | (at_builtin; refine Lib.wpList_append_run _ rfl _ _ _ _ rfl _ _ rfl rfl _ _ HR2.out ?_; clear HR2)
                | (at_builtin; refine Lib.wpList_append_run _ rfl _ _ _ _ rfl _ _ rfl rfl _ _ HR3.out ?_; clear HR3; go_simp; go_step; go_step; go_step; go_step; go_step; refine gen_worldQ (fun W => Below w.heap.size w W ∧ W.heap[w3.heap.size]? = some (.cells #[.int .i64 c.page, .int .i64 c.n, .int .i64 c.red, .int .i64 c.quarantine, .slice A3 M c3, .slice A2 quar.length c2, .int .i64 (gi + 1)] 26 (0, 0)) ∧ W.heap[w.heap.size + 1]? = some (.cells #[.int .i64 0, .int .i64 0, .int .i64 0, .int .i64 0, .slice none 0 0, .slice none 0 0, .int .i64 0] 26 (0, 0)) ∧ W.heap.size = u3.heap.size ∧ ∀ j, j ≠ w3.heap.size → W.heap[j]? = u3.heap[j]?) ⟨hbel5.out, hrow.out, hnil.out, hsz5.out, hkp.out⟩ ?_; clear hrow hkp hnil hbel5 hsz5 p4 q6 r4 s4 fs4; rintro W5 ⟨t1, t2, t3, t4, t5⟩; have s0 := blk_cell t2 0; have s1 := blk_cell t2 1; have s2 := blk_cell t2 2; have s3 := blk_cell t2 3; have s4 := blk_cell t2 4; have s5 := blk_cell t2 5; have s6 := blk_cell t2 6; simp only [List.getElem?_toArray, List.getElem?_cons_succ, List.getElem?_cons_zero] at s0 s1 s2 s3 s4 s5 s6; have z0 := blk_cell t3 0; have fz0 : W5.frozen? ⟨w.heap.size + 1, 0, none⟩ = false := frozen_of_row _ _ _ _ _ t3; have z1 := blk_cell t3 1; have fz1 : W5.frozen? ⟨w.heap.size + 1, 1, none⟩ = false := frozen_of_row _ _ _ _ _ t3; have z2 := blk_cell t3 2; have fz2 : W5.frozen? ⟨w.heap.size + 1, 2, none⟩ = false := frozen_of_row _ _ _ _ _ t3; have z3 := blk_cell t3 3; have fz3 : W5.frozen? ⟨w.heap.size + 1, 3, none⟩ = false := frozen_of_row _ _ _ _ _ t3; have z4 := blk_cell t3 4; have fz4 : W5.frozen? ⟨w.heap.size + 1, 4, none⟩ = false := frozen_of_row _ _ _ _ _ t3; have z5 := blk_cell t3 5; have fz5 : W5.frozen? ⟨w.heap.size + 1, 5, none⟩ = false := frozen_of_row _ _ _ _ _ t3; have z6 := blk_cell t3 6; have fz6 : W5.frozen? ⟨w.heap.size + 1, 6, none⟩ = false := frozen_of_row _ _ _ _ _ t3; simp only [List.getElem?_toArray, List.getElem?_cons_succ, List.getElem?_cons_zero] at z0 z1 z2 z3 z4 z5 z6; have T1 := Lib.hid t1; have T3 := Lib.hid t3; have T4 := Lib.hid t4; have T5 := Lib.hid t5; clear t1 t2 t3 t4 t5; repeat (first | go_skip | go_guarded | go_step | go_upon | go_back)
                   refine gen_worldB (fun W => Below w.heap.size w W ∧ W.heap[w.heap.size + 1]? = some (.cells #[.int .i64 c.page, .int .i64 c.n, .int .i64 c.red, .int .i64 c.quarantine, .slice A3 M c3, .slice A2 quar.length c2, .int .i64 (gi + 1)] 26 (0, 0)) ∧ u3.heap.size ≤ W.heap.size ∧ (∀ j, j < u3.heap.size → j ≠ w3.heap.size → j ≠ w.heap.size + 1 → W.heap[j]? = u3.heap[j]?)) ⟨?_, ?_, by simp [World.setCell, T4.out], fun j hj hn1 hn2 => ?_⟩ ?_
                   · repeat' first | refine Below.setCell ?_ (by simp; try omega) _ | exact T1.out
                   · have e1 := row_setCell (o := 0) (.int .i64 c.page) T3.out
                     have e2 := row_setCell (o := 1) (.int .i64 c.n) e1
                     have e3 := row_setCell (o := 2) (.int .i64 c.red) e2
                     have e4 := row_setCell (o := 3) (.int .i64 c.quarantine) e3
                     have e5 := row_setCell (o := 4) (.slice A3 M c3) e4
                     have e6 := row_setCell (o := 5) (.slice A2 quar.length c2) e5
                     have e7 := row_setCell (o := 6) (.int .i64 (gi + 1)) e6
                     simp only [List.setIfInBounds_toArray, List.set_cons_zero, List.set_cons_succ] at e7
                     exact e7
                   · refine Eq.trans ?_ (T5.out j hn1)
                     repeat' first | refine Eq.trans (Below.heap_setCell _ _ _ _ hn2) ?_ | rfl
                   rintro W9 ⟨t1, t2, t3, t4⟩
                   have hk1 : Fresh w.heap.size W9 (.slice A3 M c3) (insF live k ⟨v, size, gi + 1⟩) := (HQ3.out.kept t3 (fun j hj hge => t4 j hj (by omega) (by omega))).base (by omega)
                   have hk2 : Fresh w.heap.size W9 (.slice A2 quar.length c2) quar := (Fresh.of_own (own_blk HQQ.out (fun g' hg' => t4 g' (own_lt HQQ.out g' hg').2 (by have := own_lt HO2.out g' hg'; omega) (by have := own_lt HO2.out g' hg'; omega))) rfl).base (by omega)
                   have hir : insF live k ⟨v, size, gi + 1⟩ = insF live (atI live v) ⟨v, size, gi + 1⟩ := by rw [HI.out]
                   have y0 := blk_cell t2 0
                   have y1 := blk_cell t2 1
                   have y2 := blk_cell t2 2
                   have y3 := blk_cell t2 3
                   have y4 := blk_cell t2 4
                   have y5 := blk_cell t2 5
                   have y6 := blk_cell t2 6
                   simp only [List.getElem?_toArray, List.getElem?_cons_succ, List.getElem?_cons_zero] at y0 y1 y2 y3 y4 y5 y6
                   refine bodyPost_ret (v := .tuple #[hAgg c (.slice A3 M c3) (.slice A2 quar.length c2) (gi + 1), .int .u32 v, .int .i64 0]) (by simp [results, Try.results47, go_sem, y0, y1, y2, y3, y4, y5, y6]) rfl ⟨t1, 0, v, _, .inr (.inr (.inr ⟨L, HOP.out, hz0, hz1, HVS.out, h1000, hgx, rfl, rfl⟩)), ?_⟩
                   rw [← hir]
                   exact HAns.of hk1 hk2)))
end Go.Proofs.Ytbhbjcgbhklieaa
