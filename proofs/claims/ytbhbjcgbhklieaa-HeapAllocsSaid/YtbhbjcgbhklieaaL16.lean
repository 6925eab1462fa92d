/- HeapAllocs: the walk. -/
import Derived.Test.YtbhbjcgbhklieaaE12
import Derived.Test.YtbhbjcgbhklieaaS4
import Derived.Test.YtbhbjcgbhklieaaU4
import Derived.Test.YtbhbjcgbhklieaaP6
import Derived.Test.YtbhbjcgbhklieaaN3
import Derived.Test.YtbhbjcgbhklieaaR2
namespace Go.Proofs.Ytbhbjcgbhklieaa
open Go.RowKit Go.Shelf

theorem same_refl (c : Conf) (gi : Int) (l q : List Piece) : sameF c c gi gi l l q q = true := by
  have h : ∀ l : List Piece, Lib.allEq eqP l l = true := fun l => by
    induction l with
    | nil => rfl
    | cons p l ih => simp [Lib.allEq, eqP, ih]
  simp [sameF, h]
theorem does_len {c : Conf} {gi : Int} {live quar : List Piece} {o : OpV} {err at_ : Int} {r : HRes} (h : DoesP c gi live quar o err at_ r) (wl : ∀ p ∈ live, WfP p) (wq : ∀ p ∈ quar, WfP p) : r.live.length ≤ 9223372036854775807 ∧ r.quar.length ≤ 9223372036854775807 := by
  by_cases he : err = 0
  · subst he
    have g := (does_good h wl wq).2.2
    exact ⟨g.n1, g.n2⟩
  · have hz : r = hZ := by
      unfold DoesP at h
      by_cases h0 : o.kind = 0
      · rw [if_pos h0] at h
        rcases h with ⟨_, _, _, h⟩ | ⟨_, _, _, _, h⟩ | ⟨_, _, _, _, _, _, _, h⟩ | ⟨_, _, _, _, _, _, _, h, _⟩
        · exact h
        · exact h
        · exact h
        · exact absurd h he
      · rw [if_neg h0] at h
        by_cases h1 : o.kind = 1
        · rw [if_pos h1] at h
          rcases h.2 with ⟨_, _, h⟩ | ⟨_, _, _, h⟩ | ⟨_, _, h, _⟩
          · exact h
          · exact h
          · exact absurd h he
        · rw [if_neg h1] at h
          rcases h with ⟨_, _, _, h⟩ | ⟨_, _, _, _, h⟩ | ⟨_, _, _, _, _, h⟩ | ⟨_, _, _, _, _, _, _, _, h⟩ | ⟨_, _, _, _, _, _, _, _, h, _⟩
          · exact h
          · exact h
          · exact h
          · exact h
          · exact absurd h he
    subst hz
    exact ⟨by simp [hZ], by simp [hZ]⟩

set_option maxRecDepth 100000 in
set_option maxHeartbeats 8000000 in
theorem c11 (c : Conf) (lv qv : Value) (gi : Int) (live quar : List Piece) (ov : Value) (ops : List OpV) (w : World) (hin : HeapIn w c lv qv gi live quar) (ho : OpsIn w ov ops) :
    Calls Try.prog 11 #[hAgg c lv qv gi, ov] w fun e w' => e = .returned (.bool true) ∧ Below w.heap.size w w' := by
  have HL := Lib.hid hin.hl
  have HQ := Lib.hid hin.hq
  have HWL : Hid (∀ p ∈ live, WfP p) := fun p hp => (hin.wl p hp).1
  have HWQ : Hid (∀ p ∈ quar, WfP p) := fun p hp => (hin.wq p hp).1
  have HSL := Lib.hid hin.sl
  have HSQ := Lib.hid hin.sq
  have HNL := Lib.hid hin.nl
  have HNQ := Lib.hid hin.nq
  have HO := Lib.hid ho.sl
  have HWO := Lib.hid ho.each
  have hol := ho.len
  obtain ⟨A, ca, rfl, _, _⟩ := id hin.hl
  obtain ⟨B, cb, rfl, _, _⟩ := id hin.hq
  obtain ⟨PA, pc, rfl, _, _⟩ := id ho.sl
  obtain ⟨n, hnn⟩ : ∃ n, ops.length = n := ⟨_, rfl⟩
  rw [hnn] at hol HO ⊢
  have HN := Lib.hid hnn
  clear hin ho hnn
  go_enter Try.func11, Try.ntmps11
  go_wp2_with fail
  refine Calls.mono (c16 _) ?_
  rintro e w1 ⟨rfl, hB1⟩
  have hb0 : w1.heap[w.heap.size]? = some (.cells #[.int .i64 c.page, .int .i64 c.n, .int .i64 c.red, .int .i64 c.quarantine, .slice A live.length ca, .slice B quar.length cb, .int .i64 gi] 26 (0, 0)) := (hB1.block _ (by simp)).trans (hal_new rfl)
  have hBw : Below w.heap.size w w1 := (below_alloc1 w _).trans (hB1.mono (by simp))
  have q0 := blk_cell hb0 0
  have q1 := blk_cell hb0 1
  have q2 := blk_cell hb0 2
  have q3 := blk_cell hb0 3
  have q4 := blk_cell hb0 4
  have q5 := blk_cell hb0 5
  have q6 := blk_cell hb0 6
  simp only [List.getElem?_toArray, List.getElem?_cons_succ, List.getElem?_cons_zero] at q0 q1 q2 q3 q4 q5 q6
  have HB0 := Lib.hid hb0
  have HBW := Lib.hid hBw
  have hlt0 : w.heap.size < w1.heap.size := blk_lt hb0
  clear hB1 hb0 hBw
  go_wp2_with fail
  refine Calls.mono (c17 w1.heap.size c A B live.length ca quar.length cb gi _ (hal_new rfl)) ?_
  rintro e w2 ⟨rfl, hB2⟩
  have hb02 := (hB2.block _ (by simp; omega)).trans (hal_old HB0.out)
  have HBW2 : Hid (Below w.heap.size w w2) := (HBW.out.alloc (by omega) _).trans (hB2.mono (by simp; omega))
  have HB02 := Lib.hid hb02
  have hlt2 : w.heap.size < w2.heap.size := blk_lt hb02
  clear q0 q1 q2 q3 q4 q5 q6 hB2 hb02 HB0 HBW hlt0
  cases hmf : manyF live.length quar.length with
  | true =>
    clear hmf
    go_wp2
    go_ret
    exact ⟨rfl, HBW2.out⟩
  | false =>
  clear hmf
  by_cases hn40 : 40 < n
  · have d1 : decide ((40 : Int) < (n : Int)) = true := decide_eq_true (by omega)
    go_wp2
    go_ret
    exact ⟨rfl, HBW2.out⟩
  have d1 : decide ((40 : Int) < (n : Int)) = false := decide_eq_false (by omega)
  have hn : n ≤ 40 := by omega
  clear hn40
  have hst0 : StOk ⟨c, gi, live, quar⟩ := ⟨HWL.out, HWQ.out, HNL.out, HNQ.out⟩
  have HST0 := Lib.hid hst0
  have hbs : BoxS w2 w.heap.size none ⟨c, gi, live, quar⟩ A ca B cb := ⟨HB02.out, HL.out.below HBW2.out, HQ.out.below HBW2.out, HSL.out, HSQ.out, sl_neS HL.out (Nat.le_refl _), sl_neS HQ.out (Nat.le_refl _), (fun a e h => by have := sl_neS HL.out (x := w.heap.size + 1) (by omega) a e h; exact this.1), (fun a e h => by have := sl_neS HQ.out (x := w.heap.size + 1) (by omega) a e h; exact this.1)⟩
  have HBS := Lib.hid hbs
  clear hst0 hbs
  go_wp2
  go_loopg [27] n (fun kx s27 wr => ∃ (k : Nat) (st : HRes) (A1 : Option Addr) (k1 : Nat) (B1 : Option Addr) (m1 : Nat), k ≤ n ∧ s27 = .int .i64 k ∧ n - k ≤ kx ∧ Hid (StOk st) ∧ Hid (BoxS wr w.heap.size none st A1 k1 B1 m1) ∧ Hid (Below w.heap.size w wr))
  case atStart => exact ⟨0, ⟨c, gi, live, quar⟩, A, ca, B, cb, Nat.zero_le _, rfl, by omega, HST0.out, HBS.out, HBW2.out⟩
  case round =>
    obtain ⟨k, st, A1, k1, B1, m1, hk, rfl, hkx, HOK, HBX, HBr⟩ := hrel
    have hsr := HBr.out.size
    have hltb : w.heap.size < wr.heap.size := blk_lt HBX.out.box
    by_cases hlt : k < n
    rotate_left
    · obtain rfl : k = n := by omega
      clear hlt
      go_wp2
      go_ret
      exact ⟨rfl, HBr.out⟩
    have hkl : k < ops.length := by rw [HN.out]; exact hlt
    obtain ⟨pb, poff, rfl, hPL⟩ := sl_atS (HO.out.below HBr.out) hkl
    have pc0 := hPL.2 k hkl 0 _ rfl
    have pc1 := hPL.2 k hkl 1 _ rfl
    have pc2 := hPL.2 k hkl 2 _ rfl
    have pc3 := hPL.2 k hkl 3 _ rfl
    have pc4 := hPL.2 k hkl 4 _ rfl
    simp only [Nat.add_zero] at pc0
    have hpb : pb < wr.heap.size := hPL.1
    have hwo := HWO.out ops[k]! (by rw [getElem!_pos ops k hkl]; exact List.getElem_mem hkl)
    generalize ops[k]! = o at pc0 pc1 pc2 pc3 pc4 hwo
    have HWo := Lib.hid hwo
    have hbx := HBX.out.box
    have q0 := blk_cell hbx 0
    have q1 := blk_cell hbx 1
    have q2 := blk_cell hbx 2
    have q3 := blk_cell hbx 3
    have q4 := blk_cell hbx 4
    have q5 := blk_cell hbx 5
    have q6 := blk_cell hbx 6
    simp only [List.getElem?_toArray, List.getElem?_cons_succ, List.getElem?_cons_zero] at q0 q1 q2 q3 q4 q5 q6
    have h45 := fun V (hV : Below wr.heap.size wr V) => c45 st.c (.slice A1 st.live.length k1) (.slice B1 st.quar.length m1) st.gi st.live o V (HBX.out.sl.below hV) HOK.out.n1
    have h46 := fun V (hV : Below wr.heap.size wr V) => c46 st.c (.slice A1 st.live.length k1) (.slice B1 st.quar.length m1) st.gi st.live st.quar o V (HBX.out.sl.below hV) (HBX.out.sq.below hV) HOK.out.wl HOK.out.wq HBX.out.sh1 HBX.out.sh2 HOK.out.n1
    have H45 := Lib.hid h45
    have H46 := Lib.hid h46
    clear h45 h46 hPL hkl hbx hwo
    go_wp2_with fail
    refine Calls.mono (H45.out _ (below_alloc1 wr _)) ?_
    clear H45
    rintro e v1 ⟨rfl, hB1⟩
    have HV1 : Hid (Below wr.heap.size wr v1) := (below_alloc1 wr _).trans (hB1.mono (by simp))
    have ho1 : v1.heap[wr.heap.size]? = some (.cells #[.int .i64 o.kind, .int .i64 o.n, .int .i64 o.i, .int .u32 o.pos, .bool o.wild] 29 (0, 0)) := (hB1.block _ (by simp)).trans (hal_new rfl)
    have hbx1 := (HV1.out.block _ hltb).trans HBX.out.box
    clear q0 q1 q2 q3 q4 q5 q6 hB1 pc0 pc1 pc2 pc3 pc4
    have q0 := blk_cell hbx1 0
    have q1 := blk_cell hbx1 1
    have q2 := blk_cell hbx1 2
    have q3 := blk_cell hbx1 3
    have q4 := blk_cell hbx1 4
    have q5 := blk_cell hbx1 5
    have q6 := blk_cell hbx1 6
    simp only [List.getElem?_toArray, List.getElem?_cons_succ, List.getElem?_cons_zero] at q0 q1 q2 q3 q4 q5 q6
    have p0 := blk_cell ho1 0
    have p1 := blk_cell ho1 1
    have p2 := blk_cell ho1 2
    have p3 := blk_cell ho1 3
    have p4 := blk_cell ho1 4
    simp only [List.getElem?_toArray, List.getElem?_cons_succ, List.getElem?_cons_zero] at p0 p1 p2 p3 p4
    have HO1 := Lib.hid ho1
    have hlo1 : wr.heap.size < v1.heap.size := blk_lt ho1
    have hlb1 : w.heap.size < v1.heap.size := blk_lt hbx1
    clear ho1 hbx1
    go_wp2_with fail
    refine Calls.mono (H46.out v1 HV1.out) ?_
    clear H46
    rintro e v2 ⟨hB2, err, at_, r, hd, A3, k3, B3, m3, rfl, f1, f2⟩
    have HV2 : Hid (Below wr.heap.size wr v2) := HV1.out.trans (hB2.mono HV1.out.size)
    have ho2 := (hB2.block _ hlo1).trans HO1.out
    have hbx2 := (HV2.out.block _ hltb).trans HBX.out.box
    have hs2 := hB2.size
    clear q0 q1 q2 q3 q4 q5 q6 p0 p1 p2 p3 p4 hB2
    have q0 := blk_cell hbx2 0
    have q1 := blk_cell hbx2 1
    have q2 := blk_cell hbx2 2
    have q3 := blk_cell hbx2 3
    have q4 := blk_cell hbx2 4
    have q5 := blk_cell hbx2 5
    have q6 := blk_cell hbx2 6
    simp only [List.getElem?_toArray, List.getElem?_cons_succ, List.getElem?_cons_zero] at q0 q1 q2 q3 q4 q5 q6
    have p0 := blk_cell ho2 0
    have p1 := blk_cell ho2 1
    have p2 := blk_cell ho2 2
    have p3 := blk_cell ho2 3
    have p4 := blk_cell ho2 4
    simp only [List.getElem?_toArray, List.getElem?_cons_succ, List.getElem?_cons_zero] at p0 p1 p2 p3 p4
    have HO2 := Lib.hid ho2
    have hlo2 : wr.heap.size < v2.heap.size := blk_lt ho2
    have hlb2 : w.heap.size < v2.heap.size := blk_lt hbx2
    have HD := Lib.hid hd
    have F1 := Lib.hid f1
    have F2 := Lib.hid f2
    clear ho2 hbx2 hd f1 f2 HO1
    have hV3 : Below wr.heap.size wr ((v2.alloc (.cells #[.int .i64 r.c.page, .int .i64 r.c.n, .int .i64 r.c.red, .int .i64 r.c.quarantine, .slice A3 r.live.length k3, .slice B3 r.quar.length m3, .int .i64 r.gi] 26)).alloc (.cells #[.int .i64 0, .int .i64 0, .int .i64 0, .int .i64 0, .slice none 0 0, .slice none 0 0, .int .i64 0] 26)) := (HV2.out.alloc HV2.out.size _).alloc (by have := HV2.out.size; simp; omega) _
    have HV3 := Lib.hid hV3
    clear hV3
    by_cases hk0 : o.kind = 0
    · rw [hk0] at p0
      go_wp2_with fail
      refine Calls.mono (c47 st.c _ _ st.gi st.live st.quar o.n _ (HBX.out.sl.below HV3.out) (HBX.out.sq.below HV3.out) HOK.out.wl HOK.out.wq) ?_
      rintro e v3 ⟨hB3, err', at', r', hal, A4, k4, B4, m4, rfl, g1, g2⟩
      obtain ⟨rfl, rfl, rfl⟩ := HD.out.one (show DoesP st.c st.gi st.live st.quar o err' at' r' by unfold DoesP; rw [if_pos hk0]; exact hal)
      have ha3 : v3.heap[v2.heap.size]? = some (.cells #[.int .i64 r.c.page, .int .i64 r.c.n, .int .i64 r.c.red, .int .i64 r.c.quarantine, .slice A3 r.live.length k3, .slice B3 r.quar.length m3, .int .i64 r.gi] 26 (0, 0)) := (hB3.block _ (by simp; omega)).trans (hal_old (hal_new rfl))
      have hb3 : v3.heap[v2.heap.size + 1]? = some (.cells #[.int .i64 0, .int .i64 0, .int .i64 0, .int .i64 0, .slice none 0 0, .slice none 0 0, .int .i64 0] 26 (0, 0)) := (hB3.block _ (by simp)).trans (hal_new (by simp))
      have HV4 : Hid (Below wr.heap.size wr v3) := HV3.out.trans (hB3.mono HV3.out.size)
      have hs3 : v2.heap.size + 2 ≤ v3.heap.size := by have := hB3.size; simpa using this
      simp only [World.size_alloc] at g1 g2
      have G1 := Lib.hid g1
      have G2 := Lib.hid g2
      have HB23 : Hid (Below v2.heap.size v2 v3) := ((below_alloc1 v2 _).alloc (by simp) _).trans (hB3.mono (by simp; omega))
      clear hB3 hal g1 g2 q0 q1 q2 q3 q4 q5 q6 p0 p1 p2 p3 p4 hk0
      have q0 := blk_cell ha3 0
      have q1 := blk_cell ha3 1
      have q2 := blk_cell ha3 2
      have q3 := blk_cell ha3 3
      have q4 := blk_cell ha3 4
      have q5 := blk_cell ha3 5
      have q6 := blk_cell ha3 6
      simp only [List.getElem?_toArray, List.getElem?_cons_succ, List.getElem?_cons_zero] at q0 q1 q2 q3 q4 q5 q6
      have z0 := blk_cell hb3 0
      have fz0 : v3.frozen? ⟨v2.heap.size + 1, 0, none⟩ = false := frozen_of_row _ _ _ _ _ hb3
      have z1 := blk_cell hb3 1
      have fz1 : v3.frozen? ⟨v2.heap.size + 1, 1, none⟩ = false := frozen_of_row _ _ _ _ _ hb3
      have z2 := blk_cell hb3 2
      have fz2 : v3.frozen? ⟨v2.heap.size + 1, 2, none⟩ = false := frozen_of_row _ _ _ _ _ hb3
      have z3 := blk_cell hb3 3
      have fz3 : v3.frozen? ⟨v2.heap.size + 1, 3, none⟩ = false := frozen_of_row _ _ _ _ _ hb3
      have z4 := blk_cell hb3 4
      have fz4 : v3.frozen? ⟨v2.heap.size + 1, 4, none⟩ = false := frozen_of_row _ _ _ _ _ hb3
      have z5 := blk_cell hb3 5
      have fz5 : v3.frozen? ⟨v2.heap.size + 1, 5, none⟩ = false := frozen_of_row _ _ _ _ _ hb3
      have z6 := blk_cell hb3 6
      have fz6 : v3.frozen? ⟨v2.heap.size + 1, 6, none⟩ = false := frozen_of_row _ _ _ _ _ hb3
      simp only [List.getElem?_toArray, List.getElem?_cons_succ, List.getElem?_cons_zero] at z0 z1 z2 z3 z4 z5 z6
      have HA3 := Lib.hid ha3
      have HB3 := Lib.hid hb3
      have hl3 : v2.heap.size + 1 < v3.heap.size := blk_lt hb3
      have hl3a : v2.heap.size < v3.heap.size := blk_lt ha3
      clear ha3 hb3
      go_wp2_with fail
      refine gen_worldC (fun W => Below wr.heap.size wr W ∧ W.heap[v2.heap.size + 1]? = some (.cells #[.int .i64 r.c.page, .int .i64 r.c.n, .int .i64 r.c.red, .int .i64 r.c.quarantine, .slice A4 r.live.length k4, .slice B4 r.quar.length m4, .int .i64 r.gi] 26 (0, 0)) ∧ Sl 3 encP W (.slice A3 r.live.length k3) r.live ∧ Sl 3 encP W (.slice B3 r.quar.length m3) r.quar ∧ Fresh (v2.heap.size + 2) W (.slice A4 r.live.length k4) r.live ∧ Fresh (v2.heap.size + 2) W (.slice B4 r.quar.length m4) r.quar) ?_ ?_
      · have hkp : ∀ j, j ≠ v2.heap.size + 1 → (((((((v3.setCell ⟨v2.heap.size + 1, 0, none⟩ (.int .i64 r.c.page)).setCell ⟨v2.heap.size + 1, 1, none⟩ (.int .i64 r.c.n)).setCell ⟨v2.heap.size + 1, 2, none⟩ (.int .i64 r.c.red)).setCell ⟨v2.heap.size + 1, 3, none⟩ (.int .i64 r.c.quarantine)).setCell ⟨v2.heap.size + 1, 4, none⟩ (.slice A4 r.live.length k4)).setCell ⟨v2.heap.size + 1, 5, none⟩ (.slice B4 r.quar.length m4)).setCell ⟨v2.heap.size + 1, 6, none⟩ (.int .i64 r.gi)).heap[j]? = v3.heap[j]? := fun j hj => by
          repeat' first | refine Eq.trans (Below.heap_setCell _ _ _ _ hj) ?_ | rfl
        have hsz7 : (((((((v3.setCell ⟨v2.heap.size + 1, 0, none⟩ (.int .i64 r.c.page)).setCell ⟨v2.heap.size + 1, 1, none⟩ (.int .i64 r.c.n)).setCell ⟨v2.heap.size + 1, 2, none⟩ (.int .i64 r.c.red)).setCell ⟨v2.heap.size + 1, 3, none⟩ (.int .i64 r.c.quarantine)).setCell ⟨v2.heap.size + 1, 4, none⟩ (.slice A4 r.live.length k4)).setCell ⟨v2.heap.size + 1, 5, none⟩ (.slice B4 r.quar.length m4)).setCell ⟨v2.heap.size + 1, 6, none⟩ (.int .i64 r.gi)).heap.size = v3.heap.size := by simp [World.setCell]
        have e1 := row_setCell (o := 0) (.int .i64 r.c.page) HB3.out
        have e2 := row_setCell (o := 1) (.int .i64 r.c.n) e1
        have e3 := row_setCell (o := 2) (.int .i64 r.c.red) e2
        have e4 := row_setCell (o := 3) (.int .i64 r.c.quarantine) e3
        have e5 := row_setCell (o := 4) (.slice A4 r.live.length k4) e4
        have e6 := row_setCell (o := 5) (.slice B4 r.quar.length m4) e5
        have e7 := row_setCell (o := 6) (.int .i64 r.gi) e6
        simp only [List.setIfInBounds_toArray, List.set_cons_zero, List.set_cons_succ] at e7
        have hw : wr.heap.size ≤ v2.heap.size + 1 := by have := HV2.out.size; omega
        exact ⟨((((((HV4.out.setCell (p := ⟨v2.heap.size + 1, 0, none⟩) hw _).setCell (p := ⟨v2.heap.size + 1, 1, none⟩) hw _).setCell (p := ⟨v2.heap.size + 1, 2, none⟩) hw _).setCell (p := ⟨v2.heap.size + 1, 3, none⟩) hw _).setCell (p := ⟨v2.heap.size + 1, 4, none⟩) hw _).setCell (p := ⟨v2.heap.size + 1, 5, none⟩) hw _).setCell (p := ⟨v2.heap.size + 1, 6, none⟩) hw _,
          e7, sl_keepS (P := fun j => j ≠ v2.heap.size + 1) (F1.out.sl.below HB23.out) (by omega) (fun j _ hj => hkp j hj) (fun a e h => (sl_neS F1.out.sl (x := v2.heap.size + 1) (by omega) a e h).1), sl_keepS (P := fun j => j ≠ v2.heap.size + 1) (F2.out.sl.below HB23.out) (by omega) (fun j _ hj => hkp j hj) (fun a e h => (sl_neS F2.out.sl (x := v2.heap.size + 1) (by omega) a e h).1),
          G1.out.kept (by omega) (fun j _ hge => hkp j (by omega)), G2.out.kept (by omega) (fun j _ hge => hkp j (by omega))⟩
      rintro V ⟨t1, t2, t3, t4, t5, t6⟩
      have hlen := does_len HD.out HOK.out.wl HOK.out.wq
      have hc34 := c34 r.c r.c _ _ _ _ r.gi r.gi r.live r.quar r.live r.quar V t3 t4 t5.sl t6.sl hlen.1 hlen.2 hlen.1 hlen.2
      rw [same_refl] at hc34
      refine Calls.mono hc34 ?_
      rintro e v5 ⟨rfl, hB5⟩
      have hlV : v2.heap.size + 1 < V.heap.size := blk_lt t2
      have HV5 : Hid (Below wr.heap.size wr v5) := t1.trans (hB5.mono t1.size)
      have hb5 := (hB5.block _ hlV).trans t2
      have G5 := Lib.hid (t5.below hB5)
      have G6 := Lib.hid (t6.below hB5)
      have hl5 : v2.heap.size + 1 < v5.heap.size := blk_lt hb5
      clear hc34 hB5 t1 t2 t3 t4 t5 t6 hlen q0 q1 q2 q3 q4 q5 q6 z0 z1 z2 z3 z4 z5 z6 fz0 fz1 fz2 fz3 fz4 fz5 fz6 G1 G2 HA3 HB3 HV4 HB23
      have q0 := blk_cell hb5 0
      have q1 := blk_cell hb5 1
      have q2 := blk_cell hb5 2
      have q3 := blk_cell hb5 3
      have q4 := blk_cell hb5 4
      have q5 := blk_cell hb5 5
      have q6 := blk_cell hb5 6
      simp only [List.getElem?_toArray, List.getElem?_cons_succ, List.getElem?_cons_zero] at q0 q1 q2 q3 q4 q5 q6
      have HB5 := Lib.hid hb5
      clear hb5
      by_cases he : err = 0
      rotate_left
      · have he' : (err == 0) = false := by simpa using he
        go_wp2
        go_roundg (n - (k + 1))
        case measure => omega
        case rel => exact ⟨k + 1, st, A1, k1, B1, m1, by omega, by go_num, Nat.le_refl _, HOK.out, HBX.out.below HV5.out, HBr.out.trans (HV5.out.mono hsr)⟩
      subst he
      go_wp2_with fail
      refine Calls.mono (c17 v5.heap.size r.c A4 B4 r.live.length k4 r.quar.length m4 r.gi _ (hal_new rfl)) ?_
      rintro e v6 ⟨rfl, hB6⟩
      have hv56 : Below v5.heap.size v5 v6 := (below_alloc1 v5 _).trans (hB6.mono (by simp))
      have HV6 : Hid (Below wr.heap.size wr v6) := HV5.out.trans (hv56.mono HV5.out.size)
      have hb6 := (hv56.block _ hl5).trans HB5.out
      have hh6 := (HV6.out.block _ hltb).trans HBX.out.box
      have hs56 := hv56.size
      have G7 := Lib.hid (G5.out.below hv56)
      have G8 := Lib.hid (G6.out.below hv56)
      clear q0 q1 q2 q3 q4 q5 q6 hB6 hv56
      cases hmf : manyF r.live.length r.quar.length with
      | true =>
        clear hmf hb6 hh6
        go_wp2
        go_roundg (n - (k + 1))
        case measure => omega
        case rel => exact ⟨k + 1, st, A1, k1, B1, m1, by omega, by go_num, Nat.le_refl _, HOK.out, HBX.out.below HV6.out, HBr.out.trans (HV6.out.mono hsr)⟩
      | false =>
        clear hmf
        have q0 := blk_cell hb6 0
        have q1 := blk_cell hb6 1
        have q2 := blk_cell hb6 2
        have q3 := blk_cell hb6 3
        have q4 := blk_cell hb6 4
        have q5 := blk_cell hb6 5
        have q6 := blk_cell hb6 6
        simp only [List.getElem?_toArray, List.getElem?_cons_succ, List.getElem?_cons_zero] at q0 q1 q2 q3 q4 q5 q6
        have z0 := blk_cell hh6 0
        have fz0 : v6.frozen? ⟨w.heap.size, 0, none⟩ = false := frozen_of_row _ _ _ _ _ hh6
        have z1 := blk_cell hh6 1
        have fz1 : v6.frozen? ⟨w.heap.size, 1, none⟩ = false := frozen_of_row _ _ _ _ _ hh6
        have z2 := blk_cell hh6 2
        have fz2 : v6.frozen? ⟨w.heap.size, 2, none⟩ = false := frozen_of_row _ _ _ _ _ hh6
        have z3 := blk_cell hh6 3
        have fz3 : v6.frozen? ⟨w.heap.size, 3, none⟩ = false := frozen_of_row _ _ _ _ _ hh6
        have z4 := blk_cell hh6 4
        have fz4 : v6.frozen? ⟨w.heap.size, 4, none⟩ = false := frozen_of_row _ _ _ _ _ hh6
        have z5 := blk_cell hh6 5
        have fz5 : v6.frozen? ⟨w.heap.size, 5, none⟩ = false := frozen_of_row _ _ _ _ _ hh6
        have z6 := blk_cell hh6 6
        have fz6 : v6.frozen? ⟨w.heap.size, 6, none⟩ = false := frozen_of_row _ _ _ _ _ hh6
        simp only [List.getElem?_toArray, List.getElem?_cons_succ, List.getElem?_cons_zero] at z0 z1 z2 z3 z4 z5 z6
        have hst := store_st (g := none) hh6 (HBr.out.trans (HV6.out.mono hsr)) (Nat.le_refl _) G7.out G8.out (by have := HV2.out.size; omega) (fun q e => by cases e)
        have HST := Lib.hid hst
        have hlb6 : v2.heap.size + 1 < v6.heap.size := blk_lt hb6
        have hlh6 : w.heap.size < v6.heap.size := blk_lt hh6
        have hgood := does_good HD.out HOK.out.wl HOK.out.wq
        have HGR := Lib.hid hgood.2.2
        clear hb6 hh6 hst hgood
        go_wp2
        go_roundg (n - (k + 1))
        case measure => omega
        case rel => exact ⟨k + 1, r, A4, k4, B4, m4, by omega, by go_num, Nat.le_refl _, HGR.out, HST.out.2.1, HST.out.1⟩
    by_cases hk1 : o.kind = 1
    · rw [hk1] at p0
      go_wp2_with fail
      refine Calls.mono (c48 st.c _ _ st.gi st.live st.quar (targetF st.live o) _ (HBX.out.sl.below HV3.out) (HBX.out.sq.below HV3.out) HOK.out.wl HOK.out.wq) ?_
      rintro e v3 ⟨hB3, err', r', hal, A4, k4, B4, m4, rfl, g1, g2⟩
      obtain ⟨rfl, rfl, rfl⟩ := HD.out.one (show DoesP st.c st.gi st.live st.quar o err' 0 r' by unfold DoesP; rw [if_neg (by omega), if_pos hk1]; exact ⟨rfl, hal⟩)
      have ha3 : v3.heap[v2.heap.size]? = some (.cells #[.int .i64 r.c.page, .int .i64 r.c.n, .int .i64 r.c.red, .int .i64 r.c.quarantine, .slice A3 r.live.length k3, .slice B3 r.quar.length m3, .int .i64 r.gi] 26 (0, 0)) := (hB3.block _ (by simp; omega)).trans (hal_old (hal_new rfl))
      have hb3 : v3.heap[v2.heap.size + 1]? = some (.cells #[.int .i64 0, .int .i64 0, .int .i64 0, .int .i64 0, .slice none 0 0, .slice none 0 0, .int .i64 0] 26 (0, 0)) := (hB3.block _ (by simp)).trans (hal_new (by simp))
      have HV4 : Hid (Below wr.heap.size wr v3) := HV3.out.trans (hB3.mono HV3.out.size)
      have hs3 : v2.heap.size + 2 ≤ v3.heap.size := by have := hB3.size; simpa using this
      simp only [World.size_alloc] at g1 g2
      have G1 := Lib.hid g1
      have G2 := Lib.hid g2
      have HB23 : Hid (Below v2.heap.size v2 v3) := ((below_alloc1 v2 _).alloc (by simp) _).trans (hB3.mono (by simp; omega))
      clear hB3 hal g1 g2 q0 q1 q2 q3 q4 q5 q6 p0 p1 p2 p3 p4 hk1
      have q0 := blk_cell ha3 0
      have q1 := blk_cell ha3 1
      have q2 := blk_cell ha3 2
      have q3 := blk_cell ha3 3
      have q4 := blk_cell ha3 4
      have q5 := blk_cell ha3 5
      have q6 := blk_cell ha3 6
      simp only [List.getElem?_toArray, List.getElem?_cons_succ, List.getElem?_cons_zero] at q0 q1 q2 q3 q4 q5 q6
      have z0 := blk_cell hb3 0
      have fz0 : v3.frozen? ⟨v2.heap.size + 1, 0, none⟩ = false := frozen_of_row _ _ _ _ _ hb3
      have z1 := blk_cell hb3 1
      have fz1 : v3.frozen? ⟨v2.heap.size + 1, 1, none⟩ = false := frozen_of_row _ _ _ _ _ hb3
      have z2 := blk_cell hb3 2
      have fz2 : v3.frozen? ⟨v2.heap.size + 1, 2, none⟩ = false := frozen_of_row _ _ _ _ _ hb3
      have z3 := blk_cell hb3 3
      have fz3 : v3.frozen? ⟨v2.heap.size + 1, 3, none⟩ = false := frozen_of_row _ _ _ _ _ hb3
      have z4 := blk_cell hb3 4
      have fz4 : v3.frozen? ⟨v2.heap.size + 1, 4, none⟩ = false := frozen_of_row _ _ _ _ _ hb3
      have z5 := blk_cell hb3 5
      have fz5 : v3.frozen? ⟨v2.heap.size + 1, 5, none⟩ = false := frozen_of_row _ _ _ _ _ hb3
      have z6 := blk_cell hb3 6
      have fz6 : v3.frozen? ⟨v2.heap.size + 1, 6, none⟩ = false := frozen_of_row _ _ _ _ _ hb3
      simp only [List.getElem?_toArray, List.getElem?_cons_succ, List.getElem?_cons_zero] at z0 z1 z2 z3 z4 z5 z6
      have HA3 := Lib.hid ha3
      have HB3 := Lib.hid hb3
      have hl3 : v2.heap.size + 1 < v3.heap.size := blk_lt hb3
      have hl3a : v2.heap.size < v3.heap.size := blk_lt ha3
      clear ha3 hb3
      go_wp2_with fail
      refine gen_worldC (fun W => Below wr.heap.size wr W ∧ W.heap[v2.heap.size + 1]? = some (.cells #[.int .i64 r.c.page, .int .i64 r.c.n, .int .i64 r.c.red, .int .i64 r.c.quarantine, .slice A4 r.live.length k4, .slice B4 r.quar.length m4, .int .i64 r.gi] 26 (0, 0)) ∧ Sl 3 encP W (.slice A3 r.live.length k3) r.live ∧ Sl 3 encP W (.slice B3 r.quar.length m3) r.quar ∧ Fresh (v2.heap.size + 2) W (.slice A4 r.live.length k4) r.live ∧ Fresh (v2.heap.size + 2) W (.slice B4 r.quar.length m4) r.quar) ?_ ?_
      · have hkp : ∀ j, j ≠ v2.heap.size + 1 → (((((((v3.setCell ⟨v2.heap.size + 1, 0, none⟩ (.int .i64 r.c.page)).setCell ⟨v2.heap.size + 1, 1, none⟩ (.int .i64 r.c.n)).setCell ⟨v2.heap.size + 1, 2, none⟩ (.int .i64 r.c.red)).setCell ⟨v2.heap.size + 1, 3, none⟩ (.int .i64 r.c.quarantine)).setCell ⟨v2.heap.size + 1, 4, none⟩ (.slice A4 r.live.length k4)).setCell ⟨v2.heap.size + 1, 5, none⟩ (.slice B4 r.quar.length m4)).setCell ⟨v2.heap.size + 1, 6, none⟩ (.int .i64 r.gi)).heap[j]? = v3.heap[j]? := fun j hj => by
          repeat' first | refine Eq.trans (Below.heap_setCell _ _ _ _ hj) ?_ | rfl
        have hsz7 : (((((((v3.setCell ⟨v2.heap.size + 1, 0, none⟩ (.int .i64 r.c.page)).setCell ⟨v2.heap.size + 1, 1, none⟩ (.int .i64 r.c.n)).setCell ⟨v2.heap.size + 1, 2, none⟩ (.int .i64 r.c.red)).setCell ⟨v2.heap.size + 1, 3, none⟩ (.int .i64 r.c.quarantine)).setCell ⟨v2.heap.size + 1, 4, none⟩ (.slice A4 r.live.length k4)).setCell ⟨v2.heap.size + 1, 5, none⟩ (.slice B4 r.quar.length m4)).setCell ⟨v2.heap.size + 1, 6, none⟩ (.int .i64 r.gi)).heap.size = v3.heap.size := by simp [World.setCell]
        have e1 := row_setCell (o := 0) (.int .i64 r.c.page) HB3.out
        have e2 := row_setCell (o := 1) (.int .i64 r.c.n) e1
        have e3 := row_setCell (o := 2) (.int .i64 r.c.red) e2
        have e4 := row_setCell (o := 3) (.int .i64 r.c.quarantine) e3
        have e5 := row_setCell (o := 4) (.slice A4 r.live.length k4) e4
        have e6 := row_setCell (o := 5) (.slice B4 r.quar.length m4) e5
        have e7 := row_setCell (o := 6) (.int .i64 r.gi) e6
        simp only [List.setIfInBounds_toArray, List.set_cons_zero, List.set_cons_succ] at e7
        have hw : wr.heap.size ≤ v2.heap.size + 1 := by have := HV2.out.size; omega
        exact ⟨((((((HV4.out.setCell (p := ⟨v2.heap.size + 1, 0, none⟩) hw _).setCell (p := ⟨v2.heap.size + 1, 1, none⟩) hw _).setCell (p := ⟨v2.heap.size + 1, 2, none⟩) hw _).setCell (p := ⟨v2.heap.size + 1, 3, none⟩) hw _).setCell (p := ⟨v2.heap.size + 1, 4, none⟩) hw _).setCell (p := ⟨v2.heap.size + 1, 5, none⟩) hw _).setCell (p := ⟨v2.heap.size + 1, 6, none⟩) hw _,
          e7, sl_keepS (P := fun j => j ≠ v2.heap.size + 1) (F1.out.sl.below HB23.out) (by omega) (fun j _ hj => hkp j hj) (fun a e h => (sl_neS F1.out.sl (x := v2.heap.size + 1) (by omega) a e h).1), sl_keepS (P := fun j => j ≠ v2.heap.size + 1) (F2.out.sl.below HB23.out) (by omega) (fun j _ hj => hkp j hj) (fun a e h => (sl_neS F2.out.sl (x := v2.heap.size + 1) (by omega) a e h).1),
          G1.out.kept (by omega) (fun j _ hge => hkp j (by omega)), G2.out.kept (by omega) (fun j _ hge => hkp j (by omega))⟩
      rintro V ⟨t1, t2, t3, t4, t5, t6⟩
      have hlen := does_len HD.out HOK.out.wl HOK.out.wq
      have hc34 := c34 r.c r.c _ _ _ _ r.gi r.gi r.live r.quar r.live r.quar V t3 t4 t5.sl t6.sl hlen.1 hlen.2 hlen.1 hlen.2
      rw [same_refl] at hc34
      refine Calls.mono hc34 ?_
      rintro e v5 ⟨rfl, hB5⟩
      have hlV : v2.heap.size + 1 < V.heap.size := blk_lt t2
      have HV5 : Hid (Below wr.heap.size wr v5) := t1.trans (hB5.mono t1.size)
      have hb5 := (hB5.block _ hlV).trans t2
      have G5 := Lib.hid (t5.below hB5)
      have G6 := Lib.hid (t6.below hB5)
      have hl5 : v2.heap.size + 1 < v5.heap.size := blk_lt hb5
      clear hc34 hB5 t1 t2 t3 t4 t5 t6 hlen q0 q1 q2 q3 q4 q5 q6 z0 z1 z2 z3 z4 z5 z6 fz0 fz1 fz2 fz3 fz4 fz5 fz6 G1 G2 HA3 HB3 HV4 HB23
      have q0 := blk_cell hb5 0
      have q1 := blk_cell hb5 1
      have q2 := blk_cell hb5 2
      have q3 := blk_cell hb5 3
      have q4 := blk_cell hb5 4
      have q5 := blk_cell hb5 5
      have q6 := blk_cell hb5 6
      simp only [List.getElem?_toArray, List.getElem?_cons_succ, List.getElem?_cons_zero] at q0 q1 q2 q3 q4 q5 q6
      have HB5 := Lib.hid hb5
      clear hb5
      by_cases he : err = 0
      rotate_left
      · have he' : (err == 0) = false := by simpa using he
        go_wp2
        go_roundg (n - (k + 1))
        case measure => omega
        case rel => exact ⟨k + 1, st, A1, k1, B1, m1, by omega, by go_num, Nat.le_refl _, HOK.out, HBX.out.below HV5.out, HBr.out.trans (HV5.out.mono hsr)⟩
      subst he
      go_wp2_with fail
      refine Calls.mono (c17 v5.heap.size r.c A4 B4 r.live.length k4 r.quar.length m4 r.gi _ (hal_new rfl)) ?_
      rintro e v6 ⟨rfl, hB6⟩
      have hv56 : Below v5.heap.size v5 v6 := (below_alloc1 v5 _).trans (hB6.mono (by simp))
      have HV6 : Hid (Below wr.heap.size wr v6) := HV5.out.trans (hv56.mono HV5.out.size)
      have hb6 := (hv56.block _ hl5).trans HB5.out
      have hh6 := (HV6.out.block _ hltb).trans HBX.out.box
      have hs56 := hv56.size
      have G7 := Lib.hid (G5.out.below hv56)
      have G8 := Lib.hid (G6.out.below hv56)
      clear q0 q1 q2 q3 q4 q5 q6 hB6 hv56
      cases hmf : manyF r.live.length r.quar.length with
      | true =>
        clear hmf hb6 hh6
        go_wp2
        go_roundg (n - (k + 1))
        case measure => omega
        case rel => exact ⟨k + 1, st, A1, k1, B1, m1, by omega, by go_num, Nat.le_refl _, HOK.out, HBX.out.below HV6.out, HBr.out.trans (HV6.out.mono hsr)⟩
      | false =>
        clear hmf
        have q0 := blk_cell hb6 0
        have q1 := blk_cell hb6 1
        have q2 := blk_cell hb6 2
        have q3 := blk_cell hb6 3
        have q4 := blk_cell hb6 4
        have q5 := blk_cell hb6 5
        have q6 := blk_cell hb6 6
        simp only [List.getElem?_toArray, List.getElem?_cons_succ, List.getElem?_cons_zero] at q0 q1 q2 q3 q4 q5 q6
        have z0 := blk_cell hh6 0
        have fz0 : v6.frozen? ⟨w.heap.size, 0, none⟩ = false := frozen_of_row _ _ _ _ _ hh6
        have z1 := blk_cell hh6 1
        have fz1 : v6.frozen? ⟨w.heap.size, 1, none⟩ = false := frozen_of_row _ _ _ _ _ hh6
        have z2 := blk_cell hh6 2
        have fz2 : v6.frozen? ⟨w.heap.size, 2, none⟩ = false := frozen_of_row _ _ _ _ _ hh6
        have z3 := blk_cell hh6 3
        have fz3 : v6.frozen? ⟨w.heap.size, 3, none⟩ = false := frozen_of_row _ _ _ _ _ hh6
        have z4 := blk_cell hh6 4
        have fz4 : v6.frozen? ⟨w.heap.size, 4, none⟩ = false := frozen_of_row _ _ _ _ _ hh6
        have z5 := blk_cell hh6 5
        have fz5 : v6.frozen? ⟨w.heap.size, 5, none⟩ = false := frozen_of_row _ _ _ _ _ hh6
        have z6 := blk_cell hh6 6
        have fz6 : v6.frozen? ⟨w.heap.size, 6, none⟩ = false := frozen_of_row _ _ _ _ _ hh6
        simp only [List.getElem?_toArray, List.getElem?_cons_succ, List.getElem?_cons_zero] at z0 z1 z2 z3 z4 z5 z6
        have hst := store_st (g := none) hh6 (HBr.out.trans (HV6.out.mono hsr)) (Nat.le_refl _) G7.out G8.out (by have := HV2.out.size; omega) (fun q e => by cases e)
        have HST := Lib.hid hst
        have hlb6 : v2.heap.size + 1 < v6.heap.size := blk_lt hb6
        have hlh6 : w.heap.size < v6.heap.size := blk_lt hh6
        have hgood := does_good HD.out HOK.out.wl HOK.out.wq
        have HGR := Lib.hid hgood.2.2
        clear hb6 hh6 hst hgood
        go_wp2
        go_roundg (n - (k + 1))
        case measure => omega
        case rel => exact ⟨k + 1, r, A4, k4, B4, m4, by omega, by go_num, Nat.le_refl _, HGR.out, HST.out.2.1, HST.out.1⟩
    · have u0 : (o.kind == 0) = false := by simpa using hk0
      have u1 : (o.kind == 1) = false := by simpa using hk1
      go_wp2_with fail
      refine Calls.mono (c49 st.c _ _ st.gi st.live st.quar (targetF st.live o) o.n _ (HBX.out.sl.below HV3.out) (HBX.out.sq.below HV3.out) HOK.out.wl HOK.out.wq) ?_
      rintro e v3 ⟨hB3, err', at', r', hal, A4, k4, B4, m4, rfl, g1, g2⟩
      obtain ⟨rfl, rfl, rfl⟩ := HD.out.one (show DoesP st.c st.gi st.live st.quar o err' at' r' by unfold DoesP; rw [if_neg hk0, if_neg hk1]; exact hal)
      have ha3 : v3.heap[v2.heap.size]? = some (.cells #[.int .i64 r.c.page, .int .i64 r.c.n, .int .i64 r.c.red, .int .i64 r.c.quarantine, .slice A3 r.live.length k3, .slice B3 r.quar.length m3, .int .i64 r.gi] 26 (0, 0)) := (hB3.block _ (by simp; omega)).trans (hal_old (hal_new rfl))
      have hb3 : v3.heap[v2.heap.size + 1]? = some (.cells #[.int .i64 0, .int .i64 0, .int .i64 0, .int .i64 0, .slice none 0 0, .slice none 0 0, .int .i64 0] 26 (0, 0)) := (hB3.block _ (by simp)).trans (hal_new (by simp))
      have HV4 : Hid (Below wr.heap.size wr v3) := HV3.out.trans (hB3.mono HV3.out.size)
      have hs3 : v2.heap.size + 2 ≤ v3.heap.size := by have := hB3.size; simpa using this
      simp only [World.size_alloc] at g1 g2
      have G1 := Lib.hid g1
      have G2 := Lib.hid g2
      have HB23 : Hid (Below v2.heap.size v2 v3) := ((below_alloc1 v2 _).alloc (by simp) _).trans (hB3.mono (by simp; omega))
      clear hB3 hal g1 g2 q0 q1 q2 q3 q4 q5 q6 p0 p1 p2 p3 p4 hk0 hk1 u0 u1
      have q0 := blk_cell ha3 0
      have q1 := blk_cell ha3 1
      have q2 := blk_cell ha3 2
      have q3 := blk_cell ha3 3
      have q4 := blk_cell ha3 4
      have q5 := blk_cell ha3 5
      have q6 := blk_cell ha3 6
      simp only [List.getElem?_toArray, List.getElem?_cons_succ, List.getElem?_cons_zero] at q0 q1 q2 q3 q4 q5 q6
      have z0 := blk_cell hb3 0
      have fz0 : v3.frozen? ⟨v2.heap.size + 1, 0, none⟩ = false := frozen_of_row _ _ _ _ _ hb3
      have z1 := blk_cell hb3 1
      have fz1 : v3.frozen? ⟨v2.heap.size + 1, 1, none⟩ = false := frozen_of_row _ _ _ _ _ hb3
      have z2 := blk_cell hb3 2
      have fz2 : v3.frozen? ⟨v2.heap.size + 1, 2, none⟩ = false := frozen_of_row _ _ _ _ _ hb3
      have z3 := blk_cell hb3 3
      have fz3 : v3.frozen? ⟨v2.heap.size + 1, 3, none⟩ = false := frozen_of_row _ _ _ _ _ hb3
      have z4 := blk_cell hb3 4
      have fz4 : v3.frozen? ⟨v2.heap.size + 1, 4, none⟩ = false := frozen_of_row _ _ _ _ _ hb3
      have z5 := blk_cell hb3 5
      have fz5 : v3.frozen? ⟨v2.heap.size + 1, 5, none⟩ = false := frozen_of_row _ _ _ _ _ hb3
      have z6 := blk_cell hb3 6
      have fz6 : v3.frozen? ⟨v2.heap.size + 1, 6, none⟩ = false := frozen_of_row _ _ _ _ _ hb3
      simp only [List.getElem?_toArray, List.getElem?_cons_succ, List.getElem?_cons_zero] at z0 z1 z2 z3 z4 z5 z6
      have HA3 := Lib.hid ha3
      have HB3 := Lib.hid hb3
      have hl3 : v2.heap.size + 1 < v3.heap.size := blk_lt hb3
      have hl3a : v2.heap.size < v3.heap.size := blk_lt ha3
      clear ha3 hb3
      go_wp2_with fail
      refine gen_worldC (fun W => Below wr.heap.size wr W ∧ W.heap[v2.heap.size + 1]? = some (.cells #[.int .i64 r.c.page, .int .i64 r.c.n, .int .i64 r.c.red, .int .i64 r.c.quarantine, .slice A4 r.live.length k4, .slice B4 r.quar.length m4, .int .i64 r.gi] 26 (0, 0)) ∧ Sl 3 encP W (.slice A3 r.live.length k3) r.live ∧ Sl 3 encP W (.slice B3 r.quar.length m3) r.quar ∧ Fresh (v2.heap.size + 2) W (.slice A4 r.live.length k4) r.live ∧ Fresh (v2.heap.size + 2) W (.slice B4 r.quar.length m4) r.quar) ?_ ?_
      · have hkp : ∀ j, j ≠ v2.heap.size + 1 → (((((((v3.setCell ⟨v2.heap.size + 1, 0, none⟩ (.int .i64 r.c.page)).setCell ⟨v2.heap.size + 1, 1, none⟩ (.int .i64 r.c.n)).setCell ⟨v2.heap.size + 1, 2, none⟩ (.int .i64 r.c.red)).setCell ⟨v2.heap.size + 1, 3, none⟩ (.int .i64 r.c.quarantine)).setCell ⟨v2.heap.size + 1, 4, none⟩ (.slice A4 r.live.length k4)).setCell ⟨v2.heap.size + 1, 5, none⟩ (.slice B4 r.quar.length m4)).setCell ⟨v2.heap.size + 1, 6, none⟩ (.int .i64 r.gi)).heap[j]? = v3.heap[j]? := fun j hj => by
          repeat' first | refine Eq.trans (Below.heap_setCell _ _ _ _ hj) ?_ | rfl
        have hsz7 : (((((((v3.setCell ⟨v2.heap.size + 1, 0, none⟩ (.int .i64 r.c.page)).setCell ⟨v2.heap.size + 1, 1, none⟩ (.int .i64 r.c.n)).setCell ⟨v2.heap.size + 1, 2, none⟩ (.int .i64 r.c.red)).setCell ⟨v2.heap.size + 1, 3, none⟩ (.int .i64 r.c.quarantine)).setCell ⟨v2.heap.size + 1, 4, none⟩ (.slice A4 r.live.length k4)).setCell ⟨v2.heap.size + 1, 5, none⟩ (.slice B4 r.quar.length m4)).setCell ⟨v2.heap.size + 1, 6, none⟩ (.int .i64 r.gi)).heap.size = v3.heap.size := by simp [World.setCell]
        have e1 := row_setCell (o := 0) (.int .i64 r.c.page) HB3.out
        have e2 := row_setCell (o := 1) (.int .i64 r.c.n) e1
        have e3 := row_setCell (o := 2) (.int .i64 r.c.red) e2
        have e4 := row_setCell (o := 3) (.int .i64 r.c.quarantine) e3
        have e5 := row_setCell (o := 4) (.slice A4 r.live.length k4) e4
        have e6 := row_setCell (o := 5) (.slice B4 r.quar.length m4) e5
        have e7 := row_setCell (o := 6) (.int .i64 r.gi) e6
        simp only [List.setIfInBounds_toArray, List.set_cons_zero, List.set_cons_succ] at e7
        have hw : wr.heap.size ≤ v2.heap.size + 1 := by have := HV2.out.size; omega
        exact ⟨((((((HV4.out.setCell (p := ⟨v2.heap.size + 1, 0, none⟩) hw _).setCell (p := ⟨v2.heap.size + 1, 1, none⟩) hw _).setCell (p := ⟨v2.heap.size + 1, 2, none⟩) hw _).setCell (p := ⟨v2.heap.size + 1, 3, none⟩) hw _).setCell (p := ⟨v2.heap.size + 1, 4, none⟩) hw _).setCell (p := ⟨v2.heap.size + 1, 5, none⟩) hw _).setCell (p := ⟨v2.heap.size + 1, 6, none⟩) hw _,
          e7, sl_keepS (P := fun j => j ≠ v2.heap.size + 1) (F1.out.sl.below HB23.out) (by omega) (fun j _ hj => hkp j hj) (fun a e h => (sl_neS F1.out.sl (x := v2.heap.size + 1) (by omega) a e h).1), sl_keepS (P := fun j => j ≠ v2.heap.size + 1) (F2.out.sl.below HB23.out) (by omega) (fun j _ hj => hkp j hj) (fun a e h => (sl_neS F2.out.sl (x := v2.heap.size + 1) (by omega) a e h).1),
          G1.out.kept (by omega) (fun j _ hge => hkp j (by omega)), G2.out.kept (by omega) (fun j _ hge => hkp j (by omega))⟩
      rintro V ⟨t1, t2, t3, t4, t5, t6⟩
      have hlen := does_len HD.out HOK.out.wl HOK.out.wq
      have hc34 := c34 r.c r.c _ _ _ _ r.gi r.gi r.live r.quar r.live r.quar V t3 t4 t5.sl t6.sl hlen.1 hlen.2 hlen.1 hlen.2
      rw [same_refl] at hc34
      refine Calls.mono hc34 ?_
      rintro e v5 ⟨rfl, hB5⟩
      have hlV : v2.heap.size + 1 < V.heap.size := blk_lt t2
      have HV5 : Hid (Below wr.heap.size wr v5) := t1.trans (hB5.mono t1.size)
      have hb5 := (hB5.block _ hlV).trans t2
      have G5 := Lib.hid (t5.below hB5)
      have G6 := Lib.hid (t6.below hB5)
      have hl5 : v2.heap.size + 1 < v5.heap.size := blk_lt hb5
      clear hc34 hB5 t1 t2 t3 t4 t5 t6 hlen q0 q1 q2 q3 q4 q5 q6 z0 z1 z2 z3 z4 z5 z6 fz0 fz1 fz2 fz3 fz4 fz5 fz6 G1 G2 HA3 HB3 HV4 HB23
      have q0 := blk_cell hb5 0
      have q1 := blk_cell hb5 1
      have q2 := blk_cell hb5 2
      have q3 := blk_cell hb5 3
      have q4 := blk_cell hb5 4
      have q5 := blk_cell hb5 5
      have q6 := blk_cell hb5 6
      simp only [List.getElem?_toArray, List.getElem?_cons_succ, List.getElem?_cons_zero] at q0 q1 q2 q3 q4 q5 q6
      have HB5 := Lib.hid hb5
      clear hb5
      by_cases he : err = 0
      rotate_left
      · have he' : (err == 0) = false := by simpa using he
        go_wp2
        go_roundg (n - (k + 1))
        case measure => omega
        case rel => exact ⟨k + 1, st, A1, k1, B1, m1, by omega, by go_num, Nat.le_refl _, HOK.out, HBX.out.below HV5.out, HBr.out.trans (HV5.out.mono hsr)⟩
      subst he
      go_wp2_with fail
      refine Calls.mono (c17 v5.heap.size r.c A4 B4 r.live.length k4 r.quar.length m4 r.gi _ (hal_new rfl)) ?_
      rintro e v6 ⟨rfl, hB6⟩
      have hv56 : Below v5.heap.size v5 v6 := (below_alloc1 v5 _).trans (hB6.mono (by simp))
      have HV6 : Hid (Below wr.heap.size wr v6) := HV5.out.trans (hv56.mono HV5.out.size)
      have hb6 := (hv56.block _ hl5).trans HB5.out
      have hh6 := (HV6.out.block _ hltb).trans HBX.out.box
      have hs56 := hv56.size
      have G7 := Lib.hid (G5.out.below hv56)
      have G8 := Lib.hid (G6.out.below hv56)
      clear q0 q1 q2 q3 q4 q5 q6 hB6 hv56
      cases hmf : manyF r.live.length r.quar.length with
      | true =>
        clear hmf hb6 hh6
        go_wp2
        go_roundg (n - (k + 1))
        case measure => omega
        case rel => exact ⟨k + 1, st, A1, k1, B1, m1, by omega, by go_num, Nat.le_refl _, HOK.out, HBX.out.below HV6.out, HBr.out.trans (HV6.out.mono hsr)⟩
      | false =>
        clear hmf
        have q0 := blk_cell hb6 0
        have q1 := blk_cell hb6 1
        have q2 := blk_cell hb6 2
        have q3 := blk_cell hb6 3
        have q4 := blk_cell hb6 4
        have q5 := blk_cell hb6 5
        have q6 := blk_cell hb6 6
        simp only [List.getElem?_toArray, List.getElem?_cons_succ, List.getElem?_cons_zero] at q0 q1 q2 q3 q4 q5 q6
        have z0 := blk_cell hh6 0
        have fz0 : v6.frozen? ⟨w.heap.size, 0, none⟩ = false := frozen_of_row _ _ _ _ _ hh6
        have z1 := blk_cell hh6 1
        have fz1 : v6.frozen? ⟨w.heap.size, 1, none⟩ = false := frozen_of_row _ _ _ _ _ hh6
        have z2 := blk_cell hh6 2
        have fz2 : v6.frozen? ⟨w.heap.size, 2, none⟩ = false := frozen_of_row _ _ _ _ _ hh6
        have z3 := blk_cell hh6 3
        have fz3 : v6.frozen? ⟨w.heap.size, 3, none⟩ = false := frozen_of_row _ _ _ _ _ hh6
        have z4 := blk_cell hh6 4
        have fz4 : v6.frozen? ⟨w.heap.size, 4, none⟩ = false := frozen_of_row _ _ _ _ _ hh6
        have z5 := blk_cell hh6 5
        have fz5 : v6.frozen? ⟨w.heap.size, 5, none⟩ = false := frozen_of_row _ _ _ _ _ hh6
        have z6 := blk_cell hh6 6
        have fz6 : v6.frozen? ⟨w.heap.size, 6, none⟩ = false := frozen_of_row _ _ _ _ _ hh6
        simp only [List.getElem?_toArray, List.getElem?_cons_succ, List.getElem?_cons_zero] at z0 z1 z2 z3 z4 z5 z6
        have hst := store_st (g := none) hh6 (HBr.out.trans (HV6.out.mono hsr)) (Nat.le_refl _) G7.out G8.out (by have := HV2.out.size; omega) (fun q e => by cases e)
        have HST := Lib.hid hst
        have hlb6 : v2.heap.size + 1 < v6.heap.size := blk_lt hb6
        have hlh6 : w.heap.size < v6.heap.size := blk_lt hh6
        have hgood := does_good HD.out HOK.out.wl HOK.out.wq
        have HGR := Lib.hid hgood.2.2
        clear hb6 hh6 hst hgood
        go_wp2
        go_roundg (n - (k + 1))
        case measure => omega
        case rel => exact ⟨k + 1, r, A4, k4, B4, m4, by omega, by go_num, Nat.le_refl _, HGR.out, HST.out.2.1, HST.out.1⟩
end Go.Proofs.Ytbhbjcgbhklieaa
