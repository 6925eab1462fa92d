/- played: the walk. -/
import Derived.Test.YtbhbjcgbhklieaaS3
namespace Go.Proofs.Ytbhbjcgbhklieaa
open Go.RowKit Go.Shelf
theorem sl_atS {α : Type} [Inhabited α] {k : Nat} {enc : α → List Value} {w : World} {A : Option Addr} {n c : Nat} {zs : List α} (h : Sl k enc w (.slice A n c) zs) {j : Nat} (hj : j < zs.length) : ∃ b off, A = some ⟨b, off, none⟩ ∧ Lies k enc w b off zs := by
  obtain ⟨A', c', e, _, h0 | ⟨b, off, rfl, hl⟩⟩ := h
  · subst h0; simp at hj
  · cases e; exact ⟨b, off, rfl, hl⟩

set_option maxRecDepth 100000 in
set_option maxHeartbeats 4000000 in
theorem c50 (st0 : HRes) (A0 : Option Addr) (k0 : Nat) (B0 : Option Addr) (m0 : Nat) (ov : Value) (ops : List OpV) (w : World) (hl : Sl 3 encP w (.slice A0 st0.live.length k0) st0.live) (hq : Sl 3 encP w (.slice B0 st0.quar.length m0) st0.quar) (sl : SlShape (.slice A0 st0.live.length k0)) (sq : SlShape (.slice B0 st0.quar.length m0)) (hok : StOk st0) (ho : Sl 5 encO w ov ops) (hn : ops.length ≤ 60) :
    Calls Try.prog 50 #[.agg #[.int .i64 st0.c.page, .int .i64 st0.c.n, .int .i64 st0.c.red, .int .i64 st0.c.quarantine, .slice A0 st0.live.length k0, .slice B0 st0.quar.length m0, .int .i64 st0.gi], ov] w fun e w' => Below w.heap.size w w' ∧ ∃ st outs A k B m C j, PlaySt st0 ops st outs ∧ outs.length = ops.length ∧ e = .returned (.tuple #[.agg #[.int .i64 st.c.page, .int .i64 st.c.n, .int .i64 st.c.red, .int .i64 st.c.quarantine, .slice A st.live.length k, .slice B st.quar.length m, .int .i64 st.gi], .slice C outs.length j]) ∧ Sl 3 encP w' (.slice A st.live.length k) st.live ∧ Sl 3 encP w' (.slice B st.quar.length m) st.quar ∧ SlShape (.slice A st.live.length k) ∧ SlShape (.slice B st.quar.length m) ∧ Sl 1 encU w' (.slice C outs.length j) outs ∧ ∀ x, x < w.heap.size → AvoidS x st0 A0 B0 → AvoidS x st A B := by
  have HOK := Lib.hid hok
  have HO := Lib.hid ho
  have HL := Lib.hid hl
  have HQ := Lib.hid hq
  have HSL := Lib.hid sl
  have HSQ := Lib.hid sq
  obtain ⟨PA, pc, rfl, _, _⟩ := id ho
  obtain ⟨n, hnn⟩ : ∃ n, ops.length = n := ⟨_, rfl⟩
  rw [hnn] at hn HO ⊢
  have HN := Lib.hid hnn
  clear hl hq sl sq hok ho hnn
  have hbel : Below w.heap.size w ((w.alloc (.cells #[.int .i64 st0.c.page, .int .i64 st0.c.n, .int .i64 st0.c.red, .int .i64 st0.c.quarantine, .slice A0 st0.live.length k0, .slice B0 st0.quar.length m0, .int .i64 st0.gi] 26)).alloc (.cells #[.int .i64 0, .int .i64 0, .int .i64 0, .int .i64 0, .slice none 0 0, .slice none 0 0, .int .i64 0] 26)) := (below_alloc1 w _).alloc (by simp) _
  have hbs : BoxS ((w.alloc (.cells #[.int .i64 st0.c.page, .int .i64 st0.c.n, .int .i64 st0.c.red, .int .i64 st0.c.quarantine, .slice A0 st0.live.length k0, .slice B0 st0.quar.length m0, .int .i64 st0.gi] 26)).alloc (.cells #[.int .i64 0, .int .i64 0, .int .i64 0, .int .i64 0, .slice none 0 0, .slice none 0 0, .int .i64 0] 26)) w.heap.size none st0 A0 k0 B0 m0 := ⟨hal_old (hal_new rfl), HL.out.below hbel, HQ.out.below hbel, HSL.out, HSQ.out, sl_neS HL.out (Nat.le_refl _), sl_neS HQ.out (Nat.le_refl _), fun a e e' => (sl_neS HL.out (Nat.le_succ _) a e e').1, fun a e e' => (sl_neS HQ.out (Nat.le_succ _) a e e').1⟩
  have HBEL := Lib.hid hbel
  have HBS := Lib.hid hbs
  clear hbel hbs
  go_enter Try.func50, Try.ntmps50
  go_wp2
  go_loopg [6, 14] n (fun kx s6 s14 wr => ∃ (k : Nat) (st : HRes) (outs : List Int) (A1 : Option Addr) (k1 : Nat) (B1 : Option Addr) (m1 : Nat) (AS : Option Addr) (kS : Nat), k ≤ n ∧ s14 = .int .i64 k ∧ s6 = .slice AS outs.length kS ∧ n - k ≤ kx ∧ Hid (outs.length = k) ∧ Hid (PlaySt st0 (ops.take k) st outs) ∧ Hid (BoxS wr w.heap.size (Value.slice AS outs.length kS).ownBlock st A1 k1 B1 m1) ∧ Hid (wr.heap[w.heap.size + 1]? = some (.cells #[.int .i64 0, .int .i64 0, .int .i64 0, .int .i64 0, .slice none 0 0, .slice none 0 0, .int .i64 0] 26 (0, 0))) ∧ Hid (wr.ownsRow (w.heap.size + 2) 27 1 (.slice AS outs.length kS) outs.length (outs.flatMap encU)) ∧ Hid (Below w.heap.size w wr) ∧ Hid (∀ x, x < w.heap.size → AvoidS x st0 A0 B0 → AvoidS x st A1 B1))
  case atStart => exact ⟨0, st0, [], A0, k0, B0, m0, none, 0, Nat.zero_le _, rfl, rfl, by omega, rfl, PlaySt.nil, HBS.out, hal_new (by simp), World.ownsRow_nil _ _ _ _, HBEL.out, fun _ _ h => h⟩
  case round =>
    obtain ⟨k, st, outs, A1, k1, B1, m1, AS, kS, hk, rfl, rfl, hkx, hlo, HPL, HBX, HRES, HOWN, HBr, HAV⟩ := hrel
    have hsr := HBr.out.size
    have hltb : w.heap.size < wr.heap.size := blk_lt HBX.out.box
    have hltr : w.heap.size + 1 < wr.heap.size := blk_lt HRES.out
    by_cases hlt : k < n
    · have hkl : k < ops.length := by rw [HN.out]; exact hlt
      obtain ⟨pb, poff, rfl, hPL⟩ := sl_atS (HO.out.below HBr.out) hkl
      have hol : outs.length ≤ 60 := by rw [hlo.out]; omega
      have pc0 := hPL.2 k hkl 0 _ rfl
      have pc1 := hPL.2 k hkl 1 _ rfl
      have pc2 := hPL.2 k hkl 2 _ rfl
      have pc3 := hPL.2 k hkl 3 _ rfl
      have pc4 := hPL.2 k hkl 4 _ rfl
      simp only [Nat.add_zero] at pc0
      have hpb : pb < wr.heap.size := hPL.1
      have hsn : ops.take (k + 1) = ops.take k ++ [ops[k]!] := by rw [List.take_succ_eq_append_getElem hkl, getElem!_pos ops k hkl]
      generalize ops[k]! = o at pc0 pc1 pc2 pc3 pc4 hsn
      have HSN := Lib.hid hsn
      have hokst := HPL.out.ok HOK.out
      have hbx := HBX.out.box
      have q0 := blk_cell hbx 0
      have q1 := blk_cell hbx 1
      have q2 := blk_cell hbx 2
      have q3 := blk_cell hbx 3
      have q4 := blk_cell hbx 4
      have q5 := blk_cell hbx 5
      have q6 := blk_cell hbx 6
      simp only [List.getElem?_toArray, List.getElem?_cons_succ, List.getElem?_cons_zero] at q0 q1 q2 q3 q4 q5 q6
      have hcall := c46 st.c _ _ st.gi st.live st.quar o (wr.alloc (.cells #[.int .i64 o.kind, .int .i64 o.n, .int .i64 o.i, .int .u32 o.pos, .bool o.wild] 29)) (HBX.out.sl.below (below_alloc1 wr _)) (HBX.out.sq.below (below_alloc1 wr _)) hokst.wl hokst.wq HBX.out.sh1 HBX.out.sh2 hokst.n1
      have HCALL := Lib.hid hcall
      clear hcall hPL hkl hsn hbx hokst
      go_wp2_with fail
      refine Calls.mono HCALL.out ?_
      clear HCALL
      rintro e v1 ⟨hB1, err, at_, r, hd, A3, k3, B3, m3, rfl, f1, f2⟩
      have HV1 : Hid (Below wr.heap.size wr v1) := (below_alloc1 wr _).trans (hB1.mono (by simp))
      have HD := Lib.hid hd
      simp only [World.size_alloc] at f1 f2
      have F1 := Lib.hid (f1.base (Nat.le_succ _))
      have F2 := Lib.hid (f2.base (Nat.le_succ _))
      have hltv : w.heap.size + 1 < v1.heap.size := Nat.lt_of_lt_of_le hltr HV1.out.size
      have hltv0 : w.heap.size < v1.heap.size := by omega
      have hrp : PlaySt st0 (ops.take (k + 1)) (nxt st err r) (outs ++ [at_]) := by rw [HSN.out]; exact HPL.out.snoc HD.out
      have HRP := Lib.hid hrp
      clear hB1 hd f1 f2 pc0 pc1 pc2 pc3 pc4 hrp q0 q1 q2 q3 q4 q5 q6
      by_cases he : err = 0
      rotate_left
      · have he' : (err == 0) = false := by simpa using he
        have hnx : nxt st err r = st := if_neg (fun h => he h.1)
        have HNX := Lib.hid hnx
        have HVV : Hid (Below wr.heap.size wr (v1.alloc (.cells #[.int .i64 r.c.page, .int .i64 r.c.n, .int .i64 r.c.red, .int .i64 r.c.quarantine, .slice A3 r.live.length k3, .slice B3 r.quar.length m3, .int .i64 r.gi] 26))) := HV1.out.alloc HV1.out.size _
        clear hnx
        have hown3 := own_belowU HOWN.out (HVV.out)
        have hbx3 := HBX.out.below HVV.out
        have hpre := HVV.out
        have hszV : wr.heap.size ≤ (v1.alloc (.cells #[.int .i64 r.c.page, .int .i64 r.c.n, .int .i64 r.c.red, .int .i64 r.c.quarantine, .slice A3 r.live.length k3, .slice B3 r.quar.length m3, .int .i64 r.gi] 26)).heap.size := hpre.size
        obtain ⟨v5, w5, hrun, ho5, hg5, hat5⟩ := append_one27 (w.heap.size + 2) (.slice AS outs.length kS) outs at_ (v1.heap.size + 1) ((v1.alloc (.cells #[.int .i64 r.c.page, .int .i64 r.c.n, .int .i64 r.c.red, .int .i64 r.c.quarantine, .slice A3 r.live.length k3, .slice B3 r.quar.length m3, .int .i64 r.gi] 26)).alloc (.cells #[.int .u32 at_] 27)) (hown3.alloc _) (hal_new (by simp)) (by omega) (by first | omega | (simp at hszV ⊢; omega) | (simp; omega))
        have hgl : ∀ j, (Value.slice AS outs.length kS).ownBlock = some j → w.heap.size + 2 ≤ j := fun j e => (own_lt hown3 j e).1
        have hb5 : Below (w.heap.size + 2) (v1.alloc (.cells #[.int .i64 r.c.page, .int .i64 r.c.n, .int .i64 r.c.red, .int .i64 r.c.quarantine, .slice A3 r.live.length k3, .slice B3 r.quar.length m3, .int .i64 r.gi] 26)) w5 := ((Below.refl _ _).alloc (by first | omega | (simp at hszV ⊢; omega) | (simp; omega)) _).trans (below_of_grown hg5 (by first | omega | (simp at hszV ⊢; omega) | (simp; omega)) hgl)
        have hbx5 := hbx3.append hg5 (fun e => by have := hgl _ e.symm; omega) hat5
        have hres5 := (hb5.block (w.heap.size + 1) (by omega)).trans ((HVV.out.block _ hltr).trans HRES.out)
        obtain ⟨A5, n5, k5, e5⟩ : ∃ A n k, v5 = .slice A n k := by obtain ⟨A, c', h, _⟩ := slU_of_own ho5; exact ⟨A, _, c', h⟩
        subst e5
        obtain rfl : n5 = (outs ++ [at_]).length := by obtain ⟨A, c', h, _⟩ := slU_of_own ho5; cases h; rfl
        have HO5 := Lib.hid ho5
        have HBX5 := Lib.hid hbx5
        have HRES5 := Lib.hid hres5
        have HBW5 : Hid (Below w.heap.size w w5) := (HBr.out.trans (hpre.mono hsr)).trans (hb5.mono (by omega))
        clear hown3 hbx3 hpre hszV ho5 hg5 hat5 hgl hb5 hbx5 hres5
        go_wp2_with ((at_builtin; refine Lib.wpList_append_run _ rfl _ _ _ _ rfl _ _ rfl rfl _ _ hrun ?_))
        go_roundg (n - (k + 1))
        case measure => omega
        case rel => exact ⟨k + 1, st, outs ++ [at_], A1, k1, B1, m1, A5, k5, by omega, by go_num, (by simp), Nat.le_refl _, (by rw [List.length_append, hlo.out]; rfl : (outs ++ [at_]).length = k + 1), (by have h := HRP.out; rw [HNX.out] at h; exact h), HBX5.out, HRES5.out, HO5.out, HBW5.out, HAV.out⟩
      subst he
      go_wp2_with fail
      refine Calls.mono (c17 (v1.heap.size + 1) r.c A3 B3 r.live.length k3 r.quar.length m3 r.gi _ (hal_new (by simp))) ?_
      rintro e v2 ⟨rfl, hB2⟩
      have HV2 : Hid (Below wr.heap.size wr v2) := ((HV1.out.alloc HV1.out.size _).alloc (by have := HV1.out.size; simp; omega) _).trans (hB2.mono (by have := HV1.out.size; simp; omega))
      have hb9 : v2.heap[v1.heap.size]? = some (.cells #[.int .i64 r.c.page, .int .i64 r.c.n, .int .i64 r.c.red, .int .i64 r.c.quarantine, .slice A3 r.live.length k3, .slice B3 r.quar.length m3, .int .i64 r.gi] 26 (0, 0)) := (hB2.block _ (by simp; omega)).trans (hal_old (hal_new rfl))
      have hv12 : Below v1.heap.size v1 v2 := ((below_alloc1 v1 _).alloc (by simp) _).trans (hB2.mono (by simp; omega))
      have HV12 := Lib.hid hv12
      have hltv2 : w.heap.size < v2.heap.size := Nat.lt_of_lt_of_le hltb HV2.out.size
      have hlt92 : v1.heap.size < v2.heap.size := blk_lt hb9
      cases hmf : manyF r.live.length r.quar.length with
      | true =>
        have hnx : nxt st 0 r = st := if_neg (fun h => by rw [hmf] at h; cases h.2)
        have HNX := Lib.hid hnx
        clear hnx hB2 hb9 hv12 hmf
        have hown3 := own_belowU HOWN.out (HV2.out)
        have hbx3 := HBX.out.below HV2.out
        have hpre := HV2.out
        have hszV : wr.heap.size ≤ (v2).heap.size := hpre.size
        obtain ⟨v5, w5, hrun, ho5, hg5, hat5⟩ := append_one27 (w.heap.size + 2) (.slice AS outs.length kS) outs at_ (v2.heap.size) ((v2).alloc (.cells #[.int .u32 at_] 27)) (hown3.alloc _) (hal_new (rfl)) (by omega) (by first | omega | (simp at hszV ⊢; omega) | (simp; omega))
        have hgl : ∀ j, (Value.slice AS outs.length kS).ownBlock = some j → w.heap.size + 2 ≤ j := fun j e => (own_lt hown3 j e).1
        have hb5 : Below (w.heap.size + 2) (v2) w5 := ((Below.refl _ _).alloc (by first | omega | (simp at hszV ⊢; omega) | (simp; omega)) _).trans (below_of_grown hg5 (by first | omega | (simp at hszV ⊢; omega) | (simp; omega)) hgl)
        have hbx5 := hbx3.append hg5 (fun e => by have := hgl _ e.symm; omega) hat5
        have hres5 := (hb5.block (w.heap.size + 1) (by omega)).trans ((HV2.out.block _ hltr).trans HRES.out)
        obtain ⟨A5, n5, k5, e5⟩ : ∃ A n k, v5 = .slice A n k := by obtain ⟨A, c', h, _⟩ := slU_of_own ho5; exact ⟨A, _, c', h⟩
        subst e5
        obtain rfl : n5 = (outs ++ [at_]).length := by obtain ⟨A, c', h, _⟩ := slU_of_own ho5; cases h; rfl
        have HO5 := Lib.hid ho5
        have HBX5 := Lib.hid hbx5
        have HRES5 := Lib.hid hres5
        have HBW5 : Hid (Below w.heap.size w w5) := (HBr.out.trans (hpre.mono hsr)).trans (hb5.mono (by omega))
        clear hown3 hbx3 hpre hszV ho5 hg5 hat5 hgl hb5 hbx5 hres5
        go_wp2_with ((at_builtin; refine Lib.wpList_append_run _ rfl _ _ _ _ rfl _ _ rfl rfl _ _ hrun ?_))
        go_roundg (n - (k + 1))
        case measure => omega
        case rel => exact ⟨k + 1, st, outs ++ [at_], A1, k1, B1, m1, A5, k5, by omega, by go_num, (by simp), Nat.le_refl _, (by rw [List.length_append, hlo.out]; rfl : (outs ++ [at_]).length = k + 1), (by have h := HRP.out; rw [HNX.out] at h; exact h), HBX5.out, HRES5.out, HO5.out, HBW5.out, HAV.out⟩
      | false =>
        have hnx : nxt st 0 r = r := if_pos ⟨rfl, hmf⟩
        have HNX := Lib.hid hnx
        have hbx2 := (HBX.out.below HV2.out).box
        have q0 := blk_cell hbx2 0
        have fq0 : v2.frozen? ⟨w.heap.size, 0, none⟩ = false := frozen_of_row _ _ _ _ _ hbx2
        have q1 := blk_cell hbx2 1
        have fq1 : v2.frozen? ⟨w.heap.size, 1, none⟩ = false := frozen_of_row _ _ _ _ _ hbx2
        have q2 := blk_cell hbx2 2
        have fq2 : v2.frozen? ⟨w.heap.size, 2, none⟩ = false := frozen_of_row _ _ _ _ _ hbx2
        have q3 := blk_cell hbx2 3
        have fq3 : v2.frozen? ⟨w.heap.size, 3, none⟩ = false := frozen_of_row _ _ _ _ _ hbx2
        have q4 := blk_cell hbx2 4
        have fq4 : v2.frozen? ⟨w.heap.size, 4, none⟩ = false := frozen_of_row _ _ _ _ _ hbx2
        have q5 := blk_cell hbx2 5
        have fq5 : v2.frozen? ⟨w.heap.size, 5, none⟩ = false := frozen_of_row _ _ _ _ _ hbx2
        have q6 := blk_cell hbx2 6
        have fq6 : v2.frozen? ⟨w.heap.size, 6, none⟩ = false := frozen_of_row _ _ _ _ _ hbx2
        simp only [List.getElem?_toArray, List.getElem?_cons_succ, List.getElem?_cons_zero] at q0 q1 q2 q3 q4 q5 q6
        have p0 := blk_cell hb9 0
        have p1 := blk_cell hb9 1
        have p2 := blk_cell hb9 2
        have p3 := blk_cell hb9 3
        have p4 := blk_cell hb9 4
        have p5 := blk_cell hb9 5
        have p6 := blk_cell hb9 6
        simp only [List.getElem?_toArray, List.getElem?_cons_succ, List.getElem?_cons_zero] at p0 p1 p2 p3 p4 p5 p6
        have HBX2 := Lib.hid hbx2
        have hst := store_st HBX2.out (HBr.out.trans (HV2.out.mono hsr)) (Nat.le_refl _) (F1.out.below HV12.out) (F2.out.below HV12.out) (by omega) (g := (Value.slice AS outs.length kS).ownBlock) (fun q e => (own_lt HOWN.out q e.symm.symm).2)
        obtain ⟨hs1, hs2, hs3, hs4⟩ := hst
        have HS1 := Lib.hid hs1
        have HS2 := Lib.hid hs2
        have HS3 := Lib.hid hs3
        have HS4 := Lib.hid hs4
        have hresS := (HS4.out (w.heap.size + 1) (by omega)).trans ((HV2.out.block _ hltr).trans HRES.out)
        have hownS := own_keepS (z := w.heap.size) (own_belowU HOWN.out HV2.out) (by omega) (fun j _ hj => HS4.out j hj)
        have HRES2 := Lib.hid hresS
        have HOWN2 := Lib.hid hownS
        clear hnx hB2 hb9 hv12 hmf hbx2 hs1 hs2 hs3 hs4 hresS hownS
        have hown3 := HOWN2.out
        have hbx3 := HS2.out
        have hszV : wr.heap.size ≤ ((((((((v2.setCell ⟨w.heap.size, 0, none⟩ (.int .i64 r.c.page)).setCell ⟨w.heap.size, 1, none⟩ (.int .i64 r.c.n)).setCell ⟨w.heap.size, 2, none⟩ (.int .i64 r.c.red)).setCell ⟨w.heap.size, 3, none⟩ (.int .i64 r.c.quarantine)).setCell ⟨w.heap.size, 4, none⟩ (.slice A3 r.live.length k3)).setCell ⟨w.heap.size, 5, none⟩ (.slice B3 r.quar.length m3)).setCell ⟨w.heap.size, 6, none⟩ (.int .i64 r.gi))).heap.size := by rw [HS3.out]; exact HV2.out.size
        obtain ⟨v5, w5, hrun, ho5, hg5, hat5⟩ := append_one27 (w.heap.size + 2) (.slice AS outs.length kS) outs at_ (v2.heap.size) (((((((((v2.setCell ⟨w.heap.size, 0, none⟩ (.int .i64 r.c.page)).setCell ⟨w.heap.size, 1, none⟩ (.int .i64 r.c.n)).setCell ⟨w.heap.size, 2, none⟩ (.int .i64 r.c.red)).setCell ⟨w.heap.size, 3, none⟩ (.int .i64 r.c.quarantine)).setCell ⟨w.heap.size, 4, none⟩ (.slice A3 r.live.length k3)).setCell ⟨w.heap.size, 5, none⟩ (.slice B3 r.quar.length m3)).setCell ⟨w.heap.size, 6, none⟩ (.int .i64 r.gi))).alloc (.cells #[.int .u32 at_] 27)) (hown3.alloc _) (hal_new (HS3.out.symm)) (by omega) (by first | omega | (simp at hszV ⊢; omega) | (simp; omega))
        have hgl : ∀ j, (Value.slice AS outs.length kS).ownBlock = some j → w.heap.size + 2 ≤ j := fun j e => (own_lt hown3 j e).1
        have hb5 : Below (w.heap.size + 2) ((((((((v2.setCell ⟨w.heap.size, 0, none⟩ (.int .i64 r.c.page)).setCell ⟨w.heap.size, 1, none⟩ (.int .i64 r.c.n)).setCell ⟨w.heap.size, 2, none⟩ (.int .i64 r.c.red)).setCell ⟨w.heap.size, 3, none⟩ (.int .i64 r.c.quarantine)).setCell ⟨w.heap.size, 4, none⟩ (.slice A3 r.live.length k3)).setCell ⟨w.heap.size, 5, none⟩ (.slice B3 r.quar.length m3)).setCell ⟨w.heap.size, 6, none⟩ (.int .i64 r.gi))) w5 := ((Below.refl _ _).alloc (by first | omega | (simp at hszV ⊢; omega) | (simp; omega)) _).trans (below_of_grown hg5 (by first | omega | (simp at hszV ⊢; omega) | (simp; omega)) hgl)
        have hbx5 := hbx3.append hg5 (fun e => by have := hgl _ e.symm; omega) hat5
        have hres5 := (hb5.block (w.heap.size + 1) (by omega)).trans (HRES2.out)
        obtain ⟨A5, n5, k5, e5⟩ : ∃ A n k, v5 = .slice A n k := by obtain ⟨A, c', h, _⟩ := slU_of_own ho5; exact ⟨A, _, c', h⟩
        subst e5
        obtain rfl : n5 = (outs ++ [at_]).length := by obtain ⟨A, c', h, _⟩ := slU_of_own ho5; cases h; rfl
        have HO5 := Lib.hid ho5
        have HBX5 := Lib.hid hbx5
        have HRES5 := Lib.hid hres5
        have HBW5 : Hid (Below w.heap.size w w5) := HS1.out.trans (hb5.mono (by omega))
        clear hown3 hbx3  hszV ho5 hg5 hat5 hgl hb5 hbx5 hres5
        go_wp2_with ((at_builtin; refine Lib.wpList_append_run _ rfl _ _ _ _ rfl _ _ rfl rfl _ _ hrun ?_))
        go_roundg (n - (k + 1))
        case measure => omega
        case rel => exact ⟨k + 1, r, outs ++ [at_], A3, k3, B3, m3, A5, k5, by omega, by go_num, (by simp), Nat.le_refl _, (by rw [List.length_append, hlo.out]; rfl : (outs ++ [at_]).length = k + 1), (by have h := HRP.out; rw [HNX.out] at h; exact h), HBX5.out, HRES5.out, HO5.out, HBW5.out, fun x hx _ => avoid_fresh F1.out F2.out (by omega)⟩
    · obtain rfl : k = n := by omega
      clear hlt
      have htk : ops.take k = ops := by rw [← HN.out, List.take_length]
      have hbx := HBX.out.box
      have hre := HRES.out
      have q0 := blk_cell hbx 0
      have q1 := blk_cell hbx 1
      have q2 := blk_cell hbx 2
      have q3 := blk_cell hbx 3
      have q4 := blk_cell hbx 4
      have q5 := blk_cell hbx 5
      have q6 := blk_cell hbx 6
      simp only [List.getElem?_toArray, List.getElem?_cons_succ, List.getElem?_cons_zero] at q0 q1 q2 q3 q4 q5 q6
      have z0 := blk_cell hre 0
      have fz0 : wr.frozen? ⟨w.heap.size + 1, 0, none⟩ = false := frozen_of_row _ _ _ _ _ hre
      have z1 := blk_cell hre 1
      have fz1 : wr.frozen? ⟨w.heap.size + 1, 1, none⟩ = false := frozen_of_row _ _ _ _ _ hre
      have z2 := blk_cell hre 2
      have fz2 : wr.frozen? ⟨w.heap.size + 1, 2, none⟩ = false := frozen_of_row _ _ _ _ _ hre
      have z3 := blk_cell hre 3
      have fz3 : wr.frozen? ⟨w.heap.size + 1, 3, none⟩ = false := frozen_of_row _ _ _ _ _ hre
      have z4 := blk_cell hre 4
      have fz4 : wr.frozen? ⟨w.heap.size + 1, 4, none⟩ = false := frozen_of_row _ _ _ _ _ hre
      have z5 := blk_cell hre 5
      have fz5 : wr.frozen? ⟨w.heap.size + 1, 5, none⟩ = false := frozen_of_row _ _ _ _ _ hre
      have z6 := blk_cell hre 6
      have fz6 : wr.frozen? ⟨w.heap.size + 1, 6, none⟩ = false := frozen_of_row _ _ _ _ _ hre
      simp only [List.getElem?_toArray, List.getElem?_cons_succ, List.getElem?_cons_zero] at z0 z1 z2 z3 z4 z5 z6
      have HHRE := Lib.hid hre
      rw [htk] at HPL
      clear hbx hre htk
      go_wp2
      refine gen_worldB (fun W => Below w.heap.size w W ∧ W.heap[w.heap.size + 1]? = some (.cells #[.int .i64 st.c.page, .int .i64 st.c.n, .int .i64 st.c.red, .int .i64 st.c.quarantine, .slice A1 st.live.length k1, .slice B1 st.quar.length m1, .int .i64 st.gi] 26 (0, 0)) ∧ wr.heap.size ≤ W.heap.size ∧ (∀ k, k < wr.heap.size → k ≠ w.heap.size + 1 → W.heap[k]? = wr.heap[k]?)) ⟨?_, ?_, by simp [World.setCell], fun k hk hne => ?_⟩ ?_
      · repeat' first | refine Below.setCell ?_ (by simp; try omega) _ | exact HBr.out
      · have e1 := row_setCell (o := 0) (.int .i64 st.c.page) HHRE.out
        have e2 := row_setCell (o := 1) (.int .i64 st.c.n) e1
        have e3 := row_setCell (o := 2) (.int .i64 st.c.red) e2
        have e4 := row_setCell (o := 3) (.int .i64 st.c.quarantine) e3
        have e5 := row_setCell (o := 4) (.slice A1 st.live.length k1) e4
        have e6 := row_setCell (o := 5) (.slice B1 st.quar.length m1) e5
        have e7 := row_setCell (o := 6) (.int .i64 st.gi) e6
        simp only [List.setIfInBounds_toArray, List.set_cons_zero, List.set_cons_succ] at e7
        exact e7
      · repeat' first | refine Eq.trans (Below.heap_setCell _ _ _ _ hne) ?_ | rfl
      rintro W ⟨t1, t2, t3, t4⟩
      have r0 := blk_cell t2 0
      have r1 := blk_cell t2 1
      have r2 := blk_cell t2 2
      have r3 := blk_cell t2 3
      have r4 := blk_cell t2 4
      have r5 := blk_cell t2 5
      have r6 := blk_cell t2 6
      simp only [List.getElem?_toArray, List.getElem?_cons_succ, List.getElem?_cons_zero] at r0 r1 r2 r3 r4 r5 r6
      refine bodyPost_ret (v := .tuple #[.agg #[.int .i64 st.c.page, .int .i64 st.c.n, .int .i64 st.c.red, .int .i64 st.c.quarantine, .slice A1 st.live.length k1, .slice B1 st.quar.length m1, .int .i64 st.gi], .slice AS outs.length kS]) (by simp [results, Try.results50, go_sem, r0, r1, r2, r3, r4, r5, r6]) rfl ⟨t1, st, outs, A1, k1, B1, m1, AS, kS, HPL.out, hlo.out, rfl, ?_, ?_, HBX.out.sh1, HBX.out.sh2, ?_⟩
      · exact sl_keepS (P := fun j => j ≠ w.heap.size + 1) HBX.out.sl t3 t4 HBX.out.ne3
      · exact sl_keepS (P := fun j => j ≠ w.heap.size + 1) HBX.out.sq t3 t4 HBX.out.ne4
      · exact ⟨slU_of_own (own_keepS HOWN.out (by omega) t4), HAV.out⟩
end Go.Proofs.Ytbhbjcgbhklieaa
