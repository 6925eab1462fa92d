/- The specification's Gaps. -/
import Derived.Test.YtbhbjcgbhklieaaQ1
import Derived.Deep.RegionHeld3
namespace Go.Proofs.Ytbhbjcgbhklieaa
open Go.RowKit Go.Shelf

theorem append_one53 (base : Nat) (v : Value) (S : List (Int × Int)) (x : Int × Int) (nb : Nat) (w : World) (ho : w.ownsRow base 53 2 v S.length (S.flatMap encN)) (hnb : w.heap[nb]? = some (.cells #[.int .u32 x.1, .int .i64 x.2] 53 (0, 0))) (hn : S.length ≤ 3000) (hb : base ≤ w.heap.size) :
    ∃ v' w', (Builtin.append_ #[50, 50] 50 #[v, .slice (some ⟨nb, 0, none⟩) 1 1]).run Try.prog w = .ok v' w' ∧ w'.ownsRow base 53 2 v' (S ++ [x]).length ((S ++ [x]).flatMap encN) ∧ w.grownBy w' v.ownBlock := by
  obtain ⟨i0, hi0, hi1, hi2, hi3⟩ := info53
  obtain ⟨v', w', hrun, hown, hgr, _⟩ := run_append_own (P := Try.prog) w base 50 50 53 i0 (.agg #[.int .u32 0, .int .i64 0]) 2 16 Try.underlying50 hi0 hi1 hi2 hi3 rfl (by omega) v S.length (S.flatMap encN) ho ⟨nb, 0, none⟩ 1 1 [.int .u32 x.1, .int .i64 x.2] rfl
    (fun j u hu => by rw [Addr.add_lit, blk_cell hnb]; simpa using hu) (by simp [Value.oneCell']) (by unfold maxLen; omega) (by omega) hb
  exact ⟨v', w', hrun, by rw [List.length_append, List.flatMap_append]; exact hown, hgr⟩
theorem own_below {w W : World} {base : Nat} {e : TypeId} {k : Nat} {v : Value} {n : Nat} {xs : List Value} (h : w.ownsRow base e k v n xs) (hW : Below w.heap.size w W) : W.ownsRow base e k v n xs :=
  ⟨h.1, h.2.imp id fun ⟨g, cap, cur, hv, hb, hg, rest⟩ => ⟨g, cap, cur, hv, hb, (hW.block g (blk_lt hg)).trans hg, rest⟩⟩
theorem step_append_run {P : Program} {ops : Array Oper} {o : Oper} {a : Act} {w : World} {K : Act → World → Prop} {Q : Exit → Act → World → Prop} {E : Prop} (hgd : o.guard = none) (s x : Operand) (t tn : TypeId)
    (ho : o.op = .call { callee := .builtin .append, args := #[s, x], argTypes := #[t, tn] }) (vs vx : Value) (hs : a.eval s = vs) (hx : a.eval x = vx)
    (v' : Value) (w' : World) (hr : (Builtin.append_ #[t, tn] o.type #[vs, vx]).run P w = .ok v' w') (h : K (a.put o.dst v') w') : if Region.wanted o (yielded ops a.tmps) = true then Oper.wp P o a w K Q else E := by
  have hw : Region.wanted o (yielded ops a.tmps) = true := by simp [Region.wanted, hgd]
  rw [if_pos hw]
  exact Lib.wp_append_run w s x t tn ho vs vx hs hx v' w' hr h

set_option maxRecDepth 100000 in
set_option maxHeartbeats 6000000 in
theorem c40 (c : Conf) (lv qv : Value) (gi : Int) (live quar : List Piece) (L : List Ext) (w : World) (hl : Sl 3 encP w lv live) (hq : Sl 3 encP w qv quar) (wl : ∀ p ∈ live, WfP p) (wq : ∀ p ∈ quar, WfP p) (hO : Op c gi live quar L) :
    Calls Try.prog 40 #[hAgg c lv qv gi] w fun e w' => ∃ v, e = .returned v ∧ Below w.heap.size w w' ∧ w'.ownsRow w.heap.size 53 2 v (spans c L).length ((spans c L).flatMap encN) := by
  have hgp := (good_iff wl wq).1 hO.good
  obtain ⟨⟨r0, r1⟩, hwf⟩ := good_wf hgp wl wq
  have hn1 := hgp.n1
  have hn2 := hgp.n2
  have hbc := hgp.conf
  simp only [okConf, decide_eq_true_eq] at hbc
  obtain ⟨e1, e2, e3, e4, e5, _, _, _, _⟩ := hbc
  have hB : Below w.heap.size w (w.alloc (.cells #[.int .i64 c.page, .int .i64 c.n, .int .i64 c.red, .int .i64 c.quarantine, lv, qv, .int .i64 gi] 26)) := below_alloc1 w _
  have h18 := c18 c lv qv gi live quar _ (hl.below hB) (hq.below hB) wl wq
  have h61 := fun W (hW : Below w.heap.size w W) => c61 c lv qv gi live quar W (hl.below hW) (hq.below hW) hn1 hn2
  have hnext := fun (at_ : Int) (pre suf : List Ext) (hA : At L ((c.page + c.n) * 256) at_ pre suf) => hA.next hO wl wq
  have hat0 : At L ((c.page + c.n) * 256) (c.page * 256) [] L := ⟨rfl, (fun _ hx => by cases hx), hO.ch⟩
  have hlen := hO.len
  have hgl := hO.gaps.2
  have H18 := Lib.hid h18
  have H61 := Lib.hid h61
  have HNEXT := Lib.hid hnext
  have HAT0 := Lib.hid hat0
  have HB := Lib.hid hB
  have HG := Lib.hid hgp
  have HGL := Lib.hid hgl
  obtain ⟨A, ca, rfl, _, _⟩ := id hl
  obtain ⟨B, cb, rfl, _, _⟩ := hq
  clear h18 h61 hB wl wq hl hgp hO hnext hat0 hgl
  have hmx : Try.prog.follows .mixedOrders = true := by kernel_rfl
  go_enter Try.func40, Try.ntmps40
  go_wp2_with fail
  refine Calls.mono H18.out ?_
  clear H18
  rintro e w0 ⟨hB0, ⟨hg, rfl⟩ | ⟨hg, rfl⟩⟩
  · exact absurd HG.out hg
  have hb0 : w0.heap[w.heap.size]? = some (.cells #[.int .i64 c.page, .int .i64 c.n, .int .i64 c.red, .int .i64 c.quarantine, .slice A live.length ca, .slice B quar.length cb, .int .i64 gi] 26 (0, 0)) := (hB0.block _ (by simp; try omega)).trans (hal_new rfl)
  have HBW0 : Hid (Below w.heap.size w w0) := HB.out.trans (hB0.mono (by simp; try omega))
  have q0 := blk_cell hb0 0
  have q1 := blk_cell hb0 1
  have q2 := blk_cell hb0 2
  have q3 := blk_cell hb0 3
  have q4 := blk_cell hb0 4
  have q5 := blk_cell hb0 5
  have q6 := blk_cell hb0 6
  simp only [List.getElem?_toArray, List.getElem?_cons_succ, List.getElem?_cons_zero] at q0 q1 q2 q3 q4 q5 q6
  have HX0 := Lib.hid hb0
  clear hb0 hB0 hg HB
  go_wp2_with fail
  refine Calls.mono (H61.out w0 HBW0.out) ?_
  clear H61
  rintro e w9 ⟨v, rfl, hB9, ho9⟩
  have hx9 := (hB9.block _ (blk_lt HX0.out)).trans HX0.out
  clear q0 q1 q2 q3 q4 q5 q6
  have q0 := blk_cell hx9 0
  have q1 := blk_cell hx9 1
  have q2 := blk_cell hx9 2
  have q3 := blk_cell hx9 3
  have q4 := blk_cell hx9 4
  have q5 := blk_cell hx9 5
  have q6 := blk_cell hx9 6
  simp only [List.getElem?_toArray, List.getElem?_cons_succ, List.getElem?_cons_zero] at q0 q1 q2 q3 q4 q5 q6
  have HX9 := Lib.hid hx9
  have HBW9 : Hid (Below w.heap.size w w9) := HBW0.out.trans (hB9.mono HBW0.out.size)
  have HO9 := Lib.hid ho9
  clear hB9 hx9 ho9
  obtain ⟨AL0, nl0, cl0, e0⟩ : ∃ A n k, v = .slice A n k := by obtain ⟨A, c', h, _⟩ := (Fresh.of_own HO9.out rfl).sl; exact ⟨A, _, c', h⟩
  subst e0
  go_wp2_with fail
  refine Calls.mono (c63 c.page c.n c.red c.quarantine w9 (by omega) (by omega)) ?_
  rintro e w1 ⟨rfl, hB1⟩
  obtain ⟨l, hll⟩ : ∃ l, live ++ quar = l := ⟨_, rfl⟩
  have hF := (Fresh.of_own HO9.out rfl).below hB1
  rw [hll] at hF hwf
  obtain ⟨AL, cl, hAL, hcl, hlies⟩ := hF.sl
  cases hAL
  obtain ⟨N, hN⟩ : ∃ N, l.length = N := ⟨_, rfl⟩
  have hN2 : N ≤ 2000 := by rw [← hN, ← hll, List.length_append]; omega
  rw [hN]
  have HY0 := Lib.hid ((hB1.block _ (blk_lt HX9.out)).trans HX9.out)
  have HBW : Hid (Below w.heap.size w w1) := HBW9.out.trans (hB1.mono HBW9.out.size)
  have HLL := Lib.hid hll
  have HLIES := Lib.hid hlies
  have HWF := Lib.hid hwf
  have HN := Lib.hid hN
  have hlt0 : w.heap.size < w1.heap.size := blk_lt HY0.out
  rw [hll] at HNEXT
  clear hB1 hF hll hlies hwf hN hcl q0 q1 q2 q3 q4 q5 q6 HX0 HX9 HBW0 HBW9 HO9
  go_wp2
  go_loopg [3, 5] L.length (fun kx s3 s5 wr => ∃ (at_ : Int) (pre suf : List Ext) (S : List (Int × Int)) (AS : Option Addr) (nS kS : Nat), s3 = .slice AS nS kS ∧ s5 = .int .i64 at_ ∧ 0 ≤ at_ ∧ at_ ≤ 4294967296 ∧ suf.length ≤ kx ∧ Hid (At L ((c.page + c.n) * 256) at_ pre suf) ∧ Hid (S ++ (gapsGo ((c.page + c.n) * 256) at_ suf).map (fun g => (g.1, g.2 - g.1)) = spans c L) ∧ Hid (wr.ownsRow w1.heap.size 53 2 (.slice AS nS kS) S.length (S.flatMap encN)) ∧ Hid (Below w1.heap.size w1 wr))
  case atStart => exact ⟨c.page * 256, [], L, [], none, 0, 0, rfl, rfl, by omega, by omega, Nat.le_refl _, HAT0.out, rfl, World.ownsRow_nil _ _ _ _, Below.refl _ _⟩
  case round =>
    obtain ⟨at_, pre, suf, S, AS, nS, kS, rfl, rfl, a0, a1, hkx, HAT, HS, HOWN, HBr⟩ := hrel
    have hsr := HBr.out.size
    have hSl : S.length ≤ 2001 := by
      have h := congrArg List.length HS.out
      rw [List.length_append] at h
      have h2 := HGL.out
      unfold spans at h
      rw [List.length_map, List.length_map] at h
      omega
    have hbr := (HBr.out.block _ hlt0).trans HY0.out
    have q0 := blk_cell hbr 0
    have q1 := blk_cell hbr 1
    have q2 := blk_cell hbr 2
    have q3 := blk_cell hbr 3
    have q4 := blk_cell hbr 4
    have q5 := blk_cell hbr 5
    have q6 := blk_cell hbr 6
    simp only [List.getElem?_toArray, List.getElem?_cons_succ, List.getElem?_cons_zero] at q0 q1 q2 q3 q4 q5 q6
    clear hbr
    go_wp2_with fail
    refine Calls.mono (c65 c.page c.n c.red c.quarantine wr (by omega) (by omega) (by omega) (by omega)) ?_
    rintro e w2 ⟨rfl, hB2⟩
    have HB12 : Hid (Below w1.heap.size w1 w2) := HBr.out.trans (hB2.mono hsr)
    have HOWN2 : Hid (w2.ownsRow w1.heap.size 53 2 (.slice AS nS kS) S.length (S.flatMap encN)) := own_below HOWN.out hB2
    clear q0 q1 q2 q3 q4 q5 q6 hB2
    by_cases hlt : at_ < (c.page + c.n) * 256
    rotate_left
    · have hsuf : suf = [] := by
        cases hs : suf with
        | nil => rfl
        | cons x s => have h := HAT.out.ch; rw [hs] at h; obtain ⟨h1, h2, h3⟩ := h; have := h3.le; omega
      have hfin : S = spans c L := by
        have h := HS.out
        rw [hsuf] at h
        simp only [gapsGo] at h
        rw [if_neg hlt] at h
        simpa using h
      have HFIN := Lib.hid hfin
      clear hsuf hfin
      go_wp2
      go_ret
      exact ⟨_, rfl, HBW.out.trans (HB12.out.mono (by omega)), by rw [← HFIN.out]; exact own_base HOWN2.out (by omega)⟩
    have hltx := hlt
    go_wp2
    obtain ⟨gz, rfl⟩ : ∃ gz, gz = gk := ⟨_, rfl⟩
    obtain ⟨wz, rfl⟩ : ∃ wz : World, wz = wr := ⟨_, rfl⟩
    go_loopg [6, 7] N (fun kx s6 s7 wr => ∃ (k : Nat) (nx : Int), k ≤ N ∧ s6 = .int .i64 nx ∧ s7 = .int .i64 k ∧ N - k ≤ kx ∧ Hid (NextOk c.red at_ l k nx) ∧ Hid (rNextGo c.red at_ l (l.drop k) k nx = rNextGo c.red at_ l l 0 (-1)) ∧ Hid (Below w2.heap.size w2 wr))
    case atStart => exact ⟨0, -1, Nat.zero_le _, rfl, rfl, by omega, .inl ⟨rfl, fun j hj => by omega⟩, rfl, Below.refl _ _⟩
    case round =>
      obtain ⟨k, nx, hk, rfl, rfl, hkx2, HNX, HRN, HBt⟩ := hrel
      have hst := HBt.out.size
      by_cases hkn : k < N
      · have hkl : k < l.length := by rw [HN.out]; exact hkn
        have hbt := (HBt.out.block _ (Nat.lt_of_lt_of_le hlt0 HB12.out.size)).trans ((HB12.out.block _ hlt0).trans HY0.out)
        obtain ⟨bb, off, rfl, hL⟩ := HLIES.out.resolve_left (by rintro rfl; simp at hkl)
        have hLw := (hL.below HB12.out).below HBt.out
        obtain ⟨hpw, hp0, hp1⟩ := HWF.out l[k]! (by rw [getElem!_pos l k hkl]; exact List.getElem_mem hkl)
        have hd := rNextGo_drop c.red at_ l k nx hkl
        rw [HRN.out] at hd
        have hst2 := HNX.out.step
        have m0 : ∀ d os, (far wr d os).cell? ⟨bb, off + k * 3, none⟩ = some (.int .u32 l[k]!.pos) := far_cell hLw.1 (hLw.2 k hkl 0 _ rfl)
        have m1 : ∀ d os, (far wr d os).cell? ⟨bb, off + k * 3 + 1, none⟩ = some (.int .i64 l[k]!.size) := far_cell hLw.1 (hLw.2 k hkl 1 _ rfl)
        have m2 : ∀ d os, (far wr d os).cell? ⟨bb, off + k * 3 + 2, none⟩ = some (.int .i64 l[k]!.born) := far_cell hLw.1 (hLw.2 k hkl 2 _ rfl)
        have z0 : ∀ d os, (far wr d os).cell? ⟨w.heap.size, 0, none⟩ = some (.int .i64 c.page) := far_cell (blk_lt hbt) (blk_cell hbt 0)
        have z1 : ∀ d os, (far wr d os).cell? ⟨w.heap.size, 1, none⟩ = some (.int .i64 c.n) := far_cell (blk_lt hbt) (blk_cell hbt 1)
        have z2 : ∀ d os, (far wr d os).cell? ⟨w.heap.size, 2, none⟩ = some (.int .i64 c.red) := far_cell (blk_lt hbt) (blk_cell hbt 2)
        have z3 : ∀ d os, (far wr d os).cell? ⟨w.heap.size, 3, none⟩ = some (.int .i64 c.quarantine) := far_cell (blk_lt hbt) (blk_cell hbt 3)
        have hw0 := hpw.1
        have hw1 := hpw.2
        have i3 : k < N := hkn
        have i4 : (k : Int) < (N : Int) := by omega
        have HLw := Lib.hid hLw
        have HD := Lib.hid hd
        have HST2 := Lib.hid hst2
        clear hbt hL hLw hd hst2 HRN
        by_cases t1 : at_ < l[k]!.pos + max l[k]!.size 1 + c.red
        rotate_left
        · have d1 : decide (at_ < l[k]!.pos + max l[k]!.size 1 + c.red) = false := decide_eq_false t1
          have HN1 : Hid ((if at_ < l[k]!.pos + max l[k]!.size 1 + c.red ∧ (nx < 0 ∨ l[k]!.pos - c.red < l[nx.toNat]!.pos - c.red) then (k : Int) else nx) = nx) := if_neg (fun h => t1 h.1)
          generalize l[k]! = p at *
          go_wp2
          refine wp_region_far hmx (by kernel_rfl) ?_
          repeat (go_big_quiet_step ((first | (go_at_call 62; exact Calls.far_of (c62 c.page c.n c.red c.quarantine _ _ r0 r1 (by assumption))) | (go_at_call 64; exact Calls.far_of (c64 c.page c.n c.red c.quarantine _ _ r0 r1 (by assumption) (by assumption) (by assumption))))))
          refine wpQuiet_nil ?_
          intro _ hw'
          obtain ⟨⟨d, os⟩, hw''⟩ := hw'
          subst hw''
          go_wp2
          go_roundg (N - (k + 1))
          case measure => omega
          case rel => exact ⟨k + 1, nx, by omega, rfl, by go_num, Nat.le_refl _, (by rw [← HN1.out]; exact HST2.out : NextOk c.red at_ l (k + 1) nx), (by rw [HD.out, HN1.out] : rNextGo c.red at_ l (l.drop (k + 1)) (k + 1) nx = rNextGo c.red at_ l l 0 (-1)), HBt.out.trans ((below_far wr d os).mono hst)⟩
        have d1 : decide (at_ < l[k]!.pos + max l[k]!.size 1 + c.red) = true := decide_eq_true t1
        rcases HNX.out with ⟨rfl, _⟩ | ⟨i, rfl, hi, _, _⟩
        · have HN1 : Hid ((if at_ < l[k]!.pos + max l[k]!.size 1 + c.red ∧ ((-1 : Int) < 0 ∨ l[k]!.pos - c.red < l[(-1 : Int).toNat]!.pos - c.red) then (k : Int) else -1) = k) := if_pos ⟨t1, .inl (by omega)⟩
          generalize l[k]! = p at *
          go_wp2
          refine wp_region_far hmx (by kernel_rfl) ?_
          repeat (go_big_quiet_step ((first | (go_at_call 62; exact Calls.far_of (c62 c.page c.n c.red c.quarantine _ _ r0 r1 (by assumption))) | (go_at_call 64; exact Calls.far_of (c64 c.page c.n c.red c.quarantine _ _ r0 r1 (by assumption) (by assumption) (by assumption))))))
          refine wpQuiet_nil ?_
          intro _ hw'
          obtain ⟨⟨d, os⟩, hw''⟩ := hw'
          subst hw''
          go_wp2
          go_roundg (N - (k + 1))
          case measure => omega
          case rel => exact ⟨k + 1, (k : Int), by omega, rfl, by go_num, Nat.le_refl _, (by rw [← HN1.out]; exact HST2.out : NextOk c.red at_ l (k + 1) k), (by rw [HD.out, HN1.out] : rNextGo c.red at_ l (l.drop (k + 1)) (k + 1) k = rNextGo c.red at_ l l 0 (-1)), HBt.out.trans ((below_far wr d os).mono hst)⟩
        · have hil : i < l.length := by omega
          have hiN : i < N := by omega
          have hiN2 : (i : Int) < (N : Int) := by omega
          obtain ⟨hqw, hq0, hq1⟩ := HWF.out l[i]! (by rw [getElem!_pos l i hil]; exact List.getElem_mem hil)
          have hv0 := hqw.1
          have hv1 := hqw.2
          have d2 : decide ((i : Int) < 0) = false := decide_eq_false (by omega)
          have n0 : ∀ d os, (far wr d os).cell? ⟨bb, off + i * 3, none⟩ = some (.int .u32 l[i]!.pos) := far_cell HLw.out.1 (HLw.out.2 i hil 0 _ rfl)
          have n1 : ∀ d os, (far wr d os).cell? ⟨bb, off + i * 3 + 1, none⟩ = some (.int .i64 l[i]!.size) := far_cell HLw.out.1 (HLw.out.2 i hil 1 _ rfl)
          have n2 : ∀ d os, (far wr d os).cell? ⟨bb, off + i * 3 + 2, none⟩ = some (.int .i64 l[i]!.born) := far_cell HLw.out.1 (HLw.out.2 i hil 2 _ rfl)
          by_cases t2 : l[k]!.pos - c.red < l[i]!.pos - c.red
          · have d3 : decide (l[k]!.pos - c.red < l[i]!.pos - c.red) = true := decide_eq_true t2
            have HN1 : Hid ((if at_ < l[k]!.pos + max l[k]!.size 1 + c.red ∧ ((i : Int) < 0 ∨ l[k]!.pos - c.red < l[(i : Int).toNat]!.pos - c.red) then (k : Int) else (i : Int)) = k) := if_pos ⟨t1, .inr (by rw [Int.toNat_natCast]; exact t2)⟩
            generalize l[k]! = p at *
            generalize l[i]! = q at *
            go_wp2
            refine wp_region_far hmx (by kernel_rfl) ?_
            repeat (go_big_quiet_step ((first | (go_at_call 62; exact Calls.far_of (c62 c.page c.n c.red c.quarantine _ _ r0 r1 (by assumption))) | (go_at_call 64; exact Calls.far_of (c64 c.page c.n c.red c.quarantine _ _ r0 r1 (by assumption) (by assumption) (by assumption))))))
            refine wpQuiet_nil ?_
            intro _ hw'
            obtain ⟨⟨d, os⟩, hw''⟩ := hw'
            subst hw''
            go_wp2
            go_roundg (N - (k + 1))
            case measure => omega
            case rel => exact ⟨k + 1, (k : Int), by omega, rfl, by go_num, Nat.le_refl _, (by rw [← HN1.out]; exact HST2.out : NextOk c.red at_ l (k + 1) k), (by rw [HD.out, HN1.out] : rNextGo c.red at_ l (l.drop (k + 1)) (k + 1) k = rNextGo c.red at_ l l 0 (-1)), HBt.out.trans ((below_far wr d os).mono hst)⟩
          · have d3 : decide (l[k]!.pos - c.red < l[i]!.pos - c.red) = false := decide_eq_false t2
            have HN1 : Hid ((if at_ < l[k]!.pos + max l[k]!.size 1 + c.red ∧ ((i : Int) < 0 ∨ l[k]!.pos - c.red < l[(i : Int).toNat]!.pos - c.red) then (k : Int) else (i : Int)) = i) := if_neg (fun h => Or.elim h.2 (fun h => by omega) (fun h => t2 (by rw [Int.toNat_natCast] at h; exact h)))
            generalize l[k]! = p at *
            generalize l[i]! = q at *
            go_wp2
            refine wp_region_far hmx (by kernel_rfl) ?_
            repeat (go_big_quiet_step ((first | (go_at_call 62; exact Calls.far_of (c62 c.page c.n c.red c.quarantine _ _ r0 r1 (by assumption))) | (go_at_call 64; exact Calls.far_of (c64 c.page c.n c.red c.quarantine _ _ r0 r1 (by assumption) (by assumption) (by assumption))))))
            refine wpQuiet_nil ?_
            intro _ hw'
            obtain ⟨⟨d, os⟩, hw''⟩ := hw'
            subst hw''
            go_wp2
            go_roundg (N - (k + 1))
            case measure => omega
            case rel => exact ⟨k + 1, (i : Int), by omega, rfl, by go_num, Nat.le_refl _, (by rw [← HN1.out]; exact HST2.out : NextOk c.red at_ l (k + 1) i), (by rw [HD.out, HN1.out] : rNextGo c.red at_ l (l.drop (k + 1)) (k + 1) i = rNextGo c.red at_ l l 0 (-1)), HBt.out.trans ((below_far wr d os).mono hst)⟩
      obtain rfl : k = N := by omega
      have hnx : nx = rNextGo c.red at_ l l 0 (-1) := by rw [← HRN.out, ← HN.out, List.drop_length]; rfl
      have HB13 : Hid (Below w1.heap.size w1 wr) := HB12.out.trans (HBt.out.mono HB12.out.size)
      have HOWN3 : Hid (wr.ownsRow w1.heap.size 53 2 (.slice AS nS kS) S.length (S.flatMap encN)) := own_below HOWN2.out HBt.out
      have hbr := (HB13.out.block _ hlt0).trans HY0.out
      have hsr3 := HB13.out.size
      have q0 := blk_cell hbr 0
      have q1 := blk_cell hbr 1
      have q2 := blk_cell hbr 2
      have q3 := blk_cell hbr 3
      have q4 := blk_cell hbr 4
      have q5 := blk_cell hbr 5
      have q6 := blk_cell hbr 6
      simp only [List.getElem?_toArray, List.getElem?_cons_succ, List.getElem?_cons_zero] at q0 q1 q2 q3 q4 q5 q6
      have HBR3 := Lib.hid hbr
      rcases HNEXT.out at_ pre suf HAT.out with ⟨hs0, h1⟩ | ⟨x, suf', hs0, i, hi, h1, h2, h3, hA'⟩
      · have hfin : spans c L = S ++ [(at_, (c.page + c.n) * 256 - at_)] := by
          rw [← HS.out, hs0]
          simp only [gapsGo]
          rw [if_pos hltx]
          rfl
        have HFIN := Lib.hid hfin
        rw [h1] at hnx
        subst hnx
        clear hfin h1 hs0 hbr HNX HRN
        have hu : IntKind.u32.wrap at_ = at_ := by simp only [IntKind.wrap, IntKind.bits, IntKind.signed]; simp; omega
        go_wp2_with fail
        refine Calls.mono (c65 c.page c.n c.red c.quarantine wr (by omega) (by omega) (by omega) (by omega)) ?_
        rintro e w4 ⟨rfl, hB4⟩
        have HB14 : Hid (Below w1.heap.size w1 w4) := HB13.out.trans (hB4.mono hsr3)
        have ho4 : (w4.alloc (.cells #[.int .u32 at_, .int .i64 ((c.page + c.n) * 256 - at_)] 53)).ownsRow w1.heap.size 53 2 (.slice AS nS kS) S.length (S.flatMap encN) := (own_below HOWN3.out hB4).alloc _
        obtain ⟨v5, w5, hrun, ho5, hg5⟩ := append_one53 w1.heap.size _ S (at_, (c.page + c.n) * 256 - at_) w4.heap.size _ ho4 (hal_new rfl) (by omega) (by have := HB14.out.size; simp; omega)
        have HB15 : Hid (Below w1.heap.size w1 w5) := (HB14.out.alloc HB14.out.size _).trans (below_of_grown hg5 (by have := HB14.out.size; simp; omega) (fun j e => (own_lt ho4 j e).1))
        have HO5 := Lib.hid ho5
        clear hB4 ho4 ho5 hg5 q0 q1 q2 q3 q4 q5 q6
        go_wp2_with ((at_builtin; refine Lib.wpList_append_run _ rfl _ _ _ _ rfl _ _ rfl rfl _ _ hrun ?_))
        go_ret
        exact ⟨_, rfl, HBW.out.trans (HB15.out.mono (by omega)), by rw [HFIN.out]; exact own_base HO5.out (by omega)⟩
      · subst hs0
        rw [h1] at hnx
        subst hnx
        have hil : i < l.length := hi
        have hiN : i < k := by rw [← HN.out]; exact hi
        have hiN2 : (i : Int) < (k : Int) := by omega
        have hneg : ¬ (i : Int) < 0 := by omega
        obtain ⟨bb, off, rfl, hL⟩ := HLIES.out.resolve_left (by rintro rfl; simp at hil)
        have hLw := hL.below HB13.out
        obtain ⟨hpw, hp0, hp1⟩ := HWF.out l[i]! (by rw [getElem!_pos l i hil]; exact List.getElem_mem hil)
        have hw0 := hpw.1
        have hw1 := hpw.2
        have hch := HAT.out.ch
        obtain ⟨c1, c2, c3⟩ := hch
        have hle := c3.le
        have hgo : S ++ (if at_ < x.fr then [(at_, x.fr - at_)] else []) ++ (gapsGo ((c.page + c.n) * 256) x.to suf').map (fun g => (g.1, g.2 - g.1)) = spans c L := by
          rw [← HS.out]
          simp only [gapsGo]
          by_cases hx : at_ < x.fr <;> simp [hx]
        have hkx' : suf'.length + 1 ≤ gz := by simpa using hkx
        have HA' := Lib.hid hA'
        have HLw := Lib.hid hLw
        have HGO := Lib.hid hgo
        have HSUF : Hid (suf'.length + 1 ≤ gz) := hkx'
        have m0 : ∀ d os, (far wr d os).cell? ⟨bb, off + i * 3, none⟩ = some (.int .u32 l[i]!.pos) := far_cell hLw.1 (hLw.2 i hil 0 _ rfl)
        have m1 : ∀ d os, (far wr d os).cell? ⟨bb, off + i * 3 + 1, none⟩ = some (.int .i64 l[i]!.size) := far_cell hLw.1 (hLw.2 i hil 1 _ rfl)
        have m2 : ∀ d os, (far wr d os).cell? ⟨bb, off + i * 3 + 2, none⟩ = some (.int .i64 l[i]!.born) := far_cell hLw.1 (hLw.2 i hil 2 _ rfl)
        have z0 : ∀ d os, (far wr d os).cell? ⟨w.heap.size, 0, none⟩ = some (.int .i64 c.page) := far_cell (blk_lt hbr) (blk_cell hbr 0)
        have z1 : ∀ d os, (far wr d os).cell? ⟨w.heap.size, 1, none⟩ = some (.int .i64 c.n) := far_cell (blk_lt hbr) (blk_cell hbr 1)
        have z2 : ∀ d os, (far wr d os).cell? ⟨w.heap.size, 2, none⟩ = some (.int .i64 c.red) := far_cell (blk_lt hbr) (blk_cell hbr 2)
        have z3 : ∀ d os, (far wr d os).cell? ⟨w.heap.size, 3, none⟩ = some (.int .i64 c.quarantine) := far_cell (blk_lt hbr) (blk_cell hbr 3)
        clear hbr hA' hL hLw HNX HRN c3 hgo hkx hkx' q0 q1 q2 q3 q4 q5 q6 h1
        generalize hp : l[i]! = p at *
        rw [h2, h3] at HGO
        rw [h2] at c1 c2
        rw [h3] at c2 hle HA'
        have HP := Lib.hid hp
        have H3 := Lib.hid h3
        clear hp h2 h3
        by_cases hgap : at_ < p.pos - c.red
        · have d1 : decide (at_ < p.pos - c.red) = true := decide_eq_true hgap
          have HGAP : Hid (at_ < p.pos - c.red) := hgap
          go_wp2
          refine wp_region_far hmx (by kernel_rfl) ?_
          repeat (go_big_quiet_step ((first | (go_at_call 62; exact Calls.far_of (c62 c.page c.n c.red c.quarantine _ _ r0 r1 (by assumption))) | (go_at_call 64; exact Calls.far_of (c64 c.page c.n c.red c.quarantine _ _ r0 r1 (by assumption) (by assumption) (by assumption))))))
          refine wpQuiet_nil ?_
          intro _ hw'
          obtain ⟨⟨d, os⟩, hw''⟩ := hw'
          subst hw''
          have hL0 := HLIES.out.resolve_left (by rintro rfl; simp at hil)
          obtain ⟨bb0, off0, ebb, hL0⟩ := hL0
          cases ebb
          have HB14 : Hid (Below w1.heap.size w1 (far wr d os)) := HB13.out.trans ((below_far wr d os).mono hsr3)
          have hbr4 := (HB14.out.block _ hlt0).trans HY0.out
          have hL4 := HLw.out.below (below_far wr d os)
          obtain ⟨n0, n1, n2⟩ := hL4.at3 i hil
          have HOWN4 : Hid ((far wr d os).ownsRow w1.heap.size 53 2 (.slice AS nS kS) S.length (S.flatMap encN)) := own_below HOWN3.out (below_far wr d os)
          have HL4 := Lib.hid hL4
          rw [HP.out] at n0 n1 n2
          clear m0 m1 m2 z0 z1 z2 z3 hL4
          have HX0 := Lib.hid hbr4
          have hltX : w.heap.size < (far wr d os).heap.size := blk_lt hbr4
          have hbbX : bb < w1.heap.size := Nat.lt_of_lt_of_le hL0.1 (Nat.le_refl _)
          clear hbr4
          refine gen_worldQ (fun X => Below w1.heap.size w1 X ∧ X.heap[w.heap.size]? = some (.cells #[.int .i64 c.page, .int .i64 c.n, .int .i64 c.red, .int .i64 c.quarantine, .slice A live.length ca, .slice B quar.length cb, .int .i64 gi] 26 (0, 0)) ∧ Lies 3 encP X bb off l ∧ X.ownsRow w1.heap.size 53 2 (.slice AS nS kS) S.length (S.flatMap encN)) ⟨HB14.out, HX0.out, HL4.out, HOWN4.out⟩ ?_
          rintro X ⟨x1, x2, x3, x4⟩
          obtain ⟨n0, n1, n2⟩ := x3.at3 i hil
          rw [HP.out] at n0 n1 n2
          have hu : IntKind.u32.wrap at_ = at_ := by simp only [IntKind.wrap, IntKind.bits, IntKind.signed]; simp; omega
          clear HB14 HX0 hltX HL4 HOWN4
          go_wp2
          refine wp_region_held_drew (S := fun w' => w'.heap[w.heap.size]? = some (.cells #[.int .i64 c.page, .int .i64 c.n, .int .i64 c.red, .int .i64 c.quarantine, .slice A live.length ca, .slice B quar.length cb, .int .i64 gi] 26 (0, 0)) ∧ w'.cell? ⟨bb, off + i * 3, none⟩ = some (.int .u32 p.pos) ∧ w'.cell? ⟨bb, off + i * 3 + 1, none⟩ = some (.int .i64 p.size) ∧ w'.cell? ⟨bb, off + i * 3 + 2, none⟩ = some (.int .i64 p.born)) hmx ⟨x2, n0, n1, n2⟩ ?_
          intro hSS
          have HSS := Lib.hid hSS
          clear hSS n0 n1 n2
          refine wpAnyH_take (i := 0) (v := .slice AS nS kS) rfl (by kernel_rfl) (by kernel_rfl) (by kernel_rfl) (fun _ _ _ h => h) (Or.inl ⟨by rfl, ?hy⟩) HSS.out ?_
          case hy => intro w9 hSw; obtain ⟨k0, s7, s8, s9⟩ := hSw; have s0 := blk_cell k0 0; have s1 := blk_cell k0 1; have s2 := blk_cell k0 2; have s3 := blk_cell k0 3; simp only [List.getElem?_toArray, List.getElem?_cons_succ, List.getElem?_cons_zero] at s0 s1 s2 s3; go_simp
          go_simp
          refine wpAnyH_take (i := 1) (v := .int .i64 at_) rfl (by kernel_rfl) (by kernel_rfl) (by kernel_rfl) (fun _ _ _ h => h) (Or.inl ⟨by rfl, ?hy⟩) HSS.out ?_
          case hy => intro w9 hSw; obtain ⟨k0, s7, s8, s9⟩ := hSw; have s0 := blk_cell k0 0; have s1 := blk_cell k0 1; have s2 := blk_cell k0 2; have s3 := blk_cell k0 3; simp only [List.getElem?_toArray, List.getElem?_cons_succ, List.getElem?_cons_zero] at s0 s1 s2 s3; go_simp
          go_simp
          refine wpAnyH_take (i := 2) (v := .int .u32 at_) rfl (by kernel_rfl) (by kernel_rfl) (by kernel_rfl) (fun _ _ _ h => h) (Or.inl ⟨by rfl, ?hy⟩) HSS.out ?_
          case hy => intro w9 hSw; obtain ⟨k0, s7, s8, s9⟩ := hSw; have s0 := blk_cell k0 0; have s1 := blk_cell k0 1; have s2 := blk_cell k0 2; have s3 := blk_cell k0 3; simp only [List.getElem?_toArray, List.getElem?_cons_succ, List.getElem?_cons_zero] at s0 s1 s2 s3; go_simp
          go_simp
          refine wpAnyH_take (i := 3) (v := .pointer (some ⟨w.heap.size, 0, none⟩)) rfl (by kernel_rfl) (by kernel_rfl) (by kernel_rfl) (fun _ _ _ h => h) (Or.inl ⟨by rfl, ?hy⟩) HSS.out ?_
          case hy => intro w9 hSw; obtain ⟨k0, s7, s8, s9⟩ := hSw; have s0 := blk_cell k0 0; have s1 := blk_cell k0 1; have s2 := blk_cell k0 2; have s3 := blk_cell k0 3; simp only [List.getElem?_toArray, List.getElem?_cons_succ, List.getElem?_cons_zero] at s0 s1 s2 s3; go_simp
          go_simp
          refine wpAnyH_take (i := 4) (v := .agg #[.int .i64 c.page, .int .i64 c.n, .int .i64 c.red, .int .i64 c.quarantine]) rfl (by kernel_rfl) (by kernel_rfl) (by kernel_rfl) (fun _ _ _ h => h) (Or.inl ⟨by rfl, ?hy⟩) HSS.out ?_
          case hy => intro w9 hSw; obtain ⟨k0, s7, s8, s9⟩ := hSw; have s0 := blk_cell k0 0; have s1 := blk_cell k0 1; have s2 := blk_cell k0 2; have s3 := blk_cell k0 3; simp only [List.getElem?_toArray, List.getElem?_cons_succ, List.getElem?_cons_zero] at s0 s1 s2 s3; go_simp
          go_simp
          refine wpAnyH_take (i := 5) (v := .slice (some ⟨bb, off, none⟩) k cl0) rfl (by kernel_rfl) (by kernel_rfl) (by kernel_rfl) (fun _ _ _ h => h) (Or.inl ⟨by rfl, ?hy⟩) HSS.out ?_
          case hy => intro w9 hSw; obtain ⟨k0, s7, s8, s9⟩ := hSw; have s0 := blk_cell k0 0; have s1 := blk_cell k0 1; have s2 := blk_cell k0 2; have s3 := blk_cell k0 3; simp only [List.getElem?_toArray, List.getElem?_cons_succ, List.getElem?_cons_zero] at s0 s1 s2 s3; go_simp
          go_simp
          refine wpAnyH_take (i := 6) (v := .int .i64 i) rfl (by kernel_rfl) (by kernel_rfl) (by kernel_rfl) (fun _ _ _ h => h) (Or.inl ⟨by rfl, ?hy⟩) HSS.out ?_
          case hy => intro w9 hSw; obtain ⟨k0, s7, s8, s9⟩ := hSw; have s0 := blk_cell k0 0; have s1 := blk_cell k0 1; have s2 := blk_cell k0 2; have s3 := blk_cell k0 3; simp only [List.getElem?_toArray, List.getElem?_cons_succ, List.getElem?_cons_zero] at s0 s1 s2 s3; go_simp
          go_simp
          refine wpAnyH_take (i := 7) (v := .pointer (some ⟨bb, off + i * 3, none⟩)) rfl (by kernel_rfl) (by kernel_rfl) (by kernel_rfl) (fun _ _ _ h => h) (Or.inl ⟨by rfl, ?hy⟩) HSS.out ?_
          case hy => intro w9 hSw; obtain ⟨k0, s7, s8, s9⟩ := hSw; have s0 := blk_cell k0 0; have s1 := blk_cell k0 1; have s2 := blk_cell k0 2; have s3 := blk_cell k0 3; simp only [List.getElem?_toArray, List.getElem?_cons_succ, List.getElem?_cons_zero] at s0 s1 s2 s3; go_simp
          go_simp
          refine wpAnyH_take (i := 8) (v := .agg #[.int .u32 p.pos, .int .i64 p.size, .int .i64 p.born]) rfl (by kernel_rfl) (by kernel_rfl) (by kernel_rfl) (fun _ _ _ h => h) (Or.inl ⟨by rfl, ?hy⟩) HSS.out ?_
          case hy => intro w9 hSw; obtain ⟨k0, s7, s8, s9⟩ := hSw; have s0 := blk_cell k0 0; have s1 := blk_cell k0 1; have s2 := blk_cell k0 2; have s3 := blk_cell k0 3; simp only [List.getElem?_toArray, List.getElem?_cons_succ, List.getElem?_cons_zero] at s0 s1 s2 s3; go_simp
          go_simp
          refine wpAnyH_take (i := 10) (v := .int .i64 at_) rfl (by kernel_rfl) (by kernel_rfl) (by kernel_rfl) (fun _ _ _ h => h) (Or.inl ⟨by rfl, ?hy⟩) HSS.out ?_
          case hy => intro w9 hSw; obtain ⟨k0, s7, s8, s9⟩ := hSw; have s0 := blk_cell k0 0; have s1 := blk_cell k0 1; have s2 := blk_cell k0 2; have s3 := blk_cell k0 3; simp only [List.getElem?_toArray, List.getElem?_cons_succ, List.getElem?_cons_zero] at s0 s1 s2 s3; go_simp
          go_simp
          refine wpAnyH_ready (rs := [9]) (by kernel_rfl) (by simp) ?_
          refine AllReadyH.cons rfl (fun K hK => ?_) AllReadyH.nil
          go_simp
          refine Calls.mono (c62 c.page c.n c.red c.quarantine p _ r0 r1 hpw) ?_
          rintro e w6 ⟨rfl, hB6⟩
          have hXw6 : Below X.heap.size X w6 := (Below.refl _ _).drew.trans hB6
          have HB6 : Hid (Below w1.heap.size w1 w6) := x1.trans (hXw6.mono x1.size)
          have hown6 := own_below x4 hXw6
          have hu7 : IntKind.i64.wrap (p.pos - c.red - at_) = p.pos - c.red - at_ := by rw [IntKind.wrap_i64]; omega
          refine hK.out _ _ ⟨(hXw6.block _ (blk_lt x2)).trans x2, (hXw6.cell (p := ⟨bb, off + i * 3, none⟩) x3.1).trans HSS.out.2.1, (hXw6.cell (p := ⟨bb, off + i * 3 + 1, none⟩) x3.1).trans HSS.out.2.2.1, (hXw6.cell (p := ⟨bb, off + i * 3 + 2, none⟩) x3.1).trans HSS.out.2.2.2⟩ (fun hSS => ?_)
          clear hK K HSS
          have HSS := Lib.hid hSS
          clear hSS
          refine wpAnyH_take (i := 11) (v := .int .i64 (p.pos - c.red - at_)) rfl (by kernel_rfl) (by kernel_rfl) (by kernel_rfl) (fun _ _ _ h => h) (Or.inl ⟨by rfl, ?hy⟩) HSS.out ?_
          case hy => intro w9 hSw; obtain ⟨k0, s7, s8, s9⟩ := hSw; have s0 := blk_cell k0 0; have s1 := blk_cell k0 1; have s2 := blk_cell k0 2; have s3 := blk_cell k0 3; simp only [List.getElem?_toArray, List.getElem?_cons_succ, List.getElem?_cons_zero] at s0 s1 s2 s3; go_simp
          go_simp
          refine wpAnyH_take (i := 12) (v := .agg #[.int .u32 at_, .int .i64 (p.pos - c.red - at_)]) rfl (by kernel_rfl) (by kernel_rfl) (by kernel_rfl) (fun _ _ _ h => h) (Or.inl ⟨by rfl, ?hy⟩) HSS.out ?_
          case hy => intro w9 hSw; obtain ⟨k0, s7, s8, s9⟩ := hSw; have s0 := blk_cell k0 0; have s1 := blk_cell k0 1; have s2 := blk_cell k0 2; have s3 := blk_cell k0 3; simp only [List.getElem?_toArray, List.getElem?_cons_succ, List.getElem?_cons_zero] at s0 s1 s2 s3; go_simp
          go_simp
          refine wpAnyH_ready (rs := [13]) (by kernel_rfl) (by simp) ?_
          refine AllReadyH.cons rfl (fun K hK => ?_) AllReadyH.nil
          go_simp
          refine hK.out _ _ ⟨hal_old HSS.out.1, cells_alloc HSS.out.2.1, cells_alloc HSS.out.2.2.1, cells_alloc HSS.out.2.2.2⟩ (fun hSS => ?_)
          clear hK K HSS
          have HSS := Lib.hid hSS
          clear hSS
          have ho7 : (w6.alloc (.cells #[.int .u32 at_, .int .i64 (p.pos - c.red - at_)] 53)).ownsRow w1.heap.size 53 2 (.slice AS nS kS) S.length (S.flatMap encN) := hown6.alloc _
          obtain ⟨v5, w5, hrun, ho5, hg5⟩ := append_one53 w1.heap.size _ S (at_, p.pos - c.red - at_) w6.heap.size _ ho7 (hal_new rfl) (by omega) (by have := HB6.out.size; simp; omega)
          have hb15 : Below w1.heap.size w1 w5 := (HB6.out.alloc HB6.out.size _).trans (below_of_grown hg5 (by have := HB6.out.size; simp; omega) (fun j e => (own_lt ho7 j e).1))
          have HX1 := Lib.hid hb15
          have HX4 := Lib.hid ho5
          refine wpAnyH_ready (rs := [14]) (by kernel_rfl) (by simp) ?_
          refine AllReadyH.cons rfl (fun K hK => ?_) AllReadyH.nil
          refine step_append_run rfl _ _ _ _ rfl _ _ rfl rfl v5 w5 hrun ?_
          have x25 := (hb15.block _ hlt0).trans HY0.out
          have hl5 := hL0.below hb15
          obtain ⟨n0, n1, n2⟩ := hl5.at3 i hil
          rw [HP.out] at n0 n1 n2
          refine hK.out _ _ ⟨x25, n0, n1, n2⟩ (fun hSS => ?_)
          clear hK K HSS hg5 ho7 hrun
          have HSS := Lib.hid hSS
          clear hSS n0 n1 n2
          obtain ⟨A5, n5, k5, e5⟩ : ∃ A n k, v5 = .slice A n k := by obtain ⟨A, c', h, _⟩ := sl_of_own HX4.out rfl; exact ⟨A, _, c', h⟩
          subst e5
          go_simp
          refine wpAnyH_take (i := 15) (v := .slice A5 n5 k5) rfl (by kernel_rfl) (by kernel_rfl) (by kernel_rfl) (fun _ _ _ h => h) (Or.inl ⟨by rfl, ?hy⟩) HSS.out ?_
          case hy => intro w9 hSw; obtain ⟨k0, s7, s8, s9⟩ := hSw; have s0 := blk_cell k0 0; have s1 := blk_cell k0 1; have s2 := blk_cell k0 2; have s3 := blk_cell k0 3; simp only [List.getElem?_toArray, List.getElem?_cons_succ, List.getElem?_cons_zero] at s0 s1 s2 s3; go_simp
          go_simp
          refine wpAnyH_done (by kernel_rfl) ?_ _
          go_simp
          clear x1 x2 x3 x4 hown6 hb15 ho5 HB6 hXw6
          refine gen_worldQ (fun X => Below w1.heap.size w1 X ∧ X.heap[w.heap.size]? = some (.cells #[.int .i64 c.page, .int .i64 c.n, .int .i64 c.red, .int .i64 c.quarantine, .slice A live.length ca, .slice B quar.length cb, .int .i64 gi] 26 (0, 0)) ∧ Lies 3 encP X bb off l ∧ X.ownsRow w1.heap.size 53 2 (.slice A5 n5 k5) (S ++ [(at_, p.pos - c.red - at_)]).length ((S ++ [(at_, p.pos - c.red - at_)]).flatMap encN)) ⟨HX1.out, x25, hl5, HX4.out⟩ ?_
          clear x25 hl5 HX1 HX4 HSS
          rintro X ⟨x1, x2, x3, x4⟩
          have X1 := Lib.hid x1
          have X4 := Lib.hid x4
          have X3 := Lib.hid x3
          have m0 : ∀ d os, (far X d os).cell? ⟨bb, off + i * 3, none⟩ = some (.int .u32 l[i]!.pos) := far_cell x3.1 (x3.2 i hil 0 _ rfl)
          have m1 : ∀ d os, (far X d os).cell? ⟨bb, off + i * 3 + 1, none⟩ = some (.int .i64 l[i]!.size) := far_cell x3.1 (x3.2 i hil 1 _ rfl)
          have m2 : ∀ d os, (far X d os).cell? ⟨bb, off + i * 3 + 2, none⟩ = some (.int .i64 l[i]!.born) := far_cell x3.1 (x3.2 i hil 2 _ rfl)
          rw [HP.out] at m0 m1 m2
          have z0 : ∀ d os, (far X d os).cell? ⟨w.heap.size, 0, none⟩ = some (.int .i64 c.page) := far_cell (blk_lt x2) (blk_cell x2 0)
          have z1 : ∀ d os, (far X d os).cell? ⟨w.heap.size, 1, none⟩ = some (.int .i64 c.n) := far_cell (blk_lt x2) (blk_cell x2 1)
          have z2 : ∀ d os, (far X d os).cell? ⟨w.heap.size, 2, none⟩ = some (.int .i64 c.red) := far_cell (blk_lt x2) (blk_cell x2 2)
          have z3 : ∀ d os, (far X d os).cell? ⟨w.heap.size, 3, none⟩ = some (.int .i64 c.quarantine) := far_cell (blk_lt x2) (blk_cell x2 3)
          clear x1 x2 x3 x4
          go_wp2
          refine wp_region_far hmx (by kernel_rfl) ?_
          repeat (go_big_quiet_step ((first | (go_at_call 62; exact Calls.far_of (c62 c.page c.n c.red c.quarantine _ _ r0 r1 (by assumption))) | (go_at_call 64; exact Calls.far_of (c64 c.page c.n c.red c.quarantine _ _ r0 r1 (by assumption) (by assumption) (by assumption))))))
          refine wpQuiet_nil ?_
          intro _ hw'
          obtain ⟨⟨d', os'⟩, hw''⟩ := hw'
          subst hw''
          go_wp2
          go_roundg (suf'.length)
          case measure => have := HSUF.out; omega
          case rel => exact ⟨p.pos + max p.size 1 + c.red, pre ++ [x], suf', S ++ [(at_, p.pos - c.red - at_)], _, _, _, rfl, rfl, by omega, by omega, Nat.le_refl _, (by rw [← H3.out]; rw [← H3.out] at HA'; exact HA'.out), (by have h := HGO.out; rw [if_pos HGAP.out] at h; show _ = spans c L; simpa using h), own_below X4.out (below_far X d' os'), X1.out.trans ((below_far X d' os').mono X1.out.size)⟩
        · have d1 : decide (at_ < p.pos - c.red) = false := decide_eq_false hgap
          have HGAP : Hid (¬ at_ < p.pos - c.red) := hgap
          go_wp2
          refine wp_region_far hmx (by kernel_rfl) ?_
          repeat (go_big_quiet_step ((first | (go_at_call 62; exact Calls.far_of (c62 c.page c.n c.red c.quarantine _ _ r0 r1 (by assumption))) | (go_at_call 64; exact Calls.far_of (c64 c.page c.n c.red c.quarantine _ _ r0 r1 (by assumption) (by assumption) (by assumption))))))
          refine wpQuiet_nil ?_
          intro _ hw'
          obtain ⟨⟨d, os⟩, hw''⟩ := hw'
          subst hw''
          have HB14 : Hid (Below w1.heap.size w1 (far wr d os)) := HB13.out.trans ((below_far wr d os).mono hsr3)
          have hbr4 := (HB14.out.block _ hlt0).trans HY0.out
          have hL4 := HLw.out.below (below_far wr d os)
          have HOWN4 : Hid ((far wr d os).ownsRow w1.heap.size 53 2 (.slice AS nS kS) S.length (S.flatMap encN)) := own_below HOWN3.out (below_far wr d os)
          refine gen_worldQ (fun X => Below w1.heap.size w1 X ∧ X.heap[w.heap.size]? = some (.cells #[.int .i64 c.page, .int .i64 c.n, .int .i64 c.red, .int .i64 c.quarantine, .slice A live.length ca, .slice B quar.length cb, .int .i64 gi] 26 (0, 0)) ∧ Lies 3 encP X bb off l ∧ X.ownsRow w1.heap.size 53 2 (.slice AS nS kS) S.length (S.flatMap encN)) ⟨HB14.out, hbr4, hL4, HOWN4.out⟩ ?_
          rintro X ⟨x1, x2, x3, x4⟩
          clear m0 m1 m2 z0 z1 z2 z3 hbr4 hL4 HB14 HOWN4
          have X1 := Lib.hid x1
          have X4 := Lib.hid x4
          have X3 := Lib.hid x3
          have m0 : ∀ d os, (far X d os).cell? ⟨bb, off + i * 3, none⟩ = some (.int .u32 l[i]!.pos) := far_cell x3.1 (x3.2 i hil 0 _ rfl)
          have m1 : ∀ d os, (far X d os).cell? ⟨bb, off + i * 3 + 1, none⟩ = some (.int .i64 l[i]!.size) := far_cell x3.1 (x3.2 i hil 1 _ rfl)
          have m2 : ∀ d os, (far X d os).cell? ⟨bb, off + i * 3 + 2, none⟩ = some (.int .i64 l[i]!.born) := far_cell x3.1 (x3.2 i hil 2 _ rfl)
          rw [HP.out] at m0 m1 m2
          have z0 : ∀ d os, (far X d os).cell? ⟨w.heap.size, 0, none⟩ = some (.int .i64 c.page) := far_cell (blk_lt x2) (blk_cell x2 0)
          have z1 : ∀ d os, (far X d os).cell? ⟨w.heap.size, 1, none⟩ = some (.int .i64 c.n) := far_cell (blk_lt x2) (blk_cell x2 1)
          have z2 : ∀ d os, (far X d os).cell? ⟨w.heap.size, 2, none⟩ = some (.int .i64 c.red) := far_cell (blk_lt x2) (blk_cell x2 2)
          have z3 : ∀ d os, (far X d os).cell? ⟨w.heap.size, 3, none⟩ = some (.int .i64 c.quarantine) := far_cell (blk_lt x2) (blk_cell x2 3)
          clear x1 x2 x3 x4
          go_wp2
          refine wp_region_far hmx (by kernel_rfl) ?_
          repeat (go_big_quiet_step ((first | (go_at_call 62; exact Calls.far_of (c62 c.page c.n c.red c.quarantine _ _ r0 r1 (by assumption))) | (go_at_call 64; exact Calls.far_of (c64 c.page c.n c.red c.quarantine _ _ r0 r1 (by assumption) (by assumption) (by assumption))))))
          refine wpQuiet_nil ?_
          intro _ hw'
          obtain ⟨⟨d', os'⟩, hw''⟩ := hw'
          subst hw''
          go_wp2
          go_roundg (suf'.length)
          case measure => have := HSUF.out; omega
          case rel => exact ⟨p.pos + max p.size 1 + c.red, pre ++ [x], suf', S, _, _, _, rfl, rfl, by omega, by omega, Nat.le_refl _, (by rw [← H3.out]; rw [← H3.out] at HA'; exact HA'.out), (by have h := HGO.out; rw [if_neg (Int.not_lt.2 HGAP.out)] at h; show _ = spans c L; simpa using h), own_below X4.out (below_far X d' os'), X1.out.trans ((below_far X d' os').mono X1.out.size)⟩
end Go.Proofs.Ytbhbjcgbhklieaa
