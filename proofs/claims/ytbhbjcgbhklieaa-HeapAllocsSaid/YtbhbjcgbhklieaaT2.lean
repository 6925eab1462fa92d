/- The specification's place: the walk. -/
import Derived.Test.YtbhbjcgbhklieaaP5
import Derived.Test.YtbhbjcgbhklieaaF4
import Derived.BigQuiet
namespace Go.Proofs.Ytbhbjcgbhklieaa
open Go.RowKit Go.Shelf

set_option maxRecDepth 100000 in
set_option maxHeartbeats 4000000 in
theorem c83 (c : Conf) (lv qv : Value) (gi : Int) (live quar : List Piece) (L : List Ext) (size : Int) (w : World) (hl : Sl 3 encP w lv live) (hq : Sl 3 encP w qv quar) (wl : ∀ p ∈ live, WfP p) (wq : ∀ p ∈ quar, WfP p) (hO : Op c gi live quar L) (z0 : 0 ≤ size) (z1 : size ≤ 65536) :
    Calls Try.prog 83 #[hAgg c lv qv gi, .int .i64 size] w fun e w' => e = .returned (.int .i64 ((roomGo c.red size (gapsF c L)).getD (-1))) ∧ Below w.heap.size w w' := by
  have hgp := (good_iff wl wq).1 hO.good
  obtain ⟨⟨r0, r1⟩, hwf⟩ := good_wf hgp wl wq
  have hn1 := hgp.n1
  have hn2 := hgp.n2
  have hbc := hgp.conf
  simp only [okConf, decide_eq_true_eq] at hbc
  obtain ⟨e1, e2, e3, e4, e5, _, _, _, _⟩ := hbc
  have hB : Below w.heap.size w (w.alloc (.cells #[.int .i64 c.page, .int .i64 c.n, .int .i64 c.red, .int .i64 c.quarantine, lv, qv, .int .i64 gi] 26)) := below_alloc1 w _
  have h61 := c61 c lv qv gi live quar _ (hl.below hB) (hq.below hB) hn1 hn2
  have hstep := fun (s : Int) (pre suf : List Ext) (hs : 0 ≤ s) (hA : At L ((c.page + c.n) * 256) s pre suf) => place_step hO wl wq (size := size) z0 hs hA
  have hat0 : At L ((c.page + c.n) * 256) (c.page * 256) [] L := ⟨rfl, (fun _ hx => by cases hx), hO.ch⟩
  have H61 := Lib.hid h61
  have HSTEP := Lib.hid hstep
  have HAT0 := Lib.hid hat0
  have HB := Lib.hid hB
  obtain ⟨A, ca, rfl, _, _⟩ := id hl
  obtain ⟨B, cb, rfl, _, _⟩ := hq
  clear h61 hstep hat0 hB wl wq hl hgp hO
  have hmx : Try.prog.follows .mixedOrders = true := by kernel_rfl
  go_enter Try.func83, Try.ntmps83
  go_wp2_with fail
  refine Calls.mono H61.out ?_
  clear H61
  rintro e w1 ⟨v, rfl, hB1, ho1⟩
  have hb0 : w1.heap[w.heap.size]? = some (.cells #[.int .i64 c.page, .int .i64 c.n, .int .i64 c.red, .int .i64 c.quarantine, .slice A live.length ca, .slice B quar.length cb, .int .i64 gi] 26 (0, 0)) := (hB1.block _ (by simp)).trans (hal_new rfl)
  have HBW : Hid (Below w.heap.size w w1) := HB.out.trans (hB1.mono (by simp))
  obtain ⟨l, hll⟩ : ∃ l, live ++ quar = l := ⟨_, rfl⟩
  have hF := Fresh.of_own ho1 rfl
  rw [hll] at hF hwf HSTEP
  obtain ⟨AL, cl, hAL, hcl, hlies⟩ := hF.sl
  have hlen : (live ++ quar).length = l.length := by rw [hll]
  subst hAL
  obtain ⟨N, hN⟩ : ∃ N, l.length = N := ⟨_, rfl⟩
  have hN2 : N ≤ 2000 := by rw [← hN, ← hlen, List.length_append]; omega
  rw [hN] at HSTEP hcl ⊢
  have HY0 := Lib.hid hb0
  have HLIES := Lib.hid hlies
  have HWF := Lib.hid hwf
  have HN := Lib.hid hN
  have hlt0 : w.heap.size < w1.heap.size := blk_lt hb0
  have f0 : ∀ d os, (far w1 d os).cell? ⟨w.heap.size, 0, none⟩ = some (.int .i64 c.page) := far_cell (blk_lt hb0) (blk_cell hb0 0)
  have f1 : ∀ d os, (far w1 d os).cell? ⟨w.heap.size, 1, none⟩ = some (.int .i64 c.n) := far_cell (blk_lt hb0) (blk_cell hb0 1)
  have f2 : ∀ d os, (far w1 d os).cell? ⟨w.heap.size, 2, none⟩ = some (.int .i64 c.red) := far_cell (blk_lt hb0) (blk_cell hb0 2)
  have f3 : ∀ d os, (far w1 d os).cell? ⟨w.heap.size, 3, none⟩ = some (.int .i64 c.quarantine) := far_cell (blk_lt hb0) (blk_cell hb0 3)
  have hs1 : IntKind.i64.wrap (c.page * 256 + c.red) = c.page * 256 + c.red := by rw [IntKind.wrap_i64]; omega
  clear hB1 ho1 hF hll hlies hwf hN hlen hb0 HB
  go_wp2
  refine wp_region_far hmx (by kernel_rfl) ?_
  repeat (go_big_quiet_step ((first | (go_at_call 63; exact Calls.far_of (c63 c.page c.n c.red c.quarantine _ (by omega) (by omega))) | (go_at_call 65; exact Calls.far_of (c65 c.page c.n c.red c.quarantine _ (by omega) (by omega) (by omega) (by omega))) | (go_at_call 66; exact Calls.far_of (c66 c.page c.n c.red c.quarantine x ⟨a, size, 0⟩ _ r0 r1 hpw hap0 hp0 hp1 z0 z1)) | (go_at_call 64; exact Calls.far_of (c64 c.page c.n c.red c.quarantine x _ r0 r1 hpw hp0 hp1)))))
  refine wpQuiet_nil ?_
  intro _ hw'
  obtain ⟨⟨d, os⟩, hw''⟩ := hw'
  subst hw''
  clear hs1
  have hff : (c.page * 256 + c.red + 8 - 1) / 8 * 8 = firstF c.red (c.page * 256) := by unfold firstF; omega
  refine gen_worldQ (fun X => Below w1.heap.size w1 X) (below_far w1 d os) ?_
  rintro X hX
  have HX := Lib.hid hX
  clear hX
  go_wp2
  go_loopg [6] L.length (fun kx s6 wr => ∃ (s : Int) (pre suf : List Ext), s6 = .int .i64 (firstF c.red s) ∧ 0 ≤ s ∧ s ≤ (c.page + c.n) * 256 ∧ suf.length ≤ kx ∧ Hid (At L ((c.page + c.n) * 256) s pre suf) ∧ Hid (roomGo c.red size (gapsGo ((c.page + c.n) * 256) s suf) = roomGo c.red size (gapsF c L)) ∧ Hid (Below w1.heap.size w1 wr))
  case atStart => exact ⟨c.page * 256, [], L, (by first | rfl | rw [hff]), by omega, by omega, Nat.le_refl _, HAT0.out, rfl, HX.out⟩
  case round =>
    obtain ⟨s, pre, suf, rfl, s0, s1, hkx, HAT, HRM, HBr⟩ := hrel
    have hsr := HBr.out.size
    have hst := HSTEP.out s pre suf s0 HAT.out
    have ha0 : s + c.red ≤ firstF c.red s ∧ firstF c.red s ≤ s + c.red + 7 := by unfold firstF; omega
    obtain ⟨a, ha⟩ : ∃ a, firstF c.red s = a := ⟨_, rfl⟩
    rw [ha] at hst ha0 ⊢
    have HST := Lib.hid hst
    clear hst ha hff
    go_wp2
    refine gen_worldP (fun X => Below wr.heap.size wr X ∧ X.heap[wr.heap.size]? = some (.cells #[.int .u32 (IntKind.u32.wrap a), .int .i64 size, .int .i64 0] 38 (0, 0))) ⟨below_alloc1 wr _, hal_new rfl⟩ ?_
    rintro X1 ⟨x1, x2⟩
    have hbx := (x1.block _ (by omega : w.heap.size < wr.heap.size)).trans ((HBr.out.block _ hlt0).trans HY0.out)
    have g0 : ∀ d os, (far X1 d os).cell? ⟨w.heap.size, 0, none⟩ = some (.int .i64 c.page) := far_cell (blk_lt hbx) (blk_cell hbx 0)
    have g1 : ∀ d os, (far X1 d os).cell? ⟨w.heap.size, 1, none⟩ = some (.int .i64 c.n) := far_cell (blk_lt hbx) (blk_cell hbx 1)
    have g2 : ∀ d os, (far X1 d os).cell? ⟨w.heap.size, 2, none⟩ = some (.int .i64 c.red) := far_cell (blk_lt hbx) (blk_cell hbx 2)
    have g3 : ∀ d os, (far X1 d os).cell? ⟨w.heap.size, 3, none⟩ = some (.int .i64 c.quarantine) := far_cell (blk_lt hbx) (blk_cell hbx 3)
    have hs2 : IntKind.i64.wrap (a + max size 1) = a + max size 1 := by rw [IntKind.wrap_i64]; omega
    have hs3 : IntKind.i64.wrap (a + max size 1 + c.red) = a + max size 1 + c.red := by rw [IntKind.wrap_i64]; omega
    have XX1 := Lib.hid x1
    have XX2 := Lib.hid x2
    clear x1 x2 hbx
    by_cases hend : (c.page + c.n) * 256 < a + max size 1 + c.red
    · have d1 : decide ((c.page + c.n) * 256 < a + max size 1 + c.red) = true := decide_eq_true hend
      refine wp_region_far hmx (by kernel_rfl) ?_
      repeat (go_big_quiet_step ((first | (go_at_call 63; exact Calls.far_of (c63 c.page c.n c.red c.quarantine _ (by omega) (by omega))) | (go_at_call 65; exact Calls.far_of (c65 c.page c.n c.red c.quarantine _ (by omega) (by omega) (by omega) (by omega))) | (go_at_call 66; exact Calls.far_of (c66 c.page c.n c.red c.quarantine x ⟨a, size, 0⟩ _ r0 r1 hpw hap0 hp0 hp1 z0 z1)) | (go_at_call 64; exact Calls.far_of (c64 c.page c.n c.red c.quarantine x _ r0 r1 hpw hp0 hp1)))))
      refine wpQuiet_nil ?_
      intro _ hw'
      obtain ⟨⟨d, os⟩, hw''⟩ := hw'
      subst hw''
      go_wp2
      go_ret
      exact ⟨ret_int (by rw [← HRM.out, HST.out.1 hend]; rfl), HBW.out.trans ((HBr.out.trans ((XX1.out.trans ((below_far X1 d os).mono XX1.out.size)).mono hsr)).mono (by omega))⟩
    have d1 : decide ((c.page + c.n) * 256 < a + max size 1 + c.red) = false := decide_eq_false hend
    have hu : IntKind.u32.wrap a = a := by simp only [IntKind.wrap, IntKind.bits, IntKind.signed]; simp; omega
    have hap0 : WfP ⟨a, size, 0⟩ := ⟨by show 0 ≤ a; omega, by show a < 4294967296; omega⟩
    refine wp_region_far hmx (by kernel_rfl) ?_
    repeat (go_big_quiet_step ((first | (go_at_call 63; exact Calls.far_of (c63 c.page c.n c.red c.quarantine _ (by omega) (by omega))) | (go_at_call 65; exact Calls.far_of (c65 c.page c.n c.red c.quarantine _ (by omega) (by omega) (by omega) (by omega))) | (go_at_call 66; exact Calls.far_of (c66 c.page c.n c.red c.quarantine x ⟨a, size, 0⟩ _ r0 r1 hpw hap0 hp0 hp1 z0 z1)) | (go_at_call 64; exact Calls.far_of (c64 c.page c.n c.red c.quarantine x _ r0 r1 hpw hp0 hp1)))))
    refine wpQuiet_nil ?_
    intro _ hw'
    obtain ⟨⟨d, os⟩, hw''⟩ := hw'
    subst hw''
    go_simp
    refine gen_worldQ (fun Y => Below wr.heap.size wr Y ∧ Y.heap[wr.heap.size]? = some (.cells #[.int .u32 a, .int .i64 size, .int .i64 0] 38 (0, 0))) ⟨XX1.out.trans ((below_far X1 d os).mono XX1.out.size), by rw [← hu]; rw [hu]; have h := ((below_far X1 d os).block _ (blk_lt XX2.out)).trans XX2.out; rw [hu] at h; exact h⟩ ?_
    rintro Y ⟨y1, y2⟩
    clear hs2 hs3 hu g0 g1 g2 g3 XX1 XX2
    have Y1 := Lib.hid y1
    have Y2 := Lib.hid y2
    have hltY : wr.heap.size < Y.heap.size := blk_lt y2
    clear y1 y2
    obtain ⟨wz, rfl⟩ : ∃ wz : World, wz = wr := ⟨_, rfl⟩
    obtain ⟨gz, rfl⟩ : ∃ gz, gz = gk := ⟨_, rfl⟩
    have hltc : w.heap.size < Y.heap.size := by omega
    go_wp2
    go_loopg [8] N (fun kx s8 wr => ∃ k : Nat, k ≤ N ∧ s8 = .int .i64 k ∧ N - k ≤ kx ∧ Hid (badGo c.red ⟨a, size, 0⟩ (l.drop k) k = badGo c.red ⟨a, size, 0⟩ l 0) ∧ Hid (Below Y.heap.size Y wr))
    case atStart => exact ⟨0, Nat.zero_le _, rfl, by omega, rfl, Below.refl _ _⟩
    case round =>
      obtain ⟨k, hk, rfl, hkx2, HBAD, HBt⟩ := hrel
      have HB1 : Hid (Below w1.heap.size w1 wr) := HBr.out.trans ((Y1.out.trans (HBt.out.mono Y1.out.size)).mono hsr)
      have hbx := (HB1.out.block _ hlt0).trans HY0.out
      have hpx := (HBt.out.block _ hltY).trans Y2.out
      have hst := HBt.out.size
      have g0 : ∀ d os, (far wr d os).cell? ⟨w.heap.size, 0, none⟩ = some (.int .i64 c.page) := far_cell (blk_lt hbx) (blk_cell hbx 0)
      have g1 : ∀ d os, (far wr d os).cell? ⟨w.heap.size, 1, none⟩ = some (.int .i64 c.n) := far_cell (blk_lt hbx) (blk_cell hbx 1)
      have g2 : ∀ d os, (far wr d os).cell? ⟨w.heap.size, 2, none⟩ = some (.int .i64 c.red) := far_cell (blk_lt hbx) (blk_cell hbx 2)
      have g3 : ∀ d os, (far wr d os).cell? ⟨w.heap.size, 3, none⟩ = some (.int .i64 c.quarantine) := far_cell (blk_lt hbx) (blk_cell hbx 3)
      have p0 : ∀ d os, (far wr d os).cell? ⟨wz.heap.size, 0, none⟩ = some (.int .u32 a) := far_cell (blk_lt hpx) (blk_cell hpx 0)
      have p1 : ∀ d os, (far wr d os).cell? ⟨wz.heap.size, 1, none⟩ = some (.int .i64 size) := far_cell (blk_lt hpx) (blk_cell hpx 1)
      have p2 : ∀ d os, (far wr d os).cell? ⟨wz.heap.size, 2, none⟩ = some (.int .i64 0) := far_cell (blk_lt hpx) (blk_cell hpx 2)
      clear hbx hpx
      by_cases hlt : k < N
      · have hkl : k < l.length := by rw [HN.out]; exact hlt
        obtain ⟨bb, off, rfl, hL⟩ := HLIES.out.resolve_left (by rintro rfl; simp at hkl)
        have hLw := hL.below HB1.out
        obtain ⟨hpw, hp0, hp1⟩ := HWF.out l[k]! (by rw [getElem!_pos l k hkl]; exact List.getElem_mem hkl)
        have hd := badGo_drop c.red ⟨a, size, 0⟩ l k hkl
        rw [HBAD.out] at hd
        have m0 : ∀ d os, (far wr d os).cell? ⟨bb, off + k * 3, none⟩ = some (.int .u32 l[k]!.pos) := far_cell hLw.1 (hLw.2 k hkl 0 _ rfl)
        have m1 : ∀ d os, (far wr d os).cell? ⟨bb, off + k * 3 + 1, none⟩ = some (.int .i64 l[k]!.size) := far_cell hLw.1 (hLw.2 k hkl 1 _ rfl)
        have m2 : ∀ d os, (far wr d os).cell? ⟨bb, off + k * 3 + 2, none⟩ = some (.int .i64 l[k]!.born) := far_cell hLw.1 (hLw.2 k hkl 2 _ rfl)
        have i4 : (k : Int) < (N : Int) := by omega
        have d3 : decide ((k : Int) < (N : Int)) = true := decide_eq_true i4
        have hnx := fun (h : badGo c.red ⟨a, size, 0⟩ l 0 = k) => HST.out.2.2 hend k hlt h
        have HLZ := Lib.hid hL
        obtain ⟨x, hx⟩ : ∃ x, l[k]! = x := ⟨_, rfl⟩
        have HXX := Lib.hid hx
        rw [hx] at hpw hp0 hp1 hd m0 m1 m2 hnx
        have HD := Lib.hid hd
        clear hd hL hLw hx
        by_cases hap : DjP c.red x ⟨a, size, 0⟩
        · have d4 : decide (DjP c.red x ⟨a, size, 0⟩) = true := decide_eq_true hap
          go_wp2
          refine wp_region_far hmx (by kernel_rfl) ?_
          repeat (go_big_quiet_step ((first | (go_at_call 63; exact Calls.far_of (c63 c.page c.n c.red c.quarantine _ (by omega) (by omega))) | (go_at_call 65; exact Calls.far_of (c65 c.page c.n c.red c.quarantine _ (by omega) (by omega) (by omega) (by omega))) | (go_at_call 66; exact Calls.far_of (c66 c.page c.n c.red c.quarantine x ⟨a, size, 0⟩ _ r0 r1 hpw hap0 hp0 hp1 z0 z1)) | (go_at_call 64; exact Calls.far_of (c64 c.page c.n c.red c.quarantine x _ r0 r1 hpw hp0 hp1)))))
          refine wpQuiet_nil ?_
          intro _ hw'
          obtain ⟨⟨d, os⟩, hw''⟩ := hw'
          subst hw''
          go_wp2
          go_roundg (N - (k + 1))
          case measure => omega
          case rel => exact ⟨k + 1, by omega, by go_num, Nat.le_refl _, (by rw [HD.out, if_pos hap] : badGo c.red ⟨a, size, 0⟩ (l.drop (k + 1)) (k + 1) = badGo c.red ⟨a, size, 0⟩ l 0), HBt.out.trans ((below_far wr d os).mono hst)⟩
        · have d4 : decide (DjP c.red x ⟨a, size, 0⟩) = false := decide_eq_false hap
          obtain ⟨pre', suf', n1, n2, n3, n4, n5⟩ := hnx (by rw [HD.out, if_neg hap])
          have N1 := Lib.hid n1
          have N5 : Hid (roomGo c.red size (gapsGo ((c.page + c.n) * 256) (x.pos + max x.size 1 + c.red) suf') = roomGo c.red size (gapsF c L)) := n5.symm.trans HRM.out
          have d5 : ((k : Int) == (N : Int)) = false := by simp; omega
          clear n1 n5 hnx
          go_wp2
          refine wp_region_far hmx (by kernel_rfl) ?_
          repeat (go_big_quiet_step ((first | (go_at_call 63; exact Calls.far_of (c63 c.page c.n c.red c.quarantine _ (by omega) (by omega))) | (go_at_call 65; exact Calls.far_of (c65 c.page c.n c.red c.quarantine _ (by omega) (by omega) (by omega) (by omega))) | (go_at_call 66; exact Calls.far_of (c66 c.page c.n c.red c.quarantine x ⟨a, size, 0⟩ _ r0 r1 hpw hap0 hp0 hp1 z0 z1)) | (go_at_call 64; exact Calls.far_of (c64 c.page c.n c.red c.quarantine x _ r0 r1 hpw hp0 hp1)))))
          refine wpQuiet_nil ?_
          intro _ hw'
          obtain ⟨⟨d, os⟩, hw''⟩ := hw'
          subst hw''
          go_wp2
          refine gen_worldP (fun Z => Below wr.heap.size wr Z) (below_far wr d os) ?_
          rintro Z hZ
          have hbz := (hZ.block _ (by omega : w.heap.size < wr.heap.size)).trans ((HB1.out.block _ hlt0).trans HY0.out)
          have hLz := (HLZ.out.below HB1.out).below hZ
          have hmz : ∀ i u, (encP x)[i]? = some u → Z.cell? ⟨bb, off + k * 3 + i, none⟩ = some u := fun i u hu => hLz.2 k hkl i u (by rw [HXX.out]; exact hu)
          clear g0 g1 g2 g3 m0 m1 m2 p0 p1 p2
          have g0 : ∀ d os, (far Z d os).cell? ⟨w.heap.size, 0, none⟩ = some (.int .i64 c.page) := far_cell (blk_lt hbz) (blk_cell hbz 0)
          have g1 : ∀ d os, (far Z d os).cell? ⟨w.heap.size, 1, none⟩ = some (.int .i64 c.n) := far_cell (blk_lt hbz) (blk_cell hbz 1)
          have g2 : ∀ d os, (far Z d os).cell? ⟨w.heap.size, 2, none⟩ = some (.int .i64 c.red) := far_cell (blk_lt hbz) (blk_cell hbz 2)
          have g3 : ∀ d os, (far Z d os).cell? ⟨w.heap.size, 3, none⟩ = some (.int .i64 c.quarantine) := far_cell (blk_lt hbz) (blk_cell hbz 3)
          have m0 : ∀ d os, (far Z d os).cell? ⟨bb, off + k * 3, none⟩ = some (.int .u32 x.pos) := far_cell hLz.1 (hmz 0 _ rfl)
          have m1 : ∀ d os, (far Z d os).cell? ⟨bb, off + k * 3 + 1, none⟩ = some (.int .i64 x.size) := far_cell hLz.1 (hmz 1 _ rfl)
          have m2 : ∀ d os, (far Z d os).cell? ⟨bb, off + k * 3 + 2, none⟩ = some (.int .i64 x.born) := far_cell hLz.1 (hmz 2 _ rfl)
          have hxw0 := hpw.1
          have hxw1 := hpw.2
          have hs5 : IntKind.i64.wrap (x.pos + max x.size 1 + c.red + c.red) = x.pos + max x.size 1 + c.red + c.red := by rw [IntKind.wrap_i64]; omega
          have HZ := Lib.hid hZ
          clear hZ hbz hLz hmz
          refine wp_region_far hmx (by kernel_rfl) ?_
          repeat (go_big_quiet_step ((first | (go_at_call 63; exact Calls.far_of (c63 c.page c.n c.red c.quarantine _ (by omega) (by omega))) | (go_at_call 65; exact Calls.far_of (c65 c.page c.n c.red c.quarantine _ (by omega) (by omega) (by omega) (by omega))) | (go_at_call 66; exact Calls.far_of (c66 c.page c.n c.red c.quarantine x ⟨a, size, 0⟩ _ r0 r1 hpw hap0 hp0 hp1 z0 z1)) | (go_at_call 64; exact Calls.far_of (c64 c.page c.n c.red c.quarantine x _ r0 r1 hpw hp0 hp1)))))
          refine wpQuiet_nil ?_
          intro _ hw'
          obtain ⟨⟨d', os'⟩, hw''⟩ := hw'
          subst hw''
          have hff2 : (x.pos + max x.size 1 + c.red + c.red + 8 - 1) / 8 * 8 = firstF c.red (x.pos + max x.size 1 + c.red) := by unfold firstF; omega
          clear hs5
          go_wp2
          go_roundg (suf'.length)
          case measure => omega
          case rel => exact ⟨x.pos + max x.size 1 + c.red, pre', suf', (by first | rfl | rw [hff2]), n3, n4, Nat.le_refl _, N1.out, N5.out, HB1.out.trans ((HZ.out.trans ((below_far Z d' os').mono HZ.out.size)).mono HB1.out.size)⟩
      · obtain rfl : k = N := by omega
        have d3 : decide ((k : Int) < (k : Int)) = false := decide_eq_false (by omega)
        have hbl : badGo c.red ⟨a, size, 0⟩ l 0 = k := by rw [← HBAD.out, ← HN.out, List.drop_length]; rfl
        have hfin := HST.out.2.1 hend hbl
        have HFIN := Lib.hid hfin
        clear hbl hfin
        go_wp2
        refine wp_region_far hmx (by kernel_rfl) ?_
        repeat (go_big_quiet_step ((first | (go_at_call 63; exact Calls.far_of (c63 c.page c.n c.red c.quarantine _ (by omega) (by omega))) | (go_at_call 65; exact Calls.far_of (c65 c.page c.n c.red c.quarantine _ (by omega) (by omega) (by omega) (by omega))) | (go_at_call 66; exact Calls.far_of (c66 c.page c.n c.red c.quarantine x ⟨a, size, 0⟩ _ r0 r1 hpw hap0 hp0 hp1 z0 z1)) | (go_at_call 64; exact Calls.far_of (c64 c.page c.n c.red c.quarantine x _ r0 r1 hpw hp0 hp1)))))
        refine wpQuiet_nil ?_
        intro _ hw'
        obtain ⟨⟨d, os⟩, hw''⟩ := hw'
        subst hw''
        go_wp2
        go_ret
        exact ⟨ret_int (by rw [← HRM.out, HFIN.out]; rfl), HBW.out.trans ((HB1.out.trans ((below_far wr d os).mono HB1.out.size)).mono (by omega))⟩
end Go.Proofs.Ytbhbjcgbhklieaa
