/- The specification's Find. -/
import Derived.Test.YtbhbjcgbhklieaaQ1
namespace Go.Proofs.Ytbhbjcgbhklieaa
open Go.RowKit Go.Shelf

set_option maxRecDepth 100000 in
set_option maxHeartbeats 4000000 in
theorem c38 (c : Conf) (lv qv : Value) (gi : Int) (live quar : List Piece) (L : List Ext) (at_ : Int) (w : World) (hl : Sl 3 encP w lv live) (hq : Sl 3 encP w qv quar) (wl : ∀ p ∈ live, WfP p) (wq : ∀ p ∈ quar, WfP p) (hO : Op c gi live quar L) (h0 : 0 ≤ at_) (h1 : at_ < 4294967296) :
    Calls Try.prog 38 #[hAgg c lv qv gi, .int .u32 at_] w fun e w' => e = .returned (.agg #[.int .i64 (nearF L at_).1, .int .i64 (nearF L at_).2.1, .int .i64 (nearF L at_).2.2]) ∧ Below w.heap.size w w' := by
  have hgp := (good_iff wl wq).1 hO.good
  obtain ⟨⟨r0, r1⟩, hwf⟩ := good_wf hgp wl wq
  have hfind := rFind_eq hO wl wq at_
  have hn1 := hgp.n1
  have hn2 := hgp.n2
  have hB : Below w.heap.size w ((w.alloc (.cells #[.int .i64 c.page, .int .i64 c.n, .int .i64 c.red, .int .i64 c.quarantine, lv, qv, .int .i64 gi] 26)).alloc (.cells #[.int .i64 0, .int .i64 0, .int .i64 0] 48)) := (below_alloc1 w _).alloc (by simp) _
  have h18 := c18 c lv qv gi live quar _ (hl.below hB) (hq.below hB) wl wq
  have h61 := fun W (hW : Below w.heap.size w W) => c61 c lv qv gi live quar W (hl.below hW) (hq.below hW) hn1 hn2
  have H18 := Lib.hid h18
  have H61 := Lib.hid h61
  have HB := Lib.hid hB
  have HG := Lib.hid hgp
  obtain ⟨A, ca, rfl, _, _⟩ := id hl
  obtain ⟨B, cb, rfl, _, _⟩ := hq
  clear h18 h61 hB wl wq hl hgp hO
  go_enter Try.func38, Try.ntmps38
  go_wp2_with fail
  refine Calls.mono H18.out ?_
  clear H18
  rintro e w0 ⟨hB0, ⟨hg, rfl⟩ | ⟨hg, rfl⟩⟩
  · exact absurd HG.out hg
  have hb0 : w0.heap[w.heap.size]? = some (.cells #[.int .i64 c.page, .int .i64 c.n, .int .i64 c.red, .int .i64 c.quarantine, .slice A live.length ca, .slice B quar.length cb, .int .i64 gi] 26 (0, 0)) := (hB0.block _ (by simp; try omega)).trans (hal_old (hal_new rfl))
  have hb1 : w0.heap[w.heap.size + 1]? = some (.cells #[.int .i64 0, .int .i64 0, .int .i64 0] 48 (0, 0)) := (hB0.block _ (by simp; try omega)).trans (hal_new (by simp))
  have HBW0 : Hid (Below w.heap.size w w0) := HB.out.trans (hB0.mono (by simp; try omega))
  have q0 := blk_cell hb0 0
  have q1 := blk_cell hb0 1
  have q2 := blk_cell hb0 2
  have q3 := blk_cell hb0 3
  have q4 := blk_cell hb0 4
  have q5 := blk_cell hb0 5
  have q6 := blk_cell hb0 6
  simp only [List.getElem?_toArray, List.getElem?_cons_succ, List.getElem?_cons_zero] at q0 q1 q2 q3 q4 q5 q6
  have HX0 := Lib.hid hb0
  have HX1 := Lib.hid hb1
  clear hb0 hb1 hB0 hg
  go_wp2_with fail
  refine Calls.mono (H61.out w0 HBW0.out) ?_
  clear H61
  rintro e w1 ⟨v, rfl, hB1, ho1⟩
  obtain ⟨l, hll⟩ : ∃ l, live ++ quar = l := ⟨_, rfl⟩
  have hF := Fresh.of_own ho1 rfl
  rw [hll] at hF ho1 hwf hfind
  obtain ⟨AL, cl, rfl, hcl, hlies⟩ := hF.sl
  obtain ⟨N, hN⟩ : ∃ N, l.length = N := ⟨_, rfl⟩
  have hN2 : N ≤ 2000 := by rw [← hN, ← hll, List.length_append]; omega
  rw [hN]
  have HY0 := Lib.hid ((hB1.block _ (blk_lt HX0.out)).trans HX0.out)
  have HY1 := Lib.hid ((hB1.block _ (blk_lt HX1.out)).trans HX1.out)
  have HBW : Hid (Below w.heap.size w w1) := HBW0.out.trans (hB1.mono HBW0.out.size)
  have HLL := Lib.hid hll
  have HLIES := Lib.hid hlies
  have HWF := Lib.hid hwf
  have HN := Lib.hid hN
  have HFI := Lib.hid hfind
  have hlt0 : w.heap.size + 1 < w1.heap.size := blk_lt HY1.out
  clear hB1 ho1 hF hll hlies hwf hN hcl hfind q0 q1 q2 q3 q4 q5 q6 HX0 HX1 HBW0
  go_wp2
  go_loopg [6] N (fun kx s6 wr => ∃ k : Nat, k ≤ N ∧ s6 = .int .i64 k ∧ N - k ≤ kx ∧ Hid (rFindGo c.red at_ live.length (l.drop k) k = nearF L at_) ∧ Hid (Below w1.heap.size w1 wr))
  case atStart => exact ⟨0, Nat.zero_le _, rfl, by omega, HFI.out, Below.refl _ _⟩
  case round =>
    obtain ⟨k, hk, rfl, hkx, HF, HBr⟩ := hrel
    have hsr := HBr.out.size
    by_cases hlt : k < N
    · have hkl : k < l.length := by rw [HN.out]; exact hlt
      obtain ⟨bb, off, rfl, hL⟩ := HLIES.out.resolve_left (by rintro rfl; simp at hkl)
      obtain ⟨m0, m1, m2⟩ := (hL.below HBr.out).at3 k hkl
      obtain ⟨hpw, hp0, hp1⟩ := HWF.out l[k]! (by rw [getElem!_pos l k hkl]; exact List.getElem_mem hkl)
      have hd := rFindGo_drop c.red at_ live.length l k hkl
      rw [HF.out] at hd
      obtain ⟨p, hp⟩ : ∃ p, l[k]! = p := ⟨_, rfl⟩
      rw [hp] at m0 m1 m2 hpw hp0 hp1 hd
      have HD := Lib.hid hd
      have hbx := (HBr.out.block _ (by omega : w.heap.size < w1.heap.size)).trans HY0.out
      have q0 := blk_cell hbx 0
      have q1 := blk_cell hbx 1
      have q2 := blk_cell hbx 2
      have q3 := blk_cell hbx 3
      have q4 := blk_cell hbx 4
      have q5 := blk_cell hbx 5
      have q6 := blk_cell hbx 6
      simp only [List.getElem?_toArray, List.getElem?_cons_succ, List.getElem?_cons_zero] at q0 q1 q2 q3 q4 q5 q6
      have HHX := Lib.hid hbx
      have hbb : bb < wr.heap.size := Nat.lt_of_lt_of_le hL.1 hsr
      have hltr : w.heap.size < wr.heap.size := by omega
      clear hp hL hkl hd hbx HF
      go_wp2_with fail
      refine gen_worldC (fun W => Below w1.heap.size w1 W ∧ wr.heap.size < W.heap.size ∧ W.heap[wr.heap.size]? = some (.cells #[.int .u32 p.pos, .int .i64 p.size, .int .i64 p.born] 38 (0, 0)) ∧ W.heap[w.heap.size]? = some (.cells #[.int .i64 c.page, .int .i64 c.n, .int .i64 c.red, .int .i64 c.quarantine, .slice A live.length ca, .slice B quar.length cb, .int .i64 gi] 26 (0, 0))) ⟨HBr.out.alloc hsr _, by simp, hal_new rfl, hal_old HHX.out⟩ ?_
      rintro W ⟨hW1, hsW, hpb, hbx⟩
      clear q0 q1 q2 q3 q4 q5 q6 m0 m1 m2
      have HHW := Lib.hid hW1
      have HPB := Lib.hid hpb
      have HBX := Lib.hid hbx
      clear hW1 hpb hbx HHX
      refine Calls.mono (c62 c.page c.n c.red c.quarantine p W r0 r1 hpw) ?_
      rintro e w4 ⟨rfl, hB4⟩
      have hpb4 := (hB4.block _ hsW).trans HPB.out
      have hbx4 := (hB4.block _ (blk_lt HBX.out)).trans HBX.out
      have HW4 : Hid (Below w1.heap.size w1 w4) := HHW.out.trans (hB4.mono HHW.out.size)
      have q0 := blk_cell hbx4 0
      have q1 := blk_cell hbx4 1
      have q2 := blk_cell hbx4 2
      have q3 := blk_cell hbx4 3
      have q4 := blk_cell hbx4 4
      have q5 := blk_cell hbx4 5
      have q6 := blk_cell hbx4 6
      simp only [List.getElem?_toArray, List.getElem?_cons_succ, List.getElem?_cons_zero] at q0 q1 q2 q3 q4 q5 q6
      have m0 := blk_cell hpb4 0
      have m1 := blk_cell hpb4 1
      have m2 := blk_cell hpb4 2
      simp only [List.getElem?_toArray, List.getElem?_cons_succ, List.getElem?_cons_zero] at m0 m1 m2
      have HPB4 := Lib.hid hpb4
      have HBX4 := Lib.hid hbx4
      clear hpb4 hbx4 hB4 HHW HPB HBX
      have hw0 := hpw.1
      have hw1 := hpw.2
      by_cases t1 : at_ < p.pos - c.red
      · have HT : Hid (¬ inP c.red at_ p) := fun h => by unfold inP at h; omega
        have d1 : decide (at_ < p.pos - c.red) = true := decide_eq_true t1
        go_wp2
        go_roundg (N - (k + 1))
        case measure => omega
        case rel => exact ⟨k + 1, by omega, by go_num, Nat.le_refl _, (by rw [HD.out, if_neg HT.out] : rFindGo c.red at_ live.length (l.drop (k + 1)) (k + 1) = nearF L at_), HW4.out⟩
      · have d1 : decide (at_ < p.pos - c.red) = false := decide_eq_false t1
        go_wp2_with fail
        refine Calls.mono (c64 c.page c.n c.red c.quarantine p w4 r0 r1 hpw hp0 hp1) ?_
        rintro e w5 ⟨rfl, hB5⟩
        have hpb5 := (hB5.block _ (blk_lt HPB4.out)).trans HPB4.out
        have hbx5 := (hB5.block _ (blk_lt HBX4.out)).trans HBX4.out
        have HW5 : Hid (Below w1.heap.size w1 w5) := HW4.out.trans (hB5.mono HW4.out.size)
        have hbr5 := (HW5.out.block _ hlt0).trans HY1.out
        clear q0 q1 q2 q3 q4 q5 q6 m0 m1 m2
        have q0 := blk_cell hbx5 0
        have q1 := blk_cell hbx5 1
        have q2 := blk_cell hbx5 2
        have q3 := blk_cell hbx5 3
        have q4 := blk_cell hbx5 4
        have q5 := blk_cell hbx5 5
        have q6 := blk_cell hbx5 6
        simp only [List.getElem?_toArray, List.getElem?_cons_succ, List.getElem?_cons_zero] at q0 q1 q2 q3 q4 q5 q6
        have m0 := blk_cell hpb5 0
        have m1 := blk_cell hpb5 1
        have m2 := blk_cell hpb5 2
        simp only [List.getElem?_toArray, List.getElem?_cons_succ, List.getElem?_cons_zero] at m0 m1 m2
        have z0 := blk_cell hbr5 0
        have fz0 : w5.frozen? ⟨w.heap.size + 1, 0, none⟩ = false := frozen_of_row _ _ _ _ _ hbr5
        have z1 := blk_cell hbr5 1
        have fz1 : w5.frozen? ⟨w.heap.size + 1, 1, none⟩ = false := frozen_of_row _ _ _ _ _ hbr5
        have z2 := blk_cell hbr5 2
        have fz2 : w5.frozen? ⟨w.heap.size + 1, 2, none⟩ = false := frozen_of_row _ _ _ _ _ hbr5
        simp only [List.getElem?_toArray, List.getElem?_cons_succ, List.getElem?_cons_zero] at z0 z1 z2
        have hlt5 : w.heap.size + 1 < w5.heap.size := blk_lt hbr5
        clear hpb5 hbx5 hB5 HPB4 HBX4 hbr5
        by_cases t2 : p.pos + max p.size 1 + c.red ≤ at_
        · have HT : Hid (¬ inP c.red at_ p) := fun h => by unfold inP at h; omega
          have d2 : decide (p.pos + max p.size 1 + c.red ≤ at_) = true := decide_eq_true t2
          go_wp2
          go_roundg (N - (k + 1))
          case measure => omega
          case rel => exact ⟨k + 1, by omega, by go_num, Nat.le_refl _, (by rw [HD.out, if_neg HT.out] : rFindGo c.red at_ live.length (l.drop (k + 1)) (k + 1) = nearF L at_), HW5.out⟩
        · have HT : Hid (inP c.red at_ p) := by unfold inP; exact ⟨by omega, by omega⟩
          have d2 : decide (p.pos + max p.size 1 + c.red ≤ at_) = false := decide_eq_false t2
          have hu2 : IntKind.i64.wrap (at_ - p.pos) = at_ - p.pos := by rw [IntKind.wrap_i64]; omega
          by_cases o0 : 0 ≤ at_ - p.pos ∧ at_ - p.pos < p.size
          · obtain ⟨o1, o2⟩ := o0
            have HK1 : Hid (kindP at_ p false = 1) := by show kindP at_ p false = 1; unfold kindP; rw [if_pos ⟨o1, o2⟩]; rfl
            have HK2 : Hid (kindP at_ p true = 3) := by show kindP at_ p true = 3; unfold kindP; rw [if_pos ⟨o1, o2⟩]; rfl
            by_cases hkl : k < live.length
            · have dk : ((live.length : Int) ≤ (k : Int)) = False := eq_false (by omega)
              have he : nearF L at_ = (1, (k : Int), at_ - p.pos) := by rw [HD.out, if_pos HT.out, if_pos hkl, HK1.out]
              have HE := Lib.hid he
              clear he
              go_wp2
              refine bodyPost_ret (v := .agg #[.int .i64 1, .int .i64 k, .int .i64 (at_ - p.pos)]) (by simp [results, Try.results38, go_sem, z0, z1, z2]) rfl ⟨by rw [HE.out], ?_⟩
              repeat' first | with_reducible exact HBW.out.trans (HW5.out.mono (by omega)) | with_reducible refine Below.setCell ?_ (by simp; try omega) _
            · have dk : ((live.length : Int) ≤ (k : Int)) = True := eq_true (by omega)
              have hsub : IntKind.i64.wrap ((k : Int) - (live.length : Int)) = ((k - live.length : Nat) : Int) := by rw [IntKind.wrap_i64]; omega
              have he : nearF L at_ = (3, ((k - live.length : Nat) : Int), at_ - p.pos) := by rw [HD.out, if_pos HT.out, if_neg hkl, HK2.out]
              have HE := Lib.hid he
              clear he
              go_wp2
              refine bodyPost_ret (v := .agg #[.int .i64 3, .int .i64 ((k - live.length : Nat) : Int), .int .i64 (at_ - p.pos)]) (by simp [results, Try.results38, go_sem, z0, z1, z2]) rfl ⟨by rw [HE.out], ?_⟩
              repeat' first | with_reducible exact HBW.out.trans (HW5.out.mono (by omega)) | with_reducible refine Below.setCell ?_ (by simp; try omega) _
          · by_cases o1 : 0 ≤ at_ - p.pos
            · have o2 : ¬ at_ - p.pos < p.size := fun h => o0 ⟨o1, h⟩
              clear o0
              have HK1 : Hid (kindP at_ p false = 2) := by show kindP at_ p false = 2; unfold kindP; rw [if_neg (fun h => o2 h.2)]; rfl
              have HK2 : Hid (kindP at_ p true = 4) := by show kindP at_ p true = 4; unfold kindP; rw [if_neg (fun h => o2 h.2)]; rfl
              by_cases hkl : k < live.length
              · have dk : ((live.length : Int) ≤ (k : Int)) = False := eq_false (by omega)
                have he : nearF L at_ = (2, (k : Int), at_ - p.pos) := by rw [HD.out, if_pos HT.out, if_pos hkl, HK1.out]
                have HE := Lib.hid he
                clear he
                go_wp2
                refine bodyPost_ret (v := .agg #[.int .i64 2, .int .i64 k, .int .i64 (at_ - p.pos)]) (by simp [results, Try.results38, go_sem, z0, z1, z2]) rfl ⟨by rw [HE.out], ?_⟩
                repeat' first | with_reducible exact HBW.out.trans (HW5.out.mono (by omega)) | with_reducible refine Below.setCell ?_ (by simp; try omega) _
              · have dk : ((live.length : Int) ≤ (k : Int)) = True := eq_true (by omega)
                have hsub : IntKind.i64.wrap ((k : Int) - (live.length : Int)) = ((k - live.length : Nat) : Int) := by rw [IntKind.wrap_i64]; omega
                have he : nearF L at_ = (4, ((k - live.length : Nat) : Int), at_ - p.pos) := by rw [HD.out, if_pos HT.out, if_neg hkl, HK2.out]
                have HE := Lib.hid he
                clear he
                go_wp2
                refine bodyPost_ret (v := .agg #[.int .i64 4, .int .i64 ((k - live.length : Nat) : Int), .int .i64 (at_ - p.pos)]) (by simp [results, Try.results38, go_sem, z0, z1, z2]) rfl ⟨by rw [HE.out], ?_⟩
                repeat' first | with_reducible exact HBW.out.trans (HW5.out.mono (by omega)) | with_reducible refine Below.setCell ?_ (by simp; try omega) _
            · clear o0
              have HK1 : Hid (kindP at_ p false = 2) := by show kindP at_ p false = 2; unfold kindP; rw [if_neg (fun h => o1 h.1)]; rfl
              have HK2 : Hid (kindP at_ p true = 4) := by show kindP at_ p true = 4; unfold kindP; rw [if_neg (fun h => o1 h.1)]; rfl
              by_cases hkl : k < live.length
              · have dk : ((live.length : Int) ≤ (k : Int)) = False := eq_false (by omega)
                have he : nearF L at_ = (2, (k : Int), at_ - p.pos) := by rw [HD.out, if_pos HT.out, if_pos hkl, HK1.out]
                have HE := Lib.hid he
                clear he
                go_wp2
                refine bodyPost_ret (v := .agg #[.int .i64 2, .int .i64 k, .int .i64 (at_ - p.pos)]) (by simp [results, Try.results38, go_sem, z0, z1, z2]) rfl ⟨by rw [HE.out], ?_⟩
                repeat' first | with_reducible exact HBW.out.trans (HW5.out.mono (by omega)) | with_reducible refine Below.setCell ?_ (by simp; try omega) _
              · have dk : ((live.length : Int) ≤ (k : Int)) = True := eq_true (by omega)
                have hsub : IntKind.i64.wrap ((k : Int) - (live.length : Int)) = ((k - live.length : Nat) : Int) := by rw [IntKind.wrap_i64]; omega
                have he : nearF L at_ = (4, ((k - live.length : Nat) : Int), at_ - p.pos) := by rw [HD.out, if_pos HT.out, if_neg hkl, HK2.out]
                have HE := Lib.hid he
                clear he
                go_wp2
                refine bodyPost_ret (v := .agg #[.int .i64 4, .int .i64 ((k - live.length : Nat) : Int), .int .i64 (at_ - p.pos)]) (by simp [results, Try.results38, go_sem, z0, z1, z2]) rfl ⟨by rw [HE.out], ?_⟩
                repeat' first | with_reducible exact HBW.out.trans (HW5.out.mono (by omega)) | with_reducible refine Below.setCell ?_ (by simp; try omega) _
    · obtain rfl : k = N := by omega
      have hbr := (HBr.out.block _ hlt0).trans HY1.out
      have z0 := blk_cell hbr 0
      have fz0 : wr.frozen? ⟨w.heap.size + 1, 0, none⟩ = false := frozen_of_row _ _ _ _ _ hbr
      have z1 := blk_cell hbr 1
      have fz1 : wr.frozen? ⟨w.heap.size + 1, 1, none⟩ = false := frozen_of_row _ _ _ _ _ hbr
      have z2 := blk_cell hbr 2
      have fz2 : wr.frozen? ⟨w.heap.size + 1, 2, none⟩ = false := frozen_of_row _ _ _ _ _ hbr
      simp only [List.getElem?_toArray, List.getElem?_cons_succ, List.getElem?_cons_zero] at z0 z1 z2
      have hlt5 : w.heap.size + 1 < wr.heap.size := blk_lt hbr
      clear hbr
      have he : nearF L at_ = (0, 0, 0) := by rw [← HF.out, ← HN.out, List.drop_length]; rfl
      have HE := Lib.hid he
      clear he
      go_wp2
      refine bodyPost_ret (v := .agg #[.int .i64 0, .int .i64 0, .int .i64 0]) (by simp [results, Try.results38, go_sem, z0, z1, z2]) rfl ⟨by rw [HE.out], ?_⟩
      repeat' first | with_reducible exact HBW.out.trans (HBr.out.mono (by omega)) | with_reducible refine Below.setCell ?_ (by simp; try omega) _
end Go.Proofs.Ytbhbjcgbhklieaa
