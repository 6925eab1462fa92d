/- HeapFirst: the walk. -/
import Derived.Test.YtbhbjcgbhklieaaE12
import Derived.Test.YtbhbjcgbhklieaaF2
import Derived.Test.YtbhbjcgbhklieaaF4
import Derived.Test.YtbhbjcgbhklieaaG2
import Derived.Test.YtbhbjcgbhklieaaL5
import Derived.Test.YtbhbjcgbhklieaaM1
import Derived.Test.YtbhbjcgbhklieaaM3
import Derived.Test.YtbhbjcgbhklieaaR1
import Derived.Deep.RegionHeld3
namespace Go.Proofs.Ytbhbjcgbhklieaa
open Go.RowKit Go.Shelf

theorem many_no {n m : Nat} (h : manyF n m = false) (hn : n ≤ 1000) (hm : m ≤ 1000) : n ≤ 60 ∧ m ≤ 60 := by
  unfold manyF at h
  have hw : wrap64 ((n : Int) + (m : Int)) = (n : Int) + m := by unfold wrap64; omega
  rw [hw, decide_eq_false_iff_not] at h
  omega

set_option maxRecDepth 100000 in
set_option maxHeartbeats 4000000 in
theorem c9 (c : Conf) (lv qv : Value) (gi : Int) (live quar : List Piece) (size : Int) (w : World) (hin : HeapIn w c lv qv gi live quar) :
    Calls Try.prog 9 #[hAgg c lv qv gi, .int .i64 size] w fun e w' => e = .returned (.bool true) ∧ Below w.heap.size w w' := by
  have HL := Lib.hid hin.hl
  have HQ := Lib.hid hin.hq
  have HWL : Hid (∀ p ∈ live, WfP p) := fun p hp => (hin.wl p hp).1
  have HWQ : Hid (∀ p ∈ quar, WfP p) := fun p hp => (hin.wq p hp).1
  have HSL := Lib.hid hin.sl
  have HSQ := Lib.hid hin.sq
  obtain ⟨A, ca, rfl, _, _⟩ := id hin.hl
  obtain ⟨B, cb, rfl, _, _⟩ := id hin.hq
  clear hin
  go_enter Try.func9, Try.ntmps9
  go_wp2_with fail
  refine Calls.mono (c16 _) ?_
  rintro e w1 ⟨rfl, hB1⟩
  have hb0 : w1.heap[w.heap.size]? = some (.cells #[.int .i64 c.page, .int .i64 c.n, .int .i64 c.red, .int .i64 c.quarantine, .slice A live.length ca, .slice B quar.length cb, .int .i64 gi] 26 (0, 0)) := (hB1.block _ (by simp; try omega)).trans (hal_new rfl)
  have hBw : Below w.heap.size w w1 := ((Below.refl _ _).alloc (Nat.le_refl _) _).trans (hB1.mono (by simp; try omega))
  have q0 := blk_cell hb0 0
  have q1 := blk_cell hb0 1
  have q2 := blk_cell hb0 2
  have q3 := blk_cell hb0 3
  have q4 := blk_cell hb0 4
  have q5 := blk_cell hb0 5
  have q6 := blk_cell hb0 6
  simp only [List.getElem?_toArray, List.getElem?_cons_succ, List.getElem?_cons_zero] at q0 q1 q2 q3 q4 q5 q6
  have HB0 := Lib.hid hb0
  have HBW := Lib.hid hBw
  have hlt0 : w.heap.size < w1.heap.size := blk_lt hb0
  clear hB1 hBw hb0
  go_wp2_with fail
  refine Calls.mono (c17 w1.heap.size c A B live.length ca quar.length cb gi _ (hal_new rfl)) ?_
  rintro e w2 ⟨rfl, hB2⟩
  have hb02 : w2.heap[w.heap.size]? = some (.cells #[.int .i64 c.page, .int .i64 c.n, .int .i64 c.red, .int .i64 c.quarantine, .slice A live.length ca, .slice B quar.length cb, .int .i64 gi] 26 (0, 0)) := (hB2.block _ (by simp; omega)).trans (hal_old HB0.out)
  have hBw2 : Below w.heap.size w w2 := (HBW.out.alloc (by omega) _).trans (hB2.mono (by simp; omega))
  have hB12 : Below w1.heap.size w1 w2 := (below_alloc1 w1 _).trans (hB2.mono (by simp))
  clear q0 q1 q2 q3 q4 q5 q6
  have q0 := blk_cell hb02 0
  have q1 := blk_cell hb02 1
  have q2 := blk_cell hb02 2
  have q3 := blk_cell hb02 3
  have q4 := blk_cell hb02 4
  have q5 := blk_cell hb02 5
  have q6 := blk_cell hb02 6
  simp only [List.getElem?_toArray, List.getElem?_cons_succ, List.getElem?_cons_zero] at q0 q1 q2 q3 q4 q5 q6
  have HB02 := Lib.hid hb02
  have HBW2 := Lib.hid hBw2
  have HB12 := Lib.hid hB12
  clear hB2 hb02 hBw2 hB12
  cases hmf : manyF live.length quar.length with
  | true =>
    go_wp2
    go_ret
    exact ⟨rfl, HBW2.out⟩
  | false =>
    have h18 := c18 c _ _ gi live quar w2 (HL.out.below HBW2.out) (HQ.out.below HBW2.out) HWL.out HWQ.out
    have H18 := Lib.hid h18
    have HMF := Lib.hid hmf
    clear h18
    go_wp2_with fail
    refine Calls.mono H18.out ?_
    clear H18 hmf
    rintro e w3 ⟨hB3, ⟨hng, rfl⟩ | ⟨hg, rfl⟩⟩
    · have HBW3 : Hid (Below w.heap.size w w3) := HBW2.out.trans (hB3.mono HBW2.out.size)
      clear hB3 hng
      go_wp2
      go_ret
      exact ⟨rfl, HBW3.out⟩
    have HG := Lib.hid hg
    have hb03 : w3.heap[w.heap.size]? = some (.cells #[.int .i64 c.page, .int .i64 c.n, .int .i64 c.red, .int .i64 c.quarantine, .slice A live.length ca, .slice B quar.length cb, .int .i64 gi] 26 (0, 0)) := (hB3.block _ (blk_lt HB02.out)).trans HB02.out
    have HBW3 : Hid (Below w.heap.size w w3) := HBW2.out.trans (hB3.mono HBW2.out.size)
    have HB13 : Hid (Below w1.heap.size w1 w3) := HB12.out.trans (hB3.mono HB12.out.size)
    have hlt3 : w1.heap.size ≤ w3.heap.size := HB13.out.size
    have HGD : Hid (Good c gi live quar) := (good_iff HWL.out HWQ.out).2 hg
    have hgi0 := hg.gi0
    have hgi1 := hg.gi1
    have hn1 := hg.n1
    have hn2 := hg.n2
    clear q0 q1 q2 q3 q4 q5 q6
    have q0 := blk_cell hb03 0
    have q1 := blk_cell hb03 1
    have q2 := blk_cell hb03 2
    have q3 := blk_cell hb03 3
    have q4 := blk_cell hb03 4
    have q5 := blk_cell hb03 5
    have q6 := blk_cell hb03 6
    simp only [List.getElem?_toArray, List.getElem?_cons_succ, List.getElem?_cons_zero] at q0 q1 q2 q3 q4 q5 q6
    have HB03 := Lib.hid hb03
    clear hB3 hg hb03 HBW2 HB02 HB12 HBW HB0
    by_cases hz0 : size < 0
    · go_wp2
      go_ret
      exact ⟨rfl, HBW3.out⟩
    by_cases hz1 : 65536 < size
    · go_wp2
      go_ret
      exact ⟨rfl, HBW3.out⟩
    have z0 : 0 ≤ size := by omega
    have z1 : size ≤ 65536 := by omega
    obtain ⟨n60, m60⟩ := many_no HMF.out hn1 hn2
    have hbc := HG.out.conf
    simp only [okConf, decide_eq_true_eq] at hbc
    obtain ⟨e1, e2, e3, e4, e5, e6, e7, e8, e9⟩ := hbc
    have hca := c23 c _ _ gi live quar size w3 (HL.out.below HBW3.out) (HQ.out.below HBW3.out) HWL.out HWQ.out HSL.out HSQ.out
    have HCA := Lib.hid hca
    clear hca
    go_wp2_with fail
    refine Calls.mono HCA.out ?_
    clear HCA
    rintro e w4 ⟨hB4, hans⟩
    have HBW4 : Hid (Below w.heap.size w w4) := HBW3.out.trans (hB4.mono HBW3.out.size)
    have HB04 := Lib.hid ((hB4.block _ (blk_lt HB03.out)).trans HB03.out)
    have hlt4 : w.heap.size < w4.heap.size := blk_lt HB04.out
    clear q0 q1 q2 q3 q4 q5 q6
    clear hB4 hz0 hz1
    rcases hans with ⟨hng, rfl⟩ | ⟨_, hbz, rfl⟩ | ⟨L, hop, _, _, hno, rfl⟩ | ⟨L, v, hop, _, _, hv, hn, hg, lv', qv', rfl, hl', hq'⟩
    · exact absurd HGD.out hng
    · exact absurd hbz (by omega)
    · have HOP := Lib.hid hop
      by_cases hrm : roomGo c.red size (gapsF c L) = none
      · have HRM := Lib.hid hrm
        clear hop hno hrm
        go_wp2
        refine gen_worldP (fun W => Below w4.heap.size w4 W ∧ W.heap[w4.heap.size]? = some (.cells #[.int .i64 0, .int .i64 0, .int .i64 0, .int .i64 0, .slice none 0 0, .slice none 0 0, .int .i64 0] 26 (0, 0))) ⟨(Below.refl _ _).alloc (Nat.le_refl _) _, hal_new rfl⟩ ?_
        rintro W5 ⟨hW5, hbx5⟩
        have hb05 := (hW5.block _ (blk_lt HB04.out)).trans HB04.out
        have HW5 := Lib.hid hW5
        have HB5 := Lib.hid hbx5
        have HB05 := Lib.hid hb05
        have hlt5 : w4.heap.size < W5.heap.size := blk_lt hbx5
        clear hW5 hbx5
        have hmx : Try.prog.follows .mixedOrders = true := by kernel_rfl
        refine wp_region_held_drew (S := fun w' => w'.heap[w.heap.size]? = some (.cells #[.int .i64 c.page, .int .i64 c.n, .int .i64 c.red, .int .i64 c.quarantine, .slice A live.length ca, .slice B quar.length cb, .int .i64 gi] 26 (0, 0))) hmx hb05 ?_
        intro hS0
        clear hb05
        refine wpAnyH_take (i := 0) (v := .pointer (some ⟨w.heap.size, 0, none⟩)) rfl (by kernel_rfl) (by kernel_rfl) (by kernel_rfl) (fun _ _ _ h => h) (Or.inl ⟨by rfl, ?hy⟩) hS0 ?_
        case hy => intro w9 hSw; have s0 := blk_cell hSw 0;have s1 := blk_cell hSw 1;have s2 := blk_cell hSw 2;have s3 := blk_cell hSw 3;have s4 := blk_cell hSw 4;have s5 := blk_cell hSw 5;have s6 := blk_cell hSw 6; simp only [List.getElem?_toArray, List.getElem?_cons_succ, List.getElem?_cons_zero] at s0 s1 s2 s3 s4 s5 s6; go_simp
        go_simp
        refine wpAnyH_take (i := 1) (v := .agg #[.int .i64 c.page, .int .i64 c.n, .int .i64 c.red, .int .i64 c.quarantine]) rfl (by kernel_rfl) (by kernel_rfl) (by kernel_rfl) (fun _ _ _ h => h) (Or.inl ⟨by rfl, ?hy⟩) hS0 ?_
        case hy => intro w9 hSw; have s0 := blk_cell hSw 0;have s1 := blk_cell hSw 1;have s2 := blk_cell hSw 2;have s3 := blk_cell hSw 3;have s4 := blk_cell hSw 4;have s5 := blk_cell hSw 5;have s6 := blk_cell hSw 6; simp only [List.getElem?_toArray, List.getElem?_cons_succ, List.getElem?_cons_zero] at s0 s1 s2 s3 s4 s5 s6; go_simp
        go_simp
        refine wpAnyH_take (i := 2) (v := .agg #[.int .i64 c.page, .int .i64 c.n, .int .i64 c.red, .int .i64 c.quarantine, .slice A live.length ca, .slice B quar.length cb, .int .i64 gi]) rfl (by kernel_rfl) (by kernel_rfl) (by kernel_rfl) (fun _ _ _ h => h) (Or.inl ⟨by rfl, ?hy⟩) hS0 ?_
        case hy => intro w9 hSw; have s0 := blk_cell hSw 0;have s1 := blk_cell hSw 1;have s2 := blk_cell hSw 2;have s3 := blk_cell hSw 3;have s4 := blk_cell hSw 4;have s5 := blk_cell hSw 5;have s6 := blk_cell hSw 6; simp only [List.getElem?_toArray, List.getElem?_cons_succ, List.getElem?_cons_zero] at s0 s1 s2 s3 s4 s5 s6; go_simp
        go_simp
        refine wpAnyH_take (i := 4) (v := .int .i64 size) rfl (by kernel_rfl) (by kernel_rfl) (by kernel_rfl) (fun _ _ _ h => h) (Or.inl ⟨by rfl, ?hy⟩) hS0 ?_
        case hy => intro w9 hSw; have s0 := blk_cell hSw 0;have s1 := blk_cell hSw 1;have s2 := blk_cell hSw 2;have s3 := blk_cell hSw 3;have s4 := blk_cell hSw 4;have s5 := blk_cell hSw 5;have s6 := blk_cell hSw 6; simp only [List.getElem?_toArray, List.getElem?_cons_succ, List.getElem?_cons_zero] at s0 s1 s2 s3 s4 s5 s6; go_simp
        go_simp
        refine wpAnyH_ready (rs := [3]) (by kernel_rfl) (by simp) ?_
        refine AllReadyH.cons rfl (fun K hK => ?_) AllReadyH.nil
        go_simp
        have hBd : Below w.heap.size w W5.drew := (HBW4.out.trans (HW5.out.mono HBW4.out.size)).drew
        refine Calls.mono (c27v c _ _ gi live quar _ (HL.out.below hBd) (HQ.out.below hBd) HWL.out HWQ.out) ?_
        rintro e w6 ⟨hB6, ⟨hng, rfl⟩ | ⟨L2, v6, hop2, rfl, hsp⟩⟩
        · exact absurd HGD.out hng
        obtain rfl := HOP.out.uniq hop2
        have hb06 := (hB6.block _ (show w.heap.size < W5.heap.size by omega)).trans HB05.out
        have hbx6 := (hB6.block _ (show w4.heap.size < W5.heap.size by omega)).trans HB5.out
        have HBW6 : Hid (Below w.heap.size w w6) := hBd.trans (hB6.mono hBd.size)
        have hgp := hop2.gaps
        have hwf : ∀ s ∈ spans c L2, 0 ≤ s.1 ∧ s.1 < 4294967296 ∧ 0 ≤ s.2 ∧ s.1 + s.2 ≤ 4294967296 := fun s hs => by
          obtain ⟨g, hg, rfl⟩ := List.mem_map.1 hs
          obtain ⟨b1, b2, b3, _⟩ := hgp.1 g hg
          simp only
          omega
        have hlen : (spans c L2).length ≤ 2001 := by have := hgp.2; simpa [spans] using this
        have hwant : leastGo c.red size (spans c L2) = -1 := by
          have h := leastGo_room c.red size (gapsF c L2)
          rw [HRM.out] at h
          exact h
        refine hK.out _ _ hb06 (fun hS1 => ?_)
        clear hK K hS0
        have HB06 := Lib.hid hb06
        have HB6x := Lib.hid hbx6
        have HSP := Lib.hid hsp
        have HWF := Lib.hid hwf
        have HWT := Lib.hid hwant
        have hlt6 : W5.heap.size ≤ w6.heap.size := hB6.size
        clear hBd hB6 hb06 hbx6 hgp hwf hwant hop2 hsp
        refine wpAnyH_ready (rs := [5]) (by kernel_rfl) (by simp) ?_
        refine AllReadyH.cons rfl (fun K hK => ?_) AllReadyH.nil
        go_simp
        refine Calls.mono (c42 c v6 (spans c L2) size w6 HSP.out (by omega) e6 e7 z0 z1 HWF.out) ?_
        rw [HWT.out]
        rintro e w7 ⟨rfl, hB7⟩
        have hb07 := (hB7.block _ (show w.heap.size < w6.heap.size by omega)).trans HB06.out
        have hbx7 := (hB7.block _ (show w4.heap.size < w6.heap.size by omega)).trans HB6x.out
        have HBW7 : Hid (Below w.heap.size w w7) := HBW6.out.trans (hB7.mono HBW6.out.size)
        refine hK.out _ _ hb07 (fun hS2 => ?_)
        clear hK K hS1
        have HB07 := Lib.hid hb07
        have HB7x := Lib.hid hbx7
        have hlt7 : w6.heap.size ≤ w7.heap.size := hB7.size
        clear hB7 hb07 hbx7
        refine wpAnyH_take (i := 6) (v := .int .i64 (-1)) rfl (by kernel_rfl) (by kernel_rfl) (by kernel_rfl) (fun _ _ _ h => h) (Or.inl ⟨by rfl, ?hy⟩) hS2 ?_
        case hy => intro w9 hSw; have s0 := blk_cell hSw 0;have s1 := blk_cell hSw 1;have s2 := blk_cell hSw 2;have s3 := blk_cell hSw 3;have s4 := blk_cell hSw 4;have s5 := blk_cell hSw 5;have s6 := blk_cell hSw 6; simp only [List.getElem?_toArray, List.getElem?_cons_succ, List.getElem?_cons_zero] at s0 s1 s2 s3 s4 s5 s6; go_simp
        go_simp
        refine wpAnyH_done (by kernel_rfl) ?_ _
        clear hS2
        have q0 := blk_cell HB07.out 0
        have q1 := blk_cell HB07.out 1
        have q2 := blk_cell HB07.out 2
        have q3 := blk_cell HB07.out 3
        have q4 := blk_cell HB07.out 4
        have q5 := blk_cell HB07.out 5
        have q6 := blk_cell HB07.out 6
        simp only [List.getElem?_toArray, List.getElem?_cons_succ, List.getElem?_cons_zero] at q0 q1 q2 q3 q4 q5 q6
        have r0 := blk_cell HB7x.out 0
        have r1 := blk_cell HB7x.out 1
        have r2 := blk_cell HB7x.out 2
        have r3 := blk_cell HB7x.out 3
        have r4 := blk_cell HB7x.out 4
        have r5 := blk_cell HB7x.out 5
        have r6 := blk_cell HB7x.out 6
        simp only [List.getElem?_toArray, List.getElem?_cons_succ, List.getElem?_cons_zero] at r0 r1 r2 r3 r4 r5 r6
        have hst := callsIn_wide.1 (c29 c _ _ gi live quar w7 (HL.out.below HBW7.out) (HQ.out.below HBW7.out) HWL.out HWQ.out)
        have HST := Lib.hid hst
        have hrl := room_lg c.red size z0 z1 (gapsF c L2)
        have HRL := Lib.hid hrl
        clear hst hrl
        go_wp2_with fail
        refine Calls.mono HST.out ?_
        rintro e w8 ⟨hB8, ⟨hng, rfl⟩ | ⟨L3, hop3, rfl⟩⟩
        · exact absurd HGD.out hng
        obtain rfl := HOP.out.uniq hop3
        have hrl := HRL.out
        rw [HRM.out] at hrl
        unfold statV
        obtain ⟨lg, hlg⟩ : ∃ z, lgF c.red (gapsF c L3) (-1) = z := ⟨_, rfl⟩
        rw [hlg] at hrl ⊢
        have hb08 := (hB8.block _ (blk_lt HB07.out)).trans HB07.out
        have hbx8 := (hB8.block _ (blk_lt HB7x.out)).trans HB7x.out
        have HBW8 : Hid (Below w.heap.size w w8) := HBW7.out.trans (hB8.mono HBW7.out.size)
        clear q0 q1 q2 q3 q4 q5 q6
        clear r0 r1 r2 r3 r4 r5 r6
        have q0 := blk_cell hb08 0
        have q1 := blk_cell hb08 1
        have q2 := blk_cell hb08 2
        have q3 := blk_cell hb08 3
        have q4 := blk_cell hb08 4
        have q5 := blk_cell hb08 5
        have q6 := blk_cell hb08 6
        simp only [List.getElem?_toArray, List.getElem?_cons_succ, List.getElem?_cons_zero] at q0 q1 q2 q3 q4 q5 q6
        have r0 := blk_cell hbx8 0
        have r1 := blk_cell hbx8 1
        have r2 := blk_cell hbx8 2
        have r3 := blk_cell hbx8 3
        have r4 := blk_cell hbx8 4
        have r5 := blk_cell hbx8 5
        have r6 := blk_cell hbx8 6
        simp only [List.getElem?_toArray, List.getElem?_cons_succ, List.getElem?_cons_zero] at r0 r1 r2 r3 r4 r5 r6
        have HB8s := Lib.hid hB8
        have HB08 := Lib.hid hb08
        have HB8x := Lib.hid hbx8
        clear hB8 hb08 hbx8 hlg hop3 HST HRL
        have hfd : ∀ (w : World) (a0 a1 a2 a3 a4 a5 a6 : Int), (Instr.field 59 (.agg #[.int .i64 a0, .int .i64 a1, .int .i64 a2, .int .i64 a3, .int .i64 a4, .int .i64 a5, .int .i64 a6]) 6).run Try.prog w = .ok (.int .i64 a6) w := fun _ _ _ _ _ _ _ _ => by kernel_rfl
        have hlt : lg < size := hrl.1 rfl
        clear hrl
        go_wp2
        go_ret
        exact ⟨rfl, HBW8.out⟩
      · obtain ⟨v, hv⟩ := Option.ne_none_iff_exists'.1 hrm
        have hgi : gi = 1073741824 := by
          rcases hno with h | h | h
          · exact absurd h hrm
          · omega
          · exact h
        have hgx : (1073741824 : Int) ≤ gi := by omega
        clear hgi
        have hvr := room_range hop hv
        have hv0 : 0 ≤ v := by omega
        have hv1 := hvr.2
        have HRM := Lib.hid hv
        clear hop hno hrm hv hvr
        go_wp2
        refine gen_worldP (fun W => Below w4.heap.size w4 W ∧ W.heap[w4.heap.size]? = some (.cells #[.int .i64 0, .int .i64 0, .int .i64 0, .int .i64 0, .slice none 0 0, .slice none 0 0, .int .i64 0] 26 (0, 0))) ⟨(Below.refl _ _).alloc (Nat.le_refl _) _, hal_new rfl⟩ ?_
        rintro W5 ⟨hW5, hbx5⟩
        have hb05 := (hW5.block _ (blk_lt HB04.out)).trans HB04.out
        have HW5 := Lib.hid hW5
        have HB5 := Lib.hid hbx5
        have HB05 := Lib.hid hb05
        have hlt5 : w4.heap.size < W5.heap.size := blk_lt hbx5
        clear hW5 hbx5
        have hmx : Try.prog.follows .mixedOrders = true := by kernel_rfl
        refine wp_region_held_drew (S := fun w' => w'.heap[w.heap.size]? = some (.cells #[.int .i64 c.page, .int .i64 c.n, .int .i64 c.red, .int .i64 c.quarantine, .slice A live.length ca, .slice B quar.length cb, .int .i64 gi] 26 (0, 0))) hmx hb05 ?_
        intro hS0
        clear hb05
        refine wpAnyH_take (i := 0) (v := .pointer (some ⟨w.heap.size, 0, none⟩)) rfl (by kernel_rfl) (by kernel_rfl) (by kernel_rfl) (fun _ _ _ h => h) (Or.inl ⟨by rfl, ?hy⟩) hS0 ?_
        case hy => intro w9 hSw; have s0 := blk_cell hSw 0;have s1 := blk_cell hSw 1;have s2 := blk_cell hSw 2;have s3 := blk_cell hSw 3;have s4 := blk_cell hSw 4;have s5 := blk_cell hSw 5;have s6 := blk_cell hSw 6; simp only [List.getElem?_toArray, List.getElem?_cons_succ, List.getElem?_cons_zero] at s0 s1 s2 s3 s4 s5 s6; go_simp
        go_simp
        refine wpAnyH_take (i := 1) (v := .agg #[.int .i64 c.page, .int .i64 c.n, .int .i64 c.red, .int .i64 c.quarantine]) rfl (by kernel_rfl) (by kernel_rfl) (by kernel_rfl) (fun _ _ _ h => h) (Or.inl ⟨by rfl, ?hy⟩) hS0 ?_
        case hy => intro w9 hSw; have s0 := blk_cell hSw 0;have s1 := blk_cell hSw 1;have s2 := blk_cell hSw 2;have s3 := blk_cell hSw 3;have s4 := blk_cell hSw 4;have s5 := blk_cell hSw 5;have s6 := blk_cell hSw 6; simp only [List.getElem?_toArray, List.getElem?_cons_succ, List.getElem?_cons_zero] at s0 s1 s2 s3 s4 s5 s6; go_simp
        go_simp
        refine wpAnyH_take (i := 2) (v := .agg #[.int .i64 c.page, .int .i64 c.n, .int .i64 c.red, .int .i64 c.quarantine, .slice A live.length ca, .slice B quar.length cb, .int .i64 gi]) rfl (by kernel_rfl) (by kernel_rfl) (by kernel_rfl) (fun _ _ _ h => h) (Or.inl ⟨by rfl, ?hy⟩) hS0 ?_
        case hy => intro w9 hSw; have s0 := blk_cell hSw 0;have s1 := blk_cell hSw 1;have s2 := blk_cell hSw 2;have s3 := blk_cell hSw 3;have s4 := blk_cell hSw 4;have s5 := blk_cell hSw 5;have s6 := blk_cell hSw 6; simp only [List.getElem?_toArray, List.getElem?_cons_succ, List.getElem?_cons_zero] at s0 s1 s2 s3 s4 s5 s6; go_simp
        go_simp
        refine wpAnyH_take (i := 4) (v := .int .i64 size) rfl (by kernel_rfl) (by kernel_rfl) (by kernel_rfl) (fun _ _ _ h => h) (Or.inl ⟨by rfl, ?hy⟩) hS0 ?_
        case hy => intro w9 hSw; have s0 := blk_cell hSw 0;have s1 := blk_cell hSw 1;have s2 := blk_cell hSw 2;have s3 := blk_cell hSw 3;have s4 := blk_cell hSw 4;have s5 := blk_cell hSw 5;have s6 := blk_cell hSw 6; simp only [List.getElem?_toArray, List.getElem?_cons_succ, List.getElem?_cons_zero] at s0 s1 s2 s3 s4 s5 s6; go_simp
        go_simp
        refine wpAnyH_ready (rs := [3]) (by kernel_rfl) (by simp) ?_
        refine AllReadyH.cons rfl (fun K hK => ?_) AllReadyH.nil
        go_simp
        have hBd : Below w.heap.size w W5.drew := (HBW4.out.trans (HW5.out.mono HBW4.out.size)).drew
        refine Calls.mono (c27v c _ _ gi live quar _ (HL.out.below hBd) (HQ.out.below hBd) HWL.out HWQ.out) ?_
        rintro e w6 ⟨hB6, ⟨hng, rfl⟩ | ⟨L2, v6, hop2, rfl, hsp⟩⟩
        · exact absurd HGD.out hng
        obtain rfl := HOP.out.uniq hop2
        have hb06 := (hB6.block _ (show w.heap.size < W5.heap.size by omega)).trans HB05.out
        have hbx6 := (hB6.block _ (show w4.heap.size < W5.heap.size by omega)).trans HB5.out
        have HBW6 : Hid (Below w.heap.size w w6) := hBd.trans (hB6.mono hBd.size)
        have hgp := hop2.gaps
        have hwf : ∀ s ∈ spans c L2, 0 ≤ s.1 ∧ s.1 < 4294967296 ∧ 0 ≤ s.2 ∧ s.1 + s.2 ≤ 4294967296 := fun s hs => by
          obtain ⟨g, hg, rfl⟩ := List.mem_map.1 hs
          obtain ⟨b1, b2, b3, _⟩ := hgp.1 g hg
          simp only
          omega
        have hlen : (spans c L2).length ≤ 2001 := by have := hgp.2; simpa [spans] using this
        have hwant : leastGo c.red size (spans c L2) = v := by
          have h := leastGo_room c.red size (gapsF c L2)
          rw [HRM.out] at h
          exact h
        refine hK.out _ _ hb06 (fun hS1 => ?_)
        clear hK K hS0
        have HB06 := Lib.hid hb06
        have HB6x := Lib.hid hbx6
        have HSP := Lib.hid hsp
        have HWF := Lib.hid hwf
        have HWT := Lib.hid hwant
        have hlt6 : W5.heap.size ≤ w6.heap.size := hB6.size
        clear hBd hB6 hb06 hbx6 hgp hwf hwant hop2 hsp
        refine wpAnyH_ready (rs := [5]) (by kernel_rfl) (by simp) ?_
        refine AllReadyH.cons rfl (fun K hK => ?_) AllReadyH.nil
        go_simp
        refine Calls.mono (c42 c v6 (spans c L2) size w6 HSP.out (by omega) e6 e7 z0 z1 HWF.out) ?_
        rw [HWT.out]
        rintro e w7 ⟨rfl, hB7⟩
        have hb07 := (hB7.block _ (show w.heap.size < w6.heap.size by omega)).trans HB06.out
        have hbx7 := (hB7.block _ (show w4.heap.size < w6.heap.size by omega)).trans HB6x.out
        have HBW7 : Hid (Below w.heap.size w w7) := HBW6.out.trans (hB7.mono HBW6.out.size)
        refine hK.out _ _ hb07 (fun hS2 => ?_)
        clear hK K hS1
        have HB07 := Lib.hid hb07
        have HB7x := Lib.hid hbx7
        have hlt7 : w6.heap.size ≤ w7.heap.size := hB7.size
        clear hB7 hb07 hbx7
        refine wpAnyH_take (i := 6) (v := .int .i64 (v)) rfl (by kernel_rfl) (by kernel_rfl) (by kernel_rfl) (fun _ _ _ h => h) (Or.inl ⟨by rfl, ?hy⟩) hS2 ?_
        case hy => intro w9 hSw; have s0 := blk_cell hSw 0;have s1 := blk_cell hSw 1;have s2 := blk_cell hSw 2;have s3 := blk_cell hSw 3;have s4 := blk_cell hSw 4;have s5 := blk_cell hSw 5;have s6 := blk_cell hSw 6; simp only [List.getElem?_toArray, List.getElem?_cons_succ, List.getElem?_cons_zero] at s0 s1 s2 s3 s4 s5 s6; go_simp
        go_simp
        refine wpAnyH_done (by kernel_rfl) ?_ _
        clear hS2
        have q0 := blk_cell HB07.out 0
        have q1 := blk_cell HB07.out 1
        have q2 := blk_cell HB07.out 2
        have q3 := blk_cell HB07.out 3
        have q4 := blk_cell HB07.out 4
        have q5 := blk_cell HB07.out 5
        have q6 := blk_cell HB07.out 6
        simp only [List.getElem?_toArray, List.getElem?_cons_succ, List.getElem?_cons_zero] at q0 q1 q2 q3 q4 q5 q6
        have r0 := blk_cell HB7x.out 0
        have r1 := blk_cell HB7x.out 1
        have r2 := blk_cell HB7x.out 2
        have r3 := blk_cell HB7x.out 3
        have r4 := blk_cell HB7x.out 4
        have r5 := blk_cell HB7x.out 5
        have r6 := blk_cell HB7x.out 6
        simp only [List.getElem?_toArray, List.getElem?_cons_succ, List.getElem?_cons_zero] at r0 r1 r2 r3 r4 r5 r6
        have hst := callsIn_wide.1 (c29 c _ _ gi live quar w7 (HL.out.below HBW7.out) (HQ.out.below HBW7.out) HWL.out HWQ.out)
        have HST := Lib.hid hst
        have hrl := room_lg c.red size z0 z1 (gapsF c L2)
        have HRL := Lib.hid hrl
        clear hst hrl
        go_wp2_with fail
        refine Calls.mono HST.out ?_
        rintro e w8 ⟨hB8, ⟨hng, rfl⟩ | ⟨L3, hop3, rfl⟩⟩
        · exact absurd HGD.out hng
        obtain rfl := HOP.out.uniq hop3
        have hrl := HRL.out
        rw [HRM.out] at hrl
        unfold statV
        obtain ⟨lg, hlg⟩ : ∃ z, lgF c.red (gapsF c L3) (-1) = z := ⟨_, rfl⟩
        rw [hlg] at hrl ⊢
        have hb08 := (hB8.block _ (blk_lt HB07.out)).trans HB07.out
        have hbx8 := (hB8.block _ (blk_lt HB7x.out)).trans HB7x.out
        have HBW8 : Hid (Below w.heap.size w w8) := HBW7.out.trans (hB8.mono HBW7.out.size)
        clear q0 q1 q2 q3 q4 q5 q6
        clear r0 r1 r2 r3 r4 r5 r6
        have q0 := blk_cell hb08 0
        have q1 := blk_cell hb08 1
        have q2 := blk_cell hb08 2
        have q3 := blk_cell hb08 3
        have q4 := blk_cell hb08 4
        have q5 := blk_cell hb08 5
        have q6 := blk_cell hb08 6
        simp only [List.getElem?_toArray, List.getElem?_cons_succ, List.getElem?_cons_zero] at q0 q1 q2 q3 q4 q5 q6
        have r0 := blk_cell hbx8 0
        have r1 := blk_cell hbx8 1
        have r2 := blk_cell hbx8 2
        have r3 := blk_cell hbx8 3
        have r4 := blk_cell hbx8 4
        have r5 := blk_cell hbx8 5
        have r6 := blk_cell hbx8 6
        simp only [List.getElem?_toArray, List.getElem?_cons_succ, List.getElem?_cons_zero] at r0 r1 r2 r3 r4 r5 r6
        have HB8s := Lib.hid hB8
        have HB08 := Lib.hid hb08
        have HB8x := Lib.hid hbx8
        clear hB8 hb08 hbx8 hlg hop3 HST HRL
        have hfd : ∀ (w : World) (a0 a1 a2 a3 a4 a5 a6 : Int), (Instr.field 59 (.agg #[.int .i64 a0, .int .i64 a1, .int .i64 a2, .int .i64 a3, .int .i64 a4, .int .i64 a5, .int .i64 a6]) 6).run Try.prog w = .ok (.int .i64 a6) w := fun _ _ _ _ _ _ _ _ => by kernel_rfl
        have hlt : size ≤ lg := Int.not_lt.1 (fun h => by have := hrl.2 h; cases this)
        clear hrl
        go_wp2
        go_ret
        exact ⟨rfl, HBW8.out⟩
    · have HOP := Lib.hid hop
      have HRM := Lib.hid hv
      have hvr := room_range hop hv
      have hv0 : 0 ≤ v := by omega
      have hv1 := hvr.2
      have hpm : (⟨v, size, gi + 1⟩ : Piece) ∈ insF live (atI live v) ⟨v, size, gi + 1⟩ := (insF_perm live (atI live v) _).mem_iff.2 (List.mem_cons_self ..)
      have hln := insF_length live (atI live v) ⟨v, size, gi + 1⟩ (atI_le live v)
      obtain ⟨A1, k1, rfl, _, _⟩ := id hl'.sl
      obtain ⟨A2, k2, rfl, _, _⟩ := id hq'.sl
      obtain ⟨live', hlive'⟩ : ∃ l, insF live (atI live v) ⟨v, size, gi + 1⟩ = l := ⟨_, rfl⟩
      rw [hlive'] at hl' hpm hln
      rw [hlive', hln]
      have HFL := Lib.hid hl'
      have HFQ := Lib.hid hq'
      have HPM := Lib.hid hpm
      have HLN := Lib.hid hln
      clear hl' hq' hpm hln hlive' hv hvr hop
      go_wp2
      refine gen_worldP (fun W => Below w4.heap.size w4 W ∧ W.heap[w4.heap.size]? = some (.cells #[.int .i64 c.page, .int .i64 c.n, .int .i64 c.red, .int .i64 c.quarantine, .slice A1 (live.length + 1) k1, .slice A2 quar.length k2, .int .i64 (gi + 1)] 26 (0, 0))) ⟨(Below.refl _ _).alloc (Nat.le_refl _) _, hal_new rfl⟩ ?_
      rintro W5 ⟨hW5, hbx5⟩
      have hb05 := (hW5.block _ (blk_lt HB04.out)).trans HB04.out
      have HW5 := Lib.hid hW5
      have HB5 := Lib.hid hbx5
      have HB05 := Lib.hid hb05
      have hlt5 : w4.heap.size < W5.heap.size := blk_lt hbx5
      clear hW5 hbx5
      have hmx : Try.prog.follows .mixedOrders = true := by kernel_rfl
      refine wp_region_held_drew (S := fun w' => w'.heap[w.heap.size]? = some (.cells #[.int .i64 c.page, .int .i64 c.n, .int .i64 c.red, .int .i64 c.quarantine, .slice A live.length ca, .slice B quar.length cb, .int .i64 gi] 26 (0, 0))) hmx hb05 ?_
      intro hS0
      clear hb05
      refine wpAnyH_take (i := 0) (v := .pointer (some ⟨w.heap.size, 0, none⟩)) rfl (by kernel_rfl) (by kernel_rfl) (by kernel_rfl) (fun _ _ _ h => h) (Or.inl ⟨by rfl, ?hy⟩) hS0 ?_
      case hy => intro w9 hSw; have s0 := blk_cell hSw 0;have s1 := blk_cell hSw 1;have s2 := blk_cell hSw 2;have s3 := blk_cell hSw 3;have s4 := blk_cell hSw 4;have s5 := blk_cell hSw 5;have s6 := blk_cell hSw 6; simp only [List.getElem?_toArray, List.getElem?_cons_succ, List.getElem?_cons_zero] at s0 s1 s2 s3 s4 s5 s6; go_simp
      go_simp
      refine wpAnyH_take (i := 1) (v := .agg #[.int .i64 c.page, .int .i64 c.n, .int .i64 c.red, .int .i64 c.quarantine]) rfl (by kernel_rfl) (by kernel_rfl) (by kernel_rfl) (fun _ _ _ h => h) (Or.inl ⟨by rfl, ?hy⟩) hS0 ?_
      case hy => intro w9 hSw; have s0 := blk_cell hSw 0;have s1 := blk_cell hSw 1;have s2 := blk_cell hSw 2;have s3 := blk_cell hSw 3;have s4 := blk_cell hSw 4;have s5 := blk_cell hSw 5;have s6 := blk_cell hSw 6; simp only [List.getElem?_toArray, List.getElem?_cons_succ, List.getElem?_cons_zero] at s0 s1 s2 s3 s4 s5 s6; go_simp
      go_simp
      refine wpAnyH_take (i := 2) (v := .agg #[.int .i64 c.page, .int .i64 c.n, .int .i64 c.red, .int .i64 c.quarantine, .slice A live.length ca, .slice B quar.length cb, .int .i64 gi]) rfl (by kernel_rfl) (by kernel_rfl) (by kernel_rfl) (fun _ _ _ h => h) (Or.inl ⟨by rfl, ?hy⟩) hS0 ?_
      case hy => intro w9 hSw; have s0 := blk_cell hSw 0;have s1 := blk_cell hSw 1;have s2 := blk_cell hSw 2;have s3 := blk_cell hSw 3;have s4 := blk_cell hSw 4;have s5 := blk_cell hSw 5;have s6 := blk_cell hSw 6; simp only [List.getElem?_toArray, List.getElem?_cons_succ, List.getElem?_cons_zero] at s0 s1 s2 s3 s4 s5 s6; go_simp
      go_simp
      refine wpAnyH_take (i := 4) (v := .int .i64 size) rfl (by kernel_rfl) (by kernel_rfl) (by kernel_rfl) (fun _ _ _ h => h) (Or.inl ⟨by rfl, ?hy⟩) hS0 ?_
      case hy => intro w9 hSw; have s0 := blk_cell hSw 0;have s1 := blk_cell hSw 1;have s2 := blk_cell hSw 2;have s3 := blk_cell hSw 3;have s4 := blk_cell hSw 4;have s5 := blk_cell hSw 5;have s6 := blk_cell hSw 6; simp only [List.getElem?_toArray, List.getElem?_cons_succ, List.getElem?_cons_zero] at s0 s1 s2 s3 s4 s5 s6; go_simp
      go_simp
      refine wpAnyH_ready (rs := [3]) (by kernel_rfl) (by simp) ?_
      refine AllReadyH.cons rfl (fun K hK => ?_) AllReadyH.nil
      go_simp
      have hBd : Below w.heap.size w W5.drew := (HBW4.out.trans (HW5.out.mono HBW4.out.size)).drew
      refine Calls.mono (c27v c _ _ gi live quar _ (HL.out.below hBd) (HQ.out.below hBd) HWL.out HWQ.out) ?_
      rintro e w6 ⟨hB6, ⟨hng, rfl⟩ | ⟨L2, v6, hop2, rfl, hsp⟩⟩
      · exact absurd HGD.out hng
      obtain rfl := HOP.out.uniq hop2
      have hb06 := (hB6.block _ (show w.heap.size < W5.heap.size by omega)).trans HB05.out
      have hbx6 := (hB6.block _ (show w4.heap.size < W5.heap.size by omega)).trans HB5.out
      have HBW6 : Hid (Below w.heap.size w w6) := hBd.trans (hB6.mono hBd.size)
      have hgp := hop2.gaps
      have hwf : ∀ s ∈ spans c L2, 0 ≤ s.1 ∧ s.1 < 4294967296 ∧ 0 ≤ s.2 ∧ s.1 + s.2 ≤ 4294967296 := fun s hs => by
        obtain ⟨g, hg, rfl⟩ := List.mem_map.1 hs
        obtain ⟨b1, b2, b3, _⟩ := hgp.1 g hg
        simp only
        omega
      have hlen : (spans c L2).length ≤ 2001 := by have := hgp.2; simpa [spans] using this
      have hwant : leastGo c.red size (spans c L2) = v := by
        have h := leastGo_room c.red size (gapsF c L2)
        rw [HRM.out] at h
        exact h
      refine hK.out _ _ hb06 (fun hS1 => ?_)
      clear hK K hS0
      have HB06 := Lib.hid hb06
      have HB6x := Lib.hid hbx6
      have HSP := Lib.hid hsp
      have HWF := Lib.hid hwf
      have HWT := Lib.hid hwant
      have hlt6 : W5.heap.size ≤ w6.heap.size := hB6.size
      have HB46 : Hid (Below w4.heap.size w4 w6) := (HW5.out.drew).trans (hB6.mono (Nat.le_of_lt hlt5))
      clear hBd hB6 hb06 hbx6 hgp hwf hwant hop2 hsp
      refine wpAnyH_ready (rs := [5]) (by kernel_rfl) (by simp) ?_
      refine AllReadyH.cons rfl (fun K hK => ?_) AllReadyH.nil
      go_simp
      refine Calls.mono (c42 c v6 (spans c L2) size w6 HSP.out (by omega) e6 e7 z0 z1 HWF.out) ?_
      rw [HWT.out]
      rintro e w7 ⟨rfl, hB7⟩
      have hb07 := (hB7.block _ (show w.heap.size < w6.heap.size by omega)).trans HB06.out
      have hbx7 := (hB7.block _ (show w4.heap.size < w6.heap.size by omega)).trans HB6x.out
      have HBW7 : Hid (Below w.heap.size w w7) := HBW6.out.trans (hB7.mono HBW6.out.size)
      refine hK.out _ _ hb07 (fun hS2 => ?_)
      clear hK K hS1
      have HB07 := Lib.hid hb07
      have HB7x := Lib.hid hbx7
      have hlt7 : w6.heap.size ≤ w7.heap.size := hB7.size
      have HB48 : Hid (Below w4.heap.size w4 w7) := HB46.out.trans (hB7.mono HB46.out.size)
      clear hB7 hb07 hbx7
      refine wpAnyH_take (i := 6) (v := .int .i64 (v)) rfl (by kernel_rfl) (by kernel_rfl) (by kernel_rfl) (fun _ _ _ h => h) (Or.inl ⟨by rfl, ?hy⟩) hS2 ?_
      case hy => intro w9 hSw; have s0 := blk_cell hSw 0;have s1 := blk_cell hSw 1;have s2 := blk_cell hSw 2;have s3 := blk_cell hSw 3;have s4 := blk_cell hSw 4;have s5 := blk_cell hSw 5;have s6 := blk_cell hSw 6; simp only [List.getElem?_toArray, List.getElem?_cons_succ, List.getElem?_cons_zero] at s0 s1 s2 s3 s4 s5 s6; go_simp
      go_simp
      refine wpAnyH_done (by kernel_rfl) ?_ _
      clear hS2
      have q0 := blk_cell HB07.out 0
      have q1 := blk_cell HB07.out 1
      have q2 := blk_cell HB07.out 2
      have q3 := blk_cell HB07.out 3
      have q4 := blk_cell HB07.out 4
      have q5 := blk_cell HB07.out 5
      have q6 := blk_cell HB07.out 6
      simp only [List.getElem?_toArray, List.getElem?_cons_succ, List.getElem?_cons_zero] at q0 q1 q2 q3 q4 q5 q6
      have r0 := blk_cell HB7x.out 0
      have r1 := blk_cell HB7x.out 1
      have r2 := blk_cell HB7x.out 2
      have r3 := blk_cell HB7x.out 3
      have r4 := blk_cell HB7x.out 4
      have r5 := blk_cell HB7x.out 5
      have r6 := blk_cell HB7x.out 6
      simp only [List.getElem?_toArray, List.getElem?_cons_succ, List.getElem?_cons_zero] at r0 r1 r2 r3 r4 r5 r6
      have hst := callsIn_wide.1 (c29 c _ _ gi live quar w7 (HL.out.below HBW7.out) (HQ.out.below HBW7.out) HWL.out HWQ.out)
      have HST := Lib.hid hst
      have hrl := room_lg c.red size z0 z1 (gapsF c L2)
      have HRL := Lib.hid hrl
      clear hst hrl
      go_wp2_with fail
      refine Calls.mono HST.out ?_
      rintro e w8 ⟨hB8, ⟨hng, rfl⟩ | ⟨L3, hop3, rfl⟩⟩
      · exact absurd HGD.out hng
      obtain rfl := HOP.out.uniq hop3
      have hrl := HRL.out
      rw [HRM.out] at hrl
      unfold statV
      obtain ⟨lg, hlg⟩ : ∃ z, lgF c.red (gapsF c L3) (-1) = z := ⟨_, rfl⟩
      rw [hlg] at hrl ⊢
      have hb08 := (hB8.block _ (blk_lt HB07.out)).trans HB07.out
      have hbx8 := (hB8.block _ (blk_lt HB7x.out)).trans HB7x.out
      have HBW8 : Hid (Below w.heap.size w w8) := HBW7.out.trans (hB8.mono HBW7.out.size)
      clear q0 q1 q2 q3 q4 q5 q6
      clear r0 r1 r2 r3 r4 r5 r6
      have q0 := blk_cell hb08 0
      have q1 := blk_cell hb08 1
      have q2 := blk_cell hb08 2
      have q3 := blk_cell hb08 3
      have q4 := blk_cell hb08 4
      have q5 := blk_cell hb08 5
      have q6 := blk_cell hb08 6
      simp only [List.getElem?_toArray, List.getElem?_cons_succ, List.getElem?_cons_zero] at q0 q1 q2 q3 q4 q5 q6
      have r0 := blk_cell hbx8 0
      have r1 := blk_cell hbx8 1
      have r2 := blk_cell hbx8 2
      have r3 := blk_cell hbx8 3
      have r4 := blk_cell hbx8 4
      have r5 := blk_cell hbx8 5
      have r6 := blk_cell hbx8 6
      simp only [List.getElem?_toArray, List.getElem?_cons_succ, List.getElem?_cons_zero] at r0 r1 r2 r3 r4 r5 r6
      have HB8s := Lib.hid hB8
      have HB08 := Lib.hid hb08
      have HB8x := Lib.hid hbx8
      clear hB8 hb08 hbx8 hlg hop3 HST HRL
      have hfd : ∀ (w : World) (a0 a1 a2 a3 a4 a5 a6 : Int), (Instr.field 59 (.agg #[.int .i64 a0, .int .i64 a1, .int .i64 a2, .int .i64 a3, .int .i64 a4, .int .i64 a5, .int .i64 a6]) 6).run Try.prog w = .ok (.int .i64 a6) w := fun _ _ _ _ _ _ _ _ => by kernel_rfl
      have hlt : size ≤ lg := Int.not_lt.1 (fun h => by have := hrl.2 h; cases this)
      have hgx : ¬ 1073741824 ≤ gi := by omega
      have HX8 : Hid (Sl 3 encP w8 (.slice A1 live'.length k1) live' ∧ Sl 3 encP w8 (.slice A2 quar.length k2) quar) := ⟨HFL.out.sl.below (HB48.out.trans (HB8s.out.mono HB48.out.size)), HFQ.out.sl.below (HB48.out.trans (HB8s.out.mono HB48.out.size))⟩
      rw [HLN.out] at HX8
      have hl1 : w4.heap.size < w8.heap.size := blk_lt HB8x.out
      have hl2 : w.heap.size < w8.heap.size := blk_lt HB08.out
      clear hrl
      go_wp2_with fail
      refine gen_worldC (fun W => Below w8.heap.size w8 W ∧ W.heap[w8.heap.size]? = some (.cells #[.int .u32 v, .int .i64 size, .int .i64 (gi + 1)] 38 (0, 0))) ⟨(Below.refl _ _).alloc (Nat.le_refl _) _, hal_new rfl⟩ ?_
      rintro W9 ⟨hW9, hb9⟩
      have h43 := c43 _ _ ⟨v, size, gi + 1⟩ W9 (HX8.out.1.below hW9) (by rw [HLN.out]; omega)
      rw [decide_eq_true HPM.out] at h43
      refine Calls.mono h43 ?_
      rintro e w10 ⟨rfl, hB10⟩
      have HB810 : Hid (Below w8.heap.size w8 w10) := hW9.trans (hB10.mono hW9.size)
      have hb010 := (HB810.out.block _ (blk_lt HB08.out)).trans HB08.out
      have hbx10 := (HB810.out.block _ (blk_lt HB8x.out)).trans HB8x.out
      clear h43 hB10 hW9 hb9
      clear q0 q1 q2 q3 q4 q5 q6
      clear r0 r1 r2 r3 r4 r5 r6
      have q0 := blk_cell hb010 0
      have q1 := blk_cell hb010 1
      have q2 := blk_cell hb010 2
      have q3 := blk_cell hb010 3
      have q4 := blk_cell hb010 4
      have q5 := blk_cell hb010 5
      have q6 := blk_cell hb010 6
      simp only [List.getElem?_toArray, List.getElem?_cons_succ, List.getElem?_cons_zero] at q0 q1 q2 q3 q4 q5 q6
      have r0 := blk_cell hbx10 0
      have r1 := blk_cell hbx10 1
      have r2 := blk_cell hbx10 2
      have r3 := blk_cell hbx10 3
      have r4 := blk_cell hbx10 4
      have r5 := blk_cell hbx10 5
      have r6 := blk_cell hbx10 6
      simp only [List.getElem?_toArray, List.getElem?_cons_succ, List.getElem?_cons_zero] at r0 r1 r2 r3 r4 r5 r6
      clear hb010 hbx10
      go_wp2_with fail
      refine Calls.mono (c22v _ _ quar quar w10 (by omega) (by omega) (HX8.out.2.below HB810.out) (HQ.out.below (HBW8.out.trans (HB810.out.mono HBW8.out.size)))) ?_
      rw [allEq_self]
      rintro e w11 ⟨rfl, hB11⟩
      go_wp2
      go_ret
      exact ⟨rfl, (HBW8.out.trans (HB810.out.mono HBW8.out.size)).trans (hB11.mono (Nat.le_trans HBW8.out.size HB810.out.size))⟩
end Go.Proofs.Ytbhbjcgbhklieaa
