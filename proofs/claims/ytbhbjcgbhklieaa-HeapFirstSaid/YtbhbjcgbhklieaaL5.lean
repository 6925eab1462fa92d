/- HeapUndone: the walk. -/
import Derived.Test.YtbhbjcgbhklieaaE12
import Derived.Test.YtbhbjcgbhklieaaF2
import Derived.Test.YtbhbjcgbhklieaaF4
import Derived.Test.YtbhbjcgbhklieaaG1
import Derived.Test.YtbhbjcgbhklieaaR1
import Derived.Test.YtbhbjcgbhklieaaC7
namespace Go.Proofs.Ytbhbjcgbhklieaa
open Go.RowKit Go.Shelf

theorem allEq_self : ∀ (l : List Piece), Lib.allEq eqP l l = true
  | [] => rfl
  | p :: l => by simp [Lib.allEq, eqP, allEq_self l]

set_option maxRecDepth 100000 in
set_option maxHeartbeats 4000000 in
theorem c5 (c : Conf) (lv qv : Value) (gi : Int) (live quar : List Piece) (size : Int) (w : World) (hin : HeapIn w c lv qv gi live quar) :
    Calls Try.prog 5 #[hAgg c lv qv gi, .int .i64 size] w fun e w' => e = .returned (.bool true) ∧ Below w.heap.size w w' := by
  have HL := Lib.hid hin.hl
  have HQ := Lib.hid hin.hq
  have HWL : Hid (∀ p ∈ live, WfP p) := fun p hp => (hin.wl p hp).1
  have HWQ : Hid (∀ p ∈ quar, WfP p) := fun p hp => (hin.wq p hp).1
  have HSL := Lib.hid hin.sl
  have HSQ := Lib.hid hin.sq
  obtain ⟨A, ca, rfl, _, _⟩ := id hin.hl
  obtain ⟨B, cb, rfl, _, _⟩ := id hin.hq
  clear hin
  go_enter Try.func5, Try.ntmps5
  go_wp2_with fail
  refine Calls.mono (c16 _) ?_
  rintro e w1 ⟨rfl, hB1⟩
  have hb0 : w1.heap[w.heap.size]? = some (.cells #[.int .i64 c.page, .int .i64 c.n, .int .i64 c.red, .int .i64 c.quarantine, .slice A live.length ca, .slice B quar.length cb, .int .i64 gi] 26 (0, 0)) := (hB1.block _ (by simp; try omega)).trans (hal_new rfl)
  have hBw : Below w.heap.size w w1 := ((Below.refl _ _).alloc (Nat.le_refl _) _).trans (hB1.mono (by simp; try omega))
  have q0 := blk_cell hb0 0
  have q1 := blk_cell hb0 1
  have q2 := blk_cell hb0 2
  have q3 := blk_cell hb0 3
  have q4 := blk_cell hb0 4
  have q5 := blk_cell hb0 5
  have q6 := blk_cell hb0 6
  simp only [List.getElem?_toArray, List.getElem?_cons_succ, List.getElem?_cons_zero] at q0 q1 q2 q3 q4 q5 q6
  have HB0 := Lib.hid hb0
  have HBW := Lib.hid hBw
  have hlt0 : w.heap.size < w1.heap.size := blk_lt hb0
  clear hB1 hBw hb0
  go_wp2_with fail
  refine Calls.mono (c17 w1.heap.size c A B live.length ca quar.length cb gi _ (hal_new rfl)) ?_
  rintro e w2 ⟨rfl, hB2⟩
  have hb02 : w2.heap[w.heap.size]? = some (.cells #[.int .i64 c.page, .int .i64 c.n, .int .i64 c.red, .int .i64 c.quarantine, .slice A live.length ca, .slice B quar.length cb, .int .i64 gi] 26 (0, 0)) := (hB2.block _ (by simp; omega)).trans (hal_old HB0.out)
  have hBw2 : Below w.heap.size w w2 := (HBW.out.alloc (by omega) _).trans (hB2.mono (by simp; omega))
  have hB12 : Below w1.heap.size w1 w2 := (below_alloc1 w1 _).trans (hB2.mono (by simp))
  clear q0 q1 q2 q3 q4 q5 q6
  have q0 := blk_cell hb02 0
  have q1 := blk_cell hb02 1
  have q2 := blk_cell hb02 2
  have q3 := blk_cell hb02 3
  have q4 := blk_cell hb02 4
  have q5 := blk_cell hb02 5
  have q6 := blk_cell hb02 6
  simp only [List.getElem?_toArray, List.getElem?_cons_succ, List.getElem?_cons_zero] at q0 q1 q2 q3 q4 q5 q6
  have HB02 := Lib.hid hb02
  have HBW2 := Lib.hid hBw2
  have HB12 := Lib.hid hB12
  clear hB2 hb02 hBw2 hB12
  cases hmf : manyF live.length quar.length with
  | true =>
    go_wp2
    go_ret
    exact ⟨rfl, HBW2.out⟩
  | false =>
    have h18 := c18 c _ _ gi live quar w2 (HL.out.below HBW2.out) (HQ.out.below HBW2.out) HWL.out HWQ.out
    have H18 := Lib.hid h18
    have HMF := Lib.hid hmf
    clear h18
    go_wp2_with fail
    refine Calls.mono H18.out ?_
    clear H18 hmf
    rintro e w3 ⟨hB3, ⟨hng, rfl⟩ | ⟨hg, rfl⟩⟩
    · have HBW3 : Hid (Below w.heap.size w w3) := HBW2.out.trans (hB3.mono HBW2.out.size)
      clear hB3 hng
      go_wp2
      go_ret
      exact ⟨rfl, HBW3.out⟩
    have HG := Lib.hid hg
    have hb03 : w3.heap[w.heap.size]? = some (.cells #[.int .i64 c.page, .int .i64 c.n, .int .i64 c.red, .int .i64 c.quarantine, .slice A live.length ca, .slice B quar.length cb, .int .i64 gi] 26 (0, 0)) := (hB3.block _ (blk_lt HB02.out)).trans HB02.out
    have HBW3 : Hid (Below w.heap.size w w3) := HBW2.out.trans (hB3.mono HBW2.out.size)
    have HB13 : Hid (Below w1.heap.size w1 w3) := HB12.out.trans (hB3.mono HB12.out.size)
    have hlt3 : w1.heap.size ≤ w3.heap.size := HB13.out.size
    have HGD : Hid (Good c gi live quar) := (good_iff HWL.out HWQ.out).2 hg
    have hgi0 := hg.gi0
    have hgi1 := hg.gi1
    have hn1 := hg.n1
    have hn2 := hg.n2
    clear q0 q1 q2 q3 q4 q5 q6
    have q0 := blk_cell hb03 0
    have q1 := blk_cell hb03 1
    have q2 := blk_cell hb03 2
    have q3 := blk_cell hb03 3
    have q4 := blk_cell hb03 4
    have q5 := blk_cell hb03 5
    have q6 := blk_cell hb03 6
    simp only [List.getElem?_toArray, List.getElem?_cons_succ, List.getElem?_cons_zero] at q0 q1 q2 q3 q4 q5 q6
    have HB03 := Lib.hid hb03
    clear hB3 hg hb03 HBW2 HB02 HB12 HBW HB0
    by_cases hsz : size ≤ c.quarantine
    · go_wp2
      go_ret
      exact ⟨rfl, HBW3.out⟩
    have hca := c23 c _ _ gi live quar size w3 (HL.out.below HBW3.out) (HQ.out.below HBW3.out) HWL.out HWQ.out HSL.out HSQ.out
    have HCA := Lib.hid hca
    clear hca
    go_wp2_with fail
    refine Calls.mono HCA.out ?_
    clear HCA
    rintro e w4 ⟨hB4, ⟨hng, rfl⟩ | ⟨_, hbz, rfl⟩ | ⟨L, hop, z0, z1, hno, rfl⟩ | ⟨L, v, hop, z0, z1, hv, hn, hg, lv', qv', rfl, hl', hq'⟩⟩
    · exact absurd HGD.out hng
    · have HBW4 : Hid (Below w.heap.size w w4) := HBW3.out.trans (hB4.mono HBW3.out.size)
      clear hB4 hbz q0 q1 q2 q3 q4 q5 q6
      go_wp2
      go_ret
      repeat' first | refine ⟨rfl, ?_⟩ | refine Below.setCell ?_ (by simp; try omega) _ | refine Below.alloc ?_ (by first | exact HBW4.out.size | (simp; try omega)) _ | exact HBW4.out
    · have HBW4 : Hid (Below w.heap.size w w4) := HBW3.out.trans (hB4.mono HBW3.out.size)
      clear hB4 hno q0 q1 q2 q3 q4 q5 q6 hop
      go_wp2
      go_ret
      repeat' first | refine ⟨rfl, ?_⟩ | refine Below.setCell ?_ (by simp; try omega) _ | refine Below.alloc ?_ (by first | exact HBW4.out.size | (simp; try omega)) _ | exact HBW4.out
    have HBW4 : Hid (Below w.heap.size w w4) := HBW3.out.trans (hB4.mono HBW3.out.size)
    have HB04 := Lib.hid ((hB4.block _ (blk_lt HB03.out)).trans HB03.out)
    obtain ⟨u1, u2, u3, u4, u5⟩ := undone hop HWL.out HWQ.out z0 z1 hv hn hg (by omega)
    obtain ⟨A1, k1, rfl, _, _⟩ := id hl'.sl
    obtain ⟨A2, k2, rfl, _, _⟩ := id hq'.sl
    obtain ⟨live', hlive'⟩ : ∃ l, insF live (atI live v) ⟨v, size, gi + 1⟩ = l := ⟨_, rfl⟩
    rw [hlive'] at u1 u2 u3 u4 u5 hl'
    rw [hlive']
    have HFL := Lib.hid hl'
    have HFQ := Lib.hid hq'
    have U1 := Lib.hid u1
    have U2 := Lib.hid u2
    have U3 := Lib.hid u3
    have U4 := Lib.hid u4
    have U5 := Lib.hid u5
    have hlt4 : w1.heap.size ≤ w4.heap.size := Nat.le_trans hlt3 hB4.size
    clear u1 u2 u3 u4 u5 hl' hq' hlive' hop hv hB4
    clear q0 q1 q2 q3 q4 q5 q6
    go_wp2_with fail
    refine gen_worldC (fun W => Below w4.heap.size w4 W ∧ W.heap[w4.heap.size]? = some (.cells #[.int .i64 c.page, .int .i64 c.n, .int .i64 c.red, .int .i64 c.quarantine, .slice A1 live'.length k1, .slice A2 quar.length k2, .int .i64 (gi + 1)] 26 (0, 0))) ⟨(Below.refl _ _).alloc (Nat.le_refl _) _, hal_new rfl⟩ ?_
    rintro W5 ⟨hW5, hbx⟩
    refine Calls.mono (c19 c _ _ (gi + 1) live' quar v W5 (HFL.out.sl.below hW5) (HFQ.out.sl.below hW5) U5.out HWQ.out HFL.out.shape HFQ.out.shape) ?_
    rintro e w6 ⟨hB6, ⟨hng, rfl⟩ | ⟨_, his, rfl⟩ | ⟨_, _, lv2, qv2, rfl, hl2, hq2⟩⟩
    · exact absurd U1.out hng
    · rw [U2.out] at his; cases his
    rw [U3.out] at hl2
    rw [U4.out] at hq2
    obtain ⟨A3, k3, rfl, _, _⟩ := id hl2.sl
    obtain ⟨A4, k4, rfl, _, _⟩ := id hq2.sl
    have HBW6 : Hid (Below w.heap.size w w6) := (HBW4.out.trans (hW5.mono HBW4.out.size)).trans (hB6.mono (Nat.le_trans HBW4.out.size hW5.size))
    have hb06 := (hB6.block _ (Nat.lt_of_lt_of_le (blk_lt HB04.out) hW5.size)).trans ((hW5.block _ (blk_lt HB04.out)).trans HB04.out)
    have HL2 := Lib.hid hl2
    have hlt6 : w.heap.size < w6.heap.size := blk_lt hb06
    have q0 := blk_cell hb06 0
    have q1 := blk_cell hb06 1
    have q2 := blk_cell hb06 2
    have q3 := blk_cell hb06 3
    have q4 := blk_cell hb06 4
    have q5 := blk_cell hb06 5
    have q6 := blk_cell hb06 6
    simp only [List.getElem?_toArray, List.getElem?_cons_succ, List.getElem?_cons_zero] at q0 q1 q2 q3 q4 q5 q6
    have hcb : c.page = c.page := rfl
    clear hB6 hW5 hbx hl2 hq2 hb06 hcb
    go_wp2_with fail
    refine gen_worldC (fun W => Below w6.heap.size w6 W ∧ W.heap[w6.heap.size]? = some (.cells #[.int .i64 c.page, .int .i64 c.n, .int .i64 c.red, .int .i64 c.quarantine, .slice A3 live.length k3, .slice A4 0 k4, .int .i64 (gi + 1)] 26 (0, 0))) ⟨(Below.refl _ _).alloc (Nat.le_refl _) _, hal_new rfl⟩ ?_
    rintro W7 ⟨hW7, hbx⟩
    have hq7 : ∀ i u, w6.cell? ⟨w.heap.size, i, none⟩ = some u → W7.cell? ⟨w.heap.size, i, none⟩ = some u := fun i u h => (hW7.cell (p := ⟨w.heap.size, i, none⟩) hlt6).trans h
    refine Calls.mono (c22v _ _ live live W7 (by omega) (by omega) (HL2.out.sl.below hW7) (HL.out.below (HBW6.out.trans (hW7.mono HBW6.out.size)))) ?_
    rw [allEq_self]
    rintro e w8 ⟨rfl, hB8⟩
    have HBW8 : Hid (Below w.heap.size w w8) := HBW6.out.trans ((hW7.mono HBW6.out.size).trans (hB8.mono (Nat.le_trans HBW6.out.size hW7.size)))
    have hq8 : ∀ i u, W7.cell? ⟨w.heap.size, i, none⟩ = some u → w8.cell? ⟨w.heap.size, i, none⟩ = some u := fun i u h => (hB8.cell (p := ⟨w.heap.size, i, none⟩) (Nat.lt_of_lt_of_le hlt6 hW7.size)).trans h
    have hb8 := (hB8.block _ (blk_lt hbx)).trans hbx
    replace q0 := hq8 0 _ (hq7 0 _ q0)
    replace q1 := hq8 1 _ (hq7 1 _ q1)
    replace q2 := hq8 2 _ (hq7 2 _ q2)
    replace q3 := hq8 3 _ (hq7 3 _ q3)
    replace q4 := hq8 4 _ (hq7 4 _ q4)
    replace q5 := hq8 5 _ (hq7 5 _ q5)
    replace q6 := hq8 6 _ (hq7 6 _ q6)
    have r0 := blk_cell hb8 0
    have r1 := blk_cell hb8 1
    have r2 := blk_cell hb8 2
    have r3 := blk_cell hb8 3
    have r4 := blk_cell hb8 4
    have r5 := blk_cell hb8 5
    have r6 := blk_cell hb8 6
    simp only [List.getElem?_toArray, List.getElem?_cons_succ, List.getElem?_cons_zero] at r0 r1 r2 r3 r4 r5 r6
    clear hB8 hW7 hbx hq7 hq8 hb8
    go_wp2
    go_ret
    exact ⟨rfl, HBW8.out⟩
end Go.Proofs.Ytbhbjcgbhklieaa
