/- Resize. -/
import Derived.Test.YtbhbjcgbhklieaaE10
import Derived.Test.YtbhbjcgbhklieaaG3
namespace Go.Proofs.Ytbhbjcgbhklieaa
open Go.RowKit Go.Shelf

theorem cmpI_zero (x y : Int) : cmpI x y = 0 ↔ x = y := by unfold cmpI; split <;> (try split) <;> omega
theorem isI_iff {live : List Piece} (h : live.Pairwise (fun p q => p.pos < q.pos)) (v : Int) : isI live v = true ↔ ∃ p ∈ live, p.pos = v := by
  constructor
  · intro hi
    unfold isI bsIs at hi
    simp only [decide_eq_true_eq] at hi
    refine ⟨live[atI live v]!, by rw [getElem!_pos live _ hi.1]; exact List.getElem_mem hi.1, ?_⟩
    exact (cmpI_zero _ _).1 hi.2
  · rintro ⟨p, hp, rfl⟩
    obtain ⟨i, hi, rfl⟩ := List.getElem_of_mem hp
    have := (at_of h hi).2
    rwa [getElem!_pos live i hi] at this

/-- what Resize answers. -/
def ResAns (c : Conf) (gi : Int) (live quar : List Piece) (at_ size : Int) (N : Nat) (e : Ending) (w' : World) : Prop :=
  (¬ Good c gi live quar ∧ e = .returned (.tuple #[hNil, .int .u32 0, .int .i64 60])) ∨
  (Good c gi live quar ∧ isI live at_ = false ∧ e = .returned (.tuple #[hNil, .int .u32 0, .int .i64 61])) ∨
  (Good c gi live quar ∧ isI live at_ = true ∧ (size < 0 ∨ 65536 < size) ∧ e = .returned (.tuple #[hNil, .int .u32 0, .int .i64 1])) ∨
  (∃ L, Op c gi live quar L ∧ isI live at_ = true ∧ 0 ≤ size ∧ size ≤ 65536 ∧ (roomGo c.red size (gapsF c L) = none ∨ live.length = 1000 ∨ gi = 1073741824) ∧ e = .returned (.tuple #[hNil, .int .u32 0, .int .i64 2])) ∨
  (∃ L v, Op c gi live quar L ∧ isI live at_ = true ∧ 0 ≤ size ∧ size ≤ 65536 ∧ roomGo c.red size (gapsF c L) = some v ∧ live.length ≠ 1000 ∧ gi ≠ 1073741824 ∧ ∃ lv' qv', e = .returned (.tuple #[hAgg c lv' qv' (gi + 1), .int .u32 v, .int .i64 0]) ∧
    Fresh N w' lv' ((insF live (atI live v) ⟨v, size, gi + 1⟩).eraseIdx (atI (insF live (atI live v) ⟨v, size, gi + 1⟩) at_)) ∧
    Fresh N w' qv' (trimF c.quarantine (quar ++ [(insF live (atI live v) ⟨v, size, gi + 1⟩)[atI (insF live (atI live v) ⟨v, size, gi + 1⟩) at_]!])))

set_option maxRecDepth 100000 in
set_option maxHeartbeats 2000000 in
theorem c52 (c : Conf) (lv qv : Value) (gi : Int) (live quar : List Piece) (at_ size : Int) (w : World) (hl : Sl 3 encP w lv live) (hq : Sl 3 encP w qv quar) (wl : ∀ p ∈ live, WfP p) (wq : ∀ p ∈ quar, WfP p) (sl : SlShape lv) (sq : SlShape qv) :
    Calls Try.prog 52 #[hAgg c lv qv gi, .int .u32 at_, .int .i64 size] w fun e w' => Below w.heap.size w w' ∧ ResAns c gi live quar at_ size w.heap.size e w' := by
  have HL := Lib.hid hl
  have HQ := Lib.hid hq
  have HWL := Lib.hid wl
  have HWQ := Lib.hid wq
  have HSL := Lib.hid sl
  have HSQ := Lib.hid sq
  obtain ⟨A, ca, rfl, _, _⟩ := hl
  obtain ⟨B, cb, rfl, _, _⟩ := hq
  clear wl wq sl sq
  go_enter Try.func52, Try.ntmps52
  go_wp2_with fail
  refine gen_worldC (fun W => Below w.heap.size w W ∧ W.heap[w.heap.size]? = some (.cells #[.int .i64 c.page, .int .i64 c.n, .int .i64 c.red, .int .i64 c.quarantine, .slice A live.length ca, .slice B quar.length cb, .int .i64 gi] 26 (0, 0)) ∧ W.heap[w.heap.size + 1]? = some (.cells #[.int .i64 0, .int .i64 0, .int .i64 0, .int .i64 0, .slice none 0 0, .slice none 0 0, .int .i64 0] 26 (0, 0))) ⟨((Below.refl _ _).alloc (Nat.le_refl _) _).alloc (by simp) _, hal_old (hal_new rfl), hal_new (by simp)⟩ ?_
  rintro W1 ⟨hW1, hb0, hb1⟩
  refine Calls.mono (c35 c _ _ gi live quar at_ W1 (HL.out.below hW1) (HQ.out.below hW1) HWL.out HWQ.out) ?_
  rintro e w2 ⟨hB2, hans⟩
  have HBW2 : Hid (Below w.heap.size w w2) := hW1.trans (hB2.mono hW1.size)
  have hb02 := (hB2.block _ (blk_lt hb0)).trans hb0
  have hb12 := (hB2.block _ (blk_lt hb1)).trans hb1
  have q0 := blk_cell hb02 0
  have q1 := blk_cell hb02 1
  have q2 := blk_cell hb02 2
  have q3 := blk_cell hb02 3
  have q4 := blk_cell hb02 4
  have q5 := blk_cell hb02 5
  have q6 := blk_cell hb02 6
  simp only [List.getElem?_toArray, List.getElem?_cons_succ, List.getElem?_cons_zero] at q0 q1 q2 q3 q4 q5 q6
  have r0 := blk_cell hb12 0
  have fr0 : w2.frozen? ⟨w.heap.size + 1, 0, none⟩ = false := frozen_of_row _ _ _ _ _ hb12
  have r1 := blk_cell hb12 1
  have fr1 : w2.frozen? ⟨w.heap.size + 1, 1, none⟩ = false := frozen_of_row _ _ _ _ _ hb12
  have r2 := blk_cell hb12 2
  have fr2 : w2.frozen? ⟨w.heap.size + 1, 2, none⟩ = false := frozen_of_row _ _ _ _ _ hb12
  have r3 := blk_cell hb12 3
  have fr3 : w2.frozen? ⟨w.heap.size + 1, 3, none⟩ = false := frozen_of_row _ _ _ _ _ hb12
  have r4 := blk_cell hb12 4
  have fr4 : w2.frozen? ⟨w.heap.size + 1, 4, none⟩ = false := frozen_of_row _ _ _ _ _ hb12
  have r5 := blk_cell hb12 5
  have fr5 : w2.frozen? ⟨w.heap.size + 1, 5, none⟩ = false := frozen_of_row _ _ _ _ _ hb12
  have r6 := blk_cell hb12 6
  have fr6 : w2.frozen? ⟨w.heap.size + 1, 6, none⟩ = false := frozen_of_row _ _ _ _ _ hb12
  simp only [List.getElem?_toArray, List.getElem?_cons_succ, List.getElem?_cons_zero] at r0 r1 r2 r3 r4 r5 r6
  have HB0 := Lib.hid hb02
  have HB1 := Lib.hid hb12
  have hlt2 : w.heap.size + 1 < w2.heap.size := blk_lt hb12
  clear hW1 hb0 hb1 hB2 hb02 hb12
  rcases hans with ⟨hng, rfl⟩ | ⟨hg, hi, rfl⟩ | ⟨hg, hi, rfl⟩
  · have HNG := Lib.hid hng
    clear hng q0 q1 q2 q3 q4 q5 q6
    go_wp2
    refine gen_worldB (fun W => Below w.heap.size w W ∧ W.heap[w.heap.size + 1]? = some (.cells #[.int .i64 0, .int .i64 0, .int .i64 0, .int .i64 0, .slice none 0 0, .slice none 0 0, .int .i64 0] 26 (0, 0))) ⟨?_, ?_⟩ ?_
    · repeat' first | (with_reducible refine Below.setCell ?_ (by simp; try omega) _) | with_reducible exact HBW2.out
    · simp [World.setCell, Array.getElem?_modify, HB1.out]
    rintro W9 ⟨hW9, hb9⟩
    have s0 := blk_cell hb9 0
    have s1 := blk_cell hb9 1
    have s2 := blk_cell hb9 2
    have s3 := blk_cell hb9 3
    have s4 := blk_cell hb9 4
    have s5 := blk_cell hb9 5
    have s6 := blk_cell hb9 6
    simp only [List.getElem?_toArray, List.getElem?_cons_succ, List.getElem?_cons_zero] at s0 s1 s2 s3 s4 s5 s6
    exact bodyPost_ret (v := .tuple #[hNil, .int .u32 0, .int .i64 60]) (by simp [results, Try.results52, go_sem, s0, s1, s2, s3, s4, s5, s6]) rfl ⟨hW9, .inl ⟨HNG.out, rfl⟩⟩
  · have HNG := Lib.hid hg
    have HI := Lib.hid hi
    clear hg hi q0 q1 q2 q3 q4 q5 q6
    go_wp2
    refine gen_worldB (fun W => Below w.heap.size w W ∧ W.heap[w.heap.size + 1]? = some (.cells #[.int .i64 0, .int .i64 0, .int .i64 0, .int .i64 0, .slice none 0 0, .slice none 0 0, .int .i64 0] 26 (0, 0))) ⟨?_, ?_⟩ ?_
    · repeat' first | (with_reducible refine Below.setCell ?_ (by simp; try omega) _) | with_reducible exact HBW2.out
    · simp [World.setCell, Array.getElem?_modify, HB1.out]
    rintro W9 ⟨hW9, hb9⟩
    have s0 := blk_cell hb9 0
    have s1 := blk_cell hb9 1
    have s2 := blk_cell hb9 2
    have s3 := blk_cell hb9 3
    have s4 := blk_cell hb9 4
    have s5 := blk_cell hb9 5
    have s6 := blk_cell hb9 6
    simp only [List.getElem?_toArray, List.getElem?_cons_succ, List.getElem?_cons_zero] at s0 s1 s2 s3 s4 s5 s6
    exact bodyPost_ret (v := .tuple #[hNil, .int .u32 0, .int .i64 61]) (by simp [results, Try.results52, go_sem, s0, s1, s2, s3, s4, s5, s6]) rfl ⟨hW9, .inr (.inl ⟨HNG.out, HI.out, rfl⟩)⟩
  have HG := Lib.hid hg
  have HI := Lib.hid hi
  have hca := c23 c _ _ gi live quar size w2 (HL.out.below HBW2.out) (HQ.out.below HBW2.out) HWL.out HWQ.out HSL.out HSQ.out
  have HCA := Lib.hid hca
  obtain ⟨sz, hsz⟩ : ∃ z, live[atI live at_]!.size = z := ⟨_, rfl⟩
  rw [hsz]
  clear hca hg hi hsz
  go_wp2_with fail
  refine Calls.mono HCA.out ?_
  clear HCA
  rintro e w4 ⟨hB4, hans⟩
  have HBW4 : Hid (Below w.heap.size w w4) := HBW2.out.trans (hB4.mono HBW2.out.size)
  have hb14 := (hB4.block _ (blk_lt HB1.out)).trans HB1.out
  clear q0 q1 q2 q3 q4 q5 q6
  clear r0 r1 r2 r3 r4 r5 r6 fr0 fr1 fr2 fr3 fr4 fr5 fr6
  have r0 := blk_cell hb14 0
  have fr0 : w4.frozen? ⟨w.heap.size + 1, 0, none⟩ = false := frozen_of_row _ _ _ _ _ hb14
  have r1 := blk_cell hb14 1
  have fr1 : w4.frozen? ⟨w.heap.size + 1, 1, none⟩ = false := frozen_of_row _ _ _ _ _ hb14
  have r2 := blk_cell hb14 2
  have fr2 : w4.frozen? ⟨w.heap.size + 1, 2, none⟩ = false := frozen_of_row _ _ _ _ _ hb14
  have r3 := blk_cell hb14 3
  have fr3 : w4.frozen? ⟨w.heap.size + 1, 3, none⟩ = false := frozen_of_row _ _ _ _ _ hb14
  have r4 := blk_cell hb14 4
  have fr4 : w4.frozen? ⟨w.heap.size + 1, 4, none⟩ = false := frozen_of_row _ _ _ _ _ hb14
  have r5 := blk_cell hb14 5
  have fr5 : w4.frozen? ⟨w.heap.size + 1, 5, none⟩ = false := frozen_of_row _ _ _ _ _ hb14
  have r6 := blk_cell hb14 6
  have fr6 : w4.frozen? ⟨w.heap.size + 1, 6, none⟩ = false := frozen_of_row _ _ _ _ _ hb14
  simp only [List.getElem?_toArray, List.getElem?_cons_succ, List.getElem?_cons_zero] at r0 r1 r2 r3 r4 r5 r6
  have HB14 := Lib.hid hb14
  have hlt4 : w.heap.size + 1 < w4.heap.size := blk_lt hb14
  clear hB4 hb14
  rcases hans with ⟨hng, rfl⟩ | ⟨_, hbz, rfl⟩ | ⟨L, hop, z0, z1, hno, rfl⟩ | ⟨L, v, hop, z0, z1, hv, hn, hgi, lv', qv', rfl, hl', hq'⟩
  · exact absurd HG.out hng
  · have HBZ := Lib.hid hbz
    clear hbz
    go_wp2
    refine gen_worldB (fun W => Below w.heap.size w W ∧ W.heap[w.heap.size + 1]? = some (.cells #[.int .i64 0, .int .i64 0, .int .i64 0, .int .i64 0, .slice none 0 0, .slice none 0 0, .int .i64 0] 26 (0, 0))) ⟨?_, ?_⟩ ?_
    · refine Below.alloc ?_ (by simp; omega) _
      repeat' first | (with_reducible refine Below.setCell ?_ (by simp; try omega) _) | with_reducible exact HBW4.out
    · refine Eq.trans (Below.heap_alloc _ _ _ (by simp; omega)) ?_; simp [World.setCell, Array.getElem?_modify, HB14.out]
    rintro W9 ⟨hW9, hb9⟩
    have s0 := blk_cell hb9 0
    have s1 := blk_cell hb9 1
    have s2 := blk_cell hb9 2
    have s3 := blk_cell hb9 3
    have s4 := blk_cell hb9 4
    have s5 := blk_cell hb9 5
    have s6 := blk_cell hb9 6
    simp only [List.getElem?_toArray, List.getElem?_cons_succ, List.getElem?_cons_zero] at s0 s1 s2 s3 s4 s5 s6
    exact bodyPost_ret (v := .tuple #[hNil, .int .u32 0, .int .i64 1]) (by simp [results, Try.results52, go_sem, s0, s1, s2, s3, s4, s5, s6]) rfl ⟨hW9, .inr (.inr (.inl ⟨HG.out, HI.out, HBZ.out, rfl⟩))⟩
  · have HOP := Lib.hid hop
    have HNO := Lib.hid hno
    clear hop hno
    go_wp2
    refine gen_worldB (fun W => Below w.heap.size w W ∧ W.heap[w.heap.size + 1]? = some (.cells #[.int .i64 0, .int .i64 0, .int .i64 0, .int .i64 0, .slice none 0 0, .slice none 0 0, .int .i64 0] 26 (0, 0))) ⟨?_, ?_⟩ ?_
    · refine Below.alloc ?_ (by simp; omega) _
      repeat' first | (with_reducible refine Below.setCell ?_ (by simp; try omega) _) | with_reducible exact HBW4.out
    · refine Eq.trans (Below.heap_alloc _ _ _ (by simp; omega)) ?_; simp [World.setCell, Array.getElem?_modify, HB14.out]
    rintro W9 ⟨hW9, hb9⟩
    have s0 := blk_cell hb9 0
    have s1 := blk_cell hb9 1
    have s2 := blk_cell hb9 2
    have s3 := blk_cell hb9 3
    have s4 := blk_cell hb9 4
    have s5 := blk_cell hb9 5
    have s6 := blk_cell hb9 6
    simp only [List.getElem?_toArray, List.getElem?_cons_succ, List.getElem?_cons_zero] at s0 s1 s2 s3 s4 s5 s6
    exact bodyPost_ret (v := .tuple #[hNil, .int .u32 0, .int .i64 2]) (by simp [results, Try.results52, go_sem, s0, s1, s2, s3, s4, s5, s6]) rfl ⟨hW9, .inr (.inr (.inr (.inl ⟨L, HOP.out, HI.out, z0, z1, HNO.out, rfl⟩)))⟩
  have hg2 := alloc_good hop HWL.out HWQ.out z0 z1 hv hn hgi
  have hvr := room_range hop hv
  have hwl2 : ∀ p ∈ insF live (atI live v) ⟨v, size, gi + 1⟩, WfP p := fun p hp => by
    rcases List.mem_cons.1 ((insF_perm live (atI live v) _).mem_iff.1 hp) with rfl | hp
    · exact ⟨by simp only; omega, by simp only; omega⟩
    · exact HWL.out p hp
  have hi2 : isI (insF live (atI live v) ⟨v, size, gi + 1⟩) at_ = true := by
    obtain ⟨p, hp, he⟩ := (isI_iff ((good_iff HWL.out HWQ.out).1 HG.out).pos at_).1 HI.out
    exact (isI_iff hg2.pos at_).2 ⟨p, (insF_perm live (atI live v) _).mem_iff.2 (List.mem_cons_of_mem _ hp), he⟩
  have HOP := Lib.hid hop
  have HV := Lib.hid hv
  have HN := Lib.hid hn
  have HGI := Lib.hid hgi
  have hgi1 := hop.good.gi1
  have hgi0 := hop.good.gi0
  obtain ⟨live', hlive'⟩ : ∃ l, insF live (atI live v) ⟨v, size, gi + 1⟩ = l := ⟨_, rfl⟩
  rw [hlive'] at hg2 hwl2 hi2 hl'
  have HG2 : Hid (Good c (gi + 1) live' quar) := (good_iff hwl2 HWQ.out).2 hg2
  have HWL2 := Lib.hid hwl2
  have HI2 := Lib.hid hi2
  have HLL := Lib.hid hlive'
  have HFL := Lib.hid hl'
  have HFQ := Lib.hid hq'
  obtain ⟨A1, k1, rfl, _, _⟩ := id hl'.sl
  obtain ⟨A2, k2, rfl, _, _⟩ := id hq'.sl
  have hv0 : 0 ≤ v := by omega
  have hv1 := hvr.2
  clear hop hv hn hgi hg2 hwl2 hi2 hlive' hl' hq' hvr
  clear r0 r1 r2 r3 r4 r5 r6 fr0 fr1 fr2 fr3 fr4 fr5 fr6
  go_wp2_with fail
  refine gen_worldC (fun W => Below w4.heap.size w4 W) ((Below.refl _ _).alloc (Nat.le_refl _) _) ?_
  rintro W5 hW5
  refine Calls.mono (c19 c _ _ (gi + 1) live' quar at_ W5 (HFL.out.sl.below hW5) (HFQ.out.sl.below hW5) HWL2.out HWQ.out HFL.out.shape HFQ.out.shape) ?_
  rintro e w6 ⟨hB6, ⟨hng, rfl⟩ | ⟨_, his, rfl⟩ | ⟨_, _, lv2, qv2, rfl, hl2, hq2⟩⟩
  · exact absurd HG2.out hng
  · rw [HI2.out] at his; cases his
  have HF1 := Lib.hid hl2
  have HF2 := Lib.hid hq2
  obtain ⟨A3, k3, rfl, _, _⟩ := id hl2.sl
  obtain ⟨A4, k4, rfl, _, _⟩ := id hq2.sl
  have HBW6 : Hid (Below w.heap.size w w6) := (HBW4.out.trans (hW5.mono HBW4.out.size)).trans (hB6.mono (Nat.le_trans HBW4.out.size hW5.size))
  have hb16 := (hB6.block _ (Nat.lt_of_lt_of_le (blk_lt HB14.out) hW5.size)).trans ((hW5.block _ (blk_lt HB14.out)).trans HB14.out)
  have hlt6 : w.heap.size + 1 < w6.heap.size := blk_lt hb16
  have hlt56 : W5.heap.size ≤ w6.heap.size := hB6.size
  have hlt45 : w4.heap.size ≤ W5.heap.size := hW5.size
  obtain ⟨n1, hn1⟩ : ∃ n, (live'.eraseIdx (atI live' at_)).length = n := ⟨_, rfl⟩
  obtain ⟨n2, hn2⟩ : ∃ n, (trimF c.quarantine (quar ++ [live'[atI live' at_]!])).length = n := ⟨_, rfl⟩
  rw [hn1] at HF1 ⊢
  rw [hn2] at HF2 ⊢
  clear hB6 hW5 hl2 hq2 hn1 hn2
  have r0 := blk_cell hb16 0
  have fr0 : w6.frozen? ⟨w.heap.size + 1, 0, none⟩ = false := frozen_of_row _ _ _ _ _ hb16
  have r1 := blk_cell hb16 1
  have fr1 : w6.frozen? ⟨w.heap.size + 1, 1, none⟩ = false := frozen_of_row _ _ _ _ _ hb16
  have r2 := blk_cell hb16 2
  have fr2 : w6.frozen? ⟨w.heap.size + 1, 2, none⟩ = false := frozen_of_row _ _ _ _ _ hb16
  have r3 := blk_cell hb16 3
  have fr3 : w6.frozen? ⟨w.heap.size + 1, 3, none⟩ = false := frozen_of_row _ _ _ _ _ hb16
  have r4 := blk_cell hb16 4
  have fr4 : w6.frozen? ⟨w.heap.size + 1, 4, none⟩ = false := frozen_of_row _ _ _ _ _ hb16
  have r5 := blk_cell hb16 5
  have fr5 : w6.frozen? ⟨w.heap.size + 1, 5, none⟩ = false := frozen_of_row _ _ _ _ _ hb16
  have r6 := blk_cell hb16 6
  have fr6 : w6.frozen? ⟨w.heap.size + 1, 6, none⟩ = false := frozen_of_row _ _ _ _ _ hb16
  simp only [List.getElem?_toArray, List.getElem?_cons_succ, List.getElem?_cons_zero] at r0 r1 r2 r3 r4 r5 r6
  have HB16 := Lib.hid hb16
  clear hb16
  go_wp2
  refine gen_worldB (fun W => Below w.heap.size w W ∧ W.heap[w.heap.size + 1]? = some (.cells #[.int .i64 c.page, .int .i64 c.n, .int .i64 c.red, .int .i64 c.quarantine, .slice A3 n1 k3, .slice A4 n2 k4, .int .i64 (gi + 1)] 26 (0, 0)) ∧ w6.heap.size ≤ W.heap.size ∧ ∀ k, k < w6.heap.size → k ≠ w.heap.size + 1 → W.heap[k]? = w6.heap[k]?) ⟨?_, ?_, ?_, ?_⟩ ?_
  · refine Below.alloc ?_ (by simp; omega) _
    repeat' first | (with_reducible refine Below.setCell ?_ (by simp; try omega) _) | with_reducible exact HBW6.out
  · refine Eq.trans (Below.heap_alloc _ _ _ (by simp; omega)) ?_
    simp [World.setCell, Array.getElem?_modify, HB16.out]
  · simp
  · intro k hk hne1
    refine Eq.trans (Below.heap_alloc _ _ _ (by simp; omega)) ?_
    repeat' first | (with_reducible refine Eq.trans (Below.heap_setCell _ _ _ _ hne1) ?_) | with_reducible rfl
  rintro W9 ⟨hW9, hb9, hs9, hk9⟩
  have s0 := blk_cell hb9 0
  have s1 := blk_cell hb9 1
  have s2 := blk_cell hb9 2
  have s3 := blk_cell hb9 3
  have s4 := blk_cell hb9 4
  have s5 := blk_cell hb9 5
  have s6 := blk_cell hb9 6
  simp only [List.getElem?_toArray, List.getElem?_cons_succ, List.getElem?_cons_zero] at s0 s1 s2 s3 s4 s5 s6
  refine bodyPost_ret (v := .tuple #[hAgg c (.slice A3 n1 k3) (.slice A4 n2 k4) (gi + 1), .int .u32 v, .int .i64 0]) (by simp [results, Try.results52, go_sem, s0, s1, s2, s3, s4, s5, s6]) rfl ?_
  refine ⟨hW9, .inr (.inr (.inr (.inr ⟨L, v, HOP.out, HI.out, z0, z1, HV.out, HN.out, HGI.out, _, _, rfl, ?_, ?_⟩)))⟩
  · rw [HLL.out]
    exact (Fresh.kept HF1.out hs9 fun k hk hN => hk9 k hk (by omega)).base (by omega)
  · rw [HLL.out]
    exact (Fresh.kept HF2.out hs9 fun k hk hN => hk9 k hk (by omega)).base (by omega)
end Go.Proofs.Ytbhbjcgbhklieaa
