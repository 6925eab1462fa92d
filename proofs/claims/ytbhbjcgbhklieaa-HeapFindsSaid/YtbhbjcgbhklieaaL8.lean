/- HeapFinds: the walk. -/
import Derived.Test.YtbhbjcgbhklieaaE12
import Derived.Test.YtbhbjcgbhklieaaQ3
import Derived.Test.YtbhbjcgbhklieaaQ5
import Derived.Test.YtbhbjcgbhklieaaP2
import Derived.Test.YtbhbjcgbhklieaaR2
import Derived.BigQuiet
namespace Go.Proofs.Ytbhbjcgbhklieaa
open Go.RowKit Go.Shelf

theorem op_strict {c : Conf} {gi : Int} {live quar : List Piece} {L : List Ext} (h : Op c gi live quar L) : L.Pairwise (fun x y => x.fr < y.fr) := by
  rw [List.pairwise_iff_getElem]
  intro i j hi hj hij
  have h1 := h.adj i (by omega)
  have h2 := (h.ext L[i] (List.getElem_mem hi)).1
  rw [getElem!_pos L i hi, getElem!_pos L (i + 1) (by omega)] at h1
  rcases Nat.lt_or_eq_of_le (show i + 1 ≤ j from hij) with h5 | h5
  · have h3 := h.fr (i + 1) j h5 hj
    rw [getElem!_pos L j hj, getElem!_pos L (i + 1) (by omega)] at h3
    omega
  · subst h5; omega
theorem sl_nilN (w : World) : Sl 2 encN w (.slice none 0 0) [] := ⟨none, 0, rfl, Nat.le_refl _, .inl rfl⟩
/-- what the two look-ups of one kind answer alike. -/
structure Both (c : Conf) (lv qv : Value) (gi : Int) (at_ n : Int) (x y a : Int) (b : Bool) (n1 n2 n3 : Int) (S : List (Int × Int)) (s0 s1 s2 s3 s4 s5 s6 : Int) (W : World) : Prop where
  k35 : Calls Try.prog 35 #[hAgg c lv qv gi, .int .u32 at_] W fun e w' => e = .returned (.tuple #[.int .i64 x, .int .i64 y]) ∧ Below W.heap.size W w'
  k36 : Calls Try.prog 36 #[hAgg c lv qv gi, .int .u32 at_] W fun e w' => e = .returned (.tuple #[.int .i64 x, .int .i64 y]) ∧ Below W.heap.size W w'
  k28 : Calls Try.prog 28 #[hAgg c lv qv gi, .int .u32 at_, .int .i64 n] W fun e w' => e = .returned (.tuple #[.int .u32 a, .bool b]) ∧ Below W.heap.size W w'
  k37 : Calls Try.prog 37 #[hAgg c lv qv gi, .int .u32 at_, .int .i64 n] W fun e w' => e = .returned (.tuple #[.int .u32 a, .bool b]) ∧ Below W.heap.size W w'
  k26 : Calls Try.prog 26 #[hAgg c lv qv gi, .int .u32 at_] W fun e w' => e = .returned (.agg #[.int .i64 n1, .int .i64 n2, .int .i64 n3]) ∧ Below W.heap.size W w'
  k38 : Calls Try.prog 38 #[hAgg c lv qv gi, .int .u32 at_] W fun e w' => e = .returned (.agg #[.int .i64 n1, .int .i64 n2, .int .i64 n3]) ∧ Below W.heap.size W w'
  k27 : Calls Try.prog 27 #[hAgg c lv qv gi] W fun e w' => ∃ A m k, e = .returned (.slice A m k) ∧ Below W.heap.size W w' ∧ Sl 2 encN w' (.slice A m k) S
  k40 : Calls Try.prog 40 #[hAgg c lv qv gi] W fun e w' => ∃ A m k, e = .returned (.slice A m k) ∧ Below W.heap.size W w' ∧ Sl 2 encN w' (.slice A m k) S
  k29 : Calls Try.prog 29 #[hAgg c lv qv gi] W fun e w' => e = .returned (.agg #[.int .i64 s0, .int .i64 s1, .int .i64 s2, .int .i64 s3, .int .i64 s4, .int .i64 s5, .int .i64 s6]) ∧ Below W.heap.size W w'
  k41 : Calls Try.prog 41 #[hAgg c lv qv gi] W fun e w' => e = .returned (.agg #[.int .i64 s0, .int .i64 s1, .int .i64 s2, .int .i64 s3, .int .i64 s4, .int .i64 s5, .int .i64 s6]) ∧ Below W.heap.size W w'

theorem both_of (c : Conf) (lv qv : Value) (gi : Int) (live quar : List Piece) (at_ n : Int) (w : World) (hl : Sl 3 encP w lv live) (hq : Sl 3 encP w qv quar) (wl : ∀ p ∈ live, WfP p) (wq : ∀ p ∈ quar, WfP p) (h0 : 0 ≤ at_) (h1 : at_ < 4294967296) (hn0 : -9223372036854775808 ≤ n) (hn1 : n ≤ 9223372036854775807) :
    ∃ (x y a : Int) (b : Bool) (n1 n2 n3 : Int) (S : List (Int × Int)) (s0 s1 s2 s3 s4 s5 s6 : Int), S.length ≤ 100000 ∧ ∀ W, Below w.heap.size w W → Both c lv qv gi at_ n x y a b n1 n2 n3 S s0 s1 s2 s3 s4 s5 s6 W := by
  have hi := good_iff (c := c) (gi := gi) wl wq
  by_cases hg : Good c gi live quar
  · obtain ⟨L, hL⟩ := good_op hg wl wq
    have huniq : ∀ L', Op c gi live quar L' → L' = L := fun L' h => h.unique hL.perm (op_strict hL)
    have hxy : ∃ x y : Int, (isI live at_ = false ∧ x = 0 ∧ y = 61) ∨ (isI live at_ = true ∧ x = live[atI live at_]!.size ∧ y = 0) := by
      cases hf : isI live at_ with
      | false => exact ⟨0, 61, .inl ⟨rfl, rfl, rfl⟩⟩
      | true => exact ⟨_, 0, .inr ⟨rfl, rfl, rfl⟩⟩
    obtain ⟨x, y, hxy⟩ := hxy
    have hab : ∃ (a : Int) (b : Bool), outR (outGo L live n.toNat at_ n) = .returned (.tuple #[.int .u32 a, .bool b]) := by
      cases outGo L live n.toNat at_ n with
      | none => exact ⟨0, false, rfl⟩
      | some a => exact ⟨a, true, rfl⟩
    obtain ⟨a, b, hab⟩ := hab
    refine ⟨x, y, a, b, _, _, _, spans c L, _, _, _, _, _, _, _, by have := hL.gaps.2; unfold spans; rw [List.length_map]; omega, fun W hW => ⟨?_, ?_, ?_, ?_, ?_, c38 c lv qv gi live quar L at_ W (hl.below hW) (hq.below hW) wl wq hL h0 h1, ?_, ?_, ?_, c41 c lv qv gi live quar L W (hl.below hW) (hq.below hW) wl wq hL⟩⟩
    · refine (c35 c lv qv gi live quar at_ W (hl.below hW) (hq.below hW) wl wq).mono ?_
      rintro e w' ⟨hB, ⟨h, _⟩ | ⟨_, h, rfl⟩ | ⟨_, h, rfl⟩⟩
      · exact absurd hg h
      · rcases hxy with ⟨_, rfl, rfl⟩ | ⟨h', _⟩
        · exact ⟨rfl, hB⟩
        · rw [h] at h'; cases h'
      · rcases hxy with ⟨h', _⟩ | ⟨_, rfl, rfl⟩
        · rw [h] at h'; cases h'
        · exact ⟨rfl, hB⟩
    · refine (c36 c lv qv gi live quar at_ W (hl.below hW) (hq.below hW) wl wq).mono ?_
      rintro e w' ⟨hB, ⟨h, _⟩ | ⟨_, h, rfl⟩ | ⟨_, h, rfl⟩⟩
      · exact absurd hg h
      · rcases hxy with ⟨_, rfl, rfl⟩ | ⟨h', _⟩
        · exact ⟨rfl, hB⟩
        · rw [h] at h'; cases h'
      · rcases hxy with ⟨h', _⟩ | ⟨_, rfl, rfl⟩
        · rw [h] at h'; cases h'
        · exact ⟨rfl, hB⟩
    · refine (c28 c lv qv gi live quar at_ n W (hl.below hW) (hq.below hW) wl wq h0 h1 hn0 hn1).mono ?_
      rintro e w' ⟨hB, ⟨h, _⟩ | ⟨L', hL', rfl⟩⟩
      · exact absurd hg h
      · rw [huniq L' hL', hab]; exact ⟨rfl, hB⟩
    · refine (c37 c lv qv gi live quar L at_ n W (hl.below hW) (hq.below hW) wl wq hL h0 h1 hn0 hn1).mono ?_
      rintro e w' ⟨rfl, hB⟩
      rw [hab]; exact ⟨rfl, hB⟩
    · refine (c26 c lv qv gi live quar at_ W (hl.below hW) (hq.below hW) wl wq h0 h1).mono ?_
      rintro e w' ⟨hB, ⟨h, _⟩ | ⟨L', hL', rfl⟩⟩
      · exact absurd hg h
      · rw [huniq L' hL']; exact ⟨rfl, hB⟩
    · refine (c27v c lv qv gi live quar W (hl.below hW) (hq.below hW) wl wq).mono ?_
      rintro e w' ⟨hB, ⟨h, _⟩ | ⟨L', v, hL', rfl, hs⟩⟩
      · exact absurd hg h
      · rw [huniq L' hL'] at hs
        obtain ⟨A, k, rfl, _⟩ := id hs
        exact ⟨_, _, _, rfl, hB, hs⟩
    · refine (c40 c lv qv gi live quar L W (hl.below hW) (hq.below hW) wl wq hL).mono ?_
      rintro e w' ⟨v, rfl, hB, ho⟩
      have hs := sl_of_own ho rfl
      obtain ⟨A, k, rfl, _⟩ := id hs
      exact ⟨_, _, _, rfl, hB, hs⟩
    · refine (callsIn_wide.1 (c29 c lv qv gi live quar W (hl.below hW) (hq.below hW) wl wq)).mono ?_
      rintro e w' ⟨hB, ⟨h, _⟩ | ⟨L', hL', rfl⟩⟩
      · exact absurd hg h
      · rw [huniq L' hL']; exact ⟨rfl, hB⟩
  · have hng : ¬ GoodP c gi live quar := fun h => hg (hi.2 h)
    refine ⟨0, 60, 0, false, 0, 0, 0, [], 0, 0, 0, 0, 0, 0, 0, by simp, fun W hW => ⟨?_, ?_, ?_, c37_no c lv qv gi live quar at_ n W (hl.below hW) (hq.below hW) wl wq hng, ?_, c38_no c lv qv gi live quar at_ W (hl.below hW) (hq.below hW) wl wq hng, ?_, ?_, ?_, c41_no c lv qv gi live quar W (hl.below hW) (hq.below hW) wl wq hng⟩⟩
    · refine (c35 c lv qv gi live quar at_ W (hl.below hW) (hq.below hW) wl wq).mono ?_
      rintro e w' ⟨hB, ⟨_, rfl⟩ | ⟨h, _⟩ | ⟨h, _⟩⟩
      · exact ⟨rfl, hB⟩
      · exact absurd h hg
      · exact absurd h hg
    · refine (c36 c lv qv gi live quar at_ W (hl.below hW) (hq.below hW) wl wq).mono ?_
      rintro e w' ⟨hB, ⟨_, rfl⟩ | ⟨h, _⟩ | ⟨h, _⟩⟩
      · exact ⟨rfl, hB⟩
      · exact absurd h hg
      · exact absurd h hg
    · refine (c28 c lv qv gi live quar at_ n W (hl.below hW) (hq.below hW) wl wq h0 h1 hn0 hn1).mono ?_
      rintro e w' ⟨hB, ⟨_, rfl⟩ | ⟨L', hL', _⟩⟩
      · exact ⟨rfl, hB⟩
      · exact absurd hL'.good hg
    · refine (c26 c lv qv gi live quar at_ W (hl.below hW) (hq.below hW) wl wq h0 h1).mono ?_
      rintro e w' ⟨hB, ⟨_, rfl⟩ | ⟨L', hL', _⟩⟩
      · exact ⟨rfl, hB⟩
      · exact absurd hL'.good hg
    · refine (c27v c lv qv gi live quar W (hl.below hW) (hq.below hW) wl wq).mono ?_
      rintro e w' ⟨hB, ⟨_, rfl⟩ | ⟨L', v, hL', _⟩⟩
      · exact ⟨_, _, _, rfl, hB, sl_nilN _⟩
      · exact absurd hL'.good hg
    · refine (c40_no c lv qv gi live quar W (hl.below hW) (hq.below hW) wl wq hng).mono ?_
      rintro e w' ⟨rfl, hB⟩
      exact ⟨_, _, _, rfl, hB, sl_nilN _⟩
    · refine (callsIn_wide.1 (c29 c lv qv gi live quar W (hl.below hW) (hq.below hW) wl wq)).mono ?_
      rintro e w' ⟨hB, ⟨_, rfl⟩ | ⟨L', hL', _⟩⟩
      · exact ⟨rfl, hB⟩
      · exact absurd hL'.good hg

set_option maxRecDepth 100000 in
set_option maxHeartbeats 4000000 in
theorem c8 (c : Conf) (lv qv : Value) (gi : Int) (live quar : List Piece) (at_ n : Int) (w : World) (hin : HeapIn w c lv qv gi live quar) (h0 : 0 ≤ at_ ∧ at_ < 4294967296) (hn : InI n) :
    Calls Try.prog 8 #[hAgg c lv qv gi, .int .u32 at_, .int .i64 n] w fun e w' => e = .returned (.bool true) ∧ Below w.heap.size w w' := by
  obtain ⟨x, y, a, b, n1, n2, n3, S, s0, s1, s2, s3, s4, s5, s6, hS, hboth⟩ := both_of c lv qv gi live quar at_ n w hin.hl hin.hq (fun p hp => (hin.wl p hp).1) (fun p hp => (hin.wq p hp).1) h0.1 h0.2 hn.1 hn.2
  have HBOTH := Lib.hid hboth
  clear hboth h0 hn
  have HL := Lib.hid hin.hl
  have HQ := Lib.hid hin.hq
  have HWL : Hid (∀ p ∈ live, WfP p) := fun p hp => (hin.wl p hp).1
  have HWQ : Hid (∀ p ∈ quar, WfP p) := fun p hp => (hin.wq p hp).1
  have HSL := Lib.hid hin.sl
  have HSQ := Lib.hid hin.sq
  obtain ⟨A, ca, rfl, _, _⟩ := id hin.hl
  obtain ⟨B, cb, rfl, _, _⟩ := id hin.hq
  clear hin
  go_enter Try.func8, Try.ntmps8
  go_wp2_with fail
  refine Calls.mono (c16 _) ?_
  rintro e w1 ⟨rfl, hB1⟩
  have hb0 : w1.heap[w.heap.size]? = some (.cells #[.int .i64 c.page, .int .i64 c.n, .int .i64 c.red, .int .i64 c.quarantine, .slice A live.length ca, .slice B quar.length cb, .int .i64 gi] 26 (0, 0)) := (hB1.block _ (by simp; try omega)).trans (hal_new rfl)
  have hBw : Below w.heap.size w w1 := ((Below.refl _ _).alloc (Nat.le_refl _) _).trans (hB1.mono (by simp; try omega))
  have q0 := blk_cell hb0 0
  have q1 := blk_cell hb0 1
  have q2 := blk_cell hb0 2
  have q3 := blk_cell hb0 3
  have q4 := blk_cell hb0 4
  have q5 := blk_cell hb0 5
  have q6 := blk_cell hb0 6
  simp only [List.getElem?_toArray, List.getElem?_cons_succ, List.getElem?_cons_zero] at q0 q1 q2 q3 q4 q5 q6
  have HB0 := Lib.hid hb0
  have HBW := Lib.hid hBw
  have hlt0 : w.heap.size < w1.heap.size := blk_lt hb0
  clear hB1 hBw hb0
  go_wp2_with fail
  refine Calls.mono (c17 w1.heap.size c A B live.length ca quar.length cb gi _ (hal_new rfl)) ?_
  rintro e w2 ⟨rfl, hB2⟩
  have hb02 : w2.heap[w.heap.size]? = some (.cells #[.int .i64 c.page, .int .i64 c.n, .int .i64 c.red, .int .i64 c.quarantine, .slice A live.length ca, .slice B quar.length cb, .int .i64 gi] 26 (0, 0)) := (hB2.block _ (by simp; omega)).trans (hal_old HB0.out)
  have hBw2 : Below w.heap.size w w2 := (HBW.out.alloc (by omega) _).trans (hB2.mono (by simp; omega))
  have hB12 : Below w1.heap.size w1 w2 := (below_alloc1 w1 _).trans (hB2.mono (by simp))
  clear q0 q1 q2 q3 q4 q5 q6
  have q0 := blk_cell hb02 0
  have q1 := blk_cell hb02 1
  have q2 := blk_cell hb02 2
  have q3 := blk_cell hb02 3
  have q4 := blk_cell hb02 4
  have q5 := blk_cell hb02 5
  have q6 := blk_cell hb02 6
  simp only [List.getElem?_toArray, List.getElem?_cons_succ, List.getElem?_cons_zero] at q0 q1 q2 q3 q4 q5 q6
  have HB02 := Lib.hid hb02
  have HBW2 := Lib.hid hBw2
  have HB12 := Lib.hid hB12
  clear hB2 hb02 hBw2 hB12
  cases hmf : manyF live.length quar.length with
  | true =>
    go_wp2
    go_ret
    exact ⟨rfl, HBW2.out⟩
  | false =>
    go_wp2_with fail
    refine Calls.mono ((HBOTH.out w2 HBW2.out).k35) ?_
    rintro e w3 ⟨rfl, hB3⟩
    have HBW3 : Hid (Below w.heap.size w w3) := HBW2.out.trans (hB3.mono HBW2.out.size)
    have HB03 := Lib.hid ((hB3.block _ (blk_lt HB02.out)).trans HB02.out)
    have hb03 := HB03.out
    clear q0 q1 q2 q3 q4 q5 q6 hB3 HB02
    have q0 := blk_cell hb03 0
    have q1 := blk_cell hb03 1
    have q2 := blk_cell hb03 2
    have q3 := blk_cell hb03 3
    have q4 := blk_cell hb03 4
    have q5 := blk_cell hb03 5
    have q6 := blk_cell hb03 6
    simp only [List.getElem?_toArray, List.getElem?_cons_succ, List.getElem?_cons_zero] at q0 q1 q2 q3 q4 q5 q6
    clear hb03
    go_wp2_with fail
    refine Calls.mono ((HBOTH.out w3 HBW3.out).k36) ?_
    rintro e w4 ⟨rfl, hB4⟩
    have HBW4 : Hid (Below w.heap.size w w4) := HBW3.out.trans (hB4.mono HBW3.out.size)
    have HB04 := Lib.hid ((hB4.block _ (blk_lt HB03.out)).trans HB03.out)
    have hb04 := HB04.out
    clear q0 q1 q2 q3 q4 q5 q6 hB4 HB03
    have q0 := blk_cell hb04 0
    have q1 := blk_cell hb04 1
    have q2 := blk_cell hb04 2
    have q3 := blk_cell hb04 3
    have q4 := blk_cell hb04 4
    have q5 := blk_cell hb04 5
    have q6 := blk_cell hb04 6
    simp only [List.getElem?_toArray, List.getElem?_cons_succ, List.getElem?_cons_zero] at q0 q1 q2 q3 q4 q5 q6
    clear hb04
    go_wp2_with fail
    refine Calls.mono ((HBOTH.out w4 HBW4.out).k28) ?_
    rintro e w5 ⟨rfl, hB5⟩
    have HBW5 : Hid (Below w.heap.size w w5) := HBW4.out.trans (hB5.mono HBW4.out.size)
    have HB05 := Lib.hid ((hB5.block _ (blk_lt HB04.out)).trans HB04.out)
    have hb05 := HB05.out
    clear q0 q1 q2 q3 q4 q5 q6 hB5 HB04
    have q0 := blk_cell hb05 0
    have q1 := blk_cell hb05 1
    have q2 := blk_cell hb05 2
    have q3 := blk_cell hb05 3
    have q4 := blk_cell hb05 4
    have q5 := blk_cell hb05 5
    have q6 := blk_cell hb05 6
    simp only [List.getElem?_toArray, List.getElem?_cons_succ, List.getElem?_cons_zero] at q0 q1 q2 q3 q4 q5 q6
    clear hb05
    go_wp2_with fail
    refine Calls.mono ((HBOTH.out w5 HBW5.out).k37) ?_
    rintro e w6 ⟨rfl, hB6⟩
    have HBW6 : Hid (Below w.heap.size w w6) := HBW5.out.trans (hB6.mono HBW5.out.size)
    have HB06 := Lib.hid ((hB6.block _ (blk_lt HB05.out)).trans HB05.out)
    have hb06 := HB06.out
    clear q0 q1 q2 q3 q4 q5 q6 hB6 HB05
    have q0 := blk_cell hb06 0
    have q1 := blk_cell hb06 1
    have q2 := blk_cell hb06 2
    have q3 := blk_cell hb06 3
    have q4 := blk_cell hb06 4
    have q5 := blk_cell hb06 5
    have q6 := blk_cell hb06 6
    simp only [List.getElem?_toArray, List.getElem?_cons_succ, List.getElem?_cons_zero] at q0 q1 q2 q3 q4 q5 q6
    clear hb06
    have hlt6 : w.heap.size < w6.heap.size := blk_lt HB06.out
    have hmx : Try.prog.follows .mixedOrders = true := by kernel_rfl
    clear HSL HSQ HWL HWQ HL HQ
    clear q0 q1 q2 q3 q4 q5 q6
    go_wp2
    refine wp_region_held_drew (S := fun w' => Below w6.heap.size w6 w') hmx (Below.refl _ _).drew ?_
    intro hS0
    refine wpAnyH_take (i := 0) (v := .int .i64 x) rfl (by kernel_rfl) (by kernel_rfl) (by kernel_rfl) (fun _ _ _ h => h) (Or.inl ⟨by rfl, ?hy⟩) hS0 ?_
    case hy => intro w9 hSw; have k0 := (hSw.block _ hlt6).trans HB06.out; have s0 := blk_cell k0 0; have s1 := blk_cell k0 1; have s2 := blk_cell k0 2; have s3 := blk_cell k0 3; have s4 := blk_cell k0 4; have s5 := blk_cell k0 5; have s6 := blk_cell k0 6; simp only [List.getElem?_toArray, List.getElem?_cons_succ, List.getElem?_cons_zero] at s0 s1 s2 s3 s4 s5 s6; go_simp
    go_simp
    refine wpAnyH_take (i := 1) (v := .int .i64 x) rfl (by kernel_rfl) (by kernel_rfl) (by kernel_rfl) (fun _ _ _ h => h) (Or.inl ⟨by rfl, ?hy⟩) hS0 ?_
    case hy => intro w9 hSw; have k0 := (hSw.block _ hlt6).trans HB06.out; have s0 := blk_cell k0 0; have s1 := blk_cell k0 1; have s2 := blk_cell k0 2; have s3 := blk_cell k0 3; have s4 := blk_cell k0 4; have s5 := blk_cell k0 5; have s6 := blk_cell k0 6; simp only [List.getElem?_toArray, List.getElem?_cons_succ, List.getElem?_cons_zero] at s0 s1 s2 s3 s4 s5 s6; go_simp
    go_simp
    refine wpAnyH_take (i := 2) (v := .bool true) rfl (by kernel_rfl) (by kernel_rfl) (by kernel_rfl) (fun _ _ _ h => h) (Or.inl ⟨by rfl, ?hy⟩) hS0 ?_
    case hy => intro w9 hSw; have k0 := (hSw.block _ hlt6).trans HB06.out; have s0 := blk_cell k0 0; have s1 := blk_cell k0 1; have s2 := blk_cell k0 2; have s3 := blk_cell k0 3; have s4 := blk_cell k0 4; have s5 := blk_cell k0 5; have s6 := blk_cell k0 6; simp only [List.getElem?_toArray, List.getElem?_cons_succ, List.getElem?_cons_zero] at s0 s1 s2 s3 s4 s5 s6; go_simp
    go_simp
    refine wpAnyH_take (i := 3) (v := .bool true) rfl (by kernel_rfl) (by kernel_rfl) (by kernel_rfl) (fun _ _ _ h => h) (Or.inl ⟨by rfl, ?hy⟩) hS0 ?_
    case hy => intro w9 hSw; have k0 := (hSw.block _ hlt6).trans HB06.out; have s0 := blk_cell k0 0; have s1 := blk_cell k0 1; have s2 := blk_cell k0 2; have s3 := blk_cell k0 3; have s4 := blk_cell k0 4; have s5 := blk_cell k0 5; have s6 := blk_cell k0 6; simp only [List.getElem?_toArray, List.getElem?_cons_succ, List.getElem?_cons_zero] at s0 s1 s2 s3 s4 s5 s6; go_simp
    go_simp
    refine wpAnyH_take (i := 4) (v := .int .i64 y) rfl (by kernel_rfl) (by kernel_rfl) (by kernel_rfl) (fun _ _ _ h => h) (Or.inl ⟨by rfl, ?hy⟩) hS0 ?_
    case hy => intro w9 hSw; have k0 := (hSw.block _ hlt6).trans HB06.out; have s0 := blk_cell k0 0; have s1 := blk_cell k0 1; have s2 := blk_cell k0 2; have s3 := blk_cell k0 3; have s4 := blk_cell k0 4; have s5 := blk_cell k0 5; have s6 := blk_cell k0 6; simp only [List.getElem?_toArray, List.getElem?_cons_succ, List.getElem?_cons_zero] at s0 s1 s2 s3 s4 s5 s6; go_simp
    go_simp
    refine wpAnyH_take (i := 5) (v := .int .i64 y) rfl (by kernel_rfl) (by kernel_rfl) (by kernel_rfl) (fun _ _ _ h => h) (Or.inl ⟨by rfl, ?hy⟩) hS0 ?_
    case hy => intro w9 hSw; have k0 := (hSw.block _ hlt6).trans HB06.out; have s0 := blk_cell k0 0; have s1 := blk_cell k0 1; have s2 := blk_cell k0 2; have s3 := blk_cell k0 3; have s4 := blk_cell k0 4; have s5 := blk_cell k0 5; have s6 := blk_cell k0 6; simp only [List.getElem?_toArray, List.getElem?_cons_succ, List.getElem?_cons_zero] at s0 s1 s2 s3 s4 s5 s6; go_simp
    go_simp
    refine wpAnyH_take (i := 6) (v := .bool true) rfl (by kernel_rfl) (by kernel_rfl) (by kernel_rfl) (fun _ _ _ h => h) (Or.inl ⟨by rfl, ?hy⟩) hS0 ?_
    case hy => intro w9 hSw; have k0 := (hSw.block _ hlt6).trans HB06.out; have s0 := blk_cell k0 0; have s1 := blk_cell k0 1; have s2 := blk_cell k0 2; have s3 := blk_cell k0 3; have s4 := blk_cell k0 4; have s5 := blk_cell k0 5; have s6 := blk_cell k0 6; simp only [List.getElem?_toArray, List.getElem?_cons_succ, List.getElem?_cons_zero] at s0 s1 s2 s3 s4 s5 s6; go_simp
    go_simp
    refine wpAnyH_take (i := 7) (v := .bool true) rfl (by kernel_rfl) (by kernel_rfl) (by kernel_rfl) (fun _ _ _ h => h) (Or.inl ⟨by rfl, ?hy⟩) hS0 ?_
    case hy => intro w9 hSw; have k0 := (hSw.block _ hlt6).trans HB06.out; have s0 := blk_cell k0 0; have s1 := blk_cell k0 1; have s2 := blk_cell k0 2; have s3 := blk_cell k0 3; have s4 := blk_cell k0 4; have s5 := blk_cell k0 5; have s6 := blk_cell k0 6; simp only [List.getElem?_toArray, List.getElem?_cons_succ, List.getElem?_cons_zero] at s0 s1 s2 s3 s4 s5 s6; go_simp
    go_simp
    refine wpAnyH_take (i := 8) (v := .bool true) rfl (by kernel_rfl) (by kernel_rfl) (by kernel_rfl) (fun _ _ _ h => h) (Or.inl ⟨by rfl, ?hy⟩) hS0 ?_
    case hy => intro w9 hSw; have k0 := (hSw.block _ hlt6).trans HB06.out; have s0 := blk_cell k0 0; have s1 := blk_cell k0 1; have s2 := blk_cell k0 2; have s3 := blk_cell k0 3; have s4 := blk_cell k0 4; have s5 := blk_cell k0 5; have s6 := blk_cell k0 6; simp only [List.getElem?_toArray, List.getElem?_cons_succ, List.getElem?_cons_zero] at s0 s1 s2 s3 s4 s5 s6; go_simp
    go_simp
    refine wpAnyH_take (i := 9) (v := .int .u32 a) rfl (by kernel_rfl) (by kernel_rfl) (by kernel_rfl) (fun _ _ _ h => h) (Or.inl ⟨by rfl, ?hy⟩) hS0 ?_
    case hy => intro w9 hSw; have k0 := (hSw.block _ hlt6).trans HB06.out; have s0 := blk_cell k0 0; have s1 := blk_cell k0 1; have s2 := blk_cell k0 2; have s3 := blk_cell k0 3; have s4 := blk_cell k0 4; have s5 := blk_cell k0 5; have s6 := blk_cell k0 6; simp only [List.getElem?_toArray, List.getElem?_cons_succ, List.getElem?_cons_zero] at s0 s1 s2 s3 s4 s5 s6; go_simp
    go_simp
    refine wpAnyH_take (i := 10) (v := .int .u32 a) rfl (by kernel_rfl) (by kernel_rfl) (by kernel_rfl) (fun _ _ _ h => h) (Or.inl ⟨by rfl, ?hy⟩) hS0 ?_
    case hy => intro w9 hSw; have k0 := (hSw.block _ hlt6).trans HB06.out; have s0 := blk_cell k0 0; have s1 := blk_cell k0 1; have s2 := blk_cell k0 2; have s3 := blk_cell k0 3; have s4 := blk_cell k0 4; have s5 := blk_cell k0 5; have s6 := blk_cell k0 6; simp only [List.getElem?_toArray, List.getElem?_cons_succ, List.getElem?_cons_zero] at s0 s1 s2 s3 s4 s5 s6; go_simp
    go_simp
    refine wpAnyH_take (i := 11) (v := .bool true) rfl (by kernel_rfl) (by kernel_rfl) (by kernel_rfl) (fun _ _ _ h => h) (Or.inl ⟨by rfl, ?hy⟩) hS0 ?_
    case hy => intro w9 hSw; have k0 := (hSw.block _ hlt6).trans HB06.out; have s0 := blk_cell k0 0; have s1 := blk_cell k0 1; have s2 := blk_cell k0 2; have s3 := blk_cell k0 3; have s4 := blk_cell k0 4; have s5 := blk_cell k0 5; have s6 := blk_cell k0 6; simp only [List.getElem?_toArray, List.getElem?_cons_succ, List.getElem?_cons_zero] at s0 s1 s2 s3 s4 s5 s6; go_simp
    go_simp
    refine wpAnyH_take (i := 12) (v := .bool true) rfl (by kernel_rfl) (by kernel_rfl) (by kernel_rfl) (fun _ _ _ h => h) (Or.inl ⟨by rfl, ?hy⟩) hS0 ?_
    case hy => intro w9 hSw; have k0 := (hSw.block _ hlt6).trans HB06.out; have s0 := blk_cell k0 0; have s1 := blk_cell k0 1; have s2 := blk_cell k0 2; have s3 := blk_cell k0 3; have s4 := blk_cell k0 4; have s5 := blk_cell k0 5; have s6 := blk_cell k0 6; simp only [List.getElem?_toArray, List.getElem?_cons_succ, List.getElem?_cons_zero] at s0 s1 s2 s3 s4 s5 s6; go_simp
    go_simp
    refine wpAnyH_take (i := 13) (v := .bool true) rfl (by kernel_rfl) (by kernel_rfl) (by kernel_rfl) (fun _ _ _ h => h) (Or.inl ⟨by rfl, ?hy⟩) hS0 ?_
    case hy => intro w9 hSw; have k0 := (hSw.block _ hlt6).trans HB06.out; have s0 := blk_cell k0 0; have s1 := blk_cell k0 1; have s2 := blk_cell k0 2; have s3 := blk_cell k0 3; have s4 := blk_cell k0 4; have s5 := blk_cell k0 5; have s6 := blk_cell k0 6; simp only [List.getElem?_toArray, List.getElem?_cons_succ, List.getElem?_cons_zero] at s0 s1 s2 s3 s4 s5 s6; go_simp
    go_simp
    refine wpAnyH_take (i := 14) (v := .bool b) rfl (by kernel_rfl) (by kernel_rfl) (by kernel_rfl) (fun _ _ _ h => h) (Or.inl ⟨by rfl, ?hy⟩) hS0 ?_
    case hy => intro w9 hSw; have k0 := (hSw.block _ hlt6).trans HB06.out; have s0 := blk_cell k0 0; have s1 := blk_cell k0 1; have s2 := blk_cell k0 2; have s3 := blk_cell k0 3; have s4 := blk_cell k0 4; have s5 := blk_cell k0 5; have s6 := blk_cell k0 6; simp only [List.getElem?_toArray, List.getElem?_cons_succ, List.getElem?_cons_zero] at s0 s1 s2 s3 s4 s5 s6; go_simp
    go_simp
    refine wpAnyH_take (i := 15) (v := .bool b) rfl (by kernel_rfl) (by kernel_rfl) (by kernel_rfl) (fun _ _ _ h => h) (Or.inl ⟨by rfl, ?hy⟩) hS0 ?_
    case hy => intro w9 hSw; have k0 := (hSw.block _ hlt6).trans HB06.out; have s0 := blk_cell k0 0; have s1 := blk_cell k0 1; have s2 := blk_cell k0 2; have s3 := blk_cell k0 3; have s4 := blk_cell k0 4; have s5 := blk_cell k0 5; have s6 := blk_cell k0 6; simp only [List.getElem?_toArray, List.getElem?_cons_succ, List.getElem?_cons_zero] at s0 s1 s2 s3 s4 s5 s6; go_simp
    go_simp
    refine wpAnyH_take (i := 16) (v := .bool true) rfl (by kernel_rfl) (by kernel_rfl) (by kernel_rfl) (fun _ _ _ h => h) (Or.inl ⟨by rfl, ?hy⟩) hS0 ?_
    case hy => intro w9 hSw; have k0 := (hSw.block _ hlt6).trans HB06.out; have s0 := blk_cell k0 0; have s1 := blk_cell k0 1; have s2 := blk_cell k0 2; have s3 := blk_cell k0 3; have s4 := blk_cell k0 4; have s5 := blk_cell k0 5; have s6 := blk_cell k0 6; simp only [List.getElem?_toArray, List.getElem?_cons_succ, List.getElem?_cons_zero] at s0 s1 s2 s3 s4 s5 s6; go_simp
    go_simp
    refine wpAnyH_take (i := 17) (v := .bool true) rfl (by kernel_rfl) (by kernel_rfl) (by kernel_rfl) (fun _ _ _ h => h) (Or.inl ⟨by rfl, ?hy⟩) hS0 ?_
    case hy => intro w9 hSw; have k0 := (hSw.block _ hlt6).trans HB06.out; have s0 := blk_cell k0 0; have s1 := blk_cell k0 1; have s2 := blk_cell k0 2; have s3 := blk_cell k0 3; have s4 := blk_cell k0 4; have s5 := blk_cell k0 5; have s6 := blk_cell k0 6; simp only [List.getElem?_toArray, List.getElem?_cons_succ, List.getElem?_cons_zero] at s0 s1 s2 s3 s4 s5 s6; go_simp
    go_simp
    refine wpAnyH_take (i := 18) (v := .bool true) rfl (by kernel_rfl) (by kernel_rfl) (by kernel_rfl) (fun _ _ _ h => h) (Or.inl ⟨by rfl, ?hy⟩) hS0 ?_
    case hy => intro w9 hSw; have k0 := (hSw.block _ hlt6).trans HB06.out; have s0 := blk_cell k0 0; have s1 := blk_cell k0 1; have s2 := blk_cell k0 2; have s3 := blk_cell k0 3; have s4 := blk_cell k0 4; have s5 := blk_cell k0 5; have s6 := blk_cell k0 6; simp only [List.getElem?_toArray, List.getElem?_cons_succ, List.getElem?_cons_zero] at s0 s1 s2 s3 s4 s5 s6; go_simp
    go_simp
    refine wpAnyH_take (i := 19) (v := .agg #[.int .i64 c.page, .int .i64 c.n, .int .i64 c.red, .int .i64 c.quarantine, .slice A live.length ca, .slice B quar.length cb, .int .i64 gi]) rfl (by kernel_rfl) (by kernel_rfl) (by kernel_rfl) (fun _ _ _ h => h) (Or.inl ⟨by rfl, ?hy⟩) hS0 ?_
    case hy => intro w9 hSw; have k0 := (hSw.block _ hlt6).trans HB06.out; have s0 := blk_cell k0 0; have s1 := blk_cell k0 1; have s2 := blk_cell k0 2; have s3 := blk_cell k0 3; have s4 := blk_cell k0 4; have s5 := blk_cell k0 5; have s6 := blk_cell k0 6; simp only [List.getElem?_toArray, List.getElem?_cons_succ, List.getElem?_cons_zero] at s0 s1 s2 s3 s4 s5 s6; go_simp
    go_simp
    refine wpAnyH_take (i := 20) (v := .int .u32 at_) rfl (by kernel_rfl) (by kernel_rfl) (by kernel_rfl) (fun _ _ _ h => h) (Or.inl ⟨by rfl, ?hy⟩) hS0 ?_
    case hy => intro w9 hSw; have k0 := (hSw.block _ hlt6).trans HB06.out; have s0 := blk_cell k0 0; have s1 := blk_cell k0 1; have s2 := blk_cell k0 2; have s3 := blk_cell k0 3; have s4 := blk_cell k0 4; have s5 := blk_cell k0 5; have s6 := blk_cell k0 6; simp only [List.getElem?_toArray, List.getElem?_cons_succ, List.getElem?_cons_zero] at s0 s1 s2 s3 s4 s5 s6; go_simp
    go_simp
    refine wpAnyH_take (i := 22) (v := .agg #[.int .i64 c.page, .int .i64 c.n, .int .i64 c.red, .int .i64 c.quarantine, .slice A live.length ca, .slice B quar.length cb, .int .i64 gi]) rfl (by kernel_rfl) (by kernel_rfl) (by kernel_rfl) (fun _ _ _ h => h) (Or.inl ⟨by rfl, ?hy⟩) hS0 ?_
    case hy => intro w9 hSw; have k0 := (hSw.block _ hlt6).trans HB06.out; have s0 := blk_cell k0 0; have s1 := blk_cell k0 1; have s2 := blk_cell k0 2; have s3 := blk_cell k0 3; have s4 := blk_cell k0 4; have s5 := blk_cell k0 5; have s6 := blk_cell k0 6; simp only [List.getElem?_toArray, List.getElem?_cons_succ, List.getElem?_cons_zero] at s0 s1 s2 s3 s4 s5 s6; go_simp
    go_simp
    refine wpAnyH_take (i := 23) (v := .int .u32 at_) rfl (by kernel_rfl) (by kernel_rfl) (by kernel_rfl) (fun _ _ _ h => h) (Or.inl ⟨by rfl, ?hy⟩) hS0 ?_
    case hy => intro w9 hSw; have k0 := (hSw.block _ hlt6).trans HB06.out; have s0 := blk_cell k0 0; have s1 := blk_cell k0 1; have s2 := blk_cell k0 2; have s3 := blk_cell k0 3; have s4 := blk_cell k0 4; have s5 := blk_cell k0 5; have s6 := blk_cell k0 6; simp only [List.getElem?_toArray, List.getElem?_cons_succ, List.getElem?_cons_zero] at s0 s1 s2 s3 s4 s5 s6; go_simp
    go_simp
    refine wpAnyH_ready (rs := [21]) (by kernel_rfl) (by simp) ?_
    refine AllReadyH.cons rfl (fun K hK => ?_) AllReadyH.nil
    go_simp
    refine Calls.mono ((HBOTH.out _ (HBW6.out.trans (hS0.mono HBW6.out.size))).k26) ?_
    rintro e v1 ⟨rfl, hb1⟩
    have hS1 : Below w6.heap.size w6 v1 := hS0.trans (hb1.mono hS0.size)
    refine hK.out _ _ hS1 (fun _ => ?_)
    clear hK K
    refine wpAnyH_ready (rs := [24]) (by kernel_rfl) (by simp) ?_
    refine AllReadyH.cons rfl (fun K hK => ?_) AllReadyH.nil
    go_simp
    refine Calls.mono ((HBOTH.out _ (HBW6.out.trans (hS1.mono HBW6.out.size))).k38) ?_
    rintro e v2 ⟨rfl, hb2⟩
    have hS2 : Below w6.heap.size w6 v2 := hS1.trans (hb2.mono hS1.size)
    refine hK.out _ _ hS2 (fun _ => ?_)
    clear hK K
    refine wpAnyH_take (i := 25) (v := .bool true) rfl (by kernel_rfl) (by kernel_rfl) (by kernel_rfl) (fun _ _ _ h => h) (Or.inl ⟨by rfl, ?hy⟩) hS2 ?_
    case hy => intro w9 hSw; have k0 := (hSw.block _ hlt6).trans HB06.out; have s0 := blk_cell k0 0; have s1 := blk_cell k0 1; have s2 := blk_cell k0 2; have s3 := blk_cell k0 3; have s4 := blk_cell k0 4; have s5 := blk_cell k0 5; have s6 := blk_cell k0 6; simp only [List.getElem?_toArray, List.getElem?_cons_succ, List.getElem?_cons_zero] at s0 s1 s2 s3 s4 s5 s6; go_simp
    go_simp
    refine wpAnyH_take (i := 26) (v := .bool true) rfl (by kernel_rfl) (by kernel_rfl) (by kernel_rfl) (fun _ _ _ h => h) (Or.inl ⟨by rfl, ?hy⟩) hS2 ?_
    case hy => intro w9 hSw; have k0 := (hSw.block _ hlt6).trans HB06.out; have s0 := blk_cell k0 0; have s1 := blk_cell k0 1; have s2 := blk_cell k0 2; have s3 := blk_cell k0 3; have s4 := blk_cell k0 4; have s5 := blk_cell k0 5; have s6 := blk_cell k0 6; simp only [List.getElem?_toArray, List.getElem?_cons_succ, List.getElem?_cons_zero] at s0 s1 s2 s3 s4 s5 s6; go_simp
    go_simp
    refine wpAnyH_take (i := 27) (v := .bool true) rfl (by kernel_rfl) (by kernel_rfl) (by kernel_rfl) (fun _ _ _ h => h) (Or.inl ⟨by rfl, ?hy⟩) hS2 ?_
    case hy => intro w9 hSw; have k0 := (hSw.block _ hlt6).trans HB06.out; have s0 := blk_cell k0 0; have s1 := blk_cell k0 1; have s2 := blk_cell k0 2; have s3 := blk_cell k0 3; have s4 := blk_cell k0 4; have s5 := blk_cell k0 5; have s6 := blk_cell k0 6; simp only [List.getElem?_toArray, List.getElem?_cons_succ, List.getElem?_cons_zero] at s0 s1 s2 s3 s4 s5 s6; go_simp
    go_simp
    refine wpAnyH_take (i := 28) (v := .agg #[.int .i64 c.page, .int .i64 c.n, .int .i64 c.red, .int .i64 c.quarantine, .slice A live.length ca, .slice B quar.length cb, .int .i64 gi]) rfl (by kernel_rfl) (by kernel_rfl) (by kernel_rfl) (fun _ _ _ h => h) (Or.inl ⟨by rfl, ?hy⟩) hS2 ?_
    case hy => intro w9 hSw; have k0 := (hSw.block _ hlt6).trans HB06.out; have s0 := blk_cell k0 0; have s1 := blk_cell k0 1; have s2 := blk_cell k0 2; have s3 := blk_cell k0 3; have s4 := blk_cell k0 4; have s5 := blk_cell k0 5; have s6 := blk_cell k0 6; simp only [List.getElem?_toArray, List.getElem?_cons_succ, List.getElem?_cons_zero] at s0 s1 s2 s3 s4 s5 s6; go_simp
    go_simp
    refine wpAnyH_take (i := 30) (v := .agg #[.int .i64 c.page, .int .i64 c.n, .int .i64 c.red, .int .i64 c.quarantine, .slice A live.length ca, .slice B quar.length cb, .int .i64 gi]) rfl (by kernel_rfl) (by kernel_rfl) (by kernel_rfl) (fun _ _ _ h => h) (Or.inl ⟨by rfl, ?hy⟩) hS2 ?_
    case hy => intro w9 hSw; have k0 := (hSw.block _ hlt6).trans HB06.out; have s0 := blk_cell k0 0; have s1 := blk_cell k0 1; have s2 := blk_cell k0 2; have s3 := blk_cell k0 3; have s4 := blk_cell k0 4; have s5 := blk_cell k0 5; have s6 := blk_cell k0 6; simp only [List.getElem?_toArray, List.getElem?_cons_succ, List.getElem?_cons_zero] at s0 s1 s2 s3 s4 s5 s6; go_simp
    go_simp
    refine wpAnyH_ready (rs := [29]) (by kernel_rfl) (by simp) ?_
    refine AllReadyH.cons rfl (fun K hK => ?_) AllReadyH.nil
    go_simp
    refine Calls.mono ((HBOTH.out _ (HBW6.out.trans (hS2.mono HBW6.out.size))).k27) ?_
    rintro e v3 ⟨A3, m3, j3, rfl, hb3, hs3⟩
    have hS3 : Below w6.heap.size w6 v3 := hS2.trans (hb3.mono hS2.size)
    refine hK.out _ _ hS3 (fun _ => ?_)
    clear hK K
    refine wpAnyH_ready (rs := [31]) (by kernel_rfl) (by simp) ?_
    refine AllReadyH.cons rfl (fun K hK => ?_) AllReadyH.nil
    go_simp
    refine Calls.mono ((HBOTH.out _ (HBW6.out.trans (hS3.mono HBW6.out.size))).k40) ?_
    rintro e v4 ⟨A4, m4, j4, rfl, hb4, hs4⟩
    have hS4 : Below w6.heap.size w6 v4 := hS3.trans (hb4.mono hS3.size)
    refine hK.out _ _ hS4 (fun _ => ?_)
    clear hK K
    refine wpAnyH_ready (rs := [32]) (by kernel_rfl) (by simp) ?_
    refine AllReadyH.cons rfl (fun K hK => ?_) AllReadyH.nil
    go_simp
    refine Calls.mono (c39v _ _ S S v4 hS hS (hs3.below hb4) hs4) ?_
    rintro e v5 ⟨rfl, hb5⟩
    rw [show decide (S = S) = true by simp]
    have hS5 : Below w6.heap.size w6 v5 := hS4.trans (hb5.mono hS4.size)
    refine hK.out _ _ hS5 (fun _ => ?_)
    clear hK K
    refine wpAnyH_take (i := 33) (v := .bool true) rfl (by kernel_rfl) (by kernel_rfl) (by kernel_rfl) (fun _ _ _ h => h) (Or.inl ⟨by rfl, ?hy⟩) hS5 ?_
    case hy => intro w9 hSw; have k0 := (hSw.block _ hlt6).trans HB06.out; have s0 := blk_cell k0 0; have s1 := blk_cell k0 1; have s2 := blk_cell k0 2; have s3 := blk_cell k0 3; have s4 := blk_cell k0 4; have s5 := blk_cell k0 5; have s6 := blk_cell k0 6; simp only [List.getElem?_toArray, List.getElem?_cons_succ, List.getElem?_cons_zero] at s0 s1 s2 s3 s4 s5 s6; go_simp
    go_simp
    refine wpAnyH_take (i := 34) (v := .bool true) rfl (by kernel_rfl) (by kernel_rfl) (by kernel_rfl) (fun _ _ _ h => h) (Or.inl ⟨by rfl, ?hy⟩) hS5 ?_
    case hy => intro w9 hSw; have k0 := (hSw.block _ hlt6).trans HB06.out; have s0 := blk_cell k0 0; have s1 := blk_cell k0 1; have s2 := blk_cell k0 2; have s3 := blk_cell k0 3; have s4 := blk_cell k0 4; have s5 := blk_cell k0 5; have s6 := blk_cell k0 6; simp only [List.getElem?_toArray, List.getElem?_cons_succ, List.getElem?_cons_zero] at s0 s1 s2 s3 s4 s5 s6; go_simp
    go_simp
    refine wpAnyH_take (i := 35) (v := .agg #[.int .i64 c.page, .int .i64 c.n, .int .i64 c.red, .int .i64 c.quarantine, .slice A live.length ca, .slice B quar.length cb, .int .i64 gi]) rfl (by kernel_rfl) (by kernel_rfl) (by kernel_rfl) (fun _ _ _ h => h) (Or.inl ⟨by rfl, ?hy⟩) hS5 ?_
    case hy => intro w9 hSw; have k0 := (hSw.block _ hlt6).trans HB06.out; have s0 := blk_cell k0 0; have s1 := blk_cell k0 1; have s2 := blk_cell k0 2; have s3 := blk_cell k0 3; have s4 := blk_cell k0 4; have s5 := blk_cell k0 5; have s6 := blk_cell k0 6; simp only [List.getElem?_toArray, List.getElem?_cons_succ, List.getElem?_cons_zero] at s0 s1 s2 s3 s4 s5 s6; go_simp
    go_simp
    refine wpAnyH_take (i := 37) (v := .agg #[.int .i64 c.page, .int .i64 c.n, .int .i64 c.red, .int .i64 c.quarantine, .slice A live.length ca, .slice B quar.length cb, .int .i64 gi]) rfl (by kernel_rfl) (by kernel_rfl) (by kernel_rfl) (fun _ _ _ h => h) (Or.inl ⟨by rfl, ?hy⟩) hS5 ?_
    case hy => intro w9 hSw; have k0 := (hSw.block _ hlt6).trans HB06.out; have s0 := blk_cell k0 0; have s1 := blk_cell k0 1; have s2 := blk_cell k0 2; have s3 := blk_cell k0 3; have s4 := blk_cell k0 4; have s5 := blk_cell k0 5; have s6 := blk_cell k0 6; simp only [List.getElem?_toArray, List.getElem?_cons_succ, List.getElem?_cons_zero] at s0 s1 s2 s3 s4 s5 s6; go_simp
    go_simp
    refine wpAnyH_ready (rs := [36]) (by kernel_rfl) (by simp) ?_
    refine AllReadyH.cons rfl (fun K hK => ?_) AllReadyH.nil
    go_simp
    refine Calls.mono ((HBOTH.out _ (HBW6.out.trans (hS5.mono HBW6.out.size))).k29) ?_
    rintro e v6 ⟨rfl, hb6⟩
    have hS6 : Below w6.heap.size w6 v6 := hS5.trans (hb6.mono hS5.size)
    refine hK.out _ _ hS6 (fun _ => ?_)
    clear hK K
    refine wpAnyH_ready (rs := [38]) (by kernel_rfl) (by simp) ?_
    refine AllReadyH.cons rfl (fun K hK => ?_) AllReadyH.nil
    go_simp
    refine Calls.mono ((HBOTH.out _ (HBW6.out.trans (hS6.mono HBW6.out.size))).k41) ?_
    rintro e v7 ⟨rfl, hb7⟩
    have hS7 : Below w6.heap.size w6 v7 := hS6.trans (hb7.mono hS6.size)
    refine hK.out _ _ hS7 (fun _ => ?_)
    clear hK K
    refine wpAnyH_take (i := 39) (v := .bool true) rfl (by kernel_rfl) (by kernel_rfl) (by kernel_rfl) (fun _ _ _ h => h) (Or.inl ⟨by rfl, ?hy⟩) hS7 ?_
    case hy => intro w9 hSw; have k0 := (hSw.block _ hlt6).trans HB06.out; have s0 := blk_cell k0 0; have s1 := blk_cell k0 1; have s2 := blk_cell k0 2; have s3 := blk_cell k0 3; have s4 := blk_cell k0 4; have s5 := blk_cell k0 5; have s6 := blk_cell k0 6; simp only [List.getElem?_toArray, List.getElem?_cons_succ, List.getElem?_cons_zero] at s0 s1 s2 s3 s4 s5 s6; go_simp
    go_simp
    refine wpAnyH_take (i := 40) (v := .bool true) rfl (by kernel_rfl) (by kernel_rfl) (by kernel_rfl) (fun _ _ _ h => h) (Or.inl ⟨by rfl, ?hy⟩) hS7 ?_
    case hy => intro w9 hSw; have k0 := (hSw.block _ hlt6).trans HB06.out; have s0 := blk_cell k0 0; have s1 := blk_cell k0 1; have s2 := blk_cell k0 2; have s3 := blk_cell k0 3; have s4 := blk_cell k0 4; have s5 := blk_cell k0 5; have s6 := blk_cell k0 6; simp only [List.getElem?_toArray, List.getElem?_cons_succ, List.getElem?_cons_zero] at s0 s1 s2 s3 s4 s5 s6; go_simp
    go_simp
    refine wpAnyH_take (i := 41) (v := .bool true) rfl (by kernel_rfl) (by kernel_rfl) (by kernel_rfl) (fun _ _ _ h => h) (Or.inl ⟨by rfl, ?hy⟩) hS7 ?_
    case hy => intro w9 hSw; have k0 := (hSw.block _ hlt6).trans HB06.out; have s0 := blk_cell k0 0; have s1 := blk_cell k0 1; have s2 := blk_cell k0 2; have s3 := blk_cell k0 3; have s4 := blk_cell k0 4; have s5 := blk_cell k0 5; have s6 := blk_cell k0 6; simp only [List.getElem?_toArray, List.getElem?_cons_succ, List.getElem?_cons_zero] at s0 s1 s2 s3 s4 s5 s6; go_simp
    go_simp
    refine wpAnyH_done (by kernel_rfl) ?_ _
    go_wp2
    go_ret
    exact ⟨rfl, HBW6.out.trans (hS7.mono HBW6.out.size)⟩
end Go.Proofs.Ytbhbjcgbhklieaa
