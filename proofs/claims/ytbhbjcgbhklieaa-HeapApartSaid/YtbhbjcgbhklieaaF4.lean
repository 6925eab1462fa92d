/- IsHeap: the specification of a valid heap. -/
import Derived.Test.YtbhbjcgbhklieaaF3
import Derived.Test.YtbhbjcgbhklieaaF5
import Derived.BigQuiet
namespace Go.Proofs.Ytbhbjcgbhklieaa
open Go.RowKit Go.Shelf

/-- what the outer loop has seen of the first k blocks. -/
def OkTo (c : Conf) (gi : Int) (n1 : Nat) (l : List Piece) (k : Nat) : Prop :=
  ∀ j, j < k → pOk c gi l[j]! ∧ (0 < j → j < n1 → l[j - 1]!.pos < l[j]!.pos) ∧ ∀ t, t < j → l[t]!.born ≠ l[j]!.born ∧ DjP c.red l[t]! l[j]!

theorem okTo_good {c : Conf} {gi : Int} {live quar : List Piece} (h0 : okConf c = true) (g0 : 0 ≤ gi) (g1 : gi ≤ 1073741824) (n1 : live.length ≤ 1000) (n2 : quar.length ≤ 1000) (h : OkTo c gi live.length (live ++ quar) (live ++ quar).length) (hh : (quar.map (·.size)).sum ≤ c.quarantine) : GoodP c gi live quar := by
  refine ⟨h0, g0, g1, n1, n2, fun p hp => ?_, ?_, ?_, ?_, hh⟩
  · obtain ⟨j, hj, rfl⟩ := List.getElem_of_mem hp
    have := (h j hj).1
    rwa [getElem!_pos _ j hj] at this
  · rw [List.Nodup, List.pairwise_map, List.pairwise_iff_getElem]
    intro i j hi hj hij
    have := ((h j hj).2.2 i hij).1
    rwa [getElem!_pos _ i hi, getElem!_pos _ j hj] at this
  · rw [List.pairwise_iff_getElem]
    intro i j hi hj hij
    have := ((h j hj).2.2 i hij).2
    rwa [getElem!_pos _ i hi, getElem!_pos _ j hj] at this
  · have step : ∀ j, j + 1 < live.length → live[j]!.pos < live[j + 1]!.pos := fun j hj => by
      have := (h (j + 1) (by simp; omega)).2.1 (by omega) hj
      rw [Nat.add_sub_cancel, getElem!_pos (live ++ quar) j (by simp; omega), getElem!_pos (live ++ quar) (j + 1) (by simp; omega), List.getElem_append_left (by omega), List.getElem_append_left hj] at this
      rw [getElem!_pos live j (by omega), getElem!_pos live (j + 1) hj]
      exact this
    have mono : ∀ i d, i + (d + 1) < live.length → live[i]!.pos < live[i + (d + 1)]!.pos := by
      intro i d
      induction d with
      | zero => exact fun h => step i h
      | succ d ih => exact fun h => Int.lt_trans (ih (by omega)) (step (i + (d + 1)) (by omega))
    rw [List.pairwise_iff_getElem]
    intro i j hi hj hij
    obtain ⟨d, rfl⟩ : ∃ d, j = i + (d + 1) := ⟨j - i - 1, by omega⟩
    have := mono i d hj
    rwa [getElem!_pos live i hi, getElem!_pos live (i + (d + 1)) hj] at this
theorem good_okTo {c : Conf} {gi : Int} {live quar : List Piece} (g : GoodP c gi live quar) (k : Nat) (hk : k ≤ (live ++ quar).length) : OkTo c gi live.length (live ++ quar) k := by
  intro j hj
  have hjl : j < (live ++ quar).length := by omega
  have hb := g.births
  rw [List.Nodup, List.pairwise_map, List.pairwise_iff_getElem] at hb
  have hd := g.dj
  rw [List.pairwise_iff_getElem] at hd
  have hp := g.pos
  rw [List.pairwise_iff_getElem] at hp
  refine ⟨?_, fun h0 h1 => ?_, fun t ht => ⟨?_, ?_⟩⟩
  · rw [getElem!_pos _ j hjl]; exact g.each _ (List.getElem_mem hjl)
  · rw [getElem!_pos (live ++ quar) (j - 1) (by omega), getElem!_pos (live ++ quar) j hjl, List.getElem_append_left (by omega), List.getElem_append_left h1]
    exact hp (j - 1) j (by omega) h1 (by omega)
  · rw [getElem!_pos _ t (by omega), getElem!_pos _ j hjl]; exact hb t j (by omega) hjl ht
  · rw [getElem!_pos _ t (by omega), getElem!_pos _ j hjl]; exact hd t j (by omega) hjl ht

theorem region_ex {P : Program} {id : Nat} {ops : Array Oper} {b : Bool} {Q : Exit → Act → World → Prop} {a : Act} {w : World} (R : Act → Act → World → Prop)
    (h1 : (Code.region id ops b).wp P (fun e a' w' => e = .normal ∧ R a a' w') a w) (h2 : ∀ a' w', R a a' w' → Q .normal a' w') : (Code.region id ops b).wp P Q a w :=
  wp_mono h1 (by rintro e a' w' ⟨rfl, h⟩; exact h2 a' w' h)

set_option maxRecDepth 100000 in
set_option maxHeartbeats 4000000 in
theorem c18 (c : Conf) (lv qv : Value) (gi : Int) (live quar : List Piece) (w : World) (hl : Sl 3 encP w lv live) (hq : Sl 3 encP w qv quar) (wl : ∀ p ∈ live, WfP p) (wq : ∀ p ∈ quar, WfP p) :
    Calls Try.prog 18 #[hAgg c lv qv gi] w fun e w' => Below w.heap.size w w' ∧ ((¬ GoodP c gi live quar ∧ e = .returned (.bool false)) ∨ (GoodP c gi live quar ∧ e = .returned (.bool true))) := by
  have HL := Lib.hid hl
  have HQ := Lib.hid hq
  have HWL := Lib.hid wl
  have HWQ := Lib.hid wq
  obtain ⟨A, ca, rfl, _, _⟩ := id hl
  obtain ⟨B, cb, rfl, _, _⟩ := id hq
  have h60 := fun W => c60 c W
  clear hl hq wl wq
  have hbel : Below w.heap.size w ((w.alloc (.cells #[.int .i64 c.page, .int .i64 c.n, .int .i64 c.red, .int .i64 c.quarantine, .slice A live.length ca, .slice B quar.length cb, .int .i64 gi] 26)).alloc (.cells #[.int .i64 c.page, .int .i64 c.n, .int .i64 c.red, .int .i64 c.quarantine] 23)) := (below_alloc1 w _).alloc (by simp) _
  have HBEL := Lib.hid hbel
  clear hbel
  by_cases hconf : okConf c = true
  rotate_left
  · have hcf : okConf c = false := by simpa using hconf
    rw [hcf] at h60
    clear hconf
    go_enter Try.func18, Try.ntmps18
    go_wp2_with (go_at_call 60; refine (h60 _).mono ?_; rintro e w' ⟨rfl, rfl⟩)
    go_ret
    exact ⟨HBEL.out, .inl ⟨fun g => (by have := g.conf; rw [hcf] at this; cases this), rfl⟩⟩
  rw [hconf] at h60
  by_cases hbad : gi < 0 ∨ 1073741824 < gi ∨ 1000 < live.length ∨ 1000 < quar.length
  · have hng : ¬ GoodP c gi live quar := fun g => by have := g.gi0; have := g.gi1; have := g.n1; have := g.n2; omega
    have HNG := Lib.hid hng
    clear hng
    by_cases b1 : gi < 0
    · clear hbad
      go_enter Try.func18, Try.ntmps18
      go_wp2_with (go_at_call 60; refine (h60 _).mono ?_; rintro e w' ⟨rfl, rfl⟩)
      go_ret
      exact ⟨HBEL.out, .inl ⟨HNG.out, rfl⟩⟩
    · by_cases b2 : 1073741824 < gi
      · clear hbad
        go_enter Try.func18, Try.ntmps18
        go_wp2_with (go_at_call 60; refine (h60 _).mono ?_; rintro e w' ⟨rfl, rfl⟩)
        go_ret
        exact ⟨HBEL.out, .inl ⟨HNG.out, rfl⟩⟩
      · by_cases b3 : 1000 < live.length
        · have b3' : (1000 : Int) < (live.length : Int) := by omega
          clear hbad
          go_enter Try.func18, Try.ntmps18
          go_wp2_with (go_at_call 60; refine (h60 _).mono ?_; rintro e w' ⟨rfl, rfl⟩)
          go_ret
          exact ⟨HBEL.out, .inl ⟨HNG.out, rfl⟩⟩
        · have b4 : 1000 < quar.length := by omega
          have b3' : ¬ (1000 : Int) < (live.length : Int) := by omega
          have b4' : (1000 : Int) < (quar.length : Int) := by omega
          clear hbad
          go_enter Try.func18, Try.ntmps18
          go_wp2_with (go_at_call 60; refine (h60 _).mono ?_; rintro e w' ⟨rfl, rfl⟩)
          go_ret
          exact ⟨HBEL.out, .inl ⟨HNG.out, rfl⟩⟩
  have b1 : ¬ gi < 0 := fun h => hbad (.inl h)
  have b2 : ¬ 1073741824 < gi := fun h => hbad (.inr (.inl h))
  have b3 : ¬ (1000 : Int) < (live.length : Int) := fun h => hbad (.inr (.inr (.inl (by omega))))
  have b4 : ¬ (1000 : Int) < (quar.length : Int) := fun h => hbad (.inr (.inr (.inr (by omega))))
  have hn1 : live.length ≤ 1000 := by omega
  have hn2 : quar.length ≤ 1000 := by omega
  have h61 := c61 c _ _ gi live quar _ (HL.out.below HBEL.out) (HQ.out.below HBEL.out) hn1 hn2
  have H61 := Lib.hid h61
  have HCONF := Lib.hid hconf
  have hb := hconf
  simp only [okConf, decide_eq_true_eq] at hb
  obtain ⟨e1, e2, e3, e4, e5, e6, e7, e8, e9⟩ := hb
  clear hbad h61 hconf
  go_enter Try.func18, Try.ntmps18
  go_wp2_with (go_at_call 60; refine (h60 _).mono ?_; rintro e w' ⟨rfl, rfl⟩)
  refine Calls.mono H61.out ?_
  clear H61 h60
  rintro e w1 ⟨v, rfl, hB1, ho1⟩
  have hb0 : w1.heap[w.heap.size]? = some (.cells #[.int .i64 c.page, .int .i64 c.n, .int .i64 c.red, .int .i64 c.quarantine, .slice A live.length ca, .slice B quar.length cb, .int .i64 gi] 26 (0, 0)) := (hB1.block _ (by simp; omega)).trans (hal_old (hal_new rfl))
  obtain ⟨l, hll⟩ : ∃ l, live ++ quar = l := ⟨_, rfl⟩
  have hF := Fresh.of_own ho1 rfl
  rw [hll] at hF ho1
  obtain ⟨AL, cl, rfl, hcl, hlies⟩ := hF.sl
  have hBw : Below w.heap.size w w1 := HBEL.out.trans (hB1.mono (by simp; try omega))
  have hwf : ∀ p ∈ l, WfP p := fun p hp => by rw [← hll] at hp; exact (List.mem_append.1 hp).elim (HWL.out p) (HWQ.out p)
  obtain ⟨N, hN⟩ : ∃ N, l.length = N := ⟨_, rfl⟩
  have hN2 : N ≤ 2000 := by rw [← hN, ← hll, List.length_append]; omega
  have hlN : live.length ≤ N := by rw [← hN, ← hll, List.length_append]; omega
  rw [hN]
  have HLL := Lib.hid hll
  have HLIES := Lib.hid hlies
  have HBW := Lib.hid hBw
  have HB0 := Lib.hid hb0
  have HWF := Lib.hid hwf
  have HN := Lib.hid hN
  have hlt0 : w.heap.size < w1.heap.size := blk_lt hb0
  clear hB1 ho1 hF hb0 hll hlies hBw hwf hN hcl
  go_wp2
  go_loopg [4] N (fun kx s4 wr => ∃ k : Nat, k ≤ N ∧ s4 = .int .i64 k ∧ N - k ≤ kx ∧ Hid (OkTo c gi live.length l k) ∧ Hid (Below w1.heap.size w1 wr))
  case atStart => exact ⟨0, Nat.zero_le _, rfl, by omega, fun j hj => by omega, Below.refl _ _⟩
  case round =>
    obtain ⟨k, hk, rfl, hkx, HOK, HBr⟩ := hrel
    have hsr := HBr.out.size
    by_cases hlt : k < N
    · have hkl : k < l.length := by rw [HN.out]; exact hlt
      obtain ⟨bb, off, rfl, hL⟩ := HLIES.out.resolve_left (by rintro rfl; simp at hkl)
      obtain ⟨m0, m1, m2⟩ := (hL.below HBr.out).at3 k hkl
      have hpw := HWF.out l[k]! (by rw [getElem!_pos l k hkl]; exact List.getElem_mem hkl)
      obtain ⟨p, hp⟩ : ∃ p, l[k]! = p := ⟨_, rfl⟩
      rw [hp] at m0 m1 m2 hpw
      have hbb : bb < wr.heap.size := Nat.lt_of_lt_of_le hL.1 hsr
      have HP := Lib.hid hp
      have HLL2 := Lib.hid hL
      clear hp hL hkl
      go_wp2
      refine gen_worldP (fun W => Below w1.heap.size w1 W ∧ Below wr.heap.size wr W ∧ wr.heap.size < W.heap.size ∧ W.heap[wr.heap.size]? = some (.cells #[.int .u32 p.pos, .int .i64 p.size, .int .i64 p.born] 38 (0, 0))) ⟨HBr.out.alloc hsr _, below_alloc1 _ _, by simp, hal_new rfl⟩ ?_
      rintro W ⟨hW1, hWr, hsW, hpb⟩
      have hbx := (hW1.block _ hlt0).trans HB0.out
      have hlt0W : w.heap.size < W.heap.size := blk_lt hbx
      have z0 : ∀ d os, (far W d os).cell? ⟨wr.heap.size, 0, none⟩ = some (.int .u32 p.pos) := far_cell (by omega) (blk_cell hpb 0)
      have z1 : ∀ d os, (far W d os).cell? ⟨wr.heap.size, 1, none⟩ = some (.int .i64 p.size) := far_cell (by omega) (blk_cell hpb 1)
      have z2 : ∀ d os, (far W d os).cell? ⟨wr.heap.size, 2, none⟩ = some (.int .i64 p.born) := far_cell (by omega) (blk_cell hpb 2)
      have z3 : ∀ d os, (far W d os).cell? ⟨w.heap.size, 0, none⟩ = some (.int .i64 c.page) := far_cell (by omega) (blk_cell hbx 0)
      have z4 : ∀ d os, (far W d os).cell? ⟨w.heap.size, 1, none⟩ = some (.int .i64 c.n) := far_cell (by omega) (blk_cell hbx 1)
      have z5 : ∀ d os, (far W d os).cell? ⟨w.heap.size, 2, none⟩ = some (.int .i64 c.red) := far_cell (by omega) (blk_cell hbx 2)
      have z6 : ∀ d os, (far W d os).cell? ⟨w.heap.size, 3, none⟩ = some (.int .i64 c.quarantine) := far_cell (by omega) (blk_cell hbx 3)
      have z7 : ∀ d os, (far W d os).cell? ⟨w.heap.size, 4, none⟩ = some (.slice A live.length ca) := far_cell (by omega) (blk_cell hbx 4)
      have z8 : ∀ d os, (far W d os).cell? ⟨w.heap.size, 5, none⟩ = some (.slice B quar.length cb) := far_cell (by omega) (blk_cell hbx 5)
      have z9 : ∀ d os, (far W d os).cell? ⟨w.heap.size, 6, none⟩ = some (.int .i64 gi) := far_cell (by omega) (blk_cell hbx 6)
      have HW1 := Lib.hid hW1
      have HWr := Lib.hid hWr
      have HPB := Lib.hid hpb
      have HBX := Lib.hid hbx
      have hmx : Try.prog.follows .mixedOrders = true := by kernel_rfl
      clear hW1 hWr hpb hbx m0 m1 m2
      have hpok : GoodP c gi live quar → pOk c gi p := fun g => by
        have := (good_okTo g (k + 1) (by rw [HLL.out, HN.out]; omega) k (by omega)).1
        rwa [HLL.out, HP.out] at this
      have HPOK := Lib.hid hpok
      clear hpok
      by_cases t1 : p.pos.tmod 8 = 0
      rotate_left
      · have HNO : Hid (¬ pOk c gi p) := fun h => t1 h.1
        have g1 : (p.pos.tmod 8 != 0) = true := by simpa using t1
        have g2 : (p.pos.tmod 8 == 0) = false := by simpa using t1
        have g3 : decide (p.pos.tmod 8 = 0) = false := by simpa using t1
        refine wp_region_far hmx (by kernel_rfl) ?_
        repeat (go_big_quiet_step ((first | (go_at_call 62; exact Calls.far_of (c62 c.page c.n c.red c.quarantine p _ e6 e7 hpw)) | (go_at_call 63; exact Calls.far_of (c63 c.page c.n c.red c.quarantine _ (by omega) (by omega))) | (go_at_call 64; exact Calls.far_of (c64 c.page c.n c.red c.quarantine p _ e6 e7 hpw (by omega) (by omega))) | (go_at_call 65; exact Calls.far_of (c65 c.page c.n c.red c.quarantine _ (by omega) (by omega) (by omega) (by omega))))))
        refine wpQuiet_nil ?_
        intro _ hw'
        obtain ⟨⟨d, os⟩, hw''⟩ := hw'
        subst hw''
        go_wp2
        go_ret
        exact ⟨HBW.out.trans ((HW1.out.trans ((below_far W d os).mono HW1.out.size)).mono (by omega)), .inl ⟨fun g => HNO.out (HPOK.out g), rfl⟩⟩
      have g1 : (p.pos.tmod 8 != 0) = false := by simpa using t1
      have g2 : (p.pos.tmod 8 == 0) = true := by simpa using t1
      have g3 : decide (p.pos.tmod 8 = 0) = true := by simpa using t1
      by_cases u0 : p.size < 0
      · have HNO : Hid (¬ pOk c gi p) := fun h => by have h1 := h.2; omega
        have d0 : decide (p.size < 0) = true := decide_eq_true u0
        refine wp_region_far hmx (by kernel_rfl) ?_
        repeat (go_big_quiet_step ((first | (go_at_call 62; exact Calls.far_of (c62 c.page c.n c.red c.quarantine p _ e6 e7 hpw)) | (go_at_call 63; exact Calls.far_of (c63 c.page c.n c.red c.quarantine _ (by omega) (by omega))) | (go_at_call 64; exact Calls.far_of (c64 c.page c.n c.red c.quarantine p _ e6 e7 hpw (by omega) (by omega))) | (go_at_call 65; exact Calls.far_of (c65 c.page c.n c.red c.quarantine _ (by omega) (by omega) (by omega) (by omega))))))
        refine wpQuiet_nil ?_
        intro _ hw'
        obtain ⟨⟨d, os⟩, hw''⟩ := hw'
        subst hw''
        go_wp2
        go_ret
        exact ⟨HBW.out.trans ((HW1.out.trans ((below_far W d os).mono HW1.out.size)).mono (by omega)), .inl ⟨fun g => HNO.out (HPOK.out g), rfl⟩⟩
      have d0 : decide (p.size < 0) = false := decide_eq_false u0
      by_cases u1 : 65536 < p.size
      · have HNO : Hid (¬ pOk c gi p) := fun h => by have h1 := h.2; omega
        have d1 : decide (65536 < p.size) = true := decide_eq_true u1
        refine wp_region_far hmx (by kernel_rfl) ?_
        repeat (go_big_quiet_step ((first | (go_at_call 62; exact Calls.far_of (c62 c.page c.n c.red c.quarantine p _ e6 e7 hpw)) | (go_at_call 63; exact Calls.far_of (c63 c.page c.n c.red c.quarantine _ (by omega) (by omega))) | (go_at_call 64; exact Calls.far_of (c64 c.page c.n c.red c.quarantine p _ e6 e7 hpw (by omega) (by omega))) | (go_at_call 65; exact Calls.far_of (c65 c.page c.n c.red c.quarantine _ (by omega) (by omega) (by omega) (by omega))))))
        refine wpQuiet_nil ?_
        intro _ hw'
        obtain ⟨⟨d, os⟩, hw''⟩ := hw'
        subst hw''
        go_wp2
        go_ret
        exact ⟨HBW.out.trans ((HW1.out.trans ((below_far W d os).mono HW1.out.size)).mono (by omega)), .inl ⟨fun g => HNO.out (HPOK.out g), rfl⟩⟩
      have d1 : decide (65536 < p.size) = false := decide_eq_false u1
      by_cases u2 : p.born < 1
      · have HNO : Hid (¬ pOk c gi p) := fun h => by have h1 := h.2; omega
        have d2 : decide (p.born < 1) = true := decide_eq_true u2
        refine wp_region_far hmx (by kernel_rfl) ?_
        repeat (go_big_quiet_step ((first | (go_at_call 62; exact Calls.far_of (c62 c.page c.n c.red c.quarantine p _ e6 e7 hpw)) | (go_at_call 63; exact Calls.far_of (c63 c.page c.n c.red c.quarantine _ (by omega) (by omega))) | (go_at_call 64; exact Calls.far_of (c64 c.page c.n c.red c.quarantine p _ e6 e7 hpw (by omega) (by omega))) | (go_at_call 65; exact Calls.far_of (c65 c.page c.n c.red c.quarantine _ (by omega) (by omega) (by omega) (by omega))))))
        refine wpQuiet_nil ?_
        intro _ hw'
        obtain ⟨⟨d, os⟩, hw''⟩ := hw'
        subst hw''
        go_wp2
        go_ret
        exact ⟨HBW.out.trans ((HW1.out.trans ((below_far W d os).mono HW1.out.size)).mono (by omega)), .inl ⟨fun g => HNO.out (HPOK.out g), rfl⟩⟩
      have d2 : decide (p.born < 1) = false := decide_eq_false u2
      by_cases u3 : gi < p.born
      · have HNO : Hid (¬ pOk c gi p) := fun h => by have h1 := h.2; omega
        have d3 : decide (gi < p.born) = true := decide_eq_true u3
        refine wp_region_far hmx (by kernel_rfl) ?_
        repeat (go_big_quiet_step ((first | (go_at_call 62; exact Calls.far_of (c62 c.page c.n c.red c.quarantine p _ e6 e7 hpw)) | (go_at_call 63; exact Calls.far_of (c63 c.page c.n c.red c.quarantine _ (by omega) (by omega))) | (go_at_call 64; exact Calls.far_of (c64 c.page c.n c.red c.quarantine p _ e6 e7 hpw (by omega) (by omega))) | (go_at_call 65; exact Calls.far_of (c65 c.page c.n c.red c.quarantine _ (by omega) (by omega) (by omega) (by omega))))))
        refine wpQuiet_nil ?_
        intro _ hw'
        obtain ⟨⟨d, os⟩, hw''⟩ := hw'
        subst hw''
        go_wp2
        go_ret
        exact ⟨HBW.out.trans ((HW1.out.trans ((below_far W d os).mono HW1.out.size)).mono (by omega)), .inl ⟨fun g => HNO.out (HPOK.out g), rfl⟩⟩
      have d3 : decide (gi < p.born) = false := decide_eq_false u3
      by_cases u4 : p.pos - c.red < c.page * 256
      · have HNO : Hid (¬ pOk c gi p) := fun h => by have h1 := h.2; omega
        have d4 : decide (p.pos - c.red < c.page * 256) = true := decide_eq_true u4
        refine wp_region_far hmx (by kernel_rfl) ?_
        repeat (go_big_quiet_step ((first | (go_at_call 62; exact Calls.far_of (c62 c.page c.n c.red c.quarantine p _ e6 e7 hpw)) | (go_at_call 63; exact Calls.far_of (c63 c.page c.n c.red c.quarantine _ (by omega) (by omega))) | (go_at_call 64; exact Calls.far_of (c64 c.page c.n c.red c.quarantine p _ e6 e7 hpw (by omega) (by omega))) | (go_at_call 65; exact Calls.far_of (c65 c.page c.n c.red c.quarantine _ (by omega) (by omega) (by omega) (by omega))))))
        refine wpQuiet_nil ?_
        intro _ hw'
        obtain ⟨⟨d, os⟩, hw''⟩ := hw'
        subst hw''
        go_wp2
        go_ret
        exact ⟨HBW.out.trans ((HW1.out.trans ((below_far W d os).mono HW1.out.size)).mono (by omega)), .inl ⟨fun g => HNO.out (HPOK.out g), rfl⟩⟩
      have d4 : decide (p.pos - c.red < c.page * 256) = false := decide_eq_false u4
      by_cases u5 : (c.page + c.n) * 256 < p.pos + max p.size 1 + c.red
      · have HNO : Hid (¬ pOk c gi p) := fun h => by have h1 := h.2; omega
        have d5 : decide ((c.page + c.n) * 256 < p.pos + max p.size 1 + c.red) = true := decide_eq_true u5
        refine wp_region_far hmx (by kernel_rfl) ?_
        repeat (go_big_quiet_step ((first | (go_at_call 62; exact Calls.far_of (c62 c.page c.n c.red c.quarantine p _ e6 e7 hpw)) | (go_at_call 63; exact Calls.far_of (c63 c.page c.n c.red c.quarantine _ (by omega) (by omega))) | (go_at_call 64; exact Calls.far_of (c64 c.page c.n c.red c.quarantine p _ e6 e7 hpw (by omega) (by omega))) | (go_at_call 65; exact Calls.far_of (c65 c.page c.n c.red c.quarantine _ (by omega) (by omega) (by omega) (by omega))))))
        refine wpQuiet_nil ?_
        intro _ hw'
        obtain ⟨⟨d, os⟩, hw''⟩ := hw'
        subst hw''
        go_wp2
        go_ret
        exact ⟨HBW.out.trans ((HW1.out.trans ((below_far W d os).mono HW1.out.size)).mono (by omega)), .inl ⟨fun g => HNO.out (HPOK.out g), rfl⟩⟩
      have d5 : decide ((c.page + c.n) * 256 < p.pos + max p.size 1 + c.red) = false := decide_eq_false u5
      refine wp_region_far hmx (by kernel_rfl) ?_
      repeat (go_big_quiet_step ((first | (go_at_call 62; exact Calls.far_of (c62 c.page c.n c.red c.quarantine p _ e6 e7 hpw)) | (go_at_call 63; exact Calls.far_of (c63 c.page c.n c.red c.quarantine _ (by omega) (by omega))) | (go_at_call 64; exact Calls.far_of (c64 c.page c.n c.red c.quarantine p _ e6 e7 hpw (by omega) (by omega))) | (go_at_call 65; exact Calls.far_of (c65 c.page c.n c.red c.quarantine _ (by omega) (by omega) (by omega) (by omega))))))
      refine wpQuiet_nil ?_
      intro _ hw'
      obtain ⟨⟨d, os⟩, hw''⟩ := hw'
      subst hw''
      have hpk : pOk c gi p := ⟨t1, by omega, by omega, by omega, by omega, by omega, by omega⟩
      have HPK := Lib.hid hpk
      have hBf : Below w1.heap.size w1 (far W d os) := HW1.out.trans ((below_far W d os).mono HW1.out.size)
      have hpb2 : (far W d os).heap[wr.heap.size]? = some (.cells #[.int .u32 p.pos, .int .i64 p.size, .int .i64 p.born] 38 (0, 0)) := ((below_far W d os).block _ hsW).trans HPB.out
      have hbx2 := ((below_far W d os).block _ hlt0W).trans HBX.out
      go_simp
      refine gen_worldQ (fun X => Below w1.heap.size w1 X ∧ wr.heap.size < X.heap.size ∧ X.heap[wr.heap.size]? = some (.cells #[.int .u32 p.pos, .int .i64 p.size, .int .i64 p.born] 38 (0, 0)) ∧ X.heap[w.heap.size]? = some (.cells #[.int .i64 c.page, .int .i64 c.n, .int .i64 c.red, .int .i64 c.quarantine, .slice A live.length ca, .slice B quar.length cb, .int .i64 gi] 26 (0, 0))) ⟨hBf, Nat.lt_of_lt_of_le hsW (below_far W d os).size, hpb2, hbx2⟩ ?_
      rintro X ⟨x1, x2, x3, x4⟩
      clear z0 z1 z2 z3 z4 z5 z6 z7 z8 z9 hBf hpb2 hbx2 hpk
      go_wp2
      have hxb : Below wr.heap.size wr wr := Below.refl _ _
      have mcell : ∀ j, j < N → ∀ i u, (encP l[j]!)[i]? = some u → X.cell? ⟨bb, off + j * 3 + i, none⟩ = some u := fun j hj i u hu => (HLL2.out.below x1).2 j (by rw [HN.out]; exact hj) i u hu
      have hbbX : bb < X.heap.size := (HLL2.out.below x1).1
      have z0 : ∀ d os, (far X d os).cell? ⟨wr.heap.size, 0, none⟩ = some (.int .u32 p.pos) := far_cell (by omega) (blk_cell x3 0)
      have z4 : ∀ d os, (far X d os).cell? ⟨w.heap.size, 4, none⟩ = some (.slice A live.length ca) := far_cell (blk_lt x4) (blk_cell x4 4)
      have X1 := Lib.hid x1
      have X3 := Lib.hid x3
      have X4 := Lib.hid x4
      have MC := Lib.hid mcell
      clear hxb x1 x3 x4 mcell
      by_cases hfl : 0 < k ∧ k < live.length ∧ p.pos ≤ l[k - 1]!.pos
      · have hng : ¬ GoodP c gi live quar := fun g => by
          have := (good_okTo g (k + 1) (by rw [HLL.out, HN.out]; omega) k (by omega)).2.1 hfl.1 hfl.2.1
          rw [HLL.out, HP.out] at this
          omega
        have HNG := Lib.hid hng
        obtain ⟨f1, f2, f3⟩ := hfl
        obtain ⟨kk, rfl⟩ : ∃ kk, k = kk + 1 := ⟨k - 1, by omega⟩
        rw [Nat.add_sub_cancel] at f3
        have y0 : ∀ d os, (far X d os).cell? ⟨bb, off + kk * 3, none⟩ = some (.int .u32 l[kk]!.pos) := far_cell hbbX (MC.out kk (by omega) 0 _ rfl)
        generalize l[kk]!.pos = qp at f3 y0
        have d1 : decide ((0 : Int) < (kk : Int) + 1) = true := decide_eq_true (by omega)
        have d2 : decide ((kk : Int) + 1 < (live.length : Int)) = true := decide_eq_true (by omega)
        have d3 : decide (p.pos ≤ qp) = true := decide_eq_true f3
        have i1 : (kk : Int) + 1 - 1 = kk := by omega
        have i2 : IntKind.i64.wrap (kk : Int) = kk := by rw [IntKind.wrap_i64]; omega
        have i3 : kk < N := by omega
        have i4 : (kk : Int) < (N : Int) := by omega
        clear hng f1 f2 f3
        refine wp_region_far hmx (by kernel_rfl) ?_
        repeat (go_big_quiet_step (fail))
        refine wpQuiet_nil ?_
        intro _ hw'
        obtain ⟨⟨d', os'⟩, hw''⟩ := hw'
        subst hw''
        go_wp2
        go_ret
        exact ⟨HBW.out.trans ((X1.out.trans ((below_far X d' os').mono X1.out.size)).mono (by omega)), .inl ⟨HNG.out, rfl⟩⟩
      refine region_ex (fun a a' w' => (∃ s0 s1 s2 s3 s4 s5 s6 s7 s8 s9 s10 s11 s12 s13 s14 s15 s16 s17 s18, a' = { tmps := ((((((((((((((((((((a.tmps.setIfInBounds 91 s0).setIfInBounds 92 s1).setIfInBounds 93 s2).setIfInBounds 94 s3).setIfInBounds 95 s4).setIfInBounds 96 s5).setIfInBounds 97 s6).setIfInBounds 98 s7).setIfInBounds 99 s8).setIfInBounds 100 s9).setIfInBounds 101 s10).setIfInBounds 102 s11).setIfInBounds 103 s12).setIfInBounds 104 s13).setIfInBounds 105 s14).setIfInBounds 106 s15).setIfInBounds 107 s16).setIfInBounds 108 s17).setIfInBounds 109 s18).setIfInBounds 110 (.bool false)), defers := a.defers }) ∧ Below X.heap.size X w') ?_ ?_
      · rcases Nat.eq_zero_or_pos k with rfl | hk0
        · have d1 : decide ((0 : Int) < 0) = false := by decide
          refine wp_region_far hmx (by kernel_rfl) ?_
          repeat (go_big_quiet_step (fail))
          refine wpQuiet_nil ?_
          intro _ hw'
          obtain ⟨⟨d', os'⟩, hw''⟩ := hw'
          subst hw''
          refine ⟨rfl, ?_, below_far X d' os'⟩
          go_simp
        · obtain ⟨kk, rfl⟩ : ∃ kk, k = kk + 1 := ⟨k - 1, by omega⟩
          have d1 : decide ((0 : Int) < (kk : Int) + 1) = true := decide_eq_true (by omega)
          have i1 : (kk : Int) + 1 - 1 = kk := by omega
          have i2 : IntKind.i64.wrap (kk : Int) = kk := by rw [IntKind.wrap_i64]; omega
          have i3 : kk < N := by omega
          have i4 : (kk : Int) < (N : Int) := by omega
          by_cases hkl2 : kk + 1 < live.length
          · have f3 : l[kk]!.pos < p.pos := by
              refine Int.lt_of_not_ge fun h => hfl ⟨hk0, hkl2, ?_⟩
              rw [Nat.add_sub_cancel]; exact h
            have y0 : ∀ d os, (far X d os).cell? ⟨bb, off + kk * 3, none⟩ = some (.int .u32 l[kk]!.pos) := far_cell hbbX (MC.out kk (by omega) 0 _ rfl)
            generalize l[kk]!.pos = qp at f3 y0
            have d2 : decide ((kk : Int) + 1 < (live.length : Int)) = true := decide_eq_true (by omega)
            have d3 : decide (p.pos ≤ qp) = false := decide_eq_false (by omega)
            clear f3 hfl
            refine wp_region_far hmx (by kernel_rfl) ?_
            repeat (go_big_quiet_step (fail))
            refine wpQuiet_nil ?_
            intro _ hw'
            obtain ⟨⟨d', os'⟩, hw''⟩ := hw'
            subst hw''
            refine ⟨rfl, ?_, below_far X d' os'⟩
            go_simp
          · have d2 : decide ((kk : Int) + 1 < (live.length : Int)) = false := decide_eq_false (by omega)
            clear hfl
            refine wp_region_far hmx (by kernel_rfl) ?_
            repeat (go_big_quiet_step (fail))
            refine wpQuiet_nil ?_
            intro _ hw'
            obtain ⟨⟨d', os'⟩, hw''⟩ := hw'
            subst hw''
            refine ⟨rfl, ?_, below_far X d' os'⟩
            go_simp
      rintro a' Y ⟨⟨s0, s1, s2, s3, s4, s5, s6, s7, s8, s9, s10, s11, s12, s13, s14, s15, s16, s17, s18, rfl⟩, hBY⟩
      simp only [List.setIfInBounds_toArray, List.set_cons_zero, List.set_cons_succ]
      have hord : 0 < k → k < live.length → l[k - 1]!.pos < p.pos := fun h1 h2 => Int.lt_of_not_ge fun h => hfl ⟨h1, h2, h⟩
      have HORD := Lib.hid hord
      have Y1 : Hid (Below w1.heap.size w1 Y) := X1.out.trans (hBY.mono X1.out.size)
      have Y3 := Lib.hid ((hBY.block _ (blk_lt X3.out)).trans X3.out)
      have Y4 := Lib.hid ((hBY.block _ (blk_lt X4.out)).trans X4.out)
      have hltY : wr.heap.size < Y.heap.size := blk_lt Y3.out
      clear z0 z4 hfl hBY hord
      obtain ⟨wo, rfl⟩ : ∃ wo : World, wo = wr := ⟨_, rfl⟩
      go_wp2
      have hoksz : ∀ j, j < k → 0 ≤ l[j]!.size ∧ l[j]!.size ≤ 65536 := fun j hj => by have := (HOK.out j hj).1; exact ⟨this.2.1, this.2.2.1⟩
      have HSZ := Lib.hid hoksz
      have hpsz : 0 ≤ p.size ∧ p.size ≤ 65536 := ⟨HPK.out.2.1, HPK.out.2.2.1⟩
      clear hoksz
      go_loopg [6] k (fun kx s6 wr => ∃ t : Nat, t ≤ k ∧ s6 = .int .i64 t ∧ k - t ≤ kx ∧ Hid (∀ j, j < t → l[j]!.born ≠ p.born ∧ DjP c.red l[j]! p) ∧ Hid (Below Y.heap.size Y wr))
      case atStart => exact ⟨0, Nat.zero_le _, rfl, by omega, fun j hj => by omega, Below.refl _ _⟩
      case round =>
        obtain ⟨t, htk, rfl, hkx2, HT, HBt⟩ := hrel
        have hst := HBt.out.size
        by_cases hlt2 : t < k
        · have hbx3 := (HBt.out.block _ (blk_lt Y4.out)).trans Y4.out
          have hpb3 := (HBt.out.block _ (blk_lt Y3.out)).trans Y3.out
          have hwt := HWF.out l[t]! (by rw [getElem!_pos l t (by rw [HN.out]; omega)]; exact List.getElem_mem _)
          have hxsz := HSZ.out t hlt2
          have hLw : ∀ i u, (encP l[t]!)[i]? = some u → wr.cell? ⟨bb, off + t * 3 + i, none⟩ = some u := fun i u hu => (((HLL2.out.below Y1.out).below HBt.out)).2 t (by rw [HN.out]; omega) i u hu
          have hbbw : bb < wr.heap.size := ((HLL2.out.below Y1.out).below HBt.out).1
          obtain ⟨x, hx⟩ : ∃ x, l[t]! = x := ⟨_, rfl⟩
          rw [hx] at hwt hxsz hLw
          have HX := Lib.hid hx
          have z0 : ∀ d os, (far wr d os).cell? ⟨wo.heap.size, 0, none⟩ = some (.int .u32 p.pos) := far_cell (blk_lt hpb3) (blk_cell hpb3 0)
          have z1 : ∀ d os, (far wr d os).cell? ⟨wo.heap.size, 1, none⟩ = some (.int .i64 p.size) := far_cell (blk_lt hpb3) (blk_cell hpb3 1)
          have z2 : ∀ d os, (far wr d os).cell? ⟨wo.heap.size, 2, none⟩ = some (.int .i64 p.born) := far_cell (blk_lt hpb3) (blk_cell hpb3 2)
          have z3 : ∀ d os, (far wr d os).cell? ⟨w.heap.size, 0, none⟩ = some (.int .i64 c.page) := far_cell (blk_lt hbx3) (blk_cell hbx3 0)
          have z4 : ∀ d os, (far wr d os).cell? ⟨w.heap.size, 1, none⟩ = some (.int .i64 c.n) := far_cell (blk_lt hbx3) (blk_cell hbx3 1)
          have z5 : ∀ d os, (far wr d os).cell? ⟨w.heap.size, 2, none⟩ = some (.int .i64 c.red) := far_cell (blk_lt hbx3) (blk_cell hbx3 2)
          have z6 : ∀ d os, (far wr d os).cell? ⟨w.heap.size, 3, none⟩ = some (.int .i64 c.quarantine) := far_cell (blk_lt hbx3) (blk_cell hbx3 3)
          have y0 : ∀ d os, (far wr d os).cell? ⟨bb, off + t * 3, none⟩ = some (.int .u32 x.pos) := far_cell hbbw (hLw 0 _ rfl)
          have y1 : ∀ d os, (far wr d os).cell? ⟨bb, off + t * 3 + 1, none⟩ = some (.int .i64 x.size) := far_cell hbbw (hLw 1 _ rfl)
          have y2 : ∀ d os, (far wr d os).cell? ⟨bb, off + t * 3 + 2, none⟩ = some (.int .i64 x.born) := far_cell hbbw (hLw 2 _ rfl)
          have i3 : t < N := by omega
          have i4 : (t : Int) < (N : Int) := by omega
          clear hx hLw hbx3 hpb3
          by_cases hgd : x.born ≠ p.born ∧ DjP c.red x p
          · obtain ⟨hb1, hd1⟩ := hgd
            have g1 : (x.born == p.born) = false := by simpa using hb1
            have g2 : decide (x.born = p.born) = false := decide_eq_false hb1
            have g3 : decide (DjP c.red x p) = true := decide_eq_true hd1
            have HGD : Hid (x.born ≠ p.born ∧ DjP c.red x p) := ⟨hb1, hd1⟩
            clear hb1 hd1
            go_wp2
            refine wp_region_far hmx (by kernel_rfl) ?_
            repeat (go_big_quiet_step ((go_at_call 66; exact Calls.far_of (c66 c.page c.n c.red c.quarantine x p _ e6 e7 hwt hpw hxsz.1 hxsz.2 hpsz.1 hpsz.2))))
            refine wpQuiet_nil ?_
            intro _ hw'
            obtain ⟨⟨d', os'⟩, hw''⟩ := hw'
            subst hw''
            go_wp2
            go_roundg (k - (t + 1))
            case measure => omega
            case rel =>
              refine ⟨t + 1, by omega, by go_num, Nat.le_refl _, fun j hj => ?_, HBt.out.trans ((below_far wr d' os').mono hst)⟩
              rcases Nat.lt_or_eq_of_le (Nat.le_of_lt_succ hj) with h | rfl
              · exact HT.out j h
              · rw [HX.out]; exact HGD.out
          · have hng : ¬ GoodP c gi live quar := fun g => by
              have := ((good_okTo g (k + 1) (by rw [HLL.out, HN.out]; omega) k (by omega)).2.2 t hlt2)
              rw [HLL.out, HP.out, HX.out] at this
              exact hgd this
            have HNG := Lib.hid hng
            clear hng
            by_cases hb1 : x.born = p.born
            · have g1 : (x.born == p.born) = true := by simpa using hb1
              have g2 : decide (x.born = p.born) = true := decide_eq_true hb1
              clear hgd hb1
              go_wp2
              refine wp_region_far hmx (by kernel_rfl) ?_
              repeat (go_big_quiet_step (fail))
              refine wpQuiet_nil ?_
              intro _ hw'
              obtain ⟨⟨d', os'⟩, hw''⟩ := hw'
              subst hw''
              go_wp2
              go_ret
              exact ⟨HBW.out.trans ((Y1.out.trans ((HBt.out.trans ((below_far wr d' os').mono hst)).mono Y1.out.size)).mono (by omega)), .inl ⟨HNG.out, rfl⟩⟩
            · have hd1 : ¬ DjP c.red x p := fun h => hgd ⟨hb1, h⟩
              have g1 : (x.born == p.born) = false := by simpa using hb1
              have g2 : decide (x.born = p.born) = false := decide_eq_false hb1
              have g3 : decide (DjP c.red x p) = false := decide_eq_false hd1
              clear hgd hb1 hd1
              go_wp2
              refine wp_region_far hmx (by kernel_rfl) ?_
              repeat (go_big_quiet_step ((go_at_call 66; exact Calls.far_of (c66 c.page c.n c.red c.quarantine x p _ e6 e7 hwt hpw hxsz.1 hxsz.2 hpsz.1 hpsz.2))))
              refine wpQuiet_nil ?_
              intro _ hw'
              obtain ⟨⟨d', os'⟩, hw''⟩ := hw'
              subst hw''
              go_wp2
              go_ret
              exact ⟨HBW.out.trans ((Y1.out.trans ((HBt.out.trans ((below_far wr d' os').mono hst)).mono Y1.out.size)).mono (by omega)), .inl ⟨HNG.out, rfl⟩⟩
        · obtain rfl : t = k := by omega
          go_wp2
          go_roundg (N - (t + 1))
          case measure => omega
          case rel =>
            refine ⟨t + 1, by omega, by go_num, Nat.le_refl _, fun j hj => ?_, Y1.out.trans (HBt.out.mono Y1.out.size)⟩
            rcases Nat.lt_or_eq_of_le (Nat.le_of_lt_succ hj) with h | rfl
            · exact HOK.out j h
            · rw [HP.out]
              exact ⟨HPK.out, HORD.out, HT.out⟩
    · obtain rfl : k = N := by omega
      have hszq : ∀ q ∈ quar, 0 ≤ q.size ∧ q.size ≤ 65536 := fun q hq => by
        have hm : q ∈ l := by rw [← HLL.out]; exact List.mem_append_right _ hq
        obtain ⟨j, hj, rfl⟩ := List.getElem_of_mem hm
        have := (HOK.out j (by rw [← HN.out]; exact hj)).1
        rw [getElem!_pos l j hj] at this
        exact ⟨this.2.1, this.2.2.1⟩
      have hBwr : Below w.heap.size w wr := HBW.out.trans (HBr.out.mono (by omega))
      have hbx3 := (HBr.out.block _ hlt0).trans HB0.out
      have h67 := fun d os => c67 (.slice B quar.length cb) quar (far wr d os) ((HQ.out.below hBwr).below (below_far wr d os)) hn2 hszq
      have z5 : ∀ d os, (far wr d os).cell? ⟨w.heap.size, 5, none⟩ = some (.slice B quar.length cb) := far_cell (blk_lt hbx3) (blk_cell hbx3 5)
      have z3 : ∀ d os, (far wr d os).cell? ⟨w.heap.size, 3, none⟩ = some (.int .i64 c.quarantine) := far_cell (blk_lt hbx3) (blk_cell hbx3 3)
      have hiff : (quar.map (·.size)).sum ≤ c.quarantine ↔ GoodP c gi live quar := ⟨fun h => okTo_good HCONF.out (by omega) (by omega) hn1 hn2 (by rw [HLL.out, HN.out]; exact HOK.out) h, fun g => g.held⟩
      have HIFF := Lib.hid hiff
      have H67 := Lib.hid h67
      have HBWR := Lib.hid hBwr
      have hmx : Try.prog.follows .mixedOrders = true := by kernel_rfl
      clear hszq hbx3 h67 hiff hBwr
      go_wp2
      refine wp_region_far hmx (by kernel_rfl) ?_
      repeat (go_big_quiet_step ((go_at_call 67; exact Calls.far_of (H67.out _ _))))
      refine wpQuiet_nil ?_
      intro _ hw'
      obtain ⟨⟨d', os'⟩, hw''⟩ := hw'
      subst hw''
      go_wp2
      go_ret
      refine ⟨HBWR.out.trans ((below_far wr d' os').mono HBWR.out.size), ?_⟩
      by_cases hle : (quar.map (·.size)).sum ≤ c.quarantine
      · exact .inr ⟨HIFF.out.1 hle, by rw [← decide_eq_true hle]; rfl⟩
      · exact .inl ⟨fun g => hle (HIFF.out.2 g), by rw [← decide_eq_false hle]; rfl⟩
end Go.Proofs.Ytbhbjcgbhklieaa
