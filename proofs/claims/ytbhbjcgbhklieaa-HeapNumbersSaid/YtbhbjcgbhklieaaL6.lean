/- HeapNumbers: the walk. -/
import Derived.Test.YtbhbjcgbhklieaaE12
import Derived.Test.YtbhbjcgbhklieaaF2
import Derived.Test.YtbhbjcgbhklieaaF4
import Derived.Test.YtbhbjcgbhklieaaG2
import Derived.Test.YtbhbjcgbhklieaaG3
import Derived.Test.YtbhbjcgbhklieaaR1
import Derived.Lib.AppendZeros
import Derived.Deep.RegionHeld3
import Derived.Deep.QuietTactic
import Derived.BigQuiet
namespace Go.Proofs.Ytbhbjcgbhklieaa
open Go.RowKit Go.Shelf

theorem step_append_run {P : Program} {ops : Array Oper} {o : Oper} {a : Act} {w : World} {K : Act → World → Prop} {Q : Exit → Act → World → Prop} {E : Prop} (hgd : o.guard = none) (s x : Operand) (t tn : TypeId)
    (ho : o.op = .call { callee := .builtin .append, args := #[s, x], argTypes := #[t, tn] }) (vs vx : Value) (hs : a.eval s = vs) (hx : a.eval x = vx)
    (v' : Value) (w' : World) (hr : (Builtin.append_ #[t, tn] o.type #[vs, vx]).run P w = .ok v' w') (h : K (a.put o.dst v') w') : if Region.wanted o (yielded ops a.tmps) = true then Oper.wp P o a w K Q else E := by
  have hw : Region.wanted o (yielded ops a.tmps) = true := by simp [Region.wanted, hgd]
  rw [if_pos hw]
  exact Lib.wp_append_run w s x t tn ho vs vx hs hx v' w' hr h

theorem sum_bd : ∀ (l : List Piece), (∀ p ∈ l, 0 ≤ p.size ∧ p.size ≤ 65536) → 0 ≤ (l.map (·.size)).sum ∧ (l.map (·.size)).sum ≤ 65536 * l.length
  | [], _ => by simp
  | p :: l, h => by
    have h1 := h p (List.mem_cons_self ..)
    have h2 := sum_bd l (fun q hq => h q (List.mem_cons_of_mem _ hq))
    simp only [List.map_cons, List.sum_cons, List.length_cons]
    omega
def exF (red : Int) (p : Piece) : Int := max p.size 1 + 2 * red
theorem exF_bd {red : Int} (r0 : 0 ≤ red) (r1 : red ≤ 64) : ∀ (l : List Piece), (∀ p ∈ l, 0 ≤ p.size ∧ p.size ≤ 65536) → 0 ≤ (l.map (exF red)).sum ∧ (l.map (exF red)).sum ≤ 65664 * l.length
  | [], _ => by simp
  | p :: l, h => by
    have h1 := h p (List.mem_cons_self ..)
    have h2 := exF_bd r0 r1 l (fun q hq => h q (List.mem_cons_of_mem _ hq))
    simp only [List.map_cons, List.sum_cons, List.length_cons, exF] at h2 ⊢
    omega
theorem map_take {α : Type} [Inhabited α] (f : α → Int) (l : List α) (k : Nat) (hk : k < l.length) : ((l.take (k + 1)).map f).sum = ((l.take k).map f).sum + f l[k]! := by
  rw [List.take_succ_eq_append_getElem hk, List.map_append, List.sum_append, getElem!_pos l k hk]
  simp
theorem spans_sum (c : Conf) (L : List Ext) : ((spans c L).map (·.2)).sum = gapB (gapsF c L) := by
  unfold spans gapB
  rw [List.map_map]
  rfl
theorem spans_pair {c : Conf} {gi : Int} {live quar : List Piece} {L : List Ext} (h : Op c gi live quar L) : (spans c L).Pairwise (fun g k => g.1 + g.2 < k.1) := by
  have := gaps_pair h.ch
  unfold spans gapsF
  rw [List.pairwise_map]
  exact this.imp fun {g k} hgk => by simp only; omega

set_option maxRecDepth 100000 in
set_option maxHeartbeats 4000000 in
theorem c6 (c : Conf) (lv qv : Value) (gi : Int) (live quar : List Piece) (size : Int) (w : World) (hin : HeapIn w c lv qv gi live quar) :
    Calls Try.prog 6 #[hAgg c lv qv gi, .int .i64 size] w fun e w' => e = .returned (.bool true) ∧ Below w.heap.size w w' := by
  have HL := Lib.hid hin.hl
  have HQ := Lib.hid hin.hq
  have HWL : Hid (∀ p ∈ live, WfP p) := fun p hp => (hin.wl p hp).1
  have HWQ : Hid (∀ p ∈ quar, WfP p) := fun p hp => (hin.wq p hp).1
  have HSL := Lib.hid hin.sl
  have HSQ := Lib.hid hin.sq
  obtain ⟨A, ca, rfl, _, _⟩ := id hin.hl
  obtain ⟨B, cb, rfl, _, _⟩ := id hin.hq
  clear hin
  go_enter Try.func6, Try.ntmps6
  go_wp2_with fail
  refine Calls.mono (c16 _) ?_
  rintro e w1 ⟨rfl, hB1⟩
  have hb0 : w1.heap[w.heap.size]? = some (.cells #[.int .i64 c.page, .int .i64 c.n, .int .i64 c.red, .int .i64 c.quarantine, .slice A live.length ca, .slice B quar.length cb, .int .i64 gi] 26 (0, 0)) := (hB1.block _ (by simp; try omega)).trans (hal_new rfl)
  have hBw : Below w.heap.size w w1 := ((Below.refl _ _).alloc (Nat.le_refl _) _).trans (hB1.mono (by simp; try omega))
  have q0 := blk_cell hb0 0
  have q1 := blk_cell hb0 1
  have q2 := blk_cell hb0 2
  have q3 := blk_cell hb0 3
  have q4 := blk_cell hb0 4
  have q5 := blk_cell hb0 5
  have q6 := blk_cell hb0 6
  simp only [List.getElem?_toArray, List.getElem?_cons_succ, List.getElem?_cons_zero] at q0 q1 q2 q3 q4 q5 q6
  have HB0 := Lib.hid hb0
  have HBW := Lib.hid hBw
  have hlt0 : w.heap.size < w1.heap.size := blk_lt hb0
  clear hB1 hBw hb0
  go_wp2_with fail
  refine Calls.mono (c17 w1.heap.size c A B live.length ca quar.length cb gi _ (hal_new rfl)) ?_
  rintro e w2 ⟨rfl, hB2⟩
  have hb02 : w2.heap[w.heap.size]? = some (.cells #[.int .i64 c.page, .int .i64 c.n, .int .i64 c.red, .int .i64 c.quarantine, .slice A live.length ca, .slice B quar.length cb, .int .i64 gi] 26 (0, 0)) := (hB2.block _ (by simp; omega)).trans (hal_old HB0.out)
  have hBw2 : Below w.heap.size w w2 := (HBW.out.alloc (by omega) _).trans (hB2.mono (by simp; omega))
  have hB12 : Below w1.heap.size w1 w2 := (below_alloc1 w1 _).trans (hB2.mono (by simp))
  clear q0 q1 q2 q3 q4 q5 q6
  have q0 := blk_cell hb02 0
  have q1 := blk_cell hb02 1
  have q2 := blk_cell hb02 2
  have q3 := blk_cell hb02 3
  have q4 := blk_cell hb02 4
  have q5 := blk_cell hb02 5
  have q6 := blk_cell hb02 6
  simp only [List.getElem?_toArray, List.getElem?_cons_succ, List.getElem?_cons_zero] at q0 q1 q2 q3 q4 q5 q6
  have HB02 := Lib.hid hb02
  have HBW2 := Lib.hid hBw2
  have HB12 := Lib.hid hB12
  clear hB2 hb02 hBw2 hB12
  cases hmf : manyF live.length quar.length with
  | true =>
    go_wp2
    go_ret
    exact ⟨rfl, HBW2.out⟩
  | false =>
    have h18 := c18 c _ _ gi live quar w2 (HL.out.below HBW2.out) (HQ.out.below HBW2.out) HWL.out HWQ.out
    have H18 := Lib.hid h18
    have HMF := Lib.hid hmf
    clear h18
    go_wp2_with fail
    refine Calls.mono H18.out ?_
    clear H18 hmf
    rintro e w3 ⟨hB3, ⟨hng, rfl⟩ | ⟨hg, rfl⟩⟩
    · have HBW3 : Hid (Below w.heap.size w w3) := HBW2.out.trans (hB3.mono HBW2.out.size)
      clear hB3 hng
      go_wp2
      go_ret
      exact ⟨rfl, HBW3.out⟩
    have HG := Lib.hid hg
    have hb03 : w3.heap[w.heap.size]? = some (.cells #[.int .i64 c.page, .int .i64 c.n, .int .i64 c.red, .int .i64 c.quarantine, .slice A live.length ca, .slice B quar.length cb, .int .i64 gi] 26 (0, 0)) := (hB3.block _ (blk_lt HB02.out)).trans HB02.out
    have HBW3 : Hid (Below w.heap.size w w3) := HBW2.out.trans (hB3.mono HBW2.out.size)
    have HB13 : Hid (Below w1.heap.size w1 w3) := HB12.out.trans (hB3.mono HB12.out.size)
    have hlt3 : w1.heap.size ≤ w3.heap.size := HB13.out.size
    have HGD : Hid (Good c gi live quar) := (good_iff HWL.out HWQ.out).2 hg
    have hgi0 := hg.gi0
    have hgi1 := hg.gi1
    have hn1 := hg.n1
    have hn2 := hg.n2
    clear q0 q1 q2 q3 q4 q5 q6
    have q0 := blk_cell hb03 0
    have q1 := blk_cell hb03 1
    have q2 := blk_cell hb03 2
    have q3 := blk_cell hb03 3
    have q4 := blk_cell hb03 4
    have q5 := blk_cell hb03 5
    have q6 := blk_cell hb03 6
    simp only [List.getElem?_toArray, List.getElem?_cons_succ, List.getElem?_cons_zero] at q0 q1 q2 q3 q4 q5 q6
    have HB03 := Lib.hid hb03
    clear hB3 hg hb03 HBW2 HB02 HB12 HBW HB0
    have hbc := HG.out.conf
    simp only [okConf, decide_eq_true_eq] at hbc
    obtain ⟨e1, e2, e3, e4, e5, e6, e7, e8, e9⟩ := hbc
    have hst := callsIn_wide.1 (c29 c _ _ gi live quar w3 (HL.out.below HBW3.out) (HQ.out.below HBW3.out) HWL.out HWQ.out)
    have HST := Lib.hid hst
    clear hst
    go_wp2_with fail
    refine Calls.mono HST.out ?_
    clear HST
    rintro e w4 ⟨hB4, ⟨hng, rfl⟩ | ⟨L, hop, rfl⟩⟩
    · exact absurd HGD.out hng
    have hws := whole_sum hop HWL.out HWQ.out
    have hsz : ∀ p ∈ live ++ quar, 0 ≤ p.size ∧ p.size ≤ 65536 := fun p hp => ⟨(HG.out.each p hp).2.1, (HG.out.each p hp).2.2.1⟩
    have hxb := exF_bd e6 e7 (live ++ quar) hsz
    have hsbe := bW_items HG.out
    have hsbb := sum_bd live (fun p hp => hsz p (List.mem_append_left _ hp))
    rw [← hsbe] at hsbb
    unfold statV
    obtain ⟨sb, hsb⟩ : ∃ z, bW (items c.red live quar) = z := ⟨_, rfl⟩
    obtain ⟨qb, hqb⟩ : ∃ z, qW (items c.red live quar) = z := ⟨_, rfl⟩
    obtain ⟨gb, hgb⟩ : ∃ z, gapB (gapsF c L) = z := ⟨_, rfl⟩
    obtain ⟨lg, hlg⟩ : ∃ z, lgF c.red (gapsF c L) (-1) = z := ⟨_, rfl⟩
    obtain ⟨gn, hgn⟩ : ∃ n, (gapsF c L).length = n := ⟨_, rfl⟩
    rw [hsb, hqb, hgb, hlg, hgn]
    rw [hsb] at hsbb
    rw [hgb] at hws
    have hlq : (live ++ quar).length = live.length + quar.length := List.length_append ..
    have hxb' : ((live ++ quar).map fun p => max p.size 1 + 2 * c.red).sum = ((live ++ quar).map (exF c.red)).sum := rfl
    rw [hxb'] at hws
    have hgb0 : -140000000 ≤ gb := by omega
    have hgb1 : gb ≤ 512000 := by omega
    have hsb0 := hsbb.1
    have hsb1 : sb ≤ 65536000 := by omega
    have HOP := Lib.hid hop
    have HSZ := Lib.hid hsz
    have HWS := Lib.hid hws
    have HSB := Lib.hid hsb
    have HGB := Lib.hid hgb
    have HLG := Lib.hid hlg
    have HGN := Lib.hid hgn
    have HBW4 : Hid (Below w.heap.size w w4) := HBW3.out.trans (hB4.mono HBW3.out.size)
    have HB04 := Lib.hid ((hB4.block _ (blk_lt HB03.out)).trans HB03.out)
    have hlt4 : w.heap.size < w4.heap.size := blk_lt HB04.out
    clear hws hsz hxb hsbe hsbb hsb hqb hgb hlg hgn hlq hxb' hop hB4
    clear q0 q1 q2 q3 q4 q5 q6
    have q0 := blk_cell HB04.out 0
    have q1 := blk_cell HB04.out 1
    have q2 := blk_cell HB04.out 2
    have q3 := blk_cell HB04.out 3
    have q4 := blk_cell HB04.out 4
    have q5 := blk_cell HB04.out 5
    have q6 := blk_cell HB04.out 6
    simp only [List.getElem?_toArray, List.getElem?_cons_succ, List.getElem?_cons_zero] at q0 q1 q2 q3 q4 q5 q6
    go_wp2
    refine gen_worldP (fun W => Below w4.heap.size w4 W ∧ W.heap[w4.heap.size]? = some (.cells #[.int .i64 live.length, .int .i64 sb, .int .i64 quar.length, .int .i64 qb, .int .i64 gn, .int .i64 gb, .int .i64 lg] 59 (0, 0))) ⟨(Below.refl _ _).alloc (Nat.le_refl _) _, hal_new rfl⟩ ?_
    rintro W5 ⟨hW5, hbx5⟩
    have hb05 := (hW5.block _ (blk_lt HB04.out)).trans HB04.out
    have HW5 := Lib.hid hW5
    have HB5 := Lib.hid hbx5
    have HB05 := Lib.hid hb05
    have HBW5 : Hid (Below w.heap.size w W5) := HBW4.out.trans (hW5.mono HBW4.out.size)
    have hlt5 : w4.heap.size < W5.heap.size := blk_lt hbx5
    clear hW5 hbx5
    clear q0 q1 q2 q3 q4 q5 q6
    have hmx : Try.prog.follows .mixedOrders = true := by kernel_rfl
    refine wp_region_held_drew (S := fun w' => w'.heap[w.heap.size]? = some (.cells #[.int .i64 c.page, .int .i64 c.n, .int .i64 c.red, .int .i64 c.quarantine, .slice A live.length ca, .slice B quar.length cb, .int .i64 gi] 26 (0, 0))) hmx hb05 ?_
    intro hS0
    clear hb05
    refine wpAnyH_take (i := 0) (v := .pointer (some ⟨w.heap.size, 4, none⟩)) rfl (by kernel_rfl) (by kernel_rfl) (by kernel_rfl) (fun _ _ _ h => h) (Or.inl ⟨by rfl, ?hy⟩) hS0 ?_
    case hy => intro w9 hSw; have s4 := blk_cell hSw 4; have s5 := blk_cell hSw 5; simp only [List.getElem?_toArray, List.getElem?_cons_succ, List.getElem?_cons_zero] at s4 s5; go_simp
    go_simp
    refine wpAnyH_take (i := 1) (v := .slice A live.length ca) rfl (by kernel_rfl) (by kernel_rfl) (by kernel_rfl) (fun _ _ _ h => h) (Or.inl ⟨by rfl, ?hy⟩) hS0 ?_
    case hy => intro w9 hSw; have s4 := blk_cell hSw 4; have s5 := blk_cell hSw 5; simp only [List.getElem?_toArray, List.getElem?_cons_succ, List.getElem?_cons_zero] at s4 s5; go_simp
    go_simp
    refine wpAnyH_take (i := 3) (v := .pointer (some ⟨w.heap.size, 5, none⟩)) rfl (by kernel_rfl) (by kernel_rfl) (by kernel_rfl) (fun _ _ _ h => h) (Or.inl ⟨by rfl, ?hy⟩) hS0 ?_
    case hy => intro w9 hSw; have s4 := blk_cell hSw 4; have s5 := blk_cell hSw 5; simp only [List.getElem?_toArray, List.getElem?_cons_succ, List.getElem?_cons_zero] at s4 s5; go_simp
    go_simp
    refine wpAnyH_take (i := 4) (v := .slice B quar.length cb) rfl (by kernel_rfl) (by kernel_rfl) (by kernel_rfl) (fun _ _ _ h => h) (Or.inl ⟨by rfl, ?hy⟩) hS0 ?_
    case hy => intro w9 hSw; have s4 := blk_cell hSw 4; have s5 := blk_cell hSw 5; simp only [List.getElem?_toArray, List.getElem?_cons_succ, List.getElem?_cons_zero] at s4 s5; go_simp
    go_simp
    refine wpAnyH_take (i := 7) (v := .int .i64 0) rfl (by kernel_rfl) (by kernel_rfl) (by kernel_rfl) (fun _ _ _ h => h) (Or.inl ⟨by rfl, ?hy⟩) hS0 ?_
    case hy => intro w9 hSw; have s4 := blk_cell hSw 4; have s5 := blk_cell hSw 5; simp only [List.getElem?_toArray, List.getElem?_cons_succ, List.getElem?_cons_zero] at s4 s5; go_simp
    go_simp
    refine wpAnyH_ready (rs := [2]) (by kernel_rfl) (by simp) ?_
    refine AllReadyH.cons rfl (fun K hK => ?_) AllReadyH.nil
    go_simp
    refine Calls.mono (c21 _ live _ (HL.out.below HBW5.out.drew) HSL.out (by omega)) ?_
    rintro e w6 ⟨hB6, A3, k3, rfl, ho6⟩
    have hb06 := (hB6.block _ (show w.heap.size < W5.heap.size by omega)).trans HB05.out
    have hbx6 := (hB6.block _ (show w4.heap.size < W5.heap.size by omega)).trans HB5.out
    have HBW6 : Hid (Below w.heap.size w w6) := HBW5.out.drew.trans (hB6.mono HBW5.out.size)
    refine hK.out _ _ hb06 (fun hS1 => ?_)
    clear hK K hS0
    have hs56 : W5.heap.size ≤ w6.heap.size := hB6.size
    obtain ⟨v7, w7, hrun, ho7, hg7⟩ := append_sl W5.heap.size _ live quar _ w6 (own_base ho6 (Nat.le_refl _)) (HQ.out.below HBW6.out) hn1 hn2 hs56
    have hw67 : Below W5.heap.size w6 w7 := below_of_grown hg7 hs56 (fun j e => (own_lt ho6 j e).1)
    have hb07 := (hw67.block _ (show w.heap.size < W5.heap.size by omega)).trans hb06
    have hbx7 := (hw67.block _ (show w4.heap.size < W5.heap.size by omega)).trans hbx6
    have HBW7 : Hid (Below w.heap.size w w7) := HBW6.out.trans (hw67.mono (Nat.le_of_lt (Nat.lt_trans hlt4 hlt5)))
    refine wpAnyH_ready (rs := [5]) (by kernel_rfl) (by simp) ?_
    refine AllReadyH.cons rfl (fun K hK => ?_) AllReadyH.nil
    refine step_append_run rfl _ _ _ _ rfl _ _ rfl rfl v7 w7 hrun ?_
    refine hK.out _ _ hb07 (fun hS2 => ?_)
    clear hK K hS1
    have hF7 := Fresh.of_own ho7 rfl
    obtain ⟨A4, k4, rfl, _, hl4⟩ := id hF7.sl
    obtain ⟨l, hll⟩ : ∃ l, live ++ quar = l := ⟨_, rfl⟩
    rw [hll] at hl4 hF7 ⊢
    go_simp
    refine wpAnyH_take (i := 6) (v := .int .i64 l.length) rfl (by kernel_rfl) (by kernel_rfl) (by kernel_rfl) (fun _ _ _ h => h) (Or.inl ⟨by rfl, ?hy⟩) hS2 ?_
    case hy => intro w9 hSw; have s4 := blk_cell hSw 4; have s5 := blk_cell hSw 5; simp only [List.getElem?_toArray, List.getElem?_cons_succ, List.getElem?_cons_zero] at s4 s5; go_simp
    go_simp
    refine wpAnyH_done (by kernel_rfl) ?_ _
    have HLL := Lib.hid hll
    have HL4 := Lib.hid hl4
    have HB07 := Lib.hid hb07
    have HB7x := Lib.hid hbx7
    have hlt7 : w4.heap.size < w7.heap.size := blk_lt hbx7
    obtain ⟨N, hN⟩ : ∃ N, l.length = N := ⟨_, rfl⟩
    have hN2 : N ≤ 2000 := by rw [← hN, ← hll, List.length_append]; omega
    rw [hN]
    have HN := Lib.hid hN
    clear hS2 hB6 hb06 hbx6 hw67 hb07 hbx7 hF7 hl4 hll ho6 ho7 hg7 hrun hN hs56
    go_wp2
    go_loopg [6, 39] N (fun kx s6 s39 wr => ∃ (k : Nat) (z : Int), k ≤ N ∧ s39 = .int .i64 k ∧ s6 = .int .i64 z ∧ gb ≤ z ∧ z ≤ gb + 65664 * k ∧ N - k ≤ kx ∧ Hid (z = gb + ((l.take k).map (exF c.red)).sum) ∧ Hid (Below w7.heap.size w7 wr))
    case atStart => exact ⟨0, gb, Nat.zero_le _, rfl, rfl, by omega, by omega, by omega, (by simp : gb = gb + ((l.take 0).map (exF c.red)).sum), Below.refl _ _⟩
    case round =>
      obtain ⟨k, z, hk, rfl, rfl, z0, z1, hkx, HZ, HBr⟩ := hrel
      have hsr := HBr.out.size
      by_cases hlt : k < N
      · have hkl : k < l.length := by rw [HN.out]; exact hlt
        obtain ⟨bb, off, rfl, hL⟩ := HL4.out.resolve_left (by rintro rfl; simp at hkl)
        obtain ⟨m0, m1, m2⟩ := (hL.below HBr.out).at3 k hkl
        have hbb : bb < wr.heap.size := Nat.lt_of_lt_of_le hL.1 hsr
        have hq2 := blk_cell ((HBr.out.block _ (blk_lt HB07.out)).trans HB07.out) 2
        simp only [List.getElem?_toArray, List.getElem?_cons_succ, List.getElem?_cons_zero] at hq2
        have hqlt : w.heap.size < wr.heap.size := by omega
        have hmt := map_take (exF c.red) l k hkl
        have hps := HSZ.out l[k]! (by rw [HLL.out, getElem!_pos l k hkl]; exact List.getElem_mem hkl)
        have hex : exF c.red l[k]! = max l[k]!.size 1 + 2 * c.red := rfl
        rw [hex] at hmt
        generalize l[k]! = p at m0 m1 m2 hmt hps
        obtain ⟨p0, p1⟩ := hps
        have HMT := Lib.hid hmt
        obtain ⟨mx, hmx1⟩ : ∃ m, max p.size 1 = m := ⟨_, rfl⟩
        have mx0 : 0 ≤ mx := by omega
        have mx1 : mx ≤ 65536 := by omega
        have HMX := Lib.hid hmx1
        clear hmt hex hL hkl
        go_wp2
        go_roundg (N - (k + 1))
        case measure => omega
        case rel => exact ⟨k + 1, z + (mx + 2 * c.red), by omega, by go_num, by first | rfl | (rw [← HMX.out]; rfl), by omega, by omega, Nat.le_refl _, (by rw [HMT.out, HZ.out, HMX.out]; omega : z + (mx + 2 * c.red) = gb + ((l.take (k + 1)).map (exF c.red)).sum), HBr.out.alloc hsr _⟩
      · obtain rfl : k = N := by omega
        have hz : z = c.n * 256 := by
          have h1 := HZ.out
          rw [← HN.out, List.take_length, ← HLL.out] at h1
          have h2 := HWS.out
          omega
        subst hz
        have HBW8 : Hid (Below w.heap.size w wr) := HBW7.out.trans (HBr.out.mono HBW7.out.size)
        have hb08 := (HBr.out.block _ (blk_lt HB07.out)).trans HB07.out
        have hbx8 := (HBr.out.block _ (blk_lt HB7x.out)).trans HB7x.out
        have q0 := blk_cell hb08 0
        have q1 := blk_cell hb08 1
        have q2 := blk_cell hb08 2
        have q3 := blk_cell hb08 3
        have q4 := blk_cell hb08 4
        have q5 := blk_cell hb08 5
        have q6 := blk_cell hb08 6
        simp only [List.getElem?_toArray, List.getElem?_cons_succ, List.getElem?_cons_zero] at q0 q1 q2 q3 q4 q5 q6
        have HB08 := Lib.hid hb08
        have HB8x := Lib.hid hbx8
        have hgs := c27v c _ _ gi live quar wr (HL.out.below HBW8.out) (HQ.out.below HBW8.out) HWL.out HWQ.out
        have HGS := Lib.hid hgs
        clear hb08 hbx8 hgs z0 z1 hkx hlt
        go_wp2_with fail
        refine Calls.mono HGS.out ?_
        clear HGS
        rintro e w9 ⟨hB9, ⟨hng, rfl⟩ | ⟨L2, v9, hop2, rfl, hsp⟩⟩
        · exact absurd HGD.out hng
        obtain rfl := HOP.out.uniq hop2
        have HBW9 : Hid (Below w.heap.size w w9) := HBW8.out.trans (hB9.mono HBW8.out.size)
        have HB09 := Lib.hid ((hB9.block _ (blk_lt HB08.out)).trans HB08.out)
        have HB9x := Lib.hid ((hB9.block _ (blk_lt HB8x.out)).trans HB8x.out)
        have hgp := hop2.gaps
        have hwf : ∀ s ∈ spans c L2, 0 ≤ s.1 ∧ s.1 < 4294967296 ∧ 1 ≤ s.2 ∧ s.2 ≤ 4294967296 ∧ s.1 + s.2 ≤ 4294967296 := fun s hs => by
          obtain ⟨g, hg, rfl⟩ := List.mem_map.1 hs
          obtain ⟨b1, b2, b3, _⟩ := hgp.1 g hg
          simp only
          omega
        have hpr := List.pairwise_iff_getElem.1 (spans_pair hop2)
        have hlen : (spans c L2).length = gn := by rw [← HGN.out]; simp [spans]
        have hlen2 : gn ≤ 2001 := by rw [← HGN.out]; exact hgp.2
        have hss := spans_sum c L2
        rw [HGB.out] at hss
        obtain ⟨S, hS⟩ : ∃ S, spans c L2 = S := ⟨_, rfl⟩
        rw [hS] at hwf hlen hsp hss hpr
        obtain ⟨GA, gc, rfl, _, hgl⟩ := hsp
        rw [hlen]
        have HGL := Lib.hid hgl
        have HLN := Lib.hid hlen
        have HWF := Lib.hid hwf
        have HSS := Lib.hid hss
        have HPR := Lib.hid hpr
        have hlt9 : w4.heap.size < w9.heap.size := blk_lt HB9x.out
        have hlt9' : w.heap.size < w9.heap.size := blk_lt HB09.out
        clear hgp hwf hS hgl hlen hss hpr hB9 hop2
        clear q0 q1 q2 q3 q4 q5 q6
        go_wp2
        obtain ⟨wz, rfl⟩ : ∃ wz : World, wz = wr := ⟨_, rfl⟩
        go_loopg [7, 58] gn (fun kx s7 s58 wr => ∃ (k : Nat) (z : Int), k ≤ gn ∧ s58 = .int .i64 k ∧ s7 = .int .i64 z ∧ 0 ≤ z ∧ z ≤ 4294967296 * k ∧ gn - k ≤ kx ∧ Hid (z = ((S.take k).map (·.2)).sum) ∧ Hid (Below w9.heap.size w9 wr))
        case atStart => exact ⟨0, 0, Nat.zero_le _, rfl, rfl, by omega, by omega, by omega, (by simp : (0 : Int) = ((S.take 0).map (·.2)).sum), Below.refl _ _⟩
        case round =>
          obtain ⟨k, z, hk, rfl, rfl, z0, z1, hkx, HZ2, HBr2⟩ := hrel
          have hsr2 := HBr2.out.size
          by_cases hlt : k < gn
          · have hkl : k < S.length := by rw [HLN.out]; exact hlt
            obtain ⟨b2, o2, rfl, hL⟩ := HGL.out.resolve_left (by rintro rfl; simp at hkl)
            have m0 := (hL.below HBr2.out).2 k hkl 0 _ rfl
            have m1 := (hL.below HBr2.out).2 k hkl 1 _ rfl
            have hbb : b2 < wr.heap.size := Nat.lt_of_lt_of_le hL.1 hsr2
            obtain ⟨s0, s1, s2, s3, s4⟩ := HWF.out S[k]! (by rw [getElem!_pos S k hkl]; exact List.getElem_mem hkl)
            have hmt := map_take (fun g : Int × Int => g.2) S k hkl
            have hprev : ∀ kk, k = kk + 1 → S[kk]!.1 + S[kk]!.2 < S[k]!.1 ∧ 0 ≤ S[kk]!.1 ∧ S[kk]!.1 < 4294967296 ∧ 1 ≤ S[kk]!.2 ∧ S[kk]!.2 ≤ 4294967296 := fun kk e => by
              have h := HPR.out kk k (by omega) hkl (by omega)
              have h2 := HWF.out S[kk]! (by rw [getElem!_pos S kk (by omega)]; exact List.getElem_mem _)
              rw [getElem!_pos S kk (by omega), getElem!_pos S k hkl] at *
              exact ⟨h, h2.1, h2.2.1, h2.2.2.1, h2.2.2.2.1⟩
            have HL2 := Lib.hid hL
            generalize hx : S[k]!.1 = x at m0 s0 s1 s4 hprev
            generalize hy : S[k]!.2 = y at m1 s2 s3 s4 hmt
            have HMT := Lib.hid hmt
            have HPV := Lib.hid hprev
            clear hmt hprev hL hx hy
            simp only [Nat.add_zero] at m0
            go_wp2
            refine gen_worldP (fun W => Below w9.heap.size w9 W ∧ W.heap[wr.heap.size]? = some (.cells #[.int .u32 x, .int .i64 y] 53 (0, 0))) ⟨HBr2.out.alloc hsr2 _, hal_new rfl⟩ ?_
            rintro W ⟨hW, hpb⟩
            have p0 := blk_cell hpb 0
            have p1 := blk_cell hpb 1
            simp only [List.getElem?_toArray, List.getElem?_cons_succ, List.getElem?_cons_zero] at p0 p1
            have HW := Lib.hid hW
            have d0 : decide (y < 1) = false := decide_eq_false (by omega)
            clear hpb m0 m1
            rcases k with _ | kk
            · have d1 : decide ((0 : Int) < 0) = false := rfl
              clear hW
              go_quiet (fail)
              go_wp2
              go_roundg (gn - 1)
              case measure => omega
              case rel => exact ⟨1, z + y, by omega, by go_num, rfl, by omega, by omega, by omega, (by rw [HMT.out, HZ2.out] : z + y = ((S.take 1).map (·.2)).sum), HW.out.trans ⟨rfl, rfl, rfl, Nat.le_refl _, fun _ _ => rfl⟩⟩
            · obtain ⟨v1, v2, v3, v4, v5⟩ := HPV.out kk rfl
              have y0 := (HL2.out.below hW).2 kk (by omega) 0 _ rfl
              have y1 := (HL2.out.below hW).2 kk (by omega) 1 _ rfl
              generalize S[kk]!.1 = px at v1 v2 v3 y0
              generalize S[kk]!.2 = py at v1 v4 v5 y1
              simp only [Nat.add_zero] at y0
              have d1 : decide ((0 : Int) < (kk : Int) + 1) = true := decide_eq_true (by omega)
              have d2 : decide (x ≤ px + py) = false := decide_eq_false (by omega)
              have i1 : (0 : Int) ≤ (kk : Int) + 1 - 1 := by omega
              have i2 : (kk : Int) + 1 - 1 = kk := by omega
              have i3 : (kk : Int) < (gn : Int) := by omega
              clear hW
              go_quiet (fail)
              go_wp2
              go_roundg (gn - (kk + 1 + 1))
              case measure => omega
              case rel => exact ⟨kk + 1 + 1, z + y, by omega, by go_num, rfl, by omega, by omega, by omega, (by rw [HMT.out, HZ2.out] : z + y = ((S.take (kk + 1 + 1)).map (·.2)).sum), HW.out.trans ⟨rfl, rfl, rfl, Nat.le_refl _, fun _ _ => rfl⟩⟩
          · obtain rfl : k = gn := by omega
            have hz : z = gb := by
              rw [HZ2.out, ← HLN.out, List.take_length]
              exact HSS.out
            subst hz
            have HBW10 : Hid (Below w.heap.size w wr) := HBW9.out.trans (HBr2.out.mono HBW9.out.size)
            have hb10 := (HBr2.out.block _ (blk_lt HB09.out)).trans HB09.out
            have hbx10 := (HBr2.out.block _ (blk_lt HB9x.out)).trans HB9x.out
            have q0 := blk_cell hb10 0
            have q1 := blk_cell hb10 1
            have q2 := blk_cell hb10 2
            have q3 := blk_cell hb10 3
            have q4 := blk_cell hb10 4
            have q5 := blk_cell hb10 5
            have q6 := blk_cell hb10 6
            simp only [List.getElem?_toArray, List.getElem?_cons_succ, List.getElem?_cons_zero] at q0 q1 q2 q3 q4 q5 q6
            have r0 := blk_cell hbx10 0
            have r1 := blk_cell hbx10 1
            have r2 := blk_cell hbx10 2
            have r3 := blk_cell hbx10 3
            have r4 := blk_cell hbx10 4
            have r5 := blk_cell hbx10 5
            have r6 := blk_cell hbx10 6
            simp only [List.getElem?_toArray, List.getElem?_cons_succ, List.getElem?_cons_zero] at r0 r1 r2 r3 r4 r5 r6
            have HB10 := Lib.hid hb10
            have HB10x := Lib.hid hbx10
            have hca := c23 c _ _ gi live quar size wr (HL.out.below HBW10.out) (HQ.out.below HBW10.out) HWL.out HWQ.out HSL.out HSQ.out
            have HCA := Lib.hid hca
            clear hb10 hbx10 hca z0 z1 hkx hlt
            go_wp2_with fail
            refine Calls.mono HCA.out ?_
            clear HCA
            rintro e w11 ⟨hB11, hans⟩
            have HBW11 : Hid (Below w.heap.size w w11) := HBW10.out.trans (hB11.mono HBW10.out.size)
            have HB11 := Lib.hid ((hB11.block _ (blk_lt HB10.out)).trans HB10.out)
            have HB11x := Lib.hid ((hB11.block _ (blk_lt HB10x.out)).trans HB10x.out)
            clear q0 q1 q2 q3 q4 q5 q6
            clear r0 r1 r2 r3 r4 r5 r6
            clear hB11
            rcases hans with ⟨hng, rfl⟩ | ⟨_, hbz, rfl⟩ | ⟨L3, hop3, _, _, hno, rfl⟩ | ⟨L3, v, hop3, y0, y1, hv, hn, hg, lv', qv', rfl, hl', hq'⟩
            · exact absurd HGD.out hng
            · clear hbz
              go_wp2
              go_ret
              exact ⟨rfl, HBW11.out.alloc HBW11.out.size _⟩
            · clear hno hop3
              go_wp2
              go_ret
              exact ⟨rfl, HBW11.out.alloc HBW11.out.size _⟩
            obtain rfl := HOP.out.uniq hop3
            have hg2 := alloc_good hop3 HWL.out HWQ.out y0 y1 hv hn hg
            have hvr := room_range hop3 hv
            have hwl2 : ∀ p ∈ insF live (atI live v) ⟨v, size, gi + 1⟩, WfP p := fun p hp => by
              rcases List.mem_cons.1 ((insF_perm live (atI live v) _).mem_iff.1 hp) with rfl | hp
              · exact ⟨by simp only; omega, by simp only; omega⟩
              · exact HWL.out p hp
            have hln := insF_length live (atI live v) ⟨v, size, gi + 1⟩ (atI_le live v)
            have hnum : ∀ L', Op c (gi + 1) (insF live (atI live v) ⟨v, size, gi + 1⟩) quar L' → _ := fun L' h' => numbers hop3 HWL.out HWQ.out (atI_le live v) ⟨by omega, by omega⟩ h'
            rw [HSB.out, HGB.out, HLG.out] at hnum
            obtain ⟨live', e1'⟩ : ∃ l, insF live (atI live v) ⟨v, size, gi + 1⟩ = l := ⟨_, rfl⟩
            rw [e1'] at hg2 hwl2 hln hl' hnum
            obtain ⟨A5, k5, rfl, _, _⟩ := id hl'.sl
            obtain ⟨A6, k6, rfl, _, _⟩ := id hq'.sl
            have HFL := Lib.hid hl'
            have HFQ := Lib.hid hq'
            have HG2 : Hid (Good c (gi + 1) live' quar) := (good_iff hwl2 HWQ.out).2 hg2
            have HWL2 := Lib.hid hwl2
            have HNUM := Lib.hid hnum
            have HLN2 := Lib.hid hln
            rw [hln]
            clear hg2 hwl2 hln hl' hq' hnum hv hn hg hop3 e1' hvr
            go_wp2_with fail
            refine gen_worldC (fun W => Below w11.heap.size w11 W ∧ W.heap[w11.heap.size]? = some (.cells #[.int .i64 c.page, .int .i64 c.n, .int .i64 c.red, .int .i64 c.quarantine, .slice A5 (live.length + 1) k5, .slice A6 quar.length k6, .int .i64 (gi + 1)] 26 (0, 0))) ⟨(Below.refl _ _).alloc (Nat.le_refl _) _, hal_new rfl⟩ ?_
            rintro W12 ⟨hW12, hb12⟩
            have hst2 := callsIn_wide.1 (c29 c (.slice A5 live'.length k5) (.slice A6 quar.length k6) (gi + 1) live' quar W12 (HFL.out.sl.below hW12) (HFQ.out.sl.below hW12) HWL2.out HWQ.out)
            rw [HLN2.out] at hst2
            refine Calls.mono hst2 ?_
            clear hst2
            rintro e w13 ⟨hB13, ⟨hng, rfl⟩ | ⟨L4, hop4, rfl⟩⟩
            · exact absurd HG2.out hng
            obtain ⟨n1', n2', n3'⟩ := HNUM.out L4 hop4
            unfold statV
            rw [n1', n2', HLN2.out]
            obtain ⟨qb2, hqb2⟩ : ∃ z, qW (items c.red live' quar) = z := ⟨_, rfl⟩
            obtain ⟨gn2, hgn2⟩ : ∃ z, (gapsF c L4).length = z := ⟨_, rfl⟩
            obtain ⟨lg2, hlg2⟩ : ∃ z, lgF c.red (gapsF c L4) (-1) = z := ⟨_, rfl⟩
            rw [hqb2, hgn2, hlg2]
            rw [hlg2] at n3'
            have hB11' : Below w11.heap.size w11 w13 := hW12.trans (hB13.mono hW12.size)
            have hb13' := (hB11'.block _ (blk_lt HB11.out)).trans HB11.out
            have hb13x := (hB11'.block _ (blk_lt HB11x.out)).trans HB11x.out
            have hb13y := (hB13.block _ (blk_lt hb12)).trans hb12
            have HBW13 : Hid (Below w.heap.size w w13) := HBW11.out.trans (hB11'.mono HBW11.out.size)
            have hl1 : w.heap.size < w13.heap.size := blk_lt hb13'
            have hl2 : w4.heap.size < w13.heap.size := blk_lt hb13x
            have hl3 : w11.heap.size < w13.heap.size := blk_lt hb13y
            have q0 := blk_cell hb13' 0
            have q1 := blk_cell hb13' 1
            have q2 := blk_cell hb13' 2
            have q3 := blk_cell hb13' 3
            have q4 := blk_cell hb13' 4
            have q5 := blk_cell hb13' 5
            have q6 := blk_cell hb13' 6
            simp only [List.getElem?_toArray, List.getElem?_cons_succ, List.getElem?_cons_zero] at q0 q1 q2 q3 q4 q5 q6
            have r0 := blk_cell hb13x 0
            have r1 := blk_cell hb13x 1
            have r2 := blk_cell hb13x 2
            have r3 := blk_cell hb13x 3
            have r4 := blk_cell hb13x 4
            have r5 := blk_cell hb13x 5
            have r6 := blk_cell hb13x 6
            simp only [List.getElem?_toArray, List.getElem?_cons_succ, List.getElem?_cons_zero] at r0 r1 r2 r3 r4 r5 r6
            have t0 := blk_cell hb13y 0
            have t1 := blk_cell hb13y 1
            have t2 := blk_cell hb13y 2
            have t3 := blk_cell hb13y 3
            have t4 := blk_cell hb13y 4
            have t5 := blk_cell hb13y 5
            have t6 := blk_cell hb13y 6
            simp only [List.getElem?_toArray, List.getElem?_cons_succ, List.getElem?_cons_zero] at t0 t1 t2 t3 t4 t5 t6
            clear hB13 hW12 hb12 hB11' hb13' hb13x hb13y n1' n2' hqb2 hgn2 hlg2 hop4
            go_wp2
            go_ret
            exact ⟨rfl, HBW13.out.alloc HBW13.out.size _⟩
end Go.Proofs.Ytbhbjcgbhklieaa
