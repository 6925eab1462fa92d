/- HeapQuarantine: the walk. -/
import Derived.Test.YtbhbjcgbhklieaaE12
import Derived.Test.YtbhbjcgbhklieaaF2
import Derived.Test.YtbhbjcgbhklieaaF4
import Derived.Test.YtbhbjcgbhklieaaF5
import Derived.Test.YtbhbjcgbhklieaaF0
import Derived.Test.YtbhbjcgbhklieaaF6
import Derived.Test.YtbhbjcgbhklieaaG4
import Derived.Test.YtbhbjcgbhklieaaC7
import Derived.Test.YtbhbjcgbhklieaaR1
import Derived.Lib.AppendZeros
import Derived.Deep.RegionHeld3
import Derived.Deep.QuietTactic
import Derived.BigQuiet
namespace Go.Proofs.Ytbhbjcgbhklieaa
open Go.RowKit Go.Shelf

theorem sl_at3 {α : Type} [Inhabited α] {k : Nat} {enc : α → List Value} {w : World} {A : Option Addr} {n c : Nat} {zs : List α} (h : Sl k enc w (.slice A n c) zs) {j : Nat} (hj : j < zs.length) : ∃ b off, A = some ⟨b, off, none⟩ ∧ Lies k enc w b off zs := by
  obtain ⟨A', c', e, _, h0 | ⟨b, off, rfl, hl⟩⟩ := h
  · subst h0; simp at hj
  · cases e; exact ⟨b, off, rfl, hl⟩
theorem allEq_self3 : ∀ (l : List Piece), Lib.allEq eqP l l = true
  | [] => rfl
  | p :: l => by simp [Lib.allEq, eqP, allEq_self3 l]
theorem step_append_run3 {P : Program} {ops : Array Oper} {o : Oper} {a : Act} {w : World} {K : Act → World → Prop} {Q : Exit → Act → World → Prop} {E : Prop} (hgd : o.guard = none) (s x : Operand) (t tn : TypeId)
    (ho : o.op = .call { callee := .builtin .append, args := #[s, x], argTypes := #[t, tn] }) (vs vx : Value) (hs : a.eval s = vs) (hx : a.eval x = vx)
    (v' : Value) (w' : World) (hr : (Builtin.append_ #[t, tn] o.type #[vs, vx]).run P w = .ok v' w') (h : K (a.put o.dst v') w') : if Region.wanted o (yielded ops a.tmps) = true then Oper.wp P o a w K Q else E := by
  have hw : Region.wanted o (yielded ops a.tmps) = true := by simp [Region.wanted, hgd]
  rw [if_pos hw]
  exact Lib.wp_append_run w s x t tn ho vs vx hs hx v' w' hr h
theorem region_joinA {ι : Type} {P : Program} {id : Nat} {ops : Array Oper} {b : Bool} {Q : Exit → Act → World → Prop} {a : Act} {w : World} (F : ι → Array Value → Array Value) (R : ι → World → Prop)
    (h1 : (Code.region id ops b).wp P (fun e a' w' => e = .normal ∧ ∃ x, a' = { tmps := F x a.tmps, defers := a.defers } ∧ R x w') a w) (h2 : ∀ x W, R x W → Q .normal { tmps := F x a.tmps, defers := a.defers } W) : (Code.region id ops b).wp P Q a w :=
  wp_mono h1 (by rintro e a' w' ⟨rfl, x, rfl, h⟩; exact h2 x w' h)
theorem many_no3 {n m : Nat} (h : manyF n m = false) (hn : n ≤ 1000) (hm : m ≤ 1000) : n ≤ 60 ∧ m ≤ 60 := by
  unfold manyF at h
  have hw : wrap64 ((n : Int) + (m : Int)) = (n : Int) + m := by unfold wrap64; omega
  rw [hw, decide_eq_false_iff_not] at h
  omega
theorem sl_drop {W : World} {b off n lo cap : Nat} {zs : List Piece} (h : Lies 3 encP W b off zs) (hn : zs.length = n) (hlo : lo ≤ n) (hc : n ≤ cap) : Sl 3 encP W (.slice (some ⟨b, off + lo * 3, none⟩) (n - lo) (cap - lo)) (zs.drop lo) := by
  refine ⟨_, _, by rw [List.length_drop, hn], by rw [List.length_drop]; omega, .inr ⟨b, off + lo * 3, rfl, h.1, fun j hj i v hv => ?_⟩⟩
  rw [List.length_drop] at hj
  have := h.2 (lo + j) (by omega) i v (by
    rw [getElem!_pos _ j (by rw [List.length_drop]; omega), List.getElem_drop] at hv
    rw [getElem!_pos _ (lo + j) (by omega)]
    exact hv)
  rw [← this]
  congr 2
  omega
theorem sl_none {W : World} {b off lo : Nat} {cap : Nat} {zs : List Piece} (h : zs = []) (n : Nat) (hn : n = lo) : Sl 3 encP W (.slice (some ⟨b, off, none⟩) (n - lo) (cap - lo)) zs := by
  subst h hn
  exact ⟨_, _, by rw [Nat.sub_self]; rfl, Nat.zero_le _, .inl rfl⟩
theorem sl_one {W : World} {nb : Nat} {p : Piece} (h : W.heap[nb]? = some (.cells #[.int .u32 p.pos, .int .i64 p.size, .int .i64 p.born] 38 (0, 0))) : Sl 3 encP W (.slice (some ⟨nb, 0, none⟩) 1 1) [p] := by
  refine ⟨some ⟨nb, 0, none⟩, 1, rfl, Nat.le_refl _, .inr ⟨nb, 0, rfl, blk_lt h, fun j hj i v hv => ?_⟩⟩
  obtain rfl : j = 0 := by simpa using hj
  rw [blk_cell h]
  simpa [encP] using hv

/-- what stands behind the region that frees. -/
structure Freed (c : Conf) (gi : Int) (lf qf : List Piece) (W0 : World) (bx : Nat) (A1 : Option Addr) (k1 : Nat) (A2 : Option Addr) (k2 : Nat) (W : World) : Prop where
  bel : Below W0.heap.size W0 W
  new : W0.heap.size ≤ bx
  box : W.heap[bx]? = some (.cells #[.int .i64 c.page, .int .i64 c.n, .int .i64 c.red, .int .i64 c.quarantine, .slice A1 lf.length k1, .slice A2 qf.length k2, .int .i64 gi] 26 (0, 0))
  s1 : Sl 3 encP W (.slice A1 lf.length k1) lf
  s2 : Sl 3 encP W (.slice A2 qf.length k2) qf
  h1 : SlShape (.slice A1 lf.length k1)
  h2 : SlShape (.slice A2 qf.length k2)

set_option maxRecDepth 100000 in
set_option maxHeartbeats 12000000 in
theorem c3 (c : Conf) (lv qv : Value) (gi : Int) (live quar : List Piece) (ok oN oI oA : Int) (oW : Bool) (size : Int) (w : World) (hin : HeapIn w c lv qv gi live quar) :
    Calls Try.prog 3 #[hAgg c lv qv gi, .agg #[.int .i64 ok, .int .i64 oN, .int .i64 oI, .int .u32 oA, .bool oW], .int .i64 size] w fun e w' => e = .returned (.bool true) ∧ Below w.heap.size w w' := by
  have HL := Lib.hid hin.hl
  have HQ := Lib.hid hin.hq
  have HWL : Hid (∀ p ∈ live, WfP p) := fun p hp => (hin.wl p hp).1
  have HWQ : Hid (∀ p ∈ quar, WfP p) := fun p hp => (hin.wq p hp).1
  have HSL := Lib.hid hin.sl
  have HSQ := Lib.hid hin.sq
  obtain ⟨A, ca, rfl, _, _⟩ := id hin.hl
  obtain ⟨B, cb, rfl, _, _⟩ := id hin.hq
  clear hin
  go_enter Try.func3, Try.ntmps3
  go_wp2_with fail
  refine Calls.mono (c16 _) ?_
  rintro e w1 ⟨rfl, hB1⟩
  have hb0 : w1.heap[w.heap.size]? = some (.cells #[.int .i64 c.page, .int .i64 c.n, .int .i64 c.red, .int .i64 c.quarantine, .slice A live.length ca, .slice B quar.length cb, .int .i64 gi] 26 (0, 0)) := (hB1.block _ (by simp; try omega)).trans (hal_old (hal_old (hal_new rfl)))
  have hb1 : w1.heap[w.heap.size + 1]? = some (.cells #[.int .i64 ok, .int .i64 oN, .int .i64 oI, .int .u32 oA, .bool oW] 29 (0, 0)) := (hB1.block _ (by simp; try omega)).trans (hal_old (hal_new (by simp)))
  have hb2 : w1.heap[w.heap.size + 2]? = some (.cells #[.int .i64 size] 3 (0, 0)) := (hB1.block _ (by simp; try omega)).trans (hal_new (by simp))
  have hBw : Below w.heap.size w w1 := ((((Below.refl _ _).alloc (Nat.le_refl _) _).alloc (by simp; try omega) _).alloc (by simp; try omega) _).trans (hB1.mono (by simp; try omega))
  have q0 := blk_cell hb0 0
  have q1 := blk_cell hb0 1
  have q2 := blk_cell hb0 2
  have q3 := blk_cell hb0 3
  have q4 := blk_cell hb0 4
  have q5 := blk_cell hb0 5
  have q6 := blk_cell hb0 6
  simp only [List.getElem?_toArray, List.getElem?_cons_succ, List.getElem?_cons_zero] at q0 q1 q2 q3 q4 q5 q6
  have HB0 := Lib.hid hb0
  have HB1 := Lib.hid hb1
  have HB2 := Lib.hid hb2
  have HBW := Lib.hid hBw
  have hlt0 : w.heap.size + 2 < w1.heap.size := blk_lt hb2
  clear hB1 hBw hb0 hb1 hb2
  go_wp2_with fail
  refine Calls.mono (c17 w1.heap.size c A B live.length ca quar.length cb gi _ (hal_new rfl)) ?_
  rintro e w2 ⟨rfl, hB2⟩
  have hb02 : w2.heap[w.heap.size]? = some (.cells #[.int .i64 c.page, .int .i64 c.n, .int .i64 c.red, .int .i64 c.quarantine, .slice A live.length ca, .slice B quar.length cb, .int .i64 gi] 26 (0, 0)) := (hB2.block _ (by simp; omega)).trans (hal_old HB0.out)
  have hBw2 : Below w.heap.size w w2 := (HBW.out.alloc (by omega) _).trans (hB2.mono (by simp; omega))
  have hB12 : Below w1.heap.size w1 w2 := (below_alloc1 w1 _).trans (hB2.mono (by simp))
  clear q0 q1 q2 q3 q4 q5 q6
  have q0 := blk_cell hb02 0
  have q1 := blk_cell hb02 1
  have q2 := blk_cell hb02 2
  have q3 := blk_cell hb02 3
  have q4 := blk_cell hb02 4
  have q5 := blk_cell hb02 5
  have q6 := blk_cell hb02 6
  simp only [List.getElem?_toArray, List.getElem?_cons_succ, List.getElem?_cons_zero] at q0 q1 q2 q3 q4 q5 q6
  have HB02 := Lib.hid hb02
  have HBW2 := Lib.hid hBw2
  have HB12 := Lib.hid hB12
  clear hB2 hb02 hBw2 hB12
  cases hmf : manyF live.length quar.length with
  | true =>
    go_wp2
    go_ret
    exact ⟨rfl, HBW2.out⟩
  | false =>
    have h18 := c18 c _ _ gi live quar w2 (HL.out.below HBW2.out) (HQ.out.below HBW2.out) HWL.out HWQ.out
    have H18 := Lib.hid h18
    have HMF := Lib.hid hmf
    clear h18
    go_wp2_with fail
    refine Calls.mono H18.out ?_
    clear H18 hmf
    rintro e w3 ⟨hB3, ⟨hng, rfl⟩ | ⟨hg, rfl⟩⟩
    · have HBW3 : Hid (Below w.heap.size w w3) := HBW2.out.trans (hB3.mono HBW2.out.size)
      clear hB3 hng
      go_wp2
      go_ret
      exact ⟨rfl, HBW3.out⟩
    have HG := Lib.hid hg
    have hb03 : w3.heap[w.heap.size]? = some (.cells #[.int .i64 c.page, .int .i64 c.n, .int .i64 c.red, .int .i64 c.quarantine, .slice A live.length ca, .slice B quar.length cb, .int .i64 gi] 26 (0, 0)) := (hB3.block _ (blk_lt HB02.out)).trans HB02.out
    have HBW3 : Hid (Below w.heap.size w w3) := HBW2.out.trans (hB3.mono HBW2.out.size)
    have HB13 : Hid (Below w1.heap.size w1 w3) := HB12.out.trans (hB3.mono HB12.out.size)
    have hlt3 : w1.heap.size ≤ w3.heap.size := HB13.out.size
    have HGD : Hid (Good c gi live quar) := (good_iff HWL.out HWQ.out).2 hg
    have hgi0 := hg.gi0
    have hgi1 := hg.gi1
    have hn1 := hg.n1
    have hn2 := hg.n2
    clear q0 q1 q2 q3 q4 q5 q6
    have q0 := blk_cell hb03 0
    have q1 := blk_cell hb03 1
    have q2 := blk_cell hb03 2
    have q3 := blk_cell hb03 3
    have q4 := blk_cell hb03 4
    have q5 := blk_cell hb03 5
    have q6 := blk_cell hb03 6
    simp only [List.getElem?_toArray, List.getElem?_cons_succ, List.getElem?_cons_zero] at q0 q1 q2 q3 q4 q5 q6
    have HB03 := Lib.hid hb03
    clear hB3 hg hb03 HBW2 HB02 HB12 HBW HB0
    have hb13 : w3.heap[w.heap.size + 1]? = some (.cells #[.int .i64 ok, .int .i64 oN, .int .i64 oI, .int .u32 oA, .bool oW] 29 (0, 0)) := (HB13.out.block _ (blk_lt HB1.out)).trans HB1.out
    have hb23 : w3.heap[w.heap.size + 2]? = some (.cells #[.int .i64 size] 3 (0, 0)) := (HB13.out.block _ (blk_lt HB2.out)).trans HB2.out
    have r0 := blk_cell hb13 0
    have r1 := blk_cell hb13 1
    have r2 := blk_cell hb13 2
    have r3 := blk_cell hb13 3
    have r4 := blk_cell hb13 4
    simp only [List.getElem?_toArray, List.getElem?_cons_succ, List.getElem?_cons_zero] at r0 r1 r2 r3 r4
    have HB23x := Lib.hid hb23
    have hlt3' : w.heap.size + 2 < w3.heap.size := blk_lt hb23
    clear hb13 hb23
    by_cases he : live.length = 0
    · have he' : ((live.length : Int) == 0) = true := by rw [he]; rfl
      go_wp2
      go_ret
      exact ⟨rfl, HBW3.out⟩
    have he' : ((live.length : Int) == 0) = false := by simpa using he
    obtain ⟨i, hi, _, hrem⟩ := idx_of oI live.length (by omega) (by omega)
    obtain ⟨bb, off, rfl, hL⟩ := sl_at3 (HL.out.below HBW3.out) hi
    have hlb : bb < w3.heap.size := hL.1
    obtain ⟨m0, m1, m2⟩ := hL.at3 i hi
    obtain ⟨p, hp⟩ : ∃ p, live[i]! = p := ⟨_, rfl⟩
    have hpm : p ∈ live := by rw [← hp, getElem!_pos live i hi]; exact List.getElem_mem hi
    rw [hp] at m0 m1 m2
    have hat := at_of HG.out.pos hi
    have hfg := free_good HG.out hi
    rw [hp] at hat hfg
    have hpz := HG.out.each p (List.mem_append_left _ hpm)
    obtain ⟨lf, hl1⟩ : ∃ l, live.eraseIdx i = l := ⟨_, rfl⟩
    obtain ⟨qf, hq1⟩ : ∃ l, trimF c.quarantine (quar ++ [p]) = l := ⟨_, rfl⟩
    rw [hl1, hq1] at hfg
    have hn11 : lf.length + 1 = live.length := by rw [← hl1, List.length_eraseIdx, if_pos hi]; omega
    have hwl1 : ∀ x ∈ lf, WfP x := fun x hx => HWL.out x (by rw [← hl1] at hx; exact List.mem_of_mem_eraseIdx hx)
    have hwq1 : ∀ x ∈ qf, WfP x := fun x hx => by
      rw [← hq1] at hx
      rcases List.mem_append.1 ((trimF_suffix _ _).subset hx) with hx | hx
      · exact HWQ.out x hx
      · rw [List.mem_singleton.1 hx]; exact HWL.out p hpm
    have HPM := Lib.hid hpm
    have HP := Lib.hid hp
    have HAT := Lib.hid hat
    have HFG := Lib.hid hfg
    have HGF : Hid (Good c gi lf qf) := (good_iff hwl1 hwq1).2 hfg
    have HWL1 := Lib.hid hwl1
    have HWQ1 := Lib.hid hwq1
    have HL1 := Lib.hid hl1
    have HQ1 := Lib.hid hq1
    have HPZ := Lib.hid hpz
    have hi0 : (0 : Int) ≤ (i : Int) := by omega
    have hi1 : (i : Int) < (live.length : Int) := by omega
    have hwp := HWL.out p hpm
    obtain ⟨pw0, pw1⟩ := hwp
    have HL3 := Lib.hid hL
    have HRem := Lib.hid hrem
    clear hL hp hpm hat hfg hi hrem hl1 hq1 hwl1 hwq1 hpz
    go_wp2
    have hmx : Try.prog.follows .mixedOrders = true := by kernel_rfl
    have hfree : ∀ W, Below w3.heap.size w3 W → Calls Try.prog 19 #[hAgg c (.slice (some ⟨bb, off, none⟩) live.length ca) (.slice B quar.length cb) gi, .int .u32 p.pos] W fun e w' => Below W.heap.size W w' ∧ ∃ A1 k1 A2 k2, e = .returned (.tuple #[hAgg c (.slice A1 lf.length k1) (.slice A2 qf.length k2) gi, .int .i64 0]) ∧ Fresh W.heap.size w' (.slice A1 lf.length k1) lf ∧ Fresh W.heap.size w' (.slice A2 qf.length k2) qf := fun W hW =>
      (c19 c _ _ gi live quar p.pos W (HL.out.below (HBW3.out.trans (hW.mono HBW3.out.size))) (HQ.out.below (HBW3.out.trans (hW.mono HBW3.out.size))) HWL.out HWQ.out HSL.out HSQ.out).mono fun e w' h => by
        obtain ⟨lv', qv', h1, h2, h3⟩ := h.2.ok HGD.out HAT.out.2
        rw [HAT.out.1, HL1.out] at h2
        rw [HAT.out.1, HP.out, HQ1.out] at h3
        obtain ⟨A1, k1, rfl, _, _⟩ := id h2.sl
        obtain ⟨A2, k2, rfl, _, _⟩ := id h3.sl
        exact ⟨h.1, A1, k1, A2, k2, h1, h2, h3⟩
    have HFREE := Lib.hid hfree
    have hB03 := HB03.out
    clear hfree
    clear q0 q1 q2 q3 q4 q5 q6
    clear r0 r1 r2 r3 r4
    refine region_joinA (ι := Nat × (Option Addr × Nat) × (Option Addr × Nat)) (fun x T => (((((((((((((T.setIfInBounds 42 (.agg #[.int .i64 c.page, .int .i64 c.n, .int .i64 c.red, .int .i64 c.quarantine, .slice (some ⟨bb, off, none⟩) live.length ca, .slice B quar.length cb, .int .i64 gi])).setIfInBounds 43 (.pointer (some ⟨w.heap.size, 4, none⟩))).setIfInBounds 44 (.slice (some ⟨bb, off, none⟩) live.length ca)).setIfInBounds 45 (.int .i64 i)).setIfInBounds 46 (.pointer (some ⟨bb, off + i * 3, none⟩))).setIfInBounds 47 (.pointer (some ⟨bb, off + i * 3, none⟩))).setIfInBounds 48 (.int .u32 p.pos)).setIfInBounds 49 (.tuple #[.agg #[.int .i64 c.page, .int .i64 c.n, .int .i64 c.red, .int .i64 c.quarantine, .slice x.2.1.1 lf.length x.2.1.2, .slice x.2.2.1 qf.length x.2.2.2, .int .i64 gi], .int .i64 0])).setIfInBounds 41 (.tuple #[.agg #[.int .i64 c.page, .int .i64 c.n, .int .i64 c.red, .int .i64 c.quarantine, .slice x.2.1.1 lf.length x.2.1.2, .slice x.2.2.1 qf.length x.2.2.2, .int .i64 gi], .int .i64 0])).setIfInBounds 50 (.agg #[.int .i64 c.page, .int .i64 c.n, .int .i64 c.red, .int .i64 c.quarantine, .slice x.2.1.1 lf.length x.2.1.2, .slice x.2.2.1 qf.length x.2.2.2, .int .i64 gi])).setIfInBounds 51 (.int .i64 0)).setIfInBounds 8 (.pointer (some ⟨x.1, 0, none⟩))).setIfInBounds 9 (.int .i64 0))) (fun x W => Freed c gi lf qf w3 x.1 x.2.1.1 x.2.1.2 x.2.2.1 x.2.2.2 W) ?_ ?_
    · refine wp_region_held_drew (S := fun w' => w'.heap[w.heap.size]? = some (.cells #[.int .i64 c.page, .int .i64 c.n, .int .i64 c.red, .int .i64 c.quarantine, .slice (some ⟨bb, off, none⟩) live.length ca, .slice B quar.length cb, .int .i64 gi] 26 (0, 0)) ∧ w'.cell? ⟨bb, off + i * 3, none⟩ = some (.int .u32 p.pos)) hmx ⟨hB03, m0⟩ ?_
      intro hS0
      refine wpAnyH_take (i := 0) (v := .agg #[.int .i64 c.page, .int .i64 c.n, .int .i64 c.red, .int .i64 c.quarantine, .slice (some ⟨bb, off, none⟩) live.length ca, .slice B quar.length cb, .int .i64 gi]) rfl (by kernel_rfl) (by kernel_rfl) (by kernel_rfl) (fun _ _ _ h => nomatch h.1) (Or.inl ⟨by rfl, ?hy⟩) hS0 ?_
      case hy => intro w9 hSw; obtain ⟨k0, s7⟩ := hSw; have s0 := blk_cell k0 0; have s1 := blk_cell k0 1; have s2 := blk_cell k0 2; have s3 := blk_cell k0 3; have s4 := blk_cell k0 4; have s5 := blk_cell k0 5; have s6 := blk_cell k0 6; simp only [List.getElem?_toArray, List.getElem?_cons_succ, List.getElem?_cons_zero] at s0 s1 s2 s3 s4 s5 s6; go_simp
      go_simp
      refine wpAnyH_take (i := 1) (v := .pointer (some ⟨w.heap.size, 4, none⟩)) rfl (by kernel_rfl) (by kernel_rfl) (by kernel_rfl) (fun _ _ _ h => nomatch h.1) (Or.inl ⟨by rfl, ?hy⟩) hS0 ?_
      case hy => intro w9 hSw; obtain ⟨k0, s7⟩ := hSw; have s0 := blk_cell k0 0; have s1 := blk_cell k0 1; have s2 := blk_cell k0 2; have s3 := blk_cell k0 3; have s4 := blk_cell k0 4; have s5 := blk_cell k0 5; have s6 := blk_cell k0 6; simp only [List.getElem?_toArray, List.getElem?_cons_succ, List.getElem?_cons_zero] at s0 s1 s2 s3 s4 s5 s6; go_simp
      go_simp
      refine wpAnyH_take (i := 2) (v := .slice (some ⟨bb, off, none⟩) live.length ca) rfl (by kernel_rfl) (by kernel_rfl) (by kernel_rfl) (fun _ _ _ h => nomatch h.1) (Or.inl ⟨by rfl, ?hy⟩) hS0 ?_
      case hy => intro w9 hSw; obtain ⟨k0, s7⟩ := hSw; have s0 := blk_cell k0 0; have s1 := blk_cell k0 1; have s2 := blk_cell k0 2; have s3 := blk_cell k0 3; have s4 := blk_cell k0 4; have s5 := blk_cell k0 5; have s6 := blk_cell k0 6; simp only [List.getElem?_toArray, List.getElem?_cons_succ, List.getElem?_cons_zero] at s0 s1 s2 s3 s4 s5 s6; go_simp
      go_simp
      refine wpAnyH_take (i := 3) (v := .int .i64 i) rfl (by kernel_rfl) (by kernel_rfl) (by kernel_rfl) (fun _ _ _ h => nomatch h.1) (Or.inl ⟨by rfl, ?hy⟩) hS0 ?_
      case hy => intro w9 hSw; obtain ⟨k0, s7⟩ := hSw; have s0 := blk_cell k0 0; have s1 := blk_cell k0 1; have s2 := blk_cell k0 2; have s3 := blk_cell k0 3; have s4 := blk_cell k0 4; have s5 := blk_cell k0 5; have s6 := blk_cell k0 6; simp only [List.getElem?_toArray, List.getElem?_cons_succ, List.getElem?_cons_zero] at s0 s1 s2 s3 s4 s5 s6; go_simp
      go_simp
      refine wpAnyH_take (i := 4) (v := .pointer (some ⟨bb, off + i * 3, none⟩)) rfl (by kernel_rfl) (by kernel_rfl) (by kernel_rfl) (fun _ _ _ h => nomatch h.1) (Or.inl ⟨by rfl, ?hy⟩) hS0 ?_
      case hy => intro w9 hSw; obtain ⟨k0, s7⟩ := hSw; have s0 := blk_cell k0 0; have s1 := blk_cell k0 1; have s2 := blk_cell k0 2; have s3 := blk_cell k0 3; have s4 := blk_cell k0 4; have s5 := blk_cell k0 5; have s6 := blk_cell k0 6; simp only [List.getElem?_toArray, List.getElem?_cons_succ, List.getElem?_cons_zero] at s0 s1 s2 s3 s4 s5 s6; go_simp
      go_simp
      refine wpAnyH_take (i := 5) (v := .pointer (some ⟨bb, off + i * 3, none⟩)) rfl (by kernel_rfl) (by kernel_rfl) (by kernel_rfl) (fun _ _ _ h => nomatch h.1) (Or.inl ⟨by rfl, ?hy⟩) hS0 ?_
      case hy => intro w9 hSw; obtain ⟨k0, s7⟩ := hSw; have s0 := blk_cell k0 0; have s1 := blk_cell k0 1; have s2 := blk_cell k0 2; have s3 := blk_cell k0 3; have s4 := blk_cell k0 4; have s5 := blk_cell k0 5; have s6 := blk_cell k0 6; simp only [List.getElem?_toArray, List.getElem?_cons_succ, List.getElem?_cons_zero] at s0 s1 s2 s3 s4 s5 s6; go_simp
      go_simp
      refine wpAnyH_take (i := 6) (v := .int .u32 p.pos) rfl (by kernel_rfl) (by kernel_rfl) (by kernel_rfl) (fun _ _ _ h => nomatch h.1) (Or.inl ⟨by rfl, ?hy⟩) hS0 ?_
      case hy => intro w9 hSw; obtain ⟨k0, s7⟩ := hSw; have s0 := blk_cell k0 0; have s1 := blk_cell k0 1; have s2 := blk_cell k0 2; have s3 := blk_cell k0 3; have s4 := blk_cell k0 4; have s5 := blk_cell k0 5; have s6 := blk_cell k0 6; simp only [List.getElem?_toArray, List.getElem?_cons_succ, List.getElem?_cons_zero] at s0 s1 s2 s3 s4 s5 s6; go_simp
      go_simp
      refine wpAnyH_ready (rs := [7, 11]) (by kernel_rfl) (by simp) ?_
      refine AllReadyH.cons rfl (fun K hK => ?_) (AllReadyH.cons rfl (fun K hK => ?_) AllReadyH.nil)
      · go_simp
        refine Calls.mono (HFREE.out _ (Below.refl _ _).drew) ?_
        rintro e w5 ⟨hB5, A1, k1, A2, k2, rfl, f1, f2⟩
        have hS1' := (show (fun w' => w'.heap[w.heap.size]? = some (.cells #[.int .i64 c.page, .int .i64 c.n, .int .i64 c.red, .int .i64 c.quarantine, .slice (some ⟨bb, off, none⟩) live.length ca, .slice B quar.length cb, .int .i64 gi] 26 (0, 0)) ∧ w'.cell? ⟨bb, off + i * 3, none⟩ = some (.int .u32 p.pos)) w5 from ⟨(hB5.block _ (show w.heap.size < w3.heap.size by omega)).trans hB03, (hB5.cell (p := ⟨bb, off + i * 3, none⟩) hlb).trans m0⟩)
        have F1 := Lib.hid f1
        have F2 := Lib.hid f2
        have HB5 := Lib.hid hB5
        clear f1 f2 hB5
        refine hK.out _ _ hS1' (fun hS1 => ?_)
        clear hK K
        go_simp
        refine wpAnyH_take (i := 8) (v := .tuple #[.agg #[.int .i64 c.page, .int .i64 c.n, .int .i64 c.red, .int .i64 c.quarantine, .slice A1 lf.length k1, .slice A2 qf.length k2, .int .i64 gi], .int .i64 0]) rfl (by kernel_rfl) (by kernel_rfl) (by kernel_rfl) (fun _ _ _ h => nomatch h.1) (Or.inl ⟨by rfl, ?hy⟩) hS1 ?_
        case hy => intro w9 hSw; obtain ⟨k0, s7⟩ := hSw; have s0 := blk_cell k0 0; have s1 := blk_cell k0 1; have s2 := blk_cell k0 2; have s3 := blk_cell k0 3; have s4 := blk_cell k0 4; have s5 := blk_cell k0 5; have s6 := blk_cell k0 6; simp only [List.getElem?_toArray, List.getElem?_cons_succ, List.getElem?_cons_zero] at s0 s1 s2 s3 s4 s5 s6; go_simp
        go_simp
        refine wpAnyH_take (i := 9) (v := .agg #[.int .i64 c.page, .int .i64 c.n, .int .i64 c.red, .int .i64 c.quarantine, .slice A1 lf.length k1, .slice A2 qf.length k2, .int .i64 gi]) rfl (by kernel_rfl) (by kernel_rfl) (by kernel_rfl) (fun _ _ _ h => nomatch h.1) (Or.inl ⟨by rfl, ?hy⟩) hS1 ?_
        case hy => intro w9 hSw; obtain ⟨k0, s7⟩ := hSw; have s0 := blk_cell k0 0; have s1 := blk_cell k0 1; have s2 := blk_cell k0 2; have s3 := blk_cell k0 3; have s4 := blk_cell k0 4; have s5 := blk_cell k0 5; have s6 := blk_cell k0 6; simp only [List.getElem?_toArray, List.getElem?_cons_succ, List.getElem?_cons_zero] at s0 s1 s2 s3 s4 s5 s6; go_simp
        go_simp
        refine wpAnyH_take (i := 10) (v := .int .i64 0) rfl (by kernel_rfl) (by kernel_rfl) (by kernel_rfl) (fun _ _ _ h => nomatch h.1) (Or.inl ⟨by rfl, ?hy⟩) hS1 ?_
        case hy => intro w9 hSw; obtain ⟨k0, s7⟩ := hSw; have s0 := blk_cell k0 0; have s1 := blk_cell k0 1; have s2 := blk_cell k0 2; have s3 := blk_cell k0 3; have s4 := blk_cell k0 4; have s5 := blk_cell k0 5; have s6 := blk_cell k0 6; simp only [List.getElem?_toArray, List.getElem?_cons_succ, List.getElem?_cons_zero] at s0 s1 s2 s3 s4 s5 s6; go_simp
        go_simp
        refine wpAnyH_ready (rs := [11]) (by kernel_rfl) (by simp) ?_
        refine AllReadyH.cons rfl (fun K hK => ?_) AllReadyH.nil
        go_simp
        refine hK.out _ _ ⟨hal_old hS1.1, cells_alloc hS1.2⟩ (fun hS2 => ?_)
        clear hK K
        refine wpAnyH_ready (rs := [12]) (by kernel_rfl) (by simp) ?_
        refine AllReadyH.cons rfl (fun K hK => ?_) AllReadyH.nil
        go_simp
        refine hK.out _ _ ⟨hal_old hS1.1, cells_alloc hS1.2⟩ (fun hS3 => ?_)
        clear hK K
        refine wpAnyH_take (i := 13) (v := .int .i64 0) rfl (by kernel_rfl) (by kernel_rfl) (by kernel_rfl) (fun _ _ _ h => nomatch h.1) (Or.inl ⟨by rfl, ?hy⟩) hS3 ?_
        case hy => intro w9 hSw; obtain ⟨k0, s7⟩ := hSw; have s0 := blk_cell k0 0; have s1 := blk_cell k0 1; have s2 := blk_cell k0 2; have s3 := blk_cell k0 3; have s4 := blk_cell k0 4; have s5 := blk_cell k0 5; have s6 := blk_cell k0 6; simp only [List.getElem?_toArray, List.getElem?_cons_succ, List.getElem?_cons_zero] at s0 s1 s2 s3 s4 s5 s6; go_simp
        go_simp
        refine wpAnyH_done (by kernel_rfl) ?_ _
        go_simp
        refine ⟨w5.heap.size, A1, k1, A2, k2, ?_, ?_⟩
        · exact ⟨rfl, ⟨rfl, rfl⟩, rfl, rfl⟩
        · have hb5 : Below w3.heap.size w3 w5 := (Below.refl _ _).drew.trans HB5.out
          exact ⟨hb5.alloc hb5.size _, hb5.size, hal_new rfl, F1.out.sl.below (below_alloc1 _ _), F2.out.sl.below (below_alloc1 _ _), F1.out.shape, F2.out.shape⟩
      · go_simp
        refine hK.out _ _ ⟨hal_old hS0.1, cells_alloc hS0.2⟩ (fun hS1 => ?_)
        clear hK K
        go_simp
        refine wpAnyH_ready (rs := [7]) (by kernel_rfl) (by simp) ?_
        refine AllReadyH.cons rfl (fun K hK => ?_) AllReadyH.nil
        go_simp
        refine Calls.mono (HFREE.out _ ((Below.refl _ _).drew.alloc (Nat.le_refl _) _)) ?_
        rintro e w5 ⟨hB5, A1, k1, A2, k2, rfl, f1, f2⟩
        have hz5 : w5.heap[w3.heap.size]? = some (.cells #[.int .i64 0, .int .i64 0, .int .i64 0, .int .i64 0, .slice none 0 0, .slice none 0 0, .int .i64 0] 26 (0, 0)) := (hB5.block _ (by simp)).trans (hal_new rfl)
        have hS2' := (show (fun w' => w'.heap[w.heap.size]? = some (.cells #[.int .i64 c.page, .int .i64 c.n, .int .i64 c.red, .int .i64 c.quarantine, .slice (some ⟨bb, off, none⟩) live.length ca, .slice B quar.length cb, .int .i64 gi] 26 (0, 0)) ∧ w'.cell? ⟨bb, off + i * 3, none⟩ = some (.int .u32 p.pos)) w5 from ⟨(hB5.block _ (by simp; omega)).trans hS1.1, (hB5.cell (p := ⟨bb, off + i * 3, none⟩) (by simp; omega)).trans hS1.2⟩)
        have F1 := Lib.hid f1
        have F2 := Lib.hid f2
        have HB5 := Lib.hid hB5
        have HZ5 := Lib.hid hz5
        have y0 := blk_cell hz5 0
        have fy0 : w5.frozen? ⟨w3.heap.size, 0, none⟩ = false := frozen_of_row _ _ _ _ _ hz5
        have y1 := blk_cell hz5 1
        have fy1 : w5.frozen? ⟨w3.heap.size, 1, none⟩ = false := frozen_of_row _ _ _ _ _ hz5
        have y2 := blk_cell hz5 2
        have fy2 : w5.frozen? ⟨w3.heap.size, 2, none⟩ = false := frozen_of_row _ _ _ _ _ hz5
        have y3 := blk_cell hz5 3
        have fy3 : w5.frozen? ⟨w3.heap.size, 3, none⟩ = false := frozen_of_row _ _ _ _ _ hz5
        have y4 := blk_cell hz5 4
        have fy4 : w5.frozen? ⟨w3.heap.size, 4, none⟩ = false := frozen_of_row _ _ _ _ _ hz5
        have y5 := blk_cell hz5 5
        have fy5 : w5.frozen? ⟨w3.heap.size, 5, none⟩ = false := frozen_of_row _ _ _ _ _ hz5
        have y6 := blk_cell hz5 6
        have fy6 : w5.frozen? ⟨w3.heap.size, 6, none⟩ = false := frozen_of_row _ _ _ _ _ hz5
        simp only [List.getElem?_toArray, List.getElem?_cons_succ, List.getElem?_cons_zero] at y0 y1 y2 y3 y4 y5 y6
        clear f1 f2 hB5 hz5
        refine hK.out _ _ hS2' (fun hS2 => ?_)
        clear hK K
        go_simp
        refine wpAnyH_take (i := 8) (v := .tuple #[.agg #[.int .i64 c.page, .int .i64 c.n, .int .i64 c.red, .int .i64 c.quarantine, .slice A1 lf.length k1, .slice A2 qf.length k2, .int .i64 gi], .int .i64 0]) rfl (by kernel_rfl) (by kernel_rfl) (by kernel_rfl) (fun _ _ _ h => nomatch h.1) (Or.inl ⟨by rfl, ?hy⟩) hS2 ?_
        case hy => intro w9 hSw; obtain ⟨k0, s7⟩ := hSw; have s0 := blk_cell k0 0; have s1 := blk_cell k0 1; have s2 := blk_cell k0 2; have s3 := blk_cell k0 3; have s4 := blk_cell k0 4; have s5 := blk_cell k0 5; have s6 := blk_cell k0 6; simp only [List.getElem?_toArray, List.getElem?_cons_succ, List.getElem?_cons_zero] at s0 s1 s2 s3 s4 s5 s6; go_simp
        go_simp
        refine wpAnyH_take (i := 9) (v := .agg #[.int .i64 c.page, .int .i64 c.n, .int .i64 c.red, .int .i64 c.quarantine, .slice A1 lf.length k1, .slice A2 qf.length k2, .int .i64 gi]) rfl (by kernel_rfl) (by kernel_rfl) (by kernel_rfl) (fun _ _ _ h => nomatch h.1) (Or.inl ⟨by rfl, ?hy⟩) hS2 ?_
        case hy => intro w9 hSw; obtain ⟨k0, s7⟩ := hSw; have s0 := blk_cell k0 0; have s1 := blk_cell k0 1; have s2 := blk_cell k0 2; have s3 := blk_cell k0 3; have s4 := blk_cell k0 4; have s5 := blk_cell k0 5; have s6 := blk_cell k0 6; simp only [List.getElem?_toArray, List.getElem?_cons_succ, List.getElem?_cons_zero] at s0 s1 s2 s3 s4 s5 s6; go_simp
        go_simp
        refine wpAnyH_take (i := 10) (v := .int .i64 0) rfl (by kernel_rfl) (by kernel_rfl) (by kernel_rfl) (fun _ _ _ h => nomatch h.1) (Or.inl ⟨by rfl, ?hy⟩) hS2 ?_
        case hy => intro w9 hSw; obtain ⟨k0, s7⟩ := hSw; have s0 := blk_cell k0 0; have s1 := blk_cell k0 1; have s2 := blk_cell k0 2; have s3 := blk_cell k0 3; have s4 := blk_cell k0 4; have s5 := blk_cell k0 5; have s6 := blk_cell k0 6; simp only [List.getElem?_toArray, List.getElem?_cons_succ, List.getElem?_cons_zero] at s0 s1 s2 s3 s4 s5 s6; go_simp
        go_simp
        refine wpAnyH_ready (rs := [12]) (by kernel_rfl) (by simp) ?_
        refine AllReadyH.cons rfl (fun K hK => ?_) AllReadyH.nil
        go_simp
        have hne0 : w.heap.size ≠ w3.heap.size := by omega
        have hne1 : bb ≠ w3.heap.size := by omega
        refine hK.out _ _ ⟨?hs1, ?hs2⟩ (fun hS3 => ?_)
        case hs1 =>
          repeat' first | (with_reducible refine Eq.trans (Below.heap_setCell _ _ _ _ hne0) ?_) | with_reducible exact hS2.1
        case hs2 =>
          repeat' first | (with_reducible refine Eq.trans (World.cell?_setCell_far _ _ _ _ (Ne.symm hne1)) ?_) | with_reducible exact hS2.2
        clear hK K
        refine wpAnyH_take (i := 13) (v := .int .i64 0) rfl (by kernel_rfl) (by kernel_rfl) (by kernel_rfl) (fun _ _ _ h => nomatch h.1) (Or.inl ⟨by rfl, ?hy⟩) hS3 ?_
        case hy => intro w9 hSw; obtain ⟨k0, s7⟩ := hSw; have s0 := blk_cell k0 0; have s1 := blk_cell k0 1; have s2 := blk_cell k0 2; have s3 := blk_cell k0 3; have s4 := blk_cell k0 4; have s5 := blk_cell k0 5; have s6 := blk_cell k0 6; simp only [List.getElem?_toArray, List.getElem?_cons_succ, List.getElem?_cons_zero] at s0 s1 s2 s3 s4 s5 s6; go_simp
        go_simp
        refine wpAnyH_done (by kernel_rfl) ?_ _
        go_simp
        refine ⟨w3.heap.size, A1, k1, A2, k2, ?_, ?_⟩
        · exact ⟨rfl, ⟨rfl, rfl⟩, rfl, rfl⟩
        · have hb5 : Below w3.heap.size w3 w5 := ((Below.refl _ _).drew.alloc (Nat.le_refl _) _).trans (HB5.out.mono (by simp))
          have hs5 : w3.heap.size + 1 ≤ w5.heap.size := by have := HB5.out.size; simpa using this
          refine ⟨?_, Nat.le_refl _, ?_, (Fresh.kept F1.out (by simp) fun k hk hN => ?_).sl, (Fresh.kept F2.out (by simp) fun k hk hN => ?_).sl, F1.out.shape, F2.out.shape⟩
          · repeat' first | (with_reducible refine Below.setCell ?_ (by simp) _) | with_reducible exact hb5
          · simp [World.setCell, Array.getElem?_modify, HZ5.out]
          · have hne2 : k ≠ w3.heap.size := by simp at hN; omega
            repeat' first | (with_reducible refine Eq.trans (Below.heap_setCell _ _ _ _ hne2) ?_) | with_reducible rfl
          · have hne2 : k ≠ w3.heap.size := by simp at hN; omega
            repeat' first | (with_reducible refine Eq.trans (Below.heap_setCell _ _ _ _ hne2) ?_) | with_reducible rfl
    rintro ⟨bx, ⟨A1, k1⟩, ⟨A2, k2⟩⟩ W4 hF
    simp only [List.setIfInBounds_toArray, List.set_cons_zero, List.set_cons_succ]
    have hbx := hF.box
    have HBW4 : Hid (Below w.heap.size w W4) := HBW3.out.trans (hF.bel.mono HBW3.out.size)
    have HB04 := Lib.hid ((hF.bel.block _ (blk_lt HB03.out)).trans HB03.out)
    have HB24 := Lib.hid ((hF.bel.block _ (blk_lt HB23x.out)).trans HB23x.out)
    have HL4 := Lib.hid (HL3.out.below hF.bel)
    have HS1 := Lib.hid hF.s1
    have HS2 := Lib.hid hF.s2
    have HSH1 := Lib.hid hF.h1
    have HSH2 := Lib.hid hF.h2
    have HBX := Lib.hid hbx
    have hbxn : w3.heap.size ≤ bx := hF.new
    have hbxl : bx < W4.heap.size := blk_lt hbx
    have hlt4 : w.heap.size + 2 < W4.heap.size := blk_lt HB24.out
    have hn11' : ((lf.length : Int) != (live.length : Int) - 1) = false := by
      rw [bne_eq_false_iff_eq]; omega
    clear m0 m1 m2 hF hB03
    have q0 := blk_cell HB04.out 0
    have q1 := blk_cell HB04.out 1
    have q2 := blk_cell HB04.out 2
    have q3 := blk_cell HB04.out 3
    have q4 := blk_cell HB04.out 4
    have q5 := blk_cell HB04.out 5
    have q6 := blk_cell HB04.out 6
    simp only [List.getElem?_toArray, List.getElem?_cons_succ, List.getElem?_cons_zero] at q0 q1 q2 q3 q4 q5 q6
    have r0 := blk_cell hbx 0
    have r1 := blk_cell hbx 1
    have r2 := blk_cell hbx 2
    have r3 := blk_cell hbx 3
    have r4 := blk_cell hbx 4
    have r5 := blk_cell hbx 5
    have r6 := blk_cell hbx 6
    simp only [List.getElem?_toArray, List.getElem?_cons_succ, List.getElem?_cons_zero] at r0 r1 r2 r3 r4 r5 r6
    clear hbx
    go_wp2_with fail
    refine Calls.mono (c20 c _ _ gi lf qf W4 HS1.out HS2.out HWL1.out HWQ1.out) ?_
    rintro e w5 ⟨hB5, ⟨hng, rfl⟩ | ⟨_, rfl⟩⟩
    · exact absurd HGF.out hng
    have HBW5 : Hid (Below w.heap.size w w5) := HBW4.out.trans (hB5.mono HBW4.out.size)
    have hb05 := (hB5.block _ (blk_lt HB04.out)).trans HB04.out
    have hbx5 := (hB5.block _ (blk_lt HBX.out)).trans HBX.out
    have H45 := Lib.hid hB5
    have HB05 := Lib.hid hb05
    have HBX5 := Lib.hid hbx5
    have hlt5 : bx < w5.heap.size := blk_lt hbx5
    have hlt5' : w.heap.size + 2 < w5.heap.size := Nat.lt_of_lt_of_le hlt4 hB5.size
    obtain ⟨m0, m1, m2⟩ := (HL4.out.below hB5).at3 i (by omega)
    rw [HP.out] at m0 m1 m2
    have hb05' := HB05.out
    clear q0 q1 q2 q3 q4 q5 q6
    clear r0 r1 r2 r3 r4 r5 r6
    have q0 := blk_cell HB05.out 0
    have q1 := blk_cell HB05.out 1
    have q2 := blk_cell HB05.out 2
    have q3 := blk_cell HB05.out 3
    have q4 := blk_cell HB05.out 4
    have q5 := blk_cell HB05.out 5
    have q6 := blk_cell HB05.out 6
    simp only [List.getElem?_toArray, List.getElem?_cons_succ, List.getElem?_cons_zero] at q0 q1 q2 q3 q4 q5 q6
    have r0 := blk_cell HBX5.out 0
    have r1 := blk_cell HBX5.out 1
    have r2 := blk_cell HBX5.out 2
    have r3 := blk_cell HBX5.out 3
    have r4 := blk_cell HBX5.out 4
    have r5 := blk_cell HBX5.out 5
    have r6 := blk_cell HBX5.out 6
    simp only [List.getElem?_toArray, List.getElem?_cons_succ, List.getElem?_cons_zero] at r0 r1 r2 r3 r4 r5 r6
    clear hB5 hb05 hbx5
    go_wp2
    clear q0 q1 q2 q3 q4 q5 q6
    clear r0 r1 r2 r3 r4 r5 r6
    have hlb5 : bb < w5.heap.size := by omega
    refine region_joinA (ι := (Option Addr × Nat) × Nat × Value) (fun x T => (((((((((((T.setIfInBounds 69 (.pointer (some ⟨w.heap.size, 5, none⟩))).setIfInBounds 70 (.slice B quar.length cb)).setIfInBounds 71 (.slice x.1.1 quar.length x.1.2)).setIfInBounds 72 (.pointer (some ⟨w.heap.size, 4, none⟩))).setIfInBounds 73 (.slice (some ⟨bb, off, none⟩) live.length ca)).setIfInBounds 74 (.int .i64 i)).setIfInBounds 75 (.pointer (some ⟨bb, off + i * 3, none⟩))).setIfInBounds 76 (.agg #[.int .u32 p.pos, .int .i64 p.size, .int .i64 p.born])).setIfInBounds 77 (.slice (some ⟨x.2.1, 0, none⟩) 1 1)).setIfInBounds 78 (x.2.2)).setIfInBounds 10 (x.2.2))) (fun x W => Below w5.heap.size w5 W ∧ Sl 3 encP W x.2.2 (quar ++ [p])) ?_ ?_
    · refine wp_region_held_drew (S := fun w' => w'.heap[w.heap.size]? = some (.cells #[.int .i64 c.page, .int .i64 c.n, .int .i64 c.red, .int .i64 c.quarantine, .slice (some ⟨bb, off, none⟩) live.length ca, .slice B quar.length cb, .int .i64 gi] 26 (0, 0)) ∧ w'.cell? ⟨bb, off + i * 3, none⟩ = some (.int .u32 p.pos) ∧ w'.cell? ⟨bb, off + i * 3 + 1, none⟩ = some (.int .i64 p.size) ∧ w'.cell? ⟨bb, off + i * 3 + 2, none⟩ = some (.int .i64 p.born)) hmx ⟨hb05', m0, m1, m2⟩ ?_
      intro hS0
      refine wpAnyH_take (i := 0) (v := .pointer (some ⟨w.heap.size, 5, none⟩)) rfl (by kernel_rfl) (by kernel_rfl) (by kernel_rfl) (fun _ _ _ h => nomatch h.1) (Or.inl ⟨by rfl, ?hy⟩) hS0 ?_
      case hy => intro w9 hSw; obtain ⟨k0, s7, s8, s9⟩ := hSw; have s4 := blk_cell k0 4; have s5 := blk_cell k0 5; simp only [List.getElem?_toArray, List.getElem?_cons_succ, List.getElem?_cons_zero] at s4 s5; go_simp
      go_simp
      refine wpAnyH_take (i := 1) (v := .slice B quar.length cb) rfl (by kernel_rfl) (by kernel_rfl) (by kernel_rfl) (fun _ _ _ h => nomatch h.1) (Or.inl ⟨by rfl, ?hy⟩) hS0 ?_
      case hy => intro w9 hSw; obtain ⟨k0, s7, s8, s9⟩ := hSw; have s4 := blk_cell k0 4; have s5 := blk_cell k0 5; simp only [List.getElem?_toArray, List.getElem?_cons_succ, List.getElem?_cons_zero] at s4 s5; go_simp
      go_simp
      refine wpAnyH_take (i := 3) (v := .pointer (some ⟨w.heap.size, 4, none⟩)) rfl (by kernel_rfl) (by kernel_rfl) (by kernel_rfl) (fun _ _ _ h => nomatch h.1) (Or.inl ⟨by rfl, ?hy⟩) hS0 ?_
      case hy => intro w9 hSw; obtain ⟨k0, s7, s8, s9⟩ := hSw; have s4 := blk_cell k0 4; have s5 := blk_cell k0 5; simp only [List.getElem?_toArray, List.getElem?_cons_succ, List.getElem?_cons_zero] at s4 s5; go_simp
      go_simp
      refine wpAnyH_take (i := 4) (v := .slice (some ⟨bb, off, none⟩) live.length ca) rfl (by kernel_rfl) (by kernel_rfl) (by kernel_rfl) (fun _ _ _ h => nomatch h.1) (Or.inl ⟨by rfl, ?hy⟩) hS0 ?_
      case hy => intro w9 hSw; obtain ⟨k0, s7, s8, s9⟩ := hSw; have s4 := blk_cell k0 4; have s5 := blk_cell k0 5; simp only [List.getElem?_toArray, List.getElem?_cons_succ, List.getElem?_cons_zero] at s4 s5; go_simp
      go_simp
      refine wpAnyH_take (i := 5) (v := .int .i64 i) rfl (by kernel_rfl) (by kernel_rfl) (by kernel_rfl) (fun _ _ _ h => nomatch h.1) (Or.inl ⟨by rfl, ?hy⟩) hS0 ?_
      case hy => intro w9 hSw; obtain ⟨k0, s7, s8, s9⟩ := hSw; have s4 := blk_cell k0 4; have s5 := blk_cell k0 5; simp only [List.getElem?_toArray, List.getElem?_cons_succ, List.getElem?_cons_zero] at s4 s5; go_simp
      go_simp
      refine wpAnyH_take (i := 6) (v := .pointer (some ⟨bb, off + i * 3, none⟩)) rfl (by kernel_rfl) (by kernel_rfl) (by kernel_rfl) (fun _ _ _ h => nomatch h.1) (Or.inl ⟨by rfl, ?hy⟩) hS0 ?_
      case hy => intro w9 hSw; obtain ⟨k0, s7, s8, s9⟩ := hSw; have s4 := blk_cell k0 4; have s5 := blk_cell k0 5; simp only [List.getElem?_toArray, List.getElem?_cons_succ, List.getElem?_cons_zero] at s4 s5; go_simp
      go_simp
      refine wpAnyH_take (i := 7) (v := .agg #[.int .u32 p.pos, .int .i64 p.size, .int .i64 p.born]) rfl (by kernel_rfl) (by kernel_rfl) (by kernel_rfl) (fun _ _ _ h => nomatch h.1) (Or.inl ⟨by rfl, ?hy⟩) hS0 ?_
      case hy => intro w9 hSw; obtain ⟨k0, s7, s8, s9⟩ := hSw; have s4 := blk_cell k0 4; have s5 := blk_cell k0 5; simp only [List.getElem?_toArray, List.getElem?_cons_succ, List.getElem?_cons_zero] at s4 s5; go_simp
      go_simp
      refine wpAnyH_ready (rs := [2, 8]) (by kernel_rfl) (by simp) ?_
      refine AllReadyH.cons rfl (fun K hK => ?_) (AllReadyH.cons rfl (fun K hK => ?_) AllReadyH.nil)
      · go_simp
        refine Calls.mono (c21 _ quar _ (HQ.out.below HBW5.out.drew) HSQ.out (by omega)) ?_
        rintro e w6 ⟨hB6, A3, k3, rfl, ho6⟩
        have hb56 : Below w5.heap.size w5 w6 := (Below.refl _ _).drew.trans hB6
        refine hK.out _ _ ⟨(hb56.block _ (by omega)).trans hb05', (hb56.cell (p := ⟨bb, off + i * 3, none⟩) (by omega)).trans m0, (hb56.cell (p := ⟨bb, off + i * 3 + 1, none⟩) (by omega)).trans m1, (hb56.cell (p := ⟨bb, off + i * 3 + 2, none⟩) (by omega)).trans m2⟩ (fun hS1 => ?_)
        clear hK K
        refine wpAnyH_ready (rs := [8]) (by kernel_rfl) (by simp) ?_
        refine AllReadyH.cons rfl (fun K hK => ?_) AllReadyH.nil
        go_simp
        refine hK.out _ _ ⟨hal_old hS1.1, cells_alloc hS1.2.1, cells_alloc hS1.2.2.1, cells_alloc hS1.2.2.2⟩ (fun hS2 => ?_)
        clear hK K
        obtain ⟨v7, w7, hrun, ho7, hg7⟩ := append_sl w5.heap.size (.slice A3 quar.length k3) quar [p] (.slice (some ⟨w6.heap.size, 0, none⟩) 1 1) (w6.alloc (.cells #[.int .u32 p.pos, .int .i64 p.size, .int .i64 p.born] 38)) (ho6.alloc _) (sl_one (hal_new rfl)) hn2 (by simp) (by have := hb56.size; simp; omega)
        have hb67 : Below w5.heap.size (w6.alloc (.cells #[.int .u32 p.pos, .int .i64 p.size, .int .i64 p.born] 38)) w7 := below_of_grown hg7 (by have := hb56.size; simp; omega) (fun j e => (own_lt ho6 j e).1)
        have HB57 : Hid (Below w5.heap.size w5 w7) := (hb56.alloc hb56.size _).trans hb67
        refine wpAnyH_ready (rs := [9]) (by kernel_rfl) (by simp) ?_
        refine AllReadyH.cons rfl (fun K hK => ?_) AllReadyH.nil
        refine step_append_run3 rfl _ _ _ _ rfl _ _ rfl rfl v7 w7 hrun ?_
        have hb57 := HB57.out
        refine hK.out _ _ ⟨(hb57.block _ (by omega)).trans hb05', (hb57.cell (p := ⟨bb, off + i * 3, none⟩) (by omega)).trans m0, (hb57.cell (p := ⟨bb, off + i * 3 + 1, none⟩) (by omega)).trans m1, (hb57.cell (p := ⟨bb, off + i * 3 + 2, none⟩) (by omega)).trans m2⟩ (fun hS3 => ?_)
        clear hK K hb57
        obtain ⟨A4, k4, rfl, _, _⟩ := id (Fresh.of_own ho7 rfl).sl
        go_simp
        refine wpAnyH_take (i := 10) (v := .slice A4 (quar ++ [p]).length k4) rfl (by kernel_rfl) (by kernel_rfl) (by kernel_rfl) (fun _ _ _ h => nomatch h.1) (Or.inl ⟨by rfl, ?hy⟩) hS3 ?_
        case hy => intro w9 hSw; obtain ⟨k0, s7, s8, s9⟩ := hSw; have s4 := blk_cell k0 4; have s5 := blk_cell k0 5; simp only [List.getElem?_toArray, List.getElem?_cons_succ, List.getElem?_cons_zero] at s4 s5; go_simp
        go_simp
        refine wpAnyH_done (by kernel_rfl) ?_ _
        go_simp
        exact ⟨A3, k3, w6.heap.size, .slice A4 (quar.length + 1) k4, ⟨rfl, ⟨rfl, rfl⟩, rfl, rfl⟩, HB57.out, by have h := (Fresh.of_own ho7 rfl).sl; rw [List.length_append] at h; exact h⟩
      · go_simp
        refine hK.out _ _ ⟨hal_old hS0.1, cells_alloc hS0.2.1, cells_alloc hS0.2.2.1, cells_alloc hS0.2.2.2⟩ (fun hS1 => ?_)
        clear hK K
        refine wpAnyH_ready (rs := [2]) (by kernel_rfl) (by simp) ?_
        refine AllReadyH.cons rfl (fun K hK => ?_) AllReadyH.nil
        go_simp
        refine Calls.mono (c21 _ quar _ (HQ.out.below (HBW5.out.drew.alloc HBW5.out.size _)) HSQ.out (by omega)) ?_
        rintro e w6 ⟨hB6, A3, k3, rfl, ho6⟩
        have hnb : w6.heap[w5.heap.size]? = some (.cells #[.int .u32 p.pos, .int .i64 p.size, .int .i64 p.born] 38 (0, 0)) := (hB6.block _ (by simp)).trans (hal_new rfl)
        have hb56 : Below w5.heap.size w5 w6 := ((Below.refl _ _).drew.alloc (Nat.le_refl _) _).trans (hB6.mono (by simp))
        refine hK.out _ _ ⟨(hb56.block _ (by omega)).trans hb05', (hb56.cell (p := ⟨bb, off + i * 3, none⟩) (by omega)).trans m0, (hb56.cell (p := ⟨bb, off + i * 3 + 1, none⟩) (by omega)).trans m1, (hb56.cell (p := ⟨bb, off + i * 3 + 2, none⟩) (by omega)).trans m2⟩ (fun hS2 => ?_)
        clear hK K
        obtain ⟨v7, w7, hrun, ho7, hg7⟩ := append_sl w5.heap.size (.slice A3 quar.length k3) quar [p] (.slice (some ⟨w5.heap.size, 0, none⟩) 1 1) w6 (own_base ho6 (by simp)) (sl_one hnb) hn2 (by simp) hb56.size
        have hb67 : Below w5.heap.size w6 w7 := below_of_grown hg7 hb56.size (fun j e => by have := (own_lt ho6 j e).1; simp at this; omega)
        have HB57 : Hid (Below w5.heap.size w5 w7) := hb56.trans hb67
        refine wpAnyH_ready (rs := [9]) (by kernel_rfl) (by simp) ?_
        refine AllReadyH.cons rfl (fun K hK => ?_) AllReadyH.nil
        refine step_append_run3 rfl _ _ _ _ rfl _ _ rfl rfl v7 w7 hrun ?_
        have hb57 := HB57.out
        refine hK.out _ _ ⟨(hb57.block _ (by omega)).trans hb05', (hb57.cell (p := ⟨bb, off + i * 3, none⟩) (by omega)).trans m0, (hb57.cell (p := ⟨bb, off + i * 3 + 1, none⟩) (by omega)).trans m1, (hb57.cell (p := ⟨bb, off + i * 3 + 2, none⟩) (by omega)).trans m2⟩ (fun hS3 => ?_)
        clear hK K hb57
        obtain ⟨A4, k4, rfl, _, _⟩ := id (Fresh.of_own ho7 rfl).sl
        go_simp
        refine wpAnyH_take (i := 10) (v := .slice A4 (quar ++ [p]).length k4) rfl (by kernel_rfl) (by kernel_rfl) (by kernel_rfl) (fun _ _ _ h => nomatch h.1) (Or.inl ⟨by rfl, ?hy⟩) hS3 ?_
        case hy => intro w9 hSw; obtain ⟨k0, s7, s8, s9⟩ := hSw; have s4 := blk_cell k0 4; have s5 := blk_cell k0 5; simp only [List.getElem?_toArray, List.getElem?_cons_succ, List.getElem?_cons_zero] at s4 s5; go_simp
        go_simp
        refine wpAnyH_done (by kernel_rfl) ?_ _
        go_simp
        exact ⟨A3, k3, w5.heap.size, .slice A4 (quar.length + 1) k4, ⟨rfl, ⟨rfl, rfl⟩, rfl, rfl⟩, HB57.out, by have h := (Fresh.of_own ho7 rfl).sl; rw [List.length_append] at h; exact h⟩
    rintro ⟨⟨A3, k3⟩, nb, v8⟩ W8 ⟨hW8, hs8⟩
    simp only [List.setIfInBounds_toArray, List.set_cons_zero, List.set_cons_succ]
    have hwz : ∀ x ∈ quar ++ [p], 0 ≤ x.size ∧ x.size ≤ 65536 := fun x hx => by
      have hx' : x ∈ live ++ quar := by
        rcases List.mem_append.1 hx with hx | hx
        · exact List.mem_append_right _ hx
        · rw [List.mem_singleton.1 hx]; exact List.mem_append_left _ HPM.out
      exact ⟨(HG.out.each x hx').2.1, (HG.out.each x hx').2.2.1⟩
    obtain ⟨n60, m60⟩ := many_no3 HMF.out hn1 hn2
    have hbc := HG.out.conf
    simp only [okConf, decide_eq_true_eq] at hbc
    obtain ⟨e1, e2, e3, e4, e5, e6, e7, e8, e9⟩ := hbc
    obtain ⟨A4, k4, rfl, hk4, _⟩ := id hs8
    obtain ⟨b8, o8, rfl, hL8⟩ := sl_at3 hs8 (j := 0) (by simp)
    have hM0 : (quar ++ [p]).length = quar.length + 1 := List.length_append ..
    obtain ⟨wl, hwl⟩ : ∃ l, quar ++ [p] = l := ⟨_, rfl⟩
    rw [hwl] at hwz hk4 hL8 hM0 hs8 ⊢
    obtain ⟨M, hM⟩ : ∃ n, wl.length = n := ⟨_, rfl⟩
    rw [hM] at hM0 hk4 hs8 ⊢
    have hM61 : M ≤ 61 := by omega
    have hM1 : quar.length + 1 ≤ M := by omega
    have hM2 : M ≤ quar.length + 1 := by omega
    have HWLq := Lib.hid hwl
    have HM := Lib.hid hM
    have HL8 := Lib.hid hL8
    have HWZ := Lib.hid hwz
    have HBW8 : Hid (Below w.heap.size w W8) := HBW5.out.trans (hW8.mono HBW5.out.size)
    have HB08 := Lib.hid ((hW8.block _ (blk_lt HB05.out)).trans HB05.out)
    have HBX8 := Lib.hid ((hW8.block _ (blk_lt HBX5.out)).trans HBX5.out)
    have H48 : Hid (Below W4.heap.size W4 W8) := H45.out.trans (hW8.mono H45.out.size)
    have hlt8 : w.heap.size + 2 < W8.heap.size := Nat.lt_of_lt_of_le hlt5' hW8.size
    have hltb8 : bx < W8.heap.size := blk_lt HBX8.out
    clear hM0 hs8 hwl hM hL8 hwz hW8 hb05' m0 m1 m2
    go_wp2
    go_loopg [11, 12] (M + 1) (fun kx s11 s12 wr => ∃ (k : Nat) (z : Int), k ≤ M ∧ s12 = .int .i64 k ∧ s11 = .int .i64 z ∧ 0 ≤ z ∧ z ≤ c.quarantine ∧ M - k ≤ kx ∧ Hid (z = ((wl.drop (M - k)).map (·.size)).sum) ∧ Hid (Below W8.heap.size W8 wr))
    case atStart => exact ⟨0, 0, Nat.zero_le _, rfl, rfl, by omega, by omega, by omega, (by rw [Nat.sub_zero, ← HM.out, List.drop_length]; rfl : (0 : Int) = ((wl.drop (M - 0)).map (·.size)).sum), Below.refl _ _⟩
    case round =>
      obtain ⟨k, z, hk, rfl, rfl, z0, z1, hkx, HZ, HBr⟩ := hrel
      have hsr := HBr.out.size
      have hq3 := blk_cell ((HBr.out.block _ (blk_lt HB08.out)).trans HB08.out) 3
      simp only [List.getElem?_toArray, List.getElem?_cons_succ, List.getElem?_cons_zero] at hq3
      have hql : w.heap.size < wr.heap.size := by omega
      have hcq : c.quarantine ≤ 65536 := e9
      by_cases hlt : k < M
      · obtain ⟨j, hjj⟩ : ∃ j, j + 1 + k = M := ⟨M - 1 - k, by omega⟩
        obtain ⟨_, m1, _⟩ := (HL8.out.below HBr.out).at3 j (by rw [HM.out]; omega)
        have hbb8 : b8 < wr.heap.size := Nat.lt_of_lt_of_le HL8.out.1 hsr
        have hxs := HWZ.out wl[j]! (by rw [getElem!_pos wl j (by rw [HM.out]; omega)]; exact List.getElem_mem _)
        have hds : ((wl.drop (M - (k + 1))).map (·.size)).sum = wl[j]!.size + ((wl.drop (M - k)).map (·.size)).sum := by
          rw [show M - (k + 1) = j by omega, List.drop_eq_getElem_cons (by rw [HM.out]; omega), show j + 1 = M - k by omega, getElem!_pos wl j (by rw [HM.out]; omega)]
          rfl
        have hxi : wl[wl.length - 1 - k]! = wl[j]! := by rw [HM.out, show M - 1 - k = j by omega]
        obtain ⟨xs, hxx⟩ : ∃ z, wl[j]!.size = z := ⟨_, rfl⟩
        rw [hxx] at m1 hxs hds
        have HDS := Lib.hid hds
        have HXI := Lib.hid hxi
        have HXX := Lib.hid hxx
        obtain ⟨x0, x1⟩ := hxs
        have hj0 : (M : Int) - 1 - (k : Int) = (j : Int) := by omega
        have hj1 : (0 : Int) ≤ (j : Int) := by omega
        have hj2 : (j : Int) < (M : Int) := by omega
        have d1 : decide (k < M) = true := decide_eq_true hlt
        clear hds hxi hxx
        by_cases hfit : z + xs ≤ c.quarantine
        · have d2 : decide (z + xs ≤ c.quarantine) = true := decide_eq_true hfit
          go_wp2
          go_quiet (fail)
          go_wp2
          go_roundg (M - (k + 1))
          case measure => omega
          case rel => exact ⟨k + 1, z + xs, by omega, by go_num, rfl, by omega, by omega, by omega, (by rw [HDS.out, HZ.out]; omega : z + xs = ((wl.drop (M - (k + 1))).map (·.size)).sum), HBr.out.trans ⟨rfl, rfl, rfl, Nat.le_refl _, fun _ _ => rfl⟩⟩
        · have d2 : decide (z + xs ≤ c.quarantine) = false := decide_eq_false hfit
          have htr : trimF c.quarantine wl = wl.drop (M - k) := by
            have h := trim_of (Q := c.quarantine) (l := wl) (n := k) (fun x hx => (HWZ.out x hx).1) (by rw [HM.out]; omega) (by rw [HM.out]; omega) (by omega) (by rw [HM.out, ← HZ.out]; exact z1) (fun _ => by rw [HXI.out, HXX.out, HM.out, ← HZ.out]; omega)
            rw [HM.out] at h
            exact h
          have HTR := Lib.hid htr
          clear htr
          go_wp2
          go_quiet (fail)
          go_wp2
          obtain ⟨lo, hlo⟩ : ∃ lo, lo + k = M := ⟨M - k, by omega⟩
          have hqe : qf = wl.drop lo := by
            rw [← HQ1.out, HWLq.out, HTR.out]
            congr 1
            omega
          have hsub : (M : Int) - (k : Int) = (lo : Int) := by omega
          have hlo0 : (0 : Int) ≤ (lo : Int) := by omega
          have hlo1 : (lo : Int) ≤ (M : Int) := by omega
          have hlo2 : lo ≤ M := by omega
          have hlo3 : lo ≤ k4 := by omega
          have hlo4 : M ≤ k4 := by omega
          by_cases hc : k4 = lo
          · have hlm : lo = M := by omega
            subst hlm
            subst hc
            have HQE := Lib.hid hqe
            have HSUB := Lib.hid hsub
            refine gen_worldP (fun W => Below W8.heap.size W8 W) (HBr.out.trans ⟨rfl, rfl, rfl, Nat.le_refl _, fun _ _ => rfl⟩) ?_
            rintro W9 hW9
            have hbx9 := (hW9.block _ (blk_lt HBX8.out)).trans HBX8.out
            have hb09 := (hW9.block _ (blk_lt HB08.out)).trans HB08.out
            have HBW9 : Hid (Below w.heap.size w W9) := HBW8.out.trans (hW9.mono HBW8.out.size)
            have H49 : Hid (Below W4.heap.size W4 W9) := H48.out.trans (hW9.mono H48.out.size)
            have hbxl9 : bx < W9.heap.size := blk_lt hbx9
            have y2 : ∀ d os, (far W9 d os).cell? ⟨bx, 5, none⟩ = some (.slice A2 qf.length k2) := far_cell hbxl9 (blk_cell hbx9 5)
            have hq0 : qf = [] := by rw [hqe, List.drop_eq_nil_iff, HM.out]; omega
            have hx : Sl 3 encP W9 (.slice (some ⟨b8, o8, none⟩) 0 0) qf := ⟨_, _, by rw [hq0]; rfl, by rw [hq0]; exact Nat.le_refl _, .inl hq0⟩
            have hqlen : qf.length ≤ 61 := by rw [hqe, List.length_drop, HM.out]; omega
            have h22 : ∀ d os, Calls Try.prog 22 #[.slice A2 qf.length k2, .slice (some ⟨b8, o8, none⟩) 0 0] (far W9 d os) fun e w' => e = .returned (.bool true) ∧ Below (far W9 d os).heap.size (far W9 d os) w' := fun d os => by
              have h := c22v (.slice A2 qf.length k2) (.slice (some ⟨b8, o8, none⟩) 0 0) qf qf (far W9 d os) (by omega) (by omega) (HS2.out.below (H49.out.trans ((below_far W9 d os).mono H49.out.size))) (hx.below (below_far W9 d os))
              rw [allEq_self3] at h
              exact h
            have H22 := Lib.hid h22
            have HB09 := Lib.hid hb09
            have HBX9 := Lib.hid hbx9
            clear hq0 hqe hlo hx h22 hb09 hbx9 hW9 hsub
            have hsub := HSUB.out
            refine wp_region_far hmx (by kernel_rfl) ?_
            repeat (go_big_quiet_step ((go_at_call 22; exact Calls.far_of (H22.out _ _))))
            refine wpQuiet_nil ?_
            intro _ hw'
            obtain ⟨⟨d, os⟩, hw''⟩ := hw'
            subst hw''
            go_simp
            refine gen_worldQ (fun X => Below W9.heap.size W9 X) (below_far W9 d os) ?_
            rintro X hX
            have hb10 := (hX.block _ (blk_lt HB09.out)).trans HB09.out
            have hbx10 := (hX.block _ (blk_lt HBX9.out)).trans HBX9.out
            have HBW10 : Hid (Below w.heap.size w X) := HBW9.out.trans (hX.mono HBW9.out.size)
            have H410 : Hid (Below W4.heap.size W4 X) := H49.out.trans (hX.mono H49.out.size)
            have hb210 := (H410.out.block _ (blk_lt HB24.out)).trans HB24.out
            have HB10 := Lib.hid hb10
            have HBX10 := Lib.hid hbx10
            have HB210 := Lib.hid hb210
            have hs2 := blk_cell hb210 0
            have hlx : bx < X.heap.size := blk_lt hbx10
            have hl2 : w.heap.size + 2 < X.heap.size := blk_lt hb210
            have hl2' : w.heap.size + 1 + 1 < X.heap.size := hl2
            have hs2' : X.cell? ⟨w.heap.size + 1 + 1, 0, none⟩ = some (.int .i64 size) := hs2
            have q0 := blk_cell hb10 0
            have q1 := blk_cell hb10 1
            have q2 := blk_cell hb10 2
            have q3 := blk_cell hb10 3
            have q4 := blk_cell hb10 4
            have q5 := blk_cell hb10 5
            have q6 := blk_cell hb10 6
            simp only [List.getElem?_toArray, List.getElem?_cons_succ, List.getElem?_cons_zero] at q0 q1 q2 q3 q4 q5 q6
            have r0 := blk_cell hbx10 0
            have r1 := blk_cell hbx10 1
            have r2 := blk_cell hbx10 2
            have r3 := blk_cell hbx10 3
            have r4 := blk_cell hbx10 4
            have r5 := blk_cell hbx10 5
            have r6 := blk_cell hbx10 6
            simp only [List.getElem?_toArray, List.getElem?_cons_succ, List.getElem?_cons_zero] at r0 r1 r2 r3 r4 r5 r6
            clear hX hb10 hbx10 hb210 y2 hs2
            have hca := c23 c _ _ gi lf qf size X (HS1.out.below H410.out) (HS2.out.below H410.out) HWL1.out HWQ1.out HSH1.out HSH2.out
            have HCA := Lib.hid hca
            clear hca hsub
            go_wp2_with fail
            refine Calls.mono HCA.out ?_
            clear HCA
            rintro e w11 ⟨hB11, hans⟩
            have HBW11 : Hid (Below w.heap.size w w11) := HBW10.out.trans (hB11.mono HBW10.out.size)
            have H411 : Hid (Below W4.heap.size W4 w11) := H410.out.trans (hB11.mono H410.out.size)
            have HB11 := Lib.hid ((hB11.block _ (blk_lt HB10.out)).trans HB10.out)
            have HBX11 := Lib.hid ((hB11.block _ (blk_lt HBX10.out)).trans HBX10.out)
            have HB211 := Lib.hid ((hB11.block _ (blk_lt HB210.out)).trans HB210.out)
            have hl11 : bx < w11.heap.size := blk_lt HBX11.out
            clear q0 q1 q2 q3 q4 q5 q6
            clear r0 r1 r2 r3 r4 r5 r6
            have r0 := blk_cell HBX11.out 0
            have r1 := blk_cell HBX11.out 1
            have r2 := blk_cell HBX11.out 2
            have r3 := blk_cell HBX11.out 3
            have r4 := blk_cell HBX11.out 4
            have r5 := blk_cell HBX11.out 5
            have r6 := blk_cell HBX11.out 6
            simp only [List.getElem?_toArray, List.getElem?_cons_succ, List.getElem?_cons_zero] at r0 r1 r2 r3 r4 r5 r6
            clear hB11
            rcases hans with ⟨hng, rfl⟩ | ⟨_, hbz, rfl⟩ | ⟨L3, hop3, _, _, hno, rfl⟩ | ⟨L3, v, hop3, z2, z3, hv, hn, hg, lv', qv', rfl, hl', hq'⟩
            · exact absurd HGF.out hng
            · clear hbz
              go_wp2
              go_ret
              exact ⟨rfl, (HBW11.out.alloc HBW11.out.size _).alloc (Nat.le_trans HBW11.out.size (by simp)) _⟩
            · clear hno hop3
              go_wp2
              go_ret
              exact ⟨rfl, (HBW11.out.alloc HBW11.out.size _).alloc (Nat.le_trans HBW11.out.size (by simp)) _⟩
            have hap := room_apart hop3 HWL1.out HWQ1.out hv
            have hvr := room_range hop3 hv
            have HAP := Lib.hid hap
            have hv0 : 0 ≤ v := by omega
            have hv1 := hvr.2
            obtain ⟨A5, k5, rfl, _, _⟩ := id hl'.sl
            obtain ⟨A6, k6, rfl, _, _⟩ := id hq'.sl
            clear hap hvr hop3 hv hn hg hl' hq'
            go_wp2_with fail
            refine gen_worldC (fun W => Below w11.heap.size w11 W ∧ W.heap[w11.heap.size + 1]? = some (.cells #[.int .u32 v] 27 (0, 0))) ⟨((Below.refl _ _).alloc (Nat.le_refl _) _).alloc (by simp) _, hal_new (by simp)⟩ ?_
            rintro W12 ⟨hW12, hb14⟩
            have H412 : Hid (Below W4.heap.size W4 W12) := H411.out.trans (hW12.mono H411.out.size)
            have hh0 := (hW12.block _ (blk_lt HB11.out)).trans HB11.out
            have hh2 := (hW12.block _ (blk_lt HB211.out)).trans HB211.out
            have hfc := c24 (.slice A2 qf.length k2) qf #[.pointer (some ⟨w11.heap.size + 1, 0, none⟩), .pointer (some ⟨w.heap.size, 0, none⟩), .pointer (some ⟨w.heap.size + 1 + 1, 0, none⟩)] W12 (HS2.out.below H412.out) (by omega) (fun j hj W hW => by
              have hm : qf[j]! ∈ qf := by rw [getElem!_pos qf j hj]; exact List.getElem_mem hj
              have hpz := HFG.out.each qf[j]! (List.mem_append_right _ hm)
              exact c25 (w11.heap.size + 1) w.heap.size (w.heap.size + 1 + 1) v c.red size qf[j]! W ((hW.cell (p := ⟨w11.heap.size + 1, 0, none⟩) (blk_lt hb14)).trans (blk_cell hb14 0)) ((hW.cell (p := ⟨w.heap.size, 2, none⟩) (blk_lt hh0)).trans (blk_cell hh0 2)) ((hW.cell (p := ⟨w.heap.size + 1 + 1, 0, none⟩) (blk_lt hh2)).trans (blk_cell hh2 0))
                (Nat.lt_of_lt_of_le (blk_lt hb14) hW.size) (Nat.lt_of_lt_of_le (blk_lt hh0) hW.size) (Nat.lt_of_lt_of_le (blk_lt hh2) hW.size) hv0 hv1 e6 e7 z2 z3 (HWQ1.out _ hm) hpz.2.1 hpz.2.2.1 (HAP.out _ (List.mem_append_right _ hm)))
            have HFC := Lib.hid hfc
            have HBW12 : Hid (Below w.heap.size w W12) := HBW11.out.trans (hW12.mono HBW11.out.size)
            clear hfc hW12 hb14 hh0 hh2
            refine Calls.mono HFC.out ?_
            rintro e w13 ⟨rfl, hB13⟩
            go_wp2
            go_ret
            exact ⟨rfl, HBW12.out.trans (hB13.mono HBW12.out.size)⟩
          · have hcb : (k4 = lo) = False := eq_false hc
            have HQE := Lib.hid hqe
            have HSUB := Lib.hid hsub
            refine gen_worldP (fun W => Below W8.heap.size W8 W) (HBr.out.trans ⟨rfl, rfl, rfl, Nat.le_refl _, fun _ _ => rfl⟩) ?_
            rintro W9 hW9
            have hbx9 := (hW9.block _ (blk_lt HBX8.out)).trans HBX8.out
            have hb09 := (hW9.block _ (blk_lt HB08.out)).trans HB08.out
            have HBW9 : Hid (Below w.heap.size w W9) := HBW8.out.trans (hW9.mono HBW8.out.size)
            have H49 : Hid (Below W4.heap.size W4 W9) := H48.out.trans (hW9.mono H48.out.size)
            have hbxl9 : bx < W9.heap.size := blk_lt hbx9
            have y2 : ∀ d os, (far W9 d os).cell? ⟨bx, 5, none⟩ = some (.slice A2 qf.length k2) := far_cell hbxl9 (blk_cell hbx9 5)
            have hx : Sl 3 encP W9 (.slice (some ⟨b8, o8 + lo * 3, none⟩) (M - lo) (k4 - lo)) qf := by
              rw [hqe]
              exact sl_drop (HL8.out.below hW9) HM.out hlo2 hlo4
            have hqlen : qf.length ≤ 61 := by rw [hqe, List.length_drop, HM.out]; omega
            have h22 : ∀ d os, Calls Try.prog 22 #[.slice A2 qf.length k2, .slice (some ⟨b8, o8 + lo * 3, none⟩) (M - lo) (k4 - lo)] (far W9 d os) fun e w' => e = .returned (.bool true) ∧ Below (far W9 d os).heap.size (far W9 d os) w' := fun d os => by
              have h := c22v (.slice A2 qf.length k2) (.slice (some ⟨b8, o8 + lo * 3, none⟩) (M - lo) (k4 - lo)) qf qf (far W9 d os) (by omega) (by omega) (HS2.out.below (H49.out.trans ((below_far W9 d os).mono H49.out.size))) (hx.below (below_far W9 d os))
              rw [allEq_self3] at h
              exact h
            have H22 := Lib.hid h22
            have HB09 := Lib.hid hb09
            have HBX9 := Lib.hid hbx9
            clear hqe hlo hx h22 hb09 hbx9 hW9 hsub
            have hsub := HSUB.out
            refine wp_region_far hmx (by kernel_rfl) ?_
            repeat (go_big_quiet_step ((go_at_call 22; exact Calls.far_of (H22.out _ _))))
            refine wpQuiet_nil ?_
            intro _ hw'
            obtain ⟨⟨d, os⟩, hw''⟩ := hw'
            subst hw''
            go_simp
            refine gen_worldQ (fun X => Below W9.heap.size W9 X) (below_far W9 d os) ?_
            rintro X hX
            have hb10 := (hX.block _ (blk_lt HB09.out)).trans HB09.out
            have hbx10 := (hX.block _ (blk_lt HBX9.out)).trans HBX9.out
            have HBW10 : Hid (Below w.heap.size w X) := HBW9.out.trans (hX.mono HBW9.out.size)
            have H410 : Hid (Below W4.heap.size W4 X) := H49.out.trans (hX.mono H49.out.size)
            have hb210 := (H410.out.block _ (blk_lt HB24.out)).trans HB24.out
            have HB10 := Lib.hid hb10
            have HBX10 := Lib.hid hbx10
            have HB210 := Lib.hid hb210
            have hs2 := blk_cell hb210 0
            have hlx : bx < X.heap.size := blk_lt hbx10
            have hl2 : w.heap.size + 2 < X.heap.size := blk_lt hb210
            have hl2' : w.heap.size + 1 + 1 < X.heap.size := hl2
            have hs2' : X.cell? ⟨w.heap.size + 1 + 1, 0, none⟩ = some (.int .i64 size) := hs2
            have q0 := blk_cell hb10 0
            have q1 := blk_cell hb10 1
            have q2 := blk_cell hb10 2
            have q3 := blk_cell hb10 3
            have q4 := blk_cell hb10 4
            have q5 := blk_cell hb10 5
            have q6 := blk_cell hb10 6
            simp only [List.getElem?_toArray, List.getElem?_cons_succ, List.getElem?_cons_zero] at q0 q1 q2 q3 q4 q5 q6
            have r0 := blk_cell hbx10 0
            have r1 := blk_cell hbx10 1
            have r2 := blk_cell hbx10 2
            have r3 := blk_cell hbx10 3
            have r4 := blk_cell hbx10 4
            have r5 := blk_cell hbx10 5
            have r6 := blk_cell hbx10 6
            simp only [List.getElem?_toArray, List.getElem?_cons_succ, List.getElem?_cons_zero] at r0 r1 r2 r3 r4 r5 r6
            clear hX hb10 hbx10 hb210 y2 hs2
            have hca := c23 c _ _ gi lf qf size X (HS1.out.below H410.out) (HS2.out.below H410.out) HWL1.out HWQ1.out HSH1.out HSH2.out
            have HCA := Lib.hid hca
            clear hca hsub
            go_wp2_with fail
            refine Calls.mono HCA.out ?_
            clear HCA
            rintro e w11 ⟨hB11, hans⟩
            have HBW11 : Hid (Below w.heap.size w w11) := HBW10.out.trans (hB11.mono HBW10.out.size)
            have H411 : Hid (Below W4.heap.size W4 w11) := H410.out.trans (hB11.mono H410.out.size)
            have HB11 := Lib.hid ((hB11.block _ (blk_lt HB10.out)).trans HB10.out)
            have HBX11 := Lib.hid ((hB11.block _ (blk_lt HBX10.out)).trans HBX10.out)
            have HB211 := Lib.hid ((hB11.block _ (blk_lt HB210.out)).trans HB210.out)
            have hl11 : bx < w11.heap.size := blk_lt HBX11.out
            clear q0 q1 q2 q3 q4 q5 q6
            clear r0 r1 r2 r3 r4 r5 r6
            have r0 := blk_cell HBX11.out 0
            have r1 := blk_cell HBX11.out 1
            have r2 := blk_cell HBX11.out 2
            have r3 := blk_cell HBX11.out 3
            have r4 := blk_cell HBX11.out 4
            have r5 := blk_cell HBX11.out 5
            have r6 := blk_cell HBX11.out 6
            simp only [List.getElem?_toArray, List.getElem?_cons_succ, List.getElem?_cons_zero] at r0 r1 r2 r3 r4 r5 r6
            clear hB11
            rcases hans with ⟨hng, rfl⟩ | ⟨_, hbz, rfl⟩ | ⟨L3, hop3, _, _, hno, rfl⟩ | ⟨L3, v, hop3, z2, z3, hv, hn, hg, lv', qv', rfl, hl', hq'⟩
            · exact absurd HGF.out hng
            · clear hbz
              go_wp2
              go_ret
              exact ⟨rfl, (HBW11.out.alloc HBW11.out.size _).alloc (Nat.le_trans HBW11.out.size (by simp)) _⟩
            · clear hno hop3
              go_wp2
              go_ret
              exact ⟨rfl, (HBW11.out.alloc HBW11.out.size _).alloc (Nat.le_trans HBW11.out.size (by simp)) _⟩
            have hap := room_apart hop3 HWL1.out HWQ1.out hv
            have hvr := room_range hop3 hv
            have HAP := Lib.hid hap
            have hv0 : 0 ≤ v := by omega
            have hv1 := hvr.2
            obtain ⟨A5, k5, rfl, _, _⟩ := id hl'.sl
            obtain ⟨A6, k6, rfl, _, _⟩ := id hq'.sl
            clear hap hvr hop3 hv hn hg hl' hq'
            go_wp2_with fail
            refine gen_worldC (fun W => Below w11.heap.size w11 W ∧ W.heap[w11.heap.size + 1]? = some (.cells #[.int .u32 v] 27 (0, 0))) ⟨((Below.refl _ _).alloc (Nat.le_refl _) _).alloc (by simp) _, hal_new (by simp)⟩ ?_
            rintro W12 ⟨hW12, hb14⟩
            have H412 : Hid (Below W4.heap.size W4 W12) := H411.out.trans (hW12.mono H411.out.size)
            have hh0 := (hW12.block _ (blk_lt HB11.out)).trans HB11.out
            have hh2 := (hW12.block _ (blk_lt HB211.out)).trans HB211.out
            have hfc := c24 (.slice A2 qf.length k2) qf #[.pointer (some ⟨w11.heap.size + 1, 0, none⟩), .pointer (some ⟨w.heap.size, 0, none⟩), .pointer (some ⟨w.heap.size + 1 + 1, 0, none⟩)] W12 (HS2.out.below H412.out) (by omega) (fun j hj W hW => by
              have hm : qf[j]! ∈ qf := by rw [getElem!_pos qf j hj]; exact List.getElem_mem hj
              have hpz := HFG.out.each qf[j]! (List.mem_append_right _ hm)
              exact c25 (w11.heap.size + 1) w.heap.size (w.heap.size + 1 + 1) v c.red size qf[j]! W ((hW.cell (p := ⟨w11.heap.size + 1, 0, none⟩) (blk_lt hb14)).trans (blk_cell hb14 0)) ((hW.cell (p := ⟨w.heap.size, 2, none⟩) (blk_lt hh0)).trans (blk_cell hh0 2)) ((hW.cell (p := ⟨w.heap.size + 1 + 1, 0, none⟩) (blk_lt hh2)).trans (blk_cell hh2 0))
                (Nat.lt_of_lt_of_le (blk_lt hb14) hW.size) (Nat.lt_of_lt_of_le (blk_lt hh0) hW.size) (Nat.lt_of_lt_of_le (blk_lt hh2) hW.size) hv0 hv1 e6 e7 z2 z3 (HWQ1.out _ hm) hpz.2.1 hpz.2.2.1 (HAP.out _ (List.mem_append_right _ hm)))
            have HFC := Lib.hid hfc
            have HBW12 : Hid (Below w.heap.size w W12) := HBW11.out.trans (hW12.mono HBW11.out.size)
            clear hfc hW12 hb14 hh0 hh2
            refine Calls.mono HFC.out ?_
            rintro e w13 ⟨rfl, hB13⟩
            go_wp2
            go_ret
            exact ⟨rfl, HBW12.out.trans (hB13.mono HBW12.out.size)⟩
      · have hkM : M ≤ k := by omega
        have d1 : decide (k < M) = false := decide_eq_false (by omega)
        have htr : trimF c.quarantine wl = wl.drop (M - k) := by
          have h := trim_of (Q := c.quarantine) (l := wl) (n := k) (fun x hx => (HWZ.out x hx).1) (by rw [HM.out]; omega) (by rw [HM.out]; omega) (by omega) (by rw [HM.out, ← HZ.out]; exact z1) (fun h => by rw [HM.out] at h; omega)
          rw [HM.out] at h
          exact h
        have HTR := Lib.hid htr
        clear htr
        go_wp2
        go_quiet (fail)
        go_wp2
        obtain ⟨lo, hlo⟩ : ∃ lo, lo + k = M := ⟨M - k, by omega⟩
        have hqe : qf = wl.drop lo := by
          rw [← HQ1.out, HWLq.out, HTR.out]
          congr 1
          omega
        have hsub : (M : Int) - (k : Int) = (lo : Int) := by omega
        have hlo0 : (0 : Int) ≤ (lo : Int) := by omega
        have hlo1 : (lo : Int) ≤ (M : Int) := by omega
        have hlo2 : lo ≤ M := by omega
        have hlo3 : lo ≤ k4 := by omega
        have hlo4 : M ≤ k4 := by omega
        by_cases hc : k4 = lo
        · exact absurd hc (by omega)
        · have hcb : (k4 = lo) = False := eq_false hc
          have HQE := Lib.hid hqe
          have HSUB := Lib.hid hsub
          refine gen_worldP (fun W => Below W8.heap.size W8 W) (HBr.out.trans ⟨rfl, rfl, rfl, Nat.le_refl _, fun _ _ => rfl⟩) ?_
          rintro W9 hW9
          have hbx9 := (hW9.block _ (blk_lt HBX8.out)).trans HBX8.out
          have hb09 := (hW9.block _ (blk_lt HB08.out)).trans HB08.out
          have HBW9 : Hid (Below w.heap.size w W9) := HBW8.out.trans (hW9.mono HBW8.out.size)
          have H49 : Hid (Below W4.heap.size W4 W9) := H48.out.trans (hW9.mono H48.out.size)
          have hbxl9 : bx < W9.heap.size := blk_lt hbx9
          have y2 : ∀ d os, (far W9 d os).cell? ⟨bx, 5, none⟩ = some (.slice A2 qf.length k2) := far_cell hbxl9 (blk_cell hbx9 5)
          have hx : Sl 3 encP W9 (.slice (some ⟨b8, o8 + lo * 3, none⟩) (M - lo) (k4 - lo)) qf := by
            rw [hqe]
            exact sl_drop (HL8.out.below hW9) HM.out hlo2 hlo4
          have hqlen : qf.length ≤ 61 := by rw [hqe, List.length_drop, HM.out]; omega
          have h22 : ∀ d os, Calls Try.prog 22 #[.slice A2 qf.length k2, .slice (some ⟨b8, o8 + lo * 3, none⟩) (M - lo) (k4 - lo)] (far W9 d os) fun e w' => e = .returned (.bool true) ∧ Below (far W9 d os).heap.size (far W9 d os) w' := fun d os => by
            have h := c22v (.slice A2 qf.length k2) (.slice (some ⟨b8, o8 + lo * 3, none⟩) (M - lo) (k4 - lo)) qf qf (far W9 d os) (by omega) (by omega) (HS2.out.below (H49.out.trans ((below_far W9 d os).mono H49.out.size))) (hx.below (below_far W9 d os))
            rw [allEq_self3] at h
            exact h
          have H22 := Lib.hid h22
          have HB09 := Lib.hid hb09
          have HBX9 := Lib.hid hbx9
          clear hqe hlo hx h22 hb09 hbx9 hW9 hsub
          have hsub := HSUB.out
          refine wp_region_far hmx (by kernel_rfl) ?_
          repeat (go_big_quiet_step ((go_at_call 22; exact Calls.far_of (H22.out _ _))))
          refine wpQuiet_nil ?_
          intro _ hw'
          obtain ⟨⟨d, os⟩, hw''⟩ := hw'
          subst hw''
          go_simp
          refine gen_worldQ (fun X => Below W9.heap.size W9 X) (below_far W9 d os) ?_
          rintro X hX
          have hb10 := (hX.block _ (blk_lt HB09.out)).trans HB09.out
          have hbx10 := (hX.block _ (blk_lt HBX9.out)).trans HBX9.out
          have HBW10 : Hid (Below w.heap.size w X) := HBW9.out.trans (hX.mono HBW9.out.size)
          have H410 : Hid (Below W4.heap.size W4 X) := H49.out.trans (hX.mono H49.out.size)
          have hb210 := (H410.out.block _ (blk_lt HB24.out)).trans HB24.out
          have HB10 := Lib.hid hb10
          have HBX10 := Lib.hid hbx10
          have HB210 := Lib.hid hb210
          have hs2 := blk_cell hb210 0
          have hlx : bx < X.heap.size := blk_lt hbx10
          have hl2 : w.heap.size + 2 < X.heap.size := blk_lt hb210
          have hl2' : w.heap.size + 1 + 1 < X.heap.size := hl2
          have hs2' : X.cell? ⟨w.heap.size + 1 + 1, 0, none⟩ = some (.int .i64 size) := hs2
          have q0 := blk_cell hb10 0
          have q1 := blk_cell hb10 1
          have q2 := blk_cell hb10 2
          have q3 := blk_cell hb10 3
          have q4 := blk_cell hb10 4
          have q5 := blk_cell hb10 5
          have q6 := blk_cell hb10 6
          simp only [List.getElem?_toArray, List.getElem?_cons_succ, List.getElem?_cons_zero] at q0 q1 q2 q3 q4 q5 q6
          have r0 := blk_cell hbx10 0
          have r1 := blk_cell hbx10 1
          have r2 := blk_cell hbx10 2
          have r3 := blk_cell hbx10 3
          have r4 := blk_cell hbx10 4
          have r5 := blk_cell hbx10 5
          have r6 := blk_cell hbx10 6
          simp only [List.getElem?_toArray, List.getElem?_cons_succ, List.getElem?_cons_zero] at r0 r1 r2 r3 r4 r5 r6
          clear hX hb10 hbx10 hb210 y2 hs2
          have hca := c23 c _ _ gi lf qf size X (HS1.out.below H410.out) (HS2.out.below H410.out) HWL1.out HWQ1.out HSH1.out HSH2.out
          have HCA := Lib.hid hca
          clear hca hsub
          go_wp2_with fail
          refine Calls.mono HCA.out ?_
          clear HCA
          rintro e w11 ⟨hB11, hans⟩
          have HBW11 : Hid (Below w.heap.size w w11) := HBW10.out.trans (hB11.mono HBW10.out.size)
          have H411 : Hid (Below W4.heap.size W4 w11) := H410.out.trans (hB11.mono H410.out.size)
          have HB11 := Lib.hid ((hB11.block _ (blk_lt HB10.out)).trans HB10.out)
          have HBX11 := Lib.hid ((hB11.block _ (blk_lt HBX10.out)).trans HBX10.out)
          have HB211 := Lib.hid ((hB11.block _ (blk_lt HB210.out)).trans HB210.out)
          have hl11 : bx < w11.heap.size := blk_lt HBX11.out
          clear q0 q1 q2 q3 q4 q5 q6
          clear r0 r1 r2 r3 r4 r5 r6
          have r0 := blk_cell HBX11.out 0
          have r1 := blk_cell HBX11.out 1
          have r2 := blk_cell HBX11.out 2
          have r3 := blk_cell HBX11.out 3
          have r4 := blk_cell HBX11.out 4
          have r5 := blk_cell HBX11.out 5
          have r6 := blk_cell HBX11.out 6
          simp only [List.getElem?_toArray, List.getElem?_cons_succ, List.getElem?_cons_zero] at r0 r1 r2 r3 r4 r5 r6
          clear hB11
          rcases hans with ⟨hng, rfl⟩ | ⟨_, hbz, rfl⟩ | ⟨L3, hop3, _, _, hno, rfl⟩ | ⟨L3, v, hop3, z2, z3, hv, hn, hg, lv', qv', rfl, hl', hq'⟩
          · exact absurd HGF.out hng
          · clear hbz
            go_wp2
            go_ret
            exact ⟨rfl, (HBW11.out.alloc HBW11.out.size _).alloc (Nat.le_trans HBW11.out.size (by simp)) _⟩
          · clear hno hop3
            go_wp2
            go_ret
            exact ⟨rfl, (HBW11.out.alloc HBW11.out.size _).alloc (Nat.le_trans HBW11.out.size (by simp)) _⟩
          have hap := room_apart hop3 HWL1.out HWQ1.out hv
          have hvr := room_range hop3 hv
          have HAP := Lib.hid hap
          have hv0 : 0 ≤ v := by omega
          have hv1 := hvr.2
          obtain ⟨A5, k5, rfl, _, _⟩ := id hl'.sl
          obtain ⟨A6, k6, rfl, _, _⟩ := id hq'.sl
          clear hap hvr hop3 hv hn hg hl' hq'
          go_wp2_with fail
          refine gen_worldC (fun W => Below w11.heap.size w11 W ∧ W.heap[w11.heap.size + 1]? = some (.cells #[.int .u32 v] 27 (0, 0))) ⟨((Below.refl _ _).alloc (Nat.le_refl _) _).alloc (by simp) _, hal_new (by simp)⟩ ?_
          rintro W12 ⟨hW12, hb14⟩
          have H412 : Hid (Below W4.heap.size W4 W12) := H411.out.trans (hW12.mono H411.out.size)
          have hh0 := (hW12.block _ (blk_lt HB11.out)).trans HB11.out
          have hh2 := (hW12.block _ (blk_lt HB211.out)).trans HB211.out
          have hfc := c24 (.slice A2 qf.length k2) qf #[.pointer (some ⟨w11.heap.size + 1, 0, none⟩), .pointer (some ⟨w.heap.size, 0, none⟩), .pointer (some ⟨w.heap.size + 1 + 1, 0, none⟩)] W12 (HS2.out.below H412.out) (by omega) (fun j hj W hW => by
            have hm : qf[j]! ∈ qf := by rw [getElem!_pos qf j hj]; exact List.getElem_mem hj
            have hpz := HFG.out.each qf[j]! (List.mem_append_right _ hm)
            exact c25 (w11.heap.size + 1) w.heap.size (w.heap.size + 1 + 1) v c.red size qf[j]! W ((hW.cell (p := ⟨w11.heap.size + 1, 0, none⟩) (blk_lt hb14)).trans (blk_cell hb14 0)) ((hW.cell (p := ⟨w.heap.size, 2, none⟩) (blk_lt hh0)).trans (blk_cell hh0 2)) ((hW.cell (p := ⟨w.heap.size + 1 + 1, 0, none⟩) (blk_lt hh2)).trans (blk_cell hh2 0))
              (Nat.lt_of_lt_of_le (blk_lt hb14) hW.size) (Nat.lt_of_lt_of_le (blk_lt hh0) hW.size) (Nat.lt_of_lt_of_le (blk_lt hh2) hW.size) hv0 hv1 e6 e7 z2 z3 (HWQ1.out _ hm) hpz.2.1 hpz.2.2.1 (HAP.out _ (List.mem_append_right _ hm)))
          have HFC := Lib.hid hfc
          have HBW12 : Hid (Below w.heap.size w W12) := HBW11.out.trans (hW12.mono HBW11.out.size)
          clear hfc hW12 hb14 hh0 hh2
          refine Calls.mono HFC.out ?_
          rintro e w13 ⟨rfl, hB13⟩
          go_wp2
          go_ret
          exact ⟨rfl, HBW12.out.trans (hB13.mono HBW12.out.size)⟩
end Go.Proofs.Ytbhbjcgbhklieaa
