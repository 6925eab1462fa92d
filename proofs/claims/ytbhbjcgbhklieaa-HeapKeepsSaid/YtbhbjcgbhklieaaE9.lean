/- Gaps. | slices.Equal at spans. -/
import Derived.Test.YtbhbjcgbhklieaaE4
import Derived.RangeFuncBox
import Derived.Test.YtbhbjcgbhklieaaC7
namespace Go.Proofs.Ytbhbjcgbhklieaa
open Go.RowKit Go.Shelf
attribute [local go_sem] Oper.semAt_some

def encS (g : Int × Int) : List Value := [.int .u32 g.1, .int .i64 (g.2 - g.1)]
theorem info53 : ∃ i, Try.prog.info? 53 = some i ∧ i.zero = some (.agg #[.int .u32 0, .int .i64 0]) ∧ i.size = 2 ∧ i.bytes = 16 := by
  have h : (Try.prog.info? 53).map (fun i => (i.zero, i.size, i.bytes)) = some (some (.agg #[.int .u32 0, .int .i64 0]), 2, 16) := by kernel_rfl
  cases hi : Try.prog.info? 53 with
  | none => rw [hi] at h; cases h
  | some i => rw [hi] at h; simp at h; exact ⟨i, rfl, h.1, h.2.1, h.2.2⟩

set_option maxRecDepth 100000 in
set_option maxHeartbeats 4000000 in
theorem c27 (c : Conf) (lv qv : Value) (gi : Int) (live quar : List Piece) (w : World) (hl : Sl 3 encP w lv live) (hq : Sl 3 encP w qv quar) (wl : ∀ p ∈ live, WfP p) (wq : ∀ p ∈ quar, WfP p) :
    CallsIn Fence.wide 9 Try.prog 27 #[hAgg c lv qv gi] w fun e w' => Below w.heap.size w w' ∧
      ((¬ Good c gi live quar ∧ e = .returned (.slice none 0 0)) ∨
       (∃ L v, Op c gi live quar L ∧ e = .returned v ∧ w'.ownsRow w.heap.size 53 2 v (gapsF c L).length ((gapsF c L).flatMap encS))) := by
  have hw1 := below_alloc1 w (.cells #[.int .i64 c.page, .int .i64 c.n, .int .i64 c.red, .int .i64 c.quarantine, lv, qv, .int .i64 gi] 26)
  have hcall := c68' c lv qv gi live quar _ (hl.below hw1) (hq.below hw1) wl wq
  have HW1 := Lib.hid hw1
  clear wl wq hw1 hl hq
  refine callsIn_of_wp_marks Try.func27 rfl trivial ?_ rfl
  simp only [Try.ntmps27, List.size_toArray, List.length_cons, List.length_nil, Nat.reduceAdd, Nat.reduceSub, Array.replicate_succ, Array.replicate_zero, List.push_toArray, List.append_toArray, List.nil_append, List.cons_append]
  have f68 : Fence.wide.fn 68 := trivial
  have f76 : Fence.wide.fn 76 := trivial
  have f99 : Fence.wide.fn 99 := trivial
  gi_wp2_with fail
  refine CallsIn.mono (callsIn_wide.2 hcall) ?_
  rintro e w1 ⟨hB, hr⟩
  have hBw : Below w.heap.size w w1 := HW1.out.trans (hB.mono (by simp; try omega))
  have hsz : w.heap.size + 1 ≤ w1.heap.size := by have := hB.size; simpa using this
  simp only [World.size_alloc] at hr
  clear hB hcall
  obtain ⟨hg, p, rfl⟩ | ⟨rfl, L, hL, hH⟩ := hr
  · have HBW := Lib.hid hBw
    clear hBw
    gi_wp2
    exact ⟨_, results_tmp rfl _ _ _, HBW.out, .inl ⟨hg, rfl⟩⟩
  have hok := hL.good.conf
  have hlen := hL.len
  have hgp := hL.gaps
  have HOP := Lib.hid hL
  have HH := Lib.hid hH
  have HBW := Lib.hid hBw
  have HOK := Lib.hid hok
  obtain ⟨G, hG⟩ : ∃ G, gapsF c L = G := ⟨_, rfl⟩
  rw [hG] at hgp
  have HG := Lib.hid hG
  have HGP := Lib.hid hgp.1
  have hGn := hgp.2
  obtain ⟨lsv, hbl, _⟩ := hH.out
  have hgl := blk_lt hbl
  clear hL hH hBw hok hG hgp hbl
  gi_wp2_with (gi_at_call 76; refine (c76 _ _ _).mono ?_; rintro e w' ⟨rfl, rfl⟩)
  refine gen_world (fun W => Below w1.heap.size w1 W ∧ W.heap.size = w1.heap.size + 2 ∧ Boxed W w1.heap.size 50 (.slice none 0 0) ∧ W.heap[w1.heap.size + 1]? = some (.cells #[.pointer (some ⟨w.heap.size + 1 + 3, 0, none⟩)] 97 (0, 0))) ?_ ?_
  · refine ⟨?_, by simp, ?_, ?_⟩
    rotate_left
    · exact hal_old (hal_new rfl)
    · exact hal_new (by simp)
    repeat' first | exact Below.refl _ _ | refine Below.alloc ?_ (by simp; try omega) _
  rintro W0 ⟨hB0, hs0, hbx0, hk4⟩
  obtain ⟨i0, hi, hz0, hz1, hz2⟩ := info53
  refine wpIn_rangeFunc_ownT _ rfl (by omega) (gf := 99) (lb := #[.pointer (some ⟨w1.heap.size + 1, 0, none⟩)]) rfl f99 (enters_of Try.func99 (by kernel_rfl) rfl)
    (s99r 8 (by omega) (w1.heap.size + 1) (w.heap.size + 1 + 3) c lv qv gi L (fun k => k = w1.heap.size) 53 (by decide) w1 W0 HOK.out (by omega) (blk_cell hk4 0) HH.out hB0 (fun k hk => by subst hk; omega) (by omega) G HG.out)
    KpR.trans (fun W l o o' _ hl ho _ => KpR.put W l o o' hl ho) (Below.refl _ _) (fun _ => rfl)
    (fun pre W => (∃ v, Boxed W w1.heap.size 50 v ∧ W.ownsRow W0.heap.size 53 2 v pre.length ((pre.map (·.1)).flatMap encS)) ∧ (Below w1.heap.size w1 W ∧ W0.heap.size ≤ W.heap.size))
    (fun cd pre W => False)
    (OwnFrom.and ?hI (OwnFrom.and (ownFrom_below (Nat.le_refl _) (by omega)) (ownFrom_size _ _)))
    (fun cd => ownFrom_pure _ _)
    ⟨⟨_, hbx0, World.ownsRow_nil _ _ _ _⟩, hB0, Nat.le_refl _⟩
    (fun T x a' W => a' = { tmps := (((T.setIfInBounds 17 (.int .i64 x.1.1)).setIfInBounds 18 (.int .i64 x.1.2)).setIfInBounds 6 (.int .i64 x.1.1)).setIfInBounds 7 (.int .i64 x.1.2), defers := [] })
    (fun x a' => ownFrom_pure _ _) ?assign ?body ?done ?stop
  case hI =>
    rintro s X Y row ⟨v, hv, hr⟩ hg hrow
    refine ⟨v, hv.kept hg (fun e => ?_), hr.kept hg ?_⟩
    · obtain ⟨_, o, ho, hc⟩ := hrow _ e.symm
      rw [show X.heap[w1.heap.size]? = _ from hv] at ho; cases ho; cases hc
    · rcases hr.2 with ⟨rfl, _⟩ | ⟨g, cap, cur, rfl, _, hgb, _⟩
      · exact .inl rfl
      · refine .inr fun e => ?_
        obtain ⟨_, o, ho, hc⟩ := hrow g (by simpa [Value.ownBlock] using e.symm)
        rw [hgb] at ho; cases ho; cases hc
  case assign =>
    rintro l pre x W K ⟨⟨v, hv, hr⟩, hB, hz⟩ hK
    gi_wp2
    refine hK _ _ ((KeepsOthers.refl _).from _) (KpR.refl _ _ _ _) ⟨⟨v, hv, hr⟩, hB, hz⟩ rfl
  case body =>
    rintro l pre ⟨⟨fr, to⟩, hm⟩ a' W hl hloop ⟨⟨v, hv, hr⟩, hB, hz⟩ rfl hlt
    have hbd := HGP.out (fr, to) hm
    simp only at hbd
    obtain ⟨q1, q2, q3, q4⟩ := hbd
    have hc := hv.cell
    have hu : IntKind.u32.wrap fr = fr := by simp only [IntKind.wrap, IntKind.bits, IntKind.signed]; simp; omega
    have hu2 : IntKind.i64.wrap (to - fr) = to - fr := by rw [IntKind.wrap_i64]; omega
    have HV := Lib.hid hv
    have HR := Lib.hid hr
    have HB := Lib.hid hB
    clear q4 hloop hv hr hB
    have hnews : ∀ j u, [Value.int .u32 fr, .int .i64 (to - fr)][j]? = some u → (W.alloc (.cells #[.int .u32 fr, .int .i64 (to - fr)] 53)).cell? ((⟨W.heap.size, 0, none⟩ : Addr).add j) = some u := fun j u hu => by
      rw [Addr.add_lit, Nat.zero_add, blk_cell (hal_new rfl)]; simpa using hu
    have HNEWS := Lib.hid hnews
    clear hnews
    gi_wp2_with (gi_at_builtin; refine wpListIn_append_own _ rfl _ _ 50 rfl W0.heap.size 53 i0 (.agg #[.int .u32 0, .int .i64 0]) 2 16 Try.underlying50 hi hz0 hz1 hz2 rfl (by decide) _ _ _ rfl (HR.out.alloc _) ⟨W.heap.size, 0, none⟩ 1 1 [.int .u32 fr, .int .i64 (to - fr)] rfl rfl HNEWS.out (by simp [Value.oneCell']) (by unfold maxLen; omega) (by omega) (by simp; omega) ?_; intro v' w4 hown' hgrow _; obtain ⟨g', cap', rfl⟩ := ownsRow_succ hown'; have hv1 : Boxed w4 w1.heap.size 50 v := (HV.out.alloc _).kept hgrow (HV.out.not_row (by decide) HR.out); have HV1 := Lib.hid hv1; have HOWN := Lib.hid hown'; have HGROW := Lib.hid hgrow; have hc1 := hv1.cell; have hf1 := hv1.frozen; clear hv1 hown' hgrow)
    obtain ⟨k1, k2, k3, k4, k5⟩ := Boxed.appended (n₀ := w1.heap.size) (tmp := .cells #[.int .u32 fr, .int .i64 (to - fr)] 53) HV.out (by decide) (own_base HR.out (by omega)) (by omega) (Nat.le_refl _) (own_base HOWN.out (by omega)) HGROW.out
    have hrow' : (w4.setCell ⟨w1.heap.size, 0, none⟩ (.slice (some ⟨g', 0, none⟩) (pre.length + 1) cap')).ownsRow W0.heap.size 53 2 (.slice (some ⟨g', 0, none⟩) (pre.length + 1) cap') (pre.length + 1) ((pre.map (·.1)).flatMap encS ++ [.int .u32 fr, .int .i64 (to - fr)]) := own_blk HOWN.out fun g hg => Below.heap_setCell _ _ _ _ (by have := own_lt HOWN.out g hg; show g ≠ w1.heap.size; omega)
    have hkp : KpR 53 W0.heap.size (fun k => k = w1.heap.size) W (w4.setCell ⟨w1.heap.size, 0, none⟩ (.slice (some ⟨g', 0, none⟩) (pre.length + 1) cap')) := by
      refine (KpR.of_none (World.grownBy_alloc W (.cells #[.int .u32 fr, .int .i64 (to - fr)] 53) none)).trans ((KpR.of_grownBy HGROW.out fun j e => .inr ?_).trans (KpR.of_grownBy (grownBy_setCell' _ _ _) fun j e => .inl (by cases e; rfl)))
      have h0 := ownB HR.out j e.symm
      obtain ⟨h1, cur, h2⟩ := h0
      exact ⟨h1, cur, _, hal_old h2⟩
    refine ⟨k4.from _, hkp, ⟨⟨_, k2, ?_⟩, HB.out.trans k5, ?_⟩⟩
    · have := hrow'
      simpa [encS] using this
    · have h1 := HGROW.out.size
      simp only [World.size_setCell, World.size_alloc] at h1 ⊢
      omega
  case done =>
    rintro D zs W hD hS ⟨⟨v, hv, hr⟩, hB, hz⟩ hK
    have hc := hv.cell
    have HV := Lib.hid hv
    have HR := Lib.hid hr
    have HB := Lib.hid hB
    clear hv hr hB
    gi_wp2
    refine ⟨by simp, .inl ⟨_, _, rfl, run_takeDeferred hK, ?_⟩⟩
    refine ⟨_, results_tmp rfl _ _ _, (HBW.out.trans (HB.out.mono (by omega))).grown (grownBy_putObj' W D _) (by have := HB.out.size; omega) (fun k e => by cases e; omega), .inr ⟨L, v, HOP.out, rfl, ?_⟩⟩
    rw [HG.out, ← hS, List.length_map]
    exact own_base (ownsRow_putObj HR.out _ hK rfl) (by omega)
  case stop =>
    rintro D cd pre W hD _ h _
    exact h.elim
end Go.Proofs.Ytbhbjcgbhklieaa

namespace Go.Proofs.Ytbhbjcgbhklieaa
open Go.RowKit Go.Shelf

/-- a span as it lies: where it begins, how long it is. -/
def encN (s : Int × Int) : List Value := [.int .u32 s.1, .int .i64 s.2]
theorem encN_len : ∀ s, (encN s).length = 2 := fun _ => rfl

def eqS (x y : Int × Int) : Bool := decide (x.1 = y.1) && decide (x.2 = y.2)
theorem neqS : NeqAt Try.prog 53 (fun x : Int × Int => .agg (encN x).toArray) eqS := by
  refine ⟨fun x y w => ?_, fun op a b x y w => ?_⟩
  · simp only [encN]
    go_simp
    unfold eqS
    by_cases h1 : x.1 = y.1 <;> by_cases h2 : x.2 = y.2 <;> simp [h1, h2]
  · simp only [encN]
    unfold eqGuard
    split <;> go_simp

set_option maxRecDepth 100000 in
set_option maxHeartbeats 2000000 in
theorem c39 (b1 o1 c b2 o2 d n : Nat) (xs ys : List (Int × Int)) (w : World) (hn : xs.length = n) (hm : ys.length = n) (n1 : n ≤ 100000) (h1 : Lies 2 encN w b1 o1 xs) (h2 : Lies 2 encN w b2 o2 ys) :
    Calls Try.prog 39 #[.slice (some ⟨b1, o1, none⟩) n c, .slice (some ⟨b2, o2, none⟩) n d] w fun e w' => e = .returned (.bool (decide (xs = ys))) ∧ Below w.heap.size w w' := by
  have H1 := Lib.hid h1
  have H2 := Lib.hid h2
  have HN := Lib.hid hn
  have HM := Lib.hid hm
  clear h1 h2 hn hm
  go_enter Try.func39, Try.ntmps39
  go_wp2
  go_loopg [13] n (fun kx s13 wr => ∃ k : Nat, k ≤ n ∧ s13 = .int .i64 k ∧ n - k ≤ kx ∧ Hid (∀ j, j < k → xs[j]! = ys[j]!) ∧ Hid (Below w.heap.size w wr))
  case atStart => exact ⟨0, Nat.zero_le _, rfl, by omega, fun j hj => by omega, Below.refl _ _⟩
  case round =>
    obtain ⟨k, hk, rfl, hkx, HA, HB⟩ := hrel
    by_cases hlt : k < n
    · have l0 := (H1.out.below HB.out).2 k (by rw [HN.out]; exact hlt) 0 _ rfl
      have l1 := (H1.out.below HB.out).2 k (by rw [HN.out]; exact hlt) 1 _ rfl
      have m0 := (H2.out.below HB.out).2 k (by rw [HM.out]; exact hlt) 0 _ rfl
      have m1 := (H2.out.below HB.out).2 k (by rw [HM.out]; exact hlt) 1 _ rfl
      simp only [Nat.add_zero] at l0 m0
      obtain ⟨x, hx⟩ : ∃ x, xs[k]! = x := ⟨_, rfl⟩
      obtain ⟨y, hy⟩ : ∃ y, ys[k]! = y := ⟨_, rfl⟩
      rw [hx] at l0 l1
      rw [hy] at m0 m1
      have HX := Lib.hid hx
      have HY := Lib.hid hy
      clear hx hy
      have hrun : ∀ w : World, (binOp .neq 53 (.agg #[.int .u32 x.1, .int .i64 x.2]) (.agg #[.int .u32 y.1, .int .i64 y.2])).run Try.prog w = .ok (.bool (!eqS x y)) w := fun w => neqS.1 x y w
      cases hxy : eqS x y with
      | true =>
        rw [hxy] at hrun
        have HXY : Hid (x = y) := by
          unfold eqS at hxy
          simp only [Bool.and_eq_true, decide_eq_true_eq] at hxy
          exact Prod.ext hxy.1 hxy.2
        clear hxy
        go_wp2
        go_quiet (fail)
        go_wp2
        go_roundg (n - (k + 1))
        case measure => omega
        case rel =>
          refine ⟨k + 1, by omega, by go_num, Nat.le_refl _, fun j hj => ?_, below_drewN HB.out _⟩
          rcases Nat.lt_or_eq_of_le (Nat.le_of_lt_succ hj) with h | rfl
          · exact HA.out j h
          · rw [HX.out, HY.out, HXY.out]
      | false =>
        rw [hxy] at hrun
        have HXY : Hid (x ≠ y) := by
          rintro rfl
          simp [eqS] at hxy
        clear hxy
        go_wp2
        go_quiet (fail)
        go_wp2
        go_ret
        refine ⟨?_, below_drewN HB.out _⟩
        rw [decide_eq_false (show ¬ xs = ys from by rintro rfl; exact HXY.out (HX.out.symm.trans HY.out))]
        rfl
    · obtain rfl : k = n := by omega
      go_wp2
      go_ret
      refine ⟨?_, HB.out⟩
      have he : xs = ys := by
        refine List.ext_getElem (HN.out.trans HM.out.symm) fun j h1 h2 => ?_
        have := HA.out j (by rw [← HN.out]; exact h1)
        rwa [getElem!_pos xs j h1, getElem!_pos ys j h2] at this
      rw [decide_eq_true he]
      rfl

theorem c39_len (A B : Option Addr) (n c m d : Nat) (w : World) (h : n ≠ m) :
    Calls Try.prog 39 #[.slice A n c, .slice B m d] w fun e w' => e = .returned (.bool false) ∧ w' = w := by
  have h' : (n : Int) ≠ (m : Int) := by omega
  go_enter Try.func39, Try.ntmps39
  go_wp2
  go_ret
  exact ⟨rfl, rfl⟩
theorem c39_nil (A B : Option Addr) (c d : Nat) (w : World) :
    Calls Try.prog 39 #[.slice A 0 c, .slice B 0 d] w fun e w' => e = .returned (.bool true) ∧ w' = w := by
  go_enter Try.func39, Try.ntmps39
  go_wp2
  refine wp_loop_rounds 1 ?_
  rw [rounds_succ]
  go_wp2
  go_ret
  exact ⟨rfl, rfl⟩
theorem c39v (v1 v2 : Value) (xs ys : List (Int × Int)) (w : World) (n1 : xs.length ≤ 100000) (n2 : ys.length ≤ 100000) (h1 : Sl 2 encN w v1 xs) (h2 : Sl 2 encN w v2 ys) :
    Calls Try.prog 39 #[v1, v2] w fun e w' => e = .returned (.bool (decide (xs = ys))) ∧ Below w.heap.size w w' := by
  obtain ⟨A, ca, rfl, _, h1⟩ := h1
  obtain ⟨B, cb, rfl, _, h2⟩ := h2
  by_cases hl : xs.length = ys.length
  · rcases h1 with rfl | ⟨b1, o1, rfl, h1⟩
    · have : ys = [] := List.eq_nil_of_length_eq_zero hl.symm
      subst this
      exact (c39_nil A B ca cb w).mono fun e w' ⟨he, hw⟩ => ⟨by rw [he]; rfl, by rw [hw]; exact Below.refl _ _⟩
    · rcases h2 with rfl | ⟨b2, o2, rfl, h2⟩
      · have : xs = [] := List.eq_nil_of_length_eq_zero hl
        subst this
        exact (c39_nil _ B ca cb w).mono fun e w' ⟨he, hw⟩ => ⟨by rw [he]; rfl, by rw [hw]; exact Below.refl _ _⟩
      · rw [hl]; exact c39 b1 o1 ca b2 o2 cb _ xs ys w hl rfl n2 h1 h2
  · exact (c39_len A B _ ca _ cb w hl).mono fun e w' ⟨he, hw⟩ => ⟨by rw [he, decide_eq_false (fun e => hl (by rw [e]))], by rw [hw]; exact Below.refl _ _⟩

/-- what Gaps returns, as spans. -/
def spans (c : Conf) (L : List Ext) : List (Int × Int) := (gapsF c L).map fun g => (g.1, g.2 - g.1)
theorem spans_flat (c : Conf) (L : List Ext) : (gapsF c L).flatMap encS = (spans c L).flatMap encN := by
  unfold spans; rw [List.flatMap_map]; rfl
theorem sl_of_own {w : World} {base : Nat} {v : Value} {n : Nat} {zs : List (Int × Int)} (h : w.ownsRow base 53 2 v n (zs.flatMap encN)) (hn : n = zs.length) : Sl 2 encN w v zs := by
  subst hn
  rcases h.2 with ⟨rfl, h0⟩ | ⟨g, cap, cur, rfl, hb, hg, hc, hm, hcs, ht⟩
  · exact ⟨none, 0, by rw [h0], by omega, .inl (List.eq_nil_of_length_eq_zero h0)⟩
  · refine ⟨_, _, rfl, hc, .inr ⟨g, 0, rfl, blk_lt hg, fun j hj i v hv => ?_⟩⟩
    have hi : i < 2 := (List.getElem?_eq_some_iff.1 hv).1
    have h1 : (zs.flatMap encN)[j * 2 + i]? = some v := by rw [flat_get encN 2 encN_len zs j i hj hi]; exact hv
    rw [row_cell hg, Nat.zero_add, ← h1, ← ht, List.getElem?_take_of_lt (by omega)]
/-- Gaps: the list of spans. -/
theorem c27v (c : Conf) (lv qv : Value) (gi : Int) (live quar : List Piece) (w : World) (hl : Sl 3 encP w lv live) (hq : Sl 3 encP w qv quar) (wl : ∀ p ∈ live, WfP p) (wq : ∀ p ∈ quar, WfP p) :
    Calls Try.prog 27 #[hAgg c lv qv gi] w fun e w' => Below w.heap.size w w' ∧
      ((¬ Good c gi live quar ∧ e = .returned (.slice none 0 0)) ∨ (∃ L v, Op c gi live quar L ∧ e = .returned v ∧ Sl 2 encN w' v (spans c L))) := by
  refine (callsIn_wide.1 (c27 c lv qv gi live quar w hl hq wl wq)).mono ?_
  rintro e w' ⟨hB, h | ⟨L, v, hL, rfl, ho⟩⟩
  · exact ⟨hB, .inl h⟩
  · rw [spans_flat] at ho
    exact ⟨hB, .inr ⟨L, v, hL, rfl, sl_of_own ho (by simp [spans])⟩⟩
end Go.Proofs.Ytbhbjcgbhklieaa
