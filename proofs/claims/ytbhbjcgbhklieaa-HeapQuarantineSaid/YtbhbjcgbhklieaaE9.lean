/- slices.Equal at spans. -/
import Derived.Test.YtbhbjcgbhklieaaC6
import Derived.Test.YtbhbjcgbhklieaaE6
namespace Go.Proofs.Ytbhbjcgbhklieaa
open Go.RowKit Go.Shelf

/-- a span as it lies: where it begins, how long it is. -/
def encN (s : Int × Int) : List Value := [.int .u32 s.1, .int .i64 s.2]
theorem encN_len : ∀ s, (encN s).length = 2 := fun _ => rfl

def eqS (x y : Int × Int) : Bool := decide (x.1 = y.1) && decide (x.2 = y.2)
theorem neqS : NeqAt Try.prog 53 (fun x : Int × Int => .agg (encN x).toArray) eqS := by
  refine ⟨fun x y w => ?_, fun op a b x y w => ?_⟩
  · simp only [encN]
    go_simp
    unfold eqS
    by_cases h1 : x.1 = y.1 <;> by_cases h2 : x.2 = y.2 <;> simp [h1, h2]
  · simp only [encN]
    unfold eqGuard
    split <;> go_simp

set_option maxRecDepth 100000 in
set_option maxHeartbeats 2000000 in
theorem c39 (b1 o1 c b2 o2 d n : Nat) (xs ys : List (Int × Int)) (w : World) (hn : xs.length = n) (hm : ys.length = n) (n1 : n ≤ 100000) (h1 : Lies 2 encN w b1 o1 xs) (h2 : Lies 2 encN w b2 o2 ys) :
    Calls Try.prog 39 #[.slice (some ⟨b1, o1, none⟩) n c, .slice (some ⟨b2, o2, none⟩) n d] w fun e w' => e = .returned (.bool (decide (xs = ys))) ∧ Below w.heap.size w w' := by
  have H1 := Lib.hid h1
  have H2 := Lib.hid h2
  have HN := Lib.hid hn
  have HM := Lib.hid hm
  clear h1 h2 hn hm
  go_enter Try.func39, Try.ntmps39
  go_wp2
  go_loopg [13] n (fun kx s13 wr => ∃ k : Nat, k ≤ n ∧ s13 = .int .i64 k ∧ n - k ≤ kx ∧ Hid (∀ j, j < k → xs[j]! = ys[j]!) ∧ Hid (Below w.heap.size w wr))
  case atStart => exact ⟨0, Nat.zero_le _, rfl, by omega, fun j hj => by omega, Below.refl _ _⟩
  case round =>
    obtain ⟨k, hk, rfl, hkx, HA, HB⟩ := hrel
    by_cases hlt : k < n
    · have l0 := (H1.out.below HB.out).2 k (by rw [HN.out]; exact hlt) 0 _ rfl
      have l1 := (H1.out.below HB.out).2 k (by rw [HN.out]; exact hlt) 1 _ rfl
      have m0 := (H2.out.below HB.out).2 k (by rw [HM.out]; exact hlt) 0 _ rfl
      have m1 := (H2.out.below HB.out).2 k (by rw [HM.out]; exact hlt) 1 _ rfl
      simp only [Nat.add_zero] at l0 m0
      obtain ⟨x, hx⟩ : ∃ x, xs[k]! = x := ⟨_, rfl⟩
      obtain ⟨y, hy⟩ : ∃ y, ys[k]! = y := ⟨_, rfl⟩
      rw [hx] at l0 l1
      rw [hy] at m0 m1
      have HX := Lib.hid hx
      have HY := Lib.hid hy
      clear hx hy
      have hrun : ∀ w : World, (binOp .neq 53 (.agg #[.int .u32 x.1, .int .i64 x.2]) (.agg #[.int .u32 y.1, .int .i64 y.2])).run Try.prog w = .ok (.bool (!eqS x y)) w := fun w => neqS.1 x y w
      cases hxy : eqS x y with
      | true =>
        rw [hxy] at hrun
        have HXY : Hid (x = y) := by
          unfold eqS at hxy
          simp only [Bool.and_eq_true, decide_eq_true_eq] at hxy
          exact Prod.ext hxy.1 hxy.2
        clear hxy
        go_wp2
        go_quiet (fail)
        go_wp2
        go_roundg (n - (k + 1))
        case measure => omega
        case rel =>
          refine ⟨k + 1, by omega, by go_num, Nat.le_refl _, fun j hj => ?_, below_drewN HB.out _⟩
          rcases Nat.lt_or_eq_of_le (Nat.le_of_lt_succ hj) with h | rfl
          · exact HA.out j h
          · rw [HX.out, HY.out, HXY.out]
      | false =>
        rw [hxy] at hrun
        have HXY : Hid (x ≠ y) := by
          rintro rfl
          simp [eqS] at hxy
        clear hxy
        go_wp2
        go_quiet (fail)
        go_wp2
        go_ret
        refine ⟨?_, below_drewN HB.out _⟩
        rw [decide_eq_false (show ¬ xs = ys from by rintro rfl; exact HXY.out (HX.out.symm.trans HY.out))]
        rfl
    · obtain rfl : k = n := by omega
      go_wp2
      go_ret
      refine ⟨?_, HB.out⟩
      have he : xs = ys := by
        refine List.ext_getElem (HN.out.trans HM.out.symm) fun j h1 h2 => ?_
        have := HA.out j (by rw [← HN.out]; exact h1)
        rwa [getElem!_pos xs j h1, getElem!_pos ys j h2] at this
      rw [decide_eq_true he]
      rfl

theorem c39_len (A B : Option Addr) (n c m d : Nat) (w : World) (h : n ≠ m) :
    Calls Try.prog 39 #[.slice A n c, .slice B m d] w fun e w' => e = .returned (.bool false) ∧ w' = w := by
  have h' : (n : Int) ≠ (m : Int) := by omega
  go_enter Try.func39, Try.ntmps39
  go_wp2
  go_ret
  exact ⟨rfl, rfl⟩
theorem c39_nil (A B : Option Addr) (c d : Nat) (w : World) :
    Calls Try.prog 39 #[.slice A 0 c, .slice B 0 d] w fun e w' => e = .returned (.bool true) ∧ w' = w := by
  go_enter Try.func39, Try.ntmps39
  go_wp2
  refine wp_loop_rounds 1 ?_
  rw [rounds_succ]
  go_wp2
  go_ret
  exact ⟨rfl, rfl⟩
theorem c39v (v1 v2 : Value) (xs ys : List (Int × Int)) (w : World) (n1 : xs.length ≤ 100000) (n2 : ys.length ≤ 100000) (h1 : Sl 2 encN w v1 xs) (h2 : Sl 2 encN w v2 ys) :
    Calls Try.prog 39 #[v1, v2] w fun e w' => e = .returned (.bool (decide (xs = ys))) ∧ Below w.heap.size w w' := by
  obtain ⟨A, ca, rfl, _, h1⟩ := h1
  obtain ⟨B, cb, rfl, _, h2⟩ := h2
  by_cases hl : xs.length = ys.length
  · rcases h1 with rfl | ⟨b1, o1, rfl, h1⟩
    · have : ys = [] := List.eq_nil_of_length_eq_zero hl.symm
      subst this
      exact (c39_nil A B ca cb w).mono fun e w' ⟨he, hw⟩ => ⟨by rw [he]; rfl, by rw [hw]; exact Below.refl _ _⟩
    · rcases h2 with rfl | ⟨b2, o2, rfl, h2⟩
      · have : xs = [] := List.eq_nil_of_length_eq_zero hl
        subst this
        exact (c39_nil _ B ca cb w).mono fun e w' ⟨he, hw⟩ => ⟨by rw [he]; rfl, by rw [hw]; exact Below.refl _ _⟩
      · rw [hl]; exact c39 b1 o1 ca b2 o2 cb _ xs ys w hl rfl n2 h1 h2
  · exact (c39_len A B _ ca _ cb w hl).mono fun e w' ⟨he, hw⟩ => ⟨by rw [he, decide_eq_false (fun e => hl (by rw [e]))], by rw [hw]; exact Below.refl _ _⟩

/-- what Gaps returns, as spans. -/
def spans (c : Conf) (L : List Ext) : List (Int × Int) := (gapsF c L).map fun g => (g.1, g.2 - g.1)
theorem spans_flat (c : Conf) (L : List Ext) : (gapsF c L).flatMap encS = (spans c L).flatMap encN := by
  unfold spans; rw [List.flatMap_map]; rfl
theorem sl_of_own {w : World} {base : Nat} {v : Value} {n : Nat} {zs : List (Int × Int)} (h : w.ownsRow base 53 2 v n (zs.flatMap encN)) (hn : n = zs.length) : Sl 2 encN w v zs := by
  subst hn
  rcases h.2 with ⟨rfl, h0⟩ | ⟨g, cap, cur, rfl, hb, hg, hc, hm, hcs, ht⟩
  · exact ⟨none, 0, by rw [h0], by omega, .inl (List.eq_nil_of_length_eq_zero h0)⟩
  · refine ⟨_, _, rfl, hc, .inr ⟨g, 0, rfl, blk_lt hg, fun j hj i v hv => ?_⟩⟩
    have hi : i < 2 := (List.getElem?_eq_some_iff.1 hv).1
    have h1 : (zs.flatMap encN)[j * 2 + i]? = some v := by rw [flat_get encN 2 encN_len zs j i hj hi]; exact hv
    rw [row_cell hg, Nat.zero_add, ← h1, ← ht, List.getElem?_take_of_lt (by omega)]
/-- Gaps: the list of spans. -/
theorem c27v (c : Conf) (lv qv : Value) (gi : Int) (live quar : List Piece) (w : World) (hl : Sl 3 encP w lv live) (hq : Sl 3 encP w qv quar) (wl : ∀ p ∈ live, WfP p) (wq : ∀ p ∈ quar, WfP p) :
    Calls Try.prog 27 #[hAgg c lv qv gi] w fun e w' => Below w.heap.size w w' ∧
      ((¬ Good c gi live quar ∧ e = .returned (.slice none 0 0)) ∨ (∃ L v, Op c gi live quar L ∧ e = .returned v ∧ Sl 2 encN w' v (spans c L))) := by
  refine (callsIn_wide.1 (c27 c lv qv gi live quar w hl hq wl wq)).mono ?_
  rintro e w' ⟨hB, h | ⟨L, v, hL, rfl, ho⟩⟩
  · exact ⟨hB, .inl h⟩
  · rw [spans_flat] at ho
    exact ⟨hB, .inr ⟨L, v, hL, rfl, sl_of_own ho (by simp [spans])⟩⟩
end Go.Proofs.Ytbhbjcgbhklieaa
