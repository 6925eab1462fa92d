/- slices.Equal at pieces: whatever slice values. -/
import Derived.Test.YtbhbjcgbhklieaaC6
namespace Go.Proofs.Ytbhbjcgbhklieaa
open Go.RowKit Go.Shelf

theorem c22_len (A B : Option Addr) (n c m d : Nat) (w : World) (h : n ≠ m) :
    Calls Try.prog 22 #[.slice A n c, .slice B m d] w fun e w' => e = .returned (.bool false) ∧ w' = w := by
  have h' : (n : Int) ≠ (m : Int) := by omega
  go_enter Try.func22, Try.ntmps22
  go_wp2
  go_ret
  exact ⟨rfl, rfl⟩

theorem c22_nil (A B : Option Addr) (c d : Nat) (w : World) :
    Calls Try.prog 22 #[.slice A 0 c, .slice B 0 d] w fun e w' => e = .returned (.bool true) ∧ w' = w := by
  go_enter Try.func22, Try.ntmps22
  go_wp2
  refine wp_loop_rounds 1 ?_
  rw [rounds_succ]
  go_wp2
  go_ret
  exact ⟨rfl, rfl⟩

theorem allEq_len : ∀ (xs ys : List Piece), xs.length ≠ ys.length → Lib.allEq eqP xs ys = false
  | [], [], h => absurd rfl h
  | [], _ :: _, _ => rfl
  | _ :: _, [], _ => rfl
  | x :: xs, y :: ys, h => by
    have := allEq_len xs ys (by simpa using h)
    simp [Lib.allEq, this]

theorem c22v (v1 v2 : Value) (xs ys : List Piece) (w : World) (n1 : xs.length ≤ 100000) (n2 : ys.length ≤ 100000) (h1 : Sl 3 encP w v1 xs) (h2 : Sl 3 encP w v2 ys) :
    Calls Try.prog 22 #[v1, v2] w fun e w' => e = .returned (.bool (Lib.allEq eqP xs ys)) ∧ Below w.heap.size w w' := by
  obtain ⟨A, ca, rfl, _, h1⟩ := h1
  obtain ⟨B, cb, rfl, _, h2⟩ := h2
  by_cases hl : xs.length = ys.length
  · rcases h1 with rfl | ⟨b1, o1, rfl, h1⟩
    · have : ys = [] := List.eq_nil_of_length_eq_zero hl.symm
      subst this
      exact (c22_nil A B ca cb w).mono fun e w' ⟨he, hw⟩ => ⟨by rw [he]; rfl, by rw [hw]; exact Below.refl _ _⟩
    · rcases h2 with rfl | ⟨b2, o2, rfl, h2⟩
      · have : xs = [] := List.eq_nil_of_length_eq_zero hl
        subst this
        exact (c22_nil _ B ca cb w).mono fun e w' ⟨he, hw⟩ => ⟨by rw [he]; rfl, by rw [hw]; exact Below.refl _ _⟩
      · exact c22 b1 o1 _ ca b2 o2 _ cb xs ys w rfl rfl n1 n2 h1 h2
  · exact (c22_len A B _ ca _ cb w hl).mono fun e w' ⟨he, hw⟩ => ⟨by rw [he, allEq_len xs ys hl], by rw [hw]; exact Below.refl _ _⟩
end Go.Proofs.Ytbhbjcgbhklieaa
