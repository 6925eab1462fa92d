/- slices.Contains at pieces. -/
import Derived.Test.YtbhbjcgbhklieaaC7
import Derived.Test.YtbhbjcgbhklieaaE4
namespace Go.Proofs.Ytbhbjcgbhklieaa
open Go.RowKit Go.Shelf

theorem eqlP : EqlAt Try.prog 38 (fun x : Piece => .agg (encP x).toArray) eqP := by
  refine ⟨fun x y w => ?_, fun op a b x y w => ?_⟩
  · simp only [encP]
    go_simp
    unfold eqP
    by_cases h1 : x.pos = y.pos <;> by_cases h2 : x.size = y.size <;> by_cases h3 : x.born = y.born <;> simp [h1, h2, h3]
  · simp only [encP]
    unfold eqGuard
    split <;> go_simp

theorem eqP_iff (x y : Piece) : eqP x y = true ↔ x = y := by
  cases x; cases y; simp [eqP]
set_option maxRecDepth 100000 in
theorem c82_nil (A : Option Addr) (c : Nat) (p : Piece) (w : World) :
    Calls Try.prog 82 #[.slice A 0 c, .agg (encP p).toArray] w fun e w' => e = .returned (.int .i64 (-1)) ∧ Below w.heap.size w w' := by
  unfold encP
  go_enter Try.func82, Try.ntmps82
  go_wp2
  refine wp_loop_rounds 1 ?_
  rw [rounds_succ]
  go_wp2
  go_ret
  exact ⟨rfl, below_alloc1 _ _⟩
theorem c43_nil (A : Option Addr) (c : Nat) (p : Piece) (w : World) :
    Calls Try.prog 43 #[.slice A 0 c, .agg (encP p).toArray] w fun e w' => e = .returned (.bool false) ∧ Below w.heap.size w w' := by
  have h := fun W => c82_nil A c p W
  unfold encP at h ⊢
  go_enter Try.func43, Try.ntmps43
  go_wp2_with fail
  refine Calls.mono (h _) ?_
  rintro e w' ⟨rfl, hB⟩
  go_wp2
  go_ret
  first | exact ⟨rfl, hB⟩ | exact ⟨rfl, (below_alloc1 _ _).trans (hB.mono (by simp))⟩
theorem c43 (v : Value) (zs : List Piece) (p : Piece) (w : World) (hs : Sl 3 encP w v zs) (hn : zs.length ≤ 100000) :
    Calls Try.prog 43 #[v, .agg (encP p).toArray] w fun e w' => e = .returned (.bool (decide (p ∈ zs))) ∧ Below w.heap.size w w' := by
  obtain ⟨A, c, rfl, _, rfl | ⟨b, off, rfl, hl⟩⟩ := hs
  · refine (c43_nil A c p w).mono ?_
    rintro e w' ⟨rfl, hB⟩
    exact ⟨by simp, hB⟩
  · have h := AnyQ.slices_Contains Try.containsP 3 Try.isAgg38 Try.sizeOf38 encP encP_len eqP eqlP b off zs.length c zs p w (Nat.le_refl _) (by omega) hl.2
    change Calls Try.prog 43 _ _ _ at h
    refine h.mono ?_
    rintro e w' ⟨rfl, hB⟩
    refine ⟨?_, hB⟩
    congr 2
    rw [List.take_length, Bool.eq_iff_iff, List.any_eq_true, decide_eq_true_iff]
    constructor
    · rintro ⟨y, hy, he⟩; rw [(eqP_iff _ _).1 he]; exact hy
    · intro hp; exact ⟨p, hp, (eqP_iff _ _).2 rfl⟩
end Go.Proofs.Ytbhbjcgbhklieaa
