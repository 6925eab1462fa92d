/- slices.Equal at pieces. -/
import Derived.Test.YtbhbjcgbhklieaaS0
import Derived.Test.YtbhbjcgbhklieaaC1
import Derived.Shelf.SlicesQ.Equal
import Derived.Ground.SlgqProg
namespace Go.Proofs.Ytbhbjcgbhklieaa
open Go.RowKit Go.Shelf

def eqP (x y : Piece) : Bool := decide (x.pos = y.pos) && (decide (x.size = y.size) && decide (x.born = y.born))

theorem neqP : NeqAt Try.prog 38 (fun x : Piece => .agg (encP x).toArray) eqP := by
  refine ⟨fun x y w => ?_, fun op a b x y w => ?_⟩
  · simp only [encP]
    go_simp
    unfold eqP
    by_cases h1 : x.pos = y.pos <;> by_cases h2 : x.size = y.size <;> by_cases h3 : x.born = y.born <;> simp [h1, h2, h3]
  · simp only [encP]
    unfold eqGuard
    split <;> go_simp

theorem c22 (b1 o1 n c b2 o2 m d : Nat) (xs ys : List Piece) (w : World) (hn : n = xs.length) (hm : m = ys.length) (n1 : xs.length ≤ 100000) (n2 : ys.length ≤ 100000) (h1 : Lies 3 encP w b1 o1 xs) (h2 : Lies 3 encP w b2 o2 ys) :
    Calls Try.prog 22 #[.slice (some ⟨b1, o1, none⟩) n c, .slice (some ⟨b2, o2, none⟩) m d] w fun e w' => e = .returned (.bool (Lib.allEq eqP xs ys)) ∧ Below w.heap.size w w' := by
  subst hn; subst hm
  have h := AnyQ.slices_Equal Try.equalP 3 Try.isAgg38 Try.sizeOf38 encP encP_len eqP neqP b1 o1 xs.length c b2 o2 ys.length d xs ys w (Nat.le_refl _) (Nat.le_refl _) (by omega) (by omega) h1.2 h2.2
  change Calls Try.prog 22 _ _ _ at h
  refine h.mono ?_
  rintro e w' ⟨rfl, q, rfl⟩
  exact ⟨by rw [List.take_length, List.take_length], ⟨rfl, rfl, rfl, Nat.le_refl _, fun _ _ => rfl⟩⟩
end Go.Proofs.Ytbhbjcgbhklieaa
