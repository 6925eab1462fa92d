/- slices.SortFunc at extents: whatever slice value. -/
import Derived.Test.YtbhbjcgbhklieaaA6
namespace Go.Proofs.Ytbhbjcgbhklieaa
open Go.RowKit Go.Sort

theorem c87v (L : List Ext) (w : World) (base : Nat) (v : Value) (hown : w.ownsRow base 115 7 v L.length (L.flatMap encE)) (hsz : L.length < 4611686018427387904) :
    Calls Try.prog 87 #[v, .func (.func 88) #[] #[]] w fun e w' => e = .returned (.tuple #[]) ∧
      ∃ L' : List Ext, L'.Perm L ∧ (∀ i j, i < j → j < L'.length → L'[i]!.fr ≤ L'[j]!.fr) ∧ Sl 7 encE w' v L' ∧ w.grownBy w' v.ownBlock := by
  rcases hown.2 with ⟨rfl, h0⟩ | ⟨g, cap, cur, rfl, h1, h2, h3, h4, h5, h6⟩
  · have hL : L = [] := List.eq_nil_of_length_eq_zero h0
    subst hL
    have h := AnyF.slices_SortFunc_none Try.sortE none 0 (.func (.func 88) #[] #[]) w
    change Calls Try.prog 87 _ _ _ at h
    refine h.mono ?_
    rintro e w' ⟨rfl, rfl⟩
    exact ⟨rfl, [], .refl _, fun i j _ hj => by simp at hj, ⟨none, 0, rfl, Nat.le_refl _, .inl rfl⟩, ⟨rfl, rfl, rfl, Nat.le_refl _, fun _ _ _ => rfl⟩⟩
  · refine (c87 L w base g cap hown hsz).mono ?_
    rintro e w' ⟨he, L', hp, hs, hl, hg⟩
    exact ⟨he, L', hp, hs, ⟨some ⟨g, 0, none⟩, cap, by rw [hp.length_eq], by rw [hp.length_eq]; exact h3, .inr ⟨g, 0, rfl, hl⟩⟩, hg⟩
end Go.Proofs.Ytbhbjcgbhklieaa
