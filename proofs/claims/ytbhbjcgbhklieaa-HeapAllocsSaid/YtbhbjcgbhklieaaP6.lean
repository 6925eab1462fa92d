/- What a call does is one thing. -/
import Derived.Test.YtbhbjcgbhklieaaS1
import Derived.Test.YtbhbjcgbhklieaaP1
namespace Go.Proofs.Ytbhbjcgbhklieaa
open Go.RowKit Go.Shelf

theorem op_pair {c : Conf} {gi : Int} {live quar : List Piece} {L : List Ext} (h : Op c gi live quar L) : L.Pairwise (fun x y => x.fr < y.fr) := by
  rw [List.pairwise_iff_getElem]
  intro i j hi hj hij
  have h1 := h.adj i (by omega)
  have h2 := (h.ext L[i] (List.getElem_mem hi)).1
  rw [getElem!_pos L i hi, getElem!_pos L (i + 1) (by omega)] at h1
  rcases Nat.lt_or_eq_of_le (show i + 1 ≤ j from hij) with h5 | h5
  · have h3 := h.fr (i + 1) j h5 hj
    rw [getElem!_pos L j hj, getElem!_pos L (i + 1) (by omega)] at h3
    omega
  · subst h5; omega
theorem op_one {c : Conf} {gi : Int} {live quar : List Piece} {L L' : List Ext} (h : Op c gi live quar L) (h' : Op c gi live quar L') : L = L' := h.unique h'.perm (op_pair h')
theorem AllocP.one {c : Conf} {gi : Int} {live quar : List Piece} {size e a e' a' : Int} {r r' : HRes} (h : AllocP c gi live quar size e a r) (h' : AllocP c gi live quar size e' a' r') : e = e' ∧ a = a' ∧ r = r' := by
  rcases h with ⟨g, rfl, rfl, rfl⟩ | ⟨g, z, rfl, rfl, rfl⟩ | ⟨L, o, z0, z1, n, rfl, rfl, rfl⟩ | ⟨L, o, z0, z1, v, n1, n2, rfl, rfl⟩ <;>
  rcases h' with ⟨g', rfl, rfl, rfl⟩ | ⟨g', z', rfl, rfl, rfl⟩ | ⟨L', o', z0', z1', n', rfl, rfl, rfl⟩ | ⟨L', o', z0', z1', v', n1', n2', rfl, rfl⟩
  · exact ⟨rfl, rfl, rfl⟩
  · exact absurd g' g
  · exact absurd o'.good g
  · exact absurd o'.good g
  · exact absurd g g'
  · exact ⟨rfl, rfl, rfl⟩
  · omega
  · omega
  · exact absurd o.good g'
  · omega
  · exact ⟨rfl, rfl, rfl⟩
  · rw [op_one o o', v'] at n
    rcases n with h | h | h
    · cases h
    · exact absurd h n1'
    · exact absurd h n2'
  · exact absurd o.good g'
  · omega
  · rw [← op_one o o', v] at n'
    rcases n' with h | h | h
    · cases h
    · exact absurd h n1
    · exact absurd h n2
  · rw [← op_one o o', v] at v'
    cases v'
    exact ⟨rfl, rfl, rfl⟩
theorem FreeP.one {c : Conf} {gi : Int} {live quar : List Piece} {tg e e' : Int} {r r' : HRes} (h : FreeP c gi live quar tg e r) (h' : FreeP c gi live quar tg e' r') : e = e' ∧ r = r' := by
  rcases h with ⟨g, rfl, rfl⟩ | ⟨g, i, rfl, rfl⟩ | ⟨g, i, rfl, rfl⟩ <;> rcases h' with ⟨g', rfl, rfl⟩ | ⟨g', i', rfl, rfl⟩ | ⟨g', i', rfl, rfl⟩
  · exact ⟨rfl, rfl⟩
  · exact absurd g' g
  · exact absurd g' g
  · exact absurd g g'
  · exact ⟨rfl, rfl⟩
  · rw [i] at i'; cases i'
  · exact absurd g g'
  · rw [i] at i'; cases i'
  · exact ⟨rfl, rfl⟩
theorem ResizeP.one {c : Conf} {gi : Int} {live quar : List Piece} {tg size e a e' a' : Int} {r r' : HRes} (h : ResizeP c gi live quar tg size e a r) (h' : ResizeP c gi live quar tg size e' a' r') : e = e' ∧ a = a' ∧ r = r' := by
  rcases h with ⟨g, rfl, rfl, rfl⟩ | ⟨g, i, rfl, rfl, rfl⟩ | ⟨g, i, z, rfl, rfl, rfl⟩ | ⟨L, o, i, z0, z1, n, rfl, rfl, rfl⟩ | ⟨L, o, i, z0, z1, v, n1, n2, rfl, rfl⟩ <;>
  rcases h' with ⟨g', rfl, rfl, rfl⟩ | ⟨g', i', rfl, rfl, rfl⟩ | ⟨g', i', z', rfl, rfl, rfl⟩ | ⟨L', o', i', z0', z1', n', rfl, rfl, rfl⟩ | ⟨L', o', i', z0', z1', v', n1', n2', rfl, rfl⟩
  all_goals first
    | exact ⟨rfl, rfl, rfl⟩
    | exact absurd g' g
    | exact absurd g g'
    | exact absurd o'.good g
    | exact absurd o.good g'
    | (rw [i] at i'; contradiction)
    | omega
    | (rw [op_one o o', v'] at n; rcases n with h | h | h <;> first | exact absurd h n1' | exact absurd h n2' | contradiction)
    | (rw [← op_one o o', v] at n'; rcases n' with h | h | h <;> first | exact absurd h n1 | exact absurd h n2 | contradiction)
    | (rw [← op_one o o', v] at v'; cases v'; exact ⟨rfl, rfl, rfl⟩)
theorem DoesP.one {c : Conf} {gi : Int} {live quar : List Piece} {o : OpV} {e a e' a' : Int} {r r' : HRes} (h : DoesP c gi live quar o e a r) (h' : DoesP c gi live quar o e' a' r') : e = e' ∧ a = a' ∧ r = r' := by
  unfold DoesP at h h'
  by_cases h0 : o.kind = 0
  · rw [if_pos h0] at h h'; exact h.one h'
  · rw [if_neg h0] at h h'
    by_cases h1 : o.kind = 1
    · rw [if_pos h1] at h h'
      have := h.2.one h'.2
      exact ⟨this.1, h.1.trans h'.1.symm, this.2⟩
    · rw [if_neg h1] at h h'; exact h.one h'
end Go.Proofs.Ytbhbjcgbhklieaa
