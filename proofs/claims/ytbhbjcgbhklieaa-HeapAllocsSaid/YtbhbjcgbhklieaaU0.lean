/- Parts of a list of pieces in memory. -/
import Derived.Test.YtbhbjcgbhklieaaF3
namespace Go.Proofs.Ytbhbjcgbhklieaa
open Go.RowKit Go.Shelf

theorem sl_take {W : World} {A : Option Addr} {n k i : Nat} {l : List Piece} (h : Sl 3 encP W (.slice A n k) l) (hn : l.length = n) (hi : i ≤ n) : Sl 3 encP W (.slice A i k) (l.take i) := by
  obtain ⟨A', c', e, hc, hl⟩ := h
  cases e
  refine ⟨A, k, by rw [List.length_take, Nat.min_eq_left (by omega)], by rw [List.length_take]; omega, hl.imp (fun h => by rw [h]; simp) ?_⟩
  rintro ⟨b, off, rfl, hL⟩
  refine ⟨b, off, rfl, hL.1, fun j hj u v hv => hL.2 j ?_ u v ?_⟩
  · rw [List.length_take] at hj; omega
  · rw [List.length_take] at hj
    rw [getElem!_pos _ j (by rw [List.length_take]; exact hj), List.getElem_take] at hv
    rw [getElem!_pos _ j (by omega)]
    exact hv
theorem sl_from {W : World} {b off : Nat} {n k i : Nat} {l : List Piece} (h : Sl 3 encP W (.slice (some ⟨b, off, none⟩) n k) l) (hn : l.length = n) (hi : i ≤ n) : Sl 3 encP W (.slice (some ⟨b, off + i * 3, none⟩) (n - i) (k - i)) (l.drop i) := by
  obtain ⟨A', c', e, hc, hl⟩ := h
  cases e
  refine ⟨_, _, by rw [List.length_drop, hn], by rw [List.length_drop]; omega, ?_⟩
  rcases hl with rfl | ⟨b', off', e, hL⟩
  · exact .inl (by simp)
  · cases e
    refine .inr ⟨b, off + i * 3, rfl, hL.1, fun j hj u v hv => ?_⟩
    rw [List.length_drop] at hj
    have := hL.2 (i + j) (by omega) u v (by
      rw [getElem!_pos _ j (by rw [List.length_drop]; omega), List.getElem_drop] at hv
      rw [getElem!_pos _ (i + j) (by omega)]
      exact hv)
    rw [← this]
    congr 2
    omega
theorem sl_single {W : World} {nb : Nat} {p : Piece} (h : W.heap[nb]? = some (.cells #[.int .u32 p.pos, .int .i64 p.size, .int .i64 p.born] 38 (0, 0))) : Sl 3 encP W (.slice (some ⟨nb, 0, none⟩) 1 1) [p] := by
  refine ⟨some ⟨nb, 0, none⟩, 1, rfl, Nat.le_refl _, .inr ⟨nb, 0, rfl, blk_lt h, fun j hj i v hv => ?_⟩⟩
  obtain rfl : j = 0 := by simpa using hj
  rw [blk_cell h]
  simpa [encP] using hv
theorem sl_noneA {W : World} {b off lo : Nat} {cap : Nat} {zs : List Piece} (h : zs = []) (n : Nat) (hn : n = lo) : Sl 3 encP W (.slice (some ⟨b, off, none⟩) (n - lo) (cap - lo)) zs := by
  subst h hn
  exact ⟨_, _, by rw [Nat.sub_self]; rfl, Nat.zero_le _, .inl rfl⟩
theorem own_belowA {w W : World} {base : Nat} {e : TypeId} {k : Nat} {v : Value} {n : Nat} {xs : List Value} (h : w.ownsRow base e k v n xs) (hW : Below w.heap.size w W) : W.ownsRow base e k v n xs :=
  ⟨h.1, h.2.imp id fun ⟨g, cap, cur, hv, hb, hg, rest⟩ => ⟨g, cap, cur, hv, hb, (hW.block g (blk_lt hg)).trans hg, rest⟩⟩
end Go.Proofs.Ytbhbjcgbhklieaa
