/- Gaps, room, and what the quarantine keeps: plain facts. -/
import Derived.Test.YtbhbjcgbhklieaaC2
import Derived.Test.YtbhbjcgbhklieaaD2
namespace Go.Proofs.Ytbhbjcgbhklieaa
open Go.RowKit

def Ch : Int → List Ext → Int → Prop
  | s, [], e => s ≤ e
  | s, x :: L, e => s ≤ x.fr ∧ x.fr < x.to ∧ Ch x.to L e
theorem Ch.le : ∀ {s : Int} {L : List Ext} {e : Int}, Ch s L e → s ≤ e
  | _, [], _, h => h
  | _, _ :: _, _, ⟨h1, h2, h3⟩ => by have := h3.le; omega
theorem Ch.mem : ∀ {s : Int} {L : List Ext} {e : Int}, Ch s L e → ∀ x ∈ L, s ≤ x.fr ∧ x.fr < x.to ∧ x.to ≤ e
  | _, [], _, _, _, h => by cases h
  | _, y :: L, _, ⟨h1, h2, h3⟩, x, hx => by
    rcases List.mem_cons.1 hx with rfl | hx
    · exact ⟨h1, h2, h3.le⟩
    · have := h3.mem x hx; omega

theorem ch_of : ∀ (L : List Ext) (s e : Int), (∀ x ∈ L, x.fr < x.to ∧ x.to ≤ e) → Adj L → (∀ x, L.head? = some x → s ≤ x.fr) → s ≤ e → Ch s L e
  | [], _, _, _, _, _, h => h
  | x :: L, s, e, h1, h2, h3, _ => by
    refine ⟨h3 x rfl, (h1 x (List.mem_cons_self ..)).1, ch_of L x.to e (fun y hy => h1 y (List.mem_cons_of_mem _ hy)) (fun j hj => ?_) (fun y hy => ?_) (h1 x (List.mem_cons_self ..)).2⟩
    · simpa using h2 (j + 1) (by simpa using hj)
    · cases L with
      | nil => cases hy
      | cons z L => cases hy; simpa using h2 0 (by simp)

theorem Op.ch {c : Conf} {gi : Int} {live quar : List Piece} {L : List Ext} (h : Op c gi live quar L) : Ch (c.page * 256) L ((c.page + c.n) * 256) := by
  have hb := h.good.conf
  simp only [okConf, decide_eq_true_eq] at hb
  have hok := ((okGo_iff c gi [] _).1 h.good.ok).1
  have hx : ∀ x ∈ L, c.page * 256 ≤ x.fr ∧ x.to ≤ (c.page + c.n) * 256 := fun x hx => (hok x (h.perm.mem_iff.1 hx)).2.2.2.2.2.2
  refine ch_of L _ _ (fun x hm => ⟨(h.ext x hm).1, (hx x hm).2⟩) h.adj (fun x e => (hx x (List.mem_of_mem_head? e)).1) (by omega)

theorem gaps_spec : ∀ {L : List Ext} {s e : Int}, Ch s L e → ∀ g ∈ gapsGo e s L, s ≤ g.1 ∧ g.1 < g.2 ∧ g.2 ≤ e ∧ ∀ x ∈ L, x.to ≤ g.1 ∨ g.2 ≤ x.fr
  | [], s, e, h, g, hg => by
    simp only [gapsGo] at hg
    split at hg
    · simp at hg; subst hg; exact ⟨Int.le_refl _, by assumption, Int.le_refl _, fun _ h => by cases h⟩
    · cases hg
  | x :: L, s, e, ⟨h1, h2, h3⟩, g, hg => by
    simp only [gapsGo] at hg
    rcases List.mem_append.1 hg with hg | hg
    · split at hg
      · simp at hg; subst hg
        refine ⟨Int.le_refl _, by assumption, by have := h3.le; simp only; omega, fun y hy => .inr ?_⟩
        rcases List.mem_cons.1 hy with rfl | hy
        · exact Int.le_refl _
        · have := h3.mem y hy; simp only; omega
      · cases hg
    · obtain ⟨a1, a2, a3, a4⟩ := gaps_spec h3 g hg
      refine ⟨by omega, a2, a3, fun y hy => ?_⟩
      rcases List.mem_cons.1 hy with rfl | hy
      · exact .inl a1
      · exact a4 y hy
theorem gaps_len : ∀ (L : List Ext) (s e : Int), (gapsGo e s L).length ≤ L.length + 1
  | [], s, e => by simp only [gapsGo]; split <;> simp
  | x :: L, s, e => by
    have := gaps_len L x.to e
    simp only [gapsGo, List.length_append, List.length_cons]
    split <;> simp <;> omega
theorem Op.gaps {c : Conf} {gi : Int} {live quar : List Piece} {L : List Ext} (h : Op c gi live quar L) : (∀ g ∈ gapsF c L, 256 ≤ g.1 ∧ g.1 < g.2 ∧ g.2 ≤ 4294967296 ∧ ∀ x ∈ L, x.to ≤ g.1 ∨ g.2 ≤ x.fr) ∧ (gapsF c L).length ≤ 2001 := by
  have hb := h.good.conf
  simp only [okConf, decide_eq_true_eq] at hb
  refine ⟨fun g hg => ?_, ?_⟩
  · obtain ⟨a1, a2, a3, a4⟩ := gaps_spec h.ch g hg
    exact ⟨by omega, a2, by omega, a4⟩
  · have := gaps_len L (c.page * 256) ((c.page + c.n) * 256); have := h.len; unfold gapsF; omega

def firstF (red a : Int) : Int := (a + red + 7) / 8 * 8
def roomGo (red size : Int) : List (Int × Int) → Option Int
  | [] => none
  | g :: r => if firstF red g.1 + max size 1 + red ≤ g.2 then some (firstF red g.1) else roomGo red size r
theorem roomGo_append (red size : Int) : ∀ (l r : List (Int × Int)), roomGo red size l = none → roomGo red size (l ++ r) = roomGo red size r
  | [], _, _ => rfl
  | g :: l, r, h => by
    simp only [roomGo, List.cons_append] at h ⊢
    split at h
    · cases h
    · rw [if_neg (by assumption)]; exact roomGo_append red size l r h
theorem roomGo_pre (red size : Int) : ∀ (l r : List (Int × Int)) (v : Int), roomGo red size l = some v → roomGo red size (l ++ r) = some v
  | [], _, _, h => by cases h
  | g :: l, r, v, h => by
    simp only [roomGo, List.cons_append] at h ⊢
    split at h
    · rw [if_pos (by assumption)]; exact h
    · rw [if_neg (by assumption)]; exact roomGo_pre red size l r v h
theorem roomGo_spec (red size : Int) : ∀ (l : List (Int × Int)) (v : Int), roomGo red size l = some v → ∃ g ∈ l, v = firstF red g.1 ∧ v + max size 1 + red ≤ g.2
  | [], _, h => by cases h
  | g :: l, v, h => by
    simp only [roomGo] at h
    split at h
    · cases h; exact ⟨g, List.mem_cons_self .., rfl, by assumption⟩
    · obtain ⟨g', h1, h2⟩ := roomGo_spec red size l v h
      exact ⟨g', List.mem_cons_of_mem _ h1, h2⟩

/-- what the quarantine keeps of a list: its longest end within the limits. -/
def trimF (Q : Int) : List Piece → List Piece
  | [] => []
  | p :: l => if 1000 < l.length + 1 ∨ Q < p.size + (l.map (·.size)).sum then trimF Q l else p :: l
theorem trimF_suffix (Q : Int) : ∀ l, trimF Q l <:+ l
  | [] => List.suffix_refl _
  | p :: l => by
    simp only [trimF]
    split
    · exact (trimF_suffix Q l).trans (List.suffix_cons _ _)
    · exact List.suffix_refl _
theorem trimF_ok {Q : Int} (h : 0 ≤ Q) : ∀ l, (trimF Q l).length ≤ 1000 ∧ ((trimF Q l).map (·.size)).sum ≤ Q
  | [] => by simpa [trimF] using h
  | p :: l => by
    simp only [trimF]
    split
    · exact trimF_ok h l
    · rename_i hn
      simp only [not_or, Nat.not_lt, Int.not_lt] at hn
      exact ⟨by simpa using hn.1, by simpa using hn.2⟩
theorem trimF_most {Q : Int} : ∀ {l s : List Piece}, s <:+ l → s.length ≤ 1000 → (s.map (·.size)).sum ≤ Q → s <:+ trimF Q l
  | [], s, h, _, _ => by simpa [trimF] using h
  | p :: l, s, h, h1, h2 => by
    simp only [trimF]
    split
    · rename_i hn
      rcases List.suffix_cons_iff.1 h with rfl | h
      · simp at h1 h2; omega
      · exact trimF_most h h1 h2
    · exact h

theorem at_of {live : List Piece} (h : live.Pairwise (fun p q => p.pos < q.pos)) {i : Nat} (hi : i < live.length) : atI live live[i]!.pos = i ∧ isI live live[i]!.pos = true := by
  rw [List.pairwise_iff_getElem] at h
  have h1 : atI live live[i]!.pos = i := by
    unfold atI bsAt
    refine countP_boundary _ live i (Nat.le_of_lt hi) (fun t ht => ?_) (fun t h3 h4 => ?_)
    · have := h t i (by omega) hi ht
      rw [getElem!_pos live i hi, getElem!_pos live t (by omega)]
      simp only [decide_eq_true_eq]
      unfold cmpI; rw [if_pos this]; decide
    · rw [getElem!_pos live i hi, getElem!_pos live t h4]
      have : live[i].pos ≤ live[t].pos := by
        rcases Nat.lt_or_eq_of_le h3 with h5 | rfl
        · exact Int.le_of_lt (h i t hi h4 h5)
        · exact Int.le_refl _
      simp only [decide_eq_false_iff_not]
      unfold cmpI; rw [if_neg (by omega)]; split <;> decide
  refine ⟨h1, ?_⟩
  unfold isI bsIs
  rw [show bsAt (fun x : Piece => cmpI x.pos live[i]!.pos) live = i from h1]
  simp [hi, cmpI]
/-- the sorted list of a good heap is known by any one. -/
theorem Op.unique {c : Conf} {gi : Int} {live quar : List Piece} {L L' : List Ext} (h : Op c gi live quar L) (hp : L'.Perm (items c.red live quar)) (hs : L'.Pairwise (fun x y => x.fr < y.fr)) : L = L' := by
  have hL : L.Pairwise (fun x y => x.fr < y.fr) := by
    rw [List.pairwise_iff_getElem]
    intro i j hi hj hij
    have h1 := h.adj i (by omega)
    have h2 := (h.ext L[i] (List.getElem_mem hi)).1
    rw [getElem!_pos L i hi, getElem!_pos L (i + 1) (by omega)] at h1
    rcases Nat.lt_or_eq_of_le (show i + 1 ≤ j from hij) with h5 | h5
    · have h3 := h.fr (i + 1) j h5 hj
      rw [getElem!_pos L j hj, getElem!_pos L (i + 1) (by omega)] at h3
      omega
    · subst h5; omega
  exact List.Perm.eq_of_pairwise (fun a b _ _ h1 h2 => by omega) hL hs (h.perm.trans hp.symm)
end Go.Proofs.Ytbhbjcgbhklieaa
