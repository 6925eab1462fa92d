/- Plain laws: a good heap with one more block; freed again. -/
import Derived.Test.YtbhbjcgbhklieaaE4
import Derived.Test.YtbhbjcgbhklieaaF6
namespace Go.Proofs.Ytbhbjcgbhklieaa
open Go.RowKit

theorem cmpI_lt (x y : Int) : cmpI x y < 0 ↔ x < y := by unfold cmpI; split <;> (try split) <;> omega
theorem atI_cons (a : Piece) (l : List Piece) (v : Int) : atI (a :: l) v = atI l v + (if a.pos < v then 1 else 0) := by
  unfold atI bsAt
  rw [List.countP_cons]
  by_cases h : a.pos < v <;> simp [cmpI_lt, h]
/-- a sorted list is cut where an address belongs. -/
theorem cut_of (v : Int) : ∀ (l : List Piece), l.Pairwise (fun p q => p.pos < q.pos) → (∀ p ∈ l.take (atI l v), p.pos < v) ∧ (∀ p ∈ l.drop (atI l v), v ≤ p.pos)
  | [], _ => by simp
  | a :: l, h => by
    have h1 := List.pairwise_cons.1 h
    obtain ⟨h2, h3⟩ := cut_of v l h1.2
    rw [atI_cons]
    by_cases ha : a.pos < v
    · rw [if_pos ha, List.take_succ_cons, List.drop_succ_cons]
      refine ⟨fun p hp => ?_, h3⟩
      rcases List.mem_cons.1 hp with rfl | hp
      · exact ha
      · exact h2 p hp
    · rw [if_neg ha, Nat.add_zero]
      have hz : atI l v = 0 := by
        unfold atI bsAt
        rw [List.countP_eq_zero]
        intro p hp
        have := h1.1 p hp
        simp only [decide_eq_true_eq, cmpI_lt]
        omega
      rw [hz]
      refine ⟨fun p hp => by simp at hp, fun p hp => ?_⟩
      simp only [List.drop_zero] at hp
      rcases List.mem_cons.1 hp with rfl | hp
      · omega
      · have := h1.1 p hp; omega
theorem insF_perm (l : List Piece) (i : Nat) (p : Piece) : (insF l i p).Perm (p :: l) := by
  unfold insF
  refine List.perm_middle.trans ?_
  rw [List.take_append_drop]
theorem djP_comm {r : Int} {p q : Piece} (h : DjP r p q) : DjP r q p := Or.symm h

/-- Alloc leaves a good heap. -/
theorem alloc_good {c : Conf} {gi : Int} {live quar : List Piece} {L : List Ext} (h : Op c gi live quar L) (wl : ∀ p ∈ live, WfP p) (wq : ∀ p ∈ quar, WfP p) {size v : Int} (z0 : 0 ≤ size) (z1 : size ≤ 65536)
    (hv : roomGo c.red size (gapsF c L) = some v) (hn : live.length ≠ 1000) (hg : gi ≠ 1073741824) : GoodP c (gi + 1) (insF live (atI live v) ⟨v, size, gi + 1⟩) quar := by
  have g := (good_iff wl wq).1 h.good
  have hap := room_apart h wl wq hv
  obtain ⟨gp, hgp, hv1, hv2⟩ := roomGo_spec _ _ _ _ hv
  obtain ⟨a1, a2, a3, _⟩ := gaps_spec h.ch gp hgp
  have hb := g.conf
  simp only [okConf, decide_eq_true_eq] at hb
  have g0 := g.gi0
  have g1 := g.gi1
  have n1 := g.n1
  have hperm : (insF live (atI live v) ⟨v, size, gi + 1⟩ ++ quar).Perm (⟨v, size, gi + 1⟩ :: (live ++ quar)) := (insF_perm live (atI live v) ⟨v, size, gi + 1⟩).append_right quar
  have hvr : c.page * 256 ≤ v - c.red ∧ v.tmod 8 = 0 := by
    unfold firstF at hv1
    have h0 : 0 ≤ v := by omega
    rw [Int.tmod_eq_emod_of_nonneg h0]
    omega
  refine ⟨g.conf, by omega, by omega, by rw [insF_length _ _ _ (atI_le live v)]; omega, g.n2, fun p hp => ?_, ?_, ?_, ?_, g.held⟩
  · rcases List.mem_cons.1 (hperm.mem_iff.1 hp) with rfl | hp
    · exact ⟨hvr.2, z0, z1, by simp only; omega, by simp only; omega, hvr.1, by simp only; omega⟩
    · obtain ⟨e1, e2, e3, e4, e5, e6, e7⟩ := g.each p hp
      exact ⟨e1, e2, e3, e4, by omega, e6, e7⟩
  · rw [List.Perm.nodup_iff (hperm.map _), List.map_cons, List.nodup_cons]
    refine ⟨fun hm => ?_, g.births⟩
    obtain ⟨p, hp, he⟩ := List.mem_map.1 hm
    obtain ⟨e1, e2, e3, e4, e5, e6, e7⟩ := g.each p hp
    simp only at he
    omega
  · rw [List.Perm.pairwise_iff (fun h => djP_comm h) hperm, List.pairwise_cons]
    exact ⟨fun p hp => (hap p hp).symm, g.dj⟩
  · have hc := cut_of v live g.pos
    have hne : ∀ p ∈ live, p.pos ≠ v := fun p hp => by
      have := hap p (List.mem_append_left _ hp)
      obtain ⟨e1, e2, e3, e4, e5, e6, e7⟩ := g.each p (List.mem_append_left _ hp)
      omega
    have hp : ∀ p ∈ live.drop (atI live v), v < p.pos := fun p hp => by
      have := hc.2 p hp
      have := hne p (List.mem_of_mem_drop hp)
      omega
    have hs := g.pos
    rw [← List.take_append_drop (atI live v) live, List.pairwise_append] at hs
    unfold insF
    rw [List.pairwise_append, List.pairwise_cons]
    refine ⟨hs.1, ⟨hp, hs.2.1⟩, fun x hx y hy => ?_⟩
    rcases List.mem_cons.1 hy with rfl | hy
    · exact hc.1 x hx
    · exact hs.2.2 x hx y hy

theorem insF_at (l : List Piece) (i : Nat) (p : Piece) (hi : i ≤ l.length) : (insF l i p)[i]! = p := by
  rw [getElem!_pos _ i (by rw [insF_length _ _ _ hi]; omega)]
  unfold insF
  rw [List.getElem_append_right (by simp; omega)]
  simp [Nat.min_eq_left hi]
theorem insF_erase (l : List Piece) (i : Nat) (p : Piece) (hi : i ≤ l.length) : (insF l i p).eraseIdx i = l := by
  unfold insF
  rw [List.eraseIdx_append_of_length_le (by simp; omega)]
  simp [Nat.min_eq_left hi]
/-- a block that does not fit drives all others out. -/
theorem trim_none {Q : Int} (h0 : 0 ≤ Q) {l : List Piece} {p : Piece} (hl : ∀ q ∈ l, 0 ≤ q.size) (hp : Q < p.size) : trimF Q (l ++ [p]) = [] := by
  have h1 := (trimF_ok h0 (l ++ [p])).2
  have h2 := trimF_suffix Q (l ++ [p])
  obtain ⟨t, ht⟩ := h2
  rcases List.eq_nil_or_concat (trimF Q (l ++ [p])) with h | ⟨s, x, hx⟩
  · exact h
  · exfalso
    rw [hx, List.concat_eq_append, ← List.append_assoc] at ht
    obtain ⟨h3, h4⟩ := List.append_inj' ht rfl
    simp only [List.cons.injEq, and_true] at h4
    subst h4
    rw [hx, List.concat_eq_append, List.map_append, List.sum_append] at h1
    simp only [List.map_cons, List.map_nil, List.sum_cons, List.sum_nil] at h1
    have := sum_nonneg s (fun q hq => hl q (by rw [← h3]; exact List.mem_append_right _ hq))
    omega

/-- what Free makes of a block that was just allocated. -/
theorem undone {c : Conf} {gi : Int} {live quar : List Piece} {L : List Ext} (h : Op c gi live quar L) (wl : ∀ p ∈ live, WfP p) (wq : ∀ p ∈ quar, WfP p) {size v : Int} (z0 : 0 ≤ size) (z1 : size ≤ 65536)
    (hv : roomGo c.red size (gapsF c L) = some v) (hn : live.length ≠ 1000) (hg : gi ≠ 1073741824) (hQ : c.quarantine < size) :
    Good c (gi + 1) (insF live (atI live v) ⟨v, size, gi + 1⟩) quar ∧ isI (insF live (atI live v) ⟨v, size, gi + 1⟩) v = true ∧
    (insF live (atI live v) ⟨v, size, gi + 1⟩).eraseIdx (atI (insF live (atI live v) ⟨v, size, gi + 1⟩) v) = live ∧
    trimF c.quarantine (quar ++ [(insF live (atI live v) ⟨v, size, gi + 1⟩)[atI (insF live (atI live v) ⟨v, size, gi + 1⟩) v]!]) = [] ∧
    (∀ p ∈ insF live (atI live v) ⟨v, size, gi + 1⟩, WfP p) := by
  have g := alloc_good h wl wq z0 z1 hv hn hg
  have hr := room_range h hv
  have hle := atI_le live v
  have hat := insF_at live (atI live v) ⟨v, size, gi + 1⟩ hle
  have hlen := insF_length live (atI live v) ⟨v, size, gi + 1⟩ hle
  have ho := at_of g.pos (i := atI live v) (by omega)
  rw [hat] at ho
  have wf : ∀ p ∈ insF live (atI live v) ⟨v, size, gi + 1⟩, WfP p := fun p hp => by
    rcases List.mem_cons.1 ((insF_perm live (atI live v) _).mem_iff.1 hp) with rfl | hp
    · exact ⟨by simp only; omega, by simp only; omega⟩
    · exact wl p hp
  have hb := g.conf
  simp only [okConf, decide_eq_true_eq] at hb
  refine ⟨(good_iff wf wq).2 g, ho.2, ?_, ?_, wf⟩
  · rw [ho.1]; exact insF_erase _ _ _ hle
  · rw [ho.1, hat]
    refine trim_none (by omega) (fun q hq => ?_) hQ
    obtain ⟨e1, e2, _⟩ := g.each q (List.mem_append_right _ hq)
    exact e2
end Go.Proofs.Ytbhbjcgbhklieaa
