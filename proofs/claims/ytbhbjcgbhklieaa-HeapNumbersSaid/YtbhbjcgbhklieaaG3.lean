/- HeapNumbers, HeapFirst: the plain laws. -/
import Derived.Test.YtbhbjcgbhklieaaE8
import Derived.Test.YtbhbjcgbhklieaaE9
import Derived.Test.YtbhbjcgbhklieaaG1
namespace Go.Proofs.Ytbhbjcgbhklieaa
open Go.RowKit

theorem perm_sum {α : Type} (f : α → Int) : ∀ {l r : List α}, l.Perm r → (l.map f).sum = (r.map f).sum := by
  intro l r h
  induction h with
  | nil => rfl
  | cons x _ ih => simp only [List.map_cons, List.sum_cons, ih]
  | swap x y l => simp only [List.map_cons, List.sum_cons]; omega
  | trans _ _ h1 h2 => exact h1.trans h2

theorem ch_sum : ∀ {L : List Ext} {s e : Int}, Ch s L e → gapB (gapsGo e s L) + (L.map fun x => x.to - x.fr).sum = e - s
  | [], s, e, h => by
    have h' : s ≤ e := h
    simp only [gapsGo, gapB]
    by_cases h1 : s < e
    · rw [if_pos h1]; simp
    · rw [if_neg h1]; simp; omega
  | x :: L, s, e, ⟨h1, h2, h3⟩ => by
    have ih := ch_sum h3
    simp only [gapsGo, gapB, List.map_append, List.sum_append, List.map_cons, List.sum_cons] at ih ⊢
    by_cases h4 : s < x.fr
    · rw [if_pos h4]; simp; omega
    · rw [if_neg h4]; simp; omega

theorem items_sum {red : Int} (h0 : 0 ≤ red) (h1 : red ≤ 64) : ∀ (q : Bool) (i : Nat) (l : List Piece), (∀ p ∈ l, WfP p ∧ 0 ≤ p.size ∧ p.size ≤ 65536) → ((itemsFrom red q i l).map fun x => x.to - x.fr).sum = (l.map fun p => max p.size 1 + 2 * red).sum
  | _, _, [], _ => rfl
  | q, i, p :: l, h => by
    obtain ⟨a, b, c⟩ := h p (List.mem_cons_self ..)
    have e := mkE_ne red h0 h1 q i p a b c
    simp only [itemsFrom, List.map_cons, List.sum_cons, items_sum h0 h1 q (i + 1) l (fun p hp => h p (List.mem_cons_of_mem _ hp)), e.1, e.2]
    omega

/-- gaps and extents add up to the region. -/
theorem whole_sum {c : Conf} {gi : Int} {live quar : List Piece} {L : List Ext} (h : Op c gi live quar L) (wl : ∀ p ∈ live, WfP p) (wq : ∀ p ∈ quar, WfP p) :
    gapB (gapsF c L) + ((live ++ quar).map fun p => max p.size 1 + 2 * c.red).sum = c.n * 256 := by
  have hb := h.good.conf
  simp only [okConf, decide_eq_true_eq] at hb
  have g := (good_iff wl wq).1 h.good
  have h1 := ch_sum h.ch
  rw [perm_sum (fun x : Ext => x.to - x.fr) h.perm, items, List.map_append, List.sum_append,
    items_sum (by omega) (by omega) _ _ _ (fun p hp => ⟨wl p hp, (g.each p (List.mem_append_left _ hp)).2.1, (g.each p (List.mem_append_left _ hp)).2.2.1⟩),
    items_sum (by omega) (by omega) _ _ _ (fun p hp => ⟨wq p hp, (g.each p (List.mem_append_right _ hp)).2.1, (g.each p (List.mem_append_right _ hp)).2.2.1⟩)] at h1
  rw [List.map_append, List.sum_append]
  unfold gapsF
  omega

theorem gaps_pair : ∀ {L : List Ext} {s e : Int}, Ch s L e → (gapsGo e s L).Pairwise (fun g h => g.2 < h.1)
  | [], s, e, _ => by simp only [gapsGo]; split <;> simp
  | x :: L, s, e, ⟨h1, h2, h3⟩ => by
    simp only [gapsGo]
    rw [List.pairwise_append]
    refine ⟨by split <;> simp, gaps_pair h3, fun g hg k hk => ?_⟩
    obtain ⟨a1, _⟩ := gaps_spec h3 k hk
    split at hg
    · simp at hg; subst hg; simp only; omega
    · cases hg

/-- an interval that meets no extent lies in a gap. -/
theorem in_gap {a b : Int} (hab : a < b) : ∀ {L : List Ext} {s e : Int}, Ch s L e → s ≤ a → b ≤ e → (∀ x ∈ L, x.to ≤ a ∨ b ≤ x.fr) → ∃ g ∈ gapsGo e s L, g.1 ≤ a ∧ b ≤ g.2
  | [], s, e, _, h1, h2, _ => by
    simp only [gapsGo]
    rw [if_pos (by omega)]
    exact ⟨(s, e), by simp, h1, h2⟩
  | x :: L, s, e, ⟨h3, h4, h5⟩, h1, h2, h => by
    simp only [gapsGo]
    rcases h x (List.mem_cons_self ..) with hx | hx
    · obtain ⟨g, hg, hh⟩ := in_gap hab h5 hx h2 (fun y hy => h y (List.mem_cons_of_mem _ hy))
      exact ⟨g, List.mem_append_right _ hg, hh⟩
    · refine ⟨(s, x.fr), List.mem_append_left _ ?_, h1, hx⟩
      rw [if_pos (by omega)]
      simp

theorem lgF_cons (red : Int) (g : Int × Int) (l : List (Int × Int)) (s : Int) : lgF red (g :: l) s = lgF red l (if 1 ≤ gapN red g then max s (min (gapN red g) 65536) else s) := rfl
theorem lgF_le (red : Int) (B : Int) : ∀ (l : List (Int × Int)) (s : Int), lgF red l s ≤ B ↔ s ≤ B ∧ ∀ g ∈ l, 1 ≤ gapN red g → min (gapN red g) 65536 ≤ B
  | [], s => by simp [lgF]
  | g :: l, s => by
    rw [lgF_cons, lgF_le red B l, List.forall_mem_cons]
    by_cases h : 1 ≤ gapN red g
    · rw [if_pos h]
      constructor
      · rintro ⟨h1, h2⟩; exact ⟨by omega, fun _ => by omega, h2⟩
      · rintro ⟨h1, h2, h3⟩; exact ⟨by have := h2 h; omega, h3⟩
    · rw [if_neg h]
      constructor
      · rintro ⟨h1, h2⟩; exact ⟨h1, fun h' => absurd h' h, h2⟩
      · rintro ⟨h1, _, h3⟩; exact ⟨h1, h3⟩
/-- there is room exactly up to the largest. -/
theorem room_lg (red size : Int) (z0 : 0 ≤ size) (z1 : size ≤ 65536) : ∀ (l : List (Int × Int)), roomGo red size l = none ↔ lgF red l (-1) < size := by
  intro l
  have h1 : roomGo red size l = none ↔ ∀ g ∈ l, ¬ (firstF red g.1 + max size 1 + red ≤ g.2) := by
    induction l with
    | nil => simp [roomGo]
    | cons g l ih =>
      rw [List.forall_mem_cons]
      simp only [roomGo]
      by_cases hg : firstF red g.1 + max size 1 + red ≤ g.2
      · rw [if_pos hg]; simp [hg]
      · rw [if_neg hg, ih]; simp [hg]
  have h2 := lgF_le red (size - 1) l (-1)
  rw [h1]
  constructor
  · intro h
    have : lgF red l (-1) ≤ size - 1 := h2.2 ⟨by omega, fun g hg hn => by have := h g hg; unfold gapN at hn ⊢; omega⟩
    omega
  · intro h g hg hh
    have := (h2.1 (by omega)).2 g hg (by unfold gapN; omega)
    unfold gapN at this
    omega

theorem foldl_live (red : Int) : ∀ (l : List Piece) (i : Nat) (s : Int), 0 ≤ s → (∀ p ∈ l, 0 ≤ p.size ∧ p.size ≤ 65536) → s + 65536 * l.length < 9223372036854775807 →
    (itemsFrom red false i l).foldl (fun s x => if x.quar then s else wrap64 (s + x.p.size)) s = s + (l.map (·.size)).sum
  | [], _, _, _, _, _ => by simp [itemsFrom]
  | p :: l, i, s, h0, h, hb => by
    obtain ⟨a, b⟩ := h p (List.mem_cons_self ..)
    simp only [List.length_cons] at hb
    have hw : wrap64 (s + p.size) = s + p.size := by unfold wrap64; omega
    have e1 : (mkE red false i p).quar = false := rfl
    have e2 : (mkE red false i p).p = p := rfl
    simp only [itemsFrom, List.foldl_cons, e1, e2, Bool.false_eq_true, if_false, hw]
    rw [foldl_live red l (i + 1) (s + p.size) (by omega) (fun q hq => h q (List.mem_cons_of_mem _ hq)) (by omega)]
    simp only [List.map_cons, List.sum_cons]
    omega
theorem foldl_quar (red : Int) : ∀ (l : List Piece) (i : Nat) (s : Int), (itemsFrom red true i l).foldl (fun s x => if x.quar then s else wrap64 (s + x.p.size)) s = s
  | [], _, _ => rfl
  | p :: l, i, s => by
    have e1 : (mkE red true i p).quar = true := rfl
    simp only [itemsFrom, List.foldl_cons, e1, if_true]
    exact foldl_quar red l (i + 1) s
theorem bW_items {c : Conf} {gi : Int} {live quar : List Piece} (g : GoodP c gi live quar) : bW (items c.red live quar) = (live.map (·.size)).sum := by
  have n1 := g.n1
  unfold bW items
  rw [List.foldl_append, foldl_live c.red live 0 0 (by omega) (fun p hp => ⟨(g.each p (List.mem_append_left _ hp)).2.1, (g.each p (List.mem_append_left _ hp)).2.2.1⟩) (by omega), foldl_quar]
  omega

/-- the numbers behind Alloc. -/
theorem numbers {c : Conf} {gi : Int} {live quar : List Piece} {L L' : List Ext} (h : Op c gi live quar L) (wl : ∀ p ∈ live, WfP p) (wq : ∀ p ∈ quar, WfP p) {size v : Int} {i : Nat} (_ : i ≤ live.length) (hv : 0 ≤ v ∧ v < 4294967296) (h' : Op c (gi + 1) (insF live i ⟨v, size, gi + 1⟩) quar L') :
    bW (items c.red (insF live i ⟨v, size, gi + 1⟩) quar) = bW (items c.red live quar) + size ∧ gapB (gapsF c L') = gapB (gapsF c L) - max size 1 - 2 * c.red ∧ lgF c.red (gapsF c L') (-1) ≤ lgF c.red (gapsF c L) (-1) := by
  have hp := insF_perm live i ⟨v, size, gi + 1⟩
  have wl' : ∀ p ∈ insF live i ⟨v, size, gi + 1⟩, WfP p := fun p hpm => by
    rcases List.mem_cons.1 (hp.mem_iff.1 hpm) with rfl | hpm
    · exact hv
    · exact wl p hpm
  have g := (good_iff wl wq).1 h.good
  have g' := (good_iff wl' wq).1 h'.good
  refine ⟨?_, ?_, ?_⟩
  · rw [bW_items g, bW_items g', perm_sum (·.size) hp]
    simp only [List.map_cons, List.sum_cons]
    omega
  · have s1 := whole_sum h wl wq
    have s2 := whole_sum h' wl' wq
    rw [perm_sum (fun p : Piece => max p.size 1 + 2 * c.red) (hp.append_right quar)] at s2
    simp only [List.cons_append, List.map_cons, List.sum_cons] at s2
    omega
  · have hold := (lgF_le c.red (lgF c.red (gapsF c L) (-1)) (gapsF c L) (-1)).1 (Int.le_refl _)
    refine (lgF_le c.red _ (gapsF c L') (-1)).2 ⟨hold.1, fun k hk hn => ?_⟩
    obtain ⟨a1, a2, a3, a4⟩ := gaps_spec h'.ch k hk
    obtain ⟨q, hq, q1, q2⟩ := in_gap a2 h.ch a1 a3 (fun x hx => by
      obtain ⟨p, hpm, qq, j, rfl⟩ := items_ex (h.perm.mem_iff.1 hx)
      have hpm' : p ∈ insF live i ⟨v, size, gi + 1⟩ ++ quar := (hp.append_right quar).mem_iff.2 (List.mem_cons_of_mem _ hpm)
      obtain ⟨x', hx', _, q', j', rfl⟩ := items_of (red := c.red) hpm'
      have h9 := a4 _ (h'.perm.mem_iff.2 hx')
      exact h9)
    have hm : firstF c.red q.1 ≤ firstF c.red k.1 := by unfold firstF; omega
    have := hold.2 q hq (by unfold gapN at hn ⊢; omega)
    unfold gapN at hn this ⊢
    omega
end Go.Proofs.Ytbhbjcgbhklieaa
