/- HeapPlaces: the plain law. | Plain laws: a good heap with one more block; freed again. | HeapNumbers, HeapFirst: the plain laws. | least: the law's own first fit. -/
import Derived.Test.YtbhbjcgbhklieaaE7
import Derived.Test.YtbhbjcgbhklieaaE4
import Derived.Test.YtbhbjcgbhklieaaD3
import Derived.Test.YtbhbjcgbhklieaaE8
import Derived.Test.YtbhbjcgbhklieaaE9
namespace Go.Proofs.Ytbhbjcgbhklieaa
open Go.RowKit

def inG (at_ : Int) (g : Int × Int) : Bool := decide (g.1 ≤ at_ ∧ at_ < g.2)

theorem ch_count (at_ : Int) : ∀ {L : List Ext} {s e : Int}, Ch s L e → (gapsGo e s L).countP (inG at_) = if s ≤ at_ ∧ at_ < e ∧ ∀ x ∈ L, ¬ (x.fr ≤ at_ ∧ at_ < x.to) then 1 else 0
  | [], s, e, h => by
    simp only [gapsGo]
    by_cases h1 : s < e
    · rw [if_pos h1]
      by_cases h2 : s ≤ at_ ∧ at_ < e
      · simp [inG, h2]
      · rw [if_neg (fun h => h2 ⟨h.1, h.2.1⟩)]
        simp [inG, h2]
    · rw [if_neg h1, if_neg (fun h => h1 (by omega))]
      rfl
  | x :: L, s, e, ⟨h1, h2, h3⟩ => by
    have hle := h3.le
    simp only [gapsGo, List.countP_append, ch_count at_ h3]
    have e1 : (if s < x.fr then [(s, x.fr)] else []).countP (inG at_) = if s ≤ at_ ∧ at_ < x.fr then 1 else 0 := by
      by_cases h4 : s < x.fr
      · rw [if_pos h4]
        by_cases h5 : s ≤ at_ ∧ at_ < x.fr <;> simp [inG, h5]
      · rw [if_neg h4, if_neg (by omega)]; rfl
    rw [e1]
    by_cases h5 : s ≤ at_ ∧ at_ < x.fr
    · rw [if_pos h5, if_neg (by omega), if_pos]
      refine ⟨h5.1, by omega, fun y hy => ?_⟩
      rcases List.mem_cons.1 hy with rfl | hy
      · omega
      · have := h3.mem y hy; omega
    · rw [if_neg h5]
      by_cases h6 : x.to ≤ at_ ∧ at_ < e ∧ ∀ y ∈ L, ¬ (y.fr ≤ at_ ∧ at_ < y.to)
      · rw [if_pos h6, if_pos]
        refine ⟨by omega, h6.2.1, fun y hy => ?_⟩
        rcases List.mem_cons.1 hy with rfl | hy
        · omega
        · exact h6.2.2 y hy
      · rw [if_neg h6, if_neg]
        intro h7
        have := h7.2.2 x (List.mem_cons_self ..)
        exact h6 ⟨by omega, h7.2.1, fun y hy => h7.2.2 y (List.mem_cons_of_mem _ hy)⟩

theorem nearI_lt (x : Ext) (at_ : Int) : nearI x at_ < 0 ↔ x.to ≤ at_ := by unfold nearI; split <;> (try split) <;> omega
theorem nearI_zero (x : Ext) (at_ : Int) : nearI x at_ = 0 ↔ ¬ x.to ≤ at_ ∧ ¬ at_ < x.fr := by unfold nearI; split <;> (try split) <;> omega
theorem near_ch (at_ : Int) : ∀ {L : List Ext} {s e : Int}, Ch s L e → (bsIs (fun x => nearI x at_) L = true ↔ ∃ x ∈ L, x.fr ≤ at_ ∧ at_ < x.to)
  | [], s, e, h => by simp [bsIs, bsAt]
  | x :: L, s, e, ⟨h1, h2, h3⟩ => by
    by_cases hx : x.to ≤ at_
    · have ih := near_ch at_ h3
      have e1 : bsAt (fun x => nearI x at_) (x :: L) = bsAt (fun x => nearI x at_) L + 1 := by
        unfold bsAt; rw [List.countP_cons]; simp [nearI_lt, hx]
      have e2 : bsIs (fun x => nearI x at_) (x :: L) = bsIs (fun x => nearI x at_) L := by
        unfold bsIs
        rw [e1]
        simp
      rw [e2, ih]
      constructor
      · rintro ⟨y, hy, h⟩; exact ⟨y, List.mem_cons_of_mem _ hy, h⟩
      · rintro ⟨y, hy, h⟩
        rcases List.mem_cons.1 hy with rfl | hy
        · omega
        · exact ⟨y, hy, h⟩
    · have e1 : bsAt (fun x => nearI x at_) (x :: L) = 0 := by
        unfold bsAt
        rw [List.countP_eq_zero]
        intro y hy
        simp only [decide_eq_true_eq, nearI_lt]
        rcases List.mem_cons.1 hy with rfl | hy
        · exact hx
        · have := h3.mem y hy; omega
      have e2 : bsIs (fun x => nearI x at_) (x :: L) = true ↔ nearI x at_ = 0 := by
        unfold bsIs
        rw [e1]
        simp
      rw [e2, nearI_zero]
      constructor
      · intro h; exact ⟨x, List.mem_cons_self .., by omega, by omega⟩
      · rintro ⟨y, hy, h⟩
        rcases List.mem_cons.1 hy with rfl | hy
        · omega
        · have := h3.mem y hy; omega

theorem ite12 (p : Prop) [Decidable p] : (if p then (1 : Int) else 2) = 1 ∨ (if p then (1 : Int) else 2) = 2 := by
  by_cases h : p <;> simp [h]
/-- where an address is. -/
theorem places {c : Conf} {gi : Int} {live quar : List Piece} {L : List Ext} (h : Op c gi live quar L) (at_ : Int) :
    (gapsF c L).countP (inG at_) = (if (c.page * 256 ≤ at_ ∧ at_ < (c.page + c.n) * 256) ∧ (nearF L at_).1 = 0 then 1 else 0) ∧
    ((nearF L at_).1 ≠ 0 → c.page * 256 ≤ at_ ∧ at_ < (c.page + c.n) * 256) ∧
    ((nearF L at_).1 = 0 ∨ (((nearF L at_).1 = 3 ∨ (nearF L at_).1 = 4) ∧ ∃ j, j < quar.length ∧ (nearF L at_).2.1 = (j : Int) ∧ (nearF L at_).2.2 = at_ - quar[j]!.pos) ∨
     (((nearF L at_).1 = 1 ∨ (nearF L at_).1 = 2) ∧ ∃ j, j < live.length ∧ (nearF L at_).2.1 = (j : Int) ∧ (nearF L at_).2.2 = at_ - live[j]!.pos)) := by
  have hc := ch_count at_ h.ch
  have hn := near_ch at_ h.ch
  have hm := h.ch.mem
  unfold gapsF
  rw [hc]
  by_cases hb : bsIs (fun x => nearI x at_) L = true
  · obtain ⟨x, hx, hx1⟩ := hn.1 hb
    have hxm := hm x hx
    have hlt : bsAt (fun x => nearI x at_) L < L.length := by unfold bsIs at hb; simp only [decide_eq_true_eq] at hb; exact hb.1
    have e : nearF L at_ = ((if 0 ≤ at_ - L[bsAt (fun x => nearI x at_) L]!.p.pos ∧ at_ - L[bsAt (fun x => nearI x at_) L]!.p.pos < L[bsAt (fun x => nearI x at_) L]!.p.size then 1 else 2) + (if L[bsAt (fun x => nearI x at_) L]!.quar then 2 else 0), L[bsAt (fun x => nearI x at_) L]!.ix, at_ - L[bsAt (fun x => nearI x at_) L]!.p.pos) := by
      unfold nearF; rw [if_pos hb]
    rw [e]
    have hmem : L[bsAt (fun x => nearI x at_) L]! ∈ items c.red live quar := h.perm.mem_iff.1 (by rw [getElem!_pos L _ hlt]; exact List.getElem_mem hlt)
    generalize L[bsAt (fun x => nearI x at_) L]! = y at hmem ⊢
    have hk : ∀ q : Bool, (if 0 ≤ at_ - y.p.pos ∧ at_ - y.p.pos < y.p.size then (1 : Int) else 2) + (if q then 2 else 0) ≠ 0 := fun q => by cases q <;> simp <;> split <;> omega
    refine ⟨?_, fun _ => by omega, .inr ?_⟩
    · rw [if_neg (fun hh => hh.2.2 x hx hx1), if_neg (fun hh => hk _ hh.2)]
    · rcases List.mem_append.1 hmem with hmem | hmem
      · obtain ⟨j, hj, rfl⟩ := items_ix _ _ _ _ _ hmem
        refine .inr ⟨?_, j, hj, by simp [mkE], rfl⟩
        rw [show (mkE c.red false (0 + j) live[j]!).p = live[j]! from rfl, show (mkE c.red false (0 + j) live[j]!).quar = false from rfl]
        rcases ite12 (0 ≤ at_ - live[j]!.pos ∧ at_ - live[j]!.pos < live[j]!.size) with h | h <;> rw [h] <;> simp
      · obtain ⟨j, hj, rfl⟩ := items_ix _ _ _ _ _ hmem
        refine .inl ⟨?_, j, hj, by simp [mkE], rfl⟩
        rw [show (mkE c.red true (0 + j) quar[j]!).p = quar[j]! from rfl, show (mkE c.red true (0 + j) quar[j]!).quar = true from rfl]
        rcases ite12 (0 ≤ at_ - quar[j]!.pos ∧ at_ - quar[j]!.pos < quar[j]!.size) with h | h <;> rw [h] <;> simp
  · have e : nearF L at_ = (0, 0, 0) := by unfold nearF; rw [if_neg hb]
    rw [e]
    refine ⟨?_, fun hh => absurd rfl hh, .inl rfl⟩
    by_cases h1 : c.page * 256 ≤ at_ ∧ at_ < (c.page + c.n) * 256
    · rw [if_pos ⟨h1.1, h1.2, fun x hx hxx => hb (hn.2 ⟨x, hx, hxx⟩)⟩, if_pos ⟨h1, rfl⟩]
    · rw [if_neg (fun hh => h1 ⟨hh.1, hh.2.1⟩), if_neg (fun hh => h1 hh.1)]

theorem out_one (L : List Ext) (live : List Piece) (at_ : Int) : outGo L live (1 : Int).toNat at_ 1 = if (nearF L at_).1 = 1 then none else some at_ := by
  show outGo L live 1 at_ 1 = _
  simp only [outGo]
  rw [if_neg (by omega)]
  by_cases h : (nearF L at_).1 = 1
  · rw [if_neg (by simpa using h), if_pos h]
  · rw [if_pos h, if_neg h]
end Go.Proofs.Ytbhbjcgbhklieaa

namespace Go.Proofs.Ytbhbjcgbhklieaa
open Go.RowKit

theorem cmpI_lt (x y : Int) : cmpI x y < 0 ↔ x < y := by unfold cmpI; split <;> (try split) <;> omega
theorem atI_cons (a : Piece) (l : List Piece) (v : Int) : atI (a :: l) v = atI l v + (if a.pos < v then 1 else 0) := by
  unfold atI bsAt
  rw [List.countP_cons]
  by_cases h : a.pos < v <;> simp [cmpI_lt, h]
/-- a sorted list is cut where an address belongs. -/
theorem cut_of (v : Int) : ∀ (l : List Piece), l.Pairwise (fun p q => p.pos < q.pos) → (∀ p ∈ l.take (atI l v), p.pos < v) ∧ (∀ p ∈ l.drop (atI l v), v ≤ p.pos)
  | [], _ => by simp
  | a :: l, h => by
    have h1 := List.pairwise_cons.1 h
    obtain ⟨h2, h3⟩ := cut_of v l h1.2
    rw [atI_cons]
    by_cases ha : a.pos < v
    · rw [if_pos ha, List.take_succ_cons, List.drop_succ_cons]
      refine ⟨fun p hp => ?_, h3⟩
      rcases List.mem_cons.1 hp with rfl | hp
      · exact ha
      · exact h2 p hp
    · rw [if_neg ha, Nat.add_zero]
      have hz : atI l v = 0 := by
        unfold atI bsAt
        rw [List.countP_eq_zero]
        intro p hp
        have := h1.1 p hp
        simp only [decide_eq_true_eq, cmpI_lt]
        omega
      rw [hz]
      refine ⟨fun p hp => by simp at hp, fun p hp => ?_⟩
      simp only [List.drop_zero] at hp
      rcases List.mem_cons.1 hp with rfl | hp
      · omega
      · have := h1.1 p hp; omega
theorem insF_perm (l : List Piece) (i : Nat) (p : Piece) : (insF l i p).Perm (p :: l) := by
  unfold insF
  refine List.perm_middle.trans ?_
  rw [List.take_append_drop]
theorem djP_comm {r : Int} {p q : Piece} (h : DjP r p q) : DjP r q p := Or.symm h

/-- Alloc leaves a good heap. -/
theorem alloc_good {c : Conf} {gi : Int} {live quar : List Piece} {L : List Ext} (h : Op c gi live quar L) (wl : ∀ p ∈ live, WfP p) (wq : ∀ p ∈ quar, WfP p) {size v : Int} (z0 : 0 ≤ size) (z1 : size ≤ 65536)
    (hv : roomGo c.red size (gapsF c L) = some v) (hn : live.length ≠ 1000) (hg : gi ≠ 1073741824) : GoodP c (gi + 1) (insF live (atI live v) ⟨v, size, gi + 1⟩) quar := by
  have g := (good_iff wl wq).1 h.good
  have hap := room_apart h wl wq hv
  obtain ⟨gp, hgp, hv1, hv2⟩ := roomGo_spec _ _ _ _ hv
  obtain ⟨a1, a2, a3, _⟩ := gaps_spec h.ch gp hgp
  have hb := g.conf
  simp only [okConf, decide_eq_true_eq] at hb
  have g0 := g.gi0
  have g1 := g.gi1
  have n1 := g.n1
  have hperm : (insF live (atI live v) ⟨v, size, gi + 1⟩ ++ quar).Perm (⟨v, size, gi + 1⟩ :: (live ++ quar)) := (insF_perm live (atI live v) ⟨v, size, gi + 1⟩).append_right quar
  have hvr : c.page * 256 ≤ v - c.red ∧ v.tmod 8 = 0 := by
    unfold firstF at hv1
    have h0 : 0 ≤ v := by omega
    rw [Int.tmod_eq_emod_of_nonneg h0]
    omega
  refine ⟨g.conf, by omega, by omega, by rw [insF_length _ _ _ (atI_le live v)]; omega, g.n2, fun p hp => ?_, ?_, ?_, ?_, g.held⟩
  · rcases List.mem_cons.1 (hperm.mem_iff.1 hp) with rfl | hp
    · exact ⟨hvr.2, z0, z1, by simp only; omega, by simp only; omega, hvr.1, by simp only; omega⟩
    · obtain ⟨e1, e2, e3, e4, e5, e6, e7⟩ := g.each p hp
      exact ⟨e1, e2, e3, e4, by omega, e6, e7⟩
  · rw [List.Perm.nodup_iff (hperm.map _), List.map_cons, List.nodup_cons]
    refine ⟨fun hm => ?_, g.births⟩
    obtain ⟨p, hp, he⟩ := List.mem_map.1 hm
    obtain ⟨e1, e2, e3, e4, e5, e6, e7⟩ := g.each p hp
    simp only at he
    omega
  · rw [List.Perm.pairwise_iff (fun h => djP_comm h) hperm, List.pairwise_cons]
    exact ⟨fun p hp => (hap p hp).symm, g.dj⟩
  · have hc := cut_of v live g.pos
    have hne : ∀ p ∈ live, p.pos ≠ v := fun p hp => by
      have := hap p (List.mem_append_left _ hp)
      obtain ⟨e1, e2, e3, e4, e5, e6, e7⟩ := g.each p (List.mem_append_left _ hp)
      omega
    have hp : ∀ p ∈ live.drop (atI live v), v < p.pos := fun p hp => by
      have := hc.2 p hp
      have := hne p (List.mem_of_mem_drop hp)
      omega
    have hs := g.pos
    rw [← List.take_append_drop (atI live v) live, List.pairwise_append] at hs
    unfold insF
    rw [List.pairwise_append, List.pairwise_cons]
    refine ⟨hs.1, ⟨hp, hs.2.1⟩, fun x hx y hy => ?_⟩
    rcases List.mem_cons.1 hy with rfl | hy
    · exact hc.1 x hx
    · exact hs.2.2 x hx y hy

theorem insF_at (l : List Piece) (i : Nat) (p : Piece) (hi : i ≤ l.length) : (insF l i p)[i]! = p := by
  rw [getElem!_pos _ i (by rw [insF_length _ _ _ hi]; omega)]
  unfold insF
  rw [List.getElem_append_right (by simp; omega)]
  simp [Nat.min_eq_left hi]
theorem insF_erase (l : List Piece) (i : Nat) (p : Piece) (hi : i ≤ l.length) : (insF l i p).eraseIdx i = l := by
  unfold insF
  rw [List.eraseIdx_append_of_length_le (by simp; omega)]
  simp [Nat.min_eq_left hi]
/-- a block that does not fit drives all others out. -/
theorem trim_none {Q : Int} (h0 : 0 ≤ Q) {l : List Piece} {p : Piece} (hl : ∀ q ∈ l, 0 ≤ q.size) (hp : Q < p.size) : trimF Q (l ++ [p]) = [] := by
  have h1 := (trimF_ok h0 (l ++ [p])).2
  have h2 := trimF_suffix Q (l ++ [p])
  obtain ⟨t, ht⟩ := h2
  rcases List.eq_nil_or_concat (trimF Q (l ++ [p])) with h | ⟨s, x, hx⟩
  · exact h
  · exfalso
    rw [hx, List.concat_eq_append, ← List.append_assoc] at ht
    obtain ⟨h3, h4⟩ := List.append_inj' ht rfl
    simp only [List.cons.injEq, and_true] at h4
    subst h4
    rw [hx, List.concat_eq_append, List.map_append, List.sum_append] at h1
    simp only [List.map_cons, List.map_nil, List.sum_cons, List.sum_nil] at h1
    have := sum_nonneg s (fun q hq => hl q (by rw [← h3]; exact List.mem_append_right _ hq))
    omega

/-- what Free makes of a block that was just allocated. -/
theorem undone {c : Conf} {gi : Int} {live quar : List Piece} {L : List Ext} (h : Op c gi live quar L) (wl : ∀ p ∈ live, WfP p) (wq : ∀ p ∈ quar, WfP p) {size v : Int} (z0 : 0 ≤ size) (z1 : size ≤ 65536)
    (hv : roomGo c.red size (gapsF c L) = some v) (hn : live.length ≠ 1000) (hg : gi ≠ 1073741824) (hQ : c.quarantine < size) :
    Good c (gi + 1) (insF live (atI live v) ⟨v, size, gi + 1⟩) quar ∧ isI (insF live (atI live v) ⟨v, size, gi + 1⟩) v = true ∧
    (insF live (atI live v) ⟨v, size, gi + 1⟩).eraseIdx (atI (insF live (atI live v) ⟨v, size, gi + 1⟩) v) = live ∧
    trimF c.quarantine (quar ++ [(insF live (atI live v) ⟨v, size, gi + 1⟩)[atI (insF live (atI live v) ⟨v, size, gi + 1⟩) v]!]) = [] ∧
    (∀ p ∈ insF live (atI live v) ⟨v, size, gi + 1⟩, WfP p) := by
  have g := alloc_good h wl wq z0 z1 hv hn hg
  have hr := room_range h hv
  have hle := atI_le live v
  have hat := insF_at live (atI live v) ⟨v, size, gi + 1⟩ hle
  have hlen := insF_length live (atI live v) ⟨v, size, gi + 1⟩ hle
  have ho := at_of g.pos (i := atI live v) (by omega)
  rw [hat] at ho
  have wf : ∀ p ∈ insF live (atI live v) ⟨v, size, gi + 1⟩, WfP p := fun p hp => by
    rcases List.mem_cons.1 ((insF_perm live (atI live v) _).mem_iff.1 hp) with rfl | hp
    · exact ⟨by simp only; omega, by simp only; omega⟩
    · exact wl p hp
  have hb := g.conf
  simp only [okConf, decide_eq_true_eq] at hb
  refine ⟨(good_iff wf wq).2 g, ho.2, ?_, ?_, wf⟩
  · rw [ho.1]; exact insF_erase _ _ _ hle
  · rw [ho.1, hat]
    refine trim_none (by omega) (fun q hq => ?_) hQ
    obtain ⟨e1, e2, _⟩ := g.each q (List.mem_append_right _ hq)
    exact e2
end Go.Proofs.Ytbhbjcgbhklieaa

namespace Go.Proofs.Ytbhbjcgbhklieaa
open Go.RowKit

theorem perm_sum {α : Type} (f : α → Int) : ∀ {l r : List α}, l.Perm r → (l.map f).sum = (r.map f).sum := by
  intro l r h
  induction h with
  | nil => rfl
  | cons x _ ih => simp only [List.map_cons, List.sum_cons, ih]
  | swap x y l => simp only [List.map_cons, List.sum_cons]; omega
  | trans _ _ h1 h2 => exact h1.trans h2

theorem ch_sum : ∀ {L : List Ext} {s e : Int}, Ch s L e → gapB (gapsGo e s L) + (L.map fun x => x.to - x.fr).sum = e - s
  | [], s, e, h => by
    have h' : s ≤ e := h
    simp only [gapsGo, gapB]
    by_cases h1 : s < e
    · rw [if_pos h1]; simp
    · rw [if_neg h1]; simp; omega
  | x :: L, s, e, ⟨h1, h2, h3⟩ => by
    have ih := ch_sum h3
    simp only [gapsGo, gapB, List.map_append, List.sum_append, List.map_cons, List.sum_cons] at ih ⊢
    by_cases h4 : s < x.fr
    · rw [if_pos h4]; simp; omega
    · rw [if_neg h4]; simp; omega

theorem items_sum {red : Int} (h0 : 0 ≤ red) (h1 : red ≤ 64) : ∀ (q : Bool) (i : Nat) (l : List Piece), (∀ p ∈ l, WfP p ∧ 0 ≤ p.size ∧ p.size ≤ 65536) → ((itemsFrom red q i l).map fun x => x.to - x.fr).sum = (l.map fun p => max p.size 1 + 2 * red).sum
  | _, _, [], _ => rfl
  | q, i, p :: l, h => by
    obtain ⟨a, b, c⟩ := h p (List.mem_cons_self ..)
    have e := mkE_ne red h0 h1 q i p a b c
    simp only [itemsFrom, List.map_cons, List.sum_cons, items_sum h0 h1 q (i + 1) l (fun p hp => h p (List.mem_cons_of_mem _ hp)), e.1, e.2]
    omega

/-- gaps and extents add up to the region. -/
theorem whole_sum {c : Conf} {gi : Int} {live quar : List Piece} {L : List Ext} (h : Op c gi live quar L) (wl : ∀ p ∈ live, WfP p) (wq : ∀ p ∈ quar, WfP p) :
    gapB (gapsF c L) + ((live ++ quar).map fun p => max p.size 1 + 2 * c.red).sum = c.n * 256 := by
  have hb := h.good.conf
  simp only [okConf, decide_eq_true_eq] at hb
  have g := (good_iff wl wq).1 h.good
  have h1 := ch_sum h.ch
  rw [perm_sum (fun x : Ext => x.to - x.fr) h.perm, items, List.map_append, List.sum_append,
    items_sum (by omega) (by omega) _ _ _ (fun p hp => ⟨wl p hp, (g.each p (List.mem_append_left _ hp)).2.1, (g.each p (List.mem_append_left _ hp)).2.2.1⟩),
    items_sum (by omega) (by omega) _ _ _ (fun p hp => ⟨wq p hp, (g.each p (List.mem_append_right _ hp)).2.1, (g.each p (List.mem_append_right _ hp)).2.2.1⟩)] at h1
  rw [List.map_append, List.sum_append]
  unfold gapsF
  omega

theorem gaps_pair : ∀ {L : List Ext} {s e : Int}, Ch s L e → (gapsGo e s L).Pairwise (fun g h => g.2 < h.1)
  | [], s, e, _ => by simp only [gapsGo]; split <;> simp
  | x :: L, s, e, ⟨h1, h2, h3⟩ => by
    simp only [gapsGo]
    rw [List.pairwise_append]
    refine ⟨by split <;> simp, gaps_pair h3, fun g hg k hk => ?_⟩
    obtain ⟨a1, _⟩ := gaps_spec h3 k hk
    split at hg
    · simp at hg; subst hg; simp only; omega
    · cases hg

/-- an interval that meets no extent lies in a gap. -/
theorem in_gap {a b : Int} (hab : a < b) : ∀ {L : List Ext} {s e : Int}, Ch s L e → s ≤ a → b ≤ e → (∀ x ∈ L, x.to ≤ a ∨ b ≤ x.fr) → ∃ g ∈ gapsGo e s L, g.1 ≤ a ∧ b ≤ g.2
  | [], s, e, _, h1, h2, _ => by
    simp only [gapsGo]
    rw [if_pos (by omega)]
    exact ⟨(s, e), by simp, h1, h2⟩
  | x :: L, s, e, ⟨h3, h4, h5⟩, h1, h2, h => by
    simp only [gapsGo]
    rcases h x (List.mem_cons_self ..) with hx | hx
    · obtain ⟨g, hg, hh⟩ := in_gap hab h5 hx h2 (fun y hy => h y (List.mem_cons_of_mem _ hy))
      exact ⟨g, List.mem_append_right _ hg, hh⟩
    · refine ⟨(s, x.fr), List.mem_append_left _ ?_, h1, hx⟩
      rw [if_pos (by omega)]
      simp

theorem lgF_cons (red : Int) (g : Int × Int) (l : List (Int × Int)) (s : Int) : lgF red (g :: l) s = lgF red l (if 1 ≤ gapN red g then max s (min (gapN red g) 65536) else s) := rfl
theorem lgF_le (red : Int) (B : Int) : ∀ (l : List (Int × Int)) (s : Int), lgF red l s ≤ B ↔ s ≤ B ∧ ∀ g ∈ l, 1 ≤ gapN red g → min (gapN red g) 65536 ≤ B
  | [], s => by simp [lgF]
  | g :: l, s => by
    rw [lgF_cons, lgF_le red B l, List.forall_mem_cons]
    by_cases h : 1 ≤ gapN red g
    · rw [if_pos h]
      constructor
      · rintro ⟨h1, h2⟩; exact ⟨by omega, fun _ => by omega, h2⟩
      · rintro ⟨h1, h2, h3⟩; exact ⟨by have := h2 h; omega, h3⟩
    · rw [if_neg h]
      constructor
      · rintro ⟨h1, h2⟩; exact ⟨h1, fun h' => absurd h' h, h2⟩
      · rintro ⟨h1, _, h3⟩; exact ⟨h1, h3⟩
/-- there is room exactly up to the largest. -/
theorem room_lg (red size : Int) (z0 : 0 ≤ size) (z1 : size ≤ 65536) : ∀ (l : List (Int × Int)), roomGo red size l = none ↔ lgF red l (-1) < size := by
  intro l
  have h1 : roomGo red size l = none ↔ ∀ g ∈ l, ¬ (firstF red g.1 + max size 1 + red ≤ g.2) := by
    induction l with
    | nil => simp [roomGo]
    | cons g l ih =>
      rw [List.forall_mem_cons]
      simp only [roomGo]
      by_cases hg : firstF red g.1 + max size 1 + red ≤ g.2
      · rw [if_pos hg]; simp [hg]
      · rw [if_neg hg, ih]; simp [hg]
  have h2 := lgF_le red (size - 1) l (-1)
  rw [h1]
  constructor
  · intro h
    have : lgF red l (-1) ≤ size - 1 := h2.2 ⟨by omega, fun g hg hn => by have := h g hg; unfold gapN at hn ⊢; omega⟩
    omega
  · intro h g hg hh
    have := (h2.1 (by omega)).2 g hg (by unfold gapN; omega)
    unfold gapN at this
    omega

theorem foldl_live (red : Int) : ∀ (l : List Piece) (i : Nat) (s : Int), 0 ≤ s → (∀ p ∈ l, 0 ≤ p.size ∧ p.size ≤ 65536) → s + 65536 * l.length < 9223372036854775807 →
    (itemsFrom red false i l).foldl (fun s x => if x.quar then s else wrap64 (s + x.p.size)) s = s + (l.map (·.size)).sum
  | [], _, _, _, _, _ => by simp [itemsFrom]
  | p :: l, i, s, h0, h, hb => by
    obtain ⟨a, b⟩ := h p (List.mem_cons_self ..)
    simp only [List.length_cons] at hb
    have hw : wrap64 (s + p.size) = s + p.size := by unfold wrap64; omega
    have e1 : (mkE red false i p).quar = false := rfl
    have e2 : (mkE red false i p).p = p := rfl
    simp only [itemsFrom, List.foldl_cons, e1, e2, Bool.false_eq_true, if_false, hw]
    rw [foldl_live red l (i + 1) (s + p.size) (by omega) (fun q hq => h q (List.mem_cons_of_mem _ hq)) (by omega)]
    simp only [List.map_cons, List.sum_cons]
    omega
theorem foldl_quar (red : Int) : ∀ (l : List Piece) (i : Nat) (s : Int), (itemsFrom red true i l).foldl (fun s x => if x.quar then s else wrap64 (s + x.p.size)) s = s
  | [], _, _ => rfl
  | p :: l, i, s => by
    have e1 : (mkE red true i p).quar = true := rfl
    simp only [itemsFrom, List.foldl_cons, e1, if_true]
    exact foldl_quar red l (i + 1) s
theorem bW_items {c : Conf} {gi : Int} {live quar : List Piece} (g : GoodP c gi live quar) : bW (items c.red live quar) = (live.map (·.size)).sum := by
  have n1 := g.n1
  unfold bW items
  rw [List.foldl_append, foldl_live c.red live 0 0 (by omega) (fun p hp => ⟨(g.each p (List.mem_append_left _ hp)).2.1, (g.each p (List.mem_append_left _ hp)).2.2.1⟩) (by omega), foldl_quar]
  omega

/-- the numbers behind Alloc. -/
theorem numbers {c : Conf} {gi : Int} {live quar : List Piece} {L L' : List Ext} (h : Op c gi live quar L) (wl : ∀ p ∈ live, WfP p) (wq : ∀ p ∈ quar, WfP p) {size v : Int} {i : Nat} (_ : i ≤ live.length) (hv : 0 ≤ v ∧ v < 4294967296) (h' : Op c (gi + 1) (insF live i ⟨v, size, gi + 1⟩) quar L') :
    bW (items c.red (insF live i ⟨v, size, gi + 1⟩) quar) = bW (items c.red live quar) + size ∧ gapB (gapsF c L') = gapB (gapsF c L) - max size 1 - 2 * c.red ∧ lgF c.red (gapsF c L') (-1) ≤ lgF c.red (gapsF c L) (-1) := by
  have hp := insF_perm live i ⟨v, size, gi + 1⟩
  have wl' : ∀ p ∈ insF live i ⟨v, size, gi + 1⟩, WfP p := fun p hpm => by
    rcases List.mem_cons.1 (hp.mem_iff.1 hpm) with rfl | hpm
    · exact hv
    · exact wl p hpm
  have g := (good_iff wl wq).1 h.good
  have g' := (good_iff wl' wq).1 h'.good
  refine ⟨?_, ?_, ?_⟩
  · rw [bW_items g, bW_items g', perm_sum (·.size) hp]
    simp only [List.map_cons, List.sum_cons]
    omega
  · have s1 := whole_sum h wl wq
    have s2 := whole_sum h' wl' wq
    rw [perm_sum (fun p : Piece => max p.size 1 + 2 * c.red) (hp.append_right quar)] at s2
    simp only [List.cons_append, List.map_cons, List.sum_cons] at s2
    omega
  · have hold := (lgF_le c.red (lgF c.red (gapsF c L) (-1)) (gapsF c L) (-1)).1 (Int.le_refl _)
    refine (lgF_le c.red _ (gapsF c L') (-1)).2 ⟨hold.1, fun k hk hn => ?_⟩
    obtain ⟨a1, a2, a3, a4⟩ := gaps_spec h'.ch k hk
    obtain ⟨q, hq, q1, q2⟩ := in_gap a2 h.ch a1 a3 (fun x hx => by
      obtain ⟨p, hpm, qq, j, rfl⟩ := items_ex (h.perm.mem_iff.1 hx)
      have hpm' : p ∈ insF live i ⟨v, size, gi + 1⟩ ++ quar := (hp.append_right quar).mem_iff.2 (List.mem_cons_of_mem _ hpm)
      obtain ⟨x', hx', _, q', j', rfl⟩ := items_of (red := c.red) hpm'
      have h9 := a4 _ (h'.perm.mem_iff.2 hx')
      exact h9)
    have hm : firstF c.red q.1 ≤ firstF c.red k.1 := by unfold firstF; omega
    have := hold.2 q hq (by unfold gapN at hn ⊢; omega)
    unfold gapN at hn this ⊢
    omega
end Go.Proofs.Ytbhbjcgbhklieaa

namespace Go.Proofs.Ytbhbjcgbhklieaa
open Go.RowKit Go.Shelf

def leastGo (red size : Int) : List (Int × Int) → Int
  | [] => -1
  | s :: r => if firstF red s.1 + max size 1 + red ≤ s.1 + s.2 then firstF red s.1 else leastGo red size r
theorem leastGo_room (red size : Int) : ∀ (l : List (Int × Int)), leastGo red size (l.map fun g => (g.1, g.2 - g.1)) = (roomGo red size l).getD (-1)
  | [] => rfl
  | g :: l => by
    simp only [List.map_cons, leastGo, roomGo, leastGo_room red size l]
    rw [show g.1 + (g.2 - g.1) = g.2 by omega]
    by_cases h : firstF red g.1 + max size 1 + red ≤ g.2
    · rw [if_pos h, if_pos h]; rfl
    · rw [if_neg h, if_neg h]
theorem leastGo_drop (red size : Int) (S : List (Int × Int)) (k : Nat) (hk : k < S.length) : leastGo red size (S.drop k) = if firstF red S[k]!.1 + max size 1 + red ≤ S[k]!.1 + S[k]!.2 then firstF red S[k]!.1 else leastGo red size (S.drop (k + 1)) := by
  rw [List.drop_eq_getElem_cons hk, getElem!_pos S k hk]
  rfl

set_option maxRecDepth 100000 in
set_option maxHeartbeats 1000000 in
theorem c42 (c : Conf) (v : Value) (S : List (Int × Int)) (size : Int) (w : World) (hs : Sl 2 encN w v S) (hn : S.length ≤ 100000) (r0 : 0 ≤ c.red) (r1 : c.red ≤ 64) (z0 : 0 ≤ size) (z1 : size ≤ 65536)
    (hw : ∀ s ∈ S, 0 ≤ s.1 ∧ s.1 < 4294967296 ∧ 0 ≤ s.2 ∧ s.1 + s.2 ≤ 4294967296) :
    Calls Try.prog 42 #[.agg #[.int .i64 c.page, .int .i64 c.n, .int .i64 c.red, .int .i64 c.quarantine], v, .int .i64 size] w fun e w' => e = .returned (.int .i64 (leastGo c.red size S)) ∧ Below w.heap.size w w' := by
  obtain ⟨A, ca, rfl, _, hl⟩ := hs
  obtain ⟨n, hnn⟩ : ∃ n, S.length = n := ⟨_, rfl⟩
  rw [hnn] at hn ⊢
  have HL := Lib.hid hl
  have HW := Lib.hid hw
  have HN := Lib.hid hnn
  clear hl hw hnn
  go_enter Try.func42, Try.ntmps42
  go_wp2
  go_loopg [12] n (fun kx s12 wr => ∃ k : Nat, k ≤ n ∧ s12 = .int .i64 k ∧ n - k ≤ kx ∧ Hid (leastGo c.red size (S.drop k) = leastGo c.red size S) ∧ Hid (Below w.heap.size w wr) ∧ wr.cell? ⟨w.heap.size, 2, none⟩ = some (.int .i64 c.red) ∧ w.heap.size < wr.heap.size)
  case atStart => exact ⟨0, Nat.zero_le _, rfl, by omega, (rfl : leastGo c.red size (S.drop 0) = leastGo c.red size S), below_alloc1 _ _, by simp [go_sem], by simp⟩
  case round =>
    obtain ⟨k, hk, rfl, hkx, HG, HB, hred, hsz⟩ := hrel
    by_cases hlt : k < n
    · have hkl : k < S.length := by rw [HN.out]; exact hlt
      obtain ⟨b, off, rfl, hL⟩ := HL.out.resolve_left (by rintro rfl; simp at hkl)
      have m0 := (hL.below HB.out).2 k hkl 0 _ rfl
      have m1 := (hL.below HB.out).2 k hkl 1 _ rfl
      have hbb : b < wr.heap.size := Nat.lt_of_lt_of_le hL.1 HB.out.size
      obtain ⟨s0, s1, s2, s3⟩ := HW.out S[k]! (by rw [getElem!_pos S k hkl]; exact List.getElem_mem hkl)
      have hd := leastGo_drop c.red size S k hkl
      generalize S[k]!.1 = x at m0 s0 s1 s3 hd
      generalize S[k]!.2 = y at m1 s2 s3 hd
      have HD := Lib.hid hd
      clear hd hL hkl
      simp only [Nat.add_zero] at m0
      by_cases hfit : (x + c.red + 8 - 1) / 8 * 8 + max size 1 + c.red ≤ x + y
      · have hff : (x + c.red + 8 - 1) / 8 * 8 = firstF c.red x := by unfold firstF; omega
        have HFF := Lib.hid hff
        have hf2 : firstF c.red x + max size 1 + c.red ≤ x + y := by rw [← hff]; exact hfit
        have HF2 := Lib.hid hf2
        clear hff hf2
        go_wp2
        go_ret
        exact ⟨ret_int (by rw [← HG.out, HD.out, if_pos HF2.out, HFF.out]), HB.out.alloc HB.out.size _⟩
      · have hf2 : ¬ firstF c.red x + max size 1 + c.red ≤ x + y := by
          have hff : (x + c.red + 8 - 1) / 8 * 8 = firstF c.red x := by unfold firstF; omega
          rw [← hff]; exact hfit
        have HF2 := Lib.hid hf2
        clear hf2
        go_wp2
        go_roundg (n - (k + 1))
        case measure => omega
        case rel => exact ⟨k + 1, by omega, by go_num, Nat.le_refl _, (by have hf : ¬ _ ≤ _ := Int.not_le.2 HF2.out; rw [← HG.out, HD.out, if_neg hf]; exact rfl), HB.out.alloc HB.out.size _, ((below_alloc1 wr _).cell (p := ⟨w.heap.size, 2, none⟩) hsz).trans hred, by simp; omega⟩
    · obtain rfl : k = n := by omega
      go_wp2
      go_ret
      exact ⟨ret_int (by rw [← HG.out, ← HN.out, List.drop_length]; rfl), HB.out⟩
end Go.Proofs.Ytbhbjcgbhklieaa
