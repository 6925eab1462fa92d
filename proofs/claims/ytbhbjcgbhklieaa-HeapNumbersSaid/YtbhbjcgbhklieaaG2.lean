/- HeapPlaces: the plain law. -/
import Derived.Test.YtbhbjcgbhklieaaE7
namespace Go.Proofs.Ytbhbjcgbhklieaa
open Go.RowKit

def inG (at_ : Int) (g : Int × Int) : Bool := decide (g.1 ≤ at_ ∧ at_ < g.2)

theorem ch_count (at_ : Int) : ∀ {L : List Ext} {s e : Int}, Ch s L e → (gapsGo e s L).countP (inG at_) = if s ≤ at_ ∧ at_ < e ∧ ∀ x ∈ L, ¬ (x.fr ≤ at_ ∧ at_ < x.to) then 1 else 0
  | [], s, e, h => by
    simp only [gapsGo]
    by_cases h1 : s < e
    · rw [if_pos h1]
      by_cases h2 : s ≤ at_ ∧ at_ < e
      · simp [inG, h2]
      · rw [if_neg (fun h => h2 ⟨h.1, h.2.1⟩)]
        simp [inG, h2]
    · rw [if_neg h1, if_neg (fun h => h1 (by omega))]
      rfl
  | x :: L, s, e, ⟨h1, h2, h3⟩ => by
    have hle := h3.le
    simp only [gapsGo, List.countP_append, ch_count at_ h3]
    have e1 : (if s < x.fr then [(s, x.fr)] else []).countP (inG at_) = if s ≤ at_ ∧ at_ < x.fr then 1 else 0 := by
      by_cases h4 : s < x.fr
      · rw [if_pos h4]
        by_cases h5 : s ≤ at_ ∧ at_ < x.fr <;> simp [inG, h5]
      · rw [if_neg h4, if_neg (by omega)]; rfl
    rw [e1]
    by_cases h5 : s ≤ at_ ∧ at_ < x.fr
    · rw [if_pos h5, if_neg (by omega), if_pos]
      refine ⟨h5.1, by omega, fun y hy => ?_⟩
      rcases List.mem_cons.1 hy with rfl | hy
      · omega
      · have := h3.mem y hy; omega
    · rw [if_neg h5]
      by_cases h6 : x.to ≤ at_ ∧ at_ < e ∧ ∀ y ∈ L, ¬ (y.fr ≤ at_ ∧ at_ < y.to)
      · rw [if_pos h6, if_pos]
        refine ⟨by omega, h6.2.1, fun y hy => ?_⟩
        rcases List.mem_cons.1 hy with rfl | hy
        · omega
        · exact h6.2.2 y hy
      · rw [if_neg h6, if_neg]
        intro h7
        have := h7.2.2 x (List.mem_cons_self ..)
        exact h6 ⟨by omega, h7.2.1, fun y hy => h7.2.2 y (List.mem_cons_of_mem _ hy)⟩

theorem nearI_lt (x : Ext) (at_ : Int) : nearI x at_ < 0 ↔ x.to ≤ at_ := by unfold nearI; split <;> (try split) <;> omega
theorem nearI_zero (x : Ext) (at_ : Int) : nearI x at_ = 0 ↔ ¬ x.to ≤ at_ ∧ ¬ at_ < x.fr := by unfold nearI; split <;> (try split) <;> omega
theorem near_ch (at_ : Int) : ∀ {L : List Ext} {s e : Int}, Ch s L e → (bsIs (fun x => nearI x at_) L = true ↔ ∃ x ∈ L, x.fr ≤ at_ ∧ at_ < x.to)
  | [], s, e, h => by simp [bsIs, bsAt]
  | x :: L, s, e, ⟨h1, h2, h3⟩ => by
    by_cases hx : x.to ≤ at_
    · have ih := near_ch at_ h3
      have e1 : bsAt (fun x => nearI x at_) (x :: L) = bsAt (fun x => nearI x at_) L + 1 := by
        unfold bsAt; rw [List.countP_cons]; simp [nearI_lt, hx]
      have e2 : bsIs (fun x => nearI x at_) (x :: L) = bsIs (fun x => nearI x at_) L := by
        unfold bsIs
        rw [e1]
        simp
      rw [e2, ih]
      constructor
      · rintro ⟨y, hy, h⟩; exact ⟨y, List.mem_cons_of_mem _ hy, h⟩
      · rintro ⟨y, hy, h⟩
        rcases List.mem_cons.1 hy with rfl | hy
        · omega
        · exact ⟨y, hy, h⟩
    · have e1 : bsAt (fun x => nearI x at_) (x :: L) = 0 := by
        unfold bsAt
        rw [List.countP_eq_zero]
        intro y hy
        simp only [decide_eq_true_eq, nearI_lt]
        rcases List.mem_cons.1 hy with rfl | hy
        · exact hx
        · have := h3.mem y hy; omega
      have e2 : bsIs (fun x => nearI x at_) (x :: L) = true ↔ nearI x at_ = 0 := by
        unfold bsIs
        rw [e1]
        simp
      rw [e2, nearI_zero]
      constructor
      · intro h; exact ⟨x, List.mem_cons_self .., by omega, by omega⟩
      · rintro ⟨y, hy, h⟩
        rcases List.mem_cons.1 hy with rfl | hy
        · omega
        · have := h3.mem y hy; omega

theorem ite12 (p : Prop) [Decidable p] : (if p then (1 : Int) else 2) = 1 ∨ (if p then (1 : Int) else 2) = 2 := by
  by_cases h : p <;> simp [h]
/-- where an address is. -/
theorem places {c : Conf} {gi : Int} {live quar : List Piece} {L : List Ext} (h : Op c gi live quar L) (at_ : Int) :
    (gapsF c L).countP (inG at_) = (if (c.page * 256 ≤ at_ ∧ at_ < (c.page + c.n) * 256) ∧ (nearF L at_).1 = 0 then 1 else 0) ∧
    ((nearF L at_).1 ≠ 0 → c.page * 256 ≤ at_ ∧ at_ < (c.page + c.n) * 256) ∧
    ((nearF L at_).1 = 0 ∨ (((nearF L at_).1 = 3 ∨ (nearF L at_).1 = 4) ∧ ∃ j, j < quar.length ∧ (nearF L at_).2.1 = (j : Int) ∧ (nearF L at_).2.2 = at_ - quar[j]!.pos) ∨
     (((nearF L at_).1 = 1 ∨ (nearF L at_).1 = 2) ∧ ∃ j, j < live.length ∧ (nearF L at_).2.1 = (j : Int) ∧ (nearF L at_).2.2 = at_ - live[j]!.pos)) := by
  have hc := ch_count at_ h.ch
  have hn := near_ch at_ h.ch
  have hm := h.ch.mem
  unfold gapsF
  rw [hc]
  by_cases hb : bsIs (fun x => nearI x at_) L = true
  · obtain ⟨x, hx, hx1⟩ := hn.1 hb
    have hxm := hm x hx
    have hlt : bsAt (fun x => nearI x at_) L < L.length := by unfold bsIs at hb; simp only [decide_eq_true_eq] at hb; exact hb.1
    have e : nearF L at_ = ((if 0 ≤ at_ - L[bsAt (fun x => nearI x at_) L]!.p.pos ∧ at_ - L[bsAt (fun x => nearI x at_) L]!.p.pos < L[bsAt (fun x => nearI x at_) L]!.p.size then 1 else 2) + (if L[bsAt (fun x => nearI x at_) L]!.quar then 2 else 0), L[bsAt (fun x => nearI x at_) L]!.ix, at_ - L[bsAt (fun x => nearI x at_) L]!.p.pos) := by
      unfold nearF; rw [if_pos hb]
    rw [e]
    have hmem : L[bsAt (fun x => nearI x at_) L]! ∈ items c.red live quar := h.perm.mem_iff.1 (by rw [getElem!_pos L _ hlt]; exact List.getElem_mem hlt)
    generalize L[bsAt (fun x => nearI x at_) L]! = y at hmem ⊢
    have hk : ∀ q : Bool, (if 0 ≤ at_ - y.p.pos ∧ at_ - y.p.pos < y.p.size then (1 : Int) else 2) + (if q then 2 else 0) ≠ 0 := fun q => by cases q <;> simp <;> split <;> omega
    refine ⟨?_, fun _ => by omega, .inr ?_⟩
    · rw [if_neg (fun hh => hh.2.2 x hx hx1), if_neg (fun hh => hk _ hh.2)]
    · rcases List.mem_append.1 hmem with hmem | hmem
      · obtain ⟨j, hj, rfl⟩ := items_ix _ _ _ _ _ hmem
        refine .inr ⟨?_, j, hj, by simp [mkE], rfl⟩
        rw [show (mkE c.red false (0 + j) live[j]!).p = live[j]! from rfl, show (mkE c.red false (0 + j) live[j]!).quar = false from rfl]
        rcases ite12 (0 ≤ at_ - live[j]!.pos ∧ at_ - live[j]!.pos < live[j]!.size) with h | h <;> rw [h] <;> simp
      · obtain ⟨j, hj, rfl⟩ := items_ix _ _ _ _ _ hmem
        refine .inl ⟨?_, j, hj, by simp [mkE], rfl⟩
        rw [show (mkE c.red true (0 + j) quar[j]!).p = quar[j]! from rfl, show (mkE c.red true (0 + j) quar[j]!).quar = true from rfl]
        rcases ite12 (0 ≤ at_ - quar[j]!.pos ∧ at_ - quar[j]!.pos < quar[j]!.size) with h | h <;> rw [h] <;> simp
  · have e : nearF L at_ = (0, 0, 0) := by unfold nearF; rw [if_neg hb]
    rw [e]
    refine ⟨?_, fun hh => absurd rfl hh, .inl rfl⟩
    by_cases h1 : c.page * 256 ≤ at_ ∧ at_ < (c.page + c.n) * 256
    · rw [if_pos ⟨h1.1, h1.2, fun x hx hxx => hb (hn.2 ⟨x, hx, hxx⟩)⟩, if_pos ⟨h1, rfl⟩]
    · rw [if_neg (fun hh => h1 ⟨hh.1, hh.2.1⟩), if_neg (fun hh => h1 hh.1)]

theorem out_one (L : List Ext) (live : List Piece) (at_ : Int) : outGo L live (1 : Int).toNat at_ 1 = if (nearF L at_).1 = 1 then none else some at_ := by
  show outGo L live 1 at_ 1 = _
  simp only [outGo]
  rw [if_neg (by omega)]
  by_cases h : (nearF L at_).1 = 1
  · rw [if_neg (by simpa using h), if_pos h]
  · rw [if_pos h, if_neg h]
theorem Ch.pair : ∀ {L : List Ext} {s e : Int}, Ch s L e → L.Pairwise (fun x y => x.fr < y.fr)
  | [], _, _, _ => List.Pairwise.nil
  | _ :: _, _, _, ⟨_, h2, h3⟩ => List.pairwise_cons.2 ⟨fun y hy => by have := h3.mem y hy; omega, h3.pair⟩
theorem Op.uniq {c : Conf} {gi : Int} {live quar : List Piece} {L L' : List Ext} (h : Op c gi live quar L) (h' : Op c gi live quar L') : L' = L := (h.unique h'.perm h'.ch.pair).symm

def inS (at_ : Int) (g : Int × Int) : Bool := decide (g.1 ≤ at_ ∧ at_ < g.1 + g.2)
theorem spans_count (c : Conf) (L : List Ext) (at_ : Int) : ((gapsF c L).map fun g => (g.1, g.2 - g.1)).countP (inS at_) = (gapsF c L).countP (inG at_) := by
  rw [List.countP_map]
  congr 1
  funext g
  simp only [Function.comp, inS, inG]
  rw [show g.1 + (g.2 - g.1) = g.2 by omega]
theorem count_take {α : Type} [Inhabited α] (f : α → Bool) (l : List α) (k : Nat) (hk : k < l.length) : (l.take (k + 1)).countP f = (l.take k).countP f + if f l[k]! then 1 else 0 := by
  rw [List.take_succ_eq_append_getElem hk, List.countP_append, getElem!_pos l k hk, List.countP_cons, List.countP_nil]
  simp
end Go.Proofs.Ytbhbjcgbhklieaa
