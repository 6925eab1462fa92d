/- A good heap, said of its pieces alone. | Gaps, room, and what the quarantine keeps: plain facts. | HeapQuarantine: the plain law. -/
import Derived.Test.YtbhbjcgbhklieaaC7
namespace Go.Proofs.Ytbhbjcgbhklieaa
open Go.RowKit

def pOk (c : Conf) (gi : Int) (p : Piece) : Prop := p.pos.tmod 8 = 0 ∧ 0 ≤ p.size ∧ p.size ≤ 65536 ∧ 1 ≤ p.born ∧ p.born ≤ gi ∧ c.page * 256 ≤ p.pos - c.red ∧ p.pos + max p.size 1 + c.red ≤ (c.page + c.n) * 256
def DjP (red : Int) (p q : Piece) : Prop := p.pos + max p.size 1 + red ≤ q.pos - red ∨ q.pos + max q.size 1 + red ≤ p.pos - red

structure GoodP (c : Conf) (gi : Int) (live quar : List Piece) : Prop where
  conf : okConf c = true
  gi0 : 0 ≤ gi
  gi1 : gi ≤ 1073741824
  n1 : live.length ≤ 1000
  n2 : quar.length ≤ 1000
  each : ∀ p ∈ live ++ quar, pOk c gi p
  births : ((live ++ quar).map (·.born)).Nodup
  dj : (live ++ quar).Pairwise (DjP c.red)
  pos : live.Pairwise (fun p q => p.pos < q.pos)
  held : (quar.map (·.size)).sum ≤ c.quarantine

theorem okGo_iff (c : Conf) (gi : Int) : ∀ (s : List Int) (l : List Ext), okGo c gi s l ↔ (∀ x ∈ l, okX c gi [] x) ∧ (l.map (·.p.born)).Nodup ∧ ∀ x ∈ l, x.p.born ∉ s
  | s, [] => by simp [okGo]
  | s, x :: r => by
    rw [okGo, okGo_iff c gi _ r]
    simp only [List.mem_cons, forall_eq_or_imp, List.map_cons, List.nodup_cons, List.mem_append, not_or, List.mem_map, not_exists, not_and]
    unfold okX
    simp only [List.not_mem_nil, not_false_eq_true, true_and]
    constructor
    · rintro ⟨⟨a1, a2, a3, a4, a5, a6, a7, a8⟩, b1, b2, b3⟩
      exact ⟨⟨⟨a1, a2, a3, a4, a5, a7, a8⟩, b1⟩, ⟨fun y hy e => (b3 y hy).2.1 e, b2⟩, a6, fun y hy => (b3 y hy).1⟩
    · rintro ⟨⟨⟨a1, a2, a3, a4, a5, a7, a8⟩, b1⟩, ⟨h, b2⟩, a6, b3⟩
      exact ⟨⟨a1, a2, a3, a4, a5, a6, a7, a8⟩, b1, b2, fun y hy => ⟨b3 y hy, fun e => h y hy e, trivial⟩⟩

theorem itemsFrom_p (red : Int) (q : Bool) : ∀ (i : Nat) (l : List Piece), (itemsFrom red q i l).map (·.p) = l
  | _, [] => rfl
  | i, p :: l => by simp only [itemsFrom, List.map_cons, itemsFrom_p red q (i + 1) l]; rfl
theorem items_p (red : Int) (live quar : List Piece) : (items red live quar).map (·.p) = live ++ quar := by simp [items, itemsFrom_p]

theorem items_ex {red : Int} {live quar : List Piece} {x : Ext} (h : x ∈ items red live quar) : ∃ p ∈ live ++ quar, ∃ q j, x = mkE red q j p := by
  rcases List.mem_append.1 h with h | h
  · obtain ⟨p, hp, j, rfl⟩ := items_mem _ _ _ _ _ h
    exact ⟨p, List.mem_append_left _ hp, false, j, rfl⟩
  · obtain ⟨p, hp, j, rfl⟩ := items_mem _ _ _ _ _ h
    exact ⟨p, List.mem_append_right _ hp, true, j, rfl⟩
theorem items_of {red : Int} {live quar : List Piece} {p : Piece} (h : p ∈ live ++ quar) : ∃ x ∈ items red live quar, x.p = p ∧ ∃ q j, x = mkE red q j p := by
  rw [← items_p red] at h
  obtain ⟨x, hx, e⟩ := List.mem_map.1 h
  obtain ⟨p', _, q, j, rfl⟩ := items_ex hx
  exact ⟨_, hx, e, q, j, by cases e; rfl⟩

theorem okX_mk {c : Conf} {gi : Int} {q : Bool} {j : Nat} {p : Piece} (hc : okConf c = true) (hp : WfP p) : okX c gi [] (mkE c.red q j p) ↔ pOk c gi p := by
  simp only [okConf, decide_eq_true_eq] at hc
  unfold okX pOk
  have e : (mkE c.red q j p).p = p := rfl
  rw [e]
  simp only [List.not_mem_nil, not_false_eq_true, true_and]
  constructor
  · rintro ⟨a1, a2, a3, a4, a5, a6, a7⟩
    obtain ⟨e1, e2⟩ := mkE_ne c.red (by omega) (by omega) q j p hp a2 a3
    rw [e1] at a6; rw [e2] at a7
    exact ⟨a1, a2, a3, a4, a5, a6, a7⟩
  · rintro ⟨a1, a2, a3, a4, a5, a6, a7⟩
    obtain ⟨e1, e2⟩ := mkE_ne c.red (by omega) (by omega) q j p hp a2 a3
    rw [e1, e2]
    exact ⟨a1, a2, a3, a4, a5, a6, a7⟩

theorem heldF_from (red : Int) (q : Bool) : ∀ (i : Nat) (l : List Piece), heldF (itemsFrom red q i l) = if q then (l.map (·.size)).sum else 0
  | _, [] => by simp [heldF, itemsFrom]
  | i, p :: l => by
    have := heldF_from red q (i + 1) l
    have e1 : (mkE red q i p).quar = q := rfl
    have e2 : (mkE red q i p).p = p := rfl
    simp only [heldF, itemsFrom, List.map_cons, List.sum_cons] at this ⊢
    rw [this, e1, e2]
    cases q <;> simp
theorem heldF_items (red : Int) (live quar : List Piece) : heldF (items red live quar) = (quar.map (·.size)).sum := by
  have h1 := heldF_from red false 0 live
  have h2 := heldF_from red true 0 quar
  simp only [heldF, items, List.map_append, List.sum_append] at h1 h2 ⊢
  rw [h1, h2]; simp

theorem dj_iff {c : Conf} {gi : Int} {live quar : List Piece} (hc : okConf c = true) (wf : ∀ p ∈ live ++ quar, WfP p) (hp : ∀ p ∈ live ++ quar, pOk c gi p) : (items c.red live quar).Pairwise Dj ↔ (live ++ quar).Pairwise (DjP c.red) := by
  rw [← items_p c.red, List.pairwise_map]
  simp only [okConf, decide_eq_true_eq] at hc
  have h : ∀ x ∈ items c.red live quar, x.fr = x.p.pos - c.red ∧ x.to = x.p.pos + max x.p.size 1 + c.red := fun x hx => by
    obtain ⟨p, hpm, q, j, rfl⟩ := items_ex hx
    have h1 := hp p hpm
    exact mkE_ne c.red (by omega) (by omega) q j p (wf p hpm) h1.2.1 h1.2.2.1
  constructor
  · intro hd
    refine List.Pairwise.imp_of_mem (fun {x y} hx hy hxy => ?_) hd
    have a := h x hx; have b := h y hy
    unfold DjP; unfold Dj at hxy; omega
  · intro hd
    refine List.Pairwise.imp_of_mem (fun {x y} hx hy hxy => ?_) hd
    have a := h x hx; have b := h y hy
    unfold Dj; unfold DjP at hxy; omega

theorem sortedPos_of {live : List Piece} (h : live.Pairwise (fun p q => p.pos < q.pos)) : SortedPos live := by
  intro j hj
  rw [List.pairwise_iff_getElem] at h
  rw [getElem!_pos live j (by omega), getElem!_pos live (j + 1) hj]
  exact Int.le_of_lt (h j (j + 1) (by omega) hj (by omega))

theorem strict_of {red : Int} (h0 : 0 ≤ red) : ∀ {live : List Piece}, SortedPos live → live.Pairwise (DjP red) → live.Pairwise (fun p q => p.pos < q.pos) := by
  intro live hs hd
  have mono : ∀ i d, i + d < live.length → live[i]!.pos ≤ live[i + d]!.pos := by
    intro i d
    induction d with
    | zero => intro _; exact Int.le_refl _
    | succ d ih => intro h; exact Int.le_trans (ih (by omega)) (hs (i + d) h)
  rw [List.pairwise_iff_getElem] at hd ⊢
  intro i j hi hj hij
  have h1 := hd i j hi hj hij
  obtain ⟨d, rfl⟩ : ∃ d, j = i + d := ⟨j - i, by omega⟩
  have h2 := mono i d hj
  rw [getElem!_pos live i hi, getElem!_pos live (i + d) hj] at h2
  unfold DjP at h1
  omega

theorem good_iff {c : Conf} {gi : Int} {live quar : List Piece} (wl : ∀ p ∈ live, WfP p) (wq : ∀ p ∈ quar, WfP p) : Good c gi live quar ↔ GoodP c gi live quar := by
  have wf : ∀ p ∈ live ++ quar, WfP p := fun p hp => (List.mem_append.1 hp).elim (wl p) (wq p)
  constructor
  · intro g
    have hok := (okGo_iff c gi [] _).1 g.ok
    have each : ∀ p ∈ live ++ quar, pOk c gi p := fun p hp => by
      obtain ⟨x, hx, _, q, j, rfl⟩ := items_of (red := c.red) hp
      exact (okX_mk g.conf (wf p hp)).1 (hok.1 _ hx)
    have hd := (dj_iff g.conf wf each).1 g.dj
    have hb := g.conf
    simp only [okConf, decide_eq_true_eq] at hb
    refine ⟨g.conf, g.gi0, g.gi1, g.n1, g.n2, each, ?_, hd, strict_of (red := c.red) (by omega) g.pos (List.pairwise_append.1 hd).1, ?_⟩
    · have := hok.2.1
      rw [← items_p c.red, List.map_map]; exact this
    · have := g.held; rwa [heldF_items] at this
  · intro g
    refine ⟨g.conf, g.gi0, g.gi1, g.n1, g.n2, ?_, (dj_iff g.conf wf g.each).2 g.dj, sortedPos_of g.pos, by rw [heldF_items]; exact g.held⟩
    refine (okGo_iff c gi [] _).2 ⟨fun x hx => ?_, ?_, fun _ _ => by simp⟩
    · obtain ⟨p, hp, q, j, rfl⟩ := items_ex hx
      exact (okX_mk g.conf (wf p hp)).2 (g.each p hp)
    · have := g.births
      rw [← items_p c.red, List.map_map] at this; exact this

/-- a piece out of the live list, and any rest of the quarantine with it behind. -/
theorem GoodP.free {c : Conf} {gi : Int} {live quar : List Piece} (g : GoodP c gi live quar) {i : Nat} (hi : i < live.length) {q' : List Piece} (hq : q' <:+ quar ++ [live[i]]) (hn : q'.length ≤ 1000) (hh : (q'.map (·.size)).sum ≤ c.quarantine) : GoodP c gi (live.eraseIdx i) q' := by
  have hP : (live.eraseIdx i ++ (quar ++ [live[i]])).Perm (live ++ quar) := by
    have h1 : live = live.take i ++ live[i] :: live.drop (i + 1) := by simp
    have h2 : (live[i] :: live.eraseIdx i).Perm live := by
      rw [List.eraseIdx_eq_take_drop_succ]
      conv => rhs; rw [h1]
      exact List.perm_middle.symm
    refine List.Perm.trans ?_ (h2.append_right quar)
    rw [← List.append_assoc]
    exact List.perm_append_singleton _ _
  have hs : (live.eraseIdx i ++ q').Sublist (live.eraseIdx i ++ (quar ++ [live[i]])) := List.Sublist.append (List.Sublist.refl _) hq.sublist
  refine ⟨g.conf, g.gi0, g.gi1, ?_, hn, fun p hp => g.each p (hP.mem_iff.1 (hs.mem hp)), ?_, ?_, g.pos.sublist (List.eraseIdx_sublist _ _), hh⟩
  · have := g.n1; have := (List.eraseIdx_sublist live i).length_le; omega
  · exact (((hP.map _).nodup_iff).2 g.births).sublist (hs.map _)
  · exact (g.dj.perm hP.symm (fun {x y} h => h.symm)).sublist hs
end Go.Proofs.Ytbhbjcgbhklieaa

namespace Go.Proofs.Ytbhbjcgbhklieaa
open Go.RowKit

def Ch : Int → List Ext → Int → Prop
  | s, [], e => s ≤ e
  | s, x :: L, e => s ≤ x.fr ∧ x.fr < x.to ∧ Ch x.to L e
theorem Ch.le : ∀ {s : Int} {L : List Ext} {e : Int}, Ch s L e → s ≤ e
  | _, [], _, h => h
  | _, _ :: _, _, ⟨h1, h2, h3⟩ => by have := h3.le; omega
theorem Ch.mem : ∀ {s : Int} {L : List Ext} {e : Int}, Ch s L e → ∀ x ∈ L, s ≤ x.fr ∧ x.fr < x.to ∧ x.to ≤ e
  | _, [], _, _, _, h => by cases h
  | _, y :: L, _, ⟨h1, h2, h3⟩, x, hx => by
    rcases List.mem_cons.1 hx with rfl | hx
    · exact ⟨h1, h2, h3.le⟩
    · have := h3.mem x hx; omega

theorem ch_of : ∀ (L : List Ext) (s e : Int), (∀ x ∈ L, x.fr < x.to ∧ x.to ≤ e) → Adj L → (∀ x, L.head? = some x → s ≤ x.fr) → s ≤ e → Ch s L e
  | [], _, _, _, _, _, h => h
  | x :: L, s, e, h1, h2, h3, _ => by
    refine ⟨h3 x rfl, (h1 x (List.mem_cons_self ..)).1, ch_of L x.to e (fun y hy => h1 y (List.mem_cons_of_mem _ hy)) (fun j hj => ?_) (fun y hy => ?_) (h1 x (List.mem_cons_self ..)).2⟩
    · simpa using h2 (j + 1) (by simpa using hj)
    · cases L with
      | nil => cases hy
      | cons z L => cases hy; simpa using h2 0 (by simp)

theorem Op.ch {c : Conf} {gi : Int} {live quar : List Piece} {L : List Ext} (h : Op c gi live quar L) : Ch (c.page * 256) L ((c.page + c.n) * 256) := by
  have hb := h.good.conf
  simp only [okConf, decide_eq_true_eq] at hb
  have hok := ((okGo_iff c gi [] _).1 h.good.ok).1
  have hx : ∀ x ∈ L, c.page * 256 ≤ x.fr ∧ x.to ≤ (c.page + c.n) * 256 := fun x hx => (hok x (h.perm.mem_iff.1 hx)).2.2.2.2.2.2
  refine ch_of L _ _ (fun x hm => ⟨(h.ext x hm).1, (hx x hm).2⟩) h.adj (fun x e => (hx x (List.mem_of_mem_head? e)).1) (by omega)

theorem gaps_spec : ∀ {L : List Ext} {s e : Int}, Ch s L e → ∀ g ∈ gapsGo e s L, s ≤ g.1 ∧ g.1 < g.2 ∧ g.2 ≤ e ∧ ∀ x ∈ L, x.to ≤ g.1 ∨ g.2 ≤ x.fr
  | [], s, e, h, g, hg => by
    simp only [gapsGo] at hg
    split at hg
    · simp at hg; subst hg; exact ⟨Int.le_refl _, by assumption, Int.le_refl _, fun _ h => by cases h⟩
    · cases hg
  | x :: L, s, e, ⟨h1, h2, h3⟩, g, hg => by
    simp only [gapsGo] at hg
    rcases List.mem_append.1 hg with hg | hg
    · split at hg
      · simp at hg; subst hg
        refine ⟨Int.le_refl _, by assumption, by have := h3.le; simp only; omega, fun y hy => .inr ?_⟩
        rcases List.mem_cons.1 hy with rfl | hy
        · exact Int.le_refl _
        · have := h3.mem y hy; simp only; omega
      · cases hg
    · obtain ⟨a1, a2, a3, a4⟩ := gaps_spec h3 g hg
      refine ⟨by omega, a2, a3, fun y hy => ?_⟩
      rcases List.mem_cons.1 hy with rfl | hy
      · exact .inl a1
      · exact a4 y hy
theorem gaps_len : ∀ (L : List Ext) (s e : Int), (gapsGo e s L).length ≤ L.length + 1
  | [], s, e => by simp only [gapsGo]; split <;> simp
  | x :: L, s, e => by
    have := gaps_len L x.to e
    simp only [gapsGo, List.length_append, List.length_cons]
    split <;> simp <;> omega
theorem Op.gaps {c : Conf} {gi : Int} {live quar : List Piece} {L : List Ext} (h : Op c gi live quar L) : (∀ g ∈ gapsF c L, 256 ≤ g.1 ∧ g.1 < g.2 ∧ g.2 ≤ 4294967296 ∧ ∀ x ∈ L, x.to ≤ g.1 ∨ g.2 ≤ x.fr) ∧ (gapsF c L).length ≤ 2001 := by
  have hb := h.good.conf
  simp only [okConf, decide_eq_true_eq] at hb
  refine ⟨fun g hg => ?_, ?_⟩
  · obtain ⟨a1, a2, a3, a4⟩ := gaps_spec h.ch g hg
    exact ⟨by omega, a2, by omega, a4⟩
  · have := gaps_len L (c.page * 256) ((c.page + c.n) * 256); have := h.len; unfold gapsF; omega

def firstF (red a : Int) : Int := (a + red + 7) / 8 * 8
def roomGo (red size : Int) : List (Int × Int) → Option Int
  | [] => none
  | g :: r => if firstF red g.1 + max size 1 + red ≤ g.2 then some (firstF red g.1) else roomGo red size r
theorem roomGo_append (red size : Int) : ∀ (l r : List (Int × Int)), roomGo red size l = none → roomGo red size (l ++ r) = roomGo red size r
  | [], _, _ => rfl
  | g :: l, r, h => by
    simp only [roomGo, List.cons_append] at h ⊢
    split at h
    · cases h
    · rw [if_neg (by assumption)]; exact roomGo_append red size l r h
theorem roomGo_pre (red size : Int) : ∀ (l r : List (Int × Int)) (v : Int), roomGo red size l = some v → roomGo red size (l ++ r) = some v
  | [], _, _, h => by cases h
  | g :: l, r, v, h => by
    simp only [roomGo, List.cons_append] at h ⊢
    split at h
    · rw [if_pos (by assumption)]; exact h
    · rw [if_neg (by assumption)]; exact roomGo_pre red size l r v h
theorem roomGo_spec (red size : Int) : ∀ (l : List (Int × Int)) (v : Int), roomGo red size l = some v → ∃ g ∈ l, v = firstF red g.1 ∧ v + max size 1 + red ≤ g.2
  | [], _, h => by cases h
  | g :: l, v, h => by
    simp only [roomGo] at h
    split at h
    · cases h; exact ⟨g, List.mem_cons_self .., rfl, by assumption⟩
    · obtain ⟨g', h1, h2⟩ := roomGo_spec red size l v h
      exact ⟨g', List.mem_cons_of_mem _ h1, h2⟩

/-- what the quarantine keeps of a list: its longest end within the limits. -/
def trimF (Q : Int) : List Piece → List Piece
  | [] => []
  | p :: l => if 1000 < l.length + 1 ∨ Q < p.size + (l.map (·.size)).sum then trimF Q l else p :: l
theorem trimF_suffix (Q : Int) : ∀ l, trimF Q l <:+ l
  | [] => List.suffix_refl _
  | p :: l => by
    simp only [trimF]
    split
    · exact (trimF_suffix Q l).trans (List.suffix_cons _ _)
    · exact List.suffix_refl _
theorem trimF_ok {Q : Int} (h : 0 ≤ Q) : ∀ l, (trimF Q l).length ≤ 1000 ∧ ((trimF Q l).map (·.size)).sum ≤ Q
  | [] => by simpa [trimF] using h
  | p :: l => by
    simp only [trimF]
    split
    · exact trimF_ok h l
    · rename_i hn
      simp only [not_or, Nat.not_lt, Int.not_lt] at hn
      exact ⟨by simpa using hn.1, by simpa using hn.2⟩
theorem trimF_most {Q : Int} : ∀ {l s : List Piece}, s <:+ l → s.length ≤ 1000 → (s.map (·.size)).sum ≤ Q → s <:+ trimF Q l
  | [], s, h, _, _ => by simpa [trimF] using h
  | p :: l, s, h, h1, h2 => by
    simp only [trimF]
    split
    · rename_i hn
      rcases List.suffix_cons_iff.1 h with rfl | h
      · simp at h1 h2; omega
      · exact trimF_most h h1 h2
    · exact h

theorem at_of {live : List Piece} (h : live.Pairwise (fun p q => p.pos < q.pos)) {i : Nat} (hi : i < live.length) : atI live live[i]!.pos = i ∧ isI live live[i]!.pos = true := by
  rw [List.pairwise_iff_getElem] at h
  have h1 : atI live live[i]!.pos = i := by
    unfold atI bsAt
    refine countP_boundary _ live i (Nat.le_of_lt hi) (fun t ht => ?_) (fun t h3 h4 => ?_)
    · have := h t i (by omega) hi ht
      rw [getElem!_pos live i hi, getElem!_pos live t (by omega)]
      simp only [decide_eq_true_eq]
      unfold cmpI; rw [if_pos this]; decide
    · rw [getElem!_pos live i hi, getElem!_pos live t h4]
      have : live[i].pos ≤ live[t].pos := by
        rcases Nat.lt_or_eq_of_le h3 with h5 | rfl
        · exact Int.le_of_lt (h i t hi h4 h5)
        · exact Int.le_refl _
      simp only [decide_eq_false_iff_not]
      unfold cmpI; rw [if_neg (by omega)]; split <;> decide
  refine ⟨h1, ?_⟩
  unfold isI bsIs
  rw [show bsAt (fun x : Piece => cmpI x.pos live[i]!.pos) live = i from h1]
  simp [hi, cmpI]
/-- the sorted list of a good heap is known by any one. -/
theorem Op.unique {c : Conf} {gi : Int} {live quar : List Piece} {L L' : List Ext} (h : Op c gi live quar L) (hp : L'.Perm (items c.red live quar)) (hs : L'.Pairwise (fun x y => x.fr < y.fr)) : L = L' := by
  have hL : L.Pairwise (fun x y => x.fr < y.fr) := by
    rw [List.pairwise_iff_getElem]
    intro i j hi hj hij
    have h1 := h.adj i (by omega)
    have h2 := (h.ext L[i] (List.getElem_mem hi)).1
    rw [getElem!_pos L i hi, getElem!_pos L (i + 1) (by omega)] at h1
    rcases Nat.lt_or_eq_of_le (show i + 1 ≤ j from hij) with h5 | h5
    · have h3 := h.fr (i + 1) j h5 hj
      rw [getElem!_pos L j hj, getElem!_pos L (i + 1) (by omega)] at h3
      omega
    · subst h5; omega
  exact List.Perm.eq_of_pairwise (fun a b _ _ h1 h2 => by omega) hL hs (h.perm.trans hp.symm)
end Go.Proofs.Ytbhbjcgbhklieaa

namespace Go.Proofs.Ytbhbjcgbhklieaa
open Go.RowKit

theorem sum_nonneg : ∀ (l : List Piece), (∀ p ∈ l, 0 ≤ p.size) → 0 ≤ (l.map (·.size)).sum
  | [], _ => by simp
  | p :: l, h => by
    have h1 := h p (List.mem_cons_self ..)
    have h2 := sum_nonneg l (fun q hq => h q (List.mem_cons_of_mem _ hq))
    simp only [List.map_cons, List.sum_cons]; omega
theorem sum_drop_le (l : List Piece) (h : ∀ p ∈ l, 0 ≤ p.size) (a d : Nat) : ((l.drop (a + d)).map (·.size)).sum ≤ ((l.drop a).map (·.size)).sum := by
  have e : l.drop a = (l.drop a).take d ++ l.drop (a + d) := by rw [← List.drop_drop, List.take_append_drop]
  rw [e, List.map_append, List.sum_append]
  have := sum_nonneg ((l.drop a).take d) (fun p hp => h p (List.mem_of_mem_drop (List.mem_of_mem_take hp)))
  omega
/-- what the law's loop finds is what the quarantine keeps. -/
theorem trim_of {Q : Int} {l : List Piece} {n : Nat} (h0 : ∀ p ∈ l, 0 ≤ p.size) (hl : l.length ≤ 1000) (hn : n ≤ l.length) (hQ : 0 ≤ Q) (hs : ((l.drop (l.length - n)).map (·.size)).sum ≤ Q)
    (hm : n < l.length → Q < ((l.drop (l.length - n)).map (·.size)).sum + l[l.length - 1 - n]!.size) : trimF Q l = l.drop (l.length - n) := by
  have h1 : l.drop (l.length - n) <:+ trimF Q l := trimF_most (List.drop_suffix _ _) (by simp; omega) hs
  have h2 := List.suffix_iff_eq_drop.1 (trimF_suffix Q l)
  have h3 := h1.length_le
  have h4 := (trimF_suffix Q l).length_le
  rw [List.length_drop] at h3
  have h5 : (trimF Q l).length ≤ n := by
    refine Nat.le_of_not_lt fun hlt => ?_
    have hnl : n < l.length := by omega
    have h6 := hm hnl
    have h7 := (trimF_ok hQ l).2
    rw [h2] at h7
    obtain ⟨d, hd⟩ : ∃ d, l.length - (n + 1) = (l.length - (trimF Q l).length) + d := ⟨(trimF Q l).length - (n + 1), by omega⟩
    have h8 := sum_drop_le l h0 (l.length - (trimF Q l).length) d
    rw [← hd] at h8
    have h9 : l.drop (l.length - (n + 1)) = l[l.length - 1 - n]! :: l.drop (l.length - n) := by
      rw [List.drop_eq_getElem_cons (by omega), getElem!_pos l (l.length - 1 - n) (by omega)]
      congr 1
      · congr 1; omega
      · congr 1; omega
    rw [h9] at h8
    simp only [List.map_cons, List.sum_cons] at h8
    omega
  rw [h2, show (trimF Q l).length = n by omega]

/-- Free leaves a good heap. -/
theorem free_good {c : Conf} {gi : Int} {live quar : List Piece} (g : GoodP c gi live quar) {i : Nat} (hi : i < live.length) : GoodP c gi (live.eraseIdx i) (trimF c.quarantine (quar ++ [live[i]!])) := by
  have hb := g.conf
  simp only [okConf, decide_eq_true_eq] at hb
  have h := trimF_ok (Q := c.quarantine) (by omega) (quar ++ [live[i]!])
  refine g.free hi ?_ h.1 h.2
  rw [← getElem!_pos live i hi]
  exact trimF_suffix _ _

/-- a block that is placed meets none. -/
theorem room_apart {c : Conf} {gi : Int} {live quar : List Piece} {L : List Ext} (h : Op c gi live quar L) (wl : ∀ p ∈ live, WfP p) (wq : ∀ p ∈ quar, WfP p) {size v : Int} (hv : roomGo c.red size (gapsF c L) = some v) : ∀ p ∈ live ++ quar, p.pos + max p.size 1 + c.red ≤ v - c.red ∨ v + max size 1 + c.red ≤ p.pos - c.red := by
  intro p hp
  obtain ⟨g, hg, rfl, h2⟩ := roomGo_spec _ _ _ _ hv
  obtain ⟨h3, h4, h5, h6⟩ := h.gaps.1 g hg
  have hb := h.good.conf
  simp only [okConf, decide_eq_true_eq] at hb
  have gp := (good_iff wl wq).1 h.good
  have hpo := gp.each p hp
  have wf : WfP p := (List.mem_append.1 hp).elim (wl p) (wq p)
  obtain ⟨x, hx, _, q, j, rfl⟩ := items_of (red := c.red) hp
  have e := mkE_ne c.red (by omega) (by omega) q j p wf hpo.2.1 hpo.2.2.1
  have := h6 _ (h.perm.mem_iff.2 hx)
  rw [e.1, e.2] at this
  unfold firstF at *
  omega
end Go.Proofs.Ytbhbjcgbhklieaa
