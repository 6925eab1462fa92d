/- A good heap, said of its pieces alone. -/
import Derived.Test.YtbhbjcgbhklieaaC1
namespace Go.Proofs.Ytbhbjcgbhklieaa
open Go.RowKit

def pOk (c : Conf) (gi : Int) (p : Piece) : Prop := p.pos.tmod 8 = 0 ∧ 0 ≤ p.size ∧ p.size ≤ 65536 ∧ 1 ≤ p.born ∧ p.born ≤ gi ∧ c.page * 256 ≤ p.pos - c.red ∧ p.pos + max p.size 1 + c.red ≤ (c.page + c.n) * 256
def DjP (red : Int) (p q : Piece) : Prop := p.pos + max p.size 1 + red ≤ q.pos - red ∨ q.pos + max q.size 1 + red ≤ p.pos - red

structure GoodP (c : Conf) (gi : Int) (live quar : List Piece) : Prop where
  conf : okConf c = true
  gi0 : 0 ≤ gi
  gi1 : gi ≤ 1073741824
  n1 : live.length ≤ 1000
  n2 : quar.length ≤ 1000
  each : ∀ p ∈ live ++ quar, pOk c gi p
  births : ((live ++ quar).map (·.born)).Nodup
  dj : (live ++ quar).Pairwise (DjP c.red)
  pos : live.Pairwise (fun p q => p.pos < q.pos)
  held : (quar.map (·.size)).sum ≤ c.quarantine

theorem okGo_iff (c : Conf) (gi : Int) : ∀ (s : List Int) (l : List Ext), okGo c gi s l ↔ (∀ x ∈ l, okX c gi [] x) ∧ (l.map (·.p.born)).Nodup ∧ ∀ x ∈ l, x.p.born ∉ s
  | s, [] => by simp [okGo]
  | s, x :: r => by
    rw [okGo, okGo_iff c gi _ r]
    simp only [List.mem_cons, forall_eq_or_imp, List.map_cons, List.nodup_cons, List.mem_append, not_or, List.mem_map, not_exists, not_and]
    unfold okX
    simp only [List.not_mem_nil, not_false_eq_true, true_and]
    constructor
    · rintro ⟨⟨a1, a2, a3, a4, a5, a6, a7, a8⟩, b1, b2, b3⟩
      exact ⟨⟨⟨a1, a2, a3, a4, a5, a7, a8⟩, b1⟩, ⟨fun y hy e => (b3 y hy).2.1 e, b2⟩, a6, fun y hy => (b3 y hy).1⟩
    · rintro ⟨⟨⟨a1, a2, a3, a4, a5, a7, a8⟩, b1⟩, ⟨h, b2⟩, a6, b3⟩
      exact ⟨⟨a1, a2, a3, a4, a5, a6, a7, a8⟩, b1, b2, fun y hy => ⟨b3 y hy, fun e => h y hy e, trivial⟩⟩

theorem itemsFrom_p (red : Int) (q : Bool) : ∀ (i : Nat) (l : List Piece), (itemsFrom red q i l).map (·.p) = l
  | _, [] => rfl
  | i, p :: l => by simp only [itemsFrom, List.map_cons, itemsFrom_p red q (i + 1) l]; rfl
theorem items_p (red : Int) (live quar : List Piece) : (items red live quar).map (·.p) = live ++ quar := by simp [items, itemsFrom_p]

theorem items_ex {red : Int} {live quar : List Piece} {x : Ext} (h : x ∈ items red live quar) : ∃ p ∈ live ++ quar, ∃ q j, x = mkE red q j p := by
  rcases List.mem_append.1 h with h | h
  · obtain ⟨p, hp, j, rfl⟩ := items_mem _ _ _ _ _ h
    exact ⟨p, List.mem_append_left _ hp, false, j, rfl⟩
  · obtain ⟨p, hp, j, rfl⟩ := items_mem _ _ _ _ _ h
    exact ⟨p, List.mem_append_right _ hp, true, j, rfl⟩
theorem items_of {red : Int} {live quar : List Piece} {p : Piece} (h : p ∈ live ++ quar) : ∃ x ∈ items red live quar, x.p = p ∧ ∃ q j, x = mkE red q j p := by
  rw [← items_p red] at h
  obtain ⟨x, hx, e⟩ := List.mem_map.1 h
  obtain ⟨p', _, q, j, rfl⟩ := items_ex hx
  exact ⟨_, hx, e, q, j, by cases e; rfl⟩

theorem okX_mk {c : Conf} {gi : Int} {q : Bool} {j : Nat} {p : Piece} (hc : okConf c = true) (hp : WfP p) : okX c gi [] (mkE c.red q j p) ↔ pOk c gi p := by
  simp only [okConf, decide_eq_true_eq] at hc
  unfold okX pOk
  have e : (mkE c.red q j p).p = p := rfl
  rw [e]
  simp only [List.not_mem_nil, not_false_eq_true, true_and]
  constructor
  · rintro ⟨a1, a2, a3, a4, a5, a6, a7⟩
    obtain ⟨e1, e2⟩ := mkE_ne c.red (by omega) (by omega) q j p hp a2 a3
    rw [e1] at a6; rw [e2] at a7
    exact ⟨a1, a2, a3, a4, a5, a6, a7⟩
  · rintro ⟨a1, a2, a3, a4, a5, a6, a7⟩
    obtain ⟨e1, e2⟩ := mkE_ne c.red (by omega) (by omega) q j p hp a2 a3
    rw [e1, e2]
    exact ⟨a1, a2, a3, a4, a5, a6, a7⟩

theorem heldF_from (red : Int) (q : Bool) : ∀ (i : Nat) (l : List Piece), heldF (itemsFrom red q i l) = if q then (l.map (·.size)).sum else 0
  | _, [] => by simp [heldF, itemsFrom]
  | i, p :: l => by
    have := heldF_from red q (i + 1) l
    have e1 : (mkE red q i p).quar = q := rfl
    have e2 : (mkE red q i p).p = p := rfl
    simp only [heldF, itemsFrom, List.map_cons, List.sum_cons] at this ⊢
    rw [this, e1, e2]
    cases q <;> simp
theorem heldF_items (red : Int) (live quar : List Piece) : heldF (items red live quar) = (quar.map (·.size)).sum := by
  have h1 := heldF_from red false 0 live
  have h2 := heldF_from red true 0 quar
  simp only [heldF, items, List.map_append, List.sum_append] at h1 h2 ⊢
  rw [h1, h2]; simp

theorem dj_iff {c : Conf} {gi : Int} {live quar : List Piece} (hc : okConf c = true) (wf : ∀ p ∈ live ++ quar, WfP p) (hp : ∀ p ∈ live ++ quar, pOk c gi p) : (items c.red live quar).Pairwise Dj ↔ (live ++ quar).Pairwise (DjP c.red) := by
  rw [← items_p c.red, List.pairwise_map]
  simp only [okConf, decide_eq_true_eq] at hc
  have h : ∀ x ∈ items c.red live quar, x.fr = x.p.pos - c.red ∧ x.to = x.p.pos + max x.p.size 1 + c.red := fun x hx => by
    obtain ⟨p, hpm, q, j, rfl⟩ := items_ex hx
    have h1 := hp p hpm
    exact mkE_ne c.red (by omega) (by omega) q j p (wf p hpm) h1.2.1 h1.2.2.1
  constructor
  · intro hd
    refine List.Pairwise.imp_of_mem (fun {x y} hx hy hxy => ?_) hd
    have a := h x hx; have b := h y hy
    unfold DjP; unfold Dj at hxy; omega
  · intro hd
    refine List.Pairwise.imp_of_mem (fun {x y} hx hy hxy => ?_) hd
    have a := h x hx; have b := h y hy
    unfold Dj; unfold DjP at hxy; omega

theorem sortedPos_of {live : List Piece} (h : live.Pairwise (fun p q => p.pos < q.pos)) : SortedPos live := by
  intro j hj
  rw [List.pairwise_iff_getElem] at h
  rw [getElem!_pos live j (by omega), getElem!_pos live (j + 1) hj]
  exact Int.le_of_lt (h j (j + 1) (by omega) hj (by omega))

theorem strict_of {red : Int} (h0 : 0 ≤ red) : ∀ {live : List Piece}, SortedPos live → live.Pairwise (DjP red) → live.Pairwise (fun p q => p.pos < q.pos) := by
  intro live hs hd
  have mono : ∀ i d, i + d < live.length → live[i]!.pos ≤ live[i + d]!.pos := by
    intro i d
    induction d with
    | zero => intro _; exact Int.le_refl _
    | succ d ih => intro h; exact Int.le_trans (ih (by omega)) (hs (i + d) h)
  rw [List.pairwise_iff_getElem] at hd ⊢
  intro i j hi hj hij
  have h1 := hd i j hi hj hij
  obtain ⟨d, rfl⟩ : ∃ d, j = i + d := ⟨j - i, by omega⟩
  have h2 := mono i d hj
  rw [getElem!_pos live i hi, getElem!_pos live (i + d) hj] at h2
  unfold DjP at h1
  omega

theorem good_iff {c : Conf} {gi : Int} {live quar : List Piece} (wl : ∀ p ∈ live, WfP p) (wq : ∀ p ∈ quar, WfP p) : Good c gi live quar ↔ GoodP c gi live quar := by
  have wf : ∀ p ∈ live ++ quar, WfP p := fun p hp => (List.mem_append.1 hp).elim (wl p) (wq p)
  constructor
  · intro g
    have hok := (okGo_iff c gi [] _).1 g.ok
    have each : ∀ p ∈ live ++ quar, pOk c gi p := fun p hp => by
      obtain ⟨x, hx, _, q, j, rfl⟩ := items_of (red := c.red) hp
      exact (okX_mk g.conf (wf p hp)).1 (hok.1 _ hx)
    have hd := (dj_iff g.conf wf each).1 g.dj
    have hb := g.conf
    simp only [okConf, decide_eq_true_eq] at hb
    refine ⟨g.conf, g.gi0, g.gi1, g.n1, g.n2, each, ?_, hd, strict_of (red := c.red) (by omega) g.pos (List.pairwise_append.1 hd).1, ?_⟩
    · have := hok.2.1
      rw [← items_p c.red, List.map_map]; exact this
    · have := g.held; rwa [heldF_items] at this
  · intro g
    refine ⟨g.conf, g.gi0, g.gi1, g.n1, g.n2, ?_, (dj_iff g.conf wf g.each).2 g.dj, sortedPos_of g.pos, by rw [heldF_items]; exact g.held⟩
    refine (okGo_iff c gi [] _).2 ⟨fun x hx => ?_, ?_, fun _ _ => by simp⟩
    · obtain ⟨p, hp, q, j, rfl⟩ := items_ex hx
      exact (okX_mk g.conf (wf p hp)).2 (g.each p hp)
    · have := g.births
      rw [← items_p c.red, List.map_map] at this; exact this

/-- a piece out of the live list, and any rest of the quarantine with it behind. -/
theorem GoodP.free {c : Conf} {gi : Int} {live quar : List Piece} (g : GoodP c gi live quar) {i : Nat} (hi : i < live.length) {q' : List Piece} (hq : q' <:+ quar ++ [live[i]]) (hn : q'.length ≤ 1000) (hh : (q'.map (·.size)).sum ≤ c.quarantine) : GoodP c gi (live.eraseIdx i) q' := by
  have hP : (live.eraseIdx i ++ (quar ++ [live[i]])).Perm (live ++ quar) := by
    have h1 : live = live.take i ++ live[i] :: live.drop (i + 1) := by simp
    have h2 : (live[i] :: live.eraseIdx i).Perm live := by
      rw [List.eraseIdx_eq_take_drop_succ]
      conv => rhs; rw [h1]
      exact List.perm_middle.symm
    refine List.Perm.trans ?_ (h2.append_right quar)
    rw [← List.append_assoc]
    exact List.perm_append_singleton _ _
  have hs : (live.eraseIdx i ++ q').Sublist (live.eraseIdx i ++ (quar ++ [live[i]])) := List.Sublist.append (List.Sublist.refl _) hq.sublist
  refine ⟨g.conf, g.gi0, g.gi1, ?_, hn, fun p hp => g.each p (hP.mem_iff.1 (hs.mem hp)), ?_, ?_, g.pos.sublist (List.eraseIdx_sublist _ _), hh⟩
  · have := g.n1; have := (List.eraseIdx_sublist live i).length_le; omega
  · exact (((hP.map _).nodup_iff).2 g.births).sublist (hs.map _)
  · exact (g.dj.perm hP.symm (fun {x y} h => h.symm)).sublist hs
end Go.Proofs.Ytbhbjcgbhklieaa
