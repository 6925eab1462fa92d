/- HeapFinds: the plain laws: what the specification's look-ups answer at a good heap. -/
import Derived.Test.YtbhbjcgbhklieaaG3
namespace Go.Proofs.Ytbhbjcgbhklieaa
open Go.RowKit

/-- the specification's live, from index i on. -/
def rLiveGo (at_ : Int) : List Piece → Nat → Int
  | [], _ => -1
  | p :: l, i => if p.pos = at_ then (i : Int) else rLiveGo at_ l (i + 1)
theorem rLiveGo_spec (at_ : Int) : ∀ (l : List Piece) (i : Nat), (rLiveGo at_ l i = -1 ∧ ∀ p ∈ l, p.pos ≠ at_) ∨ ∃ j, j < l.length ∧ rLiveGo at_ l i = ((i + j : Nat) : Int) ∧ l[j]!.pos = at_
  | [], _ => .inl ⟨rfl, fun _ h => by cases h⟩
  | p :: l, i => by
    simp only [rLiveGo]
    by_cases h : p.pos = at_
    · rw [if_pos h]; exact .inr ⟨0, by simp, by simp, by simpa using h⟩
    · rw [if_neg h]
      rcases rLiveGo_spec at_ l (i + 1) with ⟨h1, h2⟩ | ⟨j, hj, h1, h2⟩
      · refine .inl ⟨h1, fun q hq => ?_⟩
        rcases List.mem_cons.1 hq with rfl | hq
        · exact h
        · exact h2 q hq
      · exact .inr ⟨j + 1, by simpa using hj, by rw [h1]; congr 1; omega, by simpa using h2⟩
theorem rLive_eq {live : List Piece} (h : live.Pairwise (fun p q => p.pos < q.pos)) (at_ : Int) : rLiveGo at_ live 0 = if isI live at_ then (atI live at_ : Int) else -1 := by
  rcases rLiveGo_spec at_ live 0 with ⟨h1, h2⟩ | ⟨j, hj, h1, h2⟩
  · rw [h1]
    have hn : isI live at_ = false := by
      cases hi : isI live at_ with
      | false => rfl
      | true =>
        exfalso
        unfold isI bsIs at hi
        simp only [decide_eq_true_eq] at hi
        obtain ⟨hlt, he⟩ := hi
        have hm : live[bsAt (fun x => cmpI x.pos at_) live]! ∈ live := by rw [getElem!_pos live _ hlt]; exact List.getElem_mem hlt
        generalize live[bsAt (fun x => cmpI x.pos at_) live]! = z at he hm
        refine h2 z hm ?_
        unfold cmpI at he
        split at he
        · omega
        · split at he <;> omega
    rw [hn]; rfl
  · have := at_of h hj
    rw [h2] at this
    rw [this.1, this.2, h1]; simp
theorem rLiveGo_drop (at_ : Int) (l : List Piece) (k : Nat) (hk : k < l.length) : rLiveGo at_ (l.drop k) k = if l[k]!.pos = at_ then (k : Int) else rLiveGo at_ (l.drop (k + 1)) (k + 1) := by
  rw [List.drop_eq_getElem_cons hk, getElem!_pos l k hk]; rfl

def inP (red at_ : Int) (p : Piece) : Prop := p.pos - red ≤ at_ ∧ at_ < p.pos + max p.size 1 + red
instance (red at_ : Int) (p : Piece) : Decidable (inP red at_ p) := inferInstanceAs (Decidable (_ ∧ _))
def kindP (at_ : Int) (p : Piece) (q : Bool) : Int := (if 0 ≤ at_ - p.pos ∧ at_ - p.pos < p.size then 1 else 2) + (if q then 2 else 0)
/-- the specification's Find, from index i on. -/
def rFindGo (red at_ : Int) (n1 : Nat) : List Piece → Nat → Int × Int × Int
  | [], _ => (0, 0, 0)
  | p :: l, i => if inP red at_ p then (if i < n1 then (kindP at_ p false, (i : Int), at_ - p.pos) else (kindP at_ p true, ((i - n1 : Nat) : Int), at_ - p.pos)) else rFindGo red at_ n1 l (i + 1)
theorem rFindGo_drop (red at_ : Int) (n1 : Nat) (l : List Piece) (k : Nat) (hk : k < l.length) : rFindGo red at_ n1 (l.drop k) k = if inP red at_ l[k]! then (if k < n1 then (kindP at_ l[k]! false, (k : Int), at_ - l[k]!.pos) else (kindP at_ l[k]! true, ((k - n1 : Nat) : Int), at_ - l[k]!.pos)) else rFindGo red at_ n1 (l.drop (k + 1)) (k + 1) := by
  rw [List.drop_eq_getElem_cons hk, getElem!_pos l k hk]; rfl
theorem rFindGo_spec (red at_ : Int) (n1 : Nat) : ∀ (l : List Piece) (i : Nat), (rFindGo red at_ n1 l i = (0, 0, 0) ∧ ∀ p ∈ l, ¬ inP red at_ p) ∨ ∃ j, j < l.length ∧ inP red at_ l[j]! ∧ rFindGo red at_ n1 l i = (if i + j < n1 then (kindP at_ l[j]! false, ((i + j : Nat) : Int), at_ - l[j]!.pos) else (kindP at_ l[j]! true, ((i + j - n1 : Nat) : Int), at_ - l[j]!.pos))
  | [], _ => .inl ⟨rfl, fun _ h => by cases h⟩
  | p :: l, i => by
    simp only [rFindGo]
    by_cases h : inP red at_ p
    · rw [if_pos h]; exact .inr ⟨0, by simp, by simpa using h, by simp⟩
    · rw [if_neg h]
      rcases rFindGo_spec red at_ n1 l (i + 1) with ⟨h1, h2⟩ | ⟨j, hj, h0, h1⟩
      · refine .inl ⟨h1, fun q hq => ?_⟩
        rcases List.mem_cons.1 hq with rfl | hq
        · exact h
        · exact h2 q hq
      · refine .inr ⟨j + 1, by simpa using hj, by simpa using h0, ?_⟩
        rw [h1, show i + 1 + j = i + (j + 1) by omega]
        simp

theorem good_wf {c : Conf} {gi : Int} {live quar : List Piece} (g : GoodP c gi live quar) (wl : ∀ p ∈ live, WfP p) (wq : ∀ p ∈ quar, WfP p) : (0 ≤ c.red ∧ c.red ≤ 64) ∧ ∀ p ∈ live ++ quar, WfP p ∧ 0 ≤ p.size ∧ p.size ≤ 65536 := by
  have hb := g.conf
  simp only [okConf, decide_eq_true_eq] at hb
  exact ⟨by omega, fun p hp => ⟨(List.mem_append.1 hp).elim (wl p) (wq p), (g.each p hp).2.1, (g.each p hp).2.2.1⟩⟩
/-- every extent of a good heap, by the index of its piece. -/
theorem ext_ix {c : Conf} {gi : Int} {live quar : List Piece} {L : List Ext} (h : Op c gi live quar L) (wl : ∀ p ∈ live, WfP p) (wq : ∀ p ∈ quar, WfP p) {x : Ext} (hx : x ∈ L) :
    ∃ j, j < (live ++ quar).length ∧ x.p = (live ++ quar)[j]! ∧ x.fr = x.p.pos - c.red ∧ x.to = x.p.pos + max x.p.size 1 + c.red ∧ x.quar = decide (¬ j < live.length) ∧ x.ix = if j < live.length then (j : Int) else ((j - live.length : Nat) : Int) := by
  have g := (good_iff wl wq).1 h.good
  obtain ⟨⟨r0, r1⟩, hw⟩ := good_wf g wl wq
  have hm := h.perm.mem_iff.1 hx
  rcases List.mem_append.1 hm with hm | hm
  · obtain ⟨j, hj, rfl⟩ := items_ix _ _ _ _ _ hm
    obtain ⟨w1, w2, w3⟩ := hw live[j]! (List.mem_append_left _ (by rw [getElem!_pos live j hj]; exact List.getElem_mem hj))
    have e := mkE_ne c.red r0 r1 false (0 + j) live[j]! w1 w2 w3
    refine ⟨j, by simp; omega, ?_, e.1, e.2, by simp [mkE, hj], by simp [mkE, hj]⟩
    rw [getElem!_pos (live ++ quar) j (by simp; omega), List.getElem_append_left hj, ← getElem!_pos live j hj]; rfl
  · obtain ⟨j, hj, rfl⟩ := items_ix _ _ _ _ _ hm
    obtain ⟨w1, w2, w3⟩ := hw quar[j]! (List.mem_append_right _ (by rw [getElem!_pos quar j hj]; exact List.getElem_mem hj))
    have e := mkE_ne c.red r0 r1 true (0 + j) quar[j]! w1 w2 w3
    refine ⟨live.length + j, by simp; omega, ?_, e.1, e.2, by simp [mkE], by simp [mkE]; omega⟩
    rw [getElem!_pos (live ++ quar) (live.length + j) (by simp; omega), List.getElem_append_right (by omega)]
    simp [mkE, hj]
    rfl
/-- every piece of a good heap has its extent. -/
theorem ix_ext {c : Conf} {gi : Int} {live quar : List Piece} {L : List Ext} (h : Op c gi live quar L) (wl : ∀ p ∈ live, WfP p) (wq : ∀ p ∈ quar, WfP p) {p : Piece} (hp : p ∈ live ++ quar) :
    ∃ x ∈ L, x.p = p ∧ x.fr = p.pos - c.red ∧ x.to = p.pos + max p.size 1 + c.red := by
  have g := (good_iff wl wq).1 h.good
  obtain ⟨⟨r0, r1⟩, hw⟩ := good_wf g wl wq
  obtain ⟨w1, w2, w3⟩ := hw p hp
  obtain ⟨x, hx, _, q, j, rfl⟩ := items_of (red := c.red) hp
  have e := mkE_ne c.red r0 r1 q j p w1 w2 w3
  exact ⟨_, h.perm.mem_iff.2 hx, rfl, e.1, e.2⟩

theorem rFind_eq {c : Conf} {gi : Int} {live quar : List Piece} {L : List Ext} (h : Op c gi live quar L) (wl : ∀ p ∈ live, WfP p) (wq : ∀ p ∈ quar, WfP p) (at_ : Int) : rFindGo c.red at_ live.length (live ++ quar) 0 = nearF L at_ := by
  have hn := near_ch at_ h.ch
  have g := (good_iff wl wq).1 h.good
  rcases rFindGo_spec c.red at_ live.length (live ++ quar) 0 with ⟨h1, h2⟩ | ⟨j, hj, h0, h1⟩
  · rw [h1]
    unfold nearF
    rw [if_neg]
    intro hb
    obtain ⟨x, hx, hx1⟩ := hn.1 hb
    obtain ⟨k, hk, e1, e2, e3, _⟩ := ext_ix h wl wq hx
    refine h2 x.p (by rw [e1, getElem!_pos _ k hk]; exact List.getElem_mem hk) ?_
    unfold inP
    omega
  · obtain ⟨x, hx, f1, f2, f3⟩ := ix_ext h wl wq (p := (live ++ quar)[j]!) (by rw [getElem!_pos _ j hj]; exact List.getElem_mem hj)
    have hb : bsIs (fun x => nearI x at_) L = true := hn.2 ⟨x, hx, by unfold inP at h0; omega⟩
    have hlt : bsAt (fun x => nearI x at_) L < L.length := by unfold bsIs at hb; simp only [decide_eq_true_eq] at hb; exact hb.1
    have hz : nearI L[bsAt (fun x => nearI x at_) L]! at_ = 0 := by unfold bsIs at hb; simp only [decide_eq_true_eq] at hb; exact hb.2
    have e : nearF L at_ = (kindP at_ L[bsAt (fun x => nearI x at_) L]!.p L[bsAt (fun x => nearI x at_) L]!.quar, L[bsAt (fun x => nearI x at_) L]!.ix, at_ - L[bsAt (fun x => nearI x at_) L]!.p.pos) := by
      unfold nearF kindP; rw [if_pos hb]
    rw [e, h1]
    have hmem : L[bsAt (fun x => nearI x at_) L]! ∈ L := by rw [getElem!_pos L _ hlt]; exact List.getElem_mem hlt
    generalize L[bsAt (fun x => nearI x at_) L]! = y at hmem hz ⊢
    rw [nearI_zero] at hz
    obtain ⟨k, hk, e1, e2, e3, e4, e5⟩ := ext_ix h wl wq hmem
    have hjk : j = k := by
      refine Classical.byContradiction fun hne => ?_
      have hd := g.dj
      rw [List.pairwise_iff_getElem] at hd
      rw [e1] at e2 e3
      unfold inP at h0
      rcases Nat.lt_or_gt_of_ne hne with hl | hl
      · have := hd j k hj hk hl
        rw [← getElem!_pos _ j hj, ← getElem!_pos _ k hk] at this
        unfold DjP at this
        omega
      · have := hd k j hk hj hl
        rw [← getElem!_pos _ j hj, ← getElem!_pos _ k hk] at this
        unfold DjP at this
        omega
    subst hjk
    rw [e4, e5, e1, Nat.zero_add]
    by_cases hl : j < live.length
    · simp [hl]
    · simp [hl]

/-- the specification's Outside. -/
def rOutGo (L : List Ext) (live : List Piece) : Nat → Int → Int → Option Int
  | 0, _, _ => none
  | f + 1, at_, n => if n ≤ 0 then none else if (nearF L at_).1 ≠ 1 then some at_ else
      rOutGo L live f ((at_ + min n (live[(nearF L at_).2.1.toNat]!.size - (nearF L at_).2.2)) % 4294967296) (n - min n (live[(nearF L at_).2.1.toNat]!.size - (nearF L at_).2.2))
theorem rOut_eq (L : List Ext) (live : List Piece) : ∀ (f : Nat) (at_ n : Int), rOutGo L live f at_ n = outGo L live f at_ n
  | 0, _, _ => rfl
  | f + 1, at_, n => by
    simp only [rOutGo, outGo]
    by_cases h1 : n ≤ 0
    · rw [if_pos h1, if_pos h1]
    rw [if_neg h1, if_neg h1]
    by_cases h2 : (nearF L at_).1 ≠ 1
    · rw [if_pos h2, if_pos h2]
    rw [if_neg h2, if_neg h2]
    generalize live[(nearF L at_).2.1.toNat]!.size - (nearF L at_).2.2 = r
    by_cases h3 : n ≤ r
    · rw [Int.min_eq_left h3]
      have e1 : ∀ f a, rOutGo L live f a (n - n) = none := fun f a => by cases f <;> simp [rOutGo]
      have e2 : ∀ f a, outGo L live f a (n - r) = none := fun f a => by cases f <;> simp [outGo]; omega
      rw [e1, e2]
    · rw [Int.min_eq_right (by omega)]
      exact rOut_eq L live f _ _

/-- the index of the first extent that ends behind a place. -/
def rNextGo (red at_ : Int) (l : List Piece) : List Piece → Nat → Int → Int
  | [], _, nx => nx
  | p :: r, i, nx => rNextGo red at_ l r (i + 1) (if at_ < p.pos + max p.size 1 + red ∧ (nx < 0 ∨ p.pos - red < l[nx.toNat]!.pos - red) then (i : Int) else nx)
theorem rNextGo_drop (red at_ : Int) (l : List Piece) (k : Nat) (nx : Int) (hk : k < l.length) : rNextGo red at_ l (l.drop k) k nx = rNextGo red at_ l (l.drop (k + 1)) (k + 1) (if at_ < l[k]!.pos + max l[k]!.size 1 + red ∧ (nx < 0 ∨ l[k]!.pos - red < l[nx.toNat]!.pos - red) then (k : Int) else nx) := by
  rw [List.drop_eq_getElem_cons hk, getElem!_pos l k hk]; rfl
/-- what 'next' says of the first k pieces. -/
def NextOk (red at_ : Int) (l : List Piece) (k : Nat) (nx : Int) : Prop :=
  (nx = -1 ∧ ∀ j, j < k → ¬ at_ < l[j]!.pos + max l[j]!.size 1 + red) ∨
  ∃ i : Nat, nx = (i : Int) ∧ i < k ∧ at_ < l[i]!.pos + max l[i]!.size 1 + red ∧ ∀ j, j < k → at_ < l[j]!.pos + max l[j]!.size 1 + red → l[i]!.pos ≤ l[j]!.pos
theorem NextOk.step {red at_ : Int} {l : List Piece} {k : Nat} {nx : Int} (h : NextOk red at_ l k nx) : NextOk red at_ l (k + 1) (if at_ < l[k]!.pos + max l[k]!.size 1 + red ∧ (nx < 0 ∨ l[k]!.pos - red < l[nx.toNat]!.pos - red) then (k : Int) else nx) := by
  by_cases hc : at_ < l[k]!.pos + max l[k]!.size 1 + red ∧ (nx < 0 ∨ l[k]!.pos - red < l[nx.toNat]!.pos - red)
  · rw [if_pos hc]
    refine .inr ⟨k, rfl, by omega, hc.1, fun j hj ht => ?_⟩
    rcases Nat.lt_or_eq_of_le (Nat.le_of_lt_succ hj) with hjk | rfl
    · rcases h with ⟨h1, h2⟩ | ⟨i, rfl, h1, h2, h3⟩
      · exact absurd ht (h2 j hjk)
      · have h4 := h3 j hjk ht
        rcases hc.2 with h5 | h5
        · omega
        · rw [Int.toNat_natCast] at h5; omega
    · exact Int.le_refl _
  · rw [if_neg hc]
    rcases h with ⟨h1, h2⟩ | ⟨i, rfl, h1, h2, h3⟩
    · refine .inl ⟨h1, fun j hj ht => ?_⟩
      rcases Nat.lt_or_eq_of_le (Nat.le_of_lt_succ hj) with hjk | rfl
      · exact h2 j hjk ht
      · exact hc ⟨ht, .inl (by omega)⟩
    · refine .inr ⟨i, rfl, by omega, h2, fun j hj ht => ?_⟩
      rcases Nat.lt_or_eq_of_le (Nat.le_of_lt_succ hj) with hjk | rfl
      · exact h3 j hjk ht
      · refine Int.not_lt.1 fun hlt => hc ⟨ht, .inr ?_⟩
        rw [Int.toNat_natCast]; omega
theorem rNextGo_ok (red at_ : Int) (l : List Piece) : ∀ (n k : Nat) (nx : Int), k + n = l.length → NextOk red at_ l k nx → NextOk red at_ l l.length (rNextGo red at_ l (l.drop k) k nx)
  | 0, k, nx, h, hn => by rw [show k = l.length by omega] at hn ⊢; rw [List.drop_length]; exact hn
  | n + 1, k, nx, h, hn => by rw [rNextGo_drop red at_ l k nx (by omega)]; exact rNextGo_ok red at_ l n (k + 1) _ (by omega) hn.step

/-- the specification's Gaps, from a place on. -/
def rGapsGo (red e : Int) (l : List Piece) : Nat → Int → List (Int × Int)
  | 0, _ => []
  | f + 1, at_ => if at_ < e then (let nx := rNextGo red at_ l l 0 (-1)
      if nx < 0 then [(at_, e - at_)] else (if at_ < l[nx.toNat]!.pos - red then [(at_, l[nx.toNat]!.pos - red - at_)] else []) ++ rGapsGo red e l f (l[nx.toNat]!.pos + max l[nx.toNat]!.size 1 + red)) else []
/-- what the place of the specification's loop is among the extents. -/
structure At (L : List Ext) (e at_ : Int) (pre suf : List Ext) : Prop where
  eq : L = pre ++ suf
  pre : ∀ x ∈ pre, x.to ≤ at_
  ch : Ch at_ suf e
theorem At.next {c : Conf} {gi : Int} {live quar : List Piece} {L : List Ext} (h : Op c gi live quar L) (wl : ∀ p ∈ live, WfP p) (wq : ∀ p ∈ quar, WfP p) {e at_ : Int} {pre suf : List Ext} (hA : At L e at_ pre suf) :
    (suf = [] ∧ rNextGo c.red at_ (live ++ quar) (live ++ quar) 0 (-1) = -1) ∨ ∃ x suf', suf = x :: suf' ∧ ∃ i : Nat, i < (live ++ quar).length ∧ rNextGo c.red at_ (live ++ quar) (live ++ quar) 0 (-1) = (i : Int) ∧ x.fr = (live ++ quar)[i]!.pos - c.red ∧ x.to = (live ++ quar)[i]!.pos + max (live ++ quar)[i]!.size 1 + c.red ∧ At L e x.to (pre ++ [x]) suf' := by
  have hok := rNextGo_ok c.red at_ (live ++ quar) (live ++ quar).length 0 (-1) (by omega) (.inl ⟨rfl, fun j hj => by omega⟩)
  rw [List.drop_zero] at hok
  cases suf with
  | nil =>
    refine .inl ⟨rfl, ?_⟩
    rcases hok with ⟨h1, _⟩ | ⟨i, h0, h1, h2, _⟩
    · exact h1
    · exfalso
      obtain ⟨x, hx, f1, f2, f3⟩ := ix_ext h wl wq (p := (live ++ quar)[i]!) (by rw [getElem!_pos _ i h1]; exact List.getElem_mem h1)
      have hx' := hx
      rw [hA.eq, List.append_nil] at hx'
      have := hA.pre x hx'
      omega
  | cons x suf' =>
    obtain ⟨c1, c2, c3⟩ := hA.ch
    have hxL : x ∈ L := by rw [hA.eq]; simp
    refine .inr ⟨x, suf', rfl, ?_⟩
    obtain ⟨k, hk, e1, e2, e3, _⟩ := ext_ix h wl wq hxL
    rw [e1] at e2 e3
    have hA' : At L e x.to (pre ++ [x]) suf' := ⟨by rw [hA.eq]; simp, fun y hy => by
      rcases List.mem_append.1 hy with hy | hy
      · have := hA.pre y hy; omega
      · simp at hy; subst hy; exact Int.le_refl _, c3⟩
    rcases hok with ⟨_, h2⟩ | ⟨i, h0, h1, h2, h3⟩
    · exact absurd (show at_ < _ by omega) (h2 k hk)
    · obtain ⟨y, hy, f1, f2, f3⟩ := ix_ext h wl wq (p := (live ++ quar)[i]!) (by rw [getElem!_pos _ i h1]; exact List.getElem_mem h1)
      have h4 := h3 k hk (by omega)
      rw [hA.eq] at hy
      have hyx : y = x := by
        rcases List.mem_append.1 hy with hy | hy
        · have := hA.pre y hy; omega
        · rcases List.mem_cons.1 hy with rfl | hy
          · rfl
          · have := c3.mem y hy; omega
      subst hyx
      exact ⟨i, h1, h0, f2, f3, hA'⟩
theorem rGaps_eq {c : Conf} {gi : Int} {live quar : List Piece} {L : List Ext} (h : Op c gi live quar L) (wl : ∀ p ∈ live, WfP p) (wq : ∀ p ∈ quar, WfP p) (e : Int) : ∀ (f : Nat) (at_ : Int) (pre suf : List Ext), At L e at_ pre suf → suf.length < f →
    rGapsGo c.red e (live ++ quar) f at_ = (gapsGo e at_ suf).map fun g => (g.1, g.2 - g.1)
  | 0, _, _, _, _, hf => by omega
  | f + 1, at_, pre, suf, hA, hf => by
    simp only [rGapsGo]
    rcases hA.next h wl wq with ⟨rfl, h1⟩ | ⟨x, suf', rfl, i, hi, h1, h2, h3, hA'⟩
    · rw [h1, if_pos (by omega : (-1 : Int) < 0)]
      simp only [gapsGo]
      by_cases hl : at_ < e <;> simp [hl]
    · obtain ⟨c1, c2, c3⟩ := hA.ch
      have := c3.le
      rw [if_pos (by omega), h1, if_neg (by omega), Int.toNat_natCast, ← h2, ← h3, rGaps_eq h wl wq e f x.to _ suf' hA' (by simp at hf; omega)]
      simp only [gapsGo, List.map_append]
      by_cases hl : at_ < x.fr <;> simp [hl]
theorem rGaps_spans {c : Conf} {gi : Int} {live quar : List Piece} {L : List Ext} (h : Op c gi live quar L) (wl : ∀ p ∈ live, WfP p) (wq : ∀ p ∈ quar, WfP p) {f : Nat} (hf : L.length < f) : rGapsGo c.red ((c.page + c.n) * 256) (live ++ quar) f (c.page * 256) = spans c L :=
  rGaps_eq h wl wq _ f _ [] L ⟨rfl, (fun _ hx => by cases hx), h.ch⟩ hf
end Go.Proofs.Ytbhbjcgbhklieaa
