/- HeapApart: the plain laws: what calls leave; where an address of a live block is. -/
import Derived.Test.YtbhbjcgbhklieaaS1
import Derived.Test.YtbhbjcgbhklieaaP1
import Derived.Test.YtbhbjcgbhklieaaG4
import Derived.Test.YtbhbjcgbhklieaaF5
namespace Go.Proofs.Ytbhbjcgbhklieaa
open Go.RowKit Go.Shelf

/-- a heap whose numbers fit their kinds. -/
structure StOk (r : HRes) : Prop where
  wl : ∀ p ∈ r.live, WfP p
  wq : ∀ p ∈ r.quar, WfP p
  n1 : r.live.length ≤ 9223372036854775807
  n2 : r.quar.length ≤ 9223372036854775807
theorem StOk.of {r : HRes} (g : GoodP r.c r.gi r.live r.quar) (wl : ∀ p ∈ r.live, WfP p) (wq : ∀ p ∈ r.quar, WfP p) : StOk r := ⟨wl, wq, by have := g.n1; omega, by have := g.n2; omega⟩
theorem ins_wf {l : List Piece} {i : Nat} {p : Piece} (h : ∀ q ∈ l, WfP q) (hp : WfP p) : ∀ q ∈ insF l i p, WfP q := fun q hq => by
  rcases List.mem_cons.1 ((insF_perm l i p).mem_iff.1 hq) with rfl | hq
  · exact hp
  · exact h q hq
theorem free_wf {Q : Int} {l q : List Piece} {p : Piece} (hl : ∀ x ∈ l, WfP x) (hq : ∀ x ∈ q, WfP x) (hp : p ∈ l) (i : Nat) : (∀ x ∈ l.eraseIdx i, WfP x) ∧ ∀ x ∈ trimF Q (q ++ [p]), WfP x :=
  ⟨fun x hx => hl x ((List.eraseIdx_sublist l i).mem hx), fun x hx => by
    rcases List.mem_append.1 ((trimF_suffix _ _).subset hx) with hx | hx
    · exact hq x hx
    · rw [List.mem_singleton.1 hx]; exact hl p hp⟩
/-- what a call that succeeds leaves is a good heap. -/
theorem does_good {c : Conf} {gi : Int} {live quar : List Piece} {o : OpV} {at_ : Int} {r : HRes} (h : DoesP c gi live quar o 0 at_ r) (wl : ∀ p ∈ live, WfP p) (wq : ∀ p ∈ quar, WfP p) : r.c = c ∧ GoodP r.c r.gi r.live r.quar ∧ StOk r := by
  unfold DoesP at h
  by_cases h0 : o.kind = 0
  · rw [if_pos h0] at h
    rcases h with ⟨_, h, _⟩ | ⟨_, _, h, _⟩ | ⟨_, _, _, _, _, h, _⟩ | ⟨L, hL, z0, z1, hv, n1, n2, _, rfl⟩
    · cases h
    · cases h
    · cases h
    · have g := alloc_good hL wl wq z0 z1 hv n1 n2
      have hr := room_range hL hv
      exact ⟨rfl, g, StOk.of g (ins_wf wl ⟨by show 0 ≤ at_; omega, hr.2⟩) wq⟩
  · rw [if_neg h0] at h
    by_cases h1 : o.kind = 1
    · rw [if_pos h1] at h
      rcases h.2 with ⟨_, h, _⟩ | ⟨_, _, h, _⟩ | ⟨hg, hi, _, rfl⟩
      · cases h
      · cases h
      · obtain ⟨hm1, hm2, _⟩ := at_mem hi
        have g := free_good ((good_iff wl wq).1 hg) hm1
        obtain ⟨w1, w2⟩ := free_wf (Q := c.quarantine) wl wq hm2 (atI live (targetF live o))
        exact ⟨rfl, g, StOk.of g w1 w2⟩
    · rw [if_neg h1] at h
      rcases h with ⟨_, h, _⟩ | ⟨_, _, h, _⟩ | ⟨_, _, _, h, _⟩ | ⟨_, _, _, _, _, _, h, _⟩ | ⟨L, hL, hi, z0, z1, hv, n1, n2, _, rfl⟩
      · cases h
      · cases h
      · cases h
      · cases h
      · have g := alloc_good hL wl wq z0 z1 hv n1 n2
        have hr := room_range hL hv
        have wl' : ∀ q ∈ insF live (atI live at_) ⟨at_, o.n, gi + 1⟩, WfP q := ins_wf wl ⟨by show 0 ≤ at_; omega, hr.2⟩
        obtain ⟨hm1, hm2, hm3⟩ := at_mem hi
        have hin : live[atI live (targetF live o)]! ∈ insF live (atI live at_) ⟨at_, o.n, gi + 1⟩ := (insF_perm _ _ _).mem_iff.2 (List.mem_cons_of_mem _ hm2)
        obtain ⟨j, hj, hje⟩ := List.getElem_of_mem hin
        have ha := at_of g.pos hj
        rw [getElem!_pos _ j hj, hje, hm3] at ha
        have hlt : atI (insF live (atI live at_) ⟨at_, o.n, gi + 1⟩) (targetF live o) < (insF live (atI live at_) ⟨at_, o.n, gi + 1⟩).length := by rw [ha.1]; exact hj
        have g2 := free_good g hlt
        have hmm : ∀ (X : List Piece) (k : Nat), k < X.length → X[k]! ∈ X := fun X k hk => by rw [getElem!_pos X k hk]; exact List.getElem_mem hk
        obtain ⟨w1, w2⟩ := free_wf (Q := c.quarantine) wl' wq (hmm _ _ hlt) (atI (insF live (atI live at_) ⟨at_, o.n, gi + 1⟩) (targetF live o))
        exact ⟨rfl, g2, StOk.of g2 w1 w2⟩

/-- what a list of calls leaves, and the addresses. -/
def nxt (st : HRes) (err : Int) (r : HRes) : HRes := if err = 0 ∧ manyF r.live.length r.quar.length = false then r else st
inductive PlaySt (st0 : HRes) : List OpV → HRes → List Int → Prop
  | nil : PlaySt st0 [] st0 []
  | snoc {l : List OpV} {st : HRes} {outs : List Int} {o : OpV} {err at_ : Int} {r : HRes} : PlaySt st0 l st outs → DoesP st.c st.gi st.live st.quar o err at_ r → PlaySt st0 (l ++ [o]) (nxt st err r) (outs ++ [at_])
theorem nxt_ok {st r : HRes} {o : OpV} {err at_ : Int} (h : StOk st) (hd : DoesP st.c st.gi st.live st.quar o err at_ r) : StOk (nxt st err r) := by
  unfold nxt
  by_cases hc : err = 0 ∧ manyF r.live.length r.quar.length = false
  · rw [if_pos hc]; obtain ⟨rfl, _⟩ := hc; exact (does_good hd h.wl h.wq).2.2
  · rw [if_neg hc]; exact h
theorem PlaySt.ok {st0 st : HRes} {l : List OpV} {outs : List Int} (h : PlaySt st0 l st outs) (h0 : StOk st0) : StOk st := by
  induction h with
  | nil => exact h0
  | snoc _ hd ih => exact nxt_ok ih hd
theorem PlaySt.good {st0 st : HRes} {l : List OpV} {outs : List Int} (h : PlaySt st0 l st outs) (h0 : StOk st0) (g0 : GoodP st0.c st0.gi st0.live st0.quar) : st.c = st0.c ∧ GoodP st.c st.gi st.live st.quar := by
  induction h with
  | nil => exact ⟨rfl, g0⟩
  | @snoc l st outs o err at_ r hp hd ih =>
    have hok := hp.ok h0
    unfold nxt
    by_cases hc : err = 0 ∧ manyF r.live.length r.quar.length = false
    · rw [if_pos hc]; obtain ⟨rfl, _⟩ := hc
      obtain ⟨h1, h2, _⟩ := does_good hd hok.wl hok.wq
      exact ⟨h1.trans ih.1, h2⟩
    · rw [if_neg hc]; exact ih

/-- where an address of a live block, or of its red zones, is. -/
theorem near_ix {c : Conf} {gi : Int} {live quar : List Piece} {L : List Ext} (h : Op c gi live quar L) (wl : ∀ p ∈ live, WfP p) (wq : ∀ p ∈ quar, WfP p) {i : Nat} (hi : i < live.length) {at_ : Int} (ha : live[i]!.pos - c.red ≤ at_ ∧ at_ < live[i]!.pos + max live[i]!.size 1 + c.red) :
    nearF L at_ = (if 0 ≤ at_ - live[i]!.pos ∧ at_ - live[i]!.pos < live[i]!.size then 1 else 2, (i : Int), at_ - live[i]!.pos) := by
  have g := (good_iff wl wq).1 h.good
  rw [← rFind_eq h wl wq at_]
  have hil : i < (live ++ quar).length := by simp; omega
  have hii : (live ++ quar)[i]! = live[i]! := by rw [getElem!_pos _ i hil, List.getElem_append_left hi, getElem!_pos live i hi]
  rcases rFindGo_spec c.red at_ live.length (live ++ quar) 0 with ⟨_, h2⟩ | ⟨j, hj, h0, h1⟩
  · exfalso
    refine h2 live[i]! ?_ ha
    rw [← hii, getElem!_pos _ i hil]; exact List.getElem_mem hil
  · have hij : j = i := by
      refine Classical.byContradiction fun hne => ?_
      have hd := g.dj
      rw [List.pairwise_iff_getElem] at hd
      unfold inP at h0
      rcases Nat.lt_or_gt_of_ne hne with hl | hl
      · have := hd j i hj hil hl
        rw [← getElem!_pos _ j hj, ← getElem!_pos _ i hil, hii] at this
        unfold DjP at this
        omega
      · have := hd i j hil hj hl
        rw [← getElem!_pos _ j hj, ← getElem!_pos _ i hil, hii] at this
        unfold DjP at this
        omega
    subst hij
    rw [h1, Nat.zero_add, if_pos hi, hii]
    simp [kindP]
/-- no byte of a live block is outside. -/
theorem out_none {c : Conf} {gi : Int} {live quar : List Piece} {L : List Ext} (h : Op c gi live quar L) (wl : ∀ p ∈ live, WfP p) (wq : ∀ p ∈ quar, WfP p) {i : Nat} (hi : i < live.length) : outGo L live live[i]!.size.toNat live[i]!.pos live[i]!.size = none := by
  have g := (good_iff wl wq).1 h.good
  obtain ⟨⟨r0, r1⟩, hw⟩ := good_wf g wl wq
  have hm : live[i]! ∈ live := by rw [getElem!_pos live i hi]; exact List.getElem_mem hi
  obtain ⟨w1, s0, s1⟩ := hw _ (List.mem_append_left _ hm)
  have hn := near_ix h wl wq hi (at_ := live[i]!.pos) ⟨by omega, by omega⟩
  cases hf : live[i]!.size.toNat with
  | zero => rfl
  | succ f =>
    have hp : ¬ live[i]!.size ≤ 0 := by omega
    rw [Int.sub_self, if_pos ⟨by omega, by omega⟩] at hn
    rw [outGo, if_neg hp, hn, if_neg (by simp)]
    simp only [Int.toNat_natCast, Int.sub_zero, Int.sub_self]
    cases f <;> simp [outGo]
end Go.Proofs.Ytbhbjcgbhklieaa
