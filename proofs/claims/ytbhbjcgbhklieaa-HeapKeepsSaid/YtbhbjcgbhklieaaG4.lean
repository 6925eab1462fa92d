/- HeapResizes: the plain law. Indexes by a remainder. -/
import Derived.Test.YtbhbjcgbhklieaaM2
import Derived.IntWalk
namespace Go.Proofs.Ytbhbjcgbhklieaa
open Go.RowKit

theorem idx_of (o : Int) (n : Nat) (h0 : 0 < n) (h1 : n ≤ 1000) : ∃ i : Nat, i < n ∧ (IntKind.u64.wrap o).tmod (n : Int) = (i : Int) ∧ wrap64 ((IntKind.u64.wrap o).tmod (n : Int)) = (i : Int) := by
  have hn : 0 ≤ IntKind.u64.wrap o := by
    simp only [IntKind.wrap, IntKind.signed, IntKind.bits]
    exact Int.emod_nonneg _ (by decide)
  rw [Int.tmod_eq_emod_of_nonneg hn]
  have a := Int.emod_nonneg (IntKind.u64.wrap o) (b := (n : Int)) (by omega)
  have b := Int.emod_lt_of_pos (IntKind.u64.wrap o) (b := (n : Int)) (by omega)
  generalize IntKind.u64.wrap o % (n : Int) = r at a b
  refine ⟨r.toNat, by omega, by omega, ?_⟩
  unfold wrap64
  omega

theorem sorted_inj {l : List Piece} (h : l.Pairwise (fun p q => p.pos < q.pos)) {i j : Nat} (hi : i < l.length) (hj : j < l.length) (e : l[i].pos = l[j].pos) : i = j := by
  rw [List.pairwise_iff_getElem] at h
  rcases Nat.lt_trichotomy i j with hij | hij | hij
  · have := h i j hi hj hij; omega
  · exact hij
  · have := h j i hj hi hij; omega
theorem mem_erase_sorted {l : List Piece} (h : l.Pairwise (fun p q => p.pos < q.pos)) {i : Nat} (hi : i < l.length) (p : Piece) : p ∈ l.eraseIdx i ↔ p ∈ l ∧ p.pos ≠ l[i]!.pos := by
  rw [List.mem_eraseIdx_iff_getElem, getElem!_pos l i hi]
  constructor
  · rintro ⟨j, hj, hne, rfl⟩
    exact ⟨List.getElem_mem hj, fun e => hne (sorted_inj h hj hi e)⟩
  · rintro ⟨hp, hne⟩
    obtain ⟨j, hj, rfl⟩ := List.getElem_of_mem hp
    exact ⟨j, hj, fun e => hne (by subst e; rfl), rfl⟩
theorem at_mem {l : List Piece} {v : Int} (h : isI l v = true) : atI l v < l.length ∧ l[atI l v]! ∈ l ∧ l[atI l v]!.pos = v := by
  unfold isI bsIs at h
  simp only [decide_eq_true_eq] at h
  exact ⟨h.1, by rw [getElem!_pos l _ h.1]; exact List.getElem_mem h.1, (cmpI_zero _ _).1 h.2⟩
theorem pos_inj {l : List Piece} (h : l.Pairwise (fun p q => p.pos < q.pos)) {p q : Piece} (hp : p ∈ l) (hq : q ∈ l) (e : p.pos = q.pos) : p = q := by
  obtain ⟨i, hi, rfl⟩ := List.getElem_of_mem hp
  obtain ⟨j, hj, rfl⟩ := List.getElem_of_mem hq
  have := sorted_inj h hi hj e
  subst this
  rfl

/-- what Resize makes of a good heap. -/
theorem resized {c : Conf} {gi : Int} {live quar : List Piece} {L : List Ext} (h : Op c gi live quar L) (wl : ∀ p ∈ live, WfP p) (wq : ∀ p ∈ quar, WfP p) {size v : Int} (z0 : 0 ≤ size) (z1 : size ≤ 65536)
    (hv : roomGo c.red size (gapsF c L) = some v) (hn : live.length ≠ 1000) (hg : gi ≠ 1073741824) {old : Piece} (ho : old ∈ live) {live1 live2 quar2 : List Piece} (e1 : insF live (atI live v) ⟨v, size, gi + 1⟩ = live1) (e2 : live1.eraseIdx (atI live1 old.pos) = live2) (e3 : trimF c.quarantine (quar ++ [live1[atI live1 old.pos]!]) = quar2) :
    Good c (gi + 1) live2 quar2 ∧ (∀ p ∈ live2, WfP p) ∧ (∀ p ∈ quar2, WfP p) ∧ isI live2 v = true ∧ live2[atI live2 v]!.size = size ∧ isI live2 old.pos = false ∧ v ≠ old.pos ∧ live2.length = live.length ∧ ∀ p ∈ live, p ≠ old → p ∈ live2 := by
  have g1 := alloc_good h wl wq z0 z1 hv hn hg
  have g0 := (good_iff wl wq).1 h.good
  have hr := room_range h hv
  have hap := room_apart h wl wq hv old (List.mem_append_left _ ho)
  have hpm := insF_perm live (atI live v) ⟨v, size, gi + 1⟩
  have hlen := insF_length live (atI live v) ⟨v, size, gi + 1⟩ (atI_le live v)
  rw [e1] at g1 hpm hlen
  have hov : v ≠ old.pos := by
    have hb := g0.conf
    simp only [okConf, decide_eq_true_eq] at hb
    obtain ⟨a1, a2, a3, a4, a5, a6, a7⟩ := g0.each old (List.mem_append_left _ ho)
    omega
  have ho1 : old ∈ live1 := hpm.mem_iff.2 (List.mem_cons_of_mem _ ho)
  have hi1 := (isI_iff g1.pos old.pos).2 ⟨old, ho1, rfl⟩
  obtain ⟨b1, b2, b3⟩ := at_mem hi1
  have wl1 : ∀ p ∈ live1, WfP p := fun p hp => by
    rcases List.mem_cons.1 (hpm.mem_iff.1 hp) with rfl | hp
    · exact ⟨by simp only; omega, by simp only; omega⟩
    · exact wl p hp
  have g2 := free_good g1 b1
  have hmem := mem_erase_sorted g1.pos b1
  rw [e2] at g2 hmem
  rw [e3] at g2
  rw [b3] at hmem
  have wl2 : ∀ p ∈ live2, WfP p := fun p hp => wl1 p ((hmem p).1 hp).1
  have wq2 : ∀ p ∈ quar2, WfP p := fun p hp => by
    rw [← e3] at hp
    rcases List.mem_append.1 ((trimF_suffix _ _).subset hp) with hp | hp
    · exact wq p hp
    · rw [List.mem_singleton.1 hp]; exact wl1 _ b2
  have hnew : (⟨v, size, gi + 1⟩ : Piece) ∈ live2 := (hmem _).2 ⟨hpm.mem_iff.2 (List.mem_cons_self ..), hov⟩
  have hiv := (isI_iff g2.pos v).2 ⟨_, hnew, rfl⟩
  obtain ⟨c1, c2, c3⟩ := at_mem hiv
  refine ⟨(good_iff wl2 wq2).2 g2, wl2, wq2, hiv, ?_, ?_, hov, ?_, fun p hp hne => (hmem p).2 ⟨hpm.mem_iff.2 (List.mem_cons_of_mem _ hp), fun e => hne (pos_inj g0.pos hp ho e)⟩⟩
  · rw [pos_inj g2.pos c2 hnew c3]
  · cases hx : isI live2 old.pos with
    | false => rfl
    | true =>
      obtain ⟨p, hp, he⟩ := (isI_iff g2.pos old.pos).1 hx
      exact absurd he ((hmem p).1 hp).2
  · rw [← e2, List.length_eraseIdx]
    rw [if_pos b1]
    omega
end Go.Proofs.Ytbhbjcgbhklieaa
