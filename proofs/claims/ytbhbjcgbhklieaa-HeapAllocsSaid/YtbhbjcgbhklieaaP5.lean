/- HeapAllocs: the plain law of the specification's place. -/
import Derived.Test.YtbhbjcgbhklieaaP1
import Derived.Test.YtbhbjcgbhklieaaF3
namespace Go.Proofs.Ytbhbjcgbhklieaa
open Go.RowKit

/-- the index of the first block in the way, from index i on. -/
def badGo (red : Int) (p : Piece) : List Piece → Nat → Nat
  | [], i => i
  | q :: l, i => if DjP red q p then badGo red p l (i + 1) else i
theorem badGo_spec (red : Int) (p : Piece) : ∀ (l : List Piece) (i : Nat), (badGo red p l i = i + l.length ∧ ∀ q ∈ l, DjP red q p) ∨ ∃ j, j < l.length ∧ badGo red p l i = i + j ∧ ¬ DjP red l[j]! p
  | [], i => .inl ⟨rfl, fun _ h => by cases h⟩
  | q :: l, i => by
    simp only [badGo]
    by_cases h : DjP red q p
    · rw [if_pos h]
      rcases badGo_spec red p l (i + 1) with ⟨h1, h2⟩ | ⟨j, hj, h1, h2⟩
      · refine .inl ⟨by rw [h1]; simp; omega, fun x hx => ?_⟩
        rcases List.mem_cons.1 hx with rfl | hx
        · exact h
        · exact h2 x hx
      · exact .inr ⟨j + 1, by simpa using hj, by rw [h1]; omega, by simpa using h2⟩
    · rw [if_neg h]; exact .inr ⟨0, by simp, rfl, by simpa using h⟩
theorem badGo_drop (red : Int) (p : Piece) (l : List Piece) (k : Nat) (hk : k < l.length) : badGo red p (l.drop k) k = if DjP red l[k]! p then badGo red p (l.drop (k + 1)) (k + 1) else k := by
  rw [List.drop_eq_getElem_cons hk, getElem!_pos l k hk]; rfl
/-- the specification's place, from an address on. -/
def placeGo (red e size : Int) (l : List Piece) : Nat → Int → Int
  | 0, _ => -1
  | f + 1, at_ => if e < at_ + max size 1 + red then -1 else if badGo red ⟨at_, size, 0⟩ l 0 = l.length then at_ else placeGo red e size l f (firstF red (l[badGo red ⟨at_, size, 0⟩ l 0]!.pos + max l[badGo red ⟨at_, size, 0⟩ l 0]!.size 1 + red))

theorem firstF_mono {red a b : Int} (h : a ≤ b) : firstF red a ≤ firstF red b := by unfold firstF; omega
theorem room_skip (red size e s : Int) : ∀ (suf : List Ext) (s' : Int), Ch s' suf e → s ≤ s' → ∀ y ∈ suf, y.fr < firstF red s + max size 1 + red → ∃ suf', suf'.length < suf.length ∧ (∃ pre2, suf = pre2 ++ y :: suf') ∧ Ch y.to suf' e ∧ (∀ x ∈ suf, x ∈ suf' ∨ x.to ≤ y.to) ∧ roomGo red size (gapsGo e s' suf) = roomGo red size (gapsGo e y.to suf')
  | [], _, _, _, _, h, _ => by cases h
  | x :: suf, s', ⟨h1, h2, h3⟩, hs, y, hy, hyf => by
    have hfit : ∀ b, b ≤ x.fr → x.fr ≤ y.fr → ¬ firstF red s' + max size 1 + red ≤ b := fun b hb hxy => by
      have := firstF_mono (red := red) hs
      omega
    have hxy : x.fr ≤ y.fr := by
      rcases List.mem_cons.1 hy with rfl | hy
      · exact Int.le_refl _
      · have := h3.mem y hy; omega
    have hstep : roomGo red size (gapsGo e s' (x :: suf)) = roomGo red size (gapsGo e x.to suf) := by
      simp only [gapsGo]
      by_cases hg : s' < x.fr
      · rw [if_pos hg]
        simp only [List.cons_append, List.nil_append, roomGo]
        rw [if_neg (hfit x.fr (Int.le_refl _) hxy)]
      · rw [if_neg hg]; rfl
    by_cases hyx : y = x
    · subst hyx
      refine ⟨suf, by simp, ⟨[], rfl⟩, h3, fun z hz => ?_, hstep⟩
      rcases List.mem_cons.1 hz with rfl | hz
      · exact .inr (Int.le_refl _)
      · exact .inl hz
    · have hy' : y ∈ suf := (List.mem_cons.1 hy).resolve_left hyx
      obtain ⟨suf', k1, ⟨pre2, k2⟩, k3, k4, k5⟩ := room_skip red size e s suf x.to h3 (by omega) y hy' hyf
      refine ⟨suf', by simp; omega, ⟨x :: pre2, by rw [k2]; rfl⟩, k3, fun z hz => ?_, hstep.trans k5⟩
      rcases List.mem_cons.1 hz with rfl | hz
      · have := h3.mem y hy'; exact .inr (by omega)
      · exact k4 z hz
theorem room_none (red size e s : Int) : ∀ (suf : List Ext) (s' : Int), Ch s' suf e → s ≤ s' → e < firstF red s + max size 1 + red → roomGo red size (gapsGo e s' suf) = none
  | [], s', h, hs, he => by
    have := firstF_mono (red := red) hs
    simp only [gapsGo]
    by_cases hg : s' < e
    · rw [if_pos hg]; simp only [roomGo]; rw [if_neg (by omega)]
    · rw [if_neg hg]; rfl
  | x :: suf, s', ⟨h1, h2, h3⟩, hs, he => by
    have := firstF_mono (red := red) hs
    have hle := h3.le
    have ih := room_none red size e s suf x.to h3 (by omega) he
    simp only [gapsGo]
    by_cases hg : s' < x.fr
    · rw [if_pos hg]
      simp only [List.cons_append, List.nil_append, roomGo]
      rw [if_neg (by omega), ih]
    · rw [if_neg hg]; exact ih

theorem ch_pair : ∀ {L : List Ext} {s e : Int}, Ch s L e → L.Pairwise (fun x y => x.to ≤ y.fr)
  | [], _, _, _ => List.Pairwise.nil
  | x :: L, s, e, ⟨_, _, h3⟩ => List.pairwise_cons.2 ⟨fun y hy => (h3.mem y hy).1, ch_pair h3⟩
theorem place_eq {c : Conf} {gi : Int} {live quar : List Piece} {L : List Ext} (h : Op c gi live quar L) (wl : ∀ p ∈ live, WfP p) (wq : ∀ p ∈ quar, WfP p) {size e : Int} (z0 : 0 ≤ size) (he : e ≤ 4294967296) : ∀ (f : Nat) (s : Int) (pre suf : List Ext), 0 ≤ s → At L e s pre suf → suf.length < f →
    placeGo c.red e size (live ++ quar) f (firstF c.red s) = (roomGo c.red size (gapsGo e s suf)).getD (-1)
  | 0, _, _, _, _, _, hf => by omega
  | f + 1, s, pre, suf, hs0, hA, hf => by
    have g := (good_iff wl wq).1 h.good
    obtain ⟨⟨r0, r1⟩, hw⟩ := good_wf g wl wq
    have hge : s + c.red ≤ firstF c.red s := by unfold firstF; omega
    simp only [placeGo]
    by_cases hend : e < firstF c.red s + max size 1 + c.red
    · rw [if_pos hend, room_none c.red size e s suf s hA.ch (Int.le_refl _) hend]; rfl
    rw [if_neg hend]
    rcases badGo_spec c.red ⟨firstF c.red s, size, 0⟩ (live ++ quar) 0 with ⟨h1, h2⟩ | ⟨j, hj, h1, h2⟩
    · rw [h1, if_pos (by omega)]
      -- nothing is in the way: the first gap takes it
      have hfree : ∀ x ∈ suf, firstF c.red s + max size 1 + c.red ≤ x.fr := fun x hx => by
        have hxL : x ∈ L := by rw [hA.eq]; exact List.mem_append_right _ hx
        obtain ⟨k, hk, a1, a2, a3, _⟩ := ext_ix h wl wq hxL
        have hd := h2 (live ++ quar)[k]! (by rw [getElem!_pos _ k hk]; exact List.getElem_mem hk)
        have hmem := hA.ch.mem x hx
        have hpk := (g.each (live ++ quar)[k]! (by rw [getElem!_pos _ k hk]; exact List.getElem_mem hk)).1
        have hpos := (hw (live ++ quar)[k]! (by rw [getElem!_pos _ k hk]; exact List.getElem_mem hk)).1.1
        rw [← a1] at hd hpk hpos
        rw [Int.tmod_eq_emod_of_nonneg hpos] at hpk
        unfold DjP at hd
        simp only at hd
        have hal : firstF c.red s ≤ x.p.pos := by unfold firstF; omega
        omega
      cases suf with
      | nil =>
        simp only [gapsGo]
        rw [if_pos (by omega)]
        simp only [roomGo]
        rw [if_pos (by omega)]; rfl
      | cons x suf' =>
        have hx := hfree x (List.mem_cons_self ..)
        simp only [gapsGo]
        rw [if_pos (by omega)]
        simp only [List.cons_append, List.nil_append, roomGo]
        rw [if_pos hx]; rfl
    · rw [h1, Nat.zero_add, if_neg (by omega)]
      obtain ⟨y, hy, b1, b2, b3⟩ := ix_ext h wl wq (p := (live ++ quar)[j]!) (by rw [getElem!_pos _ j hj]; exact List.getElem_mem hj)
      unfold DjP at h2
      simp only at h2
      have hys : y ∈ suf := by
        rw [hA.eq] at hy
        rcases List.mem_append.1 hy with hy | hy
        · have := hA.pre y hy; omega
        · exact hy
      obtain ⟨suf', k1, ⟨pre2, k2⟩, k3, k4, k5⟩ := room_skip c.red size e s suf s hA.ch (Int.le_refl _) y hys (by omega)
      rw [k5, ← b3]
      refine place_eq h wl wq z0 he f y.to (pre ++ pre2 ++ [y]) suf' ?_ ⟨by rw [hA.eq, k2]; simp, fun x hx => ?_, k3⟩ (by omega)
      · have := hA.ch.mem y hys; omega
      · have hy2 := hA.ch.mem y hys
        rcases List.mem_append.1 hx with hx | hx
        · rcases List.mem_append.1 hx with hx | hx
          · have := hA.pre x hx; omega
          · rcases k4 x (by rw [k2]; exact List.mem_append_left _ hx) with hx' | hx'
            · have hch := hA.ch
              have := k3.mem x hx'
              exfalso
              have hnd := hA.ch
              exact absurd hx' (by
                intro _
                have hp := ch_pair hA.ch
                rw [k2, List.pairwise_append] at hp
                have := hp.2.2 x hx x (List.mem_cons_of_mem _ hx')
                have := hA.ch.mem x (by rw [k2]; exact List.mem_append_left _ hx)
                omega)
            · exact hx'
        · rw [List.mem_singleton.1 hx]; exact Int.le_refl _
/-- one step of the specification's place. -/
theorem place_step {c : Conf} {gi : Int} {live quar : List Piece} {L : List Ext} (h : Op c gi live quar L) (wl : ∀ p ∈ live, WfP p) (wq : ∀ p ∈ quar, WfP p) {size e s : Int} (z0 : 0 ≤ size) {pre suf : List Ext} (hs0 : 0 ≤ s) (hA : At L e s pre suf) :
    (e < firstF c.red s + max size 1 + c.red → roomGo c.red size (gapsGo e s suf) = none) ∧
    (¬ e < firstF c.red s + max size 1 + c.red → badGo c.red ⟨firstF c.red s, size, 0⟩ (live ++ quar) 0 = (live ++ quar).length → roomGo c.red size (gapsGo e s suf) = some (firstF c.red s)) ∧
    (¬ e < firstF c.red s + max size 1 + c.red → ∀ j, j < (live ++ quar).length → badGo c.red ⟨firstF c.red s, size, 0⟩ (live ++ quar) 0 = j → ∃ pre' suf', At L e ((live ++ quar)[j]!.pos + max (live ++ quar)[j]!.size 1 + c.red) pre' suf' ∧ suf'.length < suf.length ∧ 0 ≤ (live ++ quar)[j]!.pos + max (live ++ quar)[j]!.size 1 + c.red ∧ (live ++ quar)[j]!.pos + max (live ++ quar)[j]!.size 1 + c.red ≤ e ∧ roomGo c.red size (gapsGo e s suf) = roomGo c.red size (gapsGo e ((live ++ quar)[j]!.pos + max (live ++ quar)[j]!.size 1 + c.red) suf')) := by
  have g := (good_iff wl wq).1 h.good
  obtain ⟨⟨r0, r1⟩, hw⟩ := good_wf g wl wq
  have hge : s + c.red ≤ firstF c.red s := by unfold firstF; omega
  refine ⟨fun hend => room_none c.red size e s suf s hA.ch (Int.le_refl _) hend, fun hend hbad => ?_, fun hend j hj hbad => ?_⟩
  · have h2 : ∀ q ∈ live ++ quar, DjP c.red q ⟨firstF c.red s, size, 0⟩ := by
      rcases badGo_spec c.red ⟨firstF c.red s, size, 0⟩ (live ++ quar) 0 with ⟨_, h2⟩ | ⟨j, hj, h1, _⟩
      · exact h2
      · omega
    have hfree : ∀ x ∈ suf, firstF c.red s + max size 1 + c.red ≤ x.fr := fun x hx => by
      have hxL : x ∈ L := by rw [hA.eq]; exact List.mem_append_right _ hx
      obtain ⟨k, hk, a1, a2, a3, _⟩ := ext_ix h wl wq hxL
      have hd := h2 (live ++ quar)[k]! (by rw [getElem!_pos _ k hk]; exact List.getElem_mem hk)
      have hmem := hA.ch.mem x hx
      have hpk := (g.each (live ++ quar)[k]! (by rw [getElem!_pos _ k hk]; exact List.getElem_mem hk)).1
      have hpos := (hw (live ++ quar)[k]! (by rw [getElem!_pos _ k hk]; exact List.getElem_mem hk)).1.1
      rw [← a1] at hd hpk hpos
      rw [Int.tmod_eq_emod_of_nonneg hpos] at hpk
      unfold DjP at hd
      simp only at hd
      have hal : firstF c.red s ≤ x.p.pos := by unfold firstF; omega
      omega
    cases suf with
    | nil =>
      simp only [gapsGo]
      rw [if_pos (by omega)]
      simp only [roomGo]
      rw [if_pos (by omega)]
    | cons x suf' =>
      have hx := hfree x (List.mem_cons_self ..)
      simp only [gapsGo]
      rw [if_pos (by omega)]
      simp only [List.cons_append, List.nil_append, roomGo]
      rw [if_pos hx]
  · have h2 : ¬ DjP c.red (live ++ quar)[j]! ⟨firstF c.red s, size, 0⟩ := by
      rcases badGo_spec c.red ⟨firstF c.red s, size, 0⟩ (live ++ quar) 0 with ⟨h1, _⟩ | ⟨k, hk, h1, h2⟩
      · omega
      · have : k = j := by omega
        rw [← this]; exact h2
    obtain ⟨y, hy, b1, b2, b3⟩ := ix_ext h wl wq (p := (live ++ quar)[j]!) (by rw [getElem!_pos _ j hj]; exact List.getElem_mem hj)
    unfold DjP at h2
    simp only at h2
    have hys : y ∈ suf := by
      rw [hA.eq] at hy
      rcases List.mem_append.1 hy with hy | hy
      · have := hA.pre y hy; omega
      · exact hy
    obtain ⟨suf', k1, ⟨pre2, k2⟩, k3, k4, k5⟩ := room_skip c.red size e s suf s hA.ch (Int.le_refl _) y hys (by omega)
    have hy2' := hA.ch.mem y hys
    refine ⟨pre ++ pre2 ++ [y], suf', ?_, k1, by omega, by omega, by rw [k5, b3]⟩
    rw [← b3]
    refine ⟨by rw [hA.eq, k2]; simp, fun x hx => ?_, k3⟩
    have hy2 := hA.ch.mem y hys
    rcases List.mem_append.1 hx with hx | hx
    · rcases List.mem_append.1 hx with hx | hx
      · have := hA.pre x hx; omega
      · rcases k4 x (by rw [k2]; exact List.mem_append_left _ hx) with hx' | hx'
        · have hch := hA.ch
          have := k3.mem x hx'
          exfalso
          have hnd := hA.ch
          exact absurd hx' (by
            intro _
            have hp := ch_pair hA.ch
            rw [k2, List.pairwise_append] at hp
            have := hp.2.2 x hx x (List.mem_cons_of_mem _ hx')
            have := hA.ch.mem x (by rw [k2]; exact List.mem_append_left _ hx)
            omega)
        · exact hx'
    · rw [List.mem_singleton.1 hx]; exact Int.le_refl _
end Go.Proofs.Ytbhbjcgbhklieaa
