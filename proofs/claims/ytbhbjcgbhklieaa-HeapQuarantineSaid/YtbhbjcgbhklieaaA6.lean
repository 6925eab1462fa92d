/- slices.SortFunc at extents, by the shelf's contract. -/
import Derived.Test.YtbhbjcgbhklieaaS0
import Derived.Test.YtbhbjcgbhklieaaA5
import Derived.Shelf.SlSortCmp.NoneTotal
import Derived.Shelf.SlGeneric
import Derived.Ground.SlsfProg
import Derived.Sort.OwnSorted
namespace Go.Proofs.Ytbhbjcgbhklieaa
open Go.RowKit Go.Sort

theorem flat_get {α : Type} [Inhabited α] (enc : α → List Value) (k : Nat) (hk : ∀ x, (enc x).length = k) : ∀ (L : List α) (j i : Nat), j < L.length → i < k → (L.flatMap enc)[j * k + i]? = (enc L[j]!)[i]?
  | [], j, i, hj, _ => absurd hj (Nat.not_lt_zero _)
  | a :: L, 0, i, _, hi => by
    rw [List.flatMap_cons, Nat.zero_mul, Nat.zero_add, List.getElem?_append_left (by rw [hk]; exact hi)]
    rfl
  | a :: L, j + 1, i, hj, hi => by
    rw [List.flatMap_cons, List.getElem?_append_right (by rw [hk, Nat.add_mul]; omega), hk, show (j + 1) * k + i - k = j * k + i by rw [Nat.add_mul]; omega, flat_get enc k hk L j i (by simpa using hj) hi]
    simp

theorem flat_len {α : Type} (enc : α → List Value) (k : Nat) (hk : ∀ x, (enc x).length = k) : ∀ (L : List α), (L.flatMap enc).length = L.length * k
  | [] => by simp
  | a :: L => by rw [List.flatMap_cons, List.length_append, hk, flat_len enc k hk L, List.length_cons, Nat.add_mul]; omega

theorem encE_len (x : Ext) : (encE x).length = 7 := rfl
theorem encP_len (x : Piece) : (encP x).length = 3 := rfl

theorem lies_of_owns {α : Type} [Inhabited α] {enc : α → List Value} {k : Nat} (hk : ∀ x, (enc x).length = k) {w : World} {base g cap : Nat} {t : TypeId} {L : List α}
    (h : w.ownsRow base t k (.slice (some ⟨g, 0, none⟩) L.length cap) L.length (L.flatMap enc)) : Lies k enc w g 0 L := by
  refine ⟨(h.lt g rfl).2, fun j hj i v hv => ?_⟩
  have hi : i < k := by rw [← hk L[j]!]; exact (List.getElem?_eq_some_iff.1 hv).1
  have hjk : j * k + i < L.length * k := by
    have := Nat.mul_le_mul_right k (show j + 1 ≤ L.length from hj); rw [Nat.add_mul, Nat.one_mul] at this; omega
  rw [Nat.zero_add, h.cellAt _ hjk, flat_get enc k hk L j i hj hi, hv]

theorem cellsK_of_owns {w : World} {base g cap : Nat} {t : TypeId} {L : List Ext}
    (h : w.ownsRow base t 7 (.slice (some ⟨g, 0, none⟩) L.length cap) L.length (L.flatMap encE)) : HoldsK encE 7 w g 0 L.toArray := by
  intro u hu
  rw [size_flatK] at hu
  have hu' : u < L.length * 7 := by simpa using hu
  refine ⟨?_, by rw [Nat.zero_add]; exact h.frozenAt u⟩
  rw [Nat.zero_add, h.cellAt _ hu', get_flatK _ _ _ _ hu]
  have h1 := flat_get encE 7 encE_len L (u / 7) (u % 7) (by omega) (by omega)
  rw [show u / 7 * 7 + u % 7 = u by omega] at h1
  rw [h1]
  have h2 : L.toArray[u / 7]! = L[u / 7]! := by simp
  rw [h2]
  have h3 : u % 7 < (encE L[u / 7]!).length := by rw [encE_len]; omega
  rw [List.getElem?_eq_getElem h3]
  show some _ = some ((encE L[u / 7]!)[u % 7]!)
  rw [getElem!_pos (encE L[u / 7]!) (u % 7) h3]

theorem grownBy_sortK {w : World} {g n : Nat} {os : Array Obj} (d : Array Ext) : w.grownBy (sortWorldK encE 7 w g 0 n d os) (some g) := by
  refine ⟨rfl, rfl, rfl, by simp [sortWorldK, putRowK, size_grow], fun k hk hne => ?_⟩
  unfold sortWorldK putRowK
  rw [heap_grow_old _ _ (by simpa using hk)]
  have : g ≠ k := fun e => hne (by rw [e])
  simp [putRow, mapBlock, Sort.ahead, Array.getElem?_modify, this]

theorem ltOf_fr (x y : Ext) : ltOf (fun x y : Ext => cmpI x.fr y.fr) x y = decide (x.fr < y.fr) := by
  unfold ltOf cmpI
  by_cases h1 : x.fr < y.fr
  · simp [h1]
  · by_cases h2 : y.fr < x.fr <;> simp [h1, h2]

theorem swo_fr : SWO (ltOf fun x y : Ext => cmpI x.fr y.fr) where
  irrefl x := by rw [ltOf_fr]; simp
  trans x y z h1 h2 := by rw [ltOf_fr] at *; simp at *; omega
  ntrans x y z h1 h2 := by rw [ltOf_fr] at *; simp at *; omega

theorem c87 (L : List Ext) (w : World) (base g cap : Nat) (hown : w.ownsRow base 115 7 (.slice (some ⟨g, 0, none⟩) L.length cap) L.length (L.flatMap encE)) (hsz : L.length < 4611686018427387904) :
    Calls Try.prog 87 #[.slice (some ⟨g, 0, none⟩) L.length cap, .func (.func 88) #[] #[]] w fun e w' => e = .returned (.tuple #[]) ∧
      ∃ L' : List Ext, L'.Perm L ∧ (∀ i j, i < j → j < L'.length → L'[i]!.fr ≤ L'[j]!.fr) ∧ Lies 7 encE w' g 0 L' ∧ w.grownBy w' (some g) := by
  have hH := cellsK_of_owns hown
  have hg := (hown.lt g rfl).2
  have hcmp : CmpLays Try.prog 88 #[] encE 7 (fun x y => cmpI x.fr y.fr) g 0 L.toArray.size w := fun m os dk _ x y =>
    (c88 x y _).mono fun e w' ⟨he, hw⟩ => ⟨he, 0, #[.cells (encE x).toArray 115] ++ #[.cells (encE y).toArray 115], by subst hw; rw [alloc_eq_grow, alloc_eq_grow, grow_grow]; rfl⟩
  have h := AnyQ.slices_SortFunc Try.sortE 7 Try.isAgg115 Try.sizeOf115 encE encE_len (fun x v hv => by simp [encE] at hv; rcases hv with rfl | rfl | rfl | rfl | rfl | rfl | rfl <;> rfl) (fun x y => cmpI x.fr y.fr) swo_fr 88 #[] g 0 cap L.toArray w
    (enters_of Try.func88 (by kernel_rfl) rfl) hcmp hH hg (by simpa using hsz)
  change Calls Try.prog 87 _ _ _ at h
  simp only [List.size_toArray] at h
  refine h.mono ?_
  rintro e w' ⟨he, d', n, os, hp, hs, rfl⟩
  obtain ⟨hsize, _, hperm⟩ := hp
  have hsize' : d'.size = L.length := by simpa using hsize
  have hHK := holdsK_sortWorldK_c encE 7 w g 0 L.toArray d' n os hH hg (by simpa using hsize')
  refine ⟨he, d'.toList, ?_, ?_, ⟨Nat.lt_of_lt_of_le hg (size_sortWorldK_c encE 7 w g 0 n d' os), ?_⟩, grownBy_sortK d'⟩
  · have e1 : (d'.extract 0 L.length).toList = d'.toList := by rw [← hsize']; simp
    have e2 : (L.toArray.extract 0 L.length).toList = L := by simp
    rwa [e1, e2] at hperm
  · intro i j hij hj
    have := hs i j (Nat.zero_le _) hij (by simpa [hsize'] using hj)
    rw [ltOf_fr] at this
    have h3 := of_decide_eq_false this
    have e1 : d'.toList[i]! = d'[i]! := by rw [← Array.getElem!_toList]
    have e2 : d'.toList[j]! = d'[j]! := by rw [← Array.getElem!_toList]
    rw [e1, e2]; omega
  · intro j hj i v hv
    have hi : i < 7 := by have := (List.getElem?_eq_some_iff.1 hv).1; rwa [encE_len] at this
    have := (hHK.cell (i := j) (c := i) (by simpa using hj) hi).1
    have e2 : d'.toList[j]! = d'[j]! := by rw [← Array.getElem!_toList]
    rw [e2] at hv
    rw [this]
    have h3 : i < (encE d'[j]!).length := by rw [encE_len]; exact hi
    rw [List.getElem?_eq_getElem h3] at hv
    rw [getElem!_pos (encE d'[j]!) i h3]
    exact hv
end Go.Proofs.Ytbhbjcgbhklieaa
