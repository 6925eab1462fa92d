/- A region that only reads, whose callees may lay blocks of their own: one walk. -/
import Derived.Test.YtbhbjcgbhklieaaE4
import Derived.Deep.QuietTactic
import Derived.Shelf.RegionOpenPlain
namespace Go.Proofs.Ytbhbjcgbhklieaa
open Go.RowKit Go.Shelf

/-- a world that has grown out of W: so many draws, these blocks behind. -/
def far (W : World) (d : Nat) (os : Array Obj) : World := { W with heap := W.heap ++ os, drawn := d }
structure Far where
  d : Nat
  os : Array Obj
  deriving Inhabited

theorem far_of_below {W w' : World} (h : Below W.heap.size W w') : ∃ p : Far, w' = far W p.d p.os := by
  refine ⟨⟨w'.drawn, w'.heap.extract W.heap.size w'.heap.size⟩, ?_⟩
  have hh : w'.heap = W.heap ++ w'.heap.extract W.heap.size w'.heap.size := by
    apply Array.ext_getElem?
    intro k
    have hs := h.size
    rw [Array.getElem?_append]
    by_cases hk : k < W.heap.size
    · rw [if_pos hk]; exact h.block k hk
    · rw [if_neg hk, Array.getElem?_extract]
      split
      · rw [show W.heap.size + (k - W.heap.size) = k by omega]
      · rw [Array.getElem?_eq_none (by omega)]
  have h1 := h.os
  have h2 := h.tape
  have h3 := h.output
  cases w'
  cases W
  simp only [far] at *
  subst h1 h2 h3
  rw [← hh]
theorem below_far (W : World) (d : Nat) (os : Array Obj) : Below W.heap.size W (far W d os) :=
  ⟨rfl, rfl, rfl, by simp [far], fun k hk => by simp [far, Array.getElem?_append, hk]⟩
theorem far_cell {W : World} {b o : Nat} {v : Value} (hb : b < W.heap.size) (h : W.cell? ⟨b, o, none⟩ = some v) (d : Nat) (os : Array Obj) : (far W d os).cell? ⟨b, o, none⟩ = some v := ((below_far W d os).cell (p := ⟨b, o, none⟩) hb).trans h
theorem Calls.far_of {P : Program} {f : Nat} {args : Array Value} {W : World} {d : Nat} {os : Array Obj} {v : Value} (h : Calls P f args (far W d os) fun e w' => e = .returned v ∧ Below (far W d os).heap.size (far W d os) w') :
    Calls P f args (far W d os) fun e w'' => e = .returned v ∧ ∃ p : Far, w'' = far W p.d p.os :=
  h.mono fun _ _ ⟨he, hb⟩ => ⟨he, far_of_below ((below_far W d os).trans (hb.mono (below_far W d os).size))⟩

theorem wp_region_far {P : Program} {id : Nat} {Q : Exit → Act → World → Prop} {a : Act} {W : World} {l : List Oper} (hm : P.follows .mixedOrders = true) (hB : Region.lexB .any l.toArray = true)
    (h : wpQuiet P l.toArray (fun w' => ∃ p : Far, w' = far W p.d p.os) (fun a' => ∀ w', (∃ p : Far, w' = far W p.d p.os) → Q .normal a' w') l a) : (Code.region id l.toArray true).wp P Q a W :=
  wp_region_quiet (C := fun w' => ∃ p : Far, w' = far W p.d p.os) hm hB ⟨⟨W.drawn + 1, #[]⟩, by simp [far]⟩ (by simpa using h)
end Go.Proofs.Ytbhbjcgbhklieaa
