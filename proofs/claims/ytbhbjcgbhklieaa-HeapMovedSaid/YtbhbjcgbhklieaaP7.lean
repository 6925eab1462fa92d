/- HeapMoved: the plain laws, begun: lists and gaps moved by so many bytes. -/
import Derived.Test.YtbhbjcgbhklieaaP6
import Derived.Test.YtbhbjcgbhklieaaP4
namespace Go.Proofs.Ytbhbjcgbhklieaa
open Go.RowKit Go.Shelf

def mvP (d : Int) (p : Piece) : Piece := ⟨p.pos + d, p.size, p.born⟩
def mvC (b : Int) (c : Conf) : Conf := { c with page := c.page + b }
theorem cmpI_mv (x v d : Int) : cmpI (x + d) (v + d) = cmpI x v := by unfold cmpI; split <;> split <;> (try split) <;> (try split) <;> omega
theorem atI_mv (d v : Int) : ∀ (l : List Piece), atI (l.map (mvP d)) (v + d) = atI l v
  | [] => rfl
  | p :: l => by
    have ih := atI_mv d v l
    rw [List.map_cons, atI_cons, atI_cons, ih]
    congr 1
    by_cases h : p.pos < v
    · rw [if_pos h, if_pos (by show p.pos + d < v + d; omega)]
    · rw [if_neg h, if_neg (by show ¬ p.pos + d < v + d; omega)]
theorem get_mv (d : Int) (l : List Piece) (i : Nat) (h : i < l.length) : (l.map (mvP d))[i]! = mvP d l[i]! := by
  rw [getElem!_pos _ i (by simpa using h), List.getElem_map, getElem!_pos l i h]
theorem isI_mv (d v : Int) (l : List Piece) : isI (l.map (mvP d)) (v + d) = isI l v := by
  have ha := atI_mv d v l
  unfold isI bsIs
  rw [show bsAt (fun x : Piece => cmpI x.pos (v + d)) (l.map (mvP d)) = bsAt (fun x : Piece => cmpI x.pos v) l from ha, List.length_map]
  by_cases h : bsAt (fun x : Piece => cmpI x.pos v) l < l.length
  · rw [get_mv d l _ h]
    have : cmpI (mvP d l[bsAt (fun x : Piece => cmpI x.pos v) l]!).pos (v + d) = cmpI l[bsAt (fun x : Piece => cmpI x.pos v) l]!.pos v := cmpI_mv _ _ _
    simp only [this]
  · simp [h]
theorem ins_mv (d : Int) (l : List Piece) (i : Nat) (p : Piece) : insF (l.map (mvP d)) i (mvP d p) = (insF l i p).map (mvP d) := by simp [insF]
theorem erase_mv (d : Int) (l : List Piece) (i : Nat) : (l.map (mvP d)).eraseIdx i = (l.eraseIdx i).map (mvP d) := by
  simp [List.eraseIdx_eq_take_drop_succ]
theorem size_mv (d : Int) (l : List Piece) : ((l.map (mvP d)).map (·.size)) = l.map (·.size) := by
  rw [List.map_map]; rfl
theorem trim_mv (Q d : Int) : ∀ (l : List Piece), trimF Q (l.map (mvP d)) = (trimF Q l).map (mvP d)
  | [] => rfl
  | p :: l => by
    simp only [List.map_cons, trimF, size_mv, List.length_map]
    rw [show (mvP d p).size = p.size from rfl]
    by_cases h : 1000 < l.length + 1 ∨ Q < p.size + (l.map (·.size)).sum
    · rw [if_pos h, if_pos h]; exact trim_mv Q d l
    · rw [if_neg h, if_neg h]; rfl
theorem first_mv (red a d : Int) (h : d % 8 = 0) : firstF red (a + d) = firstF red a + d := by unfold firstF; omega
theorem room_mv (red size d : Int) (h : d % 8 = 0) : ∀ (l : List (Int × Int)), roomGo red size (l.map fun g => (g.1 + d, g.2 + d)) = (roomGo red size l).map (· + d)
  | [] => rfl
  | g :: l => by
    simp only [List.map_cons, roomGo, first_mv red g.1 d h]
    by_cases hg : firstF red g.1 + max size 1 + red ≤ g.2
    · rw [if_pos hg, if_pos (by omega)]; rfl
    · rw [if_neg hg, if_neg (by omega)]; exact room_mv red size d h l
def mvE (d : Int) (x : Ext) : Ext := ⟨mvP d x.p, x.fr + d, x.to + d, x.quar, x.ix⟩
theorem gaps_mv (d e : Int) : ∀ (L : List Ext) (s : Int), gapsGo (e + d) (s + d) (L.map (mvE d)) = (gapsGo e s L).map fun g => (g.1 + d, g.2 + d)
  | [], s => by
    simp only [List.map_nil, gapsGo]
    by_cases h : s < e
    · rw [if_pos h, if_pos (by omega)]; rfl
    · rw [if_neg h, if_neg (by omega)]; rfl
  | x :: L, s => by
    have ih := gaps_mv d e L x.to
    simp only [List.map_cons, gapsGo, List.map_append]
    rw [show (mvE d x).to = x.to + d from rfl, show (mvE d x).fr = x.fr + d from rfl, ih]
    congr 1
    by_cases h : s < x.fr
    · rw [if_pos h, if_pos (by omega)]; rfl
    · rw [if_neg h, if_neg (by omega)]; rfl
end Go.Proofs.Ytbhbjcgbhklieaa
