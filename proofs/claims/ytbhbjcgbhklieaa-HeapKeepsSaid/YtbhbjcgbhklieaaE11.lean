/- What the calls that 'sane' makes answer. -/
import Derived.Test.YtbhbjcgbhklieaaE8
import Derived.Test.YtbhbjcgbhklieaaE9
import Derived.Test.YtbhbjcgbhklieaaE10
import Derived.Test.YtbhbjcgbhklieaaC7
namespace Go.Proofs.Ytbhbjcgbhklieaa
open Go.RowKit Go.Shelf

abbrev cS : Conf := ⟨1, 1, 8, 40⟩
abbrev sAgg (A1 : Option Addr) (n1 k1 : Nat) (A2 : Option Addr) (n2 k2 : Nat) (gi : Int) : Value := .agg #[.int .i64 1, .int .i64 1, .int .i64 8, .int .i64 40, .slice A1 n1 k1, .slice A2 n2 k2, .int .i64 gi]

/-- The box of the heap, and what lies behind it. -/
structure St (w0 W : World) (B : Nat) (live quar : List Piece) (gi : Int) (A1 : Option Addr) (n1 k1 : Nat) (A2 : Option Addr) (n2 k2 : Nat) : Prop where
  bel : Below w0.heap.size w0 W
  hB : w0.heap.size ≤ B
  box : W.heap[B]? = some (.cells #[.int .i64 1, .int .i64 1, .int .i64 8, .int .i64 40, .slice A1 n1 k1, .slice A2 n2 k2, .int .i64 gi] 26 (0, 0))
  f1 : Fresh (B + 1) W (.slice A1 n1 k1) live
  f2 : Fresh (B + 1) W (.slice A2 n2 k2) quar

theorem St.below {w0 W W' : World} {B : Nat} {live quar : List Piece} {gi : Int} {A1 : Option Addr} {n1 k1 : Nat} {A2 : Option Addr} {n2 k2 : Nat} (h : St w0 W B live quar gi A1 n1 k1 A2 n2 k2) (hb : Below W.heap.size W W') : St w0 W' B live quar gi A1 n1 k1 A2 n2 k2 :=
  ⟨h.bel.trans (hb.mono h.bel.size), h.hB, (hb.block B (blk_lt h.box)).trans h.box, h.f1.below hb, h.f2.below hb⟩

/-- a call that gave a heap: what lies there behind it. -/
structure Nx (W w' : World) (live quar : List Piece) (A1 : Option Addr) (n1 k1 : Nat) (A2 : Option Addr) (n2 k2 : Nat) : Prop where
  bel : Below W.heap.size W w'
  f1 : Fresh W.heap.size w' (.slice A1 n1 k1) live
  f2 : Fresh W.heap.size w' (.slice A2 n2 k2) quar

theorem St.next {w0 W w' : World} {B : Nat} {live quar live' quar' : List Piece} {gi gi' : Int} {A1 : Option Addr} {n1 k1 : Nat} {A2 : Option Addr} {n2 k2 : Nat} {A1' : Option Addr} {n1' k1' : Nat} {A2' : Option Addr} {n2' k2' : Nat} (h : St w0 W B live quar gi A1 n1 k1 A2 n2 k2) (x : Nx W w' live' quar' A1' n1' k1' A2' n2' k2') :
    St w0 (((((((w'.setCell ⟨B, 0, none⟩ (.int .i64 1)).setCell ⟨B, 1, none⟩ (.int .i64 1)).setCell ⟨B, 2, none⟩ (.int .i64 8)).setCell ⟨B, 3, none⟩ (.int .i64 40)).setCell ⟨B, 4, none⟩ (.slice A1' n1' k1')).setCell ⟨B, 5, none⟩ (.slice A2' n2' k2')).setCell ⟨B, 6, none⟩ (.int .i64 gi')) B live' quar' gi' A1' n1' k1' A2' n2' k2' := by
  have hlt := blk_lt h.box
  have e0 := (x.bel.block B hlt).trans h.box
  have e1 := row_setCell (o := 0) (.int .i64 1) e0
  have e2 := row_setCell (o := 1) (.int .i64 1) e1
  have e3 := row_setCell (o := 2) (.int .i64 8) e2
  have e4 := row_setCell (o := 3) (.int .i64 40) e3
  have e5 := row_setCell (o := 4) (.slice A1' n1' k1') e4
  have e6 := row_setCell (o := 5) (.slice A2' n2' k2') e5
  have e7 := row_setCell (o := 6) (.int .i64 gi') e6
  simp only [List.setIfInBounds_toArray, List.set_cons_zero, List.set_cons_succ] at e7
  have hk : ∀ k, k < w'.heap.size → W.heap.size ≤ k → (((((((w'.setCell ⟨B, 0, none⟩ (.int .i64 1)).setCell ⟨B, 1, none⟩ (.int .i64 1)).setCell ⟨B, 2, none⟩ (.int .i64 8)).setCell ⟨B, 3, none⟩ (.int .i64 40)).setCell ⟨B, 4, none⟩ (.slice A1' n1' k1')).setCell ⟨B, 5, none⟩ (.slice A2' n2' k2')).setCell ⟨B, 6, none⟩ (.int .i64 gi')).heap[k]? = w'.heap[k]? := fun k hk hW => by
    have hne : k ≠ B := by omega
    repeat' first | refine Eq.trans (Below.heap_setCell _ _ _ _ hne) ?_ | rfl
  refine ⟨?_, h.hB, e7, (x.f1.kept (by simp) hk).base (by omega), (x.f2.kept (by simp) hk).base (by omega)⟩
  repeat' first | refine Below.setCell ?_ h.hB _ | exact h.bel.trans (x.bel.mono h.bel.size)

/-- all that is asked of a heap here. -/
structure Kn (live quar : List Piece) (gi : Int) (L : List Ext) : Prop where
  good : Good cS gi live quar
  wl : ∀ p ∈ live, WfP p
  wq : ∀ p ∈ quar, WfP p
  perm : L.Perm (items 8 live quar)
  sort : L.Pairwise (fun x y => x.fr < y.fr)
  n : live.length ≠ 1000
  gi : gi ≠ 1073741824

section
variable {w0 W : World} {B : Nat} {live quar : List Piece} {gi : Int} {A1 : Option Addr} {n1 k1 : Nat} {A2 : Option Addr} {n2 k2 : Nat} {L : List Ext}

theorem gives_at (h : St w0 W B live quar gi A1 n1 k1 A2 n2 k2) (k : Kn live quar gi L) {size v gi' : Int} {live' : List Piece} (h0 : 0 ≤ size) (h1 : size ≤ 65536) (hv : roomGo 8 size (gapsF cS L) = some v) (hl : insF live (atI live v) ⟨v, size, gi'⟩ = live') (hg : gi + 1 = gi') :
    Calls Try.prog 57 #[sAgg A1 n1 k1 A2 n2 k2 gi, .int .i64 size, .int .u32 v] W fun e w' => ∃ A1' n1' k1' A2' n2' k2', e = .returned (.tuple #[sAgg A1' n1' k1' A2' n2' k2' gi', .bool true]) ∧ Nx W w' live' quar A1' n1' k1' A2' n2' k2' := by
  subst hg; subst hl
  refine (c57 cS _ _ gi live quar size v W h.f1.sl h.f2.sl k.wl k.wq h.f1.shape h.f2.shape k.good h0 h1 k.perm k.sort hv k.n k.gi).mono ?_
  rintro e w' ⟨hB, lv', qv', rfl, f1, f2⟩
  obtain ⟨A1', c1, rfl, _⟩ := id f1.sl
  obtain ⟨A2', c2, rfl, _⟩ := id f2.sl
  exact ⟨_, _, _, _, _, _, by simp, hB, f1, f2⟩

theorem free_at (h : St w0 W B live quar gi A1 n1 k1 A2 n2 k2) (k : Kn live quar gi L) {a : Int} {live' quar' : List Piece} (hi : isI live a = true) (hl : live.eraseIdx (atI live a) = live') (hq : trimF 40 (quar ++ [live[atI live a]!]) = quar') :
    Calls Try.prog 19 #[sAgg A1 n1 k1 A2 n2 k2 gi, .int .u32 a] W fun e w' => ∃ A1' n1' k1' A2' n2' k2', e = .returned (.tuple #[sAgg A1' n1' k1' A2' n2' k2' gi, .int .i64 0]) ∧ Nx W w' live' quar' A1' n1' k1' A2' n2' k2' ∧ n2' = quar'.length := by
  subst hl; subst hq
  refine (c19 cS _ _ gi live quar a W h.f1.sl h.f2.sl k.wl k.wq h.f1.shape h.f2.shape).mono ?_
  rintro e w' ⟨hB, ha⟩
  obtain ⟨lv', qv', rfl, f1, f2⟩ := ha.ok k.good hi
  obtain ⟨A1', c1, rfl, _⟩ := id f1.sl
  obtain ⟨A2', c2, rfl, _⟩ := id f2.sl
  exact ⟨_, _, _, _, _, _, rfl, ⟨hB, f1, f2⟩, rfl⟩

theorem free_not (h : St w0 W B live quar gi A1 n1 k1 A2 n2 k2) (k : Kn live quar gi L) {a : Int} (hi : isI live a = false) :
    Calls Try.prog 19 #[sAgg A1 n1 k1 A2 n2 k2 gi, .int .u32 a] W fun e w' => e = .returned (.tuple #[hNil, .int .i64 61]) ∧ Below W.heap.size W w' := by
  refine (c19 cS _ _ gi live quar a W h.f1.sl h.f2.sl k.wl k.wq h.f1.shape h.f2.shape).mono ?_
  rintro e w' ⟨hB, ⟨h1, _⟩ | ⟨_, _, rfl⟩ | ⟨_, h2, _⟩⟩
  · exact absurd k.good h1
  · exact ⟨rfl, hB⟩
  · rw [hi] at h2; cases h2

theorem alloc_not (h : St w0 W B live quar gi A1 n1 k1 A2 n2 k2) (k : Kn live quar gi L) {size : Int} (hs : size < 0 ∨ 65536 < size) :
    Calls Try.prog 23 #[sAgg A1 n1 k1 A2 n2 k2 gi, .int .i64 size] W fun e w' => e = .returned (.tuple #[hNil, .int .u32 0, .int .i64 1]) ∧ Below W.heap.size W w' := by
  refine (c23 cS _ _ gi live quar size W h.f1.sl h.f2.sl k.wl k.wq h.f1.shape h.f2.shape).mono ?_
  rintro e w' ⟨hB, ⟨h1, _⟩ | ⟨_, _, rfl⟩ | ⟨_, _, h2, h3, _⟩ | ⟨_, _, _, h2, h3, _⟩⟩
  · exact absurd k.good h1
  · exact ⟨rfl, hB⟩
  · omega
  · omega

theorem check_at (h : St w0 W B live quar gi A1 n1 k1 A2 n2 k2) (k : Kn live quar gi L) :
    Calls Try.prog 20 #[sAgg A1 n1 k1 A2 n2 k2 gi] W fun e w' => e = .returned (.int .i64 0) ∧ Below W.heap.size W w' := by
  refine (c20 cS _ _ gi live quar W h.f1.sl h.f2.sl k.wl k.wq).mono ?_
  rintro e w' ⟨hB, ⟨h1, _⟩ | ⟨_, rfl⟩⟩
  · exact absurd k.good h1
  · exact ⟨rfl, hB⟩

theorem find_at (h : St w0 W B live quar gi A1 n1 k1 A2 n2 k2) (k : Kn live quar gi L) {a x y z : Int} (h0 : 0 ≤ a) (h1 : a < 4294967296) (hn : nearF L a = (x, y, z)) :
    Calls Try.prog 26 #[sAgg A1 n1 k1 A2 n2 k2 gi, .int .u32 a] W fun e w' => e = .returned (.agg #[.int .i64 x, .int .i64 y, .int .i64 z]) ∧ Below W.heap.size W w' := by
  refine (c26 cS _ _ gi live quar a W h.f1.sl h.f2.sl k.wl k.wq h0 h1).mono ?_
  rintro e w' ⟨hB, ⟨h1, _⟩ | ⟨L', hL, rfl⟩⟩
  · exact absurd k.good h1
  · have := hL.unique k.perm k.sort
    subst this
    rw [hn]
    exact ⟨rfl, hB⟩

theorem outside_at (h : St w0 W B live quar gi A1 n1 k1 A2 n2 k2) (k : Kn live quar gi L) {a n v : Int} (h0 : 0 ≤ a) (h1 : a < 4294967296) (hn0 : -9223372036854775808 ≤ n) (hn1 : n ≤ 9223372036854775807) (hn : outGo L live n.toNat a n = some v) :
    Calls Try.prog 28 #[sAgg A1 n1 k1 A2 n2 k2 gi, .int .u32 a, .int .i64 n] W fun e w' => e = .returned (.tuple #[.int .u32 v, .bool true]) ∧ Below W.heap.size W w' := by
  refine (c28 cS _ _ gi live quar a n W h.f1.sl h.f2.sl k.wl k.wq h0 h1 hn0 hn1).mono ?_
  rintro e w' ⟨hB, ⟨h1, _⟩ | ⟨L', hL, rfl⟩⟩
  · exact absurd k.good h1
  · have := hL.unique k.perm k.sort
    subst this
    rw [hn]
    exact ⟨rfl, hB⟩

theorem stat_at (h : St w0 W B live quar gi A1 n1 k1 A2 n2 k2) (k : Kn live quar gi L) {v : Value} (hn : statV cS live quar L = v) :
    Calls Try.prog 29 #[sAgg A1 n1 k1 A2 n2 k2 gi] W fun e w' => e = .returned v ∧ Below W.heap.size W w' := by
  refine (callsIn_wide.1 (c29 cS _ _ gi live quar W h.f1.sl h.f2.sl k.wl k.wq)).mono ?_
  rintro e w' ⟨hB, ⟨h1, _⟩ | ⟨L', hL, rfl⟩⟩
  · exact absurd k.good h1
  · have := hL.unique k.perm k.sort
    subst this
    rw [hn]
    exact ⟨rfl, hB⟩

theorem gaps_at (h : St w0 W B live quar gi A1 n1 k1 A2 n2 k2) (k : Kn live quar gi L) {l : List (Int × Int)} (hn : spans cS L = l) :
    Calls Try.prog 27 #[sAgg A1 n1 k1 A2 n2 k2 gi] W fun e w' => (∃ A c, e = .returned (.slice A l.length c) ∧ Sl 2 encN w' (.slice A l.length c) l) ∧ Below W.heap.size W w' := by
  refine (c27v cS _ _ gi live quar W h.f1.sl h.f2.sl k.wl k.wq).mono ?_
  rintro e w' ⟨hB, ⟨h1, _⟩ | ⟨L', v, hL, rfl, hs⟩⟩
  · exact absurd k.good h1
  · have := hL.unique k.perm k.sort
    subst this
    rw [hn] at hs
    obtain ⟨A, c, rfl, h3, h4⟩ := hs
    exact ⟨⟨A, c, rfl, A, c, rfl, h3, h4⟩, hB⟩
end

/-! The heaps that come. -/
abbrev p1 : Piece := ⟨264, 10, 1⟩
abbrev p2 : Piece := ⟨296, 0, 2⟩
abbrev p3 : Piece := ⟨320, 100, 3⟩
abbrev p4 : Piece := ⟨440, 10, 4⟩
abbrev p5 : Piece := ⟨264, 10, 5⟩

theorem wfS : ∀ p ∈ [p1, p2, p3, p4, p5], WfP p := by intro p hp; simp at hp; rcases hp with rfl | rfl | rfl | rfl | rfl <;> exact ⟨by decide, by decide⟩
def goodB (gi : Int) (live quar : List Piece) : Bool :=
  decide (0 ≤ gi ∧ gi ≤ 1073741824 ∧ live.length ≤ 1000 ∧ quar.length ≤ 1000) && ((live ++ quar).all fun p => decide (p.pos.tmod 8 = 0 ∧ 0 ≤ p.size ∧ p.size ≤ 65536 ∧ 1 ≤ p.born ∧ p.born ≤ gi ∧ 256 ≤ p.pos - 8 ∧ p.pos + max p.size 1 + 8 ≤ 512)) &&
  (decide (((live ++ quar).map (·.born)).Nodup) && (decide ((live ++ quar).Pairwise fun p q => p.pos + max p.size 1 + 8 ≤ q.pos - 8 ∨ q.pos + max q.size 1 + 8 ≤ p.pos - 8) && (decide (live.Pairwise (fun p q => p.pos < q.pos)) && decide ((quar.map (·.size)).sum ≤ 40))))
theorem kn_of {live quar : List Piece} {gi : Int} {L : List Ext} (h1 : goodB gi live quar = true) (hw : ∀ p ∈ live ++ quar, p ∈ [p1, p2, p3, p4, p5]) (hp : L.Perm (items 8 live quar)) (hs : L.Pairwise (fun x y => x.fr < y.fr)) (hn : live.length ≠ 1000) (hg : gi ≠ 1073741824) : Kn live quar gi L := by
  have wl : ∀ p ∈ live, WfP p := fun p h => wfS p (hw p (List.mem_append_left _ h))
  have wq : ∀ p ∈ quar, WfP p := fun p h => wfS p (hw p (List.mem_append_right _ h))
  simp only [goodB, Bool.and_eq_true, decide_eq_true_eq, List.all_eq_true] at h1
  obtain ⟨⟨⟨a1, a2, a3, a4⟩, a5⟩, a6, a7, a8, a9⟩ := h1
  exact ⟨(good_iff wl wq).2 ⟨by decide, a1, a2, a3, a4, a5, a6, a7, a8, a9⟩, wl, wq, hp, hs, hn, hg⟩

abbrev x1 (i : Int) : Ext := ⟨p1, 256, 282, false, i⟩
abbrev x1q (i : Int) : Ext := ⟨p1, 256, 282, true, i⟩
abbrev x2 (i : Int) : Ext := ⟨p2, 288, 305, false, i⟩
abbrev x3 (i : Int) : Ext := ⟨p3, 312, 428, false, i⟩
abbrev x4 (i : Int) : Ext := ⟨p4, 432, 458, false, i⟩
abbrev x5 (i : Int) : Ext := ⟨p5, 256, 282, false, i⟩
theorem kn0 : Kn [] [] 0 [] := kn_of (by decide) (by decide) (by decide) (by decide) (by decide) (by decide)
theorem kn1 : Kn [p1] [] 1 [x1 0] := kn_of (by decide) (by decide) (List.Perm.of_eq (by simp [items, itemsFrom, mkE, takenF, wrap64]; try omega)) (by decide) (by decide) (by decide)
theorem kn2 : Kn [p1, p2] [] 2 [x1 0, x2 1] := kn_of (by decide) (by decide) (List.Perm.of_eq (by simp [items, itemsFrom, mkE, takenF, wrap64]; try omega)) (by decide) (by decide) (by decide)
theorem kn3 : Kn [p1, p2, p3] [] 3 [x1 0, x2 1, x3 2] := kn_of (by decide) (by decide) (List.Perm.of_eq (by simp [items, itemsFrom, mkE, takenF, wrap64]; try omega)) (by decide) (by decide) (by decide)
theorem kn4 : Kn [p2, p3] [p1] 3 [x1q 0, x2 0, x3 1] := kn_of (by decide) (by decide) (List.perm_append_comm (l₁ := [x1q 0]) (l₂ := [x2 0, x3 1]) |>.trans (List.Perm.of_eq (by simp [items, itemsFrom, mkE, takenF, wrap64]; try omega))) (by decide) (by decide) (by decide)
theorem kn5 : Kn [p2, p3, p4] [p1] 4 [x1q 0, x2 0, x3 1, x4 2] := kn_of (by decide) (by decide) (List.perm_append_comm (l₁ := [x1q 0]) (l₂ := [x2 0, x3 1, x4 2]) |>.trans (List.Perm.of_eq (by simp [items, itemsFrom, mkE, takenF, wrap64]; try omega))) (by decide) (by decide) (by decide)
theorem kn6 : Kn [p2, p4] [] 4 [x2 0, x4 1] := kn_of (by decide) (by decide) (List.Perm.of_eq (by simp [items, itemsFrom, mkE, takenF, wrap64]; try omega)) (by decide) (by decide) (by decide)
theorem kn7 : Kn [p5, p2, p4] [] 5 [x5 0, x2 1, x4 2] := kn_of (by decide) (by decide) (List.Perm.of_eq (by simp [items, itemsFrom, mkE, takenF, wrap64]; try omega)) (by decide) (by decide) (by decide)
end Go.Proofs.Ytbhbjcgbhklieaa
