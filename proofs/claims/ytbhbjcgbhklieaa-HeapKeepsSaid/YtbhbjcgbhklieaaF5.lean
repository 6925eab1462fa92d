/- A region that only reads, whose callees may lay blocks of their own: one walk. | few, at one heap. | ContainsFunc at pieces: none meets. | slices.Contains at pieces. | HeapResizes' closure, and ContainsFunc with it. | The specification's samePieces. -/
import Derived.Test.YtbhbjcgbhklieaaE4
import Derived.Deep.QuietTactic
import Derived.Shelf.RegionOpenPlain
import Derived.Test.YtbhbjcgbhklieaaC7
import Derived.BigQuiet
namespace Go.Proofs.Ytbhbjcgbhklieaa
open Go.RowKit Go.Shelf

/-- a world that has grown out of W: so many draws, these blocks behind. -/
def far (W : World) (d : Nat) (os : Array Obj) : World := { W with heap := W.heap ++ os, drawn := d }
structure Far where
  d : Nat
  os : Array Obj
  deriving Inhabited

theorem far_of_below {W w' : World} (h : Below W.heap.size W w') : ∃ p : Far, w' = far W p.d p.os := by
  refine ⟨⟨w'.drawn, w'.heap.extract W.heap.size w'.heap.size⟩, ?_⟩
  have hh : w'.heap = W.heap ++ w'.heap.extract W.heap.size w'.heap.size := by
    apply Array.ext_getElem?
    intro k
    have hs := h.size
    rw [Array.getElem?_append]
    by_cases hk : k < W.heap.size
    · rw [if_pos hk]; exact h.block k hk
    · rw [if_neg hk, Array.getElem?_extract]
      split
      · rw [show W.heap.size + (k - W.heap.size) = k by omega]
      · rw [Array.getElem?_eq_none (by omega)]
  have h1 := h.os
  have h2 := h.tape
  have h3 := h.output
  cases w'
  cases W
  simp only [far] at *
  subst h1 h2 h3
  rw [← hh]
theorem below_far (W : World) (d : Nat) (os : Array Obj) : Below W.heap.size W (far W d os) :=
  ⟨rfl, rfl, rfl, by simp [far], fun k hk => by simp [far, Array.getElem?_append, hk]⟩
theorem far_cell {W : World} {b o : Nat} {v : Value} (hb : b < W.heap.size) (h : W.cell? ⟨b, o, none⟩ = some v) (d : Nat) (os : Array Obj) : (far W d os).cell? ⟨b, o, none⟩ = some v := ((below_far W d os).cell (p := ⟨b, o, none⟩) hb).trans h
theorem Calls.far_of {P : Program} {f : Nat} {args : Array Value} {W : World} {d : Nat} {os : Array Obj} {v : Value} (h : Calls P f args (far W d os) fun e w' => e = .returned v ∧ Below (far W d os).heap.size (far W d os) w') :
    Calls P f args (far W d os) fun e w'' => e = .returned v ∧ ∃ p : Far, w'' = far W p.d p.os :=
  h.mono fun _ _ ⟨he, hb⟩ => ⟨he, far_of_below ((below_far W d os).trans (hb.mono (below_far W d os).size))⟩

theorem wp_region_far {P : Program} {id : Nat} {Q : Exit → Act → World → Prop} {a : Act} {W : World} {l : List Oper} (hm : P.follows .mixedOrders = true) (hB : Region.lexB .any l.toArray = true)
    (h : wpQuiet P l.toArray (fun w' => ∃ p : Far, w' = far W p.d p.os) (fun a' => ∀ w', (∃ p : Far, w' = far W p.d p.os) → Q .normal a' w') l a) : (Code.region id l.toArray true).wp P Q a W :=
  wp_region_quiet (C := fun w' => ∃ p : Far, w' = far W p.d p.os) hm hB ⟨⟨W.drawn + 1, #[]⟩, by simp [far]⟩ (by simpa using h)
end Go.Proofs.Ytbhbjcgbhklieaa

namespace Go.Proofs.Ytbhbjcgbhklieaa
open Go.RowKit Go.Shelf

def manyF (n1 n2 : Nat) : Bool := decide (60 < wrap64 ((n1 : Int) + (n2 : Int)))

theorem c59 (c : Conf) (A B : Option Addr) (n1 k1 n2 k2 : Nat) (gi : Int) (w : World) :
    Calls Try.prog 59 #[hAgg c (.slice A n1 k1) (.slice B n2 k2) gi] w fun e w' => e = .returned (.bool (manyF n1 n2)) ∧ Below w.heap.size w w' := by
  go_enter Try.func59, Try.ntmps59
  go_wp2
  go_ret
  exact ⟨rfl, below_alloc1 _ _⟩

set_option maxRecDepth 100000 in
set_option maxHeartbeats 1000000 in
theorem c85 (b : Nat) (c : Conf) (A B : Option Addr) (n1 k1 n2 k2 : Nat) (gi : Int) (w : World) (hb : w.heap[b]? = some (.cells #[.int .i64 c.page, .int .i64 c.n, .int .i64 c.red, .int .i64 c.quarantine, .slice A n1 k1, .slice B n2 k2, .int .i64 gi] 26 (0, 0))) :
    Calls Try.prog 85 #[.slice (some ⟨b, 0, none⟩) 1 1, .func (.func 59) #[] #[]] w fun e w' => e = .returned (.int .i64 (if manyF n1 n2 then 0 else -1)) ∧ Below w.heap.size w w' := by
  have q0 := blk_cell hb 0
  have q1 := blk_cell hb 1
  have q2 := blk_cell hb 2
  have q3 := blk_cell hb 3
  have q4 := blk_cell hb 4
  have q5 := blk_cell hb 5
  have q6 := blk_cell hb 6
  simp only [List.getElem?_toArray, List.getElem?_cons_succ, List.getElem?_cons_zero] at q0 q1 q2 q3 q4 q5 q6
  have h59 := c59 c A B n1 k1 n2 k2 gi w
  obtain ⟨m, hm⟩ : ∃ m, manyF n1 n2 = m := ⟨_, rfl⟩
  rw [hm] at h59 ⊢
  clear hm hb
  cases m with
  | true =>
    go_enter Try.func85, Try.ntmps85
    go_wp2
    refine wp_loop_rounds 1 ?_
    rw [rounds_succ]
    go_wp2_with fail
    refine Calls.mono h59 ?_
    rintro e w' ⟨rfl, hB⟩
    go_wp2
    go_ret
    exact ⟨rfl, hB⟩
  | false =>
    go_enter Try.func85, Try.ntmps85
    go_wp2
    refine wp_loop_rounds 2 ?_
    rw [rounds_succ]
    go_wp2_with fail
    refine Calls.mono h59 ?_
    rintro e w' ⟨rfl, hB⟩
    go_wp2
    rw [rounds_succ]
    go_wp2
    go_ret
    exact ⟨rfl, hB⟩

theorem c58 (b : Nat) (c : Conf) (A B : Option Addr) (n1 k1 n2 k2 : Nat) (gi : Int) (w : World) (hb : w.heap[b]? = some (.cells #[.int .i64 c.page, .int .i64 c.n, .int .i64 c.red, .int .i64 c.quarantine, .slice A n1 k1, .slice B n2 k2, .int .i64 gi] 26 (0, 0))) :
    Calls Try.prog 58 #[.slice (some ⟨b, 0, none⟩) 1 1, .func (.func 59) #[] #[]] w fun e w' => e = .returned (.bool (manyF n1 n2)) ∧ Below w.heap.size w w' := by
  have h := c85 b c A B n1 k1 n2 k2 gi w hb
  obtain ⟨m, hm⟩ : ∃ m, manyF n1 n2 = m := ⟨_, rfl⟩
  rw [hm] at h ⊢
  clear hm hb
  cases m
  all_goals
    go_enter Try.func58, Try.ntmps58
    go_wp2_with fail
    refine Calls.mono h ?_
    rintro e w' ⟨rfl, hB⟩
    go_wp2
    go_ret
    exact ⟨rfl, hB⟩
theorem c17 (b : Nat) (c : Conf) (A B : Option Addr) (n1 k1 n2 k2 : Nat) (gi : Int) (w : World) (hb : w.heap[b]? = some (.cells #[.int .i64 c.page, .int .i64 c.n, .int .i64 c.red, .int .i64 c.quarantine, .slice A n1 k1, .slice B n2 k2, .int .i64 gi] 26 (0, 0))) :
    Calls Try.prog 17 #[.slice (some ⟨b, 0, none⟩) 1 1] w fun e w' => e = .returned (.bool (!manyF n1 n2)) ∧ Below w.heap.size w w' := by
  have h := c58 b c A B n1 k1 n2 k2 gi w hb
  clear hb
  go_enter Try.func17, Try.ntmps17
  go_wp2_with fail
  refine Calls.mono h ?_
  rintro e w' ⟨rfl, hB⟩
  go_wp2
  go_ret
  exact ⟨rfl, hB⟩
end Go.Proofs.Ytbhbjcgbhklieaa

namespace Go.Proofs.Ytbhbjcgbhklieaa
open Go.RowKit Go.Shelf

set_option maxRecDepth 100000 in
set_option maxHeartbeats 1000000 in
/-- HeapQuarantine's closure, at a piece that the placed block does not meet. -/
theorem c25 (pa ph ps : Nat) (at_ red size : Int) (p : Piece) (w : World) (ha : w.cell? ⟨pa, 0, none⟩ = some (.int .u32 at_)) (hr : w.cell? ⟨ph, 2, none⟩ = some (.int .i64 red)) (hz : w.cell? ⟨ps, 0, none⟩ = some (.int .i64 size))
    (la : pa < w.heap.size) (lh : ph < w.heap.size) (ls : ps < w.heap.size) (a0 : 0 ≤ at_) (a1 : at_ < 4294967296) (r0 : 0 ≤ red) (r1 : red ≤ 64) (z0 : 0 ≤ size) (z1 : size ≤ 65536) (hp : WfP p) (p0 : 0 ≤ p.size) (p1 : p.size ≤ 65536)
    (hno : p.pos + max p.size 1 + red ≤ at_ - red ∨ at_ + max size 1 + red ≤ p.pos - red) :
    Calls Try.prog 25 #[.agg #[.int .u32 p.pos, .int .i64 p.size, .int .i64 p.born], .pointer (some ⟨pa, 0, none⟩), .pointer (some ⟨ph, 0, none⟩), .pointer (some ⟨ps, 0, none⟩)] w fun e w' => e = .returned (.bool false) ∧ Below w.heap.size w w' := by
  obtain ⟨q0, q1⟩ := hp
  have m1 : 1 ≤ max p.size 1 ∧ max p.size 1 ≤ 65536 := by omega
  have m2 : 1 ≤ max size 1 ∧ max size 1 ≤ 65536 := by omega
  by_cases h1 : p.pos + max p.size 1 + red ≤ at_ - red
  · have h1' : decide (at_ - red < p.pos + max p.size 1 + red) = false := decide_eq_false (by omega)
    clear hno
    go_enter Try.func25, Try.ntmps25
    go_wp2
    all_goals go_ret
    all_goals exact ⟨rfl, below_alloc1 _ _⟩
  · have h1' : decide (at_ - red < p.pos + max p.size 1 + red) = true := decide_eq_true (by omega)
    have h2' : decide (p.pos - red < at_ + max size 1 + red) = false := decide_eq_false (by omega)
    clear hno
    go_enter Try.func25, Try.ntmps25
    go_wp2
    all_goals go_ret
    all_goals exact ⟨rfl, below_alloc1 _ _⟩

set_option maxRecDepth 100000 in
set_option maxHeartbeats 1000000 in
theorem c74 (v : Value) (zs : List Piece) (cb : Array Value) (w : World) (hs : Sl 3 encP w v zs) (hn : zs.length ≤ 100000)
    (hf : ∀ j, j < zs.length → ∀ W, Below w.heap.size w W → Calls Try.prog 25 (#[.agg #[.int .u32 zs[j]!.pos, .int .i64 zs[j]!.size, .int .i64 zs[j]!.born]] ++ cb) W fun e w' => e = .returned (.bool false) ∧ Below W.heap.size W w') :
    Calls Try.prog 74 #[v, .func (.func 25) #[] cb] w fun e w' => e = .returned (.int .i64 (-1)) ∧ Below w.heap.size w w' := by
  obtain ⟨A, ca, rfl, _, hl⟩ := hs
  obtain ⟨n, hnn⟩ : ∃ n, zs.length = n := ⟨_, rfl⟩
  rw [hnn] at hf hn ⊢
  have HF := Lib.hid hf
  have HL := Lib.hid hl
  have HN := Lib.hid hnn
  have eg : ∀ args w, (callFunc 25 args).run Try.prog w = .ok (.enter 25 args) w := enters_of Try.func25 (by kernel_rfl) rfl
  clear hf hl hnn
  go_enter Try.func74, Try.ntmps74
  go_wp2
  go_loopg [8] n (fun kx s8 wr => ∃ k : Nat, k ≤ n ∧ s8 = .int .i64 k ∧ n - k ≤ kx ∧ Hid (Below w.heap.size w wr))
  case atStart => exact ⟨0, Nat.zero_le _, rfl, by omega, Below.refl _ _⟩
  case round =>
    obtain ⟨k, hk, rfl, hkx, HB⟩ := hrel
    by_cases hlt : k < n
    · have hkl : k < zs.length := by rw [HN.out]; exact hlt
      obtain ⟨b, off, rfl, hL⟩ := HL.out.resolve_left (by rintro rfl; simp at hkl)
      obtain ⟨m0, m1, m2⟩ := (hL.below HB.out).at3 k hkl
      have hcall := HF.out k hlt wr HB.out
      generalize zs[k]! = x at m0 m1 m2 hcall
      have HC := Lib.hid hcall
      clear hcall hL hkl
      go_wp2_with fail
      go_at_fn 25
      refine Calls.mono HC.out ?_
      rintro e w' ⟨rfl, hB2⟩
      have HB2 := Lib.hid hB2
      clear hB2 HC
      go_wp2
      go_roundg (n - (k + 1))
      case measure => omega
      case rel => exact ⟨k + 1, by omega, by go_num, Nat.le_refl _, HB.out.trans (HB2.out.mono HB.out.size)⟩
    · obtain rfl : k = n := by omega
      go_wp2
      go_ret
      exact ⟨rfl, HB.out⟩

theorem c24 (v : Value) (zs : List Piece) (cb : Array Value) (w : World) (hs : Sl 3 encP w v zs) (hn : zs.length ≤ 100000)
    (hf : ∀ j, j < zs.length → ∀ W, Below w.heap.size w W → Calls Try.prog 25 (#[.agg #[.int .u32 zs[j]!.pos, .int .i64 zs[j]!.size, .int .i64 zs[j]!.born]] ++ cb) W fun e w' => e = .returned (.bool false) ∧ Below W.heap.size W w') :
    Calls Try.prog 24 #[v, .func (.func 25) #[] cb] w fun e w' => e = .returned (.bool false) ∧ Below w.heap.size w w' := by
  have h := c74 v zs cb w hs hn hf
  clear hf hs
  go_enter Try.func24, Try.ntmps24
  go_wp2_with fail
  refine Calls.mono h ?_
  rintro e w' ⟨rfl, hB⟩
  go_wp2
  go_ret
  exact ⟨rfl, hB⟩
end Go.Proofs.Ytbhbjcgbhklieaa

namespace Go.Proofs.Ytbhbjcgbhklieaa
open Go.RowKit Go.Shelf

theorem eqlP : EqlAt Try.prog 38 (fun x : Piece => .agg (encP x).toArray) eqP := by
  refine ⟨fun x y w => ?_, fun op a b x y w => ?_⟩
  · simp only [encP]
    go_simp
    unfold eqP
    by_cases h1 : x.pos = y.pos <;> by_cases h2 : x.size = y.size <;> by_cases h3 : x.born = y.born <;> simp [h1, h2, h3]
  · simp only [encP]
    unfold eqGuard
    split <;> go_simp

theorem eqP_iff (x y : Piece) : eqP x y = true ↔ x = y := by
  cases x; cases y; simp [eqP]
set_option maxRecDepth 100000 in
theorem c82_nil (A : Option Addr) (c : Nat) (p : Piece) (w : World) :
    Calls Try.prog 82 #[.slice A 0 c, .agg (encP p).toArray] w fun e w' => e = .returned (.int .i64 (-1)) ∧ Below w.heap.size w w' := by
  unfold encP
  go_enter Try.func82, Try.ntmps82
  go_wp2
  refine wp_loop_rounds 1 ?_
  rw [rounds_succ]
  go_wp2
  go_ret
  exact ⟨rfl, below_alloc1 _ _⟩
theorem c43_nil (A : Option Addr) (c : Nat) (p : Piece) (w : World) :
    Calls Try.prog 43 #[.slice A 0 c, .agg (encP p).toArray] w fun e w' => e = .returned (.bool false) ∧ Below w.heap.size w w' := by
  have h := fun W => c82_nil A c p W
  unfold encP at h ⊢
  go_enter Try.func43, Try.ntmps43
  go_wp2_with fail
  refine Calls.mono (h _) ?_
  rintro e w' ⟨rfl, hB⟩
  go_wp2
  go_ret
  first | exact ⟨rfl, hB⟩ | exact ⟨rfl, (below_alloc1 _ _).trans (hB.mono (by simp))⟩
theorem c43 (v : Value) (zs : List Piece) (p : Piece) (w : World) (hs : Sl 3 encP w v zs) (hn : zs.length ≤ 9223372036854775807) :
    Calls Try.prog 43 #[v, .agg (encP p).toArray] w fun e w' => e = .returned (.bool (decide (p ∈ zs))) ∧ Below w.heap.size w w' := by
  obtain ⟨A, c, rfl, _, rfl | ⟨b, off, rfl, hl⟩⟩ := hs
  · refine (c43_nil A c p w).mono ?_
    rintro e w' ⟨rfl, hB⟩
    exact ⟨by simp, hB⟩
  · have h := AnyQ.slices_Contains Try.containsP 3 Try.isAgg38 Try.sizeOf38 encP encP_len eqP eqlP b off zs.length c zs p w (Nat.le_refl _) (by omega) hl.2
    change Calls Try.prog 43 _ _ _ at h
    refine h.mono ?_
    rintro e w' ⟨rfl, hB⟩
    refine ⟨?_, hB⟩
    congr 2
    rw [List.take_length, Bool.eq_iff_iff, List.any_eq_true, decide_eq_true_iff]
    constructor
    · rintro ⟨y, hy, he⟩; rw [(eqP_iff _ _).1 he]; exact hy
    · intro hp; exact ⟨p, hp, (eqP_iff _ _).2 rfl⟩
end Go.Proofs.Ytbhbjcgbhklieaa

namespace Go.Proofs.Ytbhbjcgbhklieaa
open Go.RowKit Go.Shelf

set_option maxRecDepth 100000 in
set_option maxHeartbeats 1000000 in
theorem c53 (pa pg : Nat) (old p : Piece) (lv : Value) (zs : List Piece) (w : World) (ha : w.heap[pa]? = some (.cells #[.int .u32 old.pos, .int .i64 old.size, .int .i64 old.born] 38 (0, 0))) (hg : w.cell? ⟨pg, 4, none⟩ = some lv) (lg : pg < w.heap.size) (hs : Sl 3 encP w lv zs) (hn : zs.length ≤ 100000) :
    Calls Try.prog 53 #[.agg #[.int .u32 p.pos, .int .i64 p.size, .int .i64 p.born], .pointer (some ⟨pa, 0, none⟩), .pointer (some ⟨pg, 0, none⟩)] w fun e w' => e = .returned (.bool (decide (p ≠ old) && decide (p ∉ zs))) ∧ Below w.heap.size w w' := by
  have a0 := blk_cell ha 0
  have a1 := blk_cell ha 1
  have a2 := blk_cell ha 2
  simp only [List.getElem?_toArray, List.getElem?_cons_succ, List.getElem?_cons_zero] at a0 a1 a2
  have la := blk_lt ha
  have hB : Below w.heap.size w (w.alloc (.cells #[.int .u32 p.pos, .int .i64 p.size, .int .i64 p.born] 38)) := below_alloc1 w _
  have h43 := c43 lv zs p _ (hs.below hB) (by omega)
  have H43 := Lib.hid h43
  have HB := Lib.hid hB
  obtain ⟨A, ca, rfl, _, _⟩ := hs
  clear ha h43 hB
  by_cases hp : p = old
  · subst hp
    have hr : (decide (p ≠ p) && decide (p ∉ zs)) = false := by simp
    rw [hr]
    clear hr
    go_enter Try.func53, Try.ntmps53
    go_wp2
    go_ret
    exact ⟨rfl, HB.out⟩
  · have hr : (decide (p ≠ old) && decide (p ∉ zs)) = !decide (p ∈ zs) := by simp [hp]
    rw [hr]
    have h3 : ¬ p.pos = old.pos ∨ ¬ p.size = old.size ∨ ¬ p.born = old.born := by
      obtain ⟨x, y, z⟩ := p
      obtain ⟨x', y', z'⟩ := old
      simp only [Piece.mk.injEq] at hp
      by_cases b1 : x = x' <;> by_cases b2 : y = y' <;> by_cases b3 : z = z' <;> simp_all
    obtain ⟨E, hE⟩ : ∃ E, decide (p ∈ zs) = E := ⟨_, rfl⟩
    rw [hE]
    have H2 : Hid (Calls Try.prog 43 #[.slice A zs.length ca, .agg (encP p).toArray] (w.alloc (.cells #[.int .u32 p.pos, .int .i64 p.size, .int .i64 p.born] 38)) fun e w' => e = .returned (.bool E) ∧ Below (w.alloc (.cells #[.int .u32 p.pos, .int .i64 p.size, .int .i64 p.born] 38)).heap.size (w.alloc (.cells #[.int .u32 p.pos, .int .i64 p.size, .int .i64 p.born] 38)) w') := hE ▸ H43
    clear hr hp hE H43
    rcases h3 with h | h | h
    all_goals
      go_enter Try.func53, Try.ntmps53
      go_wp2_with fail
      refine Calls.mono H2.out ?_
      rintro e w1 ⟨rfl, hB1⟩
      go_wp2
      go_ret
      exact ⟨rfl, HB.out.trans (hB1.mono (by simp))⟩

theorem c24_any (g : Nat) (lb : Array Value) (eg : ∀ args w, (callFunc g args).run Try.prog w = .ok (.enter g args) w) (v : Value) (zs : List Piece) (p : Piece → Bool) (w : World) (hs : Sl 3 encP w v zs) (hn : zs.length ≤ 100000)
    (hp : PredBelow Try.prog g lb (fun x => .agg (encP x).toArray) p w) (h0 : zs ≠ []) :
    Calls Try.prog 24 #[v, .func (.func g) #[] lb] w fun e w' => e = .returned (.bool (zs.any p)) ∧ Below w.heap.size w w' := by
  obtain ⟨A, c, rfl, _, rfl | ⟨b, off, rfl, hl⟩⟩ := hs
  · exact absurd rfl h0
  · have h := AnyQ.slices_ContainsFunc Try.containsFP 3 Try.isAgg38 Try.sizeOf38 encP encP_len p g lb eg b off zs.length c zs w hp (Nat.le_refl _) (by omega) hl.1 hl.2
    change Calls Try.prog 24 _ _ _ at h
    rw [List.take_length] at h
    exact h
theorem eg53 : ∀ args w, (callFunc 53 args).run Try.prog w = .ok (.enter 53 args) w := enters_of Try.func53 (by kernel_rfl) rfl
end Go.Proofs.Ytbhbjcgbhklieaa

namespace Go.Proofs.Ytbhbjcgbhklieaa
open Go.RowKit Go.Shelf

theorem allEq_step (xs ys : List Piece) (k : Nat) (hx : k < xs.length) (hy : k < ys.length) : Lib.allEq eqP (xs.drop k) (ys.drop k) = (eqP xs[k]! ys[k]! && Lib.allEq eqP (xs.drop (k + 1)) (ys.drop (k + 1))) := by
  rw [List.drop_eq_getElem_cons hx, List.drop_eq_getElem_cons hy, getElem!_pos xs k hx, getElem!_pos ys k hy]
  rfl

set_option maxRecDepth 100000 in
set_option maxHeartbeats 1000000 in
theorem c80 (v1 v2 : Value) (xs ys : List Piece) (w : World) (h1 : Sl 3 encP w v1 xs) (h2 : Sl 3 encP w v2 ys) (n1 : xs.length ≤ 9223372036854775807) (_ : ys.length ≤ 9223372036854775807) :
    Calls Try.prog 80 #[v1, v2] w fun e w' => e = .returned (.bool (Lib.allEq eqP xs ys)) ∧ Below w.heap.size w w' := by
  obtain ⟨A, ca, rfl, _, hl1⟩ := h1
  obtain ⟨B, cb, rfl, _, hl2⟩ := h2
  by_cases hlen : xs.length = ys.length
  rotate_left
  · have hf := allEq_len xs ys hlen
    have hne : ((xs.length : Int) != (ys.length : Int)) = true := by simpa using (show ¬ (xs.length : Int) = ys.length by omega)
    have hne2 : (xs.length : Int) ≠ (ys.length : Int) := by omega
    rw [hf]
    clear hf hl1 hl2
    go_enter Try.func80, Try.ntmps80
    go_wp2
    go_ret
    exact ⟨rfl, Below.refl _ _⟩
  obtain ⟨n, hn⟩ : ∃ n, xs.length = n := ⟨_, rfl⟩
  have hm : ys.length = n := by rw [← hlen]; exact hn
  rw [hn, hm]
  rw [hn] at n1
  have HL1 := Lib.hid hl1
  have HL2 := Lib.hid hl2
  have HN := Lib.hid hn
  have HM := Lib.hid hm
  clear hl1 hl2 hn hm hlen
  go_enter Try.func80, Try.ntmps80
  go_wp2
  go_loopg [5] n (fun kx s5 wr => ∃ k : Nat, k ≤ n ∧ s5 = .int .i64 k ∧ n - k ≤ kx ∧ Hid (Lib.allEq eqP xs ys = Lib.allEq eqP (xs.drop k) (ys.drop k)) ∧ Hid (Below w.heap.size w wr))
  case atStart => exact ⟨0, Nat.zero_le _, rfl, by omega, (rfl : Lib.allEq eqP xs ys = Lib.allEq eqP (xs.drop 0) (ys.drop 0)), Below.refl _ _⟩
  case round =>
    obtain ⟨k, hk, rfl, hkx, HE, HB⟩ := hrel
    by_cases hlt : k < n
    · have hkx1 : k < xs.length := by rw [HN.out]; exact hlt
      have hky1 : k < ys.length := by rw [HM.out]; exact hlt
      obtain ⟨b1, o1, rfl, hL1⟩ := HL1.out.resolve_left (by rintro rfl; simp at hkx1)
      obtain ⟨b2, o2, rfl, hL2⟩ := HL2.out.resolve_left (by rintro rfl; simp at hky1)
      obtain ⟨m0, m1, m2⟩ := (hL1.below HB.out).at3 k hkx1
      obtain ⟨p0, p1, p2⟩ := (hL2.below HB.out).at3 k hky1
      have hst := allEq_step xs ys k hkx1 hky1
      generalize xs[k]! = x at m0 m1 m2 hst
      generalize ys[k]! = y at p0 p1 p2 hst
      have HST := Lib.hid hst
      clear hst hL1 hL2 hkx1 hky1
      by_cases he : x = y
      · subst he
        go_wp2
        go_quiet (fail)
        go_wp2
        go_roundg (n - (k + 1))
        case measure => omega
        case rel => exact ⟨k + 1, by omega, by go_num, Nat.le_refl _, (by rw [HE.out, HST.out]; simp [eqP] : Lib.allEq eqP xs ys = Lib.allEq eqP (xs.drop (k + 1)) (ys.drop (k + 1))), HB.out.trans ⟨rfl, rfl, rfl, Nat.le_refl _, fun _ _ => rfl⟩⟩
      · have hf : Lib.allEq eqP xs ys = false := by
          have h0 : eqP x y = false := by
            cases hq : eqP x y with
            | false => rfl
            | true => exact absurd ((eqP_iff _ _).1 hq) he
          rw [HE.out, HST.out, h0]
          rfl
        have HF := Lib.hid hf
        have h3 : ¬ x.pos = y.pos ∨ ¬ x.size = y.size ∨ ¬ x.born = y.born := by
          obtain ⟨a, b, d⟩ := x
          obtain ⟨a', b', d'⟩ := y
          simp only [Piece.mk.injEq] at he
          by_cases b1 : a = a' <;> by_cases b2 : b = b' <;> by_cases b3 : d = d' <;> simp_all
        clear he hf
        rcases h3 with h | h | h
        all_goals
          go_wp2
          go_quiet (fail)
          go_wp2
          go_ret
          exact ⟨by rw [HF.out]; rfl, HB.out.trans ⟨rfl, rfl, rfl, Nat.le_refl _, fun _ _ => rfl⟩⟩
    · obtain rfl : k = n := by omega
      go_wp2
      go_ret
      exact ⟨by rw [HE.out, ← HN.out, List.drop_length, HN.out, ← HM.out, List.drop_length]; rfl, HB.out⟩
end Go.Proofs.Ytbhbjcgbhklieaa
