/- Contracts of the leaves of package heap. -/
import Derived.Test.YtbhbjcgbhklieaaProg
import Derived.WalkKit
import Derived.Below
import Derived.Deep.QuietTactic
import Derived.BigQuiet
import Derived.StillTailTactics
import Derived.Outline
namespace Go.Proofs.Ytbhbjcgbhklieaa
open Go.RowKit

def cmpI (x y : Int) : Int := if x < y then -1 else if y < x then 1 else 0

theorem ret_int {k : IntKind} {a b : Int} (h : a = b) : Ending.returned (.int k a) = .returned (.int k b) := by rw [h]

set_option maxHeartbeats 400000 in
theorem c89 (x y : Int) (w : World) : Calls Try.prog 89 #[.int .i64 x, .int .i64 y] w fun e w' => e = .returned (.int .i64 (cmpI x y)) ∧ w' = w := by
  go_enter Try.func89, Try.ntmps89
  by_cases h1 : x < y
  · go_wp2
    go_ret
    exact ⟨ret_int (by simp [cmpI, h1]), rfl⟩
  · by_cases h2 : y < x
    · go_wp2
      go_ret
      exact ⟨ret_int (by simp [cmpI, h1, h2]), rfl⟩
    · go_wp2
      go_ret
      exact ⟨ret_int (by rw [cmpI, if_neg (by omega), if_neg (by omega)]), rfl⟩

set_option maxHeartbeats 400000 in
theorem c92 (x y : Int) (w : World) : Calls Try.prog 92 #[.int .u32 x, .int .u32 y] w fun e w' => e = .returned (.int .i64 (cmpI x y)) ∧ w' = w := by
  go_enter Try.func92, Try.ntmps92
  by_cases h1 : x < y
  · go_wp2
    go_ret
    exact ⟨ret_int (by simp [cmpI, h1]), rfl⟩
  · by_cases h2 : y < x
    · go_wp2
      go_ret
      exact ⟨ret_int (by simp [cmpI, h1, h2]), rfl⟩
    · go_wp2
      go_ret
      exact ⟨ret_int (by rw [cmpI, if_neg (by omega), if_neg (by omega)]), rfl⟩

theorem ret_bool {a b : Bool} (h : a = b) : Ending.returned (.bool a) = .returned (.bool b) := by rw [h]

structure Piece where
  pos : Int
  size : Int
  born : Int
deriving DecidableEq, Inhabited

structure Ext where
  p : Piece
  fr : Int
  to : Int
  quar : Bool
  ix : Int
deriving DecidableEq, Inhabited

def encP (p : Piece) : List Value := [.int .u32 p.pos, .int .i64 p.size, .int .i64 p.born]
def encE (x : Ext) : List Value := [.int .u32 x.p.pos, .int .i64 x.p.size, .int .i64 x.p.born, .int .i64 x.fr, .int .i64 x.to, .bool x.quar, .int .i64 x.ix]

/-- opened$1: compares two extents by where they begin. -/
theorem c88 (x y : Ext) (w : World) : Calls Try.prog 88 #[.agg (encE x).toArray, .agg (encE y).toArray] w fun e w' => e = .returned (.int .i64 (cmpI x.fr y.fr)) ∧ w' = (w.alloc (.cells (encE x).toArray 115)).alloc (.cells (encE y).toArray 115) := by
  unfold encE
  go_enter Try.func88, Try.ntmps88
  go_wp2_with (go_at_call 89; refine (c89 _ _ _).mono ?_; rintro e w' ⟨rfl, rfl⟩)
  go_ret
  exact ⟨rfl, rfl⟩

theorem c91 (x y : Piece) (w : World) : Calls Try.prog 91 #[.agg (encP x).toArray, .agg (encP y).toArray] w fun e w' => e = .returned (.int .i64 (cmpI x.pos y.pos)) ∧ w' = (w.alloc (.cells (encP x).toArray 38)).alloc (.cells (encP y).toArray 38) := by
  unfold encP
  go_enter Try.func91, Try.ntmps91
  go_wp2_with (go_at_call 92; refine (c92 _ _ _).mono ?_; rintro e w' ⟨rfl, rfl⟩)
  go_ret
  exact ⟨rfl, rfl⟩

/-- live$1: compares a block's address with the captured one. -/
theorem c94 (x : Piece) (at_ : Int) (A : Nat) (w : World) (hA : A < w.heap.size) (ha : w.cell? ⟨A, 0, none⟩ = some (.int .u32 at_)) :
    Calls Try.prog 94 #[.agg (encP x).toArray, .pointer (some ⟨A, 0, none⟩)] w fun e w' => e = .returned (.int .i64 (cmpI x.pos at_)) ∧ w' = w.alloc (.cells (encP x).toArray 38) := by
  unfold encP
  go_enter Try.func94, Try.ntmps94
  go_wp2_with (go_at_call 92; refine (c92 _ _ _).mono ?_; rintro e w' ⟨rfl, rfl⟩)
  go_ret
  exact ⟨rfl, rfl⟩

def nearI (x : Ext) (at_ : Int) : Int := if x.to ≤ at_ then -1 else if at_ < x.fr then 1 else 0

set_option maxHeartbeats 400000 in
/-- near$1 -/
theorem c98 (x : Ext) (at_ : Int) (A : Nat) (w : World) (hA : A < w.heap.size) (ha : w.cell? ⟨A, 0, none⟩ = some (.int .u32 at_)) (h0 : 0 ≤ at_) (h1 : at_ < 4294967296) :
    Calls Try.prog 98 #[.agg (encE x).toArray, .pointer (some ⟨A, 0, none⟩)] w fun e w' => e = .returned (.int .i64 (nearI x at_)) ∧ w' = w.alloc (.cells (encE x).toArray 115) := by
  unfold encE
  obtain ⟨p, fr, to, qu, ix⟩ := x
  dsimp only
  go_enter Try.func98, Try.ntmps98
  by_cases c1 : to ≤ at_
  · go_wp2
    go_ret
    exact ⟨ret_int (by simp [nearI, c1]), rfl⟩
  · by_cases c2 : at_ < fr
    · go_wp2
      go_ret
      exact ⟨ret_int (by simp [nearI, c1, c2]), rfl⟩
    · go_wp2
      go_ret
      exact ⟨ret_int (by simp only [nearI]; rw [if_neg (by omega), if_neg (by omega)]), rfl⟩

theorem region_tail {P : Program} {id : Nat} {Q : Exit → Act → World → Prop} {a : Act} {w : World} {l : List Oper} (n : Nat) (hm : P.follows .mixedOrders = true) (hB : Region.lexTailB .any l.toArray n = true)
    (h : wpStill P l.toArray w.drew (fun a' => wpList P l.toArray Q (l.drop n) a' w.drew) (l.take n) a) : (Code.region id l.toArray true).wp P Q a w :=
  wp_region_still_tail n hm hB h

def takenF (red : Int) (p : Piece) : Ext := ⟨p, wrap64 (wrap64 p.pos - red), wrap64 (wrap64 (wrap64 p.pos + max p.size 1) + red), false, 0⟩

set_option maxRecDepth 100000 in
set_option maxHeartbeats 400000 in
theorem c101 (p : Piece) (red : Int) (A : Nat) (w : World) (ha : w.cell? ⟨A, 2, none⟩ = some (.int .i64 red)) (hA : A < w.heap.size) :
    Calls Try.prog 101 #[.pointer (some ⟨A, 0, none⟩), .agg (encP p).toArray] w fun e w' => e = .returned (.agg (encE (takenF red p)).toArray) ∧ Below w.heap.size w w' := by
  unfold encP
  go_enter Try.func101, Try.ntmps101
  go_wp2
  refine region_tail 26 (by kernel_rfl) (by kernel_rfl) ?_
  simp only [List.take_succ_cons, List.take_zero, List.drop_succ_cons, List.drop_zero]
  repeat still_step
  refine wpStill_nil ?_
  go_wp2
  · refine bodyPost_ret (v := .agg (encE (takenF red p)).toArray) ?_ rfl ⟨rfl, (((Below.refl _ _).alloc (Nat.le_refl _) _).alloc (by simp) _).drew⟩
    simp [results, Try.results101, go_sem, encE, takenF, Int.max_eq_right (show p.size ≤ 1 by omega)]
  · refine bodyPost_ret (v := .agg (encE (takenF red p)).toArray) ?_ rfl ⟨rfl, (((Below.refl _ _).alloc (Nat.le_refl _) _).alloc (by simp) _).drew⟩
    simp [results, Try.results101, go_sem, encE, takenF, Int.max_eq_left (show 1 ≤ p.size by omega)]

/-- region -/
theorem c86 (pg n : Int) (A : Nat) (w : World) (h0 : w.cell? ⟨A, 0, none⟩ = some (.int .i64 pg)) (h1 : w.cell? ⟨A, 1, none⟩ = some (.int .i64 n)) (p0 : 0 ≤ pg) (p1 : pg ≤ 16777216) (n0 : 0 ≤ n) (n1 : n ≤ 2000) :
    Calls Try.prog 86 #[.pointer (some ⟨A, 0, none⟩)] w fun e w' => e = .returned (.tuple #[.int .i64 (pg * 256), .int .i64 ((pg + n) * 256)]) ∧ ∃ n, w' = w.drewN n := by
  go_enter Try.func86, Try.ntmps86
  go_wp2
  go_quiet (fail)
  go_wp2
  go_ret2
  exact ⟨rfl, _, rfl⟩

/-- first -/
theorem c78 (fr red : Int) (A : Nat) (w : World) (h0 : w.cell? ⟨A, 2, none⟩ = some (.int .i64 red)) (r0 : 0 ≤ red) (r1 : red ≤ 64) (f0 : 0 ≤ fr) (f1 : fr ≤ 4294967296) :
    Calls Try.prog 78 #[.pointer (some ⟨A, 0, none⟩), .int .i64 fr] w fun e w' => e = .returned (.int .i64 ((fr + red + 7) / 8 * 8)) ∧ w' = w := by
  go_enter Try.func78, Try.ntmps78
  go_wp2
  go_ret
  exact ⟨ret_int (by omega), rfl⟩

structure Conf where
  page : Int
  n : Int
  red : Int
  quarantine : Int
deriving DecidableEq, Inhabited

def okConf (c : Conf) : Bool := decide (1 ≤ c.page ∧ c.page < 16777216 ∧ 0 ≤ c.n ∧ c.n ≤ 2000 ∧ c.page + c.n ≤ 16777216 ∧ 0 ≤ c.red ∧ c.red ≤ 64 ∧ 0 ≤ c.quarantine ∧ c.quarantine ≤ 65536)

def encC (c : Conf) : List Value := [.int .i64 c.page, .int .i64 c.n, .int .i64 c.red, .int .i64 c.quarantine]

set_option maxRecDepth 100000 in
set_option maxHeartbeats 1000000 in
theorem c79 (c : Conf) (w : World) :
    Calls Try.prog 79 #[.agg (encC c).toArray] w fun e w' => e = .returned (.bool (okConf c)) ∧ w' = w.alloc (.cells (encC c).toArray 23) := by
  unfold encC
  obtain ⟨pg, n, red, qu⟩ := c
  dsimp only
  go_enter Try.func79, Try.ntmps79
  go_wp2
  all_goals (go_ret; exact ⟨ret_bool (by show (_ : Bool) = _; rw [Bool.eq_iff_iff]; simp only [okConf, decide_eq_true_eq]; (try simp); omega), rfl⟩)
end Go.Proofs.Ytbhbjcgbhklieaa
