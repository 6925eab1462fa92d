/- Contracts of the leaves of package heap. | slices.BinarySearchFunc at extents and at pieces. | slices.BinarySearchFunc at pieces; at no element. | place, live, near. | live, near: look-ups in a heap that was opened. -/
import Derived.Test.YtbhbjcgbhklieaaProg
import Derived.WalkKit
import Derived.Below
import Derived.Deep.QuietTactic
import Derived.BigQuiet
import Derived.StillTailTactics
import Derived.Outline
import Derived.Deep.LoopGhost
import Derived.Shelf.Abstract
import Derived.Lib.Hide
namespace Go.Proofs.Ytbhbjcgbhklieaa
open Go.RowKit

def cmpI (x y : Int) : Int := if x < y then -1 else if y < x then 1 else 0

theorem ret_int {k : IntKind} {a b : Int} (h : a = b) : Ending.returned (.int k a) = .returned (.int k b) := by rw [h]

set_option maxHeartbeats 400000 in
theorem c89 (x y : Int) (w : World) : Calls Try.prog 89 #[.int .i64 x, .int .i64 y] w fun e w' => e = .returned (.int .i64 (cmpI x y)) ∧ w' = w := by
  go_enter Try.func89, Try.ntmps89
  by_cases h1 : x < y
  · go_wp2
    go_ret
    exact ⟨ret_int (by simp [cmpI, h1]), rfl⟩
  · by_cases h2 : y < x
    · go_wp2
      go_ret
      exact ⟨ret_int (by simp [cmpI, h1, h2]), rfl⟩
    · go_wp2
      go_ret
      exact ⟨ret_int (by rw [cmpI, if_neg (by omega), if_neg (by omega)]), rfl⟩

set_option maxHeartbeats 400000 in
theorem c92 (x y : Int) (w : World) : Calls Try.prog 92 #[.int .u32 x, .int .u32 y] w fun e w' => e = .returned (.int .i64 (cmpI x y)) ∧ w' = w := by
  go_enter Try.func92, Try.ntmps92
  by_cases h1 : x < y
  · go_wp2
    go_ret
    exact ⟨ret_int (by simp [cmpI, h1]), rfl⟩
  · by_cases h2 : y < x
    · go_wp2
      go_ret
      exact ⟨ret_int (by simp [cmpI, h1, h2]), rfl⟩
    · go_wp2
      go_ret
      exact ⟨ret_int (by rw [cmpI, if_neg (by omega), if_neg (by omega)]), rfl⟩

theorem ret_bool {a b : Bool} (h : a = b) : Ending.returned (.bool a) = .returned (.bool b) := by rw [h]

structure Piece where
  pos : Int
  size : Int
  born : Int
deriving DecidableEq, Inhabited

structure Ext where
  p : Piece
  fr : Int
  to : Int
  quar : Bool
  ix : Int
deriving DecidableEq, Inhabited

def encP (p : Piece) : List Value := [.int .u32 p.pos, .int .i64 p.size, .int .i64 p.born]
def encE (x : Ext) : List Value := [.int .u32 x.p.pos, .int .i64 x.p.size, .int .i64 x.p.born, .int .i64 x.fr, .int .i64 x.to, .bool x.quar, .int .i64 x.ix]

/-- opened$1: compares two extents by where they begin. -/
theorem c88 (x y : Ext) (w : World) : Calls Try.prog 88 #[.agg (encE x).toArray, .agg (encE y).toArray] w fun e w' => e = .returned (.int .i64 (cmpI x.fr y.fr)) ∧ w' = (w.alloc (.cells (encE x).toArray 115)).alloc (.cells (encE y).toArray 115) := by
  unfold encE
  go_enter Try.func88, Try.ntmps88
  go_wp2_with (go_at_call 89; refine (c89 _ _ _).mono ?_; rintro e w' ⟨rfl, rfl⟩)
  go_ret
  exact ⟨rfl, rfl⟩

theorem c91 (x y : Piece) (w : World) : Calls Try.prog 91 #[.agg (encP x).toArray, .agg (encP y).toArray] w fun e w' => e = .returned (.int .i64 (cmpI x.pos y.pos)) ∧ w' = (w.alloc (.cells (encP x).toArray 38)).alloc (.cells (encP y).toArray 38) := by
  unfold encP
  go_enter Try.func91, Try.ntmps91
  go_wp2_with (go_at_call 92; refine (c92 _ _ _).mono ?_; rintro e w' ⟨rfl, rfl⟩)
  go_ret
  exact ⟨rfl, rfl⟩

/-- live$1: compares a block's address with the captured one. -/
theorem c94 (x : Piece) (at_ : Int) (A : Nat) (w : World) (hA : A < w.heap.size) (ha : w.cell? ⟨A, 0, none⟩ = some (.int .u32 at_)) :
    Calls Try.prog 94 #[.agg (encP x).toArray, .pointer (some ⟨A, 0, none⟩)] w fun e w' => e = .returned (.int .i64 (cmpI x.pos at_)) ∧ w' = w.alloc (.cells (encP x).toArray 38) := by
  unfold encP
  go_enter Try.func94, Try.ntmps94
  go_wp2_with (go_at_call 92; refine (c92 _ _ _).mono ?_; rintro e w' ⟨rfl, rfl⟩)
  go_ret
  exact ⟨rfl, rfl⟩

def nearI (x : Ext) (at_ : Int) : Int := if x.to ≤ at_ then -1 else if at_ < x.fr then 1 else 0

set_option maxHeartbeats 400000 in
/-- near$1 -/
theorem c98 (x : Ext) (at_ : Int) (A : Nat) (w : World) (hA : A < w.heap.size) (ha : w.cell? ⟨A, 0, none⟩ = some (.int .u32 at_)) (h0 : 0 ≤ at_) (h1 : at_ < 4294967296) :
    Calls Try.prog 98 #[.agg (encE x).toArray, .pointer (some ⟨A, 0, none⟩)] w fun e w' => e = .returned (.int .i64 (nearI x at_)) ∧ w' = w.alloc (.cells (encE x).toArray 115) := by
  unfold encE
  obtain ⟨p, fr, to, qu, ix⟩ := x
  dsimp only
  go_enter Try.func98, Try.ntmps98
  by_cases c1 : to ≤ at_
  · go_wp2
    go_ret
    exact ⟨ret_int (by simp [nearI, c1]), rfl⟩
  · by_cases c2 : at_ < fr
    · go_wp2
      go_ret
      exact ⟨ret_int (by simp [nearI, c1, c2]), rfl⟩
    · go_wp2
      go_ret
      exact ⟨ret_int (by simp only [nearI]; rw [if_neg (by omega), if_neg (by omega)]), rfl⟩

theorem region_tail {P : Program} {id : Nat} {Q : Exit → Act → World → Prop} {a : Act} {w : World} {l : List Oper} (n : Nat) (hm : P.follows .mixedOrders = true) (hB : Region.lexTailB .any l.toArray n = true)
    (h : wpStill P l.toArray w.drew (fun a' => wpList P l.toArray Q (l.drop n) a' w.drew) (l.take n) a) : (Code.region id l.toArray true).wp P Q a w :=
  wp_region_still_tail n hm hB h

def takenF (red : Int) (p : Piece) : Ext := ⟨p, wrap64 (wrap64 p.pos - red), wrap64 (wrap64 (wrap64 p.pos + max p.size 1) + red), false, 0⟩

set_option maxRecDepth 100000 in
set_option maxHeartbeats 400000 in
theorem c101 (p : Piece) (red : Int) (A : Nat) (w : World) (ha : w.cell? ⟨A, 2, none⟩ = some (.int .i64 red)) (hA : A < w.heap.size) :
    Calls Try.prog 101 #[.pointer (some ⟨A, 0, none⟩), .agg (encP p).toArray] w fun e w' => e = .returned (.agg (encE (takenF red p)).toArray) ∧ Below w.heap.size w w' := by
  unfold encP
  go_enter Try.func101, Try.ntmps101
  go_wp2
  refine region_tail 26 (by kernel_rfl) (by kernel_rfl) ?_
  simp only [List.take_succ_cons, List.take_zero, List.drop_succ_cons, List.drop_zero]
  repeat still_step
  refine wpStill_nil ?_
  go_wp2
  · refine bodyPost_ret (v := .agg (encE (takenF red p)).toArray) ?_ rfl ⟨rfl, (((Below.refl _ _).alloc (Nat.le_refl _) _).alloc (by simp) _).drew⟩
    simp [results, Try.results101, go_sem, encE, takenF, Int.max_eq_right (show p.size ≤ 1 by omega)]
  · refine bodyPost_ret (v := .agg (encE (takenF red p)).toArray) ?_ rfl ⟨rfl, (((Below.refl _ _).alloc (Nat.le_refl _) _).alloc (by simp) _).drew⟩
    simp [results, Try.results101, go_sem, encE, takenF, Int.max_eq_left (show 1 ≤ p.size by omega)]

/-- region -/
theorem c86 (pg n : Int) (A : Nat) (w : World) (h0 : w.cell? ⟨A, 0, none⟩ = some (.int .i64 pg)) (h1 : w.cell? ⟨A, 1, none⟩ = some (.int .i64 n)) (p0 : 0 ≤ pg) (p1 : pg ≤ 16777216) (n0 : 0 ≤ n) (n1 : n ≤ 2000) :
    Calls Try.prog 86 #[.pointer (some ⟨A, 0, none⟩)] w fun e w' => e = .returned (.tuple #[.int .i64 (pg * 256), .int .i64 ((pg + n) * 256)]) ∧ ∃ n, w' = w.drewN n := by
  go_enter Try.func86, Try.ntmps86
  go_wp2
  go_quiet (fail)
  go_wp2
  go_ret2
  exact ⟨rfl, _, rfl⟩

/-- first -/
theorem c78 (fr red : Int) (A : Nat) (w : World) (h0 : w.cell? ⟨A, 2, none⟩ = some (.int .i64 red)) (r0 : 0 ≤ red) (r1 : red ≤ 64) (f0 : 0 ≤ fr) (f1 : fr ≤ 4294967296) :
    Calls Try.prog 78 #[.pointer (some ⟨A, 0, none⟩), .int .i64 fr] w fun e w' => e = .returned (.int .i64 ((fr + red + 7) / 8 * 8)) ∧ w' = w := by
  go_enter Try.func78, Try.ntmps78
  go_wp2
  go_ret
  exact ⟨ret_int (by omega), rfl⟩

structure Conf where
  page : Int
  n : Int
  red : Int
  quarantine : Int
deriving DecidableEq, Inhabited

def okConf (c : Conf) : Bool := decide (1 ≤ c.page ∧ c.page < 16777216 ∧ 0 ≤ c.n ∧ c.n ≤ 2000 ∧ c.page + c.n ≤ 16777216 ∧ 0 ≤ c.red ∧ c.red ≤ 64 ∧ 0 ≤ c.quarantine ∧ c.quarantine ≤ 65536)

def encC (c : Conf) : List Value := [.int .i64 c.page, .int .i64 c.n, .int .i64 c.red, .int .i64 c.quarantine]

set_option maxRecDepth 100000 in
set_option maxHeartbeats 1000000 in
theorem c79 (c : Conf) (w : World) :
    Calls Try.prog 79 #[.agg (encC c).toArray] w fun e w' => e = .returned (.bool (okConf c)) ∧ w' = w.alloc (.cells (encC c).toArray 23) := by
  unfold encC
  obtain ⟨pg, n, red, qu⟩ := c
  dsimp only
  go_enter Try.func79, Try.ntmps79
  go_wp2
  all_goals (go_ret; exact ⟨ret_bool (by show (_ : Bool) = _; rw [Bool.eq_iff_iff]; simp only [okConf, decide_eq_true_eq]; (try simp); omega), rfl⟩)
end Go.Proofs.Ytbhbjcgbhklieaa

namespace Go.Proofs.Ytbhbjcgbhklieaa
open Go.RowKit

/-- zs lies in block b from off on, k cells an element -/
def Lies {α : Type} [Inhabited α] (k : Nat) (enc : α → List Value) (w : World) (b off : Nat) (zs : List α) : Prop :=
  b < w.heap.size ∧ ∀ j, j < zs.length → ∀ i v, (enc zs[j]!)[i]? = some v → w.cell? ⟨b, off + j * k + i, none⟩ = some v

theorem Lies.below {α : Type} [Inhabited α] {k : Nat} {enc : α → List Value} {w W : World} {b off : Nat} {zs : List α} (h : Lies k enc w b off zs) (hW : Below w.heap.size w W) : Lies k enc W b off zs :=
  ⟨Nat.lt_of_lt_of_le h.1 hW.size, fun j hj i v hv => by rw [hW.cell (p := ⟨b, off + j * k + i, none⟩) h.1]; exact h.2 j hj i v hv⟩

def CmpB {α : Type} (g : Nat) (cb : Array Value) (enc : α → List Value) (cft : α → Int) (w : World) : Prop :=
  ∀ (W : World) (x : α), Below w.heap.size w W → Calls Try.prog g (#[.agg (enc x).toArray, .int .i64 0] ++ cb) W fun e w' => e = .returned (.int .i64 (cft x)) ∧ Below w.heap.size w w'

theorem countP_boundary {α : Type} [Inhabited α] (p : α → Bool) : ∀ (l : List α) (i : Nat), i ≤ l.length → (∀ t, t < i → p l[t]! = true) → (∀ t, i ≤ t → t < l.length → p l[t]! = false) → l.countP p = i
  | [], i, hi, _, _ => by simp at hi; simp [hi]
  | a :: r, 0, _, _, h2 => by
    rw [List.countP_eq_zero]
    intro x hx
    obtain ⟨t, ht, rfl⟩ := List.getElem_of_mem hx
    have := h2 t (Nat.zero_le _) ht
    rw [getElem!_pos (a :: r) t ht] at this
    simp [this]
  | a :: r, i + 1, hi, h1, h2 => by
    have ha : p a = true := by simpa using h1 0 (Nat.succ_pos _)
    rw [List.countP_cons_of_pos ha, countP_boundary p r i (by simpa using hi) (fun t ht => by simpa using h1 (t + 1) (by omega)) (fun t h3 h4 => by simpa using h2 (t + 1) (by omega) (by simpa using h4))]

def bsAt {α : Type} (cft : α → Int) (zs : List α) : Nat := zs.countP fun x => decide (cft x < 0)
def bsIs {α : Type} [Inhabited α] (cft : α → Int) (zs : List α) : Bool := decide (bsAt cft zs < zs.length ∧ cft zs[bsAt cft zs]! = 0)

theorem Lies.at7 {w : World} {b off : Nat} {zs : List Ext} (h : Lies 7 encE w b off zs) (j : Nat) (hj : j < zs.length) :
    w.cell? ⟨b, off + j * 7, none⟩ = some (.int .u32 zs[j]!.p.pos) ∧ w.cell? ⟨b, off + j * 7 + 1, none⟩ = some (.int .i64 zs[j]!.p.size) ∧ w.cell? ⟨b, off + j * 7 + 2, none⟩ = some (.int .i64 zs[j]!.p.born) ∧
    w.cell? ⟨b, off + j * 7 + 3, none⟩ = some (.int .i64 zs[j]!.fr) ∧ w.cell? ⟨b, off + j * 7 + 4, none⟩ = some (.int .i64 zs[j]!.to) ∧ w.cell? ⟨b, off + j * 7 + 5, none⟩ = some (.bool zs[j]!.quar) ∧ w.cell? ⟨b, off + j * 7 + 6, none⟩ = some (.int .i64 zs[j]!.ix) :=
  ⟨h.2 j hj 0 _ rfl, h.2 j hj 1 _ rfl, h.2 j hj 2 _ rfl, h.2 j hj 3 _ rfl, h.2 j hj 4 _ rfl, h.2 j hj 5 _ rfl, h.2 j hj 6 _ rfl⟩

theorem Lies.at3 {w : World} {b off : Nat} {zs : List Piece} (h : Lies 3 encP w b off zs) (j : Nat) (hj : j < zs.length) :
    w.cell? ⟨b, off + j * 3, none⟩ = some (.int .u32 zs[j]!.pos) ∧ w.cell? ⟨b, off + j * 3 + 1, none⟩ = some (.int .i64 zs[j]!.size) ∧ w.cell? ⟨b, off + j * 3 + 2, none⟩ = some (.int .i64 zs[j]!.born) :=
  ⟨h.2 j hj 0 _ rfl, h.2 j hj 1 _ rfl, h.2 j hj 2 _ rfl⟩

set_option maxRecDepth 100000 in
set_option maxHeartbeats 1000000 in
theorem c109 (cft : Ext → Int) (g : Nat) (cb : Array Value) (eg : ∀ args w, (callFunc g args).run Try.prog w = .ok (.enter g args) w) (b off c : Nat) (zs : List Ext) (w : World)
    (hp : CmpB g cb encE cft w) (hl : Lies 7 encE w b off zs) (hbig : zs.length < 4611686018427387904)
    (hmono : ∀ i j, i ≤ j → j < zs.length → cft zs[j]! < 0 → cft zs[i]! < 0) :
    Calls Try.prog 109 #[.slice (some ⟨b, off, none⟩) zs.length c, .int .i64 0, .func (.func g) #[] cb] w fun e w' => e = .returned (.tuple #[.int .i64 (bsAt cft zs), .bool (bsIs cft zs)]) ∧ Below w.heap.size w w' := by
  have HP := Lib.hid hp
  have HL := Lib.hid hl
  have HM := Lib.hid hmono
  clear hp hl hmono
  generalize hn : zs.length = n at hbig
  have HN : Hid (zs.length = n) := hn
  clear hn
  go_enter Try.func109, Try.ntmps109
  go_wp2
  go_loopg [9, 10] n (fun kx s9 s10 wr => ∃ lo hi : Nat, s9 = .int .i64 lo ∧ s10 = .int .i64 hi ∧ lo ≤ hi ∧ hi ≤ n ∧ hi - lo ≤ kx ∧ Hid (Below w.heap.size w wr) ∧
    Hid ((∀ t, t < lo → cft zs[t]! < 0) ∧ (∀ t, hi ≤ t → t < n → 0 ≤ cft zs[t]!)))
  case atStart => exact ⟨0, n, rfl, rfl, Nat.zero_le _, Nat.le_refl _, by omega, Below.refl _ _, (⟨fun t ht => absurd ht (Nat.not_lt_zero _), fun t h1 h2 => by omega⟩ : (∀ t, t < 0 → cft zs[t]! < 0) ∧ (∀ t, n ≤ t → t < n → 0 ≤ cft zs[t]!))⟩
  case round =>
    obtain ⟨lo, hi, rfl, rfl, hlh, hin, hg, BW, I⟩ := hrel
    by_cases hlt : lo < hi
    · have hm : (lo + hi) / 2 < zs.length := by have := HN.out; omega
      obtain ⟨l0, l1, l2, l3, l4, l5, l6⟩ := (HL.out.below BW.out).at7 ((lo + hi) / 2) hm
      have hcall := HP.out wr zs[(lo + hi) / 2]! BW.out
      generalize hy : zs[(lo + hi) / 2]! = y at l0 l1 l2 l3 l4 l5 l6 hcall
      have Y : Hid (zs[(lo + hi) / 2]! = y) := hy
      clear hy hm
      unfold encE at hcall
      by_cases hyx : cft y < 0
      · go_wp2_with (go_at_fn g; refine hcall.mono ?_; rintro e w' ⟨rfl, BW'⟩)
        go_roundg (hi - ((lo + hi) / 2 + 1))
        case measure => omega
        case rel =>
          have I2 : Hid ((∀ t, t < (lo + hi) / 2 + 1 → cft zs[t]! < 0) ∧ (∀ t, hi ≤ t → t < n → 0 ≤ cft zs[t]!)) := ⟨fun t ht => HM.out t ((lo + hi) / 2) (by omega) (by have := HN.out; omega) (by rw [Y.out]; exact hyx), I.out.2⟩
          exact ⟨(lo + hi) / 2 + 1, hi, by rw [show ((lo : Int) + (hi : Int)) / 2 + 1 = (((lo + hi) / 2 + 1 : Nat) : Int) by omega], rfl, by omega, hin, Nat.le_refl _, BW', I2⟩
      · go_wp2_with (go_at_fn g; refine hcall.mono ?_; rintro e w' ⟨rfl, BW'⟩)
        go_roundg ((lo + hi) / 2 - lo)
        case measure => omega
        case rel =>
          have I2 : Hid ((∀ t, t < lo → cft zs[t]! < 0) ∧ (∀ t, (lo + hi) / 2 ≤ t → t < n → 0 ≤ cft zs[t]!)) := ⟨I.out.1, fun t ht htn => Int.not_lt.1 fun h => by have := HM.out ((lo + hi) / 2) t ht (by have := HN.out; omega) h; rw [Y.out] at this; omega⟩
          exact ⟨lo, (lo + hi) / 2, rfl, by rw [show ((lo : Int) + (hi : Int)) / 2 = (((lo + hi) / 2 : Nat) : Int) by omega], by omega, by omega, Nat.le_refl _, BW', I2⟩
    · obtain rfl : hi = lo := by omega
      have hn := HN.out
      have ecnt : bsAt cft zs = hi := by
        unfold bsAt
        exact countP_boundary _ zs hi (by omega) (fun t ht => decide_eq_true (I.out.1 t ht)) (fun t h3 h4 => decide_eq_false (by have := I.out.2 t h3 (by omega); omega))
      have EC := Lib.hid ecnt
      clear ecnt
      by_cases hlt2 : hi < n
      · have hm : hi < zs.length := by omega
        obtain ⟨l0, l1, l2, l3, l4, l5, l6⟩ := (HL.out.below BW.out).at7 hi hm
        have hcall := HP.out wr zs[hi]! BW.out
        generalize hy : zs[hi]! = y at l0 l1 l2 l3 l4 l5 l6 hcall
        have Y : Hid (zs[hi]! = y) := hy
        clear hy hm hn
        unfold encE at hcall
        by_cases hyx : cft y = 0
        · rw [hyx] at hcall
          go_wp2_with (go_at_fn g; refine hcall.mono ?_; rintro e w' ⟨rfl, BW'⟩)
          go_ret2
          exact ⟨by rw [EC.out, bsIs, EC.out, Y.out, HN.out]; simp [hlt2, hyx], BW'⟩
        · go_wp2_with (go_at_fn g; refine hcall.mono ?_; rintro e w' ⟨rfl, BW'⟩)
          go_ret2
          exact ⟨by rw [EC.out, bsIs, EC.out, Y.out, HN.out]; simp [hlt2, hyx], BW'⟩
      · clear hn
        go_wp2
        go_ret2
        exact ⟨by rw [EC.out, bsIs, EC.out, HN.out]; simp [hlt2], BW.out⟩
end Go.Proofs.Ytbhbjcgbhklieaa

namespace Go.Proofs.Ytbhbjcgbhklieaa
open Go.RowKit

set_option maxRecDepth 100000 in
set_option maxHeartbeats 1000000 in
theorem c106 (cft : Piece → Int) (g : Nat) (cb : Array Value) (eg : ∀ args w, (callFunc g args).run Try.prog w = .ok (.enter g args) w) (b off c : Nat) (zs : List Piece) (w : World)
    (hp : CmpB g cb encP cft w) (hl : Lies 3 encP w b off zs) (hbig : zs.length < 4611686018427387904)
    (hmono : ∀ i j, i ≤ j → j < zs.length → cft zs[j]! < 0 → cft zs[i]! < 0) :
    Calls Try.prog 106 #[.slice (some ⟨b, off, none⟩) zs.length c, .int .i64 0, .func (.func g) #[] cb] w fun e w' => e = .returned (.tuple #[.int .i64 (bsAt cft zs), .bool (bsIs cft zs)]) ∧ Below w.heap.size w w' := by
  have HP := Lib.hid hp
  have HL := Lib.hid hl
  have HM := Lib.hid hmono
  clear hp hl hmono
  generalize hn : zs.length = n at hbig
  have HN : Hid (zs.length = n) := hn
  clear hn
  go_enter Try.func106, Try.ntmps106
  go_wp2
  go_loopg [9, 10] n (fun kx s9 s10 wr => ∃ lo hi : Nat, s9 = .int .i64 lo ∧ s10 = .int .i64 hi ∧ lo ≤ hi ∧ hi ≤ n ∧ hi - lo ≤ kx ∧ Hid (Below w.heap.size w wr) ∧
    Hid ((∀ t, t < lo → cft zs[t]! < 0) ∧ (∀ t, hi ≤ t → t < n → 0 ≤ cft zs[t]!)))
  case atStart => exact ⟨0, n, rfl, rfl, Nat.zero_le _, Nat.le_refl _, by omega, Below.refl _ _, (⟨fun t ht => absurd ht (Nat.not_lt_zero _), fun t h1 h2 => by omega⟩ : (∀ t, t < 0 → cft zs[t]! < 0) ∧ (∀ t, n ≤ t → t < n → 0 ≤ cft zs[t]!))⟩
  case round =>
    obtain ⟨lo, hi, rfl, rfl, hlh, hin, hg, BW, I⟩ := hrel
    by_cases hlt : lo < hi
    · have hm : (lo + hi) / 2 < zs.length := by have := HN.out; omega
      obtain ⟨l0, l1, l2⟩ := (HL.out.below BW.out).at3 ((lo + hi) / 2) hm
      have hcall := HP.out wr zs[(lo + hi) / 2]! BW.out
      generalize hy : zs[(lo + hi) / 2]! = y at l0 l1 l2 hcall
      have Y : Hid (zs[(lo + hi) / 2]! = y) := hy
      clear hy hm
      unfold encP at hcall
      by_cases hyx : cft y < 0
      · go_wp2_with (go_at_fn g; refine hcall.mono ?_; rintro e w' ⟨rfl, BW'⟩)
        go_roundg (hi - ((lo + hi) / 2 + 1))
        case measure => omega
        case rel =>
          have I2 : Hid ((∀ t, t < (lo + hi) / 2 + 1 → cft zs[t]! < 0) ∧ (∀ t, hi ≤ t → t < n → 0 ≤ cft zs[t]!)) := ⟨fun t ht => HM.out t ((lo + hi) / 2) (by omega) (by have := HN.out; omega) (by rw [Y.out]; exact hyx), I.out.2⟩
          exact ⟨(lo + hi) / 2 + 1, hi, by rw [show ((lo : Int) + (hi : Int)) / 2 + 1 = (((lo + hi) / 2 + 1 : Nat) : Int) by omega], rfl, by omega, hin, Nat.le_refl _, BW', I2⟩
      · go_wp2_with (go_at_fn g; refine hcall.mono ?_; rintro e w' ⟨rfl, BW'⟩)
        go_roundg ((lo + hi) / 2 - lo)
        case measure => omega
        case rel =>
          have I2 : Hid ((∀ t, t < lo → cft zs[t]! < 0) ∧ (∀ t, (lo + hi) / 2 ≤ t → t < n → 0 ≤ cft zs[t]!)) := ⟨I.out.1, fun t ht htn => Int.not_lt.1 fun h => by have := HM.out ((lo + hi) / 2) t ht (by have := HN.out; omega) h; rw [Y.out] at this; omega⟩
          exact ⟨lo, (lo + hi) / 2, rfl, by rw [show ((lo : Int) + (hi : Int)) / 2 = (((lo + hi) / 2 : Nat) : Int) by omega], by omega, by omega, Nat.le_refl _, BW', I2⟩
    · obtain rfl : hi = lo := by omega
      have hn := HN.out
      have ecnt : bsAt cft zs = hi := by
        unfold bsAt
        exact countP_boundary _ zs hi (by omega) (fun t ht => decide_eq_true (I.out.1 t ht)) (fun t h3 h4 => decide_eq_false (by have := I.out.2 t h3 (by omega); omega))
      have EC := Lib.hid ecnt
      clear ecnt
      by_cases hlt2 : hi < n
      · have hm : hi < zs.length := by omega
        obtain ⟨l0, l1, l2⟩ := (HL.out.below BW.out).at3 hi hm
        have hcall := HP.out wr zs[hi]! BW.out
        generalize hy : zs[hi]! = y at l0 l1 l2 hcall
        have Y : Hid (zs[hi]! = y) := hy
        clear hy hm hn
        unfold encP at hcall
        by_cases hyx : cft y = 0
        · rw [hyx] at hcall
          go_wp2_with (go_at_fn g; refine hcall.mono ?_; rintro e w' ⟨rfl, BW'⟩)
          go_ret2
          exact ⟨by rw [EC.out, bsIs, EC.out, Y.out, HN.out]; simp [hlt2, hyx], BW'⟩
        · go_wp2_with (go_at_fn g; refine hcall.mono ?_; rintro e w' ⟨rfl, BW'⟩)
          go_ret2
          exact ⟨by rw [EC.out, bsIs, EC.out, Y.out, HN.out]; simp [hlt2, hyx], BW'⟩
      · clear hn
        go_wp2
        go_ret2
        exact ⟨by rw [EC.out, bsIs, EC.out, HN.out]; simp [hlt2], BW.out⟩

/-- .. at no element -/
theorem c109_nil (A : Option Addr) (c : Nat) (fv : Value) (w : World) : Calls Try.prog 109 #[.slice A 0 c, .int .i64 0, fv] w fun e w' => e = .returned (.tuple #[.int .i64 0, .bool false]) ∧ w' = w := by
  go_enter Try.func109, Try.ntmps109
  go_wp2
  refine wp_loop_rounds 1 ?_
  rw [rounds_succ]
  go_wp2
  go_ret2
  exact ⟨rfl, rfl⟩

/-- .. at no element -/
theorem c106_nil (A : Option Addr) (c : Nat) (fv : Value) (w : World) : Calls Try.prog 106 #[.slice A 0 c, .int .i64 0, fv] w fun e w' => e = .returned (.tuple #[.int .i64 0, .bool false]) ∧ w' = w := by
  go_enter Try.func106, Try.ntmps106
  go_wp2
  refine wp_loop_rounds 1 ?_
  rw [rounds_succ]
  go_wp2
  go_ret2
  exact ⟨rfl, rfl⟩
end Go.Proofs.Ytbhbjcgbhklieaa

namespace Go.Proofs.Ytbhbjcgbhklieaa
open Go.RowKit

theorem below_alloc1 (w : World) (o : Obj) : Below w.heap.size w (w.alloc o) := (Below.refl _ _).alloc (Nat.le_refl _) _

/-- A function value of one argument that compares it with something fixed. -/
def CmpU {α : Type} (g : Nat) (cb : Array Value) (enc : α → List Value) (cft : α → Int) (w : World) : Prop :=
  ∀ (W : World) (x : α), Below w.heap.size w W → Calls Try.prog g (#[.agg (enc x).toArray] ++ cb) W fun e w' => e = .returned (.int .i64 (cft x)) ∧ Below W.heap.size W w'

set_option maxHeartbeats 400000 in
theorem c110 (cft : Ext → Int) (g : Nat) (cb : Array Value) (eg : ∀ args w, (callFunc g args).run Try.prog w = .ok (.enter g args) w) (B : Nat) (w : World) (hB : B < w.heap.size) (hb : w.cell? ⟨B, 0, none⟩ = some (.func (.func g) #[] cb)) (hp : CmpU g cb encE cft w) :
    CmpB 110 #[.pointer (some ⟨B, 0, none⟩)] encE cft w := by
  intro W x hW
  have hb' : W.cell? ⟨B, 0, none⟩ = some (.func (.func g) #[] cb) := (hW.cell (p := ⟨B, 0, none⟩) hB).trans hb
  have hcall := hp (W.alloc (.cells (encE x).toArray 115)) x (hW.alloc hW.size _)
  have hB' : B < W.heap.size := Nat.lt_of_lt_of_le hB hW.size
  have HW := Lib.hid hW
  clear hp hb hB hW
  unfold encE at hcall ⊢
  go_enter Try.func110, Try.ntmps110
  go_wp2_with (go_at_fn g; refine hcall.mono ?_; rintro e w' ⟨rfl, BW'⟩)
  go_ret
  exact ⟨rfl, HW.out.trans (((below_alloc1 _ _).trans (BW'.mono (by simp))).mono HW.out.size)⟩

set_option maxHeartbeats 400000 in
theorem c107 (cft : Piece → Int) (g : Nat) (cb : Array Value) (eg : ∀ args w, (callFunc g args).run Try.prog w = .ok (.enter g args) w) (B : Nat) (w : World) (hB : B < w.heap.size) (hb : w.cell? ⟨B, 0, none⟩ = some (.func (.func g) #[] cb)) (hp : CmpU g cb encP cft w) :
    CmpB 107 #[.pointer (some ⟨B, 0, none⟩)] encP cft w := by
  intro W x hW
  have hb' : W.cell? ⟨B, 0, none⟩ = some (.func (.func g) #[] cb) := (hW.cell (p := ⟨B, 0, none⟩) hB).trans hb
  have hcall := hp (W.alloc (.cells (encP x).toArray 38)) x (hW.alloc hW.size _)
  have hB' : B < W.heap.size := Nat.lt_of_lt_of_le hB hW.size
  have HW := Lib.hid hW
  clear hp hb hB hW
  unfold encP at hcall ⊢
  go_enter Try.func107, Try.ntmps107
  go_wp2_with (go_at_fn g; refine hcall.mono ?_; rintro e w' ⟨rfl, BW'⟩)
  go_ret
  exact ⟨rfl, HW.out.trans (((below_alloc1 _ _).trans (BW'.mono (by simp))).mono HW.out.size)⟩


theorem CmpU.later {α : Type} {g : Nat} {cb : Array Value} {enc : α → List Value} {cft : α → Int} {w w' : World} (h : CmpU g cb enc cft w) (hw : Below w.heap.size w w') : CmpU g cb enc cft w' :=
  fun W x hW => (h W x (hw.trans (hW.mono hw.size))).mono fun _ _ h => h

theorem Lies.none {α : Type} [Inhabited α] {k : Nat} {enc : α → List Value} {w : World} {b off : Nat} (hb : b < w.heap.size) : Lies k enc w b off ([] : List α) := ⟨hb, fun _ hj => absurd hj (Nat.not_lt_zero _)⟩

/-- The slice value v holds zs. -/
def Sl {α : Type} [Inhabited α] (k : Nat) (enc : α → List Value) (w : World) (v : Value) (zs : List α) : Prop :=
  ∃ A c, v = .slice A zs.length c ∧ zs.length ≤ c ∧ (zs = [] ∨ ∃ b off, A = some ⟨b, off, none⟩ ∧ Lies k enc w b off zs)

theorem Sl.below {α : Type} [Inhabited α] {k : Nat} {enc : α → List Value} {w W : World} {v : Value} {zs : List α} (h : Sl k enc w v zs) (hW : Below w.heap.size w W) : Sl k enc W v zs := by
  obtain ⟨A, c, hv, hc, h⟩ := h
  exact ⟨A, c, hv, hc, h.imp id fun ⟨b, off, hA, hl⟩ => ⟨b, off, hA, hl.below hW⟩⟩

set_option maxHeartbeats 400000 in
theorem c97 (cft : Ext → Int) (g : Nat) (cb : Array Value) (eg : ∀ args w, (callFunc g args).run Try.prog w = .ok (.enter g args) w) (v : Value) (zs : List Ext) (w : World)
    (hp : CmpU g cb encE cft w) (hs : Sl 7 encE w v zs) (hbig : zs.length < 4611686018427387904)
    (hmono : ∀ i j, i ≤ j → j < zs.length → cft zs[j]! < 0 → cft zs[i]! < 0) :
    Calls Try.prog 97 #[v, .func (.func g) #[] cb] w fun e w' => e = .returned (.tuple #[.int .i64 (bsAt cft zs), .bool (bsIs cft zs)]) ∧ Below w.heap.size w w' := by
  have hw1 := below_alloc1 w (.cells #[.func (.func g) #[] cb] 137)
  have hcb := c110 cft g cb eg w.heap.size (w.alloc (.cells #[.func (.func g) #[] cb] 137)) (by simp) (by simp) (hp.later hw1)
  obtain ⟨A, c, rfl, _, rfl | ⟨b, off, rfl, hl⟩⟩ := hs
  · clear hcb hp hmono
    go_enter Try.func97, Try.ntmps97
    go_wp2_with (go_at_call 109; refine (c109_nil _ _ _ _).mono ?_; rintro e w' ⟨rfl, rfl⟩)
    go_ret2
    exact ⟨rfl, hw1⟩
  · have hcall := c109 cft 110 #[.pointer (some ⟨w.heap.size, 0, none⟩)] (enters_of Try.func110 (by kernel_rfl) rfl) b off c zs _ hcb (hl.below hw1) hbig hmono
    clear hcb hp hmono hl
    have HW1 := Lib.hid hw1
    clear hw1
    go_enter Try.func97, Try.ntmps97
    go_wp2_with (go_at_call 109; refine hcall.mono ?_; rintro e w' ⟨rfl, BW'⟩)
    go_ret2
    exact ⟨rfl, HW1.out.trans (BW'.mono (by simp))⟩

set_option maxHeartbeats 400000 in
theorem c93 (cft : Piece → Int) (g : Nat) (cb : Array Value) (eg : ∀ args w, (callFunc g args).run Try.prog w = .ok (.enter g args) w) (v : Value) (zs : List Piece) (w : World)
    (hp : CmpU g cb encP cft w) (hs : Sl 3 encP w v zs) (hbig : zs.length < 4611686018427387904)
    (hmono : ∀ i j, i ≤ j → j < zs.length → cft zs[j]! < 0 → cft zs[i]! < 0) :
    Calls Try.prog 93 #[v, .func (.func g) #[] cb] w fun e w' => e = .returned (.tuple #[.int .i64 (bsAt cft zs), .bool (bsIs cft zs)]) ∧ Below w.heap.size w w' := by
  have hw1 := below_alloc1 w (.cells #[.func (.func g) #[] cb] 134)
  have hcb := c107 cft g cb eg w.heap.size (w.alloc (.cells #[.func (.func g) #[] cb] 134)) (by simp) (by simp) (hp.later hw1)
  obtain ⟨A, c, rfl, _, rfl | ⟨b, off, rfl, hl⟩⟩ := hs
  · clear hcb hp hmono
    go_enter Try.func93, Try.ntmps93
    go_wp2_with (go_at_call 106; refine (c106_nil _ _ _ _).mono ?_; rintro e w' ⟨rfl, rfl⟩)
    go_ret2
    exact ⟨rfl, hw1⟩
  · have hcall := c106 cft 107 #[.pointer (some ⟨w.heap.size, 0, none⟩)] (enters_of Try.func107 (by kernel_rfl) rfl) b off c zs _ hcb (hl.below hw1) hbig hmono
    clear hcb hp hmono hl
    have HW1 := Lib.hid hw1
    clear hw1
    go_enter Try.func93, Try.ntmps93
    go_wp2_with (go_at_call 106; refine hcall.mono ?_; rintro e w' ⟨rfl, BW'⟩)
    go_ret2
    exact ⟨rfl, HW1.out.trans (BW'.mono (by simp))⟩
end Go.Proofs.Ytbhbjcgbhklieaa

namespace Go.Proofs.Ytbhbjcgbhklieaa
open Go.RowKit

/-- Block g holds an opened heap. -/
structure HeapB (w : World) (g : Nat) (c : Conf) (lv qv : Value) (gi : Int) (L : List Ext) : Prop where
  out : ∃ lsv, w.heap[g]? = some (.cells #[.int .i64 c.page, .int .i64 c.n, .int .i64 c.red, .int .i64 c.quarantine, lv, qv, .int .i64 gi, lsv] 123 (0, 0)) ∧ Sl 7 encE w lsv L

theorem blk_cell {w : World} {g : Nat} {cs : Array Value} {t : TypeId} {f : Nat × Nat} (h : w.heap[g]? = some (.cells cs t f)) (j : Nat) : w.cell? ⟨g, j, none⟩ = cs[j]? := by simp [World.cell?, h]
theorem blk_lt {w : World} {g : Nat} {o : Obj} (h : w.heap[g]? = some o) : g < w.heap.size := (Array.getElem?_eq_some_iff.1 h).1

theorem HeapB.below {w W : World} {g : Nat} {c : Conf} {lv qv : Value} {gi : Int} {L : List Ext} (h : HeapB w g c lv qv gi L) (hW : Below w.heap.size w W) : HeapB W g c lv qv gi L := by
  obtain ⟨lsv, hb, hs⟩ := h.out
  exact ⟨lsv, (hW.block g (blk_lt hb)).trans hb, hs.below hW⟩

theorem bcell {W w1 : World} (hb : Below W.heap.size W w1) : (∀ b o, b < W.heap.size → w1.cell? ⟨b, o, none⟩ = W.cell? ⟨b, o, none⟩) ∧ (∀ b o, b < W.heap.size → w1.frozen? ⟨b, o, none⟩ = W.frozen? ⟨b, o, none⟩) ∧ W.heap.size ≤ w1.heap.size :=
  ⟨fun b o h => hb.cell (p := ⟨b, o, none⟩) h, fun b o h => hb.frozen (p := ⟨b, o, none⟩) h, hb.size⟩

theorem lt2 {n m : Nat} (h : n + 1 + 1 ≤ m) : n < m ∧ n + 1 < m ∧ n < m + 1 ∧ n + 1 < m + 1 ∧ n < m + 1 + 1 ∧ n + 1 < m + 1 + 1 := by omega

theorem cmpI_mono (at_ a b : Int) (h : a ≤ b) (hb : cmpI b at_ < 0) : cmpI a at_ < 0 := by
  unfold cmpI at *; split at hb <;> split <;> (try split) <;> (try split at hb) <;> omega

set_option maxHeartbeats 400000 in
theorem u94 (A : Nat) (at_ : Int) (w : World) (hA : A < w.heap.size) (ha : w.cell? ⟨A, 0, none⟩ = some (.int .u32 at_)) : CmpU 94 #[.pointer (some ⟨A, 0, none⟩)] encP (fun x => cmpI x.pos at_) w := fun W x hW =>
  (c94 x at_ A W (Nat.lt_of_lt_of_le hA hW.size) ((hW.cell (p := ⟨A, 0, none⟩) hA).trans ha)).mono fun e w' ⟨he, hw⟩ => ⟨he, by subst hw; exact below_alloc1 _ _⟩

theorem u98 (A : Nat) (at_ : Int) (w : World) (hA : A < w.heap.size) (ha : w.cell? ⟨A, 0, none⟩ = some (.int .u32 at_)) (h0 : 0 ≤ at_) (h1 : at_ < 4294967296) : CmpU 98 #[.pointer (some ⟨A, 0, none⟩)] encE (fun x => nearI x at_) w := fun W x hW =>
  (c98 x at_ A W (Nat.lt_of_lt_of_le hA hW.size) ((hW.cell (p := ⟨A, 0, none⟩) hA).trans ha) h0 h1).mono fun e w' ⟨he, hw⟩ => ⟨he, by subst hw; exact below_alloc1 _ _⟩

set_option maxHeartbeats 400000 in
/-- live: the index of the live block that begins at an address, or where it would stand. -/
theorem c69 (g : Nat) (c : Conf) (lv qv : Value) (gi : Int) (L : List Ext) (live : List Piece) (at_ : Int) (w : World) (hh : HeapB w g c lv qv gi L) (hs : Sl 3 encP w lv live) (hbig : live.length < 4611686018427387904)
    (hsort : ∀ i j, i ≤ j → j < live.length → live[i]!.pos ≤ live[j]!.pos) :
    Calls Try.prog 69 #[.pointer (some ⟨g, 0, none⟩), .int .u32 at_] w fun e w' => e = .returned (.tuple #[.int .i64 (bsAt (fun x => cmpI x.pos at_) live), .bool (bsIs (fun x => cmpI x.pos at_) live)]) ∧ Below w.heap.size w w' := by
  obtain ⟨lsv, hb, _⟩ := hh.out
  have hg := blk_lt hb
  have h4 := blk_cell hb 4
  simp only [List.getElem?_toArray, List.getElem?_cons_succ, List.getElem?_cons_zero] at h4
  have hw1 := below_alloc1 w (.cells #[.int .u32 at_] 27)
  have hcall := c93 (fun x => cmpI x.pos at_) 94 #[.pointer (some ⟨w.heap.size, 0, none⟩)] (enters_of Try.func94 (by kernel_rfl) rfl) lv live (w.alloc (.cells #[.int .u32 at_] 27)) (u94 _ _ _ (by simp) (by simp)) (hs.below hw1) hbig
    (fun i j hij hj h => cmpI_mono _ _ _ (hsort i j hij hj) h)
  have HW1 := Lib.hid hw1
  clear hw1 hsort hs hh hb
  go_enter Try.func69, Try.ntmps69
  go_wp2_with (go_at_call 93; refine hcall.mono ?_; rintro e w' ⟨rfl, BW'⟩)
  go_ret2
  exact ⟨rfl, HW1.out.trans (BW'.mono (by simp))⟩

def nearF (L : List Ext) (at_ : Int) : Int × Int × Int :=
  if bsIs (fun x => nearI x at_) L then
    let x := L[bsAt (fun x => nearI x at_) L]!
    ((if 0 ≤ at_ - x.p.pos ∧ at_ - x.p.pos < x.p.size then 1 else 2) + (if x.quar then 2 else 0), x.ix, at_ - x.p.pos)
  else (0, 0, 0)

set_option maxRecDepth 100000 in
set_option maxHeartbeats 1000000 in
theorem c75 (g : Nat) (c : Conf) (lv qv : Value) (gi : Int) (L : List Ext) (at_ : Int) (w : World) (hh : HeapB w g c lv qv gi L) (hbig : L.length < 4611686018427387904) (h0 : 0 ≤ at_) (h1 : at_ < 4294967296)
    (hsort : ∀ i j, i ≤ j → j < L.length → L[i]!.to ≤ L[j]!.to) (hpos : ∀ i, i < L.length → 0 ≤ L[i]!.p.pos ∧ L[i]!.p.pos < 4294967296) :
    Calls Try.prog 75 #[.pointer (some ⟨g, 0, none⟩), .int .u32 at_] w fun e w' => e = .returned (.agg #[.int .i64 (nearF L at_).1, .int .i64 (nearF L at_).2.1, .int .i64 (nearF L at_).2.2]) ∧ Below w.heap.size w w' := by
  obtain ⟨lsv, hb, hs⟩ := hh.out
  have hg := blk_lt hb
  have h7 := blk_cell hb 7
  simp only [List.getElem?_toArray, List.getElem?_cons_succ, List.getElem?_cons_zero] at h7
  have hw1 := below_alloc1 w (.cells #[.int .u32 at_] 27)
  have hw2 : Below w.heap.size w ((w.alloc (.cells #[.int .u32 at_] 27)).alloc (.cells #[.int .i64 0, .int .i64 0, .int .i64 0] 48)) := hw1.alloc (by simp) _
  have hcall := c97 (fun x => nearI x at_) 98 #[.pointer (some ⟨w.heap.size, 0, none⟩)] (enters_of Try.func98 (by kernel_rfl) rfl) lsv L _ ((u98 w.heap.size at_ _ (by simp) (by simp) h0 h1).later (below_alloc1 _ (.cells #[.int .i64 0, .int .i64 0, .int .i64 0] 48))) (hs.below hw2) hbig
    (fun i j hij hj h => by have := hsort i j hij hj; simp only [nearI] at *; split at h <;> split <;> (try split) <;> (try split at h) <;> omega)
  have HW2 := Lib.hid hw2
  have HS := Lib.hid (hs.below hw2)
  have HPOS := Lib.hid hpos
  obtain ⟨nf, hnf⟩ : ∃ nf, nearF L at_ = nf := ⟨_, rfl⟩
  rw [hnf]
  unfold nearF at hnf
  have HNF := Lib.hid hnf
  clear hw1 hw2 hsort hs hh hb hpos hnf hbig
  generalize hk : bsAt (fun x => nearI x at_) L = k at hcall
  have HK := Lib.hid hk
  clear hk
  cases his : bsIs (fun x => nearI x at_) L with
  | false =>
    rw [his] at hcall
    have HI := Lib.hid his
    clear his
    go_enter Try.func75, Try.ntmps75
    go_wp2_with (go_at_call 97; refine hcall.mono ?_; rintro e w' ⟨rfl, BW'⟩; obtain ⟨hc1, hf1, hz1⟩ := bcell BW'; (simp only [World.size_alloc] at hz1); replace BW' := Lib.hid BW')
    refine bodyPost_ret (v := .agg #[.int .i64 nf.1, .int .i64 nf.2.1, .int .i64 nf.2.2]) ?_ rfl ⟨rfl, ?_⟩
    · have h := HNF.out
      rw [HI.out] at h
      subst h
      simp [results, Try.results75, go_sem, hc1]
    · exact (((HW2.out.trans (BW'.out.mono (by simp; omega))).setCell (by simp) _).setCell (by simp) _).setCell (by simp) _
  | true =>
    rw [his] at hcall
    have hkl : k < L.length ∧ nearI L[k]! at_ = 0 := by
      have h := his
      rw [bsIs, HK.out] at h
      exact of_decide_eq_true h
    have hk0 := (HPOS.out k hkl.1)
    obtain ⟨A, cc, hlsv, _, rfl | ⟨b, off, rfl, hl⟩⟩ := HS.out
    · simp at hkl
    obtain ⟨l0, l1, l2, l3, l4, l5, l6⟩ := hl.at7 k hkl.1
    have hbl := hl.1
    simp only [World.size_alloc] at hbl
    have hnf2 := HNF.out
    rw [his, HK.out, if_pos rfl] at hnf2
    generalize hy : L[k]! = y at l0 l1 l2 l3 l4 l5 l6 hk0 hnf2
    subst hlsv
    have hkn := hkl.1
    generalize hn : L.length = n at hkn hcall h7
    have HI := Lib.hid his
    have HN2 := Lib.hid hnf2
    clear his HNF hnf2 hkl hl HPOS HS hy HK hn
    have hg1 : g < w.heap.size + 1 := by omega
    have hg2 : g < w.heap.size + 1 + 1 := by omega
    go_enter Try.func75, Try.ntmps75
    go_wp2_with (go_at_call 97; refine hcall.mono ?_; rintro e w' ⟨rfl, BW'⟩; obtain ⟨hc1, hf1, hz1⟩ := bcell BW'; (simp only [World.size_alloc] at hz1); replace BW' := Lib.hid BW'; go_loud (obtain ⟨q1, q2, q3, q4, q5, q6⟩ := lt2 hz1))
    all_goals
      refine bodyPost_ret (v := .agg #[.int .i64 nf.1, .int .i64 nf.2.1, .int .i64 nf.2.2]) ?_ rfl ⟨rfl, ?_⟩
      · have h := HN2.out
        have hq : ∀ b, y.quar = b → (if y.quar = true then (2 : Int) else 0) = if b = true then 2 else 0 := fun b e => by rw [e]
        first
          | rw [if_pos (show 0 ≤ at_ - y.p.pos ∧ at_ - y.p.pos < y.p.size from ⟨by omega, by omega⟩)] at h
          | rw [if_neg (show ¬ (0 ≤ at_ - y.p.pos ∧ at_ - y.p.pos < y.p.size) from by omega)] at h
        rw [hq _ (by assumption)] at h
        clear hq
        subst h
        simp [results, Try.results75, go_sem, hc1, q2, q4]
      · repeat' first | exact HW2.out.trans (BW'.out.mono (by simp; omega)) | refine Below.setCell ?_ (by simp; try omega) _ | refine Below.alloc ?_ (by simp; try omega) _
end Go.Proofs.Ytbhbjcgbhklieaa
