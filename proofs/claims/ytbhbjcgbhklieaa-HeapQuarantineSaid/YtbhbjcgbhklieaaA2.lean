/- slices.BinarySearchFunc at extents and at pieces. -/
import Derived.Test.YtbhbjcgbhklieaaA1
import Derived.Deep.LoopGhost
import Derived.Shelf.Abstract
import Derived.Lib.Hide
namespace Go.Proofs.Ytbhbjcgbhklieaa
open Go.RowKit

/-- zs lies in block b from off on, k cells an element -/
def Lies {α : Type} [Inhabited α] (k : Nat) (enc : α → List Value) (w : World) (b off : Nat) (zs : List α) : Prop :=
  b < w.heap.size ∧ ∀ j, j < zs.length → ∀ i v, (enc zs[j]!)[i]? = some v → w.cell? ⟨b, off + j * k + i, none⟩ = some v

theorem Lies.below {α : Type} [Inhabited α] {k : Nat} {enc : α → List Value} {w W : World} {b off : Nat} {zs : List α} (h : Lies k enc w b off zs) (hW : Below w.heap.size w W) : Lies k enc W b off zs :=
  ⟨Nat.lt_of_lt_of_le h.1 hW.size, fun j hj i v hv => by rw [hW.cell (p := ⟨b, off + j * k + i, none⟩) h.1]; exact h.2 j hj i v hv⟩

def CmpB {α : Type} (g : Nat) (cb : Array Value) (enc : α → List Value) (cft : α → Int) (w : World) : Prop :=
  ∀ (W : World) (x : α), Below w.heap.size w W → Calls Try.prog g (#[.agg (enc x).toArray, .int .i64 0] ++ cb) W fun e w' => e = .returned (.int .i64 (cft x)) ∧ Below w.heap.size w w'

theorem countP_boundary {α : Type} [Inhabited α] (p : α → Bool) : ∀ (l : List α) (i : Nat), i ≤ l.length → (∀ t, t < i → p l[t]! = true) → (∀ t, i ≤ t → t < l.length → p l[t]! = false) → l.countP p = i
  | [], i, hi, _, _ => by simp at hi; simp [hi]
  | a :: r, 0, _, _, h2 => by
    rw [List.countP_eq_zero]
    intro x hx
    obtain ⟨t, ht, rfl⟩ := List.getElem_of_mem hx
    have := h2 t (Nat.zero_le _) ht
    rw [getElem!_pos (a :: r) t ht] at this
    simp [this]
  | a :: r, i + 1, hi, h1, h2 => by
    have ha : p a = true := by simpa using h1 0 (Nat.succ_pos _)
    rw [List.countP_cons_of_pos ha, countP_boundary p r i (by simpa using hi) (fun t ht => by simpa using h1 (t + 1) (by omega)) (fun t h3 h4 => by simpa using h2 (t + 1) (by omega) (by simpa using h4))]

def bsAt {α : Type} (cft : α → Int) (zs : List α) : Nat := zs.countP fun x => decide (cft x < 0)
def bsIs {α : Type} [Inhabited α] (cft : α → Int) (zs : List α) : Bool := decide (bsAt cft zs < zs.length ∧ cft zs[bsAt cft zs]! = 0)

theorem Lies.at7 {w : World} {b off : Nat} {zs : List Ext} (h : Lies 7 encE w b off zs) (j : Nat) (hj : j < zs.length) :
    w.cell? ⟨b, off + j * 7, none⟩ = some (.int .u32 zs[j]!.p.pos) ∧ w.cell? ⟨b, off + j * 7 + 1, none⟩ = some (.int .i64 zs[j]!.p.size) ∧ w.cell? ⟨b, off + j * 7 + 2, none⟩ = some (.int .i64 zs[j]!.p.born) ∧
    w.cell? ⟨b, off + j * 7 + 3, none⟩ = some (.int .i64 zs[j]!.fr) ∧ w.cell? ⟨b, off + j * 7 + 4, none⟩ = some (.int .i64 zs[j]!.to) ∧ w.cell? ⟨b, off + j * 7 + 5, none⟩ = some (.bool zs[j]!.quar) ∧ w.cell? ⟨b, off + j * 7 + 6, none⟩ = some (.int .i64 zs[j]!.ix) :=
  ⟨h.2 j hj 0 _ rfl, h.2 j hj 1 _ rfl, h.2 j hj 2 _ rfl, h.2 j hj 3 _ rfl, h.2 j hj 4 _ rfl, h.2 j hj 5 _ rfl, h.2 j hj 6 _ rfl⟩

theorem Lies.at3 {w : World} {b off : Nat} {zs : List Piece} (h : Lies 3 encP w b off zs) (j : Nat) (hj : j < zs.length) :
    w.cell? ⟨b, off + j * 3, none⟩ = some (.int .u32 zs[j]!.pos) ∧ w.cell? ⟨b, off + j * 3 + 1, none⟩ = some (.int .i64 zs[j]!.size) ∧ w.cell? ⟨b, off + j * 3 + 2, none⟩ = some (.int .i64 zs[j]!.born) :=
  ⟨h.2 j hj 0 _ rfl, h.2 j hj 1 _ rfl, h.2 j hj 2 _ rfl⟩

set_option maxRecDepth 100000 in
set_option maxHeartbeats 1000000 in
theorem c109 (cft : Ext → Int) (g : Nat) (cb : Array Value) (eg : ∀ args w, (callFunc g args).run Try.prog w = .ok (.enter g args) w) (b off c : Nat) (zs : List Ext) (w : World)
    (hp : CmpB g cb encE cft w) (hl : Lies 7 encE w b off zs) (hbig : zs.length < 4611686018427387904)
    (hmono : ∀ i j, i ≤ j → j < zs.length → cft zs[j]! < 0 → cft zs[i]! < 0) :
    Calls Try.prog 109 #[.slice (some ⟨b, off, none⟩) zs.length c, .int .i64 0, .func (.func g) #[] cb] w fun e w' => e = .returned (.tuple #[.int .i64 (bsAt cft zs), .bool (bsIs cft zs)]) ∧ Below w.heap.size w w' := by
  have HP := Lib.hid hp
  have HL := Lib.hid hl
  have HM := Lib.hid hmono
  clear hp hl hmono
  generalize hn : zs.length = n at hbig
  have HN : Hid (zs.length = n) := hn
  clear hn
  go_enter Try.func109, Try.ntmps109
  go_wp2
  go_loopg [9, 10] n (fun kx s9 s10 wr => ∃ lo hi : Nat, s9 = .int .i64 lo ∧ s10 = .int .i64 hi ∧ lo ≤ hi ∧ hi ≤ n ∧ hi - lo ≤ kx ∧ Hid (Below w.heap.size w wr) ∧
    Hid ((∀ t, t < lo → cft zs[t]! < 0) ∧ (∀ t, hi ≤ t → t < n → 0 ≤ cft zs[t]!)))
  case atStart => exact ⟨0, n, rfl, rfl, Nat.zero_le _, Nat.le_refl _, by omega, Below.refl _ _, (⟨fun t ht => absurd ht (Nat.not_lt_zero _), fun t h1 h2 => by omega⟩ : (∀ t, t < 0 → cft zs[t]! < 0) ∧ (∀ t, n ≤ t → t < n → 0 ≤ cft zs[t]!))⟩
  case round =>
    obtain ⟨lo, hi, rfl, rfl, hlh, hin, hg, BW, I⟩ := hrel
    by_cases hlt : lo < hi
    · have hm : (lo + hi) / 2 < zs.length := by have := HN.out; omega
      obtain ⟨l0, l1, l2, l3, l4, l5, l6⟩ := (HL.out.below BW.out).at7 ((lo + hi) / 2) hm
      have hcall := HP.out wr zs[(lo + hi) / 2]! BW.out
      generalize hy : zs[(lo + hi) / 2]! = y at l0 l1 l2 l3 l4 l5 l6 hcall
      have Y : Hid (zs[(lo + hi) / 2]! = y) := hy
      clear hy hm
      unfold encE at hcall
      by_cases hyx : cft y < 0
      · go_wp2_with (go_at_fn g; refine hcall.mono ?_; rintro e w' ⟨rfl, BW'⟩)
        go_roundg (hi - ((lo + hi) / 2 + 1))
        case measure => omega
        case rel =>
          have I2 : Hid ((∀ t, t < (lo + hi) / 2 + 1 → cft zs[t]! < 0) ∧ (∀ t, hi ≤ t → t < n → 0 ≤ cft zs[t]!)) := ⟨fun t ht => HM.out t ((lo + hi) / 2) (by omega) (by have := HN.out; omega) (by rw [Y.out]; exact hyx), I.out.2⟩
          exact ⟨(lo + hi) / 2 + 1, hi, by rw [show ((lo : Int) + (hi : Int)) / 2 + 1 = (((lo + hi) / 2 + 1 : Nat) : Int) by omega], rfl, by omega, hin, Nat.le_refl _, BW', I2⟩
      · go_wp2_with (go_at_fn g; refine hcall.mono ?_; rintro e w' ⟨rfl, BW'⟩)
        go_roundg ((lo + hi) / 2 - lo)
        case measure => omega
        case rel =>
          have I2 : Hid ((∀ t, t < lo → cft zs[t]! < 0) ∧ (∀ t, (lo + hi) / 2 ≤ t → t < n → 0 ≤ cft zs[t]!)) := ⟨I.out.1, fun t ht htn => Int.not_lt.1 fun h => by have := HM.out ((lo + hi) / 2) t ht (by have := HN.out; omega) h; rw [Y.out] at this; omega⟩
          exact ⟨lo, (lo + hi) / 2, rfl, by rw [show ((lo : Int) + (hi : Int)) / 2 = (((lo + hi) / 2 : Nat) : Int) by omega], by omega, by omega, Nat.le_refl _, BW', I2⟩
    · obtain rfl : hi = lo := by omega
      have hn := HN.out
      have ecnt : bsAt cft zs = hi := by
        unfold bsAt
        exact countP_boundary _ zs hi (by omega) (fun t ht => decide_eq_true (I.out.1 t ht)) (fun t h3 h4 => decide_eq_false (by have := I.out.2 t h3 (by omega); omega))
      have EC := Lib.hid ecnt
      clear ecnt
      by_cases hlt2 : hi < n
      · have hm : hi < zs.length := by omega
        obtain ⟨l0, l1, l2, l3, l4, l5, l6⟩ := (HL.out.below BW.out).at7 hi hm
        have hcall := HP.out wr zs[hi]! BW.out
        generalize hy : zs[hi]! = y at l0 l1 l2 l3 l4 l5 l6 hcall
        have Y : Hid (zs[hi]! = y) := hy
        clear hy hm hn
        unfold encE at hcall
        by_cases hyx : cft y = 0
        · rw [hyx] at hcall
          go_wp2_with (go_at_fn g; refine hcall.mono ?_; rintro e w' ⟨rfl, BW'⟩)
          go_ret2
          exact ⟨by rw [EC.out, bsIs, EC.out, Y.out, HN.out]; simp [hlt2, hyx], BW'⟩
        · go_wp2_with (go_at_fn g; refine hcall.mono ?_; rintro e w' ⟨rfl, BW'⟩)
          go_ret2
          exact ⟨by rw [EC.out, bsIs, EC.out, Y.out, HN.out]; simp [hlt2, hyx], BW'⟩
      · clear hn
        go_wp2
        go_ret2
        exact ⟨by rw [EC.out, bsIs, EC.out, HN.out]; simp [hlt2], BW.out⟩
end Go.Proofs.Ytbhbjcgbhklieaa
