/- HeapMoved's closure, and slices.EqualFunc with it, at lists that it finds equal. -/
import Derived.Test.YtbhbjcgbhklieaaC7
namespace Go.Proofs.Ytbhbjcgbhklieaa
open Go.RowKit Go.Shelf

/-- a piece, moved by so many bytes. -/
def MovedP (by_ : Int) (p q : Piece) : Prop := IntKind.u32.wrap (p.pos + by_) = q.pos ∧ p.size = q.size ∧ p.born = q.born
set_option maxRecDepth 100000 in
set_option maxHeartbeats 1000000 in
theorem c55 (p q : Piece) (by_ : Int) (pb : Nat) (w : World) (hp : w.cell? ⟨pb, 0, none⟩ = some (.int .u32 by_)) (hlt : pb < w.heap.size) (h : MovedP by_ p q) :
    Calls Try.prog 55 #[.agg #[.int .u32 p.pos, .int .i64 p.size, .int .i64 p.born], .agg #[.int .u32 q.pos, .int .i64 q.size, .int .i64 q.born], .pointer (some ⟨pb, 0, none⟩)] w fun e w' => e = .returned (.bool true) ∧ Below w.heap.size w w' := by
  obtain ⟨h1, h2, h3⟩ := h
  obtain ⟨x, y, z⟩ := p
  obtain ⟨x', y', z'⟩ := q
  simp only at h1 h2 h3 ⊢
  subst h2 h3
  subst h1
  go_enter Try.func55, Try.ntmps55
  go_wp2
  go_ret
  exact ⟨rfl, (below_alloc1 _ _).alloc (by simp) _⟩

set_option maxRecDepth 100000 in
set_option maxHeartbeats 1000000 in
theorem c56 (v1 v2 : Value) (xs ys : List Piece) (by_ : Int) (pb : Nat) (w : World) (h1 : Sl 3 encP w v1 xs) (h2 : Sl 3 encP w v2 ys) (hn : xs.length ≤ 100000) (hl : xs.length = ys.length) (hp : w.cell? ⟨pb, 0, none⟩ = some (.int .u32 by_)) (hlt : pb < w.heap.size) (hm : ∀ j, j < xs.length → MovedP by_ xs[j]! ys[j]!) :
    Calls Try.prog 56 #[v1, v2, .func (.func 55) #[] #[.pointer (some ⟨pb, 0, none⟩)]] w fun e w' => e = .returned (.bool true) ∧ Below w.heap.size w w' := by
  obtain ⟨A, ca, rfl, _, hL1⟩ := h1
  obtain ⟨B, cb, rfl, _, hL2⟩ := h2
  rw [← hl]
  obtain ⟨n, hnn⟩ : ∃ n, xs.length = n := ⟨_, rfl⟩
  rw [hnn] at hn hm hl ⊢
  have HM := Lib.hid hm
  have HX := Lib.hid hnn
  have HY := Lib.hid hl
  have HL1 := Lib.hid hL1
  have HL2 := Lib.hid hL2
  have HP := Lib.hid hp
  have eg : ∀ args w, (callFunc 55 args).run Try.prog w = .ok (.enter 55 args) w := enters_of Try.func55 (by kernel_rfl) rfl
  clear hm hnn hl hL1 hL2 hp
  go_enter Try.func56, Try.ntmps56
  go_wp2
  go_loopg [17] n (fun kx s17 wr => ∃ k : Nat, k ≤ n ∧ s17 = .int .i64 k ∧ n - k ≤ kx ∧ Hid (Below w.heap.size w wr))
  case atStart => exact ⟨0, Nat.zero_le _, rfl, by omega, Below.refl _ _⟩
  case round =>
    obtain ⟨k, hk, rfl, hkx, HB⟩ := hrel
    have hsr := HB.out.size
    by_cases hlk : k < n
    · have hkx1 : k < xs.length := by rw [HX.out]; exact hlk
      have hky1 : k < ys.length := by rw [← HY.out]; exact hlk
      obtain ⟨b1, o1, rfl, hl1⟩ := HL1.out.resolve_left (by rintro rfl; simp at hkx1)
      obtain ⟨b2, o2, rfl, hl2⟩ := HL2.out.resolve_left (by rintro rfl; simp at hky1)
      obtain ⟨m0, m1, m2⟩ := (hl1.below HB.out).at3 k hkx1
      obtain ⟨p0, p1, p2⟩ := (hl2.below HB.out).at3 k hky1
      have hb1 : b1 < wr.heap.size := Nat.lt_of_lt_of_le hl1.1 hsr
      have hb2 : b2 < wr.heap.size := Nat.lt_of_lt_of_le hl2.1 hsr
      have hmv := HM.out k hlk
      generalize xs[k]! = x at m0 m1 m2 hmv
      generalize ys[k]! = y at p0 p1 p2 hmv
      have HMV := Lib.hid hmv
      have hbel : Below wr.heap.size wr ((wr.alloc (.cells #[.int .u32 x.pos, .int .i64 x.size, .int .i64 x.born] 38)).alloc (.cells #[.int .u32 y.pos, .int .i64 y.size, .int .i64 y.born] 38)) := (below_alloc1 wr _).alloc (by simp) _
      have hc := c55 x y by_ pb _ ((hbel.cell (p := ⟨pb, 0, none⟩) (Nat.lt_of_lt_of_le hlt hsr)).trans ((HB.out.cell (p := ⟨pb, 0, none⟩) hlt).trans HP.out)) (by simp; omega) hmv
      have HC := Lib.hid hc
      have HBL := Lib.hid hbel
      clear hl1 hl2 hkx1 hky1 hmv hc hbel
      go_wp2_with fail
      go_at_fn 55
      refine Calls.mono HC.out ?_
      rintro e w' ⟨rfl, hB2⟩
      have HB2 := Lib.hid hB2
      clear hB2 HC
      go_wp2
      go_roundg (n - (k + 1))
      case measure => omega
      case rel => exact ⟨k + 1, by omega, by go_num, Nat.le_refl _, HB.out.trans ((HBL.out.trans (HB2.out.mono (by simp; omega))).mono hsr)⟩
    · obtain rfl : k = n := by omega
      go_wp2
      go_ret
      exact ⟨rfl, HB.out⟩
end Go.Proofs.Ytbhbjcgbhklieaa
