/- ContainsFunc at pieces: none meets. -/
import Derived.Test.YtbhbjcgbhklieaaE4
namespace Go.Proofs.Ytbhbjcgbhklieaa
open Go.RowKit Go.Shelf

set_option maxRecDepth 100000 in
set_option maxHeartbeats 1000000 in
/-- HeapQuarantine's closure, at a piece that the placed block does not meet. -/
theorem c25 (pa ph ps : Nat) (at_ red size : Int) (p : Piece) (w : World) (ha : w.cell? ⟨pa, 0, none⟩ = some (.int .u32 at_)) (hr : w.cell? ⟨ph, 2, none⟩ = some (.int .i64 red)) (hz : w.cell? ⟨ps, 0, none⟩ = some (.int .i64 size))
    (la : pa < w.heap.size) (lh : ph < w.heap.size) (ls : ps < w.heap.size) (a0 : 0 ≤ at_) (a1 : at_ < 4294967296) (r0 : 0 ≤ red) (r1 : red ≤ 64) (z0 : 0 ≤ size) (z1 : size ≤ 65536) (hp : WfP p) (p0 : 0 ≤ p.size) (p1 : p.size ≤ 65536)
    (hno : p.pos + max p.size 1 + red ≤ at_ - red ∨ at_ + max size 1 + red ≤ p.pos - red) :
    Calls Try.prog 25 #[.agg #[.int .u32 p.pos, .int .i64 p.size, .int .i64 p.born], .pointer (some ⟨pa, 0, none⟩), .pointer (some ⟨ph, 0, none⟩), .pointer (some ⟨ps, 0, none⟩)] w fun e w' => e = .returned (.bool false) ∧ Below w.heap.size w w' := by
  obtain ⟨q0, q1⟩ := hp
  have m1 : 1 ≤ max p.size 1 ∧ max p.size 1 ≤ 65536 := by omega
  have m2 : 1 ≤ max size 1 ∧ max size 1 ≤ 65536 := by omega
  by_cases h1 : p.pos + max p.size 1 + red ≤ at_ - red
  · have h1' : decide (at_ - red < p.pos + max p.size 1 + red) = false := decide_eq_false (by omega)
    clear hno
    go_enter Try.func25, Try.ntmps25
    go_wp2
    all_goals go_ret
    all_goals exact ⟨rfl, below_alloc1 _ _⟩
  · have h1' : decide (at_ - red < p.pos + max p.size 1 + red) = true := decide_eq_true (by omega)
    have h2' : decide (p.pos - red < at_ + max size 1 + red) = false := decide_eq_false (by omega)
    clear hno
    go_enter Try.func25, Try.ntmps25
    go_wp2
    all_goals go_ret
    all_goals exact ⟨rfl, below_alloc1 _ _⟩

set_option maxRecDepth 100000 in
set_option maxHeartbeats 1000000 in
theorem c74 (v : Value) (zs : List Piece) (cb : Array Value) (w : World) (hs : Sl 3 encP w v zs) (hn : zs.length ≤ 100000)
    (hf : ∀ j, j < zs.length → ∀ W, Below w.heap.size w W → Calls Try.prog 25 (#[.agg #[.int .u32 zs[j]!.pos, .int .i64 zs[j]!.size, .int .i64 zs[j]!.born]] ++ cb) W fun e w' => e = .returned (.bool false) ∧ Below W.heap.size W w') :
    Calls Try.prog 74 #[v, .func (.func 25) #[] cb] w fun e w' => e = .returned (.int .i64 (-1)) ∧ Below w.heap.size w w' := by
  obtain ⟨A, ca, rfl, _, hl⟩ := hs
  obtain ⟨n, hnn⟩ : ∃ n, zs.length = n := ⟨_, rfl⟩
  rw [hnn] at hf hn ⊢
  have HF := Lib.hid hf
  have HL := Lib.hid hl
  have HN := Lib.hid hnn
  have eg : ∀ args w, (callFunc 25 args).run Try.prog w = .ok (.enter 25 args) w := enters_of Try.func25 (by kernel_rfl) rfl
  clear hf hl hnn
  go_enter Try.func74, Try.ntmps74
  go_wp2
  go_loopg [8] n (fun kx s8 wr => ∃ k : Nat, k ≤ n ∧ s8 = .int .i64 k ∧ n - k ≤ kx ∧ Hid (Below w.heap.size w wr))
  case atStart => exact ⟨0, Nat.zero_le _, rfl, by omega, Below.refl _ _⟩
  case round =>
    obtain ⟨k, hk, rfl, hkx, HB⟩ := hrel
    by_cases hlt : k < n
    · have hkl : k < zs.length := by rw [HN.out]; exact hlt
      obtain ⟨b, off, rfl, hL⟩ := HL.out.resolve_left (by rintro rfl; simp at hkl)
      obtain ⟨m0, m1, m2⟩ := (hL.below HB.out).at3 k hkl
      have hcall := HF.out k hlt wr HB.out
      generalize zs[k]! = x at m0 m1 m2 hcall
      have HC := Lib.hid hcall
      clear hcall hL hkl
      go_wp2_with fail
      go_at_fn 25
      refine Calls.mono HC.out ?_
      rintro e w' ⟨rfl, hB2⟩
      have HB2 := Lib.hid hB2
      clear hB2 HC
      go_wp2
      go_roundg (n - (k + 1))
      case measure => omega
      case rel => exact ⟨k + 1, by omega, by go_num, Nat.le_refl _, HB.out.trans (HB2.out.mono HB.out.size)⟩
    · obtain rfl : k = n := by omega
      go_wp2
      go_ret
      exact ⟨rfl, HB.out⟩

theorem c24 (v : Value) (zs : List Piece) (cb : Array Value) (w : World) (hs : Sl 3 encP w v zs) (hn : zs.length ≤ 100000)
    (hf : ∀ j, j < zs.length → ∀ W, Below w.heap.size w W → Calls Try.prog 25 (#[.agg #[.int .u32 zs[j]!.pos, .int .i64 zs[j]!.size, .int .i64 zs[j]!.born]] ++ cb) W fun e w' => e = .returned (.bool false) ∧ Below W.heap.size W w') :
    Calls Try.prog 24 #[v, .func (.func 25) #[] cb] w fun e w' => e = .returned (.bool false) ∧ Below w.heap.size w w' := by
  have h := c74 v zs cb w hs hn hf
  clear hf hs
  go_enter Try.func24, Try.ntmps24
  go_wp2_with fail
  refine Calls.mono h ?_
  rintro e w' ⟨rfl, hB⟩
  go_wp2
  go_ret
  exact ⟨rfl, hB⟩
end Go.Proofs.Ytbhbjcgbhklieaa
