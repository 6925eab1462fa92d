/- slices.IsSortedFunc at pieces. -/
import Derived.Test.YtbhbjcgbhklieaaA8
namespace Go.Proofs.Ytbhbjcgbhklieaa
open Go.RowKit Go.Shelf

def SortedPos (zs : List Piece) : Prop := ∀ j, j + 1 < zs.length → zs[j]!.pos ≤ zs[j + 1]!.pos
instance (zs : List Piece) : Decidable (SortedPos zs) := decidable_of_iff (∀ j : Fin zs.length, j.1 + 1 < zs.length → zs[j.1]!.pos ≤ zs[j.1 + 1]!.pos) ⟨fun h j hj => h ⟨j, by omega⟩ hj, fun h j hj => h j.1 hj⟩

set_option maxRecDepth 100000 in
set_option maxHeartbeats 1000000 in
theorem c90 (v : Value) (zs : List Piece) (w : World) (hs : Sl 3 encP w v zs) (hbig : zs.length < 4611686018427387904) :
    Calls Try.prog 90 #[v, .func (.func 91) #[] #[]] w fun e w' => e = .returned (.bool (decide (SortedPos zs))) ∧ Below w.heap.size w w' := by
  obtain ⟨A, c, rfl, _, hs⟩ := hs
  have HS := Lib.hid hs
  clear hs
  generalize hn : zs.length = n at hbig
  have HN := Lib.hid hn
  clear hn
  go_enter Try.func90, Try.ntmps90
  go_wp2
  go_loopg [5] n (fun kx i wr => ∃ (z : Int) (k : Nat), i = .int .i64 z ∧ z = (k : Int) - 1 ∧ k ≤ n ∧ k ≤ kx ∧ Hid (∀ j, k ≤ j + 1 → j + 1 < n → zs[j]!.pos ≤ zs[j + 1]!.pos) ∧ Hid (Below w.heap.size w wr))
  case atStart => exact ⟨_, n, rfl, rfl, Nat.le_refl _, Nat.le_refl _, fun j h1 h2 => by omega, Below.refl _ _⟩
  case round =>
    obtain ⟨z, k, rfl, hz, hk, hkx, HI, HB⟩ := hrel
    by_cases h0 : 0 < z
    · have hk1 : k - 1 < zs.length := by rw [HN.out]; omega
      have hk2 : k - 2 < zs.length := by rw [HN.out]; omega
      obtain ⟨b, off, rfl, hl⟩ := HS.out.resolve_left (by rintro rfl; simp at hk1)
      obtain ⟨l0, l1, l2⟩ := (hl.below HB.out).at3 _ hk1
      obtain ⟨m0, m1, m2⟩ := (hl.below HB.out).at3 _ hk2
      have hcall := c91 zs[k - 1]! zs[k - 2]! wr.drew
      generalize hx : zs[k - 1]! = x at l0 l1 l2 hcall
      generalize hy : zs[k - 2]! = y at m0 m1 m2 hcall
      have X := Lib.hid hx
      have Y := Lib.hid hy
      obtain ⟨t, rfl⟩ : ∃ t, k = t + 2 := ⟨k - 2, by omega⟩
      rw [show t + 2 - 1 = t + 1 by omega] at l0 l1 l2 X
      rw [show t + 2 - 2 = t by omega] at m0 m1 m2 Y
      obtain rfl : z = ((t + 1 : Nat) : Int) := by omega
      have hb1 : (t : Int) + 1 < (n : Int) := by have := HN.out; omega
      have hb2 : t + 1 < n := by omega
      have hb3 : t < n := by omega
      have hb4 : 0 ≤ (t : Int) + 1 := by omega
      have hb5 : (t : Int) + 1 - 1 = t := by omega
      have hb6 : ((t : Int) + 1).toNat = t + 1 := by omega
      have hb7 : IntKind.i64.wrap (t : Int) = t := by simp only [IntKind.wrap, IntKind.bits, IntKind.signed]; simp; omega
      clear hx hy hl hk1 hk2 hz
      unfold encP at hcall
      go_wp2
      refine region_tail 10 (by kernel_rfl) (by kernel_rfl) ?_
      simp only [List.take_succ_cons, List.take_zero, List.drop_succ_cons, List.drop_zero]
      repeat still_step
      refine wpStill_nil ?_
      by_cases hxy : x.pos < y.pos
      · have hc1 : cmpI x.pos y.pos = -1 := by unfold cmpI; simp [hxy]
        rw [hc1] at hcall
        go_wp2_with (go_at_call 91; refine hcall.mono ?_; rintro e w' ⟨rfl, rfl⟩)
        go_ret
        have e1 : decide (SortedPos zs) = false := decide_eq_false fun hs => by
          have := hs t (by rw [HN.out]; omega)
          rw [X.out, Y.out] at this
          omega
        exact ⟨by rw [e1]; rfl, HB.out.trans (((Below.refl _ _).drew.alloc (by simpa using HB.out.size) _).alloc (by have := HB.out.size; simp; omega) _)⟩
      · have hc1 : ¬ cmpI x.pos y.pos < 0 := by unfold cmpI; split <;> (try split) <;> omega
        go_wp2_with (go_at_call 91; refine hcall.mono ?_; rintro e w' ⟨rfl, rfl⟩)
        go_roundg (t + 1)
        case measure => omega
        case rel =>
          refine ⟨_, t + 1, rfl, by omega, by omega, Nat.le_refl _, ?_, HB.out.trans (((Below.refl _ _).drew.alloc (by simpa using HB.out.size) _).alloc (by have := HB.out.size; simp; omega) _)⟩
          intro j h1 h2
          by_cases hj : j = t
          · subst hj; rw [X.out, Y.out]; omega
          · exact HI.out j (by omega) h2
    · go_wp2
      go_ret
      have e1 : decide (SortedPos zs) = true := decide_eq_true fun j hj => HI.out j (by omega) (by rw [HN.out] at hj; exact hj)
      exact ⟨by rw [e1]; rfl, HB.out⟩
end Go.Proofs.Ytbhbjcgbhklieaa
