/- slices.BinarySearchFunc at pieces; at no element. -/
import Derived.Test.YtbhbjcgbhklieaaA2
namespace Go.Proofs.Ytbhbjcgbhklieaa
open Go.RowKit

set_option maxRecDepth 100000 in
set_option maxHeartbeats 1000000 in
theorem c106 (cft : Piece → Int) (g : Nat) (cb : Array Value) (eg : ∀ args w, (callFunc g args).run Try.prog w = .ok (.enter g args) w) (b off c : Nat) (zs : List Piece) (w : World)
    (hp : CmpB g cb encP cft w) (hl : Lies 3 encP w b off zs) (hbig : zs.length < 4611686018427387904)
    (hmono : ∀ i j, i ≤ j → j < zs.length → cft zs[j]! < 0 → cft zs[i]! < 0) :
    Calls Try.prog 106 #[.slice (some ⟨b, off, none⟩) zs.length c, .int .i64 0, .func (.func g) #[] cb] w fun e w' => e = .returned (.tuple #[.int .i64 (bsAt cft zs), .bool (bsIs cft zs)]) ∧ Below w.heap.size w w' := by
  have HP := Lib.hid hp
  have HL := Lib.hid hl
  have HM := Lib.hid hmono
  clear hp hl hmono
  generalize hn : zs.length = n at hbig
  have HN : Hid (zs.length = n) := hn
  clear hn
  go_enter Try.func106, Try.ntmps106
  go_wp2
  go_loopg [9, 10] n (fun kx s9 s10 wr => ∃ lo hi : Nat, s9 = .int .i64 lo ∧ s10 = .int .i64 hi ∧ lo ≤ hi ∧ hi ≤ n ∧ hi - lo ≤ kx ∧ Hid (Below w.heap.size w wr) ∧
    Hid ((∀ t, t < lo → cft zs[t]! < 0) ∧ (∀ t, hi ≤ t → t < n → 0 ≤ cft zs[t]!)))
  case atStart => exact ⟨0, n, rfl, rfl, Nat.zero_le _, Nat.le_refl _, by omega, Below.refl _ _, (⟨fun t ht => absurd ht (Nat.not_lt_zero _), fun t h1 h2 => by omega⟩ : (∀ t, t < 0 → cft zs[t]! < 0) ∧ (∀ t, n ≤ t → t < n → 0 ≤ cft zs[t]!))⟩
  case round =>
    obtain ⟨lo, hi, rfl, rfl, hlh, hin, hg, BW, I⟩ := hrel
    by_cases hlt : lo < hi
    · have hm : (lo + hi) / 2 < zs.length := by have := HN.out; omega
      obtain ⟨l0, l1, l2⟩ := (HL.out.below BW.out).at3 ((lo + hi) / 2) hm
      have hcall := HP.out wr zs[(lo + hi) / 2]! BW.out
      generalize hy : zs[(lo + hi) / 2]! = y at l0 l1 l2 hcall
      have Y : Hid (zs[(lo + hi) / 2]! = y) := hy
      clear hy hm
      unfold encP at hcall
      by_cases hyx : cft y < 0
      · go_wp2_with (go_at_fn g; refine hcall.mono ?_; rintro e w' ⟨rfl, BW'⟩)
        go_roundg (hi - ((lo + hi) / 2 + 1))
        case measure => omega
        case rel =>
          have I2 : Hid ((∀ t, t < (lo + hi) / 2 + 1 → cft zs[t]! < 0) ∧ (∀ t, hi ≤ t → t < n → 0 ≤ cft zs[t]!)) := ⟨fun t ht => HM.out t ((lo + hi) / 2) (by omega) (by have := HN.out; omega) (by rw [Y.out]; exact hyx), I.out.2⟩
          exact ⟨(lo + hi) / 2 + 1, hi, by rw [show ((lo : Int) + (hi : Int)) / 2 + 1 = (((lo + hi) / 2 + 1 : Nat) : Int) by omega], rfl, by omega, hin, Nat.le_refl _, BW', I2⟩
      · go_wp2_with (go_at_fn g; refine hcall.mono ?_; rintro e w' ⟨rfl, BW'⟩)
        go_roundg ((lo + hi) / 2 - lo)
        case measure => omega
        case rel =>
          have I2 : Hid ((∀ t, t < lo → cft zs[t]! < 0) ∧ (∀ t, (lo + hi) / 2 ≤ t → t < n → 0 ≤ cft zs[t]!)) := ⟨I.out.1, fun t ht htn => Int.not_lt.1 fun h => by have := HM.out ((lo + hi) / 2) t ht (by have := HN.out; omega) h; rw [Y.out] at this; omega⟩
          exact ⟨lo, (lo + hi) / 2, rfl, by rw [show ((lo : Int) + (hi : Int)) / 2 = (((lo + hi) / 2 : Nat) : Int) by omega], by omega, by omega, Nat.le_refl _, BW', I2⟩
    · obtain rfl : hi = lo := by omega
      have hn := HN.out
      have ecnt : bsAt cft zs = hi := by
        unfold bsAt
        exact countP_boundary _ zs hi (by omega) (fun t ht => decide_eq_true (I.out.1 t ht)) (fun t h3 h4 => decide_eq_false (by have := I.out.2 t h3 (by omega); omega))
      have EC := Lib.hid ecnt
      clear ecnt
      by_cases hlt2 : hi < n
      · have hm : hi < zs.length := by omega
        obtain ⟨l0, l1, l2⟩ := (HL.out.below BW.out).at3 hi hm
        have hcall := HP.out wr zs[hi]! BW.out
        generalize hy : zs[hi]! = y at l0 l1 l2 hcall
        have Y : Hid (zs[hi]! = y) := hy
        clear hy hm hn
        unfold encP at hcall
        by_cases hyx : cft y = 0
        · rw [hyx] at hcall
          go_wp2_with (go_at_fn g; refine hcall.mono ?_; rintro e w' ⟨rfl, BW'⟩)
          go_ret2
          exact ⟨by rw [EC.out, bsIs, EC.out, Y.out, HN.out]; simp [hlt2, hyx], BW'⟩
        · go_wp2_with (go_at_fn g; refine hcall.mono ?_; rintro e w' ⟨rfl, BW'⟩)
          go_ret2
          exact ⟨by rw [EC.out, bsIs, EC.out, Y.out, HN.out]; simp [hlt2, hyx], BW'⟩
      · clear hn
        go_wp2
        go_ret2
        exact ⟨by rw [EC.out, bsIs, EC.out, HN.out]; simp [hlt2], BW.out⟩

/-- .. at no element -/
theorem c109_nil (A : Option Addr) (c : Nat) (fv : Value) (w : World) : Calls Try.prog 109 #[.slice A 0 c, .int .i64 0, fv] w fun e w' => e = .returned (.tuple #[.int .i64 0, .bool false]) ∧ w' = w := by
  go_enter Try.func109, Try.ntmps109
  go_wp2
  refine wp_loop_rounds 1 ?_
  rw [rounds_succ]
  go_wp2
  go_ret2
  exact ⟨rfl, rfl⟩

/-- .. at no element -/
theorem c106_nil (A : Option Addr) (c : Nat) (fv : Value) (w : World) : Calls Try.prog 106 #[.slice A 0 c, .int .i64 0, fv] w fun e w' => e = .returned (.tuple #[.int .i64 0, .bool false]) ∧ w' = w := by
  go_enter Try.func106, Try.ntmps106
  go_wp2
  refine wp_loop_rounds 1 ?_
  rw [rounds_succ]
  go_wp2
  go_ret2
  exact ⟨rfl, rfl⟩
end Go.Proofs.Ytbhbjcgbhklieaa
