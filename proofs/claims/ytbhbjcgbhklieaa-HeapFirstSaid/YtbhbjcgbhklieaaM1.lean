/- least: the law's own first fit. -/
import Derived.Test.YtbhbjcgbhklieaaG3
namespace Go.Proofs.Ytbhbjcgbhklieaa
open Go.RowKit Go.Shelf

def leastGo (red size : Int) : List (Int × Int) → Int
  | [] => -1
  | s :: r => if firstF red s.1 + max size 1 + red ≤ s.1 + s.2 then firstF red s.1 else leastGo red size r
theorem leastGo_room (red size : Int) : ∀ (l : List (Int × Int)), leastGo red size (l.map fun g => (g.1, g.2 - g.1)) = (roomGo red size l).getD (-1)
  | [] => rfl
  | g :: l => by
    simp only [List.map_cons, leastGo, roomGo, leastGo_room red size l]
    rw [show g.1 + (g.2 - g.1) = g.2 by omega]
    by_cases h : firstF red g.1 + max size 1 + red ≤ g.2
    · rw [if_pos h, if_pos h]; rfl
    · rw [if_neg h, if_neg h]
theorem leastGo_drop (red size : Int) (S : List (Int × Int)) (k : Nat) (hk : k < S.length) : leastGo red size (S.drop k) = if firstF red S[k]!.1 + max size 1 + red ≤ S[k]!.1 + S[k]!.2 then firstF red S[k]!.1 else leastGo red size (S.drop (k + 1)) := by
  rw [List.drop_eq_getElem_cons hk, getElem!_pos S k hk]
  rfl

set_option maxRecDepth 100000 in
set_option maxHeartbeats 1000000 in
theorem c42 (c : Conf) (v : Value) (S : List (Int × Int)) (size : Int) (w : World) (hs : Sl 2 encN w v S) (hn : S.length ≤ 100000) (r0 : 0 ≤ c.red) (r1 : c.red ≤ 64) (z0 : 0 ≤ size) (z1 : size ≤ 65536)
    (hw : ∀ s ∈ S, 0 ≤ s.1 ∧ s.1 < 4294967296 ∧ 0 ≤ s.2 ∧ s.1 + s.2 ≤ 4294967296) :
    Calls Try.prog 42 #[.agg #[.int .i64 c.page, .int .i64 c.n, .int .i64 c.red, .int .i64 c.quarantine], v, .int .i64 size] w fun e w' => e = .returned (.int .i64 (leastGo c.red size S)) ∧ Below w.heap.size w w' := by
  obtain ⟨A, ca, rfl, _, hl⟩ := hs
  obtain ⟨n, hnn⟩ : ∃ n, S.length = n := ⟨_, rfl⟩
  rw [hnn] at hn ⊢
  have HL := Lib.hid hl
  have HW := Lib.hid hw
  have HN := Lib.hid hnn
  clear hl hw hnn
  go_enter Try.func42, Try.ntmps42
  go_wp2
  go_loopg [12] n (fun kx s12 wr => ∃ k : Nat, k ≤ n ∧ s12 = .int .i64 k ∧ n - k ≤ kx ∧ Hid (leastGo c.red size (S.drop k) = leastGo c.red size S) ∧ Hid (Below w.heap.size w wr) ∧ wr.cell? ⟨w.heap.size, 2, none⟩ = some (.int .i64 c.red) ∧ w.heap.size < wr.heap.size)
  case atStart => exact ⟨0, Nat.zero_le _, rfl, by omega, (rfl : leastGo c.red size (S.drop 0) = leastGo c.red size S), below_alloc1 _ _, by simp [go_sem], by simp⟩
  case round =>
    obtain ⟨k, hk, rfl, hkx, HG, HB, hred, hsz⟩ := hrel
    by_cases hlt : k < n
    · have hkl : k < S.length := by rw [HN.out]; exact hlt
      obtain ⟨b, off, rfl, hL⟩ := HL.out.resolve_left (by rintro rfl; simp at hkl)
      have m0 := (hL.below HB.out).2 k hkl 0 _ rfl
      have m1 := (hL.below HB.out).2 k hkl 1 _ rfl
      have hbb : b < wr.heap.size := Nat.lt_of_lt_of_le hL.1 HB.out.size
      obtain ⟨s0, s1, s2, s3⟩ := HW.out S[k]! (by rw [getElem!_pos S k hkl]; exact List.getElem_mem hkl)
      have hd := leastGo_drop c.red size S k hkl
      generalize S[k]!.1 = x at m0 s0 s1 s3 hd
      generalize S[k]!.2 = y at m1 s2 s3 hd
      have HD := Lib.hid hd
      clear hd hL hkl
      simp only [Nat.add_zero] at m0
      by_cases hfit : (x + c.red + 8 - 1) / 8 * 8 + max size 1 + c.red ≤ x + y
      · have hff : (x + c.red + 8 - 1) / 8 * 8 = firstF c.red x := by unfold firstF; omega
        have HFF := Lib.hid hff
        have hf2 : firstF c.red x + max size 1 + c.red ≤ x + y := by rw [← hff]; exact hfit
        have HF2 := Lib.hid hf2
        clear hff hf2
        go_wp2
        go_ret
        exact ⟨ret_int (by rw [← HG.out, HD.out, if_pos HF2.out, HFF.out]), HB.out.alloc HB.out.size _⟩
      · have hf2 : ¬ firstF c.red x + max size 1 + c.red ≤ x + y := by
          have hff : (x + c.red + 8 - 1) / 8 * 8 = firstF c.red x := by unfold firstF; omega
          rw [← hff]; exact hfit
        have HF2 := Lib.hid hf2
        clear hf2
        go_wp2
        go_roundg (n - (k + 1))
        case measure => omega
        case rel => exact ⟨k + 1, by omega, by go_num, Nat.le_refl _, (by have hf : ¬ _ ≤ _ := Int.not_le.2 HF2.out; rw [← HG.out, HD.out, if_neg hf]; exact rfl), HB.out.alloc HB.out.size _, ((below_alloc1 wr _).cell (p := ⟨w.heap.size, 2, none⟩) hsz).trans hred, by simp; omega⟩
    · obtain rfl : k = n := by omega
      go_wp2
      go_ret
      exact ⟨ret_int (by rw [← HG.out, ← HN.out, List.drop_length]; rfl), HB.out⟩
end Go.Proofs.Ytbhbjcgbhklieaa
