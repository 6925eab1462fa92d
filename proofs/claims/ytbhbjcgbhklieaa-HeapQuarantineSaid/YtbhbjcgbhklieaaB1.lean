/- opened: the beginning, where it returns at once. -/
import Derived.Test.YtbhbjcgbhklieaaA8
namespace Go.Proofs.Ytbhbjcgbhklieaa
open Go.RowKit Go.Shelf

set_option maxRecDepth 100000 in
set_option maxHeartbeats 4000000 in
theorem c68_no (c : Conf) (A B : Option Addr) (n1 c1 n2 c2 : Nat) (gi : Int) (w : World) (h : okConf c = false ∨ gi < 0 ∨ 1073741824 < gi ∨ 1000 < n1 ∨ 1000 < n2) :
    Calls Try.prog 68 #[.agg #[.int .i64 c.page, .int .i64 c.n, .int .i64 c.red, .int .i64 c.quarantine, .slice A n1 c1, .slice B n2 c2, .int .i64 gi]] w fun e w' => e = .returned (.tuple #[.pointer none, .bool false]) ∧ Below w.heap.size w w' := by
  have hv := fun W => c79 c W
  unfold encC at hv
  cases hok : okConf c with
  | false =>
    rw [hok] at hv
    clear h hok
    go_enter Try.func68, Try.ntmps68
    go_wp2_with (go_at_call 79; refine (hv _).mono ?_; rintro e w' ⟨rfl, rfl⟩)
    refine bodyPost_ret (v := .tuple #[.pointer none, .bool false]) (by simp [results, Try.results68, go_sem]) rfl ⟨rfl, ?_⟩
    repeat' first | exact Below.refl _ _ | refine Below.alloc ?_ (by simp; try omega) _
  | true =>
    rw [hok] at hv h
    replace h := h.resolve_left (by simp)
    clear hok
    by_cases h1 : gi < 0
    · clear h
      go_enter Try.func68, Try.ntmps68
      go_wp2_with (go_at_call 79; refine (hv _).mono ?_; rintro e w' ⟨rfl, rfl⟩)
      refine bodyPost_ret (v := .tuple #[.pointer none, .bool false]) (by simp [results, Try.results68, go_sem]) rfl ⟨rfl, ?_⟩
      repeat' first | exact Below.refl _ _ | refine Below.alloc ?_ (by simp; try omega) _
    · by_cases h2 : 1073741824 < gi
      · clear h
        go_enter Try.func68, Try.ntmps68
        go_wp2_with (go_at_call 79; refine (hv _).mono ?_; rintro e w' ⟨rfl, rfl⟩)
        refine bodyPost_ret (v := .tuple #[.pointer none, .bool false]) (by simp [results, Try.results68, go_sem]) rfl ⟨rfl, ?_⟩
        repeat' first | exact Below.refl _ _ | refine Below.alloc ?_ (by simp; try omega) _
      · by_cases h3 : 1000 < n1
        · clear h
          go_enter Try.func68, Try.ntmps68
          go_wp2_with (go_at_call 79; refine (hv _).mono ?_; rintro e w' ⟨rfl, rfl⟩)
          refine bodyPost_ret (v := .tuple #[.pointer none, .bool false]) (by simp [results, Try.results68, go_sem]) rfl ⟨rfl, ?_⟩
          repeat' first | exact Below.refl _ _ | refine Below.alloc ?_ (by simp; try omega) _
        · have h4 : 1000 < n2 := by omega
          clear h
          go_enter Try.func68, Try.ntmps68
          go_wp2_with (go_at_call 79; refine (hv _).mono ?_; rintro e w' ⟨rfl, rfl⟩)
          refine bodyPost_ret (v := .tuple #[.pointer none, .bool false]) (by simp [results, Try.results68, go_sem]) rfl ⟨rfl, ?_⟩
          repeat' first | exact Below.refl _ _ | refine Below.alloc ?_ (by simp; try omega) _
end Go.Proofs.Ytbhbjcgbhklieaa
