/- New. -/
import Derived.Test.YtbhbjcgbhklieaaC1
namespace Go.Proofs.Ytbhbjcgbhklieaa
open Go.RowKit Go.Shelf

set_option maxRecDepth 100000 in
set_option maxHeartbeats 1000000 in
theorem c30 (c : Conf) (w : World) :
    Calls Try.prog 30 #[.agg (encC c).toArray] w fun e w' => Below w.heap.size w w' ∧
      ((okConf c = false ∧ e = .returned (.tuple #[.agg #[.int .i64 0, .int .i64 0, .int .i64 0, .int .i64 0, .slice none 0 0, .slice none 0 0, .int .i64 0], .int .i64 1])) ∨
       (okConf c = true ∧ e = .returned (.tuple #[.agg #[.int .i64 c.page, .int .i64 c.n, .int .i64 c.red, .int .i64 c.quarantine, .slice none 0 0, .slice none 0 0, .int .i64 0], .int .i64 0]))) := by
  have hv := fun W => c79 c W
  unfold encC at hv ⊢
  cases hok : okConf c with
  | false =>
    rw [hok] at hv
    go_enter Try.func30, Try.ntmps30
    go_wp2_with (go_at_call 79; refine (hv _).mono ?_; rintro e w' ⟨rfl, rfl⟩)
    refine bodyPost_ret (v := .tuple #[.agg #[.int .i64 0, .int .i64 0, .int .i64 0, .int .i64 0, .slice none 0 0, .slice none 0 0, .int .i64 0], .int .i64 1]) (by simp [results, Try.results30, go_sem]) rfl ⟨?_, .inl ⟨trivial, rfl⟩⟩
    repeat' first | exact Below.refl _ _ | refine Below.alloc ?_ (by simp; try omega) _ | refine Below.setCell ?_ (by simp; try omega) _
  | true =>
    rw [hok] at hv
    go_enter Try.func30, Try.ntmps30
    go_wp2_with (go_at_call 79; refine (hv _).mono ?_; rintro e w' ⟨rfl, rfl⟩)
    refine bodyPost_ret (v := .tuple #[.agg #[.int .i64 c.page, .int .i64 c.n, .int .i64 c.red, .int .i64 c.quarantine, .slice none 0 0, .slice none 0 0, .int .i64 0], .int .i64 0]) (by simp [results, Try.results30, go_sem]) rfl ⟨?_, .inr ⟨trivial, rfl⟩⟩
    repeat' first | exact Below.refl _ _ | refine Below.alloc ?_ (by simp; try omega) _ | refine Below.setCell ?_ (by simp; try omega) _
end Go.Proofs.Ytbhbjcgbhklieaa
