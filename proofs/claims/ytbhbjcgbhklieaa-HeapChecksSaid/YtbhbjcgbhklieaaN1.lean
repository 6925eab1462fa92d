/- The specification's Check, New. -/
import Derived.Test.YtbhbjcgbhklieaaF4
import Derived.Test.YtbhbjcgbhklieaaE10
namespace Go.Proofs.Ytbhbjcgbhklieaa
open Go.RowKit Go.Shelf

set_option maxRecDepth 100000 in
set_option maxHeartbeats 1000000 in
theorem c32 (c : Conf) (lv qv : Value) (gi : Int) (live quar : List Piece) (w : World) (hl : Sl 3 encP w lv live) (hq : Sl 3 encP w qv quar) (wl : ∀ p ∈ live, WfP p) (wq : ∀ p ∈ quar, WfP p) :
    Calls Try.prog 32 #[hAgg c lv qv gi] w fun e w' => Below w.heap.size w w' ∧ ((¬ GoodP c gi live quar ∧ e = .returned (.int .i64 60)) ∨ (GoodP c gi live quar ∧ e = .returned (.int .i64 0))) := by
  have hB : Below w.heap.size w (w.alloc (.cells #[.int .i64 c.page, .int .i64 c.n, .int .i64 c.red, .int .i64 c.quarantine, lv, qv, .int .i64 gi] 26)) := below_alloc1 w _
  have h := c18 c lv qv gi live quar _ (hl.below hB) (hq.below hB) wl wq
  have H := Lib.hid h
  have HB := Lib.hid hB
  obtain ⟨A, ca, rfl, _, _⟩ := hl
  obtain ⟨B, cb, rfl, _, _⟩ := hq
  clear h hB wl wq
  go_enter Try.func32, Try.ntmps32
  go_wp2_with fail
  refine Calls.mono H.out ?_
  clear H
  rintro e w1 ⟨hB1, ⟨hg, rfl⟩ | ⟨hg, rfl⟩⟩
  · have HG := Lib.hid hg
    clear hg
    go_wp2
    go_ret
    exact ⟨HB.out.trans (hB1.mono (by simp)), .inl ⟨HG.out, rfl⟩⟩
  · have HG := Lib.hid hg
    clear hg
    go_wp2
    go_ret
    exact ⟨HB.out.trans (hB1.mono (by simp)), .inr ⟨HG.out, rfl⟩⟩
end Go.Proofs.Ytbhbjcgbhklieaa
