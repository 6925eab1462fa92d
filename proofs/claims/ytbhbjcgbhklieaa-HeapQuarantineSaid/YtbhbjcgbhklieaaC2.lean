/- Size. -/
import Derived.Test.YtbhbjcgbhklieaaC1
namespace Go.Proofs.Ytbhbjcgbhklieaa
open Go.RowKit Go.Shelf

abbrev atI (live : List Piece) (at_ : Int) : Nat := bsAt (fun x => cmpI x.pos at_) live
abbrev isI (live : List Piece) (at_ : Int) : Bool := bsIs (fun x => cmpI x.pos at_) live

set_option maxRecDepth 100000 in
set_option maxHeartbeats 1000000 in
theorem c35 (c : Conf) (lv qv : Value) (gi : Int) (live quar : List Piece) (at_ : Int) (w : World) (hl : Sl 3 encP w lv live) (hq : Sl 3 encP w qv quar) (wl : ∀ p ∈ live, WfP p) (wq : ∀ p ∈ quar, WfP p) :
    Calls Try.prog 35 #[.agg #[.int .i64 c.page, .int .i64 c.n, .int .i64 c.red, .int .i64 c.quarantine, lv, qv, .int .i64 gi], .int .u32 at_] w fun e w' => Below w.heap.size w w' ∧
      ((¬ Good c gi live quar ∧ e = .returned (.tuple #[.int .i64 0, .int .i64 60])) ∨
       (Good c gi live quar ∧ isI live at_ = false ∧ e = .returned (.tuple #[.int .i64 0, .int .i64 61])) ∨
       (Good c gi live quar ∧ isI live at_ = true ∧ e = .returned (.tuple #[.int .i64 live[atI live at_]!.size, .int .i64 0]))) := by
  have hw1 := below_alloc1 w (.cells #[.int .i64 c.page, .int .i64 c.n, .int .i64 c.red, .int .i64 c.quarantine, lv, qv, .int .i64 gi] 26)
  have hcall := c68' c lv qv gi live quar _ (hl.below hw1) (hq.below hw1) wl wq
  have HW1 := Lib.hid hw1
  have HL := Lib.hid hl
  clear hl hq wl wq hw1
  go_enter Try.func35, Try.ntmps35
  go_wp2_with (go_at_call 68; refine hcall.mono ?_; rintro e w' ⟨hB, hr⟩; have HB := Lib.hid hB; obtain ⟨x1, x2, x3⟩ := bcell hB; simp only [World.size_alloc] at x1 x2 x3; clear hB; obtain ⟨hg, p, rfl⟩ | ⟨rfl, L, hL, hH⟩ := hr)
  · go_ret2
    exact ⟨HW1.out.trans (HB.out.mono (by simp)), .inl ⟨hg, rfl⟩⟩
  · simp only [World.size_alloc] at hH
    have hl' : Sl 3 encP w' lv live := (HL.out.below HW1.out).below HB.out
    have hn := c69 _ c lv qv gi L live at_ _ hH hl' (by have := hL.good.n1; omega) hL.live
    have HL' := Lib.hid hl'
    have HG := Lib.hid hL.good
    clear hl' hcall hL hH
    cases hf : isI live at_ with
    | false =>
      rw [show bsIs (fun x : Piece => cmpI x.pos at_) live = false from hf] at hn
      refine Calls.mono hn ?_
      rintro e2 w2 ⟨rfl, hB2⟩
      have HB2 := Lib.hid hB2
      clear hB2 hn
      go_wp2
      go_ret2
      exact ⟨HW1.out.trans ((HB.out.trans (HB2.out.mono HB.out.size)).mono (by simp)), .inr (.inl ⟨HG.out, hf, rfl⟩)⟩
    | true =>
      rw [show bsIs (fun x : Piece => cmpI x.pos at_) live = true from hf] at hn
      have hlt : bsAt (fun x : Piece => cmpI x.pos at_) live < live.length := by
        have := hf; unfold isI bsIs at this; simp only [decide_eq_true_eq] at this; exact this.1
      obtain ⟨i, hi⟩ : ∃ i, bsAt (fun x : Piece => cmpI x.pos at_) live = i := ⟨_, rfl⟩
      have hi' : atI live at_ = i := hi
      rw [hi] at hn hlt
      obtain ⟨A, ca, rfl, _, hl⟩ := HL'.out
      obtain ⟨b, off, rfl, hll⟩ := hl.resolve_left (by rintro rfl; simp at hlt)
      refine Calls.mono hn ?_
      rintro e2 w2 ⟨rfl, hB2⟩
      obtain ⟨l0, l1, l2⟩ := (hll.below hB2).at3 _ hlt
      obtain ⟨y1, y2, y3⟩ := bcell hB2
      have HB2 := Lib.hid hB2
      have hbx := (y1 w.heap.size 4 (by omega)).trans (x1 w.heap.size 4 (by omega))
      have HHI := Lib.hid hi'
      clear hB2 hn y1 y2 x1 x2 hi hi' hl hll
      have hn64 := HG.out.n1
      generalize hx : live[i]! = x at l0 l1 l2
      have HX := Lib.hid hx
      clear hx
      have HHF := Lib.hid hf
      clear hf
      generalize live.length = n at hlt hbx hn64 ⊢
      simp only [World.cell?_alloc_at] at hbx
      go_wp2
      go_ret2
      exact ⟨HW1.out.trans ((HB.out.trans (HB2.out.mono HB.out.size)).mono (by simp)), .inr (.inr ⟨HG.out, HHF.out, by rw [HHI.out, HX.out]; rfl⟩)⟩
end Go.Proofs.Ytbhbjcgbhklieaa
