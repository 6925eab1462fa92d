/- Check, Find, Size: by opened's contract. -/
import Derived.Test.YtbhbjcgbhklieaaB8
namespace Go.Proofs.Ytbhbjcgbhklieaa
open Go.RowKit Go.Shelf

set_option maxRecDepth 100000 in
set_option maxHeartbeats 1000000 in
theorem c20 (c : Conf) (lv qv : Value) (gi : Int) (live quar : List Piece) (w : World) (hl : Sl 3 encP w lv live) (hq : Sl 3 encP w qv quar) (wl : ∀ p ∈ live, WfP p) (wq : ∀ p ∈ quar, WfP p) :
    Calls Try.prog 20 #[.agg #[.int .i64 c.page, .int .i64 c.n, .int .i64 c.red, .int .i64 c.quarantine, lv, qv, .int .i64 gi]] w fun e w' => Below w.heap.size w w' ∧
      ((¬ Good c gi live quar ∧ e = .returned (.int .i64 60)) ∨ (Good c gi live quar ∧ e = .returned (.int .i64 0))) := by
  have hw1 := below_alloc1 w (.cells #[.int .i64 c.page, .int .i64 c.n, .int .i64 c.red, .int .i64 c.quarantine, lv, qv, .int .i64 gi] 26)
  have hcall := c68 c lv qv gi live quar _ (hl.below hw1) (hq.below hw1) wl wq
  have HW1 := Lib.hid hw1
  clear hl hq wl wq hw1
  go_enter Try.func20, Try.ntmps20
  go_wp2_with (go_at_call 68; refine hcall.mono ?_; rintro e w' ⟨hB, hr⟩; have HB := Lib.hid hB; clear hB; obtain ⟨hg, p, rfl⟩ | ⟨hg, rfl, L, hL⟩ := hr)
  · go_ret
    exact ⟨HW1.out.trans (HB.out.mono (by simp)), .inl ⟨hg, rfl⟩⟩
  · go_ret
    exact ⟨HW1.out.trans (HB.out.mono (by simp)), .inr ⟨hg, rfl⟩⟩

/-- what every function has behind 'opened' of a good heap. -/
structure Op (c : Conf) (gi : Int) (live quar : List Piece) (L : List Ext) : Prop where
  good : Good c gi live quar
  perm : L.Perm (items c.red live quar)
  fr : SortedFr L
  adj : Adj L
  ext : ∀ x ∈ L, x.fr < x.to ∧ 0 ≤ x.p.pos ∧ x.p.pos < 4294967296
  to : ∀ i j, i ≤ j → j < L.length → L[i]!.to ≤ L[j]!.to
  len : L.length ≤ 2000
  live : ∀ i j, i ≤ j → j < live.length → live[i]!.pos ≤ live[j]!.pos

def OpAns' (c : Conf) (lv qv : Value) (gi : Int) (live quar : List Piece) (w : World) (e : Ending) (w' : World) : Prop :=
  Below w.heap.size w w' ∧
  ((¬ Good c gi live quar ∧ ∃ p, e = .returned (.tuple #[.pointer p, .bool false])) ∨
   (e = .returned (.tuple #[.pointer (some ⟨w.heap.size + 3, 0, none⟩), .bool true]) ∧ ∃ L : List Ext, Op c gi live quar L ∧ HeapB w' (w.heap.size + 3) c lv qv gi L))

theorem c68' (c : Conf) (lv qv : Value) (gi : Int) (live quar : List Piece) (w : World) (hl : Sl 3 encP w lv live) (hq : Sl 3 encP w qv quar) (wl : ∀ p ∈ live, WfP p) (wq : ∀ p ∈ quar, WfP p) :
    Calls Try.prog 68 #[.agg #[.int .i64 c.page, .int .i64 c.n, .int .i64 c.red, .int .i64 c.quarantine, lv, qv, .int .i64 gi]] w (OpAns' c lv qv gi live quar w) := by
  refine (c68 c lv qv gi live quar w hl hq wl wq).mono ?_
  rintro e w' ⟨hB, ⟨hg, p, rfl⟩ | ⟨hg, rfl, L, h1, h2, h3, h4⟩⟩
  · exact ⟨hB, .inl ⟨hg, p, rfl⟩⟩
  · obtain ⟨k1, k2, k3, k4⟩ := good_list hg wl wq h1 h2 h3
    exact ⟨hB, .inr ⟨rfl, L, ⟨hg, h1, h2, h3, k1, k2, k3, k4⟩, h4⟩⟩

theorem Op.pos {c : Conf} {gi : Int} {live quar : List Piece} {L : List Ext} (h : Op c gi live quar L) : ∀ i, i < L.length → 0 ≤ L[i]!.p.pos ∧ L[i]!.p.pos < 4294967296 := fun i hi =>
  (h.ext L[i]! (by rw [getElem!_pos L i hi]; exact List.getElem_mem hi)).2

set_option maxRecDepth 100000 in
set_option maxHeartbeats 1000000 in
theorem c26 (c : Conf) (lv qv : Value) (gi : Int) (live quar : List Piece) (at_ : Int) (w : World) (hl : Sl 3 encP w lv live) (hq : Sl 3 encP w qv quar) (wl : ∀ p ∈ live, WfP p) (wq : ∀ p ∈ quar, WfP p) (h0 : 0 ≤ at_) (h1 : at_ < 4294967296) :
    Calls Try.prog 26 #[.agg #[.int .i64 c.page, .int .i64 c.n, .int .i64 c.red, .int .i64 c.quarantine, lv, qv, .int .i64 gi], .int .u32 at_] w fun e w' => Below w.heap.size w w' ∧
      ((¬ Good c gi live quar ∧ e = .returned (.agg #[.int .i64 0, .int .i64 0, .int .i64 0])) ∨
       (∃ L, Op c gi live quar L ∧ e = .returned (.agg #[.int .i64 (nearF L at_).1, .int .i64 (nearF L at_).2.1, .int .i64 (nearF L at_).2.2]))) := by
  have hw1 := (below_alloc1 w (.cells #[.int .i64 c.page, .int .i64 c.n, .int .i64 c.red, .int .i64 c.quarantine, lv, qv, .int .i64 gi] 26)).alloc (by simp) (.cells #[.int .i64 0, .int .i64 0, .int .i64 0] 48)
  have hcall := c68' c lv qv gi live quar _ (hl.below hw1) (hq.below hw1) wl wq
  have HW1 := Lib.hid hw1
  clear hl hq wl wq hw1
  go_enter Try.func26, Try.ntmps26
  go_wp2_with (go_at_call 68; refine hcall.mono ?_; rintro e w' ⟨hB, hr⟩; have HB := Lib.hid hB; obtain ⟨x1, x2, x3⟩ := bcell hB; simp only [World.size_alloc] at x1 x2 x3; have x4 := lt2 x3; clear hB; obtain ⟨hg, p, rfl⟩ | ⟨rfl, L, hL, hH⟩ := hr; try simp only [World.size_alloc] at hH)
  · refine bodyPost_ret (v := .agg #[.int .i64 0, .int .i64 0, .int .i64 0]) (by simp [results, Try.results26, go_sem, x1]) rfl ⟨?_, .inl ⟨hg, rfl⟩⟩
    repeat' first | exact HW1.out.trans (HB.out.mono (by simp; try omega)) | refine Below.setCell ?_ (by simp; try omega) _
  · simp only [World.size_alloc] at hH
    have hn := (c75 _ c lv qv gi L at_ _ hH (by have := hL.len; omega) h0 h1 hL.to hL.pos)
    refine Calls.mono hn ?_
    rintro e2 w2 ⟨rfl, hB2⟩
    have HB2 := Lib.hid hB2
    obtain ⟨y1, y2, y3⟩ := bcell hB2
    have y4 := (y1 (w.heap.size + 1) 0 x4.2.1).trans (x1 (w.heap.size + 1) 0 (by omega))
    have y5 := (y1 (w.heap.size + 1) 1 x4.2.1).trans (x1 (w.heap.size + 1) 1 (by omega))
    have y6 := (y1 (w.heap.size + 1) 2 x4.2.1).trans (x1 (w.heap.size + 1) 2 (by omega))
    have y7 := (y2 (w.heap.size + 1) 0 x4.2.1).trans (x2 (w.heap.size + 1) 0 (by omega))
    have y8 := (y2 (w.heap.size + 1) 1 x4.2.1).trans (x2 (w.heap.size + 1) 1 (by omega))
    have y9 := (y2 (w.heap.size + 1) 2 x4.2.1).trans (x2 (w.heap.size + 1) 2 (by omega))
    clear hB2 hn y1 y2
    go_wp2
    refine bodyPost_ret (v := .agg #[.int .i64 (nearF L at_).1, .int .i64 (nearF L at_).2.1, .int .i64 (nearF L at_).2.2]) (by simp [results, Try.results26, go_sem, y4, y5, y6]) rfl ⟨?_, .inr ⟨L, hL, rfl⟩⟩
    repeat' first | exact HW1.out.trans ((HB.out.trans (HB2.out.mono HB.out.size)).mono (by simp; try omega)) | refine Below.setCell ?_ (by simp; try omega) _
end Go.Proofs.Ytbhbjcgbhklieaa
