/- Alloc. -/
import Derived.Test.YtbhbjcgbhklieaaC4
import Derived.Test.YtbhbjcgbhklieaaE1
import Derived.Test.YtbhbjcgbhklieaaE3
namespace Go.Proofs.Ytbhbjcgbhklieaa
open Go.RowKit Go.Shelf

abbrev hAgg (c : Conf) (lv qv : Value) (gi : Int) : Value := .agg #[.int .i64 c.page, .int .i64 c.n, .int .i64 c.red, .int .i64 c.quarantine, lv, qv, .int .i64 gi]
abbrev hNil : Value := .agg #[.int .i64 0, .int .i64 0, .int .i64 0, .int .i64 0, .slice none 0 0, .slice none 0 0, .int .i64 0]

/-- a list of pieces in memory that was made since the world had N blocks. -/
structure Fresh (N : Nat) (w : World) (v : Value) (zs : List Piece) : Prop where
  sl : Sl 3 encP w v zs
  new : ∀ A n c, v = .slice (some A) n c → ∃ b off, A = ⟨b, off, none⟩ ∧ N ≤ b

theorem Fresh.of_own {N : Nat} {w : World} {v : Value} {zs : List Piece} {n : Nat} (h : w.ownsRow N 38 3 v n (zs.flatMap encP)) (hn : n = zs.length) : Fresh N w v zs := by
  subst hn
  rcases h.2 with ⟨rfl, h0⟩ | ⟨g, cap, cur, rfl, hb, hg, hc, hm, hcs, ht⟩
  · exact ⟨⟨none, 0, by rw [h0], by omega, .inl (List.eq_nil_of_length_eq_zero h0)⟩, fun _ _ _ e => by cases e⟩
  · refine ⟨⟨_, _, rfl, hc, .inr ⟨g, 0, rfl, blk_lt hg, fun j hj i v hv => ?_⟩⟩, fun A n c e => by cases e; exact ⟨g, 0, rfl, hb⟩⟩
    have hi : i < 3 := (List.getElem?_eq_some_iff.1 hv).1
    have h1 : (zs.flatMap encP)[j * 3 + i]? = some v := by rw [flat_get encP 3 encP_len zs j i hj hi]; exact hv
    rw [row_cell hg, Nat.zero_add, ← h1, ← ht, List.getElem?_take_of_lt (by omega)]
theorem Fresh.below {N : Nat} {w W : World} {v : Value} {zs : List Piece} (h : Fresh N w v zs) (hW : Below w.heap.size w W) : Fresh N W v zs := ⟨h.sl.below hW, h.new⟩
theorem Fresh.shape {N : Nat} {w : World} {v : Value} {zs : List Piece} (h : Fresh N w v zs) : SlShape v := fun A n c e => by obtain ⟨b, off, h1, _⟩ := h.new A n c e; exact ⟨b, off, h1⟩
theorem Fresh.base {N M : Nat} {w : World} {v : Value} {zs : List Piece} (h : Fresh N w v zs) (hM : M ≤ N) : Fresh M w v zs := ⟨h.sl, fun A n c e => by obtain ⟨b, off, h1, h2⟩ := h.new A n c e; exact ⟨b, off, h1, Nat.le_trans hM h2⟩⟩

def AllocAns (c : Conf) (gi : Int) (live quar : List Piece) (size : Int) (N : Nat) (e : Ending) (w' : World) : Prop :=
  (¬ Good c gi live quar ∧ e = .returned (.tuple #[hNil, .int .u32 0, .int .i64 60])) ∨
  (Good c gi live quar ∧ (size < 0 ∨ 65536 < size) ∧ e = .returned (.tuple #[hNil, .int .u32 0, .int .i64 1])) ∨
  (∃ L, Op c gi live quar L ∧ 0 ≤ size ∧ size ≤ 65536 ∧ (roomGo c.red size (gapsF c L) = none ∨ live.length = 1000 ∨ gi = 1073741824) ∧ e = .returned (.tuple #[hNil, .int .u32 0, .int .i64 2])) ∨
  (∃ L v, Op c gi live quar L ∧ 0 ≤ size ∧ size ≤ 65536 ∧ roomGo c.red size (gapsF c L) = some v ∧ live.length ≠ 1000 ∧ gi ≠ 1073741824 ∧ ∃ lv' qv', e = .returned (.tuple #[hAgg c lv' qv' (gi + 1), .int .u32 v, .int .i64 0]) ∧
    Fresh N w' lv' (insF live (atI live v) ⟨v, size, gi + 1⟩) ∧ Fresh N w' qv' quar)

theorem gen_worldC {P : Program} {f : Nat} {args : Array Value} {Q : Ending → World → Prop} {w : World} (R : World → Prop) (h : R w) (k : ∀ W, R W → Calls P f args W Q) : Calls P f args w Q := k w h

theorem own_form {W : World} {base : Nat} {e : TypeId} {k : Nat} {v : Value} {n : Nat} {xs : List Value} (h : W.ownsRow base e k v n xs) : ∃ A c, v = .slice A n c := by
  rcases h.2 with ⟨rfl, rfl⟩ | ⟨g, cap, cur, rfl, _⟩
  · exact ⟨_, _, rfl⟩
  · exact ⟨_, _, rfl⟩

theorem room_range {c : Conf} {gi : Int} {live quar : List Piece} {L : List Ext} (h : Op c gi live quar L) {size v : Int} (hv : roomGo c.red size (gapsF c L) = some v) : 256 ≤ v ∧ v < 4294967296 := by
  obtain ⟨g, hg, rfl, h2⟩ := roomGo_spec _ _ _ _ hv
  obtain ⟨h3, h4, h5, _⟩ := h.gaps.1 g hg
  have hb := h.good.conf
  simp only [okConf, decide_eq_true_eq] at hb
  unfold firstF at *
  constructor <;> omega
theorem atI_le (live : List Piece) (v : Int) : atI live v ≤ live.length := by unfold atI bsAt; exact List.countP_le_length

set_option maxRecDepth 100000 in
set_option maxHeartbeats 4000000 in
theorem c23 (c : Conf) (lv qv : Value) (gi : Int) (live quar : List Piece) (size : Int) (w : World) (hl : Sl 3 encP w lv live) (hq : Sl 3 encP w qv quar) (wl : ∀ p ∈ live, WfP p) (wq : ∀ p ∈ quar, WfP p) (sl : SlShape lv) (sq : SlShape qv) :
    Calls Try.prog 23 #[hAgg c lv qv gi, .int .i64 size] w fun e w' => Below w.heap.size w w' ∧ AllocAns c gi live quar size w.heap.size e w' := by
  have HL := Lib.hid hl
  have HQ := Lib.hid hq
  have HSL := Lib.hid sl
  have HSQ := Lib.hid sq
  obtain ⟨A, ca, rfl, _, _⟩ := hl
  obtain ⟨B, cb, rfl, _, _⟩ := hq
  have hw1 := (below_alloc1 w (.cells #[.int .i64 c.page, .int .i64 c.n, .int .i64 c.red, .int .i64 c.quarantine, .slice A live.length ca, .slice B quar.length cb, .int .i64 gi] 26)).alloc (by simp) (.cells #[.int .i64 0, .int .i64 0, .int .i64 0, .int .i64 0, .slice none 0 0, .slice none 0 0, .int .i64 0] 26)
  have hcall := c68' c _ _ gi live quar _ (HL.out.below hw1) (HQ.out.below hw1) wl wq
  have HW1 := Lib.hid hw1
  clear wl wq hw1 sl sq
  go_enter Try.func23, Try.ntmps23
  go_wp2_with fail
  refine hcall.mono ?_
  rintro e w1 ⟨hB, hr⟩
  have hb0 : w1.heap[w.heap.size]? = some (.cells #[.int .i64 c.page, .int .i64 c.n, .int .i64 c.red, .int .i64 c.quarantine, .slice A live.length ca, .slice B quar.length cb, .int .i64 gi] 26 (0, 0)) := (hB.block _ (by simp; try omega)).trans (hal_old (hal_new rfl))
  have hb1 : w1.heap[w.heap.size + 1]? = some (.cells #[.int .i64 0, .int .i64 0, .int .i64 0, .int .i64 0, .slice none 0 0, .slice none 0 0, .int .i64 0] 26 (0, 0)) := (hB.block _ (by simp)).trans (hal_new (by simp))
  have hBw : Below w.heap.size w w1 := HW1.out.trans (hB.mono (by simp; try omega))
  have hsz : w.heap.size + 2 ≤ w1.heap.size := by have := hB.size; simpa using this
  simp only [World.size_alloc] at hr
  clear hB hcall
  obtain ⟨hg, p, rfl⟩ | ⟨rfl, L, hL, hH⟩ := hr
  · have q0 := blk_cell hb1 0
    have f0 : w1.frozen? ⟨w.heap.size + 1, 0, none⟩ = false := frozen_of_row _ _ _ _ _ hb1
    have q1 := blk_cell hb1 1
    have f1 : w1.frozen? ⟨w.heap.size + 1, 1, none⟩ = false := frozen_of_row _ _ _ _ _ hb1
    have q2 := blk_cell hb1 2
    have f2 : w1.frozen? ⟨w.heap.size + 1, 2, none⟩ = false := frozen_of_row _ _ _ _ _ hb1
    have q3 := blk_cell hb1 3
    have f3 : w1.frozen? ⟨w.heap.size + 1, 3, none⟩ = false := frozen_of_row _ _ _ _ _ hb1
    have q4 := blk_cell hb1 4
    have f4 : w1.frozen? ⟨w.heap.size + 1, 4, none⟩ = false := frozen_of_row _ _ _ _ _ hb1
    have q5 := blk_cell hb1 5
    have f5 : w1.frozen? ⟨w.heap.size + 1, 5, none⟩ = false := frozen_of_row _ _ _ _ _ hb1
    have q6 := blk_cell hb1 6
    have f6 : w1.frozen? ⟨w.heap.size + 1, 6, none⟩ = false := frozen_of_row _ _ _ _ _ hb1
    simp only [List.getElem?_toArray, List.getElem?_cons_succ, List.getElem?_cons_zero] at q0 q1 q2 q3 q4 q5 q6
    have HBW := Lib.hid hBw
    clear hBw hb0 hb1
    go_wp2
    refine bodyPost_ret (v := .tuple #[hNil, .int .u32 0, .int .i64 60]) (by simp [results, Try.results23, go_sem, q0, q1, q2, q3, q4, q5, q6]) rfl ⟨?_, .inl ⟨hg, rfl⟩⟩
    repeat' first | refine Below.setCell ?_ (by simp; try omega) _ | refine Below.alloc ?_ (by simp; try omega) _ | exact HBW.out
  have hop := Lib.hid hL
  have hHH := Lib.hid hH
  have hgi := hL.good.gi1
  have hgi0 := hL.good.gi0
  have hn1 := hL.good.n1
  have hn2 := hL.good.n2
  clear hL hH
  by_cases hz : size < 0 ∨ 65536 < size
  · have hz' : size < 0 ∨ (0 ≤ size ∧ 65536 < size) := by omega
    have q0 := blk_cell hb1 0
    have f0 : w1.frozen? ⟨w.heap.size + 1, 0, none⟩ = false := frozen_of_row _ _ _ _ _ hb1
    have q1 := blk_cell hb1 1
    have f1 : w1.frozen? ⟨w.heap.size + 1, 1, none⟩ = false := frozen_of_row _ _ _ _ _ hb1
    have q2 := blk_cell hb1 2
    have f2 : w1.frozen? ⟨w.heap.size + 1, 2, none⟩ = false := frozen_of_row _ _ _ _ _ hb1
    have q3 := blk_cell hb1 3
    have f3 : w1.frozen? ⟨w.heap.size + 1, 3, none⟩ = false := frozen_of_row _ _ _ _ _ hb1
    have q4 := blk_cell hb1 4
    have f4 : w1.frozen? ⟨w.heap.size + 1, 4, none⟩ = false := frozen_of_row _ _ _ _ _ hb1
    have q5 := blk_cell hb1 5
    have f5 : w1.frozen? ⟨w.heap.size + 1, 5, none⟩ = false := frozen_of_row _ _ _ _ _ hb1
    have q6 := blk_cell hb1 6
    have f6 : w1.frozen? ⟨w.heap.size + 1, 6, none⟩ = false := frozen_of_row _ _ _ _ _ hb1
    simp only [List.getElem?_toArray, List.getElem?_cons_succ, List.getElem?_cons_zero] at q0 q1 q2 q3 q4 q5 q6
    have HBW := Lib.hid hBw
    clear hBw hb0 hb1
    rcases hz' with hz1 | ⟨hz0, hz1⟩
    all_goals go_wp2
    all_goals
      refine bodyPost_ret (v := .tuple #[hNil, .int .u32 0, .int .i64 1]) (by simp [results, Try.results23, go_sem, q0, q1, q2, q3, q4, q5, q6]) rfl ⟨?_, .inr (.inl ⟨hop.out.good, hz, rfl⟩)⟩
      repeat' first | refine Below.setCell ?_ (by simp; try omega) _ | refine Below.alloc ?_ (by simp; try omega) _ | exact HBW.out
  have hz0 : 0 ≤ size := by omega
  have hz1 : size ≤ 65536 := by omega
  have hnz0 : ¬ size < 0 := by omega
  have hnz1 : ¬ 65536 < size := by omega
  clear hz
  have hroom := callsIn_wide.1 (c72 (w.heap.size + 1 + 1 + 3) c (.slice A live.length ca) (.slice B quar.length cb) gi live quar L size w1 hHH.out hop.out hz0 hz1)
  have HBW := Lib.hid hBw
  have HB0 := Lib.hid hb0
  have HB1 := Lib.hid hb1
  clear hBw hb0 hb1
  have HROOM := Lib.hid hroom
  clear hroom
  go_wp2_with fail
  refine Calls.mono HROOM.out ?_
  rintro e w2 ⟨hB2, hr2⟩
  have hb0 : w2.heap[w.heap.size]? = some (.cells #[.int .i64 c.page, .int .i64 c.n, .int .i64 c.red, .int .i64 c.quarantine, .slice A live.length ca, .slice B quar.length cb, .int .i64 gi] 26 (0, 0)) := (hB2.block _ (by omega)).trans HB0.out
  have hb1 : w2.heap[w.heap.size + 1]? = some (.cells #[.int .i64 0, .int .i64 0, .int .i64 0, .int .i64 0, .slice none 0 0, .slice none 0 0, .int .i64 0] 26 (0, 0)) := (hB2.block _ (by omega)).trans HB1.out
  have hBw2 : Below w.heap.size w w2 := HBW.out.trans (hB2.mono (by omega))
  have hsz2 : w.heap.size + 2 ≤ w2.heap.size := Nat.le_trans hsz hB2.size
  have HB0' := Lib.hid hb0
  have HB1' := Lib.hid hb1
  have HBW2 := Lib.hid hBw2
  have HB2 := Lib.hid hB2
  clear HROOM hBw2 hB2
  have q0 := blk_cell hb1 0
  have f0 : w2.frozen? ⟨w.heap.size + 1, 0, none⟩ = false := frozen_of_row _ _ _ _ _ hb1
  have q1 := blk_cell hb1 1
  have f1 : w2.frozen? ⟨w.heap.size + 1, 1, none⟩ = false := frozen_of_row _ _ _ _ _ hb1
  have q2 := blk_cell hb1 2
  have f2 : w2.frozen? ⟨w.heap.size + 1, 2, none⟩ = false := frozen_of_row _ _ _ _ _ hb1
  have q3 := blk_cell hb1 3
  have f3 : w2.frozen? ⟨w.heap.size + 1, 3, none⟩ = false := frozen_of_row _ _ _ _ _ hb1
  have q4 := blk_cell hb1 4
  have f4 : w2.frozen? ⟨w.heap.size + 1, 4, none⟩ = false := frozen_of_row _ _ _ _ _ hb1
  have q5 := blk_cell hb1 5
  have f5 : w2.frozen? ⟨w.heap.size + 1, 5, none⟩ = false := frozen_of_row _ _ _ _ _ hb1
  have q6 := blk_cell hb1 6
  have f6 : w2.frozen? ⟨w.heap.size + 1, 6, none⟩ = false := frozen_of_row _ _ _ _ _ hb1
  simp only [List.getElem?_toArray, List.getElem?_cons_succ, List.getElem?_cons_zero] at q0 q1 q2 q3 q4 q5 q6
  have gq4 := blk_cell hb0 4
  have gq6 := blk_cell hb0 6
  simp only [List.getElem?_toArray, List.getElem?_cons_succ, List.getElem?_cons_zero] at gq4 gq6
  clear hb0 hb1
  obtain ⟨v, hv, rfl⟩ | ⟨hno, rfl⟩ := hr2
  rotate_left
  · have HNO := Lib.hid hno
    clear hno
    go_wp2
    refine bodyPost_ret (v := .tuple #[hNil, .int .u32 0, .int .i64 2]) (by simp [results, Try.results23, go_sem, q0, q1, q2, q3, q4, q5, q6]) rfl ⟨?_, .inr (.inr (.inl ⟨L, hop.out, hz0, hz1, .inl HNO.out, rfl⟩))⟩
    repeat' first | refine Below.setCell ?_ (by simp; try omega) _ | refine Below.alloc ?_ (by simp; try omega) _ | exact HBW2.out
  have hvr := room_range hop.out hv
  have hv0 : 0 ≤ v := by omega
  have hv1 : v < 4294967296 := hvr.2
  have HV := Lib.hid hv
  clear hv hvr
  by_cases h1000 : live.length = 1000
  · have hk : (live.length : Int) = 1000 := by omega
    go_wp2
    refine bodyPost_ret (v := .tuple #[hNil, .int .u32 0, .int .i64 2]) (by simp [results, Try.results23, go_sem, q0, q1, q2, q3, q4, q5, q6]) rfl ⟨?_, .inr (.inr (.inl ⟨L, hop.out, hz0, hz1, .inr (.inl h1000), rfl⟩))⟩
    repeat' first | refine Below.setCell ?_ (by simp; try omega) _ | refine Below.alloc ?_ (by simp; try omega) _ | exact HBW2.out
  have hk1 : ¬ (live.length : Int) = 1000 := by omega
  by_cases hgx : gi = 1073741824
  · go_wp2
    refine bodyPost_ret (v := .tuple #[hNil, .int .u32 0, .int .i64 2]) (by simp [results, Try.results23, go_sem, q0, q1, q2, q3, q4, q5, q6]) rfl ⟨?_, .inr (.inr (.inl ⟨L, hop.out, hz0, hz1, .inr (.inr hgx), rfl⟩))⟩
    repeat' first | refine Below.setCell ?_ (by simp; try omega) _ | refine Below.alloc ?_ (by simp; try omega) _ | exact HBW2.out
  have hk2 : ((live.length : Int) == 1000) = false := by simpa using hk1
  have hk3 : (gi == 1073741824) = false := by simpa using hgx
  have HLW : Hid (Sl 3 encP w2 (.slice A live.length ca) live) := HL.out.below HBW2.out
  have HQW : Hid (Sl 3 encP w2 (.slice B quar.length cb) quar) := HQ.out.below HBW2.out
  have hHW := hHH.out.below HB2.out
  have hbare := c70 (w.heap.size + 1 + 1 + 3) c _ _ gi L live quar w2 hHW HLW.out HQW.out HSL.out HSQ.out hn1 hn2
  have HHW := Lib.hid hHW
  have HBARE := Lib.hid hbare
  clear hbare
  clear hHW
  go_wp2_with fail
  refine Calls.mono HBARE.out ?_
  clear HBARE
  rintro e w3 ⟨hB3, A1, c1, A2, c2, B3, rfl, ho1, hB3a, hB3b, ho2⟩
  have HHW3 : Hid (HeapB w3 (w.heap.size + 1 + 1 + 3) c (.slice A live.length ca) (.slice B quar.length cb) gi L) := HHW.out.below hB3
  have HLW3 : Hid (Sl 3 encP w3 (.slice A live.length ca) live) := HLW.out.below hB3
  have HBW3 : Hid (Below w.heap.size w w3) := HBW2.out.trans (hB3.mono (by omega))
  have HB13 : Hid (w3.heap[w.heap.size + 1]? = some (.cells #[.int .i64 0, .int .i64 0, .int .i64 0, .int .i64 0, .slice none 0 0, .slice none 0 0, .int .i64 0] 26 (0, 0))) := (hB3.block _ (by omega)).trans HB1'.out
  have hsz3 : w2.heap.size ≤ w3.heap.size := hB3.size
  have HO1 := Lib.hid ho1
  have HO2 := Lib.hid ho2
  have hgw : IntKind.i64.wrap (gi + 1) = gi + 1 := by rw [IntKind.wrap_i64]; omega
  clear hB3 ho1 ho2 q0 q1 q2 q3 q4 q5 q6 f0 f1 f2 f3 f4 f5 f6 gq4 gq6
  go_wp2_with fail
  refine gen_worldC (fun W => Below w3.heap.size w3 W ∧ W.heap.size = w3.heap.size + 1 ∧ W.heap[w3.heap.size]? = some (.cells #[.int .i64 c.page, .int .i64 c.n, .int .i64 c.red, .int .i64 c.quarantine, .slice A1 live.length c1, .slice A2 quar.length c2, .int .i64 (gi + 1)] 26 (0, 0))) ?_ ?_
  · refine ⟨?_, by simp, hal_new rfl⟩
    repeat' first | refine Below.setCell ?_ (by simp; try omega) _ | refine Below.alloc ?_ (by simp; try omega) _ | exact Below.refl _ _
  rintro W ⟨hBW, hsW, hbx⟩
  have hlive := c69 (w.heap.size + 1 + 1 + 3) c _ _ gi L live v W (HHW3.out.below hBW) (HLW3.out.below hBW) (by omega) hop.out.live
  refine Calls.mono hlive ?_
  clear hlive
  rintro e w5 ⟨rfl, hB5⟩
  obtain ⟨i, hi⟩ : ∃ i, bsAt (fun x : Piece => cmpI x.pos v) live = i := ⟨_, rfl⟩
  have hile : i ≤ live.length := by rw [← hi]; exact atI_le live v
  have HI : Hid (atI live v = i) := hi
  rw [hi]
  obtain ⟨bb, hbb⟩ : ∃ bb, bsIs (fun x : Piece => cmpI x.pos v) live = bb := ⟨_, rfl⟩
  rw [hbb]
  clear hi hbb
  have hs5 : W.heap.size ≤ w5.heap.size := hB5.size
  have hx5 : w5.heap[w3.heap.size]? = some (.cells #[.int .i64 c.page, .int .i64 c.n, .int .i64 c.red, .int .i64 c.quarantine, .slice A1 live.length c1, .slice A2 quar.length c2, .int .i64 (gi + 1)] 26 (0, 0)) := (hB5.block _ (by omega)).trans hbx
  have hB35 : Below w3.heap.size w3 w5 := hBW.trans (hB5.mono hBW.size)
  clear hBW hB5 hbx
  have q0 := blk_cell hx5 0
  have f0 : w5.frozen? ⟨w3.heap.size, 0, none⟩ = false := frozen_of_row _ _ _ _ _ hx5
  have q1 := blk_cell hx5 1
  have f1 : w5.frozen? ⟨w3.heap.size, 1, none⟩ = false := frozen_of_row _ _ _ _ _ hx5
  have q2 := blk_cell hx5 2
  have f2 : w5.frozen? ⟨w3.heap.size, 2, none⟩ = false := frozen_of_row _ _ _ _ _ hx5
  have q3 := blk_cell hx5 3
  have f3 : w5.frozen? ⟨w3.heap.size, 3, none⟩ = false := frozen_of_row _ _ _ _ _ hx5
  have q4 := blk_cell hx5 4
  have f4 : w5.frozen? ⟨w3.heap.size, 4, none⟩ = false := frozen_of_row _ _ _ _ _ hx5
  have q5 := blk_cell hx5 5
  have f5 : w5.frozen? ⟨w3.heap.size, 5, none⟩ = false := frozen_of_row _ _ _ _ _ hx5
  have q6 := blk_cell hx5 6
  have f6 : w5.frozen? ⟨w3.heap.size, 6, none⟩ = false := frozen_of_row _ _ _ _ _ hx5
  simp only [List.getElem?_toArray, List.getElem?_cons_succ, List.getElem?_cons_zero] at q0 q1 q2 q3 q4 q5 q6
  have HX5 := Lib.hid hx5
  have HB35 := Lib.hid hB35
  clear hx5 hB35
  go_wp2_with fail
  have hr5 : (w5.alloc (.cells #[.int .u32 v, .int .i64 size, .int .i64 (gi + 1)] 38)).ownsRow w2.heap.size 38 3 (.slice A1 live.length c1) live.length (live.flatMap encP) := own_blk HO1.out fun g hg => (Below.heap_alloc w5 _ g (by have := own_lt HO1.out g hg; omega)).trans (HB35.out.block g (own_lt HO1.out g hg).2)
  have hins := c73 w2.heap.size (.slice A1 live.length c1) live i ⟨v, size, gi + 1⟩ w5.heap.size (w5.alloc (.cells #[.int .u32 v, .int .i64 size, .int .i64 (gi + 1)] 38)) hr5 (by simp; omega) (World.alloc_heap_new w5 _) (fun e => by have := own_lt HO1.out _ e; omega) (by omega) hile
  refine Calls.mono hins ?_
  clear hins hr5
  rintro e w6 ⟨v', rfl, hg6, ho6⟩
  have hs6 : w5.heap.size + 1 ≤ w6.heap.size := by have := hg6.size; simpa using this
  have hk6 : ∀ k, k < w3.heap.size + 1 → (∀ g, (Value.slice A1 live.length c1).ownBlock = some g → k ≠ g) → w6.heap[k]? = w5.heap[k]? := fun k hk hne => (hg6.block k (by simp; omega) (fun e => hne k e.symm rfl)).trans (Below.heap_alloc w5 _ k (by omega))
  have hx6 : w6.heap[w3.heap.size]? = some (.cells #[.int .i64 c.page, .int .i64 c.n, .int .i64 c.red, .int .i64 c.quarantine, .slice A1 live.length c1, .slice A2 quar.length c2, .int .i64 (gi + 1)] 26 (0, 0)) := (hk6 _ (by omega) (fun g hg => by have := own_lt HO1.out g hg; omega)).trans HX5.out
  have h16 : w6.heap[w.heap.size + 1]? = some (.cells #[.int .i64 0, .int .i64 0, .int .i64 0, .int .i64 0, .slice none 0 0, .slice none 0 0, .int .i64 0] 26 (0, 0)) := (hk6 _ (by omega) (fun g hg => by have := own_lt HO1.out g hg; omega)).trans ((HB35.out.block _ (by omega)).trans HB13.out)
  have hB36 : Below w.heap.size w w6 := (HBW3.out.trans (HB35.out.mono (by omega))).trans ⟨hg6.os, hg6.tape, hg6.output, Nat.le_trans (Nat.le_succ _) hs6, fun k hk => hk6 k (by omega) (fun g hg => by have := own_lt HO1.out g hg; omega)⟩
  have HB36 := Lib.hid hB36
  have ho26 : w6.ownsRow B3 38 3 (.slice A2 quar.length c2) quar.length (quar.flatMap encP) := own_blk HO2.out fun g hg => (hk6 g (by have := own_lt HO2.out g hg; omega) (fun g' hg' => by have h1 := hB3b g' hg'; have h2 := own_lt HO2.out g hg; omega)).trans (HB35.out.block g (own_lt HO2.out g hg).2)
  obtain ⟨A6, c6, rfl⟩ := own_form ho6
  have HO6 := Lib.hid ho6
  have HO26 := Lib.hid ho26
  clear hg6 ho6 hk6 hB36 ho26 q0 q1 q2 q3 q4 q5 q6 f0 f1 f2 f3 f4 f5 f6
  have q0 := blk_cell hx6 0
  have f0 : w6.frozen? ⟨w3.heap.size, 0, none⟩ = false := frozen_of_row _ _ _ _ _ hx6
  have q1 := blk_cell hx6 1
  have f1 : w6.frozen? ⟨w3.heap.size, 1, none⟩ = false := frozen_of_row _ _ _ _ _ hx6
  have q2 := blk_cell hx6 2
  have f2 : w6.frozen? ⟨w3.heap.size, 2, none⟩ = false := frozen_of_row _ _ _ _ _ hx6
  have q3 := blk_cell hx6 3
  have f3 : w6.frozen? ⟨w3.heap.size, 3, none⟩ = false := frozen_of_row _ _ _ _ _ hx6
  have q4 := blk_cell hx6 4
  have f4 : w6.frozen? ⟨w3.heap.size, 4, none⟩ = false := frozen_of_row _ _ _ _ _ hx6
  have q5 := blk_cell hx6 5
  have f5 : w6.frozen? ⟨w3.heap.size, 5, none⟩ = false := frozen_of_row _ _ _ _ _ hx6
  have q6 := blk_cell hx6 6
  have f6 : w6.frozen? ⟨w3.heap.size, 6, none⟩ = false := frozen_of_row _ _ _ _ _ hx6
  simp only [List.getElem?_toArray, List.getElem?_cons_succ, List.getElem?_cons_zero] at q0 q1 q2 q3 q4 q5 q6
  have rq0 := blk_cell h16 0
  have rf0 : w6.frozen? ⟨w.heap.size + 1, 0, none⟩ = false := frozen_of_row _ _ _ _ _ h16
  have rq1 := blk_cell h16 1
  have rf1 : w6.frozen? ⟨w.heap.size + 1, 1, none⟩ = false := frozen_of_row _ _ _ _ _ h16
  have rq2 := blk_cell h16 2
  have rf2 : w6.frozen? ⟨w.heap.size + 1, 2, none⟩ = false := frozen_of_row _ _ _ _ _ h16
  have rq3 := blk_cell h16 3
  have rf3 : w6.frozen? ⟨w.heap.size + 1, 3, none⟩ = false := frozen_of_row _ _ _ _ _ h16
  have rq4 := blk_cell h16 4
  have rf4 : w6.frozen? ⟨w.heap.size + 1, 4, none⟩ = false := frozen_of_row _ _ _ _ _ h16
  have rq5 := blk_cell h16 5
  have rf5 : w6.frozen? ⟨w.heap.size + 1, 5, none⟩ = false := frozen_of_row _ _ _ _ _ h16
  have rq6 := blk_cell h16 6
  have rf6 : w6.frozen? ⟨w.heap.size + 1, 6, none⟩ = false := frozen_of_row _ _ _ _ _ h16
  simp only [List.getElem?_toArray, List.getElem?_cons_succ, List.getElem?_cons_zero] at rq0 rq1 rq2 rq3 rq4 rq5 rq6
  have hne : w.heap.size + 1 ≠ w3.heap.size := by omega
  have hlt1 : w3.heap.size < w6.heap.size := by omega
  have hlt2 : w.heap.size + 1 < w6.heap.size := by omega
  have HX6 := Lib.hid hx6
  clear hx6 h16
  go_wp2
  refine bodyPost_ret (v := .tuple #[hAgg c (.slice A6 (live.length + 1) c6) (.slice A2 quar.length c2) (gi + 1), .int .u32 v, .int .i64 0]) (by simp [results, Try.results23, go_sem, rq0, rq1, rq2, rq3, rq4, rq5, rq6]) rfl ?_
  refine ⟨?_, .inr (.inr (.inr ⟨L, v, hop.out, hz0, hz1, HV.out, h1000, hgx, _, _, rfl, ?_, ?_⟩))⟩
  · repeat' first | refine Below.setCell ?_ (by simp; try omega) _ | exact HB36.out
  · rw [HI.out]
    refine (Fresh.of_own (own_blk HO6.out fun g hg => ?_) (insF_length _ _ _ hile).symm).base (by omega)
    obtain ⟨h1, cur, h2⟩ := ownB HO6.out g hg.symm
    have hne1 : g ≠ w3.heap.size := by rintro rfl; rw [HX6.out] at h2; cases h2
    have hne2 : g ≠ w.heap.size + 1 := by omega
    repeat' first | refine Eq.trans (Below.heap_setCell _ _ _ _ hne2) ?_ | refine Eq.trans (Below.heap_setCell _ _ _ _ hne1) ?_ | rfl
  · refine (Fresh.of_own (own_blk HO26.out fun g hg => ?_) rfl).base (by omega)
    obtain ⟨h1, cur, h2⟩ := ownB HO26.out g hg.symm
    have hne1 : g ≠ w3.heap.size := by rintro rfl; rw [HX6.out] at h2; cases h2
    have hne2 : g ≠ w.heap.size + 1 := by omega
    repeat' first | refine Eq.trans (Below.heap_setCell _ _ _ _ hne2) ?_ | refine Eq.trans (Below.heap_setCell _ _ _ _ hne1) ?_ | rfl
end Go.Proofs.Ytbhbjcgbhklieaa
