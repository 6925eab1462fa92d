/- HeapOrder: the walk. -/
import Derived.Test.YtbhbjcgbhklieaaE12
import Derived.Test.YtbhbjcgbhklieaaP3
import Derived.Test.YtbhbjcgbhklieaaR3
import Derived.Test.YtbhbjcgbhklieaaF4
import Derived.Test.YtbhbjcgbhklieaaC8
import Derived.Deep.RegionHeld3
import Derived.Deep.QuietTactic
import Derived.BigQuiet
namespace Go.Proofs.Ytbhbjcgbhklieaa
open Go.RowKit Go.Shelf

theorem wrap_u64o {x : Int} (h0 : 0 ≤ x) (h1 : x < 1000000) : IntKind.u64.wrap x = x := by
  have h2 : x < 2 ^ 64 := Int.lt_trans h1 (by decide)
  simp only [IntKind.wrap, IntKind.signed, IntKind.bits]
  exact Int.emod_eq_of_lt h0 h2
theorem sl_atO {α : Type} [Inhabited α] {k : Nat} {enc : α → List Value} {w : World} {A : Option Addr} {n c : Nat} {zs : List α} (h : Sl k enc w (.slice A n c) zs) {j : Nat} (hj : j < zs.length) : ∃ b off, A = some ⟨b, off, none⟩ ∧ Lies k enc w b off zs := by
  obtain ⟨A', c', e, _, h0 | ⟨b, off, rfl, hl⟩⟩ := h
  · subst h0; simp at hj
  · cases e; exact ⟨b, off, rfl, hl⟩
theorem sl_oneO {W : World} {nb : Nat} {p : Piece} (h : W.heap[nb]? = some (.cells #[.int .u32 p.pos, .int .i64 p.size, .int .i64 p.born] 38 (0, 0))) : Sl 3 encP W (.slice (some ⟨nb, 0, none⟩) 1 1) [p] := by
  refine ⟨some ⟨nb, 0, none⟩, 1, rfl, Nat.le_refl _, .inr ⟨nb, 0, rfl, blk_lt h, fun j hj i v hv => ?_⟩⟩
  obtain rfl : j = 0 := by simpa using hj
  rw [blk_cell h]
  simpa [encP] using hv
theorem allEq_selfO : ∀ (xs : List Piece), Lib.allEq eqP xs xs = true
  | [] => rfl
  | x :: xs => by simp [Lib.allEq, eqP, allEq_selfO xs]
theorem own_belowO {w W : World} {base : Nat} {e : TypeId} {k : Nat} {v : Value} {n : Nat} {xs : List Value} (h : w.ownsRow base e k v n xs) (hW : Below w.heap.size w W) : W.ownsRow base e k v n xs :=
  ⟨h.1, h.2.imp id fun ⟨g, cap, cur, hv, hb, hg, rest⟩ => ⟨g, cap, cur, hv, hb, (hW.block g (blk_lt hg)).trans hg, rest⟩⟩
theorem region_joinO {ι : Type} {P : Program} {id : Nat} {ops : Array Oper} {b : Bool} {Q : Exit → Act → World → Prop} {a : Act} {w : World} (F : ι → Array Value → Array Value) (R : ι → World → Prop)
    (h1 : (Code.region id ops b).wp P (fun e a' w' => e = .normal ∧ ∃ x, a' = { tmps := F x a.tmps, defers := a.defers } ∧ R x w') a w) (h2 : ∀ x W, R x W → Q .normal { tmps := F x a.tmps, defers := a.defers } W) : (Code.region id ops b).wp P Q a w :=
  wp_mono h1 (by rintro e a' w' ⟨rfl, x, rfl, h⟩; exact h2 x w' h)

theorem region_joinK {ι : Type} {P : Program} {id : Nat} {ops : Array Oper} {b : Bool} {Q : Exit → Act → World → Prop} {a : Act} {w : World} (F : ι → Array Value → Array Value) (R : ι → World → Prop)
    (h1 : ∀ K : Act → World → Prop, (∀ x W, R x W → K { tmps := F x a.tmps, defers := a.defers } W) → (Code.region id ops b).wp P (Exit.then K (fun _ _ _ => False)) a w) (h2 : ∀ x W, R x W → Q .normal { tmps := F x a.tmps, defers := a.defers } W) : (Code.region id ops b).wp P Q a w := by
  refine wp_mono (h1 (fun a' W => ∃ x, a' = { tmps := F x a.tmps, defers := a.defers } ∧ R x W) (fun x W h => ⟨x, rfl, h⟩)) ?_
  intro e a' w' h
  cases e with
  | normal => obtain ⟨x, rfl, h⟩ := h; exact h2 x w' h
  | _ => exact absurd h (by simp [Exit.then])
theorem wp_gen {P : Program} {id : Nat} {ops : Array Oper} {b : Bool} {Q : Exit → Act → World → Prop} {a : Act} {w : World} (h : ∀ QQ : Exit → Act → World → Prop, (∀ e a' w', Q e a' w' → QQ e a' w') → (Code.region id ops b).wp P QQ a w) : (Code.region id ops b).wp P Q a w := h Q (fun _ _ _ h => h)
/-- a heap in a box of its own, whose rows lie in neither of two blocks. -/
structure BoxH (W : World) (n x y : Nat) (c : Conf) (gi : Int) (lf qf : List Piece) (A1 : Option Addr) (k1 : Nat) (A2 : Option Addr) (k2 : Nat) : Prop where
  box : W.heap[n]? = some (.cells #[.int .i64 c.page, .int .i64 c.n, .int .i64 c.red, .int .i64 c.quarantine, .slice A1 lf.length k1, .slice A2 qf.length k2, .int .i64 gi] 26 (0, 0))
  sl : Sl 3 encP W (.slice A1 lf.length k1) lf
  sq : Sl 3 encP W (.slice A2 qf.length k2) qf
  sh1 : SlShape (.slice A1 lf.length k1)
  sh2 : SlShape (.slice A2 qf.length k2)
  ne1 : ∀ a, A1 = some a → lf ≠ [] → a.block ≠ x ∧ a.block ≠ y
  ne2 : ∀ a, A2 = some a → qf ≠ [] → a.block ≠ x ∧ a.block ≠ y
theorem sl_keep {W W' : World} {z : Nat} {A : Option Addr} {n k : Nat} {l : List Piece} (h : Sl 3 encP W (.slice A n k) l) (hs : W.heap.size ≤ W'.heap.size) (hk : ∀ j, j < W.heap.size → j ≠ z → W'.heap[j]? = W.heap[j]?) (hne : ∀ a, A = some a → l ≠ [] → a.block ≠ z) : Sl 3 encP W' (.slice A n k) l := by
  obtain ⟨A', c, e, hc, hl⟩ := h
  cases e
  refine ⟨A, k, rfl, hc, hl.imp id fun ⟨b, off, hA, hL⟩ => ⟨b, off, hA, Nat.lt_of_lt_of_le hL.1 hs, fun j hj i u hu => ?_⟩⟩
  rw [← hL.2 j hj i u hu]
  simp only [World.cell?]
  rw [hk b hL.1 (hne _ hA (by rintro rfl; simp at hj))]
theorem BoxH.keep {W W' : World} {n x y z : Nat} {c : Conf} {gi : Int} {lf qf : List Piece} {A1 : Option Addr} {k1 : Nat} {A2 : Option Addr} {k2 : Nat} (h : BoxH W n x y c gi lf qf A1 k1 A2 k2) (hz : z = x ∨ z = y) (hnz : n ≠ z) (hs : W.heap.size ≤ W'.heap.size) (hk : ∀ j, j < W.heap.size → j ≠ z → W'.heap[j]? = W.heap[j]?) : BoxH W' n x y c gi lf qf A1 k1 A2 k2 :=
  ⟨(hk n (blk_lt h.box) hnz).trans h.box, sl_keep h.sl hs hk (fun a e e' => hz.elim (fun q => by rw [q]; exact (h.ne1 a e e').1) (fun q => by rw [q]; exact (h.ne1 a e e').2)), sl_keep h.sq hs hk (fun a e e' => hz.elim (fun q => by rw [q]; exact (h.ne2 a e e').1) (fun q => by rw [q]; exact (h.ne2 a e e').2)), h.sh1, h.sh2, h.ne1, h.ne2⟩
theorem BoxH.below {W W' : World} {n x y : Nat} {c : Conf} {gi : Int} {lf qf : List Piece} {A1 : Option Addr} {k1 : Nat} {A2 : Option Addr} {k2 : Nat} (h : BoxH W n x y c gi lf qf A1 k1 A2 k2) (hB : Below W.heap.size W W') : BoxH W' n x y c gi lf qf A1 k1 A2 k2 :=
  ⟨(hB.block n (blk_lt h.box)).trans h.box, h.sl.below hB, h.sq.below hB, h.sh1, h.sh2, h.ne1, h.ne2⟩
theorem sl_ne {W : World} {A : Option Addr} {n k : Nat} {l : List Piece} (h : Sl 3 encP W (.slice A n k) l) {x : Nat} (hx : W.heap.size ≤ x) : ∀ a, A = some a → l ≠ [] → a.block ≠ x := by
  intro a e hl
  obtain ⟨A', c, e', _, h0 | ⟨b, off, e2, hL⟩⟩ := h
  · exact absurd h0 hl
  · cases e'; rw [e] at e2; cases e2
    have := hL.1
    show b ≠ x
    omega
theorem fresh_ne {N : Nat} {W : World} {A : Option Addr} {m k : Nat} {l : List Piece} (h : Fresh N W (.slice A m k) l) {x y : Nat} (hx : x < N) (hy : y < N) : ∀ a, A = some a → l ≠ [] → a.block ≠ x ∧ a.block ≠ y := by
  intro a e _
  subst e
  obtain ⟨b, off, rfl, hb⟩ := h.new a m k rfl
  exact ⟨by show b ≠ x; omega, by show b ≠ y; omega⟩
theorem store_box {v1 wz : World} {n m x y N : Nat} {c : Conf} {gi : Int} {lf qf lb qb : List Piece} {A3 A4 B1 B2 : Option Addr} {k3 k4 j1 j2 : Nat} {o0 o1 o2 o3 o4 o5 o6 : Value} (hb : v1.heap[n]? = some (.cells #[o0, o1, o2, o3, o4, o5, o6] 26 (0, 0))) (h0 : Below wz.heap.size wz v1) (hn : wz.heap.size ≤ n)
    (f1 : Fresh N v1 (.slice A3 lf.length k3) lf) (f2 : Fresh N v1 (.slice A4 qf.length k4) qf) (hx : x < N) (hy : y < N) (hxy : n = x ∨ n = y) (hB : BoxH v1 m x y c gi lb qb B1 j1 B2 j2) (hmn : m ≠ n) :
    Below wz.heap.size wz (((((((v1.setCell ⟨n, 0, none⟩ (.int .i64 c.page)).setCell ⟨n, 1, none⟩ (.int .i64 c.n)).setCell ⟨n, 2, none⟩ (.int .i64 c.red)).setCell ⟨n, 3, none⟩ (.int .i64 c.quarantine)).setCell ⟨n, 4, none⟩ (.slice A3 lf.length k3)).setCell ⟨n, 5, none⟩ (.slice A4 qf.length k4)).setCell ⟨n, 6, none⟩ (.int .i64 gi)) ∧ BoxH (((((((v1.setCell ⟨n, 0, none⟩ (.int .i64 c.page)).setCell ⟨n, 1, none⟩ (.int .i64 c.n)).setCell ⟨n, 2, none⟩ (.int .i64 c.red)).setCell ⟨n, 3, none⟩ (.int .i64 c.quarantine)).setCell ⟨n, 4, none⟩ (.slice A3 lf.length k3)).setCell ⟨n, 5, none⟩ (.slice A4 qf.length k4)).setCell ⟨n, 6, none⟩ (.int .i64 gi)) n x y c gi lf qf A3 k3 A4 k4 ∧ BoxH (((((((v1.setCell ⟨n, 0, none⟩ (.int .i64 c.page)).setCell ⟨n, 1, none⟩ (.int .i64 c.n)).setCell ⟨n, 2, none⟩ (.int .i64 c.red)).setCell ⟨n, 3, none⟩ (.int .i64 c.quarantine)).setCell ⟨n, 4, none⟩ (.slice A3 lf.length k3)).setCell ⟨n, 5, none⟩ (.slice A4 qf.length k4)).setCell ⟨n, 6, none⟩ (.int .i64 gi)) m x y c gi lb qb B1 j1 B2 j2 := by
  have e1 := row_setCell (o := 0) (.int .i64 c.page) hb
  have e2 := row_setCell (o := 1) (.int .i64 c.n) e1
  have e3 := row_setCell (o := 2) (.int .i64 c.red) e2
  have e4 := row_setCell (o := 3) (.int .i64 c.quarantine) e3
  have e5 := row_setCell (o := 4) (.slice A3 lf.length k3) e4
  have e6 := row_setCell (o := 5) (.slice A4 qf.length k4) e5
  have e7 := row_setCell (o := 6) (.int .i64 gi) e6
  simp only [List.setIfInBounds_toArray, List.set_cons_zero, List.set_cons_succ] at e7
  have hkp : ∀ j, j ≠ n → (((((((v1.setCell ⟨n, 0, none⟩ (.int .i64 c.page)).setCell ⟨n, 1, none⟩ (.int .i64 c.n)).setCell ⟨n, 2, none⟩ (.int .i64 c.red)).setCell ⟨n, 3, none⟩ (.int .i64 c.quarantine)).setCell ⟨n, 4, none⟩ (.slice A3 lf.length k3)).setCell ⟨n, 5, none⟩ (.slice A4 qf.length k4)).setCell ⟨n, 6, none⟩ (.int .i64 gi)).heap[j]? = v1.heap[j]? := fun j hj => by
    repeat' first | refine Eq.trans (Below.heap_setCell _ _ _ _ hj) ?_ | rfl
  have hsz7 : (((((((v1.setCell ⟨n, 0, none⟩ (.int .i64 c.page)).setCell ⟨n, 1, none⟩ (.int .i64 c.n)).setCell ⟨n, 2, none⟩ (.int .i64 c.red)).setCell ⟨n, 3, none⟩ (.int .i64 c.quarantine)).setCell ⟨n, 4, none⟩ (.slice A3 lf.length k3)).setCell ⟨n, 5, none⟩ (.slice A4 qf.length k4)).setCell ⟨n, 6, none⟩ (.int .i64 gi)).heap.size = v1.heap.size := by simp [World.setCell]
  have hbel7 : Below wz.heap.size wz (((((((v1.setCell ⟨n, 0, none⟩ (.int .i64 c.page)).setCell ⟨n, 1, none⟩ (.int .i64 c.n)).setCell ⟨n, 2, none⟩ (.int .i64 c.red)).setCell ⟨n, 3, none⟩ (.int .i64 c.quarantine)).setCell ⟨n, 4, none⟩ (.slice A3 lf.length k3)).setCell ⟨n, 5, none⟩ (.slice A4 qf.length k4)).setCell ⟨n, 6, none⟩ (.int .i64 gi)) :=
    ((((((h0.setCell (p := ⟨n, 0, none⟩) hn _).setCell (p := ⟨n, 1, none⟩) hn _).setCell (p := ⟨n, 2, none⟩) hn _).setCell (p := ⟨n, 3, none⟩) hn _).setCell (p := ⟨n, 4, none⟩) hn _).setCell (p := ⟨n, 5, none⟩) hn _).setCell (p := ⟨n, 6, none⟩) hn _
  generalize (((((((v1.setCell ⟨n, 0, none⟩ (.int .i64 c.page)).setCell ⟨n, 1, none⟩ (.int .i64 c.n)).setCell ⟨n, 2, none⟩ (.int .i64 c.red)).setCell ⟨n, 3, none⟩ (.int .i64 c.quarantine)).setCell ⟨n, 4, none⟩ (.slice A3 lf.length k3)).setCell ⟨n, 5, none⟩ (.slice A4 qf.length k4)).setCell ⟨n, 6, none⟩ (.int .i64 gi)) = v2 at e7 hkp hsz7 hbel7 ⊢
  have g1 := fresh_ne f1 hx hy
  have g2 := fresh_ne f2 hx hy
  refine ⟨hbel7, ⟨e7, sl_keep f1.sl (by omega) (fun j _ hj => hkp j hj) (fun a e e' => hxy.elim (fun q => by rw [q]; exact (g1 a e e').1) (fun q => by rw [q]; exact (g1 a e e').2)), sl_keep f2.sl (by omega) (fun j _ hj => hkp j hj) (fun a e e' => hxy.elim (fun q => by rw [q]; exact (g2 a e e').1) (fun q => by rw [q]; exact (g2 a e e').2)), f1.shape, f2.shape, g1, g2⟩, hB.keep hxy hmn (by omega) (fun j _ hj => hkp j hj)⟩
/-- Free of a block that is chosen. -/
theorem free_call {W : World} {n x y : Nat} {c : Conf} {gi : Int} {live quar ch lf qf : List Piece} {A1 : Option Addr} {k1 : Nat} {A2 : Option Addr} {k2 : Nat} (h : BoxH W n x y c gi lf qf A1 k1 A2 k2) (hf : FreedTo c gi live quar ch lf qf) {p : Piece} (hp : p ∈ live) (hc : p ∉ ch) {ch' : List Piece} (hm : ∀ x, x ∈ ch' ↔ x = p ∨ x ∈ ch) (hl : ch'.length = ch.length + 1) :
    ∃ lf' qf', FreedTo c gi live quar ch' lf' qf' ∧ ∀ V, Below W.heap.size W V → Calls Try.prog 19 #[hAgg c (.slice A1 lf.length k1) (.slice A2 qf.length k2) gi, .int .u32 p.pos] V fun e w' => Below V.heap.size V w' ∧ ∃ A1 k1 A2 k2, e = .returned (.tuple #[hAgg c (.slice A1 lf'.length k1) (.slice A2 qf'.length k2) gi, .int .i64 0]) ∧ Fresh V.heap.size w' (.slice A1 lf'.length k1) lf' ∧ Fresh V.heap.size w' (.slice A2 qf'.length k2) qf' := by
  obtain ⟨h1, h2, h3⟩ := hf.step hp hc hm hl
  refine ⟨_, _, h3, fun V hV => (c19 c _ _ gi lf qf p.pos V (h.sl.below hV) (h.sq.below hV) hf.wl hf.wq h.sh1 h.sh2).mono fun e w' h => ?_⟩
  obtain ⟨lv', qv', e1, e2, e3⟩ := h.2.ok ((good_iff hf.wl hf.wq).2 hf.good) h1
  obtain ⟨A1, k1, rfl, _, _⟩ := id e2.sl
  obtain ⟨A2, k2, rfl, _, _⟩ := id e3.sl
  exact ⟨h.1, A1, k1, A2, k2, e1, e2, e3⟩

set_option maxRecDepth 100000 in
set_option maxHeartbeats 4000000 in
theorem c10 (c : Conf) (lv qv : Value) (gi : Int) (live quar : List Piece) (pv : Value) (picks : List Int) (w : World) (hin : HeapIn w c lv qv gi live quar) (hpk : IntsIn w pv picks) :
    Calls Try.prog 10 #[hAgg c lv qv gi, pv] w fun e w' => e = .returned (.bool true) ∧ Below w.heap.size w w' := by
  have HL := Lib.hid hin.hl
  have HQ := Lib.hid hin.hq
  have HWL : Hid (∀ p ∈ live, WfP p) := fun p hp => (hin.wl p hp).1
  have HWQ : Hid (∀ p ∈ quar, WfP p) := fun p hp => (hin.wq p hp).1
  have HSL := Lib.hid hin.sl
  have HSQ := Lib.hid hin.sq
  obtain ⟨A, ca, rfl, _, _⟩ := id hin.hl
  obtain ⟨B, cb, rfl, _, _⟩ := id hin.hq
  have HPK := Lib.hid hpk.sl
  have hmlen := hpk.len
  obtain ⟨PA, pc, rfl, _, _⟩ := id hpk.sl
  obtain ⟨m, hm⟩ : ∃ m, picks.length = m := ⟨_, rfl⟩
  rw [hm] at hmlen HPK ⊢
  have HM := Lib.hid hm
  clear hin hpk hm
  go_enter Try.func10, Try.ntmps10
  go_wp2_with fail
  refine Calls.mono (c16 _) ?_
  rintro e w1 ⟨rfl, hB1⟩
  have hb0 : w1.heap[w.heap.size]? = some (.cells #[.int .i64 c.page, .int .i64 c.n, .int .i64 c.red, .int .i64 c.quarantine, .slice A live.length ca, .slice B quar.length cb, .int .i64 gi] 26 (0, 0)) := (hB1.block _ (by simp; try omega)).trans (hal_new rfl)
  have hBw : Below w.heap.size w w1 := ((Below.refl _ _).alloc (Nat.le_refl _) _).trans (hB1.mono (by simp; try omega))
  have q0 := blk_cell hb0 0
  have q1 := blk_cell hb0 1
  have q2 := blk_cell hb0 2
  have q3 := blk_cell hb0 3
  have q4 := blk_cell hb0 4
  have q5 := blk_cell hb0 5
  have q6 := blk_cell hb0 6
  simp only [List.getElem?_toArray, List.getElem?_cons_succ, List.getElem?_cons_zero] at q0 q1 q2 q3 q4 q5 q6
  have HB0 := Lib.hid hb0
  have HBW := Lib.hid hBw
  have hlt0 : w.heap.size < w1.heap.size := blk_lt hb0
  clear hB1 hBw hb0
  go_wp2_with fail
  refine Calls.mono (c17 w1.heap.size c A B live.length ca quar.length cb gi _ (hal_new rfl)) ?_
  rintro e w2 ⟨rfl, hB2⟩
  have hb02 : w2.heap[w.heap.size]? = some (.cells #[.int .i64 c.page, .int .i64 c.n, .int .i64 c.red, .int .i64 c.quarantine, .slice A live.length ca, .slice B quar.length cb, .int .i64 gi] 26 (0, 0)) := (hB2.block _ (by simp; omega)).trans (hal_old HB0.out)
  have hBw2 : Below w.heap.size w w2 := (HBW.out.alloc (by omega) _).trans (hB2.mono (by simp; omega))
  have hB12 : Below w1.heap.size w1 w2 := (below_alloc1 w1 _).trans (hB2.mono (by simp))
  clear q0 q1 q2 q3 q4 q5 q6
  have q0 := blk_cell hb02 0
  have q1 := blk_cell hb02 1
  have q2 := blk_cell hb02 2
  have q3 := blk_cell hb02 3
  have q4 := blk_cell hb02 4
  have q5 := blk_cell hb02 5
  have q6 := blk_cell hb02 6
  simp only [List.getElem?_toArray, List.getElem?_cons_succ, List.getElem?_cons_zero] at q0 q1 q2 q3 q4 q5 q6
  have HB02 := Lib.hid hb02
  have HBW2 := Lib.hid hBw2
  have HB12 := Lib.hid hB12
  clear hB2 hb02 hBw2 hB12
  cases hmf : manyF live.length quar.length with
  | true =>
    go_wp2
    go_ret
    exact ⟨rfl, HBW2.out⟩
  | false =>
    have h18 := c18 c _ _ gi live quar w2 (HL.out.below HBW2.out) (HQ.out.below HBW2.out) HWL.out HWQ.out
    have H18 := Lib.hid h18
    have HMF := Lib.hid hmf
    clear h18
    go_wp2_with fail
    refine Calls.mono H18.out ?_
    clear H18 hmf
    rintro e w3 ⟨hB3, ⟨hng, rfl⟩ | ⟨hg, rfl⟩⟩
    · have HBW3 : Hid (Below w.heap.size w w3) := HBW2.out.trans (hB3.mono HBW2.out.size)
      clear hB3 hng
      go_wp2
      go_ret
      exact ⟨rfl, HBW3.out⟩
    have HG := Lib.hid hg
    have hb03 : w3.heap[w.heap.size]? = some (.cells #[.int .i64 c.page, .int .i64 c.n, .int .i64 c.red, .int .i64 c.quarantine, .slice A live.length ca, .slice B quar.length cb, .int .i64 gi] 26 (0, 0)) := (hB3.block _ (blk_lt HB02.out)).trans HB02.out
    have HBW3 : Hid (Below w.heap.size w w3) := HBW2.out.trans (hB3.mono HBW2.out.size)
    have HB13 : Hid (Below w1.heap.size w1 w3) := HB12.out.trans (hB3.mono HB12.out.size)
    have hlt3 : w1.heap.size ≤ w3.heap.size := HB13.out.size
    have HGD : Hid (Good c gi live quar) := (good_iff HWL.out HWQ.out).2 hg
    have hgi0 := hg.gi0
    have hgi1 := hg.gi1
    have hn1 := hg.n1
    have hn2 := hg.n2
    clear q0 q1 q2 q3 q4 q5 q6
    have q0 := blk_cell hb03 0
    have q1 := blk_cell hb03 1
    have q2 := blk_cell hb03 2
    have q3 := blk_cell hb03 3
    have q4 := blk_cell hb03 4
    have q5 := blk_cell hb03 5
    have q6 := blk_cell hb03 6
    simp only [List.getElem?_toArray, List.getElem?_cons_succ, List.getElem?_cons_zero] at q0 q1 q2 q3 q4 q5 q6
    have HB03 := Lib.hid hb03
    clear hB3 hg hb03 HBW2 HB02 HB12 HBW HB0
    by_cases hl0 : live.length = 0
    · have d0 : ((live.length : Int) == 0) = true := by rw [hl0]; rfl
      go_wp2
      go_ret
      exact ⟨rfl, HBW3.out⟩
    have d0 : ((live.length : Int) == 0) = false := by simpa using hl0
    by_cases hp60 : 60 < m
    · have d1 : decide ((60 : Int) < (m : Int)) = true := decide_eq_true (by omega)
      go_wp2
      go_ret
      exact ⟨rfl, HBW3.out⟩
    have d1 : decide ((60 : Int) < (m : Int)) = false := decide_eq_false (by omega)
    have hmx : Try.prog.follows .mixedOrders = true := by kernel_rfl
    have hwl : IntKind.u64.wrap (live.length : Int) = (live.length : Int) := wrap_u64o (by omega) (by omega)
    go_wp2
    clear q0 q1 q2 q3 q4 q5 q6
    go_loopg [5, 39] m (fun kx s5 s39 wr => ∃ (k : Nat) (ch : List Piece) (AS : Option Addr) (kS : Nat), k ≤ m ∧ s39 = .int .i64 k ∧ s5 = .slice AS ch.length kS ∧ m - k ≤ kx ∧ ch.length ≤ k ∧ Hid ((∀ p ∈ ch, p ∈ live) ∧ ch.Nodup) ∧ Hid (wr.ownsRow w3.heap.size 38 3 (.slice AS ch.length kS) ch.length (ch.flatMap encP)) ∧ Hid (Below w3.heap.size w3 wr))
    case atStart => exact ⟨0, [], none, 0, Nat.zero_le _, rfl, rfl, by omega, Nat.le_refl _, ⟨(fun _ h => by cases h), List.nodup_nil⟩, World.ownsRow_nil _ _ _ _, Below.refl _ _⟩
    case round =>
      obtain ⟨k, ch, AS, kS, hk, rfl, rfl, hkx, hck, HCH, HOWN, HBr⟩ := hrel
      have hsr := HBr.out.size
      by_cases hlt : k < m
      · have hkl : k < picks.length := by rw [HM.out]; exact hlt
        obtain ⟨pb, poff, rfl, hPL⟩ := sl_atO (((HPK.out.below HBW3.out)).below HBr.out) hkl
        have pc0 := hPL.2 k hkl 0 _ rfl
        simp only [Nat.add_zero, Nat.mul_one] at pc0
        generalize picks[k]! = z at pc0
        have hpb : pb < wr.heap.size := hPL.1
        obtain ⟨i, hi, hrem, _⟩ := idx_of z live.length (by omega) (by omega)
        obtain ⟨bb, off, rfl, hL⟩ := sl_atO ((HL.out.below HBW3.out).below HBr.out) hi
        have hlb : bb < wr.heap.size := hL.1
        obtain ⟨m0, m1, m2⟩ := hL.at3 i hi
        have hpm : live[i]! ∈ live := by rw [getElem!_pos live i hi]; exact List.getElem_mem hi
        obtain ⟨p, hp⟩ : ∃ p, live[i]! = p := ⟨_, rfl⟩
        rw [hp] at m0 m1 m2 hpm
        have HPM := Lib.hid hpm
        have hi0 : (0 : Int) ≤ (i : Int) := by omega
        have hi1 : (i : Int) < (live.length : Int) := by omega
        have hbr := (HBr.out.block _ (blk_lt HB03.out)).trans HB03.out
        have q0 := blk_cell hbr 0
        have q1 := blk_cell hbr 1
        have q2 := blk_cell hbr 2
        have q3 := blk_cell hbr 3
        have q4 := blk_cell hbr 4
        have q5 := blk_cell hbr 5
        have q6 := blk_cell hbr 6
        simp only [List.getElem?_toArray, List.getElem?_cons_succ, List.getElem?_cons_zero] at q0 q1 q2 q3 q4 q5 q6
        have hltr : w.heap.size < wr.heap.size := blk_lt hbr
        clear hL hp hpm hPL hbr
        go_wp2
        go_region
        refine gen_worldQ (fun X => Below w3.heap.size w3 X ∧ wr.heap.size < X.heap.size ∧ X.heap[wr.heap.size]? = some (.cells #[.int .u32 p.pos, .int .i64 p.size, .int .i64 p.born] 38 (0, 0)) ∧ X.ownsRow w3.heap.size 38 3 (.slice AS ch.length kS) ch.length (ch.flatMap encP)) ⟨(HBr.out.alloc hsr _).drew, by simp, hal_new rfl, own_belowO HOWN.out (below_alloc1 wr _).drew⟩ ?_
        rintro X ⟨x1, x2, x3, x4⟩
        clear q0 q1 q2 q3 q4 q5 q6 m0 m1 m2 pc0
        have n0 := blk_cell x3 0
        have n1 := blk_cell x3 1
        have n2 := blk_cell x3 2
        simp only [List.getElem?_toArray, List.getElem?_cons_succ, List.getElem?_cons_zero] at n0 n1 n2
        have h43 := c43 (.slice AS ch.length kS) ch p X ((Fresh.of_own x4 rfl).sl) (by omega)
        have H43 := Lib.hid h43
        have X1 := Lib.hid x1
        have X3 := Lib.hid x3
        have X4 := Lib.hid x4
        clear h43 x1 x3 x4 HOWN
        go_wp2_with fail
        refine Calls.mono H43.out ?_
        rintro e X2 ⟨rfl, hB2⟩
        have HB2 := Lib.hid hB2
        have hp2 := (hB2.block _ (blk_lt X3.out)).trans X3.out
        have hlt2 : wr.heap.size < X2.heap.size := blk_lt hp2
        clear n0 n1 n2 hB2 H43
        by_cases hin : p ∈ ch
        · rw [decide_eq_true hin]
          clear hp2
          go_wp2
          go_roundg (m - (k + 1))
          case measure => omega
          case rel => exact ⟨k + 1, ch, AS, kS, by omega, by go_num, rfl, Nat.le_refl _, by omega, HCH.out, own_belowO X4.out HB2.out, X1.out.trans (HB2.out.mono X1.out.size)⟩
        · rw [decide_eq_false hin]
          have n0 := blk_cell hp2 0
          have n1 := blk_cell hp2 1
          have n2 := blk_cell hp2 2
          simp only [List.getElem?_toArray, List.getElem?_cons_succ, List.getElem?_cons_zero] at n0 n1 n2
          have ho2 := own_belowO X4.out HB2.out
          have hsz2 : w3.heap.size ≤ X2.heap.size := Nat.le_trans X1.out.size HB2.out.size
          obtain ⟨v5, w5, hrun, ho5, hg5⟩ := append_sl w3.heap.size (.slice AS ch.length kS) ch [p] (.slice (some ⟨X2.heap.size, 0, none⟩) 1 1) (X2.alloc (.cells #[.int .u32 p.pos, .int .i64 p.size, .int .i64 p.born] 38)) (ho2.alloc _) (sl_oneO (hal_new rfl)) (by omega) (by simp) (by simp; omega)
          have HB5 : Hid (Below w3.heap.size w3 w5) := ((X1.out.trans (HB2.out.mono X1.out.size)).alloc hsz2 _).trans (below_of_grown hg5 (by simp; omega) (fun j e => (own_lt ho2 j e).1))
          obtain ⟨A5, k5, rfl, _, _⟩ := id (Fresh.of_own ho5 rfl).sl
          have HO5 := Lib.hid ho5
          have HIN := Lib.hid hin
          clear hp2 ho2 ho5 hg5 hin
          go_wp2_with ((at_builtin; refine Lib.wpList_append_run _ rfl _ _ _ _ rfl _ _ rfl rfl _ _ hrun ?_))
          go_roundg (m - (k + 1))
          case measure => omega
          case rel =>
            refine ⟨k + 1, ch ++ [p], A5, k5, by omega, by go_num, (by rw [List.length_append]; rfl), Nat.le_refl _, by simp; omega, ⟨fun q hq => ?_, ?_⟩, HO5.out, HB5.out⟩
            · rcases List.mem_append.1 hq with hq | hq
              · exact HCH.out.1 q hq
              · rw [List.mem_singleton.1 hq]; exact HPM.out
            · exact List.nodup_append.2 ⟨HCH.out.2, by simp, fun a ha b hb e => HIN.out (by rw [List.mem_singleton.1 hb] at e; rw [← e]; exact ha)⟩
      · obtain rfl : k = m := by omega
        clear hlt
        have hbr := (HBr.out.block _ (blk_lt HB03.out)).trans HB03.out
        have q0 := blk_cell hbr 0
        have q1 := blk_cell hbr 1
        have q2 := blk_cell hbr 2
        have q3 := blk_cell hbr 3
        have q4 := blk_cell hbr 4
        have q5 := blk_cell hbr 5
        have q6 := blk_cell hbr 6
        simp only [List.getElem?_toArray, List.getElem?_cons_succ, List.getElem?_cons_zero] at q0 q1 q2 q3 q4 q5 q6
        have HBX := Lib.hid hbr
        have HSZ : w.heap.size < wr.heap.size := blk_lt hbr
        clear hbr
        go_wp2
        refine region_joinO (ι := Nat × Nat) (fun x T => ((((T.setIfInBounds 63 (.agg #[.int .i64 c.page, .int .i64 c.n, .int .i64 c.red, .int .i64 c.quarantine, .slice A live.length ca, .slice B quar.length cb, .int .i64 gi])).setIfInBounds 64 (.agg #[.int .i64 c.page, .int .i64 c.n, .int .i64 c.red, .int .i64 c.quarantine, .slice A live.length ca, .slice B quar.length cb, .int .i64 gi])).setIfInBounds 9 (.pointer (some ⟨x.1, 0, none⟩))).setIfInBounds 10 (.pointer (some ⟨x.2, 0, none⟩)))) (fun x W => Below wr.heap.size wr W ∧ wr.heap.size ≤ x.1 ∧ wr.heap.size ≤ x.2 ∧ x.1 ≠ x.2 ∧ W.heap[x.1]? = some (.cells #[.int .i64 c.page, .int .i64 c.n, .int .i64 c.red, .int .i64 c.quarantine, .slice A live.length ca, .slice B quar.length cb, .int .i64 gi] 26 (0, 0)) ∧ W.heap[x.2]? = some (.cells #[.int .i64 c.page, .int .i64 c.n, .int .i64 c.red, .int .i64 c.quarantine, .slice A live.length ca, .slice B quar.length cb, .int .i64 gi] 26 (0, 0))) ?_ ?_
        · go_region
          all_goals first
            | exact ⟨rfl, (wr.heap.size, wr.heap.size + 1), rfl, (((Below.refl _ _).alloc (Nat.le_refl _) _).alloc (by simp) _).drew, by simp, by simp, by simp, hal_old (hal_new rfl), hal_new (by simp)⟩
            | exact ⟨rfl, (wr.heap.size + 1, wr.heap.size), rfl, (((Below.refl _ _).alloc (Nat.le_refl _) _).alloc (by simp) _).drew, by simp, by simp, by simp, hal_new (by simp), hal_old (hal_new rfl)⟩
        rintro ⟨na, nb⟩ Y ⟨y1, y2, y3, y4, y5, y6⟩
        simp only [List.setIfInBounds_toArray, List.set_cons_zero, List.set_cons_succ]
        simp only at y2 y3 y4 y5 y6
        clear q0 q1 q2 q3 q4 q5 q6
        have hBwr : Below w.heap.size w wr := HBW3.out.trans (HBr.out.mono HBW3.out.size)
        have hsl := HL.out.below hBwr
        have hsq := HQ.out.below hBwr
        have HBA : Hid (BoxH Y na na nb c gi live quar A ca B cb) := ⟨y5, hsl.below y1, hsq.below y1, HSL.out, HSQ.out, fun a e e' => ⟨sl_ne hsl y2 a e e', sl_ne hsl y3 a e e'⟩, fun a e e' => ⟨sl_ne hsq y2 a e e', sl_ne hsq y3 a e e'⟩⟩
        have HBB : Hid (BoxH Y nb na nb c gi live quar A ca B cb) := ⟨y6, hsl.below y1, hsq.below y1, HSL.out, HSQ.out, fun a e e' => ⟨sl_ne hsl y2 a e e', sl_ne hsl y3 a e e'⟩, fun a e e' => ⟨sl_ne hsq y2 a e e', sl_ne hsq y3 a e e'⟩⟩
        have HF0 : Hid (FreedTo c gi live quar [] live quar) := FreedTo.start HG.out HWL.out HWQ.out
        have Y1 := Lib.hid y1
        have HBr1 := HBr
        have hwz3 := HBr.out.size
        have hslc : Sl 3 encP wr (.slice AS ch.length kS) ch := (Fresh.of_own HOWN.out rfl).sl
        have HSLC := Lib.hid hslc
        have HNE : Hid (na ≠ nb) := y4
        have hbw := HBX.out
        clear y1 y4 y5 y6 hBwr hsl hsq hslc hbw
        obtain ⟨wz, rfl⟩ : ∃ wz : World, wz = wr := ⟨_, rfl⟩
        obtain ⟨M, hM⟩ : ∃ M, ch.length = M := ⟨_, rfl⟩
        rw [hM] at hck HSLC ⊢
        have HMM := Lib.hid hM
        clear hM HOWN
        go_wp2
        go_loopg [67] M (fun kx s67 wr => ∃ (k : Nat) (la qa lb qb : List Piece) (A1 : Option Addr) (k1 : Nat) (A2 : Option Addr) (k2 : Nat) (B1 : Option Addr) (j1 : Nat) (B2 : Option Addr) (j2 : Nat), k ≤ M ∧ s67 = .int .i64 k ∧ M - k ≤ kx ∧ Hid (BoxH wr na na nb c gi la qa A1 k1 A2 k2) ∧ Hid (BoxH wr nb na nb c gi lb qb B1 j1 B2 j2) ∧ Hid (FreedTo c gi live quar (ch.take k) la qa) ∧ Hid (FreedTo c gi live quar (ch.drop (M - k)) lb qb) ∧ Hid (Below wz.heap.size wz wr))
        case atStart => exact ⟨0, live, quar, live, quar, A, ca, B, cb, A, ca, B, cb, Nat.zero_le _, rfl, by omega, HBA.out, HBB.out, by rw [List.take_zero]; exact HF0.out, by rw [Nat.sub_zero, ← HMM.out, List.drop_length]; exact HF0.out, Y1.out⟩
        case round =>
          obtain ⟨t, la, qa, lb, qb, A1, k1, A2, k2, B1, j1, B2, j2, ht, rfl, htx, HBA, HBB, HFA, HFB, HBr⟩ := hrel
          have hsr := HBr.out.size
          have hna : na < wr.heap.size := blk_lt HBA.out.box
          have hnb : nb < wr.heap.size := blk_lt HBB.out.box
          by_cases hlt : t < M
          · have htl : t < ch.length := by rw [HMM.out]; exact hlt
            have htr : M - 1 - t < ch.length := by rw [HMM.out]; omega
            obtain ⟨cb0, coff, rfl, hCL⟩ := sl_atO HSLC.out htl
            have hcb : cb0 < wz.heap.size := hCL.1
            have HCL := Lib.hid hCL
            have hpm := HCH.out.1 ch[t]! (by rw [getElem!_pos ch t htl]; exact List.getElem_mem htl)
            have hqm := HCH.out.1 ch[M - 1 - t]! (by rw [getElem!_pos ch _ htr]; exact List.getElem_mem htr)
            have hnd := HCH.out.2
            have hpc : ch[t]! ∉ ch.take t := by
              intro h
              rw [List.nodup_iff_pairwise_ne, List.pairwise_iff_getElem] at hnd
              obtain ⟨j, hj, e⟩ := List.getElem_of_mem h
              rw [List.length_take] at hj
              rw [List.getElem_take, getElem!_pos ch t htl] at e
              exact hnd j t (by omega) htl (by omega) e
            have hqc : ch[M - 1 - t]! ∉ ch.drop (M - t) := by
              intro h
              rw [List.nodup_iff_pairwise_ne, List.pairwise_iff_getElem] at hnd
              obtain ⟨j, hj, e⟩ := List.getElem_of_mem h
              rw [List.length_drop] at hj
              rw [List.getElem_drop, getElem!_pos ch _ htr] at e
              exact hnd (M - 1 - t) (M - t + j) htr (by omega) (by omega) e.symm
            have ht1 : ch.take (t + 1) = ch.take t ++ [ch[t]!] := by rw [List.take_succ_eq_append_getElem htl, getElem!_pos ch t htl]
            have hd1 : ch.drop (M - (t + 1)) = ch[M - 1 - t]! :: ch.drop (M - t) := by
              rw [show M - (t + 1) = M - 1 - t by omega, List.drop_eq_getElem_cons htr, getElem!_pos ch _ htr, show M - 1 - t + 1 = M - t by omega]
            have hcp := hCL.2 t htl 0 _ rfl
            have hcq := hCL.2 (M - 1 - t) htr 0 _ rfl
            simp only [Nat.add_zero] at hcp hcq
            obtain ⟨lf, qf, hf1, hcall⟩ := free_call HBA.out HFA.out hpm hpc (ch' := ch.take (t + 1)) (by intro x; rw [ht1]; simp [or_comm]) (by rw [ht1]; simp)
            generalize ch[t]! = p at *
            generalize ch[M - 1 - t]! = q at *
            have hcpw : wr.cell? ⟨cb0, coff + t * 3, none⟩ = some (.int .u32 p.pos) := (HBr.out.cell (p := ⟨cb0, coff + t * 3, none⟩) hcb).trans hcp
            have HCP := Lib.hid hcp
            have HCQ := Lib.hid hcq
            have HCALL := Lib.hid hcall
            have HF1 := Lib.hid hf1
            have HQM := Lib.hid hqm
            have HQC := Lib.hid hqc
            have HD1 := Lib.hid hd1
            have hcna : cb0 ≠ na := by omega
            have hcnb : cb0 ≠ nb := by omega
            have hbxa := HBA.out.box
            have i3 : t < M := hlt
            have i4 : (t : Int) < (M : Int) := by omega
            have a0 := blk_cell hbxa 0
            have fa0 : wr.frozen? ⟨na, 0, none⟩ = false := frozen_of_row _ _ _ _ _ hbxa
            have a1 := blk_cell hbxa 1
            have fa1 : wr.frozen? ⟨na, 1, none⟩ = false := frozen_of_row _ _ _ _ _ hbxa
            have a2 := blk_cell hbxa 2
            have fa2 : wr.frozen? ⟨na, 2, none⟩ = false := frozen_of_row _ _ _ _ _ hbxa
            have a3 := blk_cell hbxa 3
            have fa3 : wr.frozen? ⟨na, 3, none⟩ = false := frozen_of_row _ _ _ _ _ hbxa
            have a4 := blk_cell hbxa 4
            have fa4 : wr.frozen? ⟨na, 4, none⟩ = false := frozen_of_row _ _ _ _ _ hbxa
            have a5 := blk_cell hbxa 5
            have fa5 : wr.frozen? ⟨na, 5, none⟩ = false := frozen_of_row _ _ _ _ _ hbxa
            have a6 := blk_cell hbxa 6
            have fa6 : wr.frozen? ⟨na, 6, none⟩ = false := frozen_of_row _ _ _ _ _ hbxa
            simp only [List.getElem?_toArray, List.getElem?_cons_succ, List.getElem?_cons_zero] at a0 a1 a2 a3 a4 a5 a6
            clear hbxa hcp hcq hcall hf1 hqm hqc hd1 hpm hpc ht1 hnd hCL htl htr
            go_wp2
            refine region_joinK (ι := (Option Addr × Nat) × (Option Addr × Nat)) (fun x T => (((((((((((T.setIfInBounds 71 (.agg #[.int .i64 c.page, .int .i64 c.n, .int .i64 c.red, .int .i64 c.quarantine, .slice A1 la.length k1, .slice A2 qa.length k2, .int .i64 gi])).setIfInBounds 72 (.slice (some ⟨cb0, coff, none⟩) M kS)).setIfInBounds 73 (.int .i64 t)).setIfInBounds 74 (.pointer (some ⟨cb0, coff + t * 3, none⟩))).setIfInBounds 75 (.pointer (some ⟨cb0, coff + t * 3, none⟩))).setIfInBounds 76 (.int .u32 p.pos)).setIfInBounds 77 (.tuple #[.agg #[.int .i64 c.page, .int .i64 c.n, .int .i64 c.red, .int .i64 c.quarantine, .slice x.1.1 lf.length x.1.2, .slice x.2.1 qf.length x.2.2, .int .i64 gi], .int .i64 0])).setIfInBounds 70 (.tuple #[.agg #[.int .i64 c.page, .int .i64 c.n, .int .i64 c.red, .int .i64 c.quarantine, .slice x.1.1 lf.length x.1.2, .slice x.2.1 qf.length x.2.2, .int .i64 gi], .int .i64 0])).setIfInBounds 78 (.agg #[.int .i64 c.page, .int .i64 c.n, .int .i64 c.red, .int .i64 c.quarantine, .slice x.1.1 lf.length x.1.2, .slice x.2.1 qf.length x.2.2, .int .i64 gi])).setIfInBounds 79 (.int .i64 0)).setIfInBounds 12 (.int .i64 0))) (fun x W => Below wz.heap.size wz W ∧ BoxH W na na nb c gi lf qf x.1.1 x.1.2 x.2.1 x.2.2 ∧ BoxH W nb na nb c gi lb qb B1 j1 B2 j2) ?_ ?_
            · intro KK hKK
              have HKK := Lib.hid hKK
              clear hKK
              go_region_with (go_at_call 19; refine Calls.mono (HCALL.out _ (Below.refl _ _).drew) ?_; rintro e v1 ⟨hB, A3, k3, A4, k4, rfl, f1, f2⟩; have HB1 := Lib.hid hB; have F1 := Lib.hid f1; have F2 := Lib.hid f2; have hbv := (hB.block na (blk_lt HBA.out.box)).trans HBA.out.box; have HBV := Lib.hid hbv; have hltv : na < v1.heap.size := blk_lt hbv; have b0 := blk_cell hbv 0; have b1 := blk_cell hbv 1; have b2 := blk_cell hbv 2; have b3 := blk_cell hbv 3; have b4 := blk_cell hbv 4; have b5 := blk_cell hbv 5; have b6 := blk_cell hbv 6; have fb0 : v1.frozen? ⟨na, 0, none⟩ = false := frozen_of_row _ _ _ _ _ hbv; have fb1 : v1.frozen? ⟨na, 1, none⟩ = false := frozen_of_row _ _ _ _ _ hbv; have fb2 : v1.frozen? ⟨na, 2, none⟩ = false := frozen_of_row _ _ _ _ _ hbv; have fb3 : v1.frozen? ⟨na, 3, none⟩ = false := frozen_of_row _ _ _ _ _ hbv; have fb4 : v1.frozen? ⟨na, 4, none⟩ = false := frozen_of_row _ _ _ _ _ hbv; have fb5 : v1.frozen? ⟨na, 5, none⟩ = false := frozen_of_row _ _ _ _ _ hbv; have fb6 : v1.frozen? ⟨na, 6, none⟩ = false := frozen_of_row _ _ _ _ _ hbv; simp only [List.getElem?_toArray, List.getElem?_cons_succ, List.getElem?_cons_zero] at b0 b1 b2 b3 b4 b5 b6; clear hB f1 f2 hbv)
              all_goals
                have hst := store_box HBV.out (HBr.out.trans (((Below.refl wr.heap.size wr).drew.trans HB1.out).mono hsr)) (by assumption) F1.out F2.out (blk_lt HBA.out.box) (blk_lt HBB.out.box) (by simp) (HBB.out.below ((Below.refl wr.heap.size wr).drew.trans HB1.out)) (Ne.symm HNE.out)
                have hfin := HKK.out ((A3, k3), (A4, k4)) _ hst
                simp only [List.setIfInBounds_toArray, List.set_cons_zero, List.set_cons_succ] at hfin
                exact hfin
            rintro ⟨⟨A3, k3⟩, A4, k4⟩ X ⟨x1, x2, x3⟩
            simp only [List.setIfInBounds_toArray, List.set_cons_zero, List.set_cons_succ]
            simp only at x2
            clear a0 a1 a2 a3 a4 a5 a6 fa0 fa1 fa2 fa3 fa4 fa5 fa6 HCALL hcpw HBA HBB hna hnb HFA
            have HBA := Lib.hid x2
            have HBB := Lib.hid x3
            have hna : na < X.heap.size := blk_lt HBA.out.box
            have hnb : nb < X.heap.size := blk_lt HBB.out.box
            obtain ⟨lg, qg, hg1, hcall⟩ := free_call HBB.out HFB.out HQM.out HQC.out (ch' := ch.drop (M - (t + 1))) (by intro x; rw [HD1.out]; simp) (by rw [HD1.out]; simp)
            have HCALL := Lib.hid hcall
            have HG1 := Lib.hid hg1
            have hcqw : X.cell? ⟨cb0, coff + (M - 1 - t) * 3, none⟩ = some (.int .u32 q.pos) := (x1.cell (p := ⟨cb0, coff + (M - 1 - t) * 3, none⟩) hcb).trans HCQ.out
            have hsr' := x1.size
            have X1 := Lib.hid x1
            have hbxb := HBB.out.box
            have a0 := blk_cell hbxb 0
            have fa0 : X.frozen? ⟨nb, 0, none⟩ = false := frozen_of_row _ _ _ _ _ hbxb
            have a1 := blk_cell hbxb 1
            have fa1 : X.frozen? ⟨nb, 1, none⟩ = false := frozen_of_row _ _ _ _ _ hbxb
            have a2 := blk_cell hbxb 2
            have fa2 : X.frozen? ⟨nb, 2, none⟩ = false := frozen_of_row _ _ _ _ _ hbxb
            have a3 := blk_cell hbxb 3
            have fa3 : X.frozen? ⟨nb, 3, none⟩ = false := frozen_of_row _ _ _ _ _ hbxb
            have a4 := blk_cell hbxb 4
            have fa4 : X.frozen? ⟨nb, 4, none⟩ = false := frozen_of_row _ _ _ _ _ hbxb
            have a5 := blk_cell hbxb 5
            have fa5 : X.frozen? ⟨nb, 5, none⟩ = false := frozen_of_row _ _ _ _ _ hbxb
            have a6 := blk_cell hbxb 6
            have fa6 : X.frozen? ⟨nb, 6, none⟩ = false := frozen_of_row _ _ _ _ _ hbxb
            simp only [List.getElem?_toArray, List.getElem?_cons_succ, List.getElem?_cons_zero] at a0 a1 a2 a3 a4 a5 a6
            have hu1 : IntKind.i64.wrap ((M : Int) - 1) = (M : Int) - 1 := by rw [IntKind.wrap_i64]; omega
            have hu2 : IntKind.i64.wrap ((M : Int) - 1 - (t : Int)) = ((M - 1 - t : Nat) : Int) := by rw [IntKind.wrap_i64]; omega
            have hu3 : (0 : Int) ≤ ((M - 1 - t : Nat) : Int) := by omega
            have hu4 : M - 1 - t < M := by omega
            have hu5 : ((M - 1 - t : Nat) : Int) < (M : Int) := by omega
            generalize M - 1 - t = r at *
            clear x1 x2 x3 hcall hg1 hbxb HBr hsr
            go_wp2
            refine region_joinK (ι := (Option Addr × Nat) × (Option Addr × Nat)) (fun x T => (((((((((((((((T.setIfInBounds 81 (.agg #[.int .i64 c.page, .int .i64 c.n, .int .i64 c.red, .int .i64 c.quarantine, .slice B1 lb.length j1, .slice B2 qb.length j2, .int .i64 gi])).setIfInBounds 82 (.slice (some ⟨cb0, coff, none⟩) M kS)).setIfInBounds 83 (.slice (some ⟨cb0, coff, none⟩) M kS)).setIfInBounds 84 (.int .i64 M)).setIfInBounds 85 (.int .i64 ((M : Int) - 1))).setIfInBounds 86 (.int .i64 t)).setIfInBounds 87 (.int .i64 r)).setIfInBounds 88 (.pointer (some ⟨cb0, coff + r * 3, none⟩))).setIfInBounds 89 (.pointer (some ⟨cb0, coff + r * 3, none⟩))).setIfInBounds 90 (.int .u32 q.pos)).setIfInBounds 91 (.tuple #[.agg #[.int .i64 c.page, .int .i64 c.n, .int .i64 c.red, .int .i64 c.quarantine, .slice x.1.1 lg.length x.1.2, .slice x.2.1 qg.length x.2.2, .int .i64 gi], .int .i64 0])).setIfInBounds 80 (.tuple #[.agg #[.int .i64 c.page, .int .i64 c.n, .int .i64 c.red, .int .i64 c.quarantine, .slice x.1.1 lg.length x.1.2, .slice x.2.1 qg.length x.2.2, .int .i64 gi], .int .i64 0])).setIfInBounds 92 (.agg #[.int .i64 c.page, .int .i64 c.n, .int .i64 c.red, .int .i64 c.quarantine, .slice x.1.1 lg.length x.1.2, .slice x.2.1 qg.length x.2.2, .int .i64 gi])).setIfInBounds 93 (.int .i64 0)).setIfInBounds 13 (.int .i64 0))) (fun x W => Below wz.heap.size wz W ∧ BoxH W nb na nb c gi lg qg x.1.1 x.1.2 x.2.1 x.2.2 ∧ BoxH W na na nb c gi lf qf A3 k3 A4 k4) ?_ ?_
            · intro KK hKK
              have HKK := Lib.hid hKK
              clear hKK
              go_region_with (go_at_call 19; refine Calls.mono (HCALL.out _ (Below.refl _ _).drew) ?_; rintro e v1 ⟨hB, B3, j3, B4, j4, rfl, f1, f2⟩; have HB1 := Lib.hid hB; have F1 := Lib.hid f1; have F2 := Lib.hid f2; have hbv := (hB.block nb (blk_lt HBB.out.box)).trans HBB.out.box; have HBV := Lib.hid hbv; have hltv : nb < v1.heap.size := blk_lt hbv; have b0 := blk_cell hbv 0; have b1 := blk_cell hbv 1; have b2 := blk_cell hbv 2; have b3 := blk_cell hbv 3; have b4 := blk_cell hbv 4; have b5 := blk_cell hbv 5; have b6 := blk_cell hbv 6; have fb0 : v1.frozen? ⟨nb, 0, none⟩ = false := frozen_of_row _ _ _ _ _ hbv; have fb1 : v1.frozen? ⟨nb, 1, none⟩ = false := frozen_of_row _ _ _ _ _ hbv; have fb2 : v1.frozen? ⟨nb, 2, none⟩ = false := frozen_of_row _ _ _ _ _ hbv; have fb3 : v1.frozen? ⟨nb, 3, none⟩ = false := frozen_of_row _ _ _ _ _ hbv; have fb4 : v1.frozen? ⟨nb, 4, none⟩ = false := frozen_of_row _ _ _ _ _ hbv; have fb5 : v1.frozen? ⟨nb, 5, none⟩ = false := frozen_of_row _ _ _ _ _ hbv; have fb6 : v1.frozen? ⟨nb, 6, none⟩ = false := frozen_of_row _ _ _ _ _ hbv; simp only [List.getElem?_toArray, List.getElem?_cons_succ, List.getElem?_cons_zero] at b0 b1 b2 b3 b4 b5 b6; clear hB f1 f2 hbv)
              all_goals
                have hst := store_box HBV.out (X1.out.trans (((Below.refl X.heap.size X).drew.trans HB1.out).mono hsr')) (by assumption) F1.out F2.out (blk_lt HBA.out.box) (blk_lt HBB.out.box) (by simp) (HBA.out.below ((Below.refl X.heap.size X).drew.trans HB1.out)) HNE.out
                have hfin := HKK.out ((B3, j3), (B4, j4)) _ hst
                simp only [List.setIfInBounds_toArray, List.set_cons_zero, List.set_cons_succ] at hfin
                exact hfin
            rintro ⟨⟨B3, j3⟩, B4, j4⟩ X2 ⟨x1, x2, x3⟩
            simp only [List.setIfInBounds_toArray, List.set_cons_zero, List.set_cons_succ]
            simp only at x2
            clear a0 a1 a2 a3 a4 a5 a6 fa0 fa1 fa2 fa3 fa4 fa5 fa6
            go_wp2
            go_roundg (M - (t + 1))
            case measure => omega
            case rel => exact ⟨t + 1, lf, qf, lg, qg, A3, k3, A4, k4, B3, j3, B4, j4, by omega, by go_num, Nat.le_refl _, x3, x2, HF1.out, HG1.out, x1⟩
          · obtain rfl : t = M := by omega
            clear hlt
            have hfa : FreedTo c gi live quar ch la qa := by have h := HFA.out; rwa [← HMM.out, List.take_length] at h
            have hfb : FreedTo c gi live quar ch lb qb := by have h := HFB.out; rwa [Nat.sub_self, List.drop_zero] at h
            obtain ⟨he, hqq⟩ := hfa.both hfb
            subst he
            have hlen := hfa.len
            have hgl := hfa.good.n1
            have hg2 := hfa.good.n2
            have hg3 := hfb.good.n2
            rw [HMM.out] at hlen
            have hct : ch.length ≤ 100000 := by rw [HMM.out]; omega
            have h24 := c24_zero (.slice AS t kS) ch wr (HSLC.out.below HBr.out) hct
            have H24 := Lib.hid h24
            have HQQ := Lib.hid hqq
            have HXB : Hid (wr.heap[w.heap.size]? = some (.cells #[.int .i64 c.page, .int .i64 c.n, .int .i64 c.red, .int .i64 c.quarantine, .slice A live.length ca, .slice B quar.length cb, .int .i64 gi] 26 (0, 0))) := (HBr.out.block _ HSZ).trans HBX.out
            clear hfa hfb hqq h24
            go_wp2_with fail
            refine Calls.mono H24.out ?_
            clear H24
            rintro e v1 ⟨rfl, hV1⟩
            have HA1 := Lib.hid (HBA.out.below hV1)
            have HB1 := Lib.hid (HBB.out.below hV1)
            have HX1 := Lib.hid ((hV1.block _ (blk_lt HXB.out)).trans HXB.out)
            have HV1 : Hid (Below wz.heap.size wz v1) := HBr.out.trans (hV1.mono hsr)
            have hxa := HA1.out.box
            have hxb := HB1.out.box
            have hxx := HX1.out
            have a0 := blk_cell hxa 0
            have a1 := blk_cell hxa 1
            have a2 := blk_cell hxa 2
            have a3 := blk_cell hxa 3
            have a4 := blk_cell hxa 4
            have a5 := blk_cell hxa 5
            have a6 := blk_cell hxa 6
            simp only [List.getElem?_toArray, List.getElem?_cons_succ, List.getElem?_cons_zero] at a0 a1 a2 a3 a4 a5 a6
            have b0 := blk_cell hxb 0
            have b1 := blk_cell hxb 1
            have b2 := blk_cell hxb 2
            have b3 := blk_cell hxb 3
            have b4 := blk_cell hxb 4
            have b5 := blk_cell hxb 5
            have b6 := blk_cell hxb 6
            simp only [List.getElem?_toArray, List.getElem?_cons_succ, List.getElem?_cons_zero] at b0 b1 b2 b3 b4 b5 b6
            have q0 := blk_cell hxx 0
            have q1 := blk_cell hxx 1
            have q2 := blk_cell hxx 2
            have q3 := blk_cell hxx 3
            have q4 := blk_cell hxx 4
            have q5 := blk_cell hxx 5
            have q6 := blk_cell hxx 6
            simp only [List.getElem?_toArray, List.getElem?_cons_succ, List.getElem?_cons_zero] at q0 q1 q2 q3 q4 q5 q6
            have h22 := c22v _ _ la la v1 (by omega) (by omega) HA1.out.sl HB1.out.sl
            rw [allEq_selfO] at h22
            have H22 := Lib.hid h22
            clear hV1 hxa hxb hxx h22
            go_wp2_with fail
            refine Calls.mono H22.out ?_
            rintro e v2 ⟨rfl, hV2⟩
            have HA2 := Lib.hid (HA1.out.below hV2)
            have HB2 := Lib.hid (HB1.out.below hV2)
            have HX2 := Lib.hid ((hV2.block _ (blk_lt HX1.out)).trans HX1.out)
            have HV2 : Hid (Below wz.heap.size wz v2) := HV1.out.trans (hV2.mono HV1.out.size)
            clear a0 a1 a2 a3 a4 a5 a6 b0 b1 b2 b3 b4 b5 b6 q0 q1 q2 q3 q4 q5 q6
            have hxa := HA2.out.box
            have hxb := HB2.out.box
            have hxx := HX2.out
            have a0 := blk_cell hxa 0
            have a1 := blk_cell hxa 1
            have a2 := blk_cell hxa 2
            have a3 := blk_cell hxa 3
            have a4 := blk_cell hxa 4
            have a5 := blk_cell hxa 5
            have a6 := blk_cell hxa 6
            simp only [List.getElem?_toArray, List.getElem?_cons_succ, List.getElem?_cons_zero] at a0 a1 a2 a3 a4 a5 a6
            have b0 := blk_cell hxb 0
            have b1 := blk_cell hxb 1
            have b2 := blk_cell hxb 2
            have b3 := blk_cell hxb 3
            have b4 := blk_cell hxb 4
            have b5 := blk_cell hxb 5
            have b6 := blk_cell hxb 6
            simp only [List.getElem?_toArray, List.getElem?_cons_succ, List.getElem?_cons_zero] at b0 b1 b2 b3 b4 b5 b6
            have q0 := blk_cell hxx 0
            have q1 := blk_cell hxx 1
            have q2 := blk_cell hxx 2
            have q3 := blk_cell hxx 3
            have q4 := blk_cell hxx 4
            have q5 := blk_cell hxx 5
            have q6 := blk_cell hxx 6
            simp only [List.getElem?_toArray, List.getElem?_cons_succ, List.getElem?_cons_zero] at q0 q1 q2 q3 q4 q5 q6
            have hsub : IntKind.i64.wrap ((live.length : Int) - (t : Int)) = (la.length : Int) := by rw [IntKind.wrap_i64]; omega
            have HW2 : Hid (Below w.heap.size w v2) := HBW3.out.trans ((HBr1.out.trans (HV2.out.mono hwz3)).mono HBW3.out.size)
            clear hV2 hxa hxb hxx H22
            cases hz : ch.any fun p => decide (p.size = 0) with
            | true =>
              go_wp2
              go_ret
              exact ⟨rfl, HW2.out⟩
            | false =>
              by_cases hQ : 0 < c.quarantine
              · have dQ : decide (0 < c.quarantine) = true := decide_eq_true hQ
                go_wp2
                go_ret
                exact ⟨rfl, HW2.out⟩
              · have dQ : decide (0 < c.quarantine) = false := decide_eq_false hQ
                have hqe : qa = qb := HQQ.out (by omega) (fun p hp e => by
                  have h := List.any_eq_false.1 hz p hp
                  exact h (by simpa using e))
                subst hqe
                have h33 := c33 c c _ _ _ _ gi gi la qa la qa v2 HA2.out.sl HA2.out.sq HB2.out.sl HB2.out.sq (by omega) (by omega) (by omega) (by omega)
                rw [show sameF c c gi gi la la qa qa = true by simp [sameF, allEq_selfO]] at h33
                have H33 := Lib.hid h33
                clear h33
                go_wp2_with fail
                refine Calls.mono H33.out ?_
                rintro e v3 ⟨rfl, hV3⟩
                go_wp2
                go_ret
                exact ⟨rfl, HW2.out.trans (hV3.mono HW2.out.size)⟩
end Go.Proofs.Ytbhbjcgbhklieaa
