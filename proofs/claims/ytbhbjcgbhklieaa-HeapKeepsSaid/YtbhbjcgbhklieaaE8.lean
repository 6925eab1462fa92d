/- Stat. -/
import Derived.Test.YtbhbjcgbhklieaaE9
import Derived.Test.YtbhbjcgbhklieaaE7
namespace Go.Proofs.Ytbhbjcgbhklieaa
open Go.RowKit Go.Shelf
attribute [local go_sem] Oper.semAt_some

theorem wpIn_rangeFunc_ownT2 {F : Fence} {n : Nat} {P : Program} {α : Type} {g : Operand} {ps : Array Tmp} {assign body : Code} {Q : Exit → Act → World → Prop} (T : Array Value) (ds : List Deferred) {w : World}
    (hro : F.round = none) (h1 : 1 ≤ n) {gf : Nat} {lb : Array Value} (hg : ({ tmps := T, defers := ds } : Act).eval g = .func (.func gf) #[] lb) (hFg : F.fn gf) (eg : ∀ args w, (callFunc gf args).run P w = .ok (.enter gf args) w)
    {encs : α → Array Value} {Kp : World → World → Prop} {S Sp : List α → Prop} {N : Nat} {w0 : World} (hseq : SeqStopsK F (n - 1) P gf lb encs Kp S Sp N w0)
    (hKt : ∀ {A B C : World}, Kp A B → Kp B C → Kp A C) (hKb : ∀ (W : World) (l : Nat) (o o' : Obj), w.heap.size ≤ l → W.heap[l]? = some o → o.isCells = false → o.isWalk = false → Kp W (W.putObj l o')) (hb0 : Below w0.heap.size w0 w) (hps : ∀ x, (encs x).size = ps.size)
    (I : List α → World → Prop) (Ix : Code → List α → World → Prop) (hI : OwnFrom w.heap.size I) (hIx : ∀ c, OwnFrom w.heap.size (Ix c)) (h0 : I [] w) (Ax : Array Value → α → Act → World → Prop) (hAx : ∀ x a', OwnFrom w.heap.size (fun (_ : Unit) W => Ax T x a' W))
    (hassign : ∀ (l : Nat) (pre : List α) (x : α) (W : World) (K : Act → World → Prop), I pre W → (∀ a' W', KeepsFrom w.heap.size W W' → Kp W W' → I pre W' → Ax T x a' W' → K a' W') →
      assign.wpIn (F.inRound l) (n - 1 - 1) P (Exit.then K (fun _ _ _ => False)) { tmps := (ps.zip (encs x)).foldl (fun t (p, v) => t.setIfInBounds p v) T, defers := [] } W)
    (hbody : ∀ (l : Nat) (pre : List α) (x : α) (a' : Act) (W : World), w.heap.size ≤ l → (∃ r, W.heap[l]? = some (.loop r)) → I pre W → Ax T x a' W → pre.length < N → body.wpIn (F.inRound l) (n - 1 - 1) P (ownPostG w.heap.size Kp I Ix (pre ++ [x]) W) a' W)
    (hdone : ∀ (D : Nat) (xs : List α) (W : World), w.heap.size ≤ D → S xs → I xs W → W.heap[D]? = some (.deferred (some [])) → Q .normal { tmps := T, defers := { target := .collected D, args := #[] } :: ds } W)
    (hstop : ∀ (D : Nat) (c : Code) (pre : List α) (W : World), w.heap.size ≤ D → Sp pre → Ix c pre W → W.heap[D]? = some (.deferred (some [])) → c.wpIn F n P Q { tmps := T, defers := { target := .collected D, args := #[] } :: ds } W) :
    (Code.rangeFunc g ps assign body).wpIn F n P Q { tmps := T, defers := ds } w :=
  wpIn_rangeFunc_ownH (a := { tmps := T, defers := ds }) hro h1 hg hFg eg hseq hKt hKb hb0 hps I Ix hI hIx h0 (Ax T) hAx hassign hbody hdone hstop

theorem gen_worldM {F : Fence} {n : Nat} {P : Program} {fn : Func} {R : Ending → World → Prop} {e : Exit} {a : Act} {w : World} (R0 : World → Prop) (h : R0 w) (k : ∀ W, R0 W → bodyPostM F n P fn R e a W) : bodyPostM F n P fn R e a w := k w h

def bW (l : List Ext) : Int := l.foldl (fun s x => if x.quar then s else wrap64 (s + x.p.size)) 0
def qW (l : List Ext) : Int := l.foldl (fun s x => if x.quar then wrap64 (s + x.p.size) else s) 0
theorem bW_snoc (l : List Ext) (x : Ext) : bW (l ++ [x]) = if x.quar then bW l else wrap64 (bW l + x.p.size) := by simp [bW]
theorem qW_snoc (l : List Ext) (x : Ext) : qW (l ++ [x]) = if x.quar then wrap64 (qW l + x.p.size) else qW l := by simp [qW]

def gapN (red : Int) (g : Int × Int) : Int := g.2 - red - firstF red g.1
def lgF (red : Int) : List (Int × Int) → Int → Int
  | [], s => s
  | g :: r, s => lgF red r (if 1 ≤ gapN red g then max s (min (gapN red g) 65536) else s)
theorem lgF_snoc (red : Int) : ∀ (l : List (Int × Int)) (g : Int × Int) (s : Int), lgF red (l ++ [g]) s = if 1 ≤ gapN red g then max (lgF red l s) (min (gapN red g) 65536) else lgF red l s
  | [], g, s => rfl
  | a :: l, g, s => by simp only [List.cons_append, lgF, lgF_snoc red l g]
def gapB (l : List (Int × Int)) : Int := (l.map fun g => g.2 - g.1).sum
theorem gapB_snoc (l : List (Int × Int)) (g : Int × Int) : gapB (l ++ [g]) = gapB l + (g.2 - g.1) := by simp [gapB]

def statV (c : Conf) (live quar : List Piece) (L : List Ext) : Value :=
  .agg #[.int .i64 live.length, .int .i64 (bW (items c.red live quar)), .int .i64 quar.length, .int .i64 (qW (items c.red live quar)), .int .i64 (gapsF c L).length, .int .i64 (gapB (gapsF c L)), .int .i64 (lgF c.red (gapsF c L) (-1))]

set_option maxRecDepth 100000 in
set_option maxHeartbeats 4000000 in
theorem c29 (c : Conf) (lv qv : Value) (gi : Int) (live quar : List Piece) (w : World) (hl : Sl 3 encP w lv live) (hq : Sl 3 encP w qv quar) (wl : ∀ p ∈ live, WfP p) (wq : ∀ p ∈ quar, WfP p) :
    CallsIn Fence.wide 9 Try.prog 29 #[hAgg c lv qv gi] w fun e w' => Below w.heap.size w w' ∧
      ((¬ Good c gi live quar ∧ e = .returned (.agg #[.int .i64 0, .int .i64 0, .int .i64 0, .int .i64 0, .int .i64 0, .int .i64 0, .int .i64 0])) ∨ (∃ L, Op c gi live quar L ∧ e = .returned (statV c live quar L))) := by
  have HL := Lib.hid hl
  have HQ := Lib.hid hq
  obtain ⟨A, ca, rfl, _, _⟩ := id hl
  obtain ⟨B, cb, rfl, _, _⟩ := id hq
  have hw1 := (below_alloc1 w (.cells #[.int .i64 c.page, .int .i64 c.n, .int .i64 c.red, .int .i64 c.quarantine, .slice A live.length ca, .slice B quar.length cb, .int .i64 gi] 26)).alloc (by simp) (.cells #[.int .i64 0, .int .i64 0, .int .i64 0, .int .i64 0, .int .i64 0, .int .i64 0, .int .i64 0] 59)
  have hcall := c68' c _ _ gi live quar _ (hl.below hw1) (hq.below hw1) wl wq
  have HW1 := Lib.hid hw1
  clear wl wq hw1 hl hq
  refine callsIn_of_wp_marks Try.func29 rfl trivial ?_ rfl
  simp only [Try.ntmps29, List.size_toArray, List.length_cons, List.length_nil, Nat.reduceAdd, Nat.reduceSub, Array.replicate_succ, Array.replicate_zero, List.push_toArray, List.append_toArray, List.nil_append, List.cons_append]
  have f68 : Fence.wide.fn 68 := trivial
  have f76 : Fence.wide.fn 76 := trivial
  have f77 : Fence.wide.fn 77 := trivial
  have f78 : Fence.wide.fn 78 := trivial
  have f99 : Fence.wide.fn 99 := trivial
  have f100 : Fence.wide.fn 100 := trivial
  gi_wp2_with fail
  refine CallsIn.mono (callsIn_wide.2 hcall) ?_
  rintro e w1 ⟨hB, hr⟩
  have hb0 : w1.heap[w.heap.size]? = some (.cells #[.int .i64 c.page, .int .i64 c.n, .int .i64 c.red, .int .i64 c.quarantine, .slice A live.length ca, .slice B quar.length cb, .int .i64 gi] 26 (0, 0)) := (hB.block _ (by simp; try omega)).trans (hal_old (hal_new rfl))
  have hb1 : w1.heap[w.heap.size + 1]? = some (.cells #[.int .i64 0, .int .i64 0, .int .i64 0, .int .i64 0, .int .i64 0, .int .i64 0, .int .i64 0] 59 (0, 0)) := (hB.block _ (by simp)).trans (hal_new (by simp))
  have hBw : Below w.heap.size w w1 := HW1.out.trans (hB.mono (by simp; try omega))
  have hsz : w.heap.size + 2 ≤ w1.heap.size := by have := hB.size; simpa using this
  simp only [World.size_alloc] at hr
  clear hB hcall
  obtain ⟨hg, p, rfl⟩ | ⟨rfl, L, hL, hH⟩ := hr
  · have q0 := blk_cell hb1 0
    have f0 : w1.frozen? ⟨w.heap.size + 1, 0, none⟩ = false := frozen_of_row _ _ _ _ _ hb1
    have q1 := blk_cell hb1 1
    have f1 : w1.frozen? ⟨w.heap.size + 1, 1, none⟩ = false := frozen_of_row _ _ _ _ _ hb1
    have q2 := blk_cell hb1 2
    have f2 : w1.frozen? ⟨w.heap.size + 1, 2, none⟩ = false := frozen_of_row _ _ _ _ _ hb1
    have q3 := blk_cell hb1 3
    have f3 : w1.frozen? ⟨w.heap.size + 1, 3, none⟩ = false := frozen_of_row _ _ _ _ _ hb1
    have q4 := blk_cell hb1 4
    have f4 : w1.frozen? ⟨w.heap.size + 1, 4, none⟩ = false := frozen_of_row _ _ _ _ _ hb1
    have q5 := blk_cell hb1 5
    have f5 : w1.frozen? ⟨w.heap.size + 1, 5, none⟩ = false := frozen_of_row _ _ _ _ _ hb1
    have q6 := blk_cell hb1 6
    have f6 : w1.frozen? ⟨w.heap.size + 1, 6, none⟩ = false := frozen_of_row _ _ _ _ _ hb1
    simp only [List.getElem?_toArray, List.getElem?_cons_succ, List.getElem?_cons_zero] at q0 q1 q2 q3 q4 q5 q6
    have HBW := Lib.hid hBw
    have hlt0 : w.heap.size + 1 < w1.heap.size := blk_lt hb1
    have HB1 := Lib.hid hb1
    clear hBw hb0 hb1
    gi_wp2
    refine gen_worldM (fun W => Below w.heap.size w W ∧ W.heap[w.heap.size + 1]? = some (.cells #[.int .i64 0, .int .i64 0, .int .i64 0, .int .i64 0, .int .i64 0, .int .i64 0, .int .i64 0] 59 (0, 0))) ⟨Below.alloc ?_ (by simp; omega) _, hal_old ?_⟩ ?_
    · repeat' first | refine Below.setCell ?_ (by simp) _ | exact HBW.out
    · have e1 := row_setCell (o := 0) (.int .i64 0) HB1.out
      have e2 := row_setCell (o := 1) (.int .i64 0) e1
      have e3 := row_setCell (o := 2) (.int .i64 0) e2
      have e4 := row_setCell (o := 3) (.int .i64 0) e3
      have e5 := row_setCell (o := 4) (.int .i64 0) e4
      have e6 := row_setCell (o := 5) (.int .i64 0) e5
      have e7 := row_setCell (o := 6) (.int .i64 0) e6
      simp only [List.setIfInBounds_toArray, List.set_cons_zero, List.set_cons_succ] at e7
      exact e7
    rintro W ⟨t1, t2⟩
    have r0 := blk_cell t2 0
    have r1 := blk_cell t2 1
    have r2 := blk_cell t2 2
    have r3 := blk_cell t2 3
    have r4 := blk_cell t2 4
    have r5 := blk_cell t2 5
    have r6 := blk_cell t2 6
    simp only [List.getElem?_toArray, List.getElem?_cons_succ, List.getElem?_cons_zero] at r0 r1 r2 r3 r4 r5 r6
    refine ⟨.agg #[.int .i64 0, .int .i64 0, .int .i64 0, .int .i64 0, .int .i64 0, .int .i64 0, .int .i64 0], ?_, t1, .inl ⟨hg, rfl⟩⟩
    simp [results, Try.results29, go_sem, r0, r1, r2, r3, r4, r5, r6]
  have hok := hL.good.conf
  have hlen := hL.len
  have hn1 := hL.good.n1
  have hn2 := hL.good.n2
  have hgp := hL.gaps
  have HOP := Lib.hid hL
  have HH := Lib.hid hH
  have HBW := Lib.hid hBw
  have HOK := Lib.hid hok
  obtain ⟨G, hG⟩ : ∃ G, gapsF c L = G := ⟨_, rfl⟩
  rw [hG] at hgp
  have HG := Lib.hid hG
  have HGP := Lib.hid hgp.1
  have hGn := hgp.2
  obtain ⟨lsv, hbl, _⟩ := hH.out
  have hgl := blk_lt hbl
  have HBL := Lib.hid hbl
  simp only [okConf, decide_eq_true_eq] at hok
  have hr0 : 0 ≤ c.red := by omega
  have hr1 : c.red ≤ 64 := by omega
  have q2 := blk_cell hb0 2
  have q4 := blk_cell hb0 4
  have q5 := blk_cell hb0 5
  simp only [List.getElem?_toArray, List.getElem?_cons_succ, List.getElem?_cons_zero] at q2 q4 q5
  have hlt00 : w.heap.size < w1.heap.size := by omega
  have hlt01 : w.heap.size + 1 < w1.heap.size := by omega
  have HB0 := Lib.hid hb0
  have HB1 := Lib.hid hb1
  clear hL hH hBw hok hG hgp hbl hb0 hb1
  gi_wp2_with (gi_at_call 77; refine (c77 _ _ _).mono ?_; rintro e w' ⟨rfl, rfl⟩)
  refine gen_world (fun W => Below w1.heap.size w1 W ∧ W.heap.size = w1.heap.size + 3 ∧ W.heap[w1.heap.size]? = some (.cells #[.pointer (some ⟨w.heap.size + 1 + 1 + 3, 0, none⟩)] 97 (0, 0)) ∧ W.heap[w1.heap.size + 1]? = some (.cells #[.int .i64 live.length, .int .i64 0, .int .i64 quar.length, .int .i64 0, .int .i64 0, .int .i64 0, .int .i64 (-1)] 59 (0, 0)) ∧ W.heap[w1.heap.size + 2]? = some (.cells #[.pointer (some ⟨w.heap.size + 1 + 1 + 3, 0, none⟩)] 97 (0, 0))) ?_ ?_
  · refine ⟨?_, by simp, ?_, ?_, ?_⟩
    rotate_left
    · exact hal_old (hal_old (hal_new rfl))
    · exact hal_old (hal_new (by simp))
    · exact hal_new (by simp)
    repeat' first | refine Below.alloc ?_ (by simp; try omega) _ | exact Below.refl _ _
  rintro W0 ⟨hB0, hs0, hk0, hk1, hk2⟩
  have hgW : ∀ j v, w1.cell? ⟨w.heap.size + 1 + 1 + 3, j, none⟩ = some v → W0.cell? ⟨w.heap.size + 1 + 1 + 3, j, none⟩ = some v := fun j v h => (hB0.cell (p := ⟨w.heap.size + 1 + 1 + 3, j, none⟩) hgl).trans h
  have hit : (items c.red live quar).length = live.length + quar.length := by simp [items, itemsFrom_len]
  refine wpIn_rangeFunc_ownT2 _ _ rfl (by omega) (gf := 100) (lb := #[.pointer (some ⟨w1.heap.size + 2, 0, none⟩)]) rfl f100 (enters_of Try.func100 (by kernel_rfl) rfl)
    (s100 8 (by omega) (w1.heap.size + 2) (w.heap.size + 1 + 1 + 3) c.red _ _ live quar (fun k => k = w1.heap.size + 1) w1 W0 (by omega) hk2 (by omega) (hgW _ _ (blk_cell HBL.out 2)) (hgW _ _ (blk_cell HBL.out 4)) (hgW _ _ (blk_cell HBL.out 5)) (HL.out.below HBW.out) (HQ.out.below HBW.out) hB0 (fun k hk => by subst hk; omega) (by omega) (by omega) (by omega))
    KpG.trans (fun W l o o' _ hl ho _ => KpG.put W l o o' hl ho) (Below.refl _ _) (fun _ => rfl)
    (fun pre W => W.heap[w1.heap.size + 1]? = some (.cells #[.int .i64 live.length, .int .i64 (bW pre), .int .i64 quar.length, .int .i64 (qW pre), .int .i64 0, .int .i64 0, .int .i64 (-1)] 59 (0, 0)) ∧ (Below w1.heap.size w1 W ∧ W0.heap.size ≤ W.heap.size ∧ W.heap[w1.heap.size]? = some (.cells #[.pointer (some ⟨w.heap.size + 1 + 1 + 3, 0, none⟩)] 97 (0, 0))))
    (fun cd pre W => False)
    (OwnFrom.and (fun s X Y row hs hg hr => ownFrom_blk (β := Unit) _ _ _ _ _ () X Y row hs hg hr) (OwnFrom.and (ownFrom_below (Nat.le_refl _) (by omega)) (OwnFrom.and (ownFrom_size _ _) (ownFrom_blk _ _ _ _ _))))
    (fun cd => ownFrom_pure _ _)
    ⟨hk1, hB0, Nat.le_refl _, hk0⟩
    (fun T x a' W => ∃ Bx, W0.heap.size ≤ Bx ∧ W.heap[Bx]? = some (.cells (encE x).toArray 115 (0, 0)) ∧ a' = { tmps := (T.setIfInBounds 27 (.agg (encE x).toArray)).setIfInBounds 6 (.pointer (some ⟨Bx, 0, none⟩)), defers := [] })
    ?hAx ?assign ?body ?done ?stop
  case hAx =>
    rintro x a' _ X Y row ⟨Bx, h1, h2, h3⟩ hg hr
    exact ⟨Bx, h1, ownFrom_blk (β := Unit) _ _ _ _ _ () X Y row h2 hg hr, h3⟩
  case assign =>
    rintro l pre x W K ⟨hbx, hB, hz, hp⟩ hK
    unfold encE at hK ⊢
    gi_wp2
    refine hK _ _ ((KeepsOthers.alloc _ _).from _) (KpG.below (below_alloc1 _ _) ?_) ⟨hal_old hbx, hB.alloc hB.size _, by simp; omega, hal_old hp⟩ ⟨W.heap.size, hz, World.alloc_heap_new W _, rfl⟩
    have := hB.size; omega
  case body =>
    rintro l pre x a' W hl hloop ⟨hbx, hB, hz, hp⟩ ⟨Bx, hBx1, hBx2, rfl⟩ hlt
    have HBX := Lib.hid hbx
    have HB := Lib.hid hB
    have HP := Lib.hid hp
    unfold encE at hBx2
    have x1 := blk_cell hBx2 1
    have x5 := blk_cell hBx2 5
    have y1 := blk_cell hbx 1
    have y3 := blk_cell hbx 3
    have z1 : W.frozen? ⟨w1.heap.size + 1, 1, none⟩ = false := frozen_of_row _ _ _ _ _ hbx
    have z3 : W.frozen? ⟨w1.heap.size + 1, 3, none⟩ = false := frozen_of_row _ _ _ _ _ hbx
    simp only [List.getElem?_toArray, List.getElem?_cons_succ, List.getElem?_cons_zero] at x1 x5 y1 y3
    clear hloop hbx hB hp hBx2
    unfold encE
    have hkp : ∀ o v, KpG w1.heap.size (fun k => k = w1.heap.size + 1) (w.heap.size + 1 + 1 + 3) W (W.setCell ⟨w1.heap.size + 1, o, none⟩ v) := fun o v => ⟨KpE.of_grownBy (grownBy_setCellJ _ _ _ _) (fun j e => by cases e; exact .inl rfl), fun j hj u hu => (World.cell?_setCell_far _ _ _ _ (by show w1.heap.size + 1 ≠ w.heap.size + 1 + 1 + 3; omega)).trans hu⟩
    have HKP := Lib.hid hkp
    clear hkp
    cases hq : x.quar with
    | true =>
      rw [hq] at x5
      gi_wp2
      refine ⟨(KeepsOthers.setCell _ _ _).from _, HKP.out _ _, ?_, HB.out.setCell (p := ⟨w1.heap.size + 1, 3, none⟩) (by simp) _, by simp; omega, (Below.heap_setCell _ _ _ _ (by simp)).trans HP.out⟩
      rw [bW_snoc, qW_snoc, hq]
      simpa using row_setCell (o := 3) (.int .i64 (wrap64 (qW pre + x.p.size))) HBX.out
    | false =>
      rw [hq] at x5
      gi_wp2
      refine ⟨(KeepsOthers.setCell _ _ _).from _, HKP.out _ _, ?_, HB.out.setCell (p := ⟨w1.heap.size + 1, 1, none⟩) (by simp) _, by simp; omega, (Below.heap_setCell _ _ _ _ (by simp)).trans HP.out⟩
      rw [bW_snoc, qW_snoc, hq]
      simpa using row_setCell (o := 1) (.int .i64 (wrap64 (bW pre + x.p.size))) HBX.out
  case stop =>
    rintro D cd pre W hD _ h _
    exact h.elim
  case done =>
    rintro D1 zs W1 hD1 rfl ⟨hbx, hB, hz, hp⟩ hK1
    have hp0 := blk_cell hp 0
    simp only [List.getElem?_toArray, List.getElem?_cons_zero] at hp0
    have HBX := Lib.hid hbx
    have HB := Lib.hid hB
    have HP := Lib.hid hp
    have HK1 := Lib.hid hK1
    have hDlt := blk_lt hK1
    clear hbx hB hp hK1
    gi_wp2_with (gi_at_call 76; refine (c76 _ _ _).mono ?_; rintro e w' ⟨rfl, rfl⟩)
    refine gen_world (fun W => Below w1.heap.size w1 W ∧ W1.heap.size < W.heap.size ∧ W.heap[w1.heap.size]? = some (.cells #[.pointer (some ⟨w.heap.size + 1 + 1 + 3, 0, none⟩)] 97 (0, 0)) ∧ W.heap[w1.heap.size + 1]? = some (.cells #[.int .i64 live.length, .int .i64 (bW (items c.red live quar)), .int .i64 quar.length, .int .i64 (qW (items c.red live quar)), .int .i64 0, .int .i64 0, .int .i64 (-1)] 59 (0, 0)) ∧ W.heap[W1.heap.size]? = some (.cells #[.pointer (some ⟨w.heap.size + 1 + 1 + 3, 0, none⟩)] 97 (0, 0)) ∧ W.heap[D1]? = some (.deferred (some []))) ?_ ?_
    · exact ⟨HB.out.alloc HB.out.size _, by simp, hal_old HP.out, hal_old HBX.out, hal_new rfl, hal_old HK1.out⟩
    rintro W2 ⟨hB2, hs2, hp2, hb2, hg2, hd2⟩
    clear HB HP HBX HK1 hp0
    have HD2 := Lib.hid hd2
    refine wpIn_rangeFunc_ownT2 _ _ rfl (by omega) (gf := 99) (lb := #[.pointer (some ⟨W1.heap.size, 0, none⟩)]) rfl f99 (enters_of Try.func99 (by kernel_rfl) rfl)
      (s99r 8 (by omega) W1.heap.size (w.heap.size + 1 + 1 + 3) c _ _ gi L (fun k => k = w1.heap.size + 1) 0 (by decide) w1 W2 HOK.out hs2 (blk_cell hg2 0) HH.out hB2 (fun k hk => by subst hk; have := blk_lt hb2; omega) (by omega) G HG.out)
      KpR.trans (fun W l o o' _ hl ho _ => KpR.put W l o o' hl ho) (Below.refl _ _) (fun _ => rfl)
      (fun pre W => W.heap[w1.heap.size + 1]? = some (.cells #[.int .i64 live.length, .int .i64 (bW (items c.red live quar)), .int .i64 quar.length, .int .i64 (qW (items c.red live quar)), .int .i64 pre.length, .int .i64 (gapB (pre.map (·.1))), .int .i64 (lgF c.red (pre.map (·.1)) (-1))] 59 (0, 0)) ∧ (Below w1.heap.size w1 W ∧ W2.heap.size ≤ W.heap.size ∧ W.heap[w1.heap.size]? = some (.cells #[.pointer (some ⟨w.heap.size + 1 + 1 + 3, 0, none⟩)] 97 (0, 0)) ∧ W.heap[D1]? = some (.deferred (some []))))
      (fun cd pre W => False)
      (OwnFrom.and (fun s X Y row hs hg hr => ownFrom_blk (β := Unit) _ _ _ _ _ () X Y row hs hg hr) (OwnFrom.and (ownFrom_below (Nat.le_refl _) (by have := hB2.size; omega)) (OwnFrom.and (ownFrom_size _ _) (OwnFrom.and (ownFrom_blk _ _ _ _ _) ?hD))))
      (fun cd => ownFrom_pure _ _)
      ⟨hb2, hB2, Nat.le_refl _, hp2, hd2⟩
      (fun T x a' W => a' = { tmps := (((T.setIfInBounds 46 (.int .i64 x.1.1)).setIfInBounds 47 (.int .i64 x.1.2)).setIfInBounds 7 (.int .i64 x.1.1)).setIfInBounds 8 (.int .i64 x.1.2), defers := [] })
      (fun x a' => ownFrom_pure _ _) ?assign ?body ?done ?stop
    case hD =>
      exact fun _ X Y row hs hg hr => (hg.block _ (blk_lt hs) (fun e => by have := (hr _ e.symm).1; have := blk_lt hd2; omega)).trans hs
    case stop =>
      rintro D cd pre W hD _ h _
      exact h.elim
    case assign =>
      rintro l pre x W K hI hK
      gi_wp2
      exact hK _ _ ((KeepsOthers.refl _).from _) (KpR.refl _ _ _ _) hI rfl
    case body =>
      rintro l pre ⟨⟨fr, to⟩, hm⟩ a' W hl hloop ⟨hbx, hB, hz, hp, hd⟩ rfl hlt
      have hbd := HGP.out (fr, to) hm
      simp only at hbd
      obtain ⟨q1, q2, q3, qq⟩ := hbd
      have hgb : 0 ≤ gapB (pre.map (·.1)) ∧ gapB (pre.map (·.1)) ≤ 4294967296 * pre.length := by
        clear hbx hlt
        induction pre with
        | nil => simp [gapB]
        | cons x r ih =>
          have h1 := HGP.out x.1 x.2
          simp only [gapB, List.map_cons, List.sum_cons, List.length_cons] at ih ⊢
          omega
      have HBX := Lib.hid hbx
      have HB := Lib.hid hB
      have HP := Lib.hid hp
      have HD := Lib.hid hd
      have HM := Lib.hid hm
      have y4 := blk_cell hbx 4
      have y5 := blk_cell hbx 5
      have y6 := blk_cell hbx 6
      have z4 : W.frozen? ⟨w1.heap.size + 1, 4, none⟩ = false := frozen_of_row _ _ _ _ _ hbx
      have z5 : W.frozen? ⟨w1.heap.size + 1, 5, none⟩ = false := frozen_of_row _ _ _ _ _ hbx
      have z6 : W.frozen? ⟨w1.heap.size + 1, 6, none⟩ = false := frozen_of_row _ _ _ _ _ hbx
      have p0 := blk_cell hp 0
      simp only [List.getElem?_toArray, List.getElem?_cons_succ, List.getElem?_cons_zero] at y4 y5 y6 p0
      generalize hgbe : gapB (pre.map (·.1)) = gb at hgb y5
      generalize hlge : lgF c.red (pre.map (·.1)) (-1) = lg at y6
      generalize hple : pre.length = pl at hlt hgb y4
      have HGB := Lib.hid hgbe
      have HLG := Lib.hid hlge
      have HPL := Lib.hid hple
      have hw1 : IntKind.i64.wrap (gb + (to - fr)) = gb + (to - fr) := by rw [IntKind.wrap_i64]; omega
      clear qq hloop hbx hB hp hd hgbe hlge hple
      gi_wp2
      refine gen_world (fun W3 => W3.heap[w1.heap.size + 1]? = some (.cells #[.int .i64 live.length, .int .i64 (bW (items c.red live quar)), .int .i64 quar.length, .int .i64 (qW (items c.red live quar)), .int .i64 ((pl : Int) + 1), .int .i64 (gb + (to - fr)), .int .i64 lg] 59 (0, 0)) ∧ KeepsFrom W2.heap.size W W3 ∧ KpR 0 W2.heap.size (fun k => k = w1.heap.size + 1) W W3 ∧ Below w1.heap.size w1 W3 ∧ W2.heap.size ≤ W3.heap.size ∧ W3.heap[w1.heap.size]? = some (.cells #[.pointer (some ⟨w.heap.size + 1 + 1 + 3, 0, none⟩)] 97 (0, 0)) ∧ W3.heap[D1]? = some (.deferred (some []))) ?_ ?_
      · have hne : D1 ≠ w1.heap.size + 1 := by rintro rfl; rw [HBX.out] at HD; cases HD.out
        refine ⟨?_, ((KeepsOthers.setCell _ _ _).trans (KeepsOthers.setCell _ _ _)).from _, (KpR.of_grownBy (grownBy_setCellJ _ _ _ _) fun j e => .inl (by cases e; rfl)).trans (KpR.of_grownBy (grownBy_setCellJ _ _ _ _) fun j e => .inl (by cases e; rfl)), (HB.out.setCell (p := ⟨w1.heap.size + 1, 4, none⟩) (by simp) _).setCell (p := ⟨w1.heap.size + 1, 5, none⟩) (by simp) _, by simp only [World.size_setCell]; exact hz, (Below.heap_setCell _ _ _ _ (by simp)).trans ((Below.heap_setCell _ _ _ _ (by simp)).trans HP.out), (Below.heap_setCell _ _ _ _ hne).trans ((Below.heap_setCell _ _ _ _ hne).trans HD.out)⟩
        have e0 := HBX.out
        rw [HPL.out, HGB.out, HLG.out] at e0
        have e1 := row_setCell (o := 4) (.int .i64 ((pl : Int) + 1)) e0
        have e2 := row_setCell (o := 5) (.int .i64 (gb + (to - fr))) e1
        simp only [List.setIfInBounds_toArray, List.set_cons_zero, List.set_cons_succ] at e2
        exact e2
      rintro W3 ⟨k1, k2, k3, k4, k5, k6, k7⟩
      have cN := ((k4.cell (p := ⟨w.heap.size, 2, none⟩) hlt00).trans (blk_cell HB0.out 2))
      have cg := ((k4.cell (p := ⟨w.heap.size + 1 + 1 + 3, 2, none⟩) hgl).trans (blk_cell HBL.out 2))
      have cp := blk_cell k6 0
      have y6 := blk_cell k1 6
      have z6 : W3.frozen? ⟨w1.heap.size + 1, 6, none⟩ = false := frozen_of_row _ _ _ _ _ k1
      simp only [List.getElem?_toArray, List.getElem?_cons_succ, List.getElem?_cons_zero] at cN cg cp y6
      have hcall := c78 fr c.red (w.heap.size + 1 + 1 + 3) W3.drew cg hr0 hr1 (by omega) (by omega)
      obtain ⟨ff, hff⟩ : ∃ ff, (fr + c.red + 7) / 8 * 8 = ff := ⟨_, rfl⟩
      have hffb : 0 ≤ ff ∧ ff ≤ 4294967400 := by omega
      rw [hff] at hcall
      have HFF : Hid (firstF c.red fr = ff) := hff
      have HC := Lib.hid hcall
      have K1 := Lib.hid k1
      have K2 := Lib.hid k2
      have K3 := Lib.hid k3
      have K4 := Lib.hid k4
      have K6 := Lib.hid k6
      have K7 := Lib.hid k7
      clear hff hcall k1 k2 k3 k4 k6 k7 y4 y5 z4 z5 p0 hw1 HBX HB HP HD
      refine round_region (fun w' => w'.cell? ⟨w.heap.size, 2, none⟩ = some (.int .i64 c.red) ∧ w'.cell? ⟨w1.heap.size, 0, none⟩ = some (.pointer (some ⟨w.heap.size + 1 + 1 + 3, 0, none⟩))) (by kernel_rfl) (by kernel_rfl) (fun ⟨_, _, h⟩ => h) ⟨cN, cp⟩ ?_
      intro hS0
      refine wpAnyH_take (i := 0) (v := .int .i64 to) rfl (by kernel_rfl) (by kernel_rfl) (by kernel_rfl) (fun _ _ _ h => h) (Or.inl ⟨by rfl, ?hy⟩) hS0 ?_
      case hy => intro w9 hSw; obtain ⟨s0, s1⟩ := hSw; go_simp
      simp only [Act.put, List.setIfInBounds_toArray]
      refine wpAnyH_take (i := 1) (v := .pointer (some ⟨w.heap.size, 0, none⟩)) rfl (by kernel_rfl) (by kernel_rfl) (by kernel_rfl) (fun _ _ _ h => h) (Or.inl ⟨by rfl, ?hy⟩) hS0 ?_
      case hy => intro w9 hSw; obtain ⟨s0, s1⟩ := hSw; go_simp
      simp only [Act.put]
      refine wpAnyH_take (i := 2) (v := .pointer (some ⟨w.heap.size, 2, none⟩)) rfl (by kernel_rfl) (by kernel_rfl) (by kernel_rfl) (fun _ _ _ h => h) (Or.inl ⟨by rfl, ?hy⟩) hS0 ?_
      case hy => intro w9 hSw; obtain ⟨s0, s1⟩ := hSw; go_simp
      simp only [Act.put]
      refine wpAnyH_take (i := 3) (v := .int .i64 c.red) rfl (by kernel_rfl) (by kernel_rfl) (by kernel_rfl) (fun _ _ _ h => h) (Or.inl ⟨by rfl, ?hy⟩) hS0 ?_
      case hy => intro w9 hSw; obtain ⟨s0, s1⟩ := hSw; go_simp
      simp only [Act.put]
      refine wpAnyH_take (i := 4) (v := .int .i64 (to - c.red)) rfl (by kernel_rfl) (by kernel_rfl) (by kernel_rfl) (fun _ _ _ h => h) (Or.inl ⟨by rfl, ?hy⟩) hS0 ?_
      case hy => intro w9 hSw; obtain ⟨s0, s1⟩ := hSw; go_simp; rw [IntKind.wrap_i64]; omega
      simp only [Act.put]
      refine wpAnyH_take (i := 5) (v := .pointer (some ⟨w.heap.size + 1 + 1 + 3, 0, none⟩)) rfl (by kernel_rfl) (by kernel_rfl) (by kernel_rfl) (fun _ _ _ h => h) (Or.inl ⟨by rfl, ?hy⟩) hS0 ?_
      case hy => intro w9 hSw; obtain ⟨s0, s1⟩ := hSw; go_simp
      simp only [Act.put]
      refine wpAnyH_take (i := 6) (v := .int .i64 fr) rfl (by kernel_rfl) (by kernel_rfl) (by kernel_rfl) (fun _ _ _ h => h) (Or.inl ⟨by rfl, ?hy⟩) hS0 ?_
      case hy => intro w9 hSw; obtain ⟨s0, s1⟩ := hSw; go_simp
      simp only [Act.put]
      refine wpAnyH_ready (rs := [7]) (by kernel_rfl) (by simp) ?_
      refine AllReadyH.cons rfl (fun K hK => ?_) AllReadyH.nil
      go_simp
      refine Calls.mono HC.out ?_
      rintro e w' ⟨rfl, rfl⟩
      refine hK.out _ _ hS0 (fun hS9 => ?_)
      clear hK K HC hS9
      refine wpAnyH_take (i := 8) (v := .int .i64 (to - c.red - ff)) rfl (by kernel_rfl) (by kernel_rfl) (by kernel_rfl) (fun _ _ _ h => h) (Or.inl ⟨by rfl, ?hy⟩) hS0 ?_
      case hy => intro w9 hSw; obtain ⟨s0, s1⟩ := hSw; go_simp; rw [IntKind.wrap_i64]; omega
      simp only [Act.put, List.setIfInBounds_toArray]
      refine wpAnyH_take (i := 9) (v := .int .i64 (to - c.red - ff)) rfl (by kernel_rfl) (by kernel_rfl) (by kernel_rfl) (fun _ _ _ h => h) (Or.inl ⟨by rfl, ?hy⟩) hS0 ?_
      case hy => intro w9 hSw; obtain ⟨s0, s1⟩ := hSw; go_simp
      simp only [Act.put]
      refine wpAnyH_done (by kernel_rfl) ?_ _
      go_simp
      rename_i K1x hK1x
      refine hK1x _ _ ?_
      clear hK1x K1x hS0
      have hgn : gapN c.red (fr, to) = to - c.red - ff := by unfold gapN; rw [HFF.out]
      have HGN := Lib.hid hgn
      clear hgn
      obtain ⟨nn, hnn⟩ : ∃ nn, to - c.red - ff = nn := ⟨_, rfl⟩
      rw [hnn]
      have HNN := Lib.hid hnn
      have hnb : -4294967400 ≤ nn ∧ nn ≤ 4294967296 := by omega
      clear hnn
      have hend : ∀ lg', lgF c.red (pre.map (·.1) ++ [(fr, to)]) (-1) = lg' → ∀ W4 : World, W4.heap[w1.heap.size + 1]? = some (.cells #[.int .i64 live.length, .int .i64 (bW (items c.red live quar)), .int .i64 quar.length, .int .i64 (qW (items c.red live quar)), .int .i64 ((pl : Int) + 1), .int .i64 (gb + (to - fr)), .int .i64 lg'] 59 (0, 0)) →
          W4.heap[w1.heap.size + 1]? = some (.cells #[.int .i64 live.length, .int .i64 (bW (items c.red live quar)), .int .i64 quar.length, .int .i64 (qW (items c.red live quar)), .int .i64 (pre ++ [(⟨(fr, to), HM.out⟩ : {p : Int × Int // p ∈ G})]).length, .int .i64 (gapB ((pre ++ [(⟨(fr, to), HM.out⟩ : {p : Int × Int // p ∈ G})]).map (·.1))), .int .i64 (lgF c.red ((pre ++ [(⟨(fr, to), HM.out⟩ : {p : Int × Int // p ∈ G})]).map (·.1)) (-1))] 59 (0, 0)) := by
        intro lg' hlg' W4 hW4
        rw [List.map_append, List.map_cons, List.map_nil, hlg', gapB_snoc, HGB.out, List.length_append, HPL.out]
        simpa using hW4
      have HEND := Lib.hid hend
      have hlgs := lgF_snoc c.red (pre.map (·.1)) (fr, to) (-1)
      rw [HGN.out, HNN.out, HLG.out] at hlgs
      have HLGS := Lib.hid hlgs
      have hne : D1 ≠ w1.heap.size + 1 := by rintro rfl; have := K1.out.symm.trans K7.out; cases this
      clear hend hlgs
      by_cases hn1 : 1 ≤ nn
      · have HL' : Hid (lgF c.red (pre.map (·.1) ++ [(fr, to)]) (-1) = max lg (min nn 65536)) := by
          have := HLGS.out
          rw [if_pos hn1] at this
          exact this
        gi_wp2
        refine ⟨(K2.out.trans ((KeepsOthers.setCell _ _ _).from _)).trans ((KeepsOthers.drew _).from _), (K3.out.trans (KpR.of_grownBy (grownBy_setCellJ W3 (w1.heap.size + 1) 6 (.int .i64 (max lg (min nn 65536)))) fun j e => .inl (by cases e; rfl))).trans (KpR.of_none (grown_none ⟨rfl, rfl, rfl, Nat.le_refl _, fun _ _ => rfl⟩)), HEND.out _ HL'.out _ ?_, (K4.out.setCell (p := ⟨w1.heap.size + 1, 6, none⟩) (by simp) _).drew, by show W2.heap.size ≤ (W3.setCell _ _).heap.size; rw [World.size_setCell]; exact k5, (Below.heap_setCell _ _ _ _ (by simp)).trans K6.out, (Below.heap_setCell _ _ _ _ hne).trans K7.out⟩
        have e1 := row_setCell (w := W3) (o := 6) (.int .i64 (max lg (min nn 65536))) K1.out
        simp only [List.setIfInBounds_toArray, List.set_cons_zero, List.set_cons_succ] at e1
        exact e1
      · gi_wp2
        have hl' := HLGS.out
        rw [if_neg (by omega)] at hl'
        exact ⟨K2.out.trans ((KeepsOthers.drew _).from _), K3.out.trans (KpR.of_none (grown_none ⟨rfl, rfl, rfl, Nat.le_refl _, fun _ _ => rfl⟩)), HEND.out lg hl' _ K1.out, K4.out.drew, k5, K6.out, K7.out⟩
    case done =>
      rintro D2 zs W hD2 hS ⟨hbx, hB, hz, hp, hd1⟩ hK2
      have c0 := blk_cell hbx 0
      have c1 := blk_cell hbx 1
      have c2 := blk_cell hbx 2
      have c3 := blk_cell hbx 3
      have c4 := blk_cell hbx 4
      have c5 := blk_cell hbx 5
      have c6 := blk_cell hbx 6
      have hb1W : W.heap[w.heap.size + 1]? = some (.cells #[.int .i64 0, .int .i64 0, .int .i64 0, .int .i64 0, .int .i64 0, .int .i64 0, .int .i64 0] 59 (0, 0)) := (hB.block _ hlt01).trans HB1.out
      have q0 := blk_cell hb1W 0
      have f0 : W.frozen? ⟨w.heap.size + 1, 0, none⟩ = false := frozen_of_row _ _ _ _ _ hb1W
      have q1 := blk_cell hb1W 1
      have f1 : W.frozen? ⟨w.heap.size + 1, 1, none⟩ = false := frozen_of_row _ _ _ _ _ hb1W
      have q2 := blk_cell hb1W 2
      have f2 : W.frozen? ⟨w.heap.size + 1, 2, none⟩ = false := frozen_of_row _ _ _ _ _ hb1W
      have q3 := blk_cell hb1W 3
      have f3 : W.frozen? ⟨w.heap.size + 1, 3, none⟩ = false := frozen_of_row _ _ _ _ _ hb1W
      have q4 := blk_cell hb1W 4
      have f4 : W.frozen? ⟨w.heap.size + 1, 4, none⟩ = false := frozen_of_row _ _ _ _ _ hb1W
      have q5 := blk_cell hb1W 5
      have f5 : W.frozen? ⟨w.heap.size + 1, 5, none⟩ = false := frozen_of_row _ _ _ _ _ hb1W
      have q6 := blk_cell hb1W 6
      have f6 : W.frozen? ⟨w.heap.size + 1, 6, none⟩ = false := frozen_of_row _ _ _ _ _ hb1W
      simp only [List.getElem?_toArray, List.getElem?_cons_succ, List.getElem?_cons_zero] at c0 c1 c2 c3 c4 c5 c6 q0 q1 q2 q3 q4 q5 q6
      have hlt02 : w.heap.size + 1 < W.heap.size := blk_lt hb1W
      have HB := Lib.hid hB
      have HB1W := Lib.hid hb1W
      have HD1 := Lib.hid hd1
      have HK2 := Lib.hid hK2
      clear hbx hB hp hd1 hK2 hb1W
      gi_wp2
      refine gen_worldM (fun W5 => Below w.heap.size w W5 ∧ W5.heap[w.heap.size + 1]? = some (.cells #[.int .i64 live.length, .int .i64 (bW (items c.red live quar)), .int .i64 quar.length, .int .i64 (qW (items c.red live quar)), .int .i64 zs.length, .int .i64 (gapB G), .int .i64 (lgF c.red G (-1))] 59 (0, 0)) ∧ W5.heap[D1]? = some (.deferred (some [])) ∧ W5.heap[D2]? = some (.deferred (some []))) ?_ ?_
      · have hne1 : D1 ≠ w.heap.size + 1 := by have := hB0.size; omega
        have hne2 : D2 ≠ w.heap.size + 1 := by have := hB2.size; omega
        have e1 := row_setCell (o := 0) (.int .i64 live.length) HB1W.out
        have e2 := row_setCell (o := 1) (.int .i64 (bW (items c.red live quar))) e1
        have e3 := row_setCell (o := 2) (.int .i64 quar.length) e2
        have e4 := row_setCell (o := 3) (.int .i64 (qW (items c.red live quar))) e3
        have e5 := row_setCell (o := 4) (.int .i64 zs.length) e4
        have e6 := row_setCell (o := 5) (.int .i64 (gapB G)) e5
        have e7 := row_setCell (o := 6) (.int .i64 (lgF c.red G (-1))) e6
        simp only [List.setIfInBounds_toArray, List.set_cons_zero, List.set_cons_succ] at e7
        refine ⟨?_, e7, ?_, ?_⟩
        · repeat' first | refine Below.setCell ?_ (by simp) _ | exact HBW.out.trans (HB.out.mono (by omega))
        · repeat' first | refine Eq.trans (Below.heap_setCell _ _ _ _ hne1) ?_ | exact HD1.out
        · repeat' first | refine Eq.trans (Below.heap_setCell _ _ _ _ hne2) ?_ | exact HK2.out
      rintro W5 ⟨t1, t2, t3, t4⟩
      clear c0 c1 c2 c3 c4 c5 c6 q0 q1 q2 q3 q4 q5 q6 f0 f1 f2 f3 f4 f5 f6
      have hDD : D1 ≠ D2 := by have := blk_lt hd2; omega
      have t3' : (W5.putObj D2 (.deferred none)).heap[D1]? = some (.deferred (some [])) := (World.putObj_heap_other hDD).trans t3
      have t2' : ((W5.putObj D2 (.deferred none)).putObj D1 (.deferred none)).heap[w.heap.size + 1]? = some (.cells #[.int .i64 live.length, .int .i64 (bW (items c.red live quar)), .int .i64 quar.length, .int .i64 (qW (items c.red live quar)), .int .i64 zs.length, .int .i64 (gapB G), .int .i64 (lgF c.red G (-1))] 59 (0, 0)) := (World.putObj_heap_other (by have := hB0.size; omega)).trans ((World.putObj_heap_other (by have := hB2.size; omega)).trans t2)
      have tB : Below w.heap.size w ((W5.putObj D2 (.deferred none)).putObj D1 (.deferred none)) := ((t1.grown (grownBy_putObj' _ D2 _) t1.size (fun k e => by cases e; have := hB2.size; omega)).grown (grownBy_putObj' _ D1 _) (by simp; exact t1.size) (fun k e => by cases e; have := hB0.size; omega))
      refine ⟨by simp, .inl ⟨_, _, rfl, run_takeDeferred t4, ?_⟩⟩
      refine ⟨by simp, .inl ⟨_, _, rfl, run_takeDeferred t3', ?_⟩⟩
      have r0 := blk_cell t2' 0
      have r1 := blk_cell t2' 1
      have r2 := blk_cell t2' 2
      have r3 := blk_cell t2' 3
      have r4 := blk_cell t2' 4
      have r5 := blk_cell t2' 5
      have r6 := blk_cell t2' 6
      simp only [List.getElem?_toArray, List.getElem?_cons_succ, List.getElem?_cons_zero] at r0 r1 r2 r3 r4 r5 r6
      refine ⟨.agg #[.int .i64 live.length, .int .i64 (bW (items c.red live quar)), .int .i64 quar.length, .int .i64 (qW (items c.red live quar)), .int .i64 zs.length, .int .i64 (gapB G), .int .i64 (lgF c.red G (-1))], ?_, tB, .inr ⟨L, HOP.out, ?_⟩⟩
      · simp [results, Try.results29, go_sem, r0, r1, r2, r3, r4, r5, r6]
      · rw [statV, HG.out, show G.length = zs.length by have := congrArg List.length hS; simpa using this.symm]
end Go.Proofs.Ytbhbjcgbhklieaa
