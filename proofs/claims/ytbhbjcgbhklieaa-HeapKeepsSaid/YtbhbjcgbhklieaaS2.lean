/- does: the walk. -/
import Derived.Test.YtbhbjcgbhklieaaS1
namespace Go.Proofs.Ytbhbjcgbhklieaa
open Go.RowKit Go.Shelf

theorem region_joinS {ι : Type} {P : Program} {id : Nat} {ops : Array Oper} {b : Bool} {Q : Exit → Act → World → Prop} {a : Act} {w : World} (F : ι → Array Value → Array Value) (R : ι → World → Prop)
    (h1 : ∀ K : Act → World → Prop, (∀ x W, R x W → K { tmps := F x a.tmps, defers := a.defers } W) → (Code.region id ops b).wp P (Exit.then K (fun _ _ _ => False)) a w) (h2 : ∀ x W, R x W → Q .normal { tmps := F x a.tmps, defers := a.defers } W) : (Code.region id ops b).wp P Q a w := by
  refine wp_mono (h1 (fun a' W => ∃ x, a' = { tmps := F x a.tmps, defers := a.defers } ∧ R x W) (fun x W h => ⟨x, rfl, h⟩)) ?_
  intro e a' w' h
  cases e with
  | normal => obtain ⟨x, rfl, h⟩ := h; exact h2 x w' h
  | _ => exact absurd h (by simp [Exit.then])

set_option maxRecDepth 100000 in
set_option maxHeartbeats 4000000 in
theorem c46 (c : Conf) (lv qv : Value) (gi : Int) (live quar : List Piece) (o : OpV) (w : World) (hl : Sl 3 encP w lv live) (hq : Sl 3 encP w qv quar) (wl : ∀ p ∈ live, WfP p) (wq : ∀ p ∈ quar, WfP p) (sl : SlShape lv) (sq : SlShape qv) (hn : live.length ≤ 9223372036854775807) :
    Calls Try.prog 46 #[hAgg c lv qv gi, .agg #[.int .i64 o.kind, .int .i64 o.n, .int .i64 o.i, .int .u32 o.pos, .bool o.wild]] w fun e w' => Below w.heap.size w w' ∧ ∃ err at_ r, DoesP c gi live quar o err at_ r ∧ HAns w.heap.size w' e err at_ r := by
  have h23 := fun W (hW : Below w.heap.size w W) => c23 c lv qv gi live quar o.n W (hl.below hW) (hq.below hW) wl wq sl sq
  have h19 := fun W (hW : Below w.heap.size w W) => c19 c lv qv gi live quar (targetF live o) W (hl.below hW) (hq.below hW) wl wq sl sq
  have h52 := fun W (hW : Below w.heap.size w W) => c52 c lv qv gi live quar (targetF live o) o.n W (hl.below hW) (hq.below hW) wl wq sl sq
  have h45 := fun W (hW : Below w.heap.size w W) => c45 c lv qv gi live o W (hl.below hW) hn
  have hd : ∀ err at_ r, DoesP c gi live quar o err at_ r ↔ if o.kind = 0 then AllocP c gi live quar o.n err at_ r else if o.kind = 1 then at_ = 0 ∧ FreeP c gi live quar (targetF live o) err r else ResizeP c gi live quar (targetF live o) o.n err at_ r := fun _ _ _ => Iff.rfl
  generalize DoesP c gi live quar o = DP at hd ⊢
  have H23 := Lib.hid h23
  have H19 := Lib.hid h19
  have H52 := Lib.hid h52
  have H45 := Lib.hid h45
  have HD := Lib.hid hd
  obtain ⟨A, ca, rfl, _, _⟩ := hl
  obtain ⟨B, cb, rfl, _, _⟩ := hq
  clear h23 h19 h52 h45 wl wq sl sq hd
  generalize targetF live o = tg at H19 H52 H45 HD
  have hW0 : Below w.heap.size w (((w.alloc (.cells #[.int .i64 c.page, .int .i64 c.n, .int .i64 c.red, .int .i64 c.quarantine, .slice A live.length ca, .slice B quar.length cb, .int .i64 gi] 26)).alloc (.cells #[.int .i64 o.kind, .int .i64 o.n, .int .i64 o.i, .int .u32 o.pos, .bool o.wild] 29)).alloc (.cells #[.int .i64 0, .int .i64 0, .int .i64 0, .int .i64 0, .slice none 0 0, .slice none 0 0, .int .i64 0] 26)) := (((Below.refl _ _).alloc (Nat.le_refl _) _).alloc (by simp) _).alloc (by simp; omega) _
  have HW0 := Lib.hid hW0
  clear hW0
  obtain ⟨kd, on, oi, op, ow⟩ := o
  simp only at *
  by_cases hk0 : kd = 0
  · subst hk0
    go_enter Try.func46, Try.ntmps46
    go_wp2_with fail
    refine Calls.mono (H23.out _ HW0.out) ?_
    rintro e w1 ⟨hB1, hans⟩
    obtain ⟨err, at_, r, hP, A1, k1, A2, k2, rfl, f1, f2⟩ := hans.plain
    have HP : Hid (DP err at_ r) := (HD.out _ _ _).2 (by rw [if_pos trivial]; exact hP)
    have hbr : w1.heap[w.heap.size + 2]? = some (.cells #[.int .i64 0, .int .i64 0, .int .i64 0, .int .i64 0, .slice none 0 0, .slice none 0 0, .int .i64 0] 26 (0, 0)) := (hB1.block _ (by simp)).trans (hal_new (by simp))
    have HBR := Lib.hid hbr
    have HBW1 : Hid (Below w.heap.size w w1) := HW0.out.trans (hB1.mono (by simp; omega))
    have hlt : w.heap.size + 2 < w1.heap.size := blk_lt hbr
    simp only [World.size_alloc] at f1 f2
    have F1 := Lib.hid f1
    have F2 := Lib.hid f2
    have z0 := blk_cell hbr 0
    have fz0 : w1.frozen? ⟨w.heap.size + 2, 0, none⟩ = false := frozen_of_row _ _ _ _ _ hbr
    have z1 := blk_cell hbr 1
    have fz1 : w1.frozen? ⟨w.heap.size + 2, 1, none⟩ = false := frozen_of_row _ _ _ _ _ hbr
    have z2 := blk_cell hbr 2
    have fz2 : w1.frozen? ⟨w.heap.size + 2, 2, none⟩ = false := frozen_of_row _ _ _ _ _ hbr
    have z3 := blk_cell hbr 3
    have fz3 : w1.frozen? ⟨w.heap.size + 2, 3, none⟩ = false := frozen_of_row _ _ _ _ _ hbr
    have z4 := blk_cell hbr 4
    have fz4 : w1.frozen? ⟨w.heap.size + 2, 4, none⟩ = false := frozen_of_row _ _ _ _ _ hbr
    have z5 := blk_cell hbr 5
    have fz5 : w1.frozen? ⟨w.heap.size + 2, 5, none⟩ = false := frozen_of_row _ _ _ _ _ hbr
    have z6 := blk_cell hbr 6
    have fz6 : w1.frozen? ⟨w.heap.size + 2, 6, none⟩ = false := frozen_of_row _ _ _ _ _ hbr
    simp only [List.getElem?_toArray, List.getElem?_cons_succ, List.getElem?_cons_zero] at z0 z1 z2 z3 z4 z5 z6
    clear hB1 hans hP hbr f1 f2
    go_wp2
    refine gen_worldB (fun W => Below w.heap.size w W ∧ W.heap[w.heap.size + 2]? = some (.cells #[.int .i64 r.c.page, .int .i64 r.c.n, .int .i64 r.c.red, .int .i64 r.c.quarantine, .slice A1 r.live.length k1, .slice A2 r.quar.length k2, .int .i64 r.gi] 26 (0, 0)) ∧ w1.heap.size ≤ W.heap.size ∧ (∀ k, k < w1.heap.size → k ≠ w.heap.size + 2 → W.heap[k]? = w1.heap[k]?)) ⟨?_, ?_, by simp [World.setCell], fun k hk hne => ?_⟩ ?_
    · repeat' first | refine Below.setCell ?_ (by simp; try omega) _ | exact HBW1.out
    · have e1 := row_setCell (o := 0) (.int .i64 r.c.page) HBR.out
      have e2 := row_setCell (o := 1) (.int .i64 r.c.n) e1
      have e3 := row_setCell (o := 2) (.int .i64 r.c.red) e2
      have e4 := row_setCell (o := 3) (.int .i64 r.c.quarantine) e3
      have e5 := row_setCell (o := 4) (.slice A1 r.live.length k1) e4
      have e6 := row_setCell (o := 5) (.slice A2 r.quar.length k2) e5
      have e7 := row_setCell (o := 6) (.int .i64 r.gi) e6
      simp only [List.setIfInBounds_toArray, List.set_cons_zero, List.set_cons_succ] at e7
      exact e7
    · repeat' first | refine Eq.trans (Below.heap_setCell _ _ _ _ hne) ?_ | rfl
    rintro W ⟨t1, t2, t3, t4⟩
    have r0 := blk_cell t2 0
    have r1 := blk_cell t2 1
    have r2 := blk_cell t2 2
    have r3 := blk_cell t2 3
    have r4 := blk_cell t2 4
    have r5 := blk_cell t2 5
    have r6 := blk_cell t2 6
    simp only [List.getElem?_toArray, List.getElem?_cons_succ, List.getElem?_cons_zero] at r0 r1 r2 r3 r4 r5 r6
    refine bodyPost_ret (v := .tuple #[hAgg r.c (.slice A1 r.live.length k1) (.slice A2 r.quar.length k2) r.gi, .int .u32 at_, .int .i64 err]) (by simp [results, Try.results46, go_sem, r0, r1, r2, r3, r4, r5, r6]) rfl ⟨t1, err, at_, r, HP.out, A1, k1, A2, k2, rfl, ?_, ?_⟩
    · exact (F1.out.kept t3 (fun k hk hne => t4 k hk (by omega))).base (by omega)
    · exact (F2.out.kept t3 (fun k hk hne => t4 k hk (by omega))).base (by omega)
  · by_cases hk1 : kd = 1
    · subst hk1
      go_enter Try.func46, Try.ntmps46
      go_wp2
      refine gen_worldP (fun W => Below w.heap.size w W ∧ W.heap[w.heap.size]? = some (.cells #[.int .i64 c.page, .int .i64 c.n, .int .i64 c.red, .int .i64 c.quarantine, .slice A live.length ca, .slice B quar.length cb, .int .i64 gi] 26 (0, 0)) ∧ W.heap[w.heap.size + 1]? = some (.cells #[.int .i64 1, .int .i64 on, .int .i64 oi, .int .u32 op, .bool ow] 29 (0, 0)) ∧ W.heap[w.heap.size + 2]? = some (.cells #[.int .i64 0, .int .i64 0, .int .i64 0, .int .i64 0, .slice none 0 0, .slice none 0 0, .int .i64 0] 26 (0, 0))) ⟨HW0.out, hal_old (hal_old (hal_new rfl)), hal_old (hal_new (by simp)), hal_new (by simp)⟩ ?_
      rintro W ⟨x1, x2, x3, x4⟩
      have q0 := blk_cell x2 0
      have q1 := blk_cell x2 1
      have q2 := blk_cell x2 2
      have q3 := blk_cell x2 3
      have q4 := blk_cell x2 4
      have q5 := blk_cell x2 5
      have q6 := blk_cell x2 6
      simp only [List.getElem?_toArray, List.getElem?_cons_succ, List.getElem?_cons_zero] at q0 q1 q2 q3 q4 q5 q6
      have p0 := blk_cell x3 0
      have p1 := blk_cell x3 1
      have p2 := blk_cell x3 2
      have p3 := blk_cell x3 3
      have p4 := blk_cell x3 4
      simp only [List.getElem?_toArray, List.getElem?_cons_succ, List.getElem?_cons_zero] at p0 p1 p2 p3 p4
      have z0 := blk_cell x4 0
      have fz0 : W.frozen? ⟨w.heap.size + 2, 0, none⟩ = false := frozen_of_row _ _ _ _ _ x4
      have z1 := blk_cell x4 1
      have fz1 : W.frozen? ⟨w.heap.size + 2, 1, none⟩ = false := frozen_of_row _ _ _ _ _ x4
      have z2 := blk_cell x4 2
      have fz2 : W.frozen? ⟨w.heap.size + 2, 2, none⟩ = false := frozen_of_row _ _ _ _ _ x4
      have z3 := blk_cell x4 3
      have fz3 : W.frozen? ⟨w.heap.size + 2, 3, none⟩ = false := frozen_of_row _ _ _ _ _ x4
      have z4 := blk_cell x4 4
      have fz4 : W.frozen? ⟨w.heap.size + 2, 4, none⟩ = false := frozen_of_row _ _ _ _ _ x4
      have z5 := blk_cell x4 5
      have fz5 : W.frozen? ⟨w.heap.size + 2, 5, none⟩ = false := frozen_of_row _ _ _ _ _ x4
      have z6 := blk_cell x4 6
      have fz6 : W.frozen? ⟨w.heap.size + 2, 6, none⟩ = false := frozen_of_row _ _ _ _ _ x4
      simp only [List.getElem?_toArray, List.getElem?_cons_succ, List.getElem?_cons_zero] at z0 z1 z2 z3 z4 z5 z6
      have X2 := Lib.hid x2
      have X3 := Lib.hid x3
      have hmx : Try.prog.follows .mixedOrders = true := by kernel_rfl
      have hlt : w.heap.size + 2 < W.heap.size := blk_lt x4
      have hlt0 : w.heap.size < W.heap.size := by omega
      have hlt1 : w.heap.size + 1 < W.heap.size := by omega
      have X1 := Lib.hid x1
      have X4 := Lib.hid x4
      clear x1 x2 x3 x4
      refine region_joinS (ι := Nat × (Int × HRes) × (Option Addr × Nat) × (Option Addr × Nat)) (fun x T => ((((((((((T.setIfInBounds 23 (.agg #[.int .i64 c.page, .int .i64 c.n, .int .i64 c.red, .int .i64 c.quarantine, .slice A live.length ca, .slice B quar.length cb, .int .i64 gi])).setIfInBounds 24 (.agg #[.int .i64 c.page, .int .i64 c.n, .int .i64 c.red, .int .i64 c.quarantine, .slice A live.length ca, .slice B quar.length cb, .int .i64 gi])).setIfInBounds 25 (.agg #[.int .i64 1, .int .i64 on, .int .i64 oi, .int .u32 op, .bool ow])).setIfInBounds 26 (.int .u32 tg)).setIfInBounds 27 (.tuple #[.agg #[.int .i64 x.2.1.2.c.page, .int .i64 x.2.1.2.c.n, .int .i64 x.2.1.2.c.red, .int .i64 x.2.1.2.c.quarantine, .slice x.2.2.1.1 x.2.1.2.live.length x.2.2.1.2, .slice x.2.2.2.1 x.2.1.2.quar.length x.2.2.2.2, .int .i64 x.2.1.2.gi], .int .i64 x.2.1.1])).setIfInBounds 22 (.tuple #[.agg #[.int .i64 x.2.1.2.c.page, .int .i64 x.2.1.2.c.n, .int .i64 x.2.1.2.c.red, .int .i64 x.2.1.2.c.quarantine, .slice x.2.2.1.1 x.2.1.2.live.length x.2.2.1.2, .slice x.2.2.2.1 x.2.1.2.quar.length x.2.2.2.2, .int .i64 x.2.1.2.gi], .int .i64 x.2.1.1])).setIfInBounds 28 (.agg #[.int .i64 x.2.1.2.c.page, .int .i64 x.2.1.2.c.n, .int .i64 x.2.1.2.c.red, .int .i64 x.2.1.2.c.quarantine, .slice x.2.2.1.1 x.2.1.2.live.length x.2.2.1.2, .slice x.2.2.2.1 x.2.1.2.quar.length x.2.2.2.2, .int .i64 x.2.1.2.gi])).setIfInBounds 29 (.int .i64 x.2.1.1)).setIfInBounds 7 (.pointer (some ⟨x.1, 0, none⟩))).setIfInBounds 8 (.int .i64 x.2.1.1))) (fun x V => Below W.heap.size W V ∧ FreeP c gi live quar tg x.2.1.1 x.2.1.2 ∧ W.heap.size ≤ x.1 ∧ V.heap[x.1]? = some (.cells #[.int .i64 x.2.1.2.c.page, .int .i64 x.2.1.2.c.n, .int .i64 x.2.1.2.c.red, .int .i64 x.2.1.2.c.quarantine, .slice x.2.2.1.1 x.2.1.2.live.length x.2.2.1.2, .slice x.2.2.2.1 x.2.1.2.quar.length x.2.2.2.2, .int .i64 x.2.1.2.gi] 26 (0, 0)) ∧ Fresh W.heap.size V (.slice x.2.2.1.1 x.2.1.2.live.length x.2.2.1.2) x.2.1.2.live ∧ Fresh W.heap.size V (.slice x.2.2.2.1 x.2.1.2.quar.length x.2.2.2.2) x.2.1.2.quar) ?_ ?_
      · intro KK hKK
        have HKK := Lib.hid hKK
        clear hKK
        refine wp_region_held_drew (S := fun w' => Below W.heap.size W w') hmx (Below.refl _ _).drew ?_
        intro hS0
        refine wpAnyH_take (i := 0) (v := .agg #[.int .i64 c.page, .int .i64 c.n, .int .i64 c.red, .int .i64 c.quarantine, .slice A live.length ca, .slice B quar.length cb, .int .i64 gi]) rfl (by kernel_rfl) (by kernel_rfl) (by kernel_rfl) (fun _ _ _ h => h) (Or.inl ⟨by rfl, ?hy⟩) hS0 ?_
        case hy => intro w9 hSw; have k0 := (hSw.block _ hlt0).trans X2.out; have k1 := (hSw.block _ hlt1).trans X3.out; have s0 := blk_cell k0 0; have s1 := blk_cell k0 1; have s2 := blk_cell k0 2; have s3 := blk_cell k0 3; have s4 := blk_cell k0 4; have s5 := blk_cell k0 5; have s6 := blk_cell k0 6; have r0 := blk_cell k1 0; have r1 := blk_cell k1 1; have r2 := blk_cell k1 2; have r3 := blk_cell k1 3; have r4 := blk_cell k1 4; simp only [List.getElem?_toArray, List.getElem?_cons_succ, List.getElem?_cons_zero] at s0 s1 s2 s3 s4 s5 s6 r0 r1 r2 r3 r4; go_simp
        go_simp
        refine wpAnyH_take (i := 1) (v := .agg #[.int .i64 c.page, .int .i64 c.n, .int .i64 c.red, .int .i64 c.quarantine, .slice A live.length ca, .slice B quar.length cb, .int .i64 gi]) rfl (by kernel_rfl) (by kernel_rfl) (by kernel_rfl) (fun _ _ _ h => h) (Or.inl ⟨by rfl, ?hy⟩) hS0 ?_
        case hy => intro w9 hSw; have k0 := (hSw.block _ hlt0).trans X2.out; have k1 := (hSw.block _ hlt1).trans X3.out; have s0 := blk_cell k0 0; have s1 := blk_cell k0 1; have s2 := blk_cell k0 2; have s3 := blk_cell k0 3; have s4 := blk_cell k0 4; have s5 := blk_cell k0 5; have s6 := blk_cell k0 6; have r0 := blk_cell k1 0; have r1 := blk_cell k1 1; have r2 := blk_cell k1 2; have r3 := blk_cell k1 3; have r4 := blk_cell k1 4; simp only [List.getElem?_toArray, List.getElem?_cons_succ, List.getElem?_cons_zero] at s0 s1 s2 s3 s4 s5 s6 r0 r1 r2 r3 r4; go_simp
        go_simp
        refine wpAnyH_take (i := 2) (v := .agg #[.int .i64 1, .int .i64 on, .int .i64 oi, .int .u32 op, .bool ow]) rfl (by kernel_rfl) (by kernel_rfl) (by kernel_rfl) (fun _ _ _ h => h) (Or.inl ⟨by rfl, ?hy⟩) hS0 ?_
        case hy => intro w9 hSw; have k0 := (hSw.block _ hlt0).trans X2.out; have k1 := (hSw.block _ hlt1).trans X3.out; have s0 := blk_cell k0 0; have s1 := blk_cell k0 1; have s2 := blk_cell k0 2; have s3 := blk_cell k0 3; have s4 := blk_cell k0 4; have s5 := blk_cell k0 5; have s6 := blk_cell k0 6; have r0 := blk_cell k1 0; have r1 := blk_cell k1 1; have r2 := blk_cell k1 2; have r3 := blk_cell k1 3; have r4 := blk_cell k1 4; simp only [List.getElem?_toArray, List.getElem?_cons_succ, List.getElem?_cons_zero] at s0 s1 s2 s3 s4 s5 s6 r0 r1 r2 r3 r4; go_simp
        go_simp
        refine wpAnyH_ready (rs := [3, 8]) (by kernel_rfl) (by simp) ?_
        refine AllReadyH.cons rfl (fun K hK => ?_) (AllReadyH.cons rfl (fun K hK => ?_) (AllReadyH.nil))
        · go_simp
          refine Calls.mono (H45.out _ (X1.out.trans (hS0.mono X1.out.size))) ?_
          rintro e v1 ⟨rfl, hv1⟩
          have Sv1 : Below W.heap.size W v1 := hS0.trans (hv1.mono hS0.size)
          refine hK.out _ _ Sv1 (fun _ => ?_)
          clear hK K
          refine wpAnyH_ready (rs := [4, 8]) (by kernel_rfl) (by simp) ?_
          refine AllReadyH.cons rfl (fun K hK => ?_) (AllReadyH.cons rfl (fun K hK => ?_) (AllReadyH.nil))
          · go_simp
            refine Calls.mono (H19.out _ (X1.out.trans (Sv1.mono X1.out.size))) ?_
            rintro e v2 ⟨hv2, hans⟩
            obtain ⟨err, r, hP, A1, k1, A2, k2, rfl, f1, f2⟩ := hans.plain
            have Sv2 : Below W.heap.size W v2 := Sv1.trans (hv2.mono Sv1.size)
            have F1 := Lib.hid (f1.base Sv1.size)
            have F2 := Lib.hid (f2.base Sv1.size)
            refine hK.out _ _ Sv2 (fun _ => ?_)
            clear hK K
            refine wpAnyH_take (i := 5) (v := .tuple #[.agg #[.int .i64 r.c.page, .int .i64 r.c.n, .int .i64 r.c.red, .int .i64 r.c.quarantine, .slice A1 r.live.length k1, .slice A2 r.quar.length k2, .int .i64 r.gi], .int .i64 err]) rfl (by kernel_rfl) (by kernel_rfl) (by kernel_rfl) (fun _ _ _ h => h) (Or.inl ⟨by rfl, ?hy⟩) Sv2 ?_
            case hy => intro w9 hSw; have k0 := (hSw.block _ hlt0).trans X2.out; have k1 := (hSw.block _ hlt1).trans X3.out; have s0 := blk_cell k0 0; have s1 := blk_cell k0 1; have s2 := blk_cell k0 2; have s3 := blk_cell k0 3; have s4 := blk_cell k0 4; have s5 := blk_cell k0 5; have s6 := blk_cell k0 6; have r0 := blk_cell k1 0; have r1 := blk_cell k1 1; have r2 := blk_cell k1 2; have r3 := blk_cell k1 3; have r4 := blk_cell k1 4; simp only [List.getElem?_toArray, List.getElem?_cons_succ, List.getElem?_cons_zero] at s0 s1 s2 s3 s4 s5 s6 r0 r1 r2 r3 r4; go_simp
            go_simp
            refine wpAnyH_take (i := 6) (v := .agg #[.int .i64 r.c.page, .int .i64 r.c.n, .int .i64 r.c.red, .int .i64 r.c.quarantine, .slice A1 r.live.length k1, .slice A2 r.quar.length k2, .int .i64 r.gi]) rfl (by kernel_rfl) (by kernel_rfl) (by kernel_rfl) (fun _ _ _ h => h) (Or.inl ⟨by rfl, ?hy⟩) Sv2 ?_
            case hy => intro w9 hSw; have k0 := (hSw.block _ hlt0).trans X2.out; have k1 := (hSw.block _ hlt1).trans X3.out; have s0 := blk_cell k0 0; have s1 := blk_cell k0 1; have s2 := blk_cell k0 2; have s3 := blk_cell k0 3; have s4 := blk_cell k0 4; have s5 := blk_cell k0 5; have s6 := blk_cell k0 6; have r0 := blk_cell k1 0; have r1 := blk_cell k1 1; have r2 := blk_cell k1 2; have r3 := blk_cell k1 3; have r4 := blk_cell k1 4; simp only [List.getElem?_toArray, List.getElem?_cons_succ, List.getElem?_cons_zero] at s0 s1 s2 s3 s4 s5 s6 r0 r1 r2 r3 r4; go_simp
            go_simp
            refine wpAnyH_take (i := 7) (v := .int .i64 err) rfl (by kernel_rfl) (by kernel_rfl) (by kernel_rfl) (fun _ _ _ h => h) (Or.inl ⟨by rfl, ?hy⟩) Sv2 ?_
            case hy => intro w9 hSw; have k0 := (hSw.block _ hlt0).trans X2.out; have k1 := (hSw.block _ hlt1).trans X3.out; have s0 := blk_cell k0 0; have s1 := blk_cell k0 1; have s2 := blk_cell k0 2; have s3 := blk_cell k0 3; have s4 := blk_cell k0 4; have s5 := blk_cell k0 5; have s6 := blk_cell k0 6; have r0 := blk_cell k1 0; have r1 := blk_cell k1 1; have r2 := blk_cell k1 2; have r3 := blk_cell k1 3; have r4 := blk_cell k1 4; simp only [List.getElem?_toArray, List.getElem?_cons_succ, List.getElem?_cons_zero] at s0 s1 s2 s3 s4 s5 s6 r0 r1 r2 r3 r4; go_simp
            go_simp
            refine wpAnyH_ready (rs := [8]) (by kernel_rfl) (by simp) ?_
            refine AllReadyH.cons rfl (fun K hK => ?_) (AllReadyH.nil)
            go_simp
            have hS8 := Sv2.alloc Sv2.size (.cells #[.int .i64 0, .int .i64 0, .int .i64 0, .int .i64 0, .slice none 0 0, .slice none 0 0, .int .i64 0] 26)
            refine hK.out _ _ hS8 (fun _ => ?_)
            clear hK K
            refine wpAnyH_ready (rs := [9]) (by kernel_rfl) (by simp) ?_
            refine AllReadyH.cons rfl (fun K hK => ?_) (AllReadyH.nil)
            go_simp
            have hS9 := (Sv2).alloc (Sv2).size (.cells #[.int .i64 r.c.page, .int .i64 r.c.n, .int .i64 r.c.red, .int .i64 r.c.quarantine, .slice A1 r.live.length k1, .slice A2 r.quar.length k2, .int .i64 r.gi] 26)
            refine hK.out _ _ hS9 (fun _ => ?_)
            clear hK K
            refine wpAnyH_take (i := 10) (v := .int .i64 err) rfl (by kernel_rfl) (by kernel_rfl) (by kernel_rfl) (fun _ _ _ h => h) (Or.inl ⟨by rfl, ?hy⟩) hS9 ?_
            case hy => intro w9 hSw; have k0 := (hSw.block _ hlt0).trans X2.out; have k1 := (hSw.block _ hlt1).trans X3.out; have s0 := blk_cell k0 0; have s1 := blk_cell k0 1; have s2 := blk_cell k0 2; have s3 := blk_cell k0 3; have s4 := blk_cell k0 4; have s5 := blk_cell k0 5; have s6 := blk_cell k0 6; have r0 := blk_cell k1 0; have r1 := blk_cell k1 1; have r2 := blk_cell k1 2; have r3 := blk_cell k1 3; have r4 := blk_cell k1 4; simp only [List.getElem?_toArray, List.getElem?_cons_succ, List.getElem?_cons_zero] at s0 s1 s2 s3 s4 s5 s6 r0 r1 r2 r3 r4; go_simp
            go_simp
            refine wpAnyH_done (by kernel_rfl) ?_ _
            go_simp
            have hfin := HKK.out (v2.heap.size, (err, r), (A1, k1), (A2, k2)) _ ⟨hS9, hP, Sv2.size, hal_new rfl, F1.out.below (below_alloc1 _ _), F2.out.below (below_alloc1 _ _)⟩
            simp only [List.setIfInBounds_toArray, List.set_cons_zero, List.set_cons_succ] at hfin
            exact hfin
          · go_simp
            have hS8 := Sv1.alloc Sv1.size (.cells #[.int .i64 0, .int .i64 0, .int .i64 0, .int .i64 0, .slice none 0 0, .slice none 0 0, .int .i64 0] 26)
            refine hK.out _ _ hS8 (fun _ => ?_)
            clear hK K
            refine wpAnyH_ready (rs := [4]) (by kernel_rfl) (by simp) ?_
            refine AllReadyH.cons rfl (fun K hK => ?_) (AllReadyH.nil)
            go_simp
            refine Calls.mono (H19.out _ (X1.out.trans (hS8.mono X1.out.size))) ?_
            rintro e v2 ⟨hv2, hans⟩
            obtain ⟨err, r, hP, A1, k1, A2, k2, rfl, f1, f2⟩ := hans.plain
            have Sv2 : Below W.heap.size W v2 := hS8.trans (hv2.mono hS8.size)
            have F1 := Lib.hid (f1.base hS8.size)
            have F2 := Lib.hid (f2.base hS8.size)
            have hz : v2.heap[v1.heap.size]? = some (.cells #[.int .i64 0, .int .i64 0, .int .i64 0, .int .i64 0, .slice none 0 0, .slice none 0 0, .int .i64 0] 26 (0, 0)) := (hv2.block v1.heap.size (by simp)).trans (hal_new rfl)
            have hnbW : W.heap.size ≤ v1.heap.size := Sv1.size
            have hbase : W.heap.size ≤ v1.heap.size + 1 := by have := hS8.size; simpa using this
            simp only [World.size_alloc] at f1 f2
            refine hK.out _ _ Sv2 (fun _ => ?_)
            clear hK K
            refine wpAnyH_take (i := 5) (v := .tuple #[.agg #[.int .i64 r.c.page, .int .i64 r.c.n, .int .i64 r.c.red, .int .i64 r.c.quarantine, .slice A1 r.live.length k1, .slice A2 r.quar.length k2, .int .i64 r.gi], .int .i64 err]) rfl (by kernel_rfl) (by kernel_rfl) (by kernel_rfl) (fun _ _ _ h => h) (Or.inl ⟨by rfl, ?hy⟩) Sv2 ?_
            case hy => intro w9 hSw; have k0 := (hSw.block _ hlt0).trans X2.out; have k1 := (hSw.block _ hlt1).trans X3.out; have s0 := blk_cell k0 0; have s1 := blk_cell k0 1; have s2 := blk_cell k0 2; have s3 := blk_cell k0 3; have s4 := blk_cell k0 4; have s5 := blk_cell k0 5; have s6 := blk_cell k0 6; have r0 := blk_cell k1 0; have r1 := blk_cell k1 1; have r2 := blk_cell k1 2; have r3 := blk_cell k1 3; have r4 := blk_cell k1 4; simp only [List.getElem?_toArray, List.getElem?_cons_succ, List.getElem?_cons_zero] at s0 s1 s2 s3 s4 s5 s6 r0 r1 r2 r3 r4; go_simp
            go_simp
            refine wpAnyH_take (i := 6) (v := .agg #[.int .i64 r.c.page, .int .i64 r.c.n, .int .i64 r.c.red, .int .i64 r.c.quarantine, .slice A1 r.live.length k1, .slice A2 r.quar.length k2, .int .i64 r.gi]) rfl (by kernel_rfl) (by kernel_rfl) (by kernel_rfl) (fun _ _ _ h => h) (Or.inl ⟨by rfl, ?hy⟩) Sv2 ?_
            case hy => intro w9 hSw; have k0 := (hSw.block _ hlt0).trans X2.out; have k1 := (hSw.block _ hlt1).trans X3.out; have s0 := blk_cell k0 0; have s1 := blk_cell k0 1; have s2 := blk_cell k0 2; have s3 := blk_cell k0 3; have s4 := blk_cell k0 4; have s5 := blk_cell k0 5; have s6 := blk_cell k0 6; have r0 := blk_cell k1 0; have r1 := blk_cell k1 1; have r2 := blk_cell k1 2; have r3 := blk_cell k1 3; have r4 := blk_cell k1 4; simp only [List.getElem?_toArray, List.getElem?_cons_succ, List.getElem?_cons_zero] at s0 s1 s2 s3 s4 s5 s6 r0 r1 r2 r3 r4; go_simp
            go_simp
            refine wpAnyH_take (i := 7) (v := .int .i64 err) rfl (by kernel_rfl) (by kernel_rfl) (by kernel_rfl) (fun _ _ _ h => h) (Or.inl ⟨by rfl, ?hy⟩) Sv2 ?_
            case hy => intro w9 hSw; have k0 := (hSw.block _ hlt0).trans X2.out; have k1 := (hSw.block _ hlt1).trans X3.out; have s0 := blk_cell k0 0; have s1 := blk_cell k0 1; have s2 := blk_cell k0 2; have s3 := blk_cell k0 3; have s4 := blk_cell k0 4; have s5 := blk_cell k0 5; have s6 := blk_cell k0 6; have r0 := blk_cell k1 0; have r1 := blk_cell k1 1; have r2 := blk_cell k1 2; have r3 := blk_cell k1 3; have r4 := blk_cell k1 4; simp only [List.getElem?_toArray, List.getElem?_cons_succ, List.getElem?_cons_zero] at s0 s1 s2 s3 s4 s5 s6 r0 r1 r2 r3 r4; go_simp
            go_simp
            refine wpAnyH_ready (rs := [9]) (by kernel_rfl) (by simp) ?_
            refine AllReadyH.cons rfl (fun K hK => ?_) (AllReadyH.nil)
            have b0 := blk_cell hz 0
            have fb0 : World.frozen? _ ⟨v1.heap.size, 0, none⟩ = false := frozen_of_row _ _ _ _ _ hz
            have b1 := blk_cell hz 1
            have fb1 : World.frozen? _ ⟨v1.heap.size, 1, none⟩ = false := frozen_of_row _ _ _ _ _ hz
            have b2 := blk_cell hz 2
            have fb2 : World.frozen? _ ⟨v1.heap.size, 2, none⟩ = false := frozen_of_row _ _ _ _ _ hz
            have b3 := blk_cell hz 3
            have fb3 : World.frozen? _ ⟨v1.heap.size, 3, none⟩ = false := frozen_of_row _ _ _ _ _ hz
            have b4 := blk_cell hz 4
            have fb4 : World.frozen? _ ⟨v1.heap.size, 4, none⟩ = false := frozen_of_row _ _ _ _ _ hz
            have b5 := blk_cell hz 5
            have fb5 : World.frozen? _ ⟨v1.heap.size, 5, none⟩ = false := frozen_of_row _ _ _ _ _ hz
            have b6 := blk_cell hz 6
            have fb6 : World.frozen? _ ⟨v1.heap.size, 6, none⟩ = false := frozen_of_row _ _ _ _ _ hz
            simp only [List.getElem?_toArray, List.getElem?_cons_succ, List.getElem?_cons_zero] at b0 b1 b2 b3 b4 b5 b6
            go_simp
            have e1 := row_setCell (o := 0) (.int .i64 r.c.page) hz
            have e2 := row_setCell (o := 1) (.int .i64 r.c.n) e1
            have e3 := row_setCell (o := 2) (.int .i64 r.c.red) e2
            have e4 := row_setCell (o := 3) (.int .i64 r.c.quarantine) e3
            have e5 := row_setCell (o := 4) (.slice A1 r.live.length k1) e4
            have e6 := row_setCell (o := 5) (.slice A2 r.quar.length k2) e5
            have e7 := row_setCell (o := 6) (.int .i64 r.gi) e6
            simp only [List.setIfInBounds_toArray, List.set_cons_zero, List.set_cons_succ] at e7
            have hkp : ∀ j, j ≠ v1.heap.size → (((((((v2.setCell ⟨v1.heap.size, 0, none⟩ (.int .i64 r.c.page)).setCell ⟨v1.heap.size, 1, none⟩ (.int .i64 r.c.n)).setCell ⟨v1.heap.size, 2, none⟩ (.int .i64 r.c.red)).setCell ⟨v1.heap.size, 3, none⟩ (.int .i64 r.c.quarantine)).setCell ⟨v1.heap.size, 4, none⟩ (.slice A1 r.live.length k1)).setCell ⟨v1.heap.size, 5, none⟩ (.slice A2 r.quar.length k2)).setCell ⟨v1.heap.size, 6, none⟩ (.int .i64 r.gi)).heap[j]? = v2.heap[j]? := fun j hj => by
              repeat' first | refine Eq.trans (Below.heap_setCell _ _ _ _ hj) ?_ | rfl
            have hsz7 : (((((((v2.setCell ⟨v1.heap.size, 0, none⟩ (.int .i64 r.c.page)).setCell ⟨v1.heap.size, 1, none⟩ (.int .i64 r.c.n)).setCell ⟨v1.heap.size, 2, none⟩ (.int .i64 r.c.red)).setCell ⟨v1.heap.size, 3, none⟩ (.int .i64 r.c.quarantine)).setCell ⟨v1.heap.size, 4, none⟩ (.slice A1 r.live.length k1)).setCell ⟨v1.heap.size, 5, none⟩ (.slice A2 r.quar.length k2)).setCell ⟨v1.heap.size, 6, none⟩ (.int .i64 r.gi)).heap.size = v2.heap.size := by simp [World.setCell]
            have hnb : W.heap.size ≤ v1.heap.size := hnbW
            have hS9 : Below W.heap.size W (((((((v2.setCell ⟨v1.heap.size, 0, none⟩ (.int .i64 r.c.page)).setCell ⟨v1.heap.size, 1, none⟩ (.int .i64 r.c.n)).setCell ⟨v1.heap.size, 2, none⟩ (.int .i64 r.c.red)).setCell ⟨v1.heap.size, 3, none⟩ (.int .i64 r.c.quarantine)).setCell ⟨v1.heap.size, 4, none⟩ (.slice A1 r.live.length k1)).setCell ⟨v1.heap.size, 5, none⟩ (.slice A2 r.quar.length k2)).setCell ⟨v1.heap.size, 6, none⟩ (.int .i64 r.gi)) := (((((((Sv2.setCell (p := ⟨v1.heap.size, 0, none⟩) hnb _).setCell (p := ⟨v1.heap.size, 1, none⟩) hnb _).setCell (p := ⟨v1.heap.size, 2, none⟩) hnb _).setCell (p := ⟨v1.heap.size, 3, none⟩) hnb _).setCell (p := ⟨v1.heap.size, 4, none⟩) hnb _).setCell (p := ⟨v1.heap.size, 5, none⟩) hnb _).setCell (p := ⟨v1.heap.size, 6, none⟩) hnb _)
            have hF1 : Fresh W.heap.size (((((((v2.setCell ⟨v1.heap.size, 0, none⟩ (.int .i64 r.c.page)).setCell ⟨v1.heap.size, 1, none⟩ (.int .i64 r.c.n)).setCell ⟨v1.heap.size, 2, none⟩ (.int .i64 r.c.red)).setCell ⟨v1.heap.size, 3, none⟩ (.int .i64 r.c.quarantine)).setCell ⟨v1.heap.size, 4, none⟩ (.slice A1 r.live.length k1)).setCell ⟨v1.heap.size, 5, none⟩ (.slice A2 r.quar.length k2)).setCell ⟨v1.heap.size, 6, none⟩ (.int .i64 r.gi)) (.slice A1 r.live.length k1) r.live := (f1.kept (by omega) (fun j hj hb => hkp j (by omega))).base hbase
            have hF2 : Fresh W.heap.size (((((((v2.setCell ⟨v1.heap.size, 0, none⟩ (.int .i64 r.c.page)).setCell ⟨v1.heap.size, 1, none⟩ (.int .i64 r.c.n)).setCell ⟨v1.heap.size, 2, none⟩ (.int .i64 r.c.red)).setCell ⟨v1.heap.size, 3, none⟩ (.int .i64 r.c.quarantine)).setCell ⟨v1.heap.size, 4, none⟩ (.slice A1 r.live.length k1)).setCell ⟨v1.heap.size, 5, none⟩ (.slice A2 r.quar.length k2)).setCell ⟨v1.heap.size, 6, none⟩ (.int .i64 r.gi)) (.slice A2 r.quar.length k2) r.quar := (f2.kept (by omega) (fun j hj hb => hkp j (by omega))).base hbase
            generalize (((((((v2.setCell ⟨v1.heap.size, 0, none⟩ (.int .i64 r.c.page)).setCell ⟨v1.heap.size, 1, none⟩ (.int .i64 r.c.n)).setCell ⟨v1.heap.size, 2, none⟩ (.int .i64 r.c.red)).setCell ⟨v1.heap.size, 3, none⟩ (.int .i64 r.c.quarantine)).setCell ⟨v1.heap.size, 4, none⟩ (.slice A1 r.live.length k1)).setCell ⟨v1.heap.size, 5, none⟩ (.slice A2 r.quar.length k2)).setCell ⟨v1.heap.size, 6, none⟩ (.int .i64 r.gi)) = V9 at *
            refine hK.out _ _ hS9 (fun _ => ?_)
            clear hK K
            refine wpAnyH_take (i := 10) (v := .int .i64 err) rfl (by kernel_rfl) (by kernel_rfl) (by kernel_rfl) (fun _ _ _ h => h) (Or.inl ⟨by rfl, ?hy⟩) hS9 ?_
            case hy => intro w9 hSw; have k0 := (hSw.block _ hlt0).trans X2.out; have k1 := (hSw.block _ hlt1).trans X3.out; have s0 := blk_cell k0 0; have s1 := blk_cell k0 1; have s2 := blk_cell k0 2; have s3 := blk_cell k0 3; have s4 := blk_cell k0 4; have s5 := blk_cell k0 5; have s6 := blk_cell k0 6; have r0 := blk_cell k1 0; have r1 := blk_cell k1 1; have r2 := blk_cell k1 2; have r3 := blk_cell k1 3; have r4 := blk_cell k1 4; simp only [List.getElem?_toArray, List.getElem?_cons_succ, List.getElem?_cons_zero] at s0 s1 s2 s3 s4 s5 s6 r0 r1 r2 r3 r4; go_simp
            go_simp
            refine wpAnyH_done (by kernel_rfl) ?_ _
            go_simp
            have hfin := HKK.out (v1.heap.size, (err, r), (A1, k1), (A2, k2)) _ ⟨hS9, hP, hnb, e7, hF1, hF2⟩
            simp only [List.setIfInBounds_toArray, List.set_cons_zero, List.set_cons_succ] at hfin
            exact hfin
        · go_simp
          have hS8 := hS0.alloc hS0.size (.cells #[.int .i64 0, .int .i64 0, .int .i64 0, .int .i64 0, .slice none 0 0, .slice none 0 0, .int .i64 0] 26)
          refine hK.out _ _ hS8 (fun _ => ?_)
          clear hK K
          refine wpAnyH_ready (rs := [3]) (by kernel_rfl) (by simp) ?_
          refine AllReadyH.cons rfl (fun K hK => ?_) (AllReadyH.nil)
          go_simp
          refine Calls.mono (H45.out _ (X1.out.trans (hS8.mono X1.out.size))) ?_
          rintro e v1 ⟨rfl, hv1⟩
          have Sv1 : Below W.heap.size W v1 := hS8.trans (hv1.mono hS8.size)
          have hz1 : v1.heap[W.heap.size]? = some (.cells #[.int .i64 0, .int .i64 0, .int .i64 0, .int .i64 0, .slice none 0 0, .slice none 0 0, .int .i64 0] 26 (0, 0)) := (hv1.block W.heap.size (by simp)).trans (hal_new rfl)
          refine hK.out _ _ Sv1 (fun _ => ?_)
          clear hK K
          refine wpAnyH_ready (rs := [4]) (by kernel_rfl) (by simp) ?_
          refine AllReadyH.cons rfl (fun K hK => ?_) (AllReadyH.nil)
          go_simp
          refine Calls.mono (H19.out _ (X1.out.trans (Sv1.mono X1.out.size))) ?_
          rintro e v2 ⟨hv2, hans⟩
          obtain ⟨err, r, hP, A1, k1, A2, k2, rfl, f1, f2⟩ := hans.plain
          have Sv2 : Below W.heap.size W v2 := Sv1.trans (hv2.mono Sv1.size)
          have F1 := Lib.hid (f1.base Sv1.size)
          have F2 := Lib.hid (f2.base Sv1.size)
          have hz : v2.heap[W.heap.size]? = some (.cells #[.int .i64 0, .int .i64 0, .int .i64 0, .int .i64 0, .slice none 0 0, .slice none 0 0, .int .i64 0] 26 (0, 0)) := (hv2.block W.heap.size (blk_lt hz1)).trans hz1
          have hnbW : W.heap.size ≤ W.heap.size := Nat.le_refl _
          have hbase := Sv1.size
          have hzlt := blk_lt hz1
          refine hK.out _ _ Sv2 (fun _ => ?_)
          clear hK K
          refine wpAnyH_take (i := 5) (v := .tuple #[.agg #[.int .i64 r.c.page, .int .i64 r.c.n, .int .i64 r.c.red, .int .i64 r.c.quarantine, .slice A1 r.live.length k1, .slice A2 r.quar.length k2, .int .i64 r.gi], .int .i64 err]) rfl (by kernel_rfl) (by kernel_rfl) (by kernel_rfl) (fun _ _ _ h => h) (Or.inl ⟨by rfl, ?hy⟩) Sv2 ?_
          case hy => intro w9 hSw; have k0 := (hSw.block _ hlt0).trans X2.out; have k1 := (hSw.block _ hlt1).trans X3.out; have s0 := blk_cell k0 0; have s1 := blk_cell k0 1; have s2 := blk_cell k0 2; have s3 := blk_cell k0 3; have s4 := blk_cell k0 4; have s5 := blk_cell k0 5; have s6 := blk_cell k0 6; have r0 := blk_cell k1 0; have r1 := blk_cell k1 1; have r2 := blk_cell k1 2; have r3 := blk_cell k1 3; have r4 := blk_cell k1 4; simp only [List.getElem?_toArray, List.getElem?_cons_succ, List.getElem?_cons_zero] at s0 s1 s2 s3 s4 s5 s6 r0 r1 r2 r3 r4; go_simp
          go_simp
          refine wpAnyH_take (i := 6) (v := .agg #[.int .i64 r.c.page, .int .i64 r.c.n, .int .i64 r.c.red, .int .i64 r.c.quarantine, .slice A1 r.live.length k1, .slice A2 r.quar.length k2, .int .i64 r.gi]) rfl (by kernel_rfl) (by kernel_rfl) (by kernel_rfl) (fun _ _ _ h => h) (Or.inl ⟨by rfl, ?hy⟩) Sv2 ?_
          case hy => intro w9 hSw; have k0 := (hSw.block _ hlt0).trans X2.out; have k1 := (hSw.block _ hlt1).trans X3.out; have s0 := blk_cell k0 0; have s1 := blk_cell k0 1; have s2 := blk_cell k0 2; have s3 := blk_cell k0 3; have s4 := blk_cell k0 4; have s5 := blk_cell k0 5; have s6 := blk_cell k0 6; have r0 := blk_cell k1 0; have r1 := blk_cell k1 1; have r2 := blk_cell k1 2; have r3 := blk_cell k1 3; have r4 := blk_cell k1 4; simp only [List.getElem?_toArray, List.getElem?_cons_succ, List.getElem?_cons_zero] at s0 s1 s2 s3 s4 s5 s6 r0 r1 r2 r3 r4; go_simp
          go_simp
          refine wpAnyH_take (i := 7) (v := .int .i64 err) rfl (by kernel_rfl) (by kernel_rfl) (by kernel_rfl) (fun _ _ _ h => h) (Or.inl ⟨by rfl, ?hy⟩) Sv2 ?_
          case hy => intro w9 hSw; have k0 := (hSw.block _ hlt0).trans X2.out; have k1 := (hSw.block _ hlt1).trans X3.out; have s0 := blk_cell k0 0; have s1 := blk_cell k0 1; have s2 := blk_cell k0 2; have s3 := blk_cell k0 3; have s4 := blk_cell k0 4; have s5 := blk_cell k0 5; have s6 := blk_cell k0 6; have r0 := blk_cell k1 0; have r1 := blk_cell k1 1; have r2 := blk_cell k1 2; have r3 := blk_cell k1 3; have r4 := blk_cell k1 4; simp only [List.getElem?_toArray, List.getElem?_cons_succ, List.getElem?_cons_zero] at s0 s1 s2 s3 s4 s5 s6 r0 r1 r2 r3 r4; go_simp
          go_simp
          refine wpAnyH_ready (rs := [9]) (by kernel_rfl) (by simp) ?_
          refine AllReadyH.cons rfl (fun K hK => ?_) (AllReadyH.nil)
          have b0 := blk_cell hz 0
          have fb0 : World.frozen? _ ⟨W.heap.size, 0, none⟩ = false := frozen_of_row _ _ _ _ _ hz
          have b1 := blk_cell hz 1
          have fb1 : World.frozen? _ ⟨W.heap.size, 1, none⟩ = false := frozen_of_row _ _ _ _ _ hz
          have b2 := blk_cell hz 2
          have fb2 : World.frozen? _ ⟨W.heap.size, 2, none⟩ = false := frozen_of_row _ _ _ _ _ hz
          have b3 := blk_cell hz 3
          have fb3 : World.frozen? _ ⟨W.heap.size, 3, none⟩ = false := frozen_of_row _ _ _ _ _ hz
          have b4 := blk_cell hz 4
          have fb4 : World.frozen? _ ⟨W.heap.size, 4, none⟩ = false := frozen_of_row _ _ _ _ _ hz
          have b5 := blk_cell hz 5
          have fb5 : World.frozen? _ ⟨W.heap.size, 5, none⟩ = false := frozen_of_row _ _ _ _ _ hz
          have b6 := blk_cell hz 6
          have fb6 : World.frozen? _ ⟨W.heap.size, 6, none⟩ = false := frozen_of_row _ _ _ _ _ hz
          simp only [List.getElem?_toArray, List.getElem?_cons_succ, List.getElem?_cons_zero] at b0 b1 b2 b3 b4 b5 b6
          go_simp
          have e1 := row_setCell (o := 0) (.int .i64 r.c.page) hz
          have e2 := row_setCell (o := 1) (.int .i64 r.c.n) e1
          have e3 := row_setCell (o := 2) (.int .i64 r.c.red) e2
          have e4 := row_setCell (o := 3) (.int .i64 r.c.quarantine) e3
          have e5 := row_setCell (o := 4) (.slice A1 r.live.length k1) e4
          have e6 := row_setCell (o := 5) (.slice A2 r.quar.length k2) e5
          have e7 := row_setCell (o := 6) (.int .i64 r.gi) e6
          simp only [List.setIfInBounds_toArray, List.set_cons_zero, List.set_cons_succ] at e7
          have hkp : ∀ j, j ≠ W.heap.size → (((((((v2.setCell ⟨W.heap.size, 0, none⟩ (.int .i64 r.c.page)).setCell ⟨W.heap.size, 1, none⟩ (.int .i64 r.c.n)).setCell ⟨W.heap.size, 2, none⟩ (.int .i64 r.c.red)).setCell ⟨W.heap.size, 3, none⟩ (.int .i64 r.c.quarantine)).setCell ⟨W.heap.size, 4, none⟩ (.slice A1 r.live.length k1)).setCell ⟨W.heap.size, 5, none⟩ (.slice A2 r.quar.length k2)).setCell ⟨W.heap.size, 6, none⟩ (.int .i64 r.gi)).heap[j]? = v2.heap[j]? := fun j hj => by
            repeat' first | refine Eq.trans (Below.heap_setCell _ _ _ _ hj) ?_ | rfl
          have hsz7 : (((((((v2.setCell ⟨W.heap.size, 0, none⟩ (.int .i64 r.c.page)).setCell ⟨W.heap.size, 1, none⟩ (.int .i64 r.c.n)).setCell ⟨W.heap.size, 2, none⟩ (.int .i64 r.c.red)).setCell ⟨W.heap.size, 3, none⟩ (.int .i64 r.c.quarantine)).setCell ⟨W.heap.size, 4, none⟩ (.slice A1 r.live.length k1)).setCell ⟨W.heap.size, 5, none⟩ (.slice A2 r.quar.length k2)).setCell ⟨W.heap.size, 6, none⟩ (.int .i64 r.gi)).heap.size = v2.heap.size := by simp [World.setCell]
          have hnb : W.heap.size ≤ W.heap.size := hnbW
          have hS9 : Below W.heap.size W (((((((v2.setCell ⟨W.heap.size, 0, none⟩ (.int .i64 r.c.page)).setCell ⟨W.heap.size, 1, none⟩ (.int .i64 r.c.n)).setCell ⟨W.heap.size, 2, none⟩ (.int .i64 r.c.red)).setCell ⟨W.heap.size, 3, none⟩ (.int .i64 r.c.quarantine)).setCell ⟨W.heap.size, 4, none⟩ (.slice A1 r.live.length k1)).setCell ⟨W.heap.size, 5, none⟩ (.slice A2 r.quar.length k2)).setCell ⟨W.heap.size, 6, none⟩ (.int .i64 r.gi)) := (((((((Sv2.setCell (p := ⟨W.heap.size, 0, none⟩) hnb _).setCell (p := ⟨W.heap.size, 1, none⟩) hnb _).setCell (p := ⟨W.heap.size, 2, none⟩) hnb _).setCell (p := ⟨W.heap.size, 3, none⟩) hnb _).setCell (p := ⟨W.heap.size, 4, none⟩) hnb _).setCell (p := ⟨W.heap.size, 5, none⟩) hnb _).setCell (p := ⟨W.heap.size, 6, none⟩) hnb _)
          have hF1 : Fresh W.heap.size (((((((v2.setCell ⟨W.heap.size, 0, none⟩ (.int .i64 r.c.page)).setCell ⟨W.heap.size, 1, none⟩ (.int .i64 r.c.n)).setCell ⟨W.heap.size, 2, none⟩ (.int .i64 r.c.red)).setCell ⟨W.heap.size, 3, none⟩ (.int .i64 r.c.quarantine)).setCell ⟨W.heap.size, 4, none⟩ (.slice A1 r.live.length k1)).setCell ⟨W.heap.size, 5, none⟩ (.slice A2 r.quar.length k2)).setCell ⟨W.heap.size, 6, none⟩ (.int .i64 r.gi)) (.slice A1 r.live.length k1) r.live := (f1.kept (by omega) (fun j hj hb => hkp j (by omega))).base hbase
          have hF2 : Fresh W.heap.size (((((((v2.setCell ⟨W.heap.size, 0, none⟩ (.int .i64 r.c.page)).setCell ⟨W.heap.size, 1, none⟩ (.int .i64 r.c.n)).setCell ⟨W.heap.size, 2, none⟩ (.int .i64 r.c.red)).setCell ⟨W.heap.size, 3, none⟩ (.int .i64 r.c.quarantine)).setCell ⟨W.heap.size, 4, none⟩ (.slice A1 r.live.length k1)).setCell ⟨W.heap.size, 5, none⟩ (.slice A2 r.quar.length k2)).setCell ⟨W.heap.size, 6, none⟩ (.int .i64 r.gi)) (.slice A2 r.quar.length k2) r.quar := (f2.kept (by omega) (fun j hj hb => hkp j (by omega))).base hbase
          generalize (((((((v2.setCell ⟨W.heap.size, 0, none⟩ (.int .i64 r.c.page)).setCell ⟨W.heap.size, 1, none⟩ (.int .i64 r.c.n)).setCell ⟨W.heap.size, 2, none⟩ (.int .i64 r.c.red)).setCell ⟨W.heap.size, 3, none⟩ (.int .i64 r.c.quarantine)).setCell ⟨W.heap.size, 4, none⟩ (.slice A1 r.live.length k1)).setCell ⟨W.heap.size, 5, none⟩ (.slice A2 r.quar.length k2)).setCell ⟨W.heap.size, 6, none⟩ (.int .i64 r.gi)) = V9 at *
          refine hK.out _ _ hS9 (fun _ => ?_)
          clear hK K
          refine wpAnyH_take (i := 10) (v := .int .i64 err) rfl (by kernel_rfl) (by kernel_rfl) (by kernel_rfl) (fun _ _ _ h => h) (Or.inl ⟨by rfl, ?hy⟩) hS9 ?_
          case hy => intro w9 hSw; have k0 := (hSw.block _ hlt0).trans X2.out; have k1 := (hSw.block _ hlt1).trans X3.out; have s0 := blk_cell k0 0; have s1 := blk_cell k0 1; have s2 := blk_cell k0 2; have s3 := blk_cell k0 3; have s4 := blk_cell k0 4; have s5 := blk_cell k0 5; have s6 := blk_cell k0 6; have r0 := blk_cell k1 0; have r1 := blk_cell k1 1; have r2 := blk_cell k1 2; have r3 := blk_cell k1 3; have r4 := blk_cell k1 4; simp only [List.getElem?_toArray, List.getElem?_cons_succ, List.getElem?_cons_zero] at s0 s1 s2 s3 s4 s5 s6 r0 r1 r2 r3 r4; go_simp
          go_simp
          refine wpAnyH_done (by kernel_rfl) ?_ _
          go_simp
          have hfin := HKK.out (W.heap.size, (err, r), (A1, k1), (A2, k2)) _ ⟨hS9, hP, hnb, e7, hF1, hF2⟩
          simp only [List.setIfInBounds_toArray, List.set_cons_zero, List.set_cons_succ] at hfin
          exact hfin
      rintro ⟨nb, ⟨err, r⟩, ⟨A1, k1⟩, ⟨A2, k2⟩⟩ V ⟨v1, hP, v3, v4, f1, f2⟩
      simp only [List.setIfInBounds_toArray, List.set_cons_zero, List.set_cons_succ]
      simp only at hP v3 v4 f1 f2
      obtain ⟨w1, rfl⟩ : ∃ w1 : World, w1 = V := ⟨_, rfl⟩
      obtain ⟨at_, hat⟩ : ∃ z : Int, z = 0 := ⟨_, rfl⟩
      have HP : Hid (DP err at_ r) := (HD.out _ _ _).2 (by rw [if_neg (by omega), if_pos trivial]; exact ⟨hat, hP⟩)
      have hbr := (v1.block _ hlt).trans X4.out
      have HBR := Lib.hid hbr
      have HBW1 : Hid (Below w.heap.size w w1) := X1.out.trans (v1.mono X1.out.size)
      have F1 := Lib.hid f1
      have F2 := Lib.hid f2
      have hlt : w.heap.size + 2 < w1.heap.size := blk_lt hbr
      have hnb : nb < w1.heap.size := blk_lt v4
      have n0 := blk_cell v4 0
      have n1 := blk_cell v4 1
      have n2 := blk_cell v4 2
      have n3 := blk_cell v4 3
      have n4 := blk_cell v4 4
      have n5 := blk_cell v4 5
      have n6 := blk_cell v4 6
      simp only [List.getElem?_toArray, List.getElem?_cons_succ, List.getElem?_cons_zero] at n0 n1 n2 n3 n4 n5 n6
      have y0 := blk_cell hbr 0
      have fy0 : w1.frozen? ⟨w.heap.size + 2, 0, none⟩ = false := frozen_of_row _ _ _ _ _ hbr
      have y1 := blk_cell hbr 1
      have fy1 : w1.frozen? ⟨w.heap.size + 2, 1, none⟩ = false := frozen_of_row _ _ _ _ _ hbr
      have y2 := blk_cell hbr 2
      have fy2 : w1.frozen? ⟨w.heap.size + 2, 2, none⟩ = false := frozen_of_row _ _ _ _ _ hbr
      have y3 := blk_cell hbr 3
      have fy3 : w1.frozen? ⟨w.heap.size + 2, 3, none⟩ = false := frozen_of_row _ _ _ _ _ hbr
      have y4 := blk_cell hbr 4
      have fy4 : w1.frozen? ⟨w.heap.size + 2, 4, none⟩ = false := frozen_of_row _ _ _ _ _ hbr
      have y5 := blk_cell hbr 5
      have fy5 : w1.frozen? ⟨w.heap.size + 2, 5, none⟩ = false := frozen_of_row _ _ _ _ _ hbr
      have y6 := blk_cell hbr 6
      have fy6 : w1.frozen? ⟨w.heap.size + 2, 6, none⟩ = false := frozen_of_row _ _ _ _ _ hbr
      simp only [List.getElem?_toArray, List.getElem?_cons_succ, List.getElem?_cons_zero] at y0 y1 y2 y3 y4 y5 y6
      clear v1 v3 v4 hP hbr f1 f2 q0 q1 q2 q3 q4 q5 q6 p0 p1 p2 p3 p4 z0 z1 z2 z3 z4 z5 z6 fz0 fz1 fz2 fz3 fz4 fz5 fz6
      go_wp2
      refine gen_worldB (fun W => Below w.heap.size w W ∧ W.heap[w.heap.size + 2]? = some (.cells #[.int .i64 r.c.page, .int .i64 r.c.n, .int .i64 r.c.red, .int .i64 r.c.quarantine, .slice A1 r.live.length k1, .slice A2 r.quar.length k2, .int .i64 r.gi] 26 (0, 0)) ∧ w1.heap.size ≤ W.heap.size ∧ (∀ k, k < w1.heap.size → k ≠ w.heap.size + 2 → W.heap[k]? = w1.heap[k]?)) ⟨?_, ?_, by simp [World.setCell], fun k hk hne => ?_⟩ ?_
      · repeat' first | refine Below.setCell ?_ (by simp; try omega) _ | exact HBW1.out
      · have e1 := row_setCell (o := 0) (.int .i64 r.c.page) HBR.out
        have e2 := row_setCell (o := 1) (.int .i64 r.c.n) e1
        have e3 := row_setCell (o := 2) (.int .i64 r.c.red) e2
        have e4 := row_setCell (o := 3) (.int .i64 r.c.quarantine) e3
        have e5 := row_setCell (o := 4) (.slice A1 r.live.length k1) e4
        have e6 := row_setCell (o := 5) (.slice A2 r.quar.length k2) e5
        have e7 := row_setCell (o := 6) (.int .i64 r.gi) e6
        simp only [List.setIfInBounds_toArray, List.set_cons_zero, List.set_cons_succ] at e7
        exact e7
      · repeat' first | refine Eq.trans (Below.heap_setCell _ _ _ _ hne) ?_ | rfl
      rintro W ⟨t1, t2, t3, t4⟩
      have r0 := blk_cell t2 0
      have r1 := blk_cell t2 1
      have r2 := blk_cell t2 2
      have r3 := blk_cell t2 3
      have r4 := blk_cell t2 4
      have r5 := blk_cell t2 5
      have r6 := blk_cell t2 6
      simp only [List.getElem?_toArray, List.getElem?_cons_succ, List.getElem?_cons_zero] at r0 r1 r2 r3 r4 r5 r6
      refine bodyPost_ret (v := .tuple #[hAgg r.c (.slice A1 r.live.length k1) (.slice A2 r.quar.length k2) r.gi, .int .u32 at_, .int .i64 err]) (by simp [results, Try.results46, go_sem, r0, r1, r2, r3, r4, r5, r6, hat]) rfl ⟨t1, err, at_, r, HP.out, A1, k1, A2, k2, rfl, ?_, ?_⟩
      · exact (F1.out.kept t3 (fun k hk hne => t4 k hk (by omega))).base (by omega)
      · exact (F2.out.kept t3 (fun k hk hne => t4 k hk (by omega))).base (by omega)
    · go_enter Try.func46, Try.ntmps46
      have hk0' : (kd == 0) = false := by simpa using hk0
      have hk1' : (kd == 1) = false := by simpa using hk1
      go_wp2
      refine gen_worldP (fun W => Below w.heap.size w W ∧ W.heap[w.heap.size]? = some (.cells #[.int .i64 c.page, .int .i64 c.n, .int .i64 c.red, .int .i64 c.quarantine, .slice A live.length ca, .slice B quar.length cb, .int .i64 gi] 26 (0, 0)) ∧ W.heap[w.heap.size + 1]? = some (.cells #[.int .i64 kd, .int .i64 on, .int .i64 oi, .int .u32 op, .bool ow] 29 (0, 0)) ∧ W.heap[w.heap.size + 2]? = some (.cells #[.int .i64 0, .int .i64 0, .int .i64 0, .int .i64 0, .slice none 0 0, .slice none 0 0, .int .i64 0] 26 (0, 0))) ⟨HW0.out, hal_old (hal_old (hal_new rfl)), hal_old (hal_new (by simp)), hal_new (by simp)⟩ ?_
      rintro W ⟨x1, x2, x3, x4⟩
      have hlt : w.heap.size + 2 < W.heap.size := blk_lt x4
      have hlt0 : w.heap.size < W.heap.size := by omega
      have hlt1 : w.heap.size + 1 < W.heap.size := by omega
      have X1 := Lib.hid x1
      have X2 := Lib.hid x2
      have X3 := Lib.hid x3
      have X4 := Lib.hid x4
      clear x1 x2 x3 x4
      have hmx : Try.prog.follows .mixedOrders = true := by kernel_rfl
      refine wp_region_held_drew (S := fun w' => w'.heap[w.heap.size]? = some (.cells #[.int .i64 c.page, .int .i64 c.n, .int .i64 c.red, .int .i64 c.quarantine, .slice A live.length ca, .slice B quar.length cb, .int .i64 gi] 26 (0, 0)) ∧ w'.heap[w.heap.size + 1]? = some (.cells #[.int .i64 kd, .int .i64 on, .int .i64 oi, .int .u32 op, .bool ow] 29 (0, 0))) hmx ⟨X2.out, X3.out⟩ ?_
      intro hS0
      refine wpAnyH_take (i := 0) (v := .agg #[.int .i64 c.page, .int .i64 c.n, .int .i64 c.red, .int .i64 c.quarantine, .slice A live.length ca, .slice B quar.length cb, .int .i64 gi]) rfl (by kernel_rfl) (by kernel_rfl) (by kernel_rfl) (fun _ _ _ h => h) (Or.inl ⟨by rfl, ?hy⟩) hS0 ?_
      case hy => intro w9 hSw; obtain ⟨k0, k1⟩ := hSw; have s0 := blk_cell k0 0; have s1 := blk_cell k0 1; have s2 := blk_cell k0 2; have s3 := blk_cell k0 3; have s4 := blk_cell k0 4; have s5 := blk_cell k0 5; have s6 := blk_cell k0 6; have r0 := blk_cell k1 0; have r1 := blk_cell k1 1; have r2 := blk_cell k1 2; have r3 := blk_cell k1 3; have r4 := blk_cell k1 4; simp only [List.getElem?_toArray, List.getElem?_cons_succ, List.getElem?_cons_zero] at s0 s1 s2 s3 s4 s5 s6 r0 r1 r2 r3 r4; go_simp
      go_simp
      refine wpAnyH_take (i := 1) (v := .agg #[.int .i64 c.page, .int .i64 c.n, .int .i64 c.red, .int .i64 c.quarantine, .slice A live.length ca, .slice B quar.length cb, .int .i64 gi]) rfl (by kernel_rfl) (by kernel_rfl) (by kernel_rfl) (fun _ _ _ h => h) (Or.inl ⟨by rfl, ?hy⟩) hS0 ?_
      case hy => intro w9 hSw; obtain ⟨k0, k1⟩ := hSw; have s0 := blk_cell k0 0; have s1 := blk_cell k0 1; have s2 := blk_cell k0 2; have s3 := blk_cell k0 3; have s4 := blk_cell k0 4; have s5 := blk_cell k0 5; have s6 := blk_cell k0 6; have r0 := blk_cell k1 0; have r1 := blk_cell k1 1; have r2 := blk_cell k1 2; have r3 := blk_cell k1 3; have r4 := blk_cell k1 4; simp only [List.getElem?_toArray, List.getElem?_cons_succ, List.getElem?_cons_zero] at s0 s1 s2 s3 s4 s5 s6 r0 r1 r2 r3 r4; go_simp
      go_simp
      refine wpAnyH_take (i := 2) (v := .agg #[.int .i64 kd, .int .i64 on, .int .i64 oi, .int .u32 op, .bool ow]) rfl (by kernel_rfl) (by kernel_rfl) (by kernel_rfl) (fun _ _ _ h => h) (Or.inl ⟨by rfl, ?hy⟩) hS0 ?_
      case hy => intro w9 hSw; obtain ⟨k0, k1⟩ := hSw; have s0 := blk_cell k0 0; have s1 := blk_cell k0 1; have s2 := blk_cell k0 2; have s3 := blk_cell k0 3; have s4 := blk_cell k0 4; have s5 := blk_cell k0 5; have s6 := blk_cell k0 6; have r0 := blk_cell k1 0; have r1 := blk_cell k1 1; have r2 := blk_cell k1 2; have r3 := blk_cell k1 3; have r4 := blk_cell k1 4; simp only [List.getElem?_toArray, List.getElem?_cons_succ, List.getElem?_cons_zero] at s0 s1 s2 s3 s4 s5 s6 r0 r1 r2 r3 r4; go_simp
      go_simp
      refine wpAnyH_take (i := 4) (v := .pointer (some ⟨w.heap.size + 1, 1, none⟩)) rfl (by kernel_rfl) (by kernel_rfl) (by kernel_rfl) (fun _ _ _ h => h) (Or.inl ⟨by rfl, ?hy⟩) hS0 ?_
      case hy => intro w9 hSw; obtain ⟨k0, k1⟩ := hSw; have s0 := blk_cell k0 0; have s1 := blk_cell k0 1; have s2 := blk_cell k0 2; have s3 := blk_cell k0 3; have s4 := blk_cell k0 4; have s5 := blk_cell k0 5; have s6 := blk_cell k0 6; have r0 := blk_cell k1 0; have r1 := blk_cell k1 1; have r2 := blk_cell k1 2; have r3 := blk_cell k1 3; have r4 := blk_cell k1 4; simp only [List.getElem?_toArray, List.getElem?_cons_succ, List.getElem?_cons_zero] at s0 s1 s2 s3 s4 s5 s6 r0 r1 r2 r3 r4; go_simp
      go_simp
      refine wpAnyH_take (i := 5) (v := .int .i64 on) rfl (by kernel_rfl) (by kernel_rfl) (by kernel_rfl) (fun _ _ _ h => h) (Or.inl ⟨by rfl, ?hy⟩) hS0 ?_
      case hy => intro w9 hSw; obtain ⟨k0, k1⟩ := hSw; have s0 := blk_cell k0 0; have s1 := blk_cell k0 1; have s2 := blk_cell k0 2; have s3 := blk_cell k0 3; have s4 := blk_cell k0 4; have s5 := blk_cell k0 5; have s6 := blk_cell k0 6; have r0 := blk_cell k1 0; have r1 := blk_cell k1 1; have r2 := blk_cell k1 2; have r3 := blk_cell k1 3; have r4 := blk_cell k1 4; simp only [List.getElem?_toArray, List.getElem?_cons_succ, List.getElem?_cons_zero] at s0 s1 s2 s3 s4 s5 s6 r0 r1 r2 r3 r4; go_simp
      go_simp
      refine wpAnyH_ready (rs := [3]) (by kernel_rfl) (by simp) ?_
      refine AllReadyH.cons rfl (fun K hK => ?_) (AllReadyH.nil)
      go_simp
      refine Calls.mono (H45.out _ X1.out.drew) ?_
      rintro e v1 ⟨rfl, hv1⟩
      have HV1 : Hid (Below w.heap.size w v1) := X1.out.drew.trans (hv1.mono X1.out.size)
      have hS1 := And.intro ((hv1.block _ hlt0).trans X2.out) ((hv1.block _ hlt1).trans X3.out)
      have hz1 := (hv1.block _ hlt).trans X4.out
      refine hK.out _ _ hS1 (fun _ => ?_)
      clear hK K
      refine wpAnyH_ready (rs := [6]) (by kernel_rfl) (by simp) ?_
      refine AllReadyH.cons rfl (fun K hK => ?_) (AllReadyH.nil)
      go_simp
      refine Calls.mono (H52.out _ HV1.out) ?_
      rintro e v2 ⟨hv2, hans⟩
      obtain ⟨err, at_, r, hP, A1, k1, A2, k2, rfl, f1, f2⟩ := hans.plain
      have HV2 : Hid (Below w.heap.size w v2) := HV1.out.trans (hv2.mono HV1.out.size)
      have hS2 := And.intro ((hv2.block _ (blk_lt hS1.1)).trans hS1.1) ((hv2.block _ (blk_lt hS1.2)).trans hS1.2)
      have hz2 := (hv2.block _ (blk_lt hz1)).trans hz1
      have hb12 := blk_lt hz1
      have hb0 := blk_lt hS2.1
      have HP : Hid (DP err at_ r) := (HD.out _ _ _).2 (by rw [if_neg hk0, if_neg hk1]; exact hP)
      refine hK.out _ _ hS2 (fun _ => ?_)
      clear hK K
      refine wpAnyH_take (i := 7) (v := .agg #[.int .i64 r.c.page, .int .i64 r.c.n, .int .i64 r.c.red, .int .i64 r.c.quarantine, .slice A1 r.live.length k1, .slice A2 r.quar.length k2, .int .i64 r.gi]) rfl (by kernel_rfl) (by kernel_rfl) (by kernel_rfl) (fun _ _ _ h => h) (Or.inl ⟨by rfl, ?hy⟩) hS2 ?_
      case hy => intro w9 hSw; obtain ⟨k0, k1⟩ := hSw; have s0 := blk_cell k0 0; have s1 := blk_cell k0 1; have s2 := blk_cell k0 2; have s3 := blk_cell k0 3; have s4 := blk_cell k0 4; have s5 := blk_cell k0 5; have s6 := blk_cell k0 6; have r0 := blk_cell k1 0; have r1 := blk_cell k1 1; have r2 := blk_cell k1 2; have r3 := blk_cell k1 3; have r4 := blk_cell k1 4; simp only [List.getElem?_toArray, List.getElem?_cons_succ, List.getElem?_cons_zero] at s0 s1 s2 s3 s4 s5 s6 r0 r1 r2 r3 r4; go_simp
      go_simp
      refine wpAnyH_take (i := 8) (v := .int .u32 at_) rfl (by kernel_rfl) (by kernel_rfl) (by kernel_rfl) (fun _ _ _ h => h) (Or.inl ⟨by rfl, ?hy⟩) hS2 ?_
      case hy => intro w9 hSw; obtain ⟨k0, k1⟩ := hSw; have s0 := blk_cell k0 0; have s1 := blk_cell k0 1; have s2 := blk_cell k0 2; have s3 := blk_cell k0 3; have s4 := blk_cell k0 4; have s5 := blk_cell k0 5; have s6 := blk_cell k0 6; have r0 := blk_cell k1 0; have r1 := blk_cell k1 1; have r2 := blk_cell k1 2; have r3 := blk_cell k1 3; have r4 := blk_cell k1 4; simp only [List.getElem?_toArray, List.getElem?_cons_succ, List.getElem?_cons_zero] at s0 s1 s2 s3 s4 s5 s6 r0 r1 r2 r3 r4; go_simp
      go_simp
      refine wpAnyH_take (i := 9) (v := .int .i64 err) rfl (by kernel_rfl) (by kernel_rfl) (by kernel_rfl) (fun _ _ _ h => h) (Or.inl ⟨by rfl, ?hy⟩) hS2 ?_
      case hy => intro w9 hSw; obtain ⟨k0, k1⟩ := hSw; have s0 := blk_cell k0 0; have s1 := blk_cell k0 1; have s2 := blk_cell k0 2; have s3 := blk_cell k0 3; have s4 := blk_cell k0 4; have s5 := blk_cell k0 5; have s6 := blk_cell k0 6; have r0 := blk_cell k1 0; have r1 := blk_cell k1 1; have r2 := blk_cell k1 2; have r3 := blk_cell k1 3; have r4 := blk_cell k1 4; simp only [List.getElem?_toArray, List.getElem?_cons_succ, List.getElem?_cons_zero] at s0 s1 s2 s3 s4 s5 s6 r0 r1 r2 r3 r4; go_simp
      go_simp
      refine wpAnyH_ready (rs := [10]) (by kernel_rfl) (by simp) ?_
      refine AllReadyH.cons rfl (fun K hK => ?_) (AllReadyH.nil)
      have b0 := blk_cell hz2 0
      have fb0 : World.frozen? _ ⟨w.heap.size + 2, 0, none⟩ = false := frozen_of_row _ _ _ _ _ hz2
      have b1 := blk_cell hz2 1
      have fb1 : World.frozen? _ ⟨w.heap.size + 2, 1, none⟩ = false := frozen_of_row _ _ _ _ _ hz2
      have b2 := blk_cell hz2 2
      have fb2 : World.frozen? _ ⟨w.heap.size + 2, 2, none⟩ = false := frozen_of_row _ _ _ _ _ hz2
      have b3 := blk_cell hz2 3
      have fb3 : World.frozen? _ ⟨w.heap.size + 2, 3, none⟩ = false := frozen_of_row _ _ _ _ _ hz2
      have b4 := blk_cell hz2 4
      have fb4 : World.frozen? _ ⟨w.heap.size + 2, 4, none⟩ = false := frozen_of_row _ _ _ _ _ hz2
      have b5 := blk_cell hz2 5
      have fb5 : World.frozen? _ ⟨w.heap.size + 2, 5, none⟩ = false := frozen_of_row _ _ _ _ _ hz2
      have b6 := blk_cell hz2 6
      have fb6 : World.frozen? _ ⟨w.heap.size + 2, 6, none⟩ = false := frozen_of_row _ _ _ _ _ hz2
      simp only [List.getElem?_toArray, List.getElem?_cons_succ, List.getElem?_cons_zero] at b0 b1 b2 b3 b4 b5 b6
      go_simp
      have e1 := row_setCell (o := 0) (.int .i64 r.c.page) hz2
      have e2 := row_setCell (o := 1) (.int .i64 r.c.n) e1
      have e3 := row_setCell (o := 2) (.int .i64 r.c.red) e2
      have e4 := row_setCell (o := 3) (.int .i64 r.c.quarantine) e3
      have e5 := row_setCell (o := 4) (.slice A1 r.live.length k1) e4
      have e6 := row_setCell (o := 5) (.slice A2 r.quar.length k2) e5
      have e7 := row_setCell (o := 6) (.int .i64 r.gi) e6
      simp only [List.setIfInBounds_toArray, List.set_cons_zero, List.set_cons_succ] at e7
      have hkp : ∀ j, j ≠ w.heap.size + 2 → (((((((v2.setCell ⟨w.heap.size + 2, 0, none⟩ (.int .i64 r.c.page)).setCell ⟨w.heap.size + 2, 1, none⟩ (.int .i64 r.c.n)).setCell ⟨w.heap.size + 2, 2, none⟩ (.int .i64 r.c.red)).setCell ⟨w.heap.size + 2, 3, none⟩ (.int .i64 r.c.quarantine)).setCell ⟨w.heap.size + 2, 4, none⟩ (.slice A1 r.live.length k1)).setCell ⟨w.heap.size + 2, 5, none⟩ (.slice A2 r.quar.length k2)).setCell ⟨w.heap.size + 2, 6, none⟩ (.int .i64 r.gi)).heap[j]? = v2.heap[j]? := fun j hj => by
        repeat' first | refine Eq.trans (Below.heap_setCell _ _ _ _ hj) ?_ | rfl
      have hsz7 : (((((((v2.setCell ⟨w.heap.size + 2, 0, none⟩ (.int .i64 r.c.page)).setCell ⟨w.heap.size + 2, 1, none⟩ (.int .i64 r.c.n)).setCell ⟨w.heap.size + 2, 2, none⟩ (.int .i64 r.c.red)).setCell ⟨w.heap.size + 2, 3, none⟩ (.int .i64 r.c.quarantine)).setCell ⟨w.heap.size + 2, 4, none⟩ (.slice A1 r.live.length k1)).setCell ⟨w.heap.size + 2, 5, none⟩ (.slice A2 r.quar.length k2)).setCell ⟨w.heap.size + 2, 6, none⟩ (.int .i64 r.gi)).heap.size = v2.heap.size := by simp [World.setCell]
      have hS9 := And.intro ((hkp w.heap.size (by omega)).trans hS2.1) ((hkp (w.heap.size + 1) (by omega)).trans hS2.2)
      have hB9 : Below w.heap.size w (((((((v2.setCell ⟨w.heap.size + 2, 0, none⟩ (.int .i64 r.c.page)).setCell ⟨w.heap.size + 2, 1, none⟩ (.int .i64 r.c.n)).setCell ⟨w.heap.size + 2, 2, none⟩ (.int .i64 r.c.red)).setCell ⟨w.heap.size + 2, 3, none⟩ (.int .i64 r.c.quarantine)).setCell ⟨w.heap.size + 2, 4, none⟩ (.slice A1 r.live.length k1)).setCell ⟨w.heap.size + 2, 5, none⟩ (.slice A2 r.quar.length k2)).setCell ⟨w.heap.size + 2, 6, none⟩ (.int .i64 r.gi)) := (((((((HV2.out.setCell (p := ⟨w.heap.size + 2, 0, none⟩) (by simp) _).setCell (p := ⟨w.heap.size + 2, 1, none⟩) (by simp) _).setCell (p := ⟨w.heap.size + 2, 2, none⟩) (by simp) _).setCell (p := ⟨w.heap.size + 2, 3, none⟩) (by simp) _).setCell (p := ⟨w.heap.size + 2, 4, none⟩) (by simp) _).setCell (p := ⟨w.heap.size + 2, 5, none⟩) (by simp) _).setCell (p := ⟨w.heap.size + 2, 6, none⟩) (by simp) _)
      have hF1 : Fresh w.heap.size (((((((v2.setCell ⟨w.heap.size + 2, 0, none⟩ (.int .i64 r.c.page)).setCell ⟨w.heap.size + 2, 1, none⟩ (.int .i64 r.c.n)).setCell ⟨w.heap.size + 2, 2, none⟩ (.int .i64 r.c.red)).setCell ⟨w.heap.size + 2, 3, none⟩ (.int .i64 r.c.quarantine)).setCell ⟨w.heap.size + 2, 4, none⟩ (.slice A1 r.live.length k1)).setCell ⟨w.heap.size + 2, 5, none⟩ (.slice A2 r.quar.length k2)).setCell ⟨w.heap.size + 2, 6, none⟩ (.int .i64 r.gi)) (.slice A1 r.live.length k1) r.live := (f1.kept (by omega) (fun j hj hb => hkp j (by omega))).base (by omega)
      have hF2 : Fresh w.heap.size (((((((v2.setCell ⟨w.heap.size + 2, 0, none⟩ (.int .i64 r.c.page)).setCell ⟨w.heap.size + 2, 1, none⟩ (.int .i64 r.c.n)).setCell ⟨w.heap.size + 2, 2, none⟩ (.int .i64 r.c.red)).setCell ⟨w.heap.size + 2, 3, none⟩ (.int .i64 r.c.quarantine)).setCell ⟨w.heap.size + 2, 4, none⟩ (.slice A1 r.live.length k1)).setCell ⟨w.heap.size + 2, 5, none⟩ (.slice A2 r.quar.length k2)).setCell ⟨w.heap.size + 2, 6, none⟩ (.int .i64 r.gi)) (.slice A2 r.quar.length k2) r.quar := (f2.kept (by omega) (fun j hj hb => hkp j (by omega))).base (by omega)
      generalize (((((((v2.setCell ⟨w.heap.size + 2, 0, none⟩ (.int .i64 r.c.page)).setCell ⟨w.heap.size + 2, 1, none⟩ (.int .i64 r.c.n)).setCell ⟨w.heap.size + 2, 2, none⟩ (.int .i64 r.c.red)).setCell ⟨w.heap.size + 2, 3, none⟩ (.int .i64 r.c.quarantine)).setCell ⟨w.heap.size + 2, 4, none⟩ (.slice A1 r.live.length k1)).setCell ⟨w.heap.size + 2, 5, none⟩ (.slice A2 r.quar.length k2)).setCell ⟨w.heap.size + 2, 6, none⟩ (.int .i64 r.gi)) = V9 at *
      refine hK.out _ _ hS9 (fun _ => ?_)
      clear hK K
      refine wpAnyH_take (i := 11) (v := .int .u32 at_) rfl (by kernel_rfl) (by kernel_rfl) (by kernel_rfl) (fun _ _ _ h => h) (Or.inl ⟨by rfl, ?hy⟩) hS9 ?_
      case hy => intro w9 hSw; obtain ⟨k0, k1⟩ := hSw; have s0 := blk_cell k0 0; have s1 := blk_cell k0 1; have s2 := blk_cell k0 2; have s3 := blk_cell k0 3; have s4 := blk_cell k0 4; have s5 := blk_cell k0 5; have s6 := blk_cell k0 6; have r0 := blk_cell k1 0; have r1 := blk_cell k1 1; have r2 := blk_cell k1 2; have r3 := blk_cell k1 3; have r4 := blk_cell k1 4; simp only [List.getElem?_toArray, List.getElem?_cons_succ, List.getElem?_cons_zero] at s0 s1 s2 s3 s4 s5 s6 r0 r1 r2 r3 r4; go_simp
      go_simp
      refine wpAnyH_take (i := 12) (v := .int .i64 err) rfl (by kernel_rfl) (by kernel_rfl) (by kernel_rfl) (fun _ _ _ h => h) (Or.inl ⟨by rfl, ?hy⟩) hS9 ?_
      case hy => intro w9 hSw; obtain ⟨k0, k1⟩ := hSw; have s0 := blk_cell k0 0; have s1 := blk_cell k0 1; have s2 := blk_cell k0 2; have s3 := blk_cell k0 3; have s4 := blk_cell k0 4; have s5 := blk_cell k0 5; have s6 := blk_cell k0 6; have r0 := blk_cell k1 0; have r1 := blk_cell k1 1; have r2 := blk_cell k1 2; have r3 := blk_cell k1 3; have r4 := blk_cell k1 4; simp only [List.getElem?_toArray, List.getElem?_cons_succ, List.getElem?_cons_zero] at s0 s1 s2 s3 s4 s5 s6 r0 r1 r2 r3 r4; go_simp
      go_simp
      refine wpAnyH_done (by kernel_rfl) ?_ _
      go_simp
      clear b0 b1 b2 b3 b4 b5 b6 fb0 fb1 fb2 fb3 fb4 fb5 fb6 e1 e2 e3 e4 e5 e6
      have r0 := blk_cell e7 0
      have r1 := blk_cell e7 1
      have r2 := blk_cell e7 2
      have r3 := blk_cell e7 3
      have r4 := blk_cell e7 4
      have r5 := blk_cell e7 5
      have r6 := blk_cell e7 6
      simp only [List.getElem?_toArray, List.getElem?_cons_succ, List.getElem?_cons_zero] at r0 r1 r2 r3 r4 r5 r6
      go_wp2
      refine bodyPost_ret (v := .tuple #[hAgg r.c (.slice A1 r.live.length k1) (.slice A2 r.quar.length k2) r.gi, .int .u32 at_, .int .i64 err]) (by simp [results, Try.results46, go_sem, r0, r1, r2, r3, r4, r5, r6]) rfl ⟨hB9, err, at_, r, HP.out, A1, k1, A2, k2, rfl, hF1, hF2⟩
end Go.Proofs.Ytbhbjcgbhklieaa
