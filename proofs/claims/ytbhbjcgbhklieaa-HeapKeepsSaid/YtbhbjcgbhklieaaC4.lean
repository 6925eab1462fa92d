/- bare. -/
import Derived.Test.YtbhbjcgbhklieaaC7
namespace Go.Proofs.Ytbhbjcgbhklieaa
open Go.RowKit Go.Shelf

abbrev SlShape (v : Value) : Prop := ∀ A n c, v = .slice (some A) n c → ∃ b off, A = ⟨b, off, none⟩

theorem gen_worldP {P : Program} {c : Code} {Q : Exit → Act → World → Prop} {a : Act} {w : World} (R : World → Prop) (h : R w) (k : ∀ W, R W → c.wp P Q a W) : c.wp P Q a w := k w h

theorem own_blk {W W' : World} {base : Nat} {e : TypeId} {k : Nat} {v : Value} {n : Nat} {xs : List Value} (h : W.ownsRow base e k v n xs) (hb : ∀ g, v.ownBlock = some g → W'.heap[g]? = W.heap[g]?) : W'.ownsRow base e k v n xs :=
  ⟨h.1, h.2.imp id (fun ⟨g, cap, cur, hv, h1, h2, rest⟩ => ⟨g, cap, cur, hv, h1, (hb g (by rw [hv]; rfl)).trans h2, rest⟩)⟩
theorem own_base {W : World} {base b : Nat} {e : TypeId} {k : Nat} {v : Value} {n : Nat} {xs : List Value} (h : W.ownsRow base e k v n xs) (hb : b ≤ base) : W.ownsRow b e k v n xs :=
  ⟨h.1, h.2.imp id (fun ⟨g, cap, cur, hv, h1, rest⟩ => ⟨g, cap, cur, hv, Nat.le_trans hb h1, rest⟩)⟩
theorem own_lt {W : World} {base : Nat} {e : TypeId} {k : Nat} {v : Value} {n : Nat} {xs : List Value} (h : W.ownsRow base e k v n xs) : ∀ g, v.ownBlock = some g → base ≤ g ∧ g < W.heap.size := fun g hg => by
  have := ownB h g hg.symm
  obtain ⟨h1, cur, h2⟩ := this
  exact ⟨h1, blk_lt h2⟩
theorem gen_worldQ {K : Act → World → Prop} {a : Act} {w : World} (R : World → Prop) (h : R w) (k : ∀ W, R W → K a W) : K a w := k w h

set_option maxRecDepth 100000 in
set_option maxHeartbeats 2000000 in
theorem c70 (g : Nat) (c : Conf) (lv qv : Value) (gi : Int) (L : List Ext) (live quar : List Piece) (w : World) (hh : HeapB w g c lv qv gi L) (hl : Sl 3 encP w lv live) (hq : Sl 3 encP w qv quar) (sl : SlShape lv) (sq : SlShape qv) (n1 : live.length ≤ 1000) (n2 : quar.length ≤ 1000) :
    Calls Try.prog 70 #[.pointer (some ⟨g, 0, none⟩)] w fun e w' => Below w.heap.size w w' ∧ ∃ A1 c1 A2 c2 B, e = .returned (.agg #[.int .i64 c.page, .int .i64 c.n, .int .i64 c.red, .int .i64 c.quarantine, .slice A1 live.length c1, .slice A2 quar.length c2, .int .i64 gi]) ∧
      w'.ownsRow w.heap.size 38 3 (.slice A1 live.length c1) live.length (live.flatMap encP) ∧ w.heap.size ≤ B ∧ (∀ k, (Value.slice A1 live.length c1).ownBlock = some k → k < B) ∧ w'.ownsRow B 38 3 (.slice A2 quar.length c2) quar.length (quar.flatMap encP) := by
  obtain ⟨lsv, hb, hs⟩ := hh.out
  have hg := blk_lt hb
  have h0 : w.cell? ⟨g, 0, none⟩ = some (.int .i64 c.page) := blk_cell hb 0
  have h1 : w.cell? ⟨g, 1, none⟩ = some (.int .i64 c.n) := blk_cell hb 1
  have h2 : w.cell? ⟨g, 2, none⟩ = some (.int .i64 c.red) := blk_cell hb 2
  have h3 : w.cell? ⟨g, 3, none⟩ = some (.int .i64 c.quarantine) := blk_cell hb 3
  have h4 : w.cell? ⟨g, 4, none⟩ = some lv := blk_cell hb 4
  have h5 : w.cell? ⟨g, 5, none⟩ = some qv := blk_cell hb 5
  have h6 : w.cell? ⟨g, 6, none⟩ = some (.int .i64 gi) := blk_cell hb 6
  have hc1 := fun W (hW : Below w.heap.size w W) => c21 lv live W (hl.below hW) sl (by omega)
  have hc2 := fun W (hW : Below w.heap.size w W) => c21 qv quar W (hq.below hW) sq (by omega)
  obtain ⟨A, ca, rfl, _, _⟩ := hl
  obtain ⟨B, cb, rfl, _, _⟩ := hq
  clear hh hs hb sl sq
  go_enter Try.func70, Try.ntmps70
  go_wp2
  refine gen_worldP (fun W => Below w.heap.size w W ∧ W.heap.size = w.heap.size + 1 + 1 ∧
    (W.heap[w.heap.size]? = some (.cells #[.int .i64 0, .int .i64 0, .int .i64 0, .int .i64 0, .slice none 0 0, .slice none 0 0, .int .i64 0] 26 (0, 0))) ∧
    (W.heap[w.heap.size + 1]? = some (.cells #[.int .i64 c.page, .int .i64 c.n, .int .i64 c.red, .int .i64 c.quarantine, .slice A live.length ca, .slice B quar.length cb, .int .i64 gi] 26 (0, 0)))) ?_ ?_
  · refine ⟨((Below.refl _ _).alloc (Nat.le_refl _) _).alloc (by simp) _, by simp, hal_old (hal_new rfl), hal_new (by simp)⟩
  rintro W ⟨hBW, hsz, hb0, hb1⟩
  have z4 : W.cell? ⟨g, 4, none⟩ = some (.slice A live.length ca) := (hBW.cell (p := ⟨g, 4, none⟩) hg).trans h4
  have z5 : W.cell? ⟨g, 5, none⟩ = some (.slice B quar.length cb) := (hBW.cell (p := ⟨g, 5, none⟩) hg).trans h5
  have z6 : W.cell? ⟨w.heap.size + 1, 4, none⟩ = some (.slice A live.length ca) := blk_cell hb1 4
  have z7 : W.cell? ⟨w.heap.size + 1, 5, none⟩ = some (.slice B quar.length cb) := blk_cell hb1 5
  have z8 : W.frozen? ⟨w.heap.size + 1, 4, none⟩ = false := frozen_of_row _ _ _ _ _ hb1
  have z9 : W.frozen? ⟨w.heap.size + 1, 5, none⟩ = false := frozen_of_row _ _ _ _ _ hb1
  have HBW := Lib.hid hBW
  have HB0 := Lib.hid hb0
  have HB1 := Lib.hid hb1
  clear h0 h1 h2 h3 h4 h5 h6 hBW hb0 hb1
  have hmx : Try.prog.follows .mixedOrders = true := by kernel_rfl
  refine wp_region_held_drew (S := fun w' => w'.cell? ⟨g, 4, none⟩ = some (.slice A live.length ca) ∧ w'.cell? ⟨g, 5, none⟩ = some (.slice B quar.length cb)) hmx ⟨z4, z5⟩ ?_
  intro hS0
  refine wpAnyH_take (i := 0) (v := .pointer (some ⟨g, 0, none⟩)) rfl (by kernel_rfl) (by kernel_rfl) (by kernel_rfl) (fun _ _ _ h => h) (Or.inl ⟨by rfl, ?hy⟩) hS0 ?_
  case hy => intro w9 hSw; obtain ⟨s0, s1⟩ := hSw; go_simp
  simp only [Act.put, List.setIfInBounds_toArray]
  refine wpAnyH_take (i := 1) (v := .pointer (some ⟨g, 0, none⟩)) rfl (by kernel_rfl) (by kernel_rfl) (by kernel_rfl) (fun _ _ _ h => h) (Or.inl ⟨by rfl, ?hy⟩) hS0 ?_
  case hy => intro w9 hSw; obtain ⟨s0, s1⟩ := hSw; go_simp
  simp only [Act.put]
  refine wpAnyH_take (i := 2) (v := .pointer (some ⟨g, 0, none⟩)) rfl (by kernel_rfl) (by kernel_rfl) (by kernel_rfl) (fun _ _ _ h => h) (Or.inl ⟨by rfl, ?hy⟩) hS0 ?_
  case hy => intro w9 hSw; obtain ⟨s0, s1⟩ := hSw; go_simp
  simp only [Act.put]
  refine wpAnyH_take (i := 3) (v := .pointer (some ⟨g, 4, none⟩)) rfl (by kernel_rfl) (by kernel_rfl) (by kernel_rfl) (fun _ _ _ h => h) (Or.inl ⟨by rfl, ?hy⟩) hS0 ?_
  case hy => intro w9 hSw; obtain ⟨s0, s1⟩ := hSw; go_simp
  simp only [Act.put]
  refine wpAnyH_take (i := 4) (v := .slice A live.length ca) rfl (by kernel_rfl) (by kernel_rfl) (by kernel_rfl) (fun _ _ _ h => h) (Or.inl ⟨by rfl, ?hy⟩) hS0 ?_
  case hy => intro w9 hSw; obtain ⟨s0, s1⟩ := hSw; go_simp
  simp only [Act.put]
  refine wpAnyH_take (i := 6) (v := .pointer (some ⟨g, 0, none⟩)) rfl (by kernel_rfl) (by kernel_rfl) (by kernel_rfl) (fun _ _ _ h => h) (Or.inl ⟨by rfl, ?hy⟩) hS0 ?_
  case hy => intro w9 hSw; obtain ⟨s0, s1⟩ := hSw; go_simp
  simp only [Act.put]
  refine wpAnyH_take (i := 7) (v := .pointer (some ⟨g, 0, none⟩)) rfl (by kernel_rfl) (by kernel_rfl) (by kernel_rfl) (fun _ _ _ h => h) (Or.inl ⟨by rfl, ?hy⟩) hS0 ?_
  case hy => intro w9 hSw; obtain ⟨s0, s1⟩ := hSw; go_simp
  simp only [Act.put]
  refine wpAnyH_take (i := 8) (v := .pointer (some ⟨g, 0, none⟩)) rfl (by kernel_rfl) (by kernel_rfl) (by kernel_rfl) (fun _ _ _ h => h) (Or.inl ⟨by rfl, ?hy⟩) hS0 ?_
  case hy => intro w9 hSw; obtain ⟨s0, s1⟩ := hSw; go_simp
  simp only [Act.put]
  refine wpAnyH_take (i := 9) (v := .pointer (some ⟨g, 5, none⟩)) rfl (by kernel_rfl) (by kernel_rfl) (by kernel_rfl) (fun _ _ _ h => h) (Or.inl ⟨by rfl, ?hy⟩) hS0 ?_
  case hy => intro w9 hSw; obtain ⟨s0, s1⟩ := hSw; go_simp
  simp only [Act.put]
  refine wpAnyH_take (i := 10) (v := .slice B quar.length cb) rfl (by kernel_rfl) (by kernel_rfl) (by kernel_rfl) (fun _ _ _ h => h) (Or.inl ⟨by rfl, ?hy⟩) hS0 ?_
  case hy => intro w9 hSw; obtain ⟨s0, s1⟩ := hSw; go_simp
  simp only [Act.put]
  have HC2 := Lib.hid hc2
  clear hc2
  refine wpAnyH_ready (rs := [5]) (by kernel_rfl) (by simp) ?_
  refine AllReadyH.cons rfl (fun K hK => ?_) AllReadyH.nil
  go_simp
  refine Calls.mono (hc1 _ HBW.out.drew) ?_
  rintro e w1 ⟨hB1, A1, c1, rfl, hr1⟩
  have k4 : w1.cell? ⟨g, 4, none⟩ = some (.slice A live.length ca) := (hB1.cell (p := ⟨g, 4, none⟩) (by show g < W.heap.size; omega)).trans z4
  have k5 : w1.cell? ⟨g, 5, none⟩ = some (.slice B quar.length cb) := (hB1.cell (p := ⟨g, 5, none⟩) (by show g < W.heap.size; omega)).trans z5
  refine hK.out _ _ ⟨k4, k5⟩ (fun hS1 => ?_)
  clear hK K
  refine wpAnyH_take (i := 12) (v := .pointer (some ⟨w.heap.size + 1, 4, none⟩)) rfl (by kernel_rfl) (by kernel_rfl) (by kernel_rfl) (fun _ _ _ h => h) (Or.inl ⟨by rfl, ?hy⟩) hS1 ?_
  case hy => intro w9 hSw; obtain ⟨s0, s1⟩ := hSw; go_simp
  simp only [Act.put, List.setIfInBounds_toArray]
  refine wpAnyH_ready (rs := [11]) (by kernel_rfl) (by simp) ?_
  refine AllReadyH.cons rfl (fun K hK => ?_) AllReadyH.nil
  go_simp
  refine Calls.mono (HC2.out _ (HBW.out.drew.trans (hB1.mono HBW.out.size))) ?_
  rintro e w2 ⟨hB2, A2, c2, rfl, hr2⟩
  have hb := hB1.trans (hB2.mono hB1.size)
  have k6 : w2.cell? ⟨g, 4, none⟩ = some (.slice A live.length ca) := (hb.cell (p := ⟨g, 4, none⟩) (by show g < W.heap.size; omega)).trans z4
  have k7 : w2.cell? ⟨g, 5, none⟩ = some (.slice B quar.length cb) := (hb.cell (p := ⟨g, 5, none⟩) (by show g < W.heap.size; omega)).trans z5
  refine hK.out _ _ ⟨k6, k7⟩ (fun hS2 => ?_)
  clear hK K
  have hgne : g ≠ w.heap.size + 1 := by omega
  have hw2 := hb.size
  have hbx : w2.heap[w.heap.size + 1]? = some (.cells #[.int .i64 c.page, .int .i64 c.n, .int .i64 c.red, .int .i64 c.quarantine, .slice A live.length ca, .slice B quar.length cb, .int .i64 gi] 26 (0, 0)) := (hb.block (w.heap.size + 1) (by show _ < W.heap.size; omega)).trans HB1.out
  have x4 : w2.cell? ⟨w.heap.size + 1, 4, none⟩ = some (.slice A live.length ca) := blk_cell hbx 4
  have y4 : w2.frozen? ⟨w.heap.size + 1, 4, none⟩ = false := frozen_of_row _ _ _ _ _ hbx
  refine wpAnyH_ready (rs := [13]) (by kernel_rfl) (by simp) ?_
  refine AllReadyH.cons rfl (fun K hK => ?_) AllReadyH.nil
  go_simp
  refine hK.out _ _ ⟨(World.cell?_setCell_far _ _ _ _ (Ne.symm hgne)).trans k6, (World.cell?_setCell_far _ _ _ _ (Ne.symm hgne)).trans k7⟩ (fun hS3 => ?_)
  clear hK K
  refine wpAnyH_take (i := 14) (v := .pointer (some ⟨w.heap.size + 1, 5, none⟩)) rfl (by kernel_rfl) (by kernel_rfl) (by kernel_rfl) (fun _ _ _ h => h) (Or.inl ⟨by rfl, ?hy⟩) hS3 ?_
  case hy => intro w9 hSw; obtain ⟨s0, s1⟩ := hSw; go_simp
  simp only [Act.put, List.setIfInBounds_toArray]
  have hbx3 : (w2.setCell ⟨w.heap.size + 1, 4, none⟩ (.slice A1 live.length c1)).heap[w.heap.size + 1]? = some (.cells #[.int .i64 c.page, .int .i64 c.n, .int .i64 c.red, .int .i64 c.quarantine, .slice A1 live.length c1, .slice B quar.length cb, .int .i64 gi] 26 (0, 0)) := by simp [World.setCell, Array.getElem?_modify, hbx]
  have x5 := blk_cell hbx3 5
  have y5 : (w2.setCell ⟨w.heap.size + 1, 4, none⟩ (.slice A1 live.length c1)).frozen? ⟨w.heap.size + 1, 5, none⟩ = false := frozen_of_row _ _ _ _ _ hbx3
  simp only [List.getElem?_toArray, List.getElem?_cons_succ, List.getElem?_cons_zero] at x5
  refine wpAnyH_ready (rs := [15]) (by kernel_rfl) (by simp) ?_
  refine AllReadyH.cons rfl (fun K hK => ?_) AllReadyH.nil
  go_simp
  refine hK.out _ _ ⟨(World.cell?_setCell_far _ _ _ _ (Ne.symm hgne)).trans ((World.cell?_setCell_far _ _ _ _ (Ne.symm hgne)).trans k6), (World.cell?_setCell_far _ _ _ _ (Ne.symm hgne)).trans ((World.cell?_setCell_far _ _ _ _ (Ne.symm hgne)).trans k7)⟩ (fun _ => ?_)
  clear hK K
  refine wpAnyH_done (by kernel_rfl) ?_ _
  have HBB := Lib.hid hb
  have hsz2 := hB1.size
  have hbox : ((w2.setCell ⟨w.heap.size + 1, 4, none⟩ (.slice A1 live.length c1)).setCell ⟨w.heap.size + 1, 5, none⟩ (.slice A2 quar.length c2)).heap[w.heap.size + 1]? = some (.cells #[.int .i64 c.page, .int .i64 c.n, .int .i64 c.red, .int .i64 c.quarantine, .slice A1 live.length c1, .slice A2 quar.length c2, .int .i64 gi] 26 (0, 0)) := by simp [World.setCell, Array.getElem?_modify, hbx]
  have hrb : w2.heap[w.heap.size]? = some (.cells #[.int .i64 0, .int .i64 0, .int .i64 0, .int .i64 0, .slice none 0 0, .slice none 0 0, .int .i64 0] 26 (0, 0)) := (hb.block w.heap.size (by show _ < W.heap.size; omega)).trans HB0.out
  have hrb3 : ((w2.setCell ⟨w.heap.size + 1, 4, none⟩ (.slice A1 live.length c1)).setCell ⟨w.heap.size + 1, 5, none⟩ (.slice A2 quar.length c2)).heap[w.heap.size]? = some (.cells #[.int .i64 0, .int .i64 0, .int .i64 0, .int .i64 0, .slice none 0 0, .slice none 0 0, .int .i64 0] 26 (0, 0)) := (Below.heap_setCell _ _ _ _ (by simp)).trans ((Below.heap_setCell _ _ _ _ (by simp)).trans hrb)
  go_simp
  refine gen_worldQ (fun W3 => Below w.heap.size w W3 ∧ w.heap.size + 2 ≤ W3.heap.size ∧ W3.heap[w.heap.size + 1]? = some (.cells #[.int .i64 c.page, .int .i64 c.n, .int .i64 c.red, .int .i64 c.quarantine, .slice A1 live.length c1, .slice A2 quar.length c2, .int .i64 gi] 26 (0, 0)) ∧ W3.heap[w.heap.size]? = some (.cells #[.int .i64 0, .int .i64 0, .int .i64 0, .int .i64 0, .slice none 0 0, .slice none 0 0, .int .i64 0] 26 (0, 0)) ∧
    W3.ownsRow (w.heap.size + 2) 38 3 (.slice A1 live.length c1) live.length (live.flatMap encP) ∧ (∀ k, (Value.slice A1 live.length c1).ownBlock = some k → k < w1.heap.size) ∧ W3.ownsRow w1.heap.size 38 3 (.slice A2 quar.length c2) quar.length (quar.flatMap encP)) ?_ ?_
  · have hBw : Below w.heap.size w w2 := HBW.out.drew.trans (HBB.out.mono HBW.out.size)
    have hsW : W.drew.heap.size = w.heap.size + 2 := hsz
    have hkeep : ∀ k, k ≠ w.heap.size + 1 → ((w2.setCell ⟨w.heap.size + 1, 4, none⟩ (.slice A1 live.length c1)).setCell ⟨w.heap.size + 1, 5, none⟩ (.slice A2 quar.length c2)).heap[k]? = w2.heap[k]? := fun k hk => (Below.heap_setCell _ _ _ _ hk).trans (Below.heap_setCell _ _ _ _ hk)
    refine ⟨(hBw.setCell (p := ⟨w.heap.size + 1, 4, none⟩) (by simp) _).setCell (p := ⟨w.heap.size + 1, 5, none⟩) (by simp) _, by simp; have := hBw.size; have := hb.size; omega, hbox, hrb3, ?_, fun k hk => (own_lt hr1 k hk).2, ?_⟩
    · refine own_base (own_blk hr1 fun g hg => ?_) (by omega)
      have := own_lt hr1 g hg
      exact (hkeep g (by omega)).trans (hB2.block g this.2)
    · refine own_blk hr2 fun g hg => hkeep g ?_
      have := own_lt hr2 g hg
      have h1 : W.drew.heap.size ≤ w1.heap.size := hB1.size
      omega
  rintro W3 ⟨r1, r2, r3, r4, r5, r6, r7⟩
  have p0 := blk_cell r3 0
  have q0 := blk_cell r4 0
  have f0 : W3.frozen? ⟨w.heap.size, 0, none⟩ = false := frozen_of_row _ _ _ _ _ r4
  have p1 := blk_cell r3 1
  have q1 := blk_cell r4 1
  have f1 : W3.frozen? ⟨w.heap.size, 1, none⟩ = false := frozen_of_row _ _ _ _ _ r4
  have p2 := blk_cell r3 2
  have q2 := blk_cell r4 2
  have f2 : W3.frozen? ⟨w.heap.size, 2, none⟩ = false := frozen_of_row _ _ _ _ _ r4
  have p3 := blk_cell r3 3
  have q3 := blk_cell r4 3
  have f3 : W3.frozen? ⟨w.heap.size, 3, none⟩ = false := frozen_of_row _ _ _ _ _ r4
  have p4 := blk_cell r3 4
  have q4 := blk_cell r4 4
  have f4 : W3.frozen? ⟨w.heap.size, 4, none⟩ = false := frozen_of_row _ _ _ _ _ r4
  have p5 := blk_cell r3 5
  have q5 := blk_cell r4 5
  have f5 : W3.frozen? ⟨w.heap.size, 5, none⟩ = false := frozen_of_row _ _ _ _ _ r4
  have p6 := blk_cell r3 6
  have q6 := blk_cell r4 6
  have f6 : W3.frozen? ⟨w.heap.size, 6, none⟩ = false := frozen_of_row _ _ _ _ _ r4
  simp only [List.getElem?_toArray, List.getElem?_cons_succ, List.getElem?_cons_zero] at p0 p1 p2 p3 p4 p5 p6 q0 q1 q2 q3 q4 q5 q6
  have HR1 := Lib.hid r1
  have HR3 := Lib.hid r3
  have HR4 := Lib.hid r4
  have HR5 := Lib.hid r5
  have HR6 := Lib.hid r6
  have HR7 := Lib.hid r7
  clear r1 r3 r4 r5 r6 r7 hbx hbox hrb hrb3 hS2 hS3 hS1 hS0 HC2
  go_wp2
  refine bodyPost_ret (v := .agg #[.int .i64 c.page, .int .i64 c.n, .int .i64 c.red, .int .i64 c.quarantine, .slice A1 live.length c1, .slice A2 quar.length c2, .int .i64 gi]) (by simp [results, Try.results70, go_sem, q0, q1, q2, q3, q4, q5, q6]) rfl ?_
  have h1 : W.heap.size ≤ w1.heap.size := hsz2
  refine ⟨?_, A1, c1, A2, c2, w1.heap.size, rfl, own_base (own_blk HR5.out fun g hg => ?_) (by omega), by omega, HR6.out, own_blk HR7.out fun g hg => ?_⟩
  · repeat' first | refine Below.setCell ?_ (by simp) _ | exact HR1.out
  · have := (own_lt HR5.out g hg).1
    have hne : g ≠ w.heap.size := by omega
    repeat' first | refine Eq.trans (Below.heap_setCell _ _ _ _ hne) ?_ | rfl
  · have := (own_lt HR7.out g hg).1
    have hne : g ≠ w.heap.size := by omega
    repeat' first | refine Eq.trans (Below.heap_setCell _ _ _ _ hne) ?_ | rfl
end Go.Proofs.Ytbhbjcgbhklieaa
