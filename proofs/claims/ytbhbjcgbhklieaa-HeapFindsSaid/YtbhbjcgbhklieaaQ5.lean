/- The specification's Stat. -/
import Derived.Test.YtbhbjcgbhklieaaQ4
namespace Go.Proofs.Ytbhbjcgbhklieaa
open Go.RowKit Go.Shelf

theorem foldl_liveQ (red : Int) : ∀ (l : List Piece) (i : Nat) (s : Int), (itemsFrom red false i l).foldl (fun s x => if x.quar then wrap64 (s + x.p.size) else s) s = s
  | [], _, _ => rfl
  | p :: l, i, s => by
    have e1 : (mkE red false i p).quar = false := rfl
    simp only [itemsFrom, List.foldl_cons, e1, Bool.false_eq_true, if_false]
    exact foldl_liveQ red l (i + 1) s
theorem foldl_quarQ (red : Int) : ∀ (l : List Piece) (i : Nat) (s : Int), 0 ≤ s → (∀ p ∈ l, 0 ≤ p.size ∧ p.size ≤ 65536) → s + 65536 * l.length < 9223372036854775807 →
    (itemsFrom red true i l).foldl (fun s x => if x.quar then wrap64 (s + x.p.size) else s) s = s + (l.map (·.size)).sum
  | [], _, _, _, _, _ => by simp [itemsFrom]
  | p :: l, i, s, h0, h, hb => by
    obtain ⟨a, b⟩ := h p (List.mem_cons_self ..)
    simp only [List.length_cons] at hb
    have hw : wrap64 (s + p.size) = s + p.size := by unfold wrap64; omega
    have e1 : (mkE red true i p).quar = true := rfl
    have e2 : (mkE red true i p).p = p := rfl
    simp only [itemsFrom, List.foldl_cons, e1, e2, if_true, hw]
    rw [foldl_quarQ red l (i + 1) (s + p.size) (by omega) (fun q hq => h q (List.mem_cons_of_mem _ hq)) (by omega)]
    simp only [List.map_cons, List.sum_cons]
    omega
theorem qW_items {c : Conf} {gi : Int} {live quar : List Piece} (g : GoodP c gi live quar) : qW (items c.red live quar) = (quar.map (·.size)).sum := by
  have n2 := g.n2
  unfold qW items
  rw [List.foldl_append, foldl_liveQ, foldl_quarQ c.red quar 0 0 (by omega) (fun p hp => ⟨(g.each p (List.mem_append_right _ hp)).2.1, (g.each p (List.mem_append_right _ hp)).2.2.1⟩) (by omega)]
  omega
theorem gapB_bound : ∀ (l : List (Int × Int)), (∀ g ∈ l, 256 ≤ g.1 ∧ g.1 < g.2 ∧ g.2 ≤ 4294967296) → 0 ≤ gapB l ∧ gapB l ≤ 4294967296 * l.length
  | [], _ => by simp [gapB]
  | g :: l, h => by
    have h1 := h g (List.mem_cons_self ..)
    have h2 := gapB_bound l (fun q hq => h q (List.mem_cons_of_mem _ hq))
    simp only [gapB, List.map_cons, List.sum_cons, List.length_cons] at h2 ⊢
    omega
theorem region_joinB {ι : Type} {P : Program} {id : Nat} {ops : Array Oper} {b : Bool} {Q : Exit → Act → World → Prop} {a : Act} {w : World} (F : ι → Array Value → Array Value) (R : ι → World → Prop)
    (h1 : (Code.region id ops b).wp P (fun e a' w' => e = .normal ∧ ∃ x, a' = { tmps := F x a.tmps, defers := a.defers } ∧ R x w') a w) (h2 : ∀ x W, R x W → Q .normal { tmps := F x a.tmps, defers := a.defers } W) : (Code.region id ops b).wp P Q a w :=
  wp_mono h1 (by rintro e a' w' ⟨rfl, x, rfl, h⟩; exact h2 x w' h)

set_option maxRecDepth 100000 in
set_option maxHeartbeats 2000000 in
theorem c41 (c : Conf) (lv qv : Value) (gi : Int) (live quar : List Piece) (L : List Ext) (w : World) (hl : Sl 3 encP w lv live) (hq : Sl 3 encP w qv quar) (wl : ∀ p ∈ live, WfP p) (wq : ∀ p ∈ quar, WfP p) (hO : Op c gi live quar L) :
    Calls Try.prog 41 #[hAgg c lv qv gi] w fun e w' => e = .returned (statV c live quar L) ∧ Below w.heap.size w w' := by
  have hgp := (good_iff wl wq).1 hO.good
  obtain ⟨⟨r0, r1⟩, hwf⟩ := good_wf hgp wl wq
  have hn1 := hgp.n1
  have hn2 := hgp.n2
  have hB : Below w.heap.size w ((w.alloc (.cells #[.int .i64 c.page, .int .i64 c.n, .int .i64 c.red, .int .i64 c.quarantine, lv, qv, .int .i64 gi] 26)).alloc (.cells #[.int .i64 0, .int .i64 0, .int .i64 0, .int .i64 0, .int .i64 0, .int .i64 0, .int .i64 0] 59)) := (below_alloc1 w _).alloc (by simp) _
  have h18 := c18 c lv qv gi live quar _ (hl.below hB) (hq.below hB) wl wq
  have h40 := fun W (hW : Below w.heap.size w W) => c40 c lv qv gi live quar L W (hl.below hW) (hq.below hW) wl wq hO
  have h67a := fun W (hW : Below w.heap.size w W) => c67 lv live W (hl.below hW) hn1 (fun p hp => (hwf p (List.mem_append_left _ hp)).2)
  have h67b := fun W (hW : Below w.heap.size w W) => c67 qv quar W (hq.below hW) hn2 (fun p hp => (hwf p (List.mem_append_right _ hp)).2)
  have hst : statV c live quar L = .agg #[.int .i64 live.length, .int .i64 (live.map (·.size)).sum, .int .i64 quar.length, .int .i64 (quar.map (·.size)).sum, .int .i64 (gapsF c L).length, .int .i64 (gapB (gapsF c L)), .int .i64 (lgF c.red (gapsF c L) (-1))] := by
    unfold statV; rw [bW_items hgp, qW_items hgp]
  rw [hst]
  have hgs : ∀ g ∈ gapsF c L, 256 ≤ g.1 ∧ g.1 < g.2 ∧ g.2 ≤ 4294967296 := fun g hg => by have := hO.gaps.1 g hg; exact ⟨this.1, this.2.1, this.2.2.1⟩
  have hgl := hO.gaps.2
  have hsp : spans c L = (gapsF c L).map fun g => (g.1, g.2 - g.1) := rfl
  obtain ⟨G, hG⟩ : ∃ G, gapsF c L = G := ⟨_, rfl⟩
  rw [hG] at hgs hgl hsp ⊢
  rw [hsp] at h40
  obtain ⟨n, hn⟩ : ∃ n, G.length = n := ⟨_, rfl⟩
  rw [List.length_map, hn] at h40
  rw [hn] at hgl ⊢
  generalize (live.map (·.size)).sum = sl at h67a ⊢
  generalize (quar.map (·.size)).sum = sq at h67b ⊢
  have H18 := Lib.hid h18
  have H40 := Lib.hid h40
  have HA := Lib.hid h67a
  have HBq := Lib.hid h67b
  have HB := Lib.hid hB
  have HG := Lib.hid hgp
  have HGS := Lib.hid hgs
  have HN := Lib.hid hn
  obtain ⟨A, ca, rfl, _, _⟩ := id hl
  obtain ⟨B, cb, rfl, _, _⟩ := hq
  clear h18 h40 h67a h67b hB wl wq hl hgp hO hgs hn hsp hG hst hwf
  have hmx : Try.prog.follows .mixedOrders = true := by kernel_rfl
  go_enter Try.func41, Try.ntmps41
  go_wp2_with fail
  refine Calls.mono H18.out ?_
  clear H18
  rintro e w0 ⟨hB0, ⟨hg, rfl⟩ | ⟨hg, rfl⟩⟩
  · exact absurd HG.out hg
  have hb0 : w0.heap[w.heap.size]? = some (.cells #[.int .i64 c.page, .int .i64 c.n, .int .i64 c.red, .int .i64 c.quarantine, .slice A live.length ca, .slice B quar.length cb, .int .i64 gi] 26 (0, 0)) := (hB0.block _ (by simp; try omega)).trans (hal_old (hal_new rfl))
  have hb1 : w0.heap[w.heap.size + 1]? = some (.cells #[.int .i64 0, .int .i64 0, .int .i64 0, .int .i64 0, .int .i64 0, .int .i64 0, .int .i64 0] 59 (0, 0)) := (hB0.block _ (by simp; try omega)).trans (hal_new (by simp))
  have HBW0 : Hid (Below w.heap.size w w0) := HB.out.trans (hB0.mono (by simp; try omega))
  have HX0 := Lib.hid hb0
  have HX1 := Lib.hid hb1
  have hlt0 : w.heap.size + 1 < w0.heap.size := blk_lt hb1
  clear hb0 hb1 hB0 hg
  go_wp2
  refine region_joinB (ι := Nat) (fun x T => ((((((((((((((T.setIfInBounds 12 (.pointer (some ⟨w.heap.size, 4, none⟩))).setIfInBounds 13 (.slice A live.length ca)).setIfInBounds 14 (.int .i64 live.length)).setIfInBounds 15 (.pointer (some ⟨w.heap.size, 4, none⟩))).setIfInBounds 16 (.slice A live.length ca)).setIfInBounds 17 (.int .i64 sl)).setIfInBounds 18 (.pointer (some ⟨w.heap.size, 5, none⟩))).setIfInBounds 19 (.slice B quar.length cb)).setIfInBounds 20 (.int .i64 quar.length)).setIfInBounds 21 (.pointer (some ⟨w.heap.size, 5, none⟩))).setIfInBounds 22 (.slice B quar.length cb)).setIfInBounds 23 (.int .i64 sq)).setIfInBounds 24 (.agg #[.int .i64 live.length, .int .i64 sl, .int .i64 quar.length, .int .i64 sq, .int .i64 0, .int .i64 0, .int .i64 (-1)])).setIfInBounds 3 (.pointer (some ⟨x, 0, none⟩)))) (fun x W => Below w0.heap.size w0 W ∧ w0.heap.size ≤ x ∧ W.heap[x]? = some (.cells #[.int .i64 live.length, .int .i64 sl, .int .i64 quar.length, .int .i64 sq, .int .i64 0, .int .i64 0, .int .i64 (-1)] 59 (0, 0))) ?_ ?_
  · refine wp_region_held_drew (S := fun w' => Below w0.heap.size w0 w') hmx (Below.refl _ _).drew ?_
    intro hS0
    refine wpAnyH_take (i := 0) (v := .pointer (some ⟨w.heap.size, 4, none⟩)) rfl (by kernel_rfl) (by kernel_rfl) (by kernel_rfl) (fun _ _ _ h => nomatch h.1) (Or.inl ⟨by rfl, ?hy⟩) hS0 ?_
    case hy => intro w9 hSw; have k0 := (hSw.block _ (by omega : w.heap.size < w0.heap.size)).trans HX0.out; have s4 := blk_cell k0 4; have s5 := blk_cell k0 5; simp only [List.getElem?_toArray, List.getElem?_cons_succ, List.getElem?_cons_zero] at s4 s5; go_simp
    go_simp
    refine wpAnyH_take (i := 1) (v := .slice A live.length ca) rfl (by kernel_rfl) (by kernel_rfl) (by kernel_rfl) (fun _ _ _ h => nomatch h.1) (Or.inl ⟨by rfl, ?hy⟩) hS0 ?_
    case hy => intro w9 hSw; have k0 := (hSw.block _ (by omega : w.heap.size < w0.heap.size)).trans HX0.out; have s4 := blk_cell k0 4; have s5 := blk_cell k0 5; simp only [List.getElem?_toArray, List.getElem?_cons_succ, List.getElem?_cons_zero] at s4 s5; go_simp
    go_simp
    refine wpAnyH_take (i := 2) (v := .int .i64 live.length) rfl (by kernel_rfl) (by kernel_rfl) (by kernel_rfl) (fun _ _ _ h => nomatch h.1) (Or.inl ⟨by rfl, ?hy⟩) hS0 ?_
    case hy => intro w9 hSw; have k0 := (hSw.block _ (by omega : w.heap.size < w0.heap.size)).trans HX0.out; have s4 := blk_cell k0 4; have s5 := blk_cell k0 5; simp only [List.getElem?_toArray, List.getElem?_cons_succ, List.getElem?_cons_zero] at s4 s5; go_simp
    go_simp
    refine wpAnyH_take (i := 3) (v := .pointer (some ⟨w.heap.size, 4, none⟩)) rfl (by kernel_rfl) (by kernel_rfl) (by kernel_rfl) (fun _ _ _ h => nomatch h.1) (Or.inl ⟨by rfl, ?hy⟩) hS0 ?_
    case hy => intro w9 hSw; have k0 := (hSw.block _ (by omega : w.heap.size < w0.heap.size)).trans HX0.out; have s4 := blk_cell k0 4; have s5 := blk_cell k0 5; simp only [List.getElem?_toArray, List.getElem?_cons_succ, List.getElem?_cons_zero] at s4 s5; go_simp
    go_simp
    refine wpAnyH_take (i := 4) (v := .slice A live.length ca) rfl (by kernel_rfl) (by kernel_rfl) (by kernel_rfl) (fun _ _ _ h => nomatch h.1) (Or.inl ⟨by rfl, ?hy⟩) hS0 ?_
    case hy => intro w9 hSw; have k0 := (hSw.block _ (by omega : w.heap.size < w0.heap.size)).trans HX0.out; have s4 := blk_cell k0 4; have s5 := blk_cell k0 5; simp only [List.getElem?_toArray, List.getElem?_cons_succ, List.getElem?_cons_zero] at s4 s5; go_simp
    go_simp
    refine wpAnyH_take (i := 6) (v := .pointer (some ⟨w.heap.size, 5, none⟩)) rfl (by kernel_rfl) (by kernel_rfl) (by kernel_rfl) (fun _ _ _ h => nomatch h.1) (Or.inl ⟨by rfl, ?hy⟩) hS0 ?_
    case hy => intro w9 hSw; have k0 := (hSw.block _ (by omega : w.heap.size < w0.heap.size)).trans HX0.out; have s4 := blk_cell k0 4; have s5 := blk_cell k0 5; simp only [List.getElem?_toArray, List.getElem?_cons_succ, List.getElem?_cons_zero] at s4 s5; go_simp
    go_simp
    refine wpAnyH_take (i := 7) (v := .slice B quar.length cb) rfl (by kernel_rfl) (by kernel_rfl) (by kernel_rfl) (fun _ _ _ h => nomatch h.1) (Or.inl ⟨by rfl, ?hy⟩) hS0 ?_
    case hy => intro w9 hSw; have k0 := (hSw.block _ (by omega : w.heap.size < w0.heap.size)).trans HX0.out; have s4 := blk_cell k0 4; have s5 := blk_cell k0 5; simp only [List.getElem?_toArray, List.getElem?_cons_succ, List.getElem?_cons_zero] at s4 s5; go_simp
    go_simp
    refine wpAnyH_take (i := 8) (v := .int .i64 quar.length) rfl (by kernel_rfl) (by kernel_rfl) (by kernel_rfl) (fun _ _ _ h => nomatch h.1) (Or.inl ⟨by rfl, ?hy⟩) hS0 ?_
    case hy => intro w9 hSw; have k0 := (hSw.block _ (by omega : w.heap.size < w0.heap.size)).trans HX0.out; have s4 := blk_cell k0 4; have s5 := blk_cell k0 5; simp only [List.getElem?_toArray, List.getElem?_cons_succ, List.getElem?_cons_zero] at s4 s5; go_simp
    go_simp
    refine wpAnyH_take (i := 9) (v := .pointer (some ⟨w.heap.size, 5, none⟩)) rfl (by kernel_rfl) (by kernel_rfl) (by kernel_rfl) (fun _ _ _ h => nomatch h.1) (Or.inl ⟨by rfl, ?hy⟩) hS0 ?_
    case hy => intro w9 hSw; have k0 := (hSw.block _ (by omega : w.heap.size < w0.heap.size)).trans HX0.out; have s4 := blk_cell k0 4; have s5 := blk_cell k0 5; simp only [List.getElem?_toArray, List.getElem?_cons_succ, List.getElem?_cons_zero] at s4 s5; go_simp
    go_simp
    refine wpAnyH_take (i := 10) (v := .slice B quar.length cb) rfl (by kernel_rfl) (by kernel_rfl) (by kernel_rfl) (fun _ _ _ h => nomatch h.1) (Or.inl ⟨by rfl, ?hy⟩) hS0 ?_
    case hy => intro w9 hSw; have k0 := (hSw.block _ (by omega : w.heap.size < w0.heap.size)).trans HX0.out; have s4 := blk_cell k0 4; have s5 := blk_cell k0 5; simp only [List.getElem?_toArray, List.getElem?_cons_succ, List.getElem?_cons_zero] at s4 s5; go_simp
    go_simp
    refine wpAnyH_ready (rs := [5, 13]) (by kernel_rfl) (by simp) ?_
    refine AllReadyH.cons rfl (fun K hK => ?_) (AllReadyH.cons rfl (fun K hK => ?_) (AllReadyH.nil))
    · go_simp
      refine Calls.mono (HA.out _ (HBW0.out.trans (hS0.mono HBW0.out.size))) ?_
      rintro e v50 ⟨rfl, hbv50⟩
      have Sv50 : Below w0.heap.size w0 v50 := hS0.trans (hbv50.mono hS0.size)
      refine hK.out _ _ Sv50 (fun _ => ?_)
      clear hK K
      refine wpAnyH_ready (rs := [11, 13]) (by kernel_rfl) (by simp) ?_
      refine AllReadyH.cons rfl (fun K hK => ?_) (AllReadyH.cons rfl (fun K hK => ?_) (AllReadyH.nil))
      · go_simp
        refine Calls.mono (HBq.out _ (HBW0.out.trans (Sv50.mono HBW0.out.size))) ?_
        rintro e v111 ⟨rfl, hbv111⟩
        have Sv111 : Below w0.heap.size w0 v111 := Sv50.trans (hbv111.mono Sv50.size)
        refine hK.out _ _ Sv111 (fun _ => ?_)
        clear hK K
        refine wpAnyH_take (i := 12) (v := .agg #[.int .i64 live.length, .int .i64 sl, .int .i64 quar.length, .int .i64 sq, .int .i64 0, .int .i64 0, .int .i64 (-1)]) rfl (by kernel_rfl) (by kernel_rfl) (by kernel_rfl) (fun _ _ _ h => nomatch h.1) (Or.inl ⟨by rfl, ?hy⟩) Sv111 ?_
        case hy => intro w9 hSw; have k0 := (hSw.block _ (by omega : w.heap.size < w0.heap.size)).trans HX0.out; have s4 := blk_cell k0 4; have s5 := blk_cell k0 5; simp only [List.getElem?_toArray, List.getElem?_cons_succ, List.getElem?_cons_zero] at s4 s5; go_simp
        go_simp
        refine wpAnyH_ready (rs := [13]) (by kernel_rfl) (by simp) ?_
        refine AllReadyH.cons rfl (fun K hK => ?_) (AllReadyH.nil)
        go_simp
        have SA3 := Sv111.alloc Sv111.size (.cells #[.int .i64 0, .int .i64 0, .int .i64 0, .int .i64 0, .int .i64 0, .int .i64 0, .int .i64 0] 59)
        have KA3 : (v111.alloc (.cells #[.int .i64 0, .int .i64 0, .int .i64 0, .int .i64 0, .int .i64 0, .int .i64 0, .int .i64 0] 59)).heap[v111.heap.size]? = some (.cells #[.int .i64 0, .int .i64 0, .int .i64 0, .int .i64 0, .int .i64 0, .int .i64 0, .int .i64 0] 59 (0, 0)) := hal_new rfl
        have hnb : w0.heap.size ≤ v111.heap.size := Sv111.size
        refine hK.out _ _ SA3 (fun _ => ?_)
        clear hK K
        refine wpAnyH_ready (rs := [14]) (by kernel_rfl) (by simp) ?_
        refine AllReadyH.cons rfl (fun K hK => ?_) AllReadyH.nil
        go_simp
        have hfin := (Sv111).alloc (Sv111).size (.cells #[.int .i64 live.length, .int .i64 sl, .int .i64 quar.length, .int .i64 sq, .int .i64 0, .int .i64 0, .int .i64 (-1)] 59)
        have e7 : (v111.alloc (.cells #[.int .i64 live.length, .int .i64 sl, .int .i64 quar.length, .int .i64 sq, .int .i64 0, .int .i64 0, .int .i64 (-1)] 59)).heap[v111.heap.size]? = some (.cells #[.int .i64 live.length, .int .i64 sl, .int .i64 quar.length, .int .i64 sq, .int .i64 0, .int .i64 0, .int .i64 (-1)] 59 (0, 0)) := hal_new rfl
        refine hK.out _ _ hfin (fun _ => ?_)
        clear hK K
        refine wpAnyH_done (by kernel_rfl) ?_ _
        go_simp
        all_goals exact (Array.getElem?_eq_some_iff.1 e7).2
      · go_simp
        have SA1 := Sv50.alloc Sv50.size (.cells #[.int .i64 0, .int .i64 0, .int .i64 0, .int .i64 0, .int .i64 0, .int .i64 0, .int .i64 0] 59)
        have KA1 : (v50.alloc (.cells #[.int .i64 0, .int .i64 0, .int .i64 0, .int .i64 0, .int .i64 0, .int .i64 0, .int .i64 0] 59)).heap[v50.heap.size]? = some (.cells #[.int .i64 0, .int .i64 0, .int .i64 0, .int .i64 0, .int .i64 0, .int .i64 0, .int .i64 0] 59 (0, 0)) := hal_new rfl
        have hnb : w0.heap.size ≤ v50.heap.size := Sv50.size
        refine hK.out _ _ SA1 (fun _ => ?_)
        clear hK K
        refine wpAnyH_ready (rs := [11]) (by kernel_rfl) (by simp) ?_
        refine AllReadyH.cons rfl (fun K hK => ?_) (AllReadyH.nil)
        go_simp
        refine Calls.mono (HBq.out _ (HBW0.out.trans (SA1.mono HBW0.out.size))) ?_
        rintro e v112 ⟨rfl, hbv112⟩
        have Sv112 : Below w0.heap.size w0 v112 := SA1.trans (hbv112.mono SA1.size)
        have Kv112 := (hbv112.block _ (blk_lt KA1)).trans KA1
        refine hK.out _ _ Sv112 (fun _ => ?_)
        clear hK K
        refine wpAnyH_take (i := 12) (v := .agg #[.int .i64 live.length, .int .i64 sl, .int .i64 quar.length, .int .i64 sq, .int .i64 0, .int .i64 0, .int .i64 (-1)]) rfl (by kernel_rfl) (by kernel_rfl) (by kernel_rfl) (fun _ _ _ h => nomatch h.1) (Or.inl ⟨by rfl, ?hy⟩) Sv112 ?_
        case hy => intro w9 hSw; have k0 := (hSw.block _ (by omega : w.heap.size < w0.heap.size)).trans HX0.out; have s4 := blk_cell k0 4; have s5 := blk_cell k0 5; simp only [List.getElem?_toArray, List.getElem?_cons_succ, List.getElem?_cons_zero] at s4 s5; go_simp
        go_simp
        refine wpAnyH_ready (rs := [14]) (by kernel_rfl) (by simp) ?_
        refine AllReadyH.cons rfl (fun K hK => ?_) AllReadyH.nil
        have b0 := blk_cell Kv112 0
        have fb0 : World.frozen? _ ⟨v50.heap.size, 0, none⟩ = false := frozen_of_row _ _ _ _ _ Kv112
        have b1 := blk_cell Kv112 1
        have fb1 : World.frozen? _ ⟨v50.heap.size, 1, none⟩ = false := frozen_of_row _ _ _ _ _ Kv112
        have b2 := blk_cell Kv112 2
        have fb2 : World.frozen? _ ⟨v50.heap.size, 2, none⟩ = false := frozen_of_row _ _ _ _ _ Kv112
        have b3 := blk_cell Kv112 3
        have fb3 : World.frozen? _ ⟨v50.heap.size, 3, none⟩ = false := frozen_of_row _ _ _ _ _ Kv112
        have b4 := blk_cell Kv112 4
        have fb4 : World.frozen? _ ⟨v50.heap.size, 4, none⟩ = false := frozen_of_row _ _ _ _ _ Kv112
        have b5 := blk_cell Kv112 5
        have fb5 : World.frozen? _ ⟨v50.heap.size, 5, none⟩ = false := frozen_of_row _ _ _ _ _ Kv112
        have b6 := blk_cell Kv112 6
        have fb6 : World.frozen? _ ⟨v50.heap.size, 6, none⟩ = false := frozen_of_row _ _ _ _ _ Kv112
        simp only [List.getElem?_toArray, List.getElem?_cons_succ, List.getElem?_cons_zero] at b0 b1 b2 b3 b4 b5 b6
        go_simp
        have e1 := row_setCell (o := 0) (.int .i64 live.length) Kv112
        have e2 := row_setCell (o := 1) (.int .i64 sl) e1
        have e3 := row_setCell (o := 2) (.int .i64 quar.length) e2
        have e4 := row_setCell (o := 3) (.int .i64 sq) e3
        have e5 := row_setCell (o := 4) (.int .i64 0) e4
        have e6 := row_setCell (o := 5) (.int .i64 0) e5
        have e7 := row_setCell (o := 6) (.int .i64 (-1)) e6
        simp only [List.setIfInBounds_toArray, List.set_cons_zero, List.set_cons_succ] at e7
        have hfin := (((((((Sv112.setCell (p := ⟨v50.heap.size, 0, none⟩) hnb (.int .i64 live.length)).setCell (p := ⟨v50.heap.size, 1, none⟩) hnb (.int .i64 sl)).setCell (p := ⟨v50.heap.size, 2, none⟩) hnb (.int .i64 quar.length)).setCell (p := ⟨v50.heap.size, 3, none⟩) hnb (.int .i64 sq)).setCell (p := ⟨v50.heap.size, 4, none⟩) hnb (.int .i64 0)).setCell (p := ⟨v50.heap.size, 5, none⟩) hnb (.int .i64 0)).setCell (p := ⟨v50.heap.size, 6, none⟩) hnb (.int .i64 (-1)))
        refine hK.out _ _ hfin (fun _ => ?_)
        clear hK K
        refine wpAnyH_done (by kernel_rfl) ?_ _
        go_simp
        all_goals exact e7
    · go_simp
      have SA0 := hS0.alloc hS0.size (.cells #[.int .i64 0, .int .i64 0, .int .i64 0, .int .i64 0, .int .i64 0, .int .i64 0, .int .i64 0] 59)
      have KA0 : (w0.drew.alloc (.cells #[.int .i64 0, .int .i64 0, .int .i64 0, .int .i64 0, .int .i64 0, .int .i64 0, .int .i64 0] 59)).heap[w0.heap.size]? = some (.cells #[.int .i64 0, .int .i64 0, .int .i64 0, .int .i64 0, .int .i64 0, .int .i64 0, .int .i64 0] 59 (0, 0)) := hal_new rfl
      have hnb : w0.heap.size ≤ w0.heap.size := hS0.size
      refine hK.out _ _ SA0 (fun _ => ?_)
      clear hK K
      refine wpAnyH_ready (rs := [5]) (by kernel_rfl) (by simp) ?_
      refine AllReadyH.cons rfl (fun K hK => ?_) (AllReadyH.nil)
      go_simp
      refine Calls.mono (HA.out _ (HBW0.out.trans (SA0.mono HBW0.out.size))) ?_
      rintro e v51 ⟨rfl, hbv51⟩
      have Sv51 : Below w0.heap.size w0 v51 := SA0.trans (hbv51.mono SA0.size)
      have Kv51 := (hbv51.block _ (blk_lt KA0)).trans KA0
      refine hK.out _ _ Sv51 (fun _ => ?_)
      clear hK K
      refine wpAnyH_ready (rs := [11]) (by kernel_rfl) (by simp) ?_
      refine AllReadyH.cons rfl (fun K hK => ?_) (AllReadyH.nil)
      go_simp
      refine Calls.mono (HBq.out _ (HBW0.out.trans (Sv51.mono HBW0.out.size))) ?_
      rintro e v112 ⟨rfl, hbv112⟩
      have Sv112 : Below w0.heap.size w0 v112 := Sv51.trans (hbv112.mono Sv51.size)
      have Kv112 := (hbv112.block _ (blk_lt Kv51)).trans Kv51
      refine hK.out _ _ Sv112 (fun _ => ?_)
      clear hK K
      refine wpAnyH_take (i := 12) (v := .agg #[.int .i64 live.length, .int .i64 sl, .int .i64 quar.length, .int .i64 sq, .int .i64 0, .int .i64 0, .int .i64 (-1)]) rfl (by kernel_rfl) (by kernel_rfl) (by kernel_rfl) (fun _ _ _ h => nomatch h.1) (Or.inl ⟨by rfl, ?hy⟩) Sv112 ?_
      case hy => intro w9 hSw; have k0 := (hSw.block _ (by omega : w.heap.size < w0.heap.size)).trans HX0.out; have s4 := blk_cell k0 4; have s5 := blk_cell k0 5; simp only [List.getElem?_toArray, List.getElem?_cons_succ, List.getElem?_cons_zero] at s4 s5; go_simp
      go_simp
      refine wpAnyH_ready (rs := [14]) (by kernel_rfl) (by simp) ?_
      refine AllReadyH.cons rfl (fun K hK => ?_) AllReadyH.nil
      have b0 := blk_cell Kv112 0
      have fb0 : World.frozen? _ ⟨w0.heap.size, 0, none⟩ = false := frozen_of_row _ _ _ _ _ Kv112
      have b1 := blk_cell Kv112 1
      have fb1 : World.frozen? _ ⟨w0.heap.size, 1, none⟩ = false := frozen_of_row _ _ _ _ _ Kv112
      have b2 := blk_cell Kv112 2
      have fb2 : World.frozen? _ ⟨w0.heap.size, 2, none⟩ = false := frozen_of_row _ _ _ _ _ Kv112
      have b3 := blk_cell Kv112 3
      have fb3 : World.frozen? _ ⟨w0.heap.size, 3, none⟩ = false := frozen_of_row _ _ _ _ _ Kv112
      have b4 := blk_cell Kv112 4
      have fb4 : World.frozen? _ ⟨w0.heap.size, 4, none⟩ = false := frozen_of_row _ _ _ _ _ Kv112
      have b5 := blk_cell Kv112 5
      have fb5 : World.frozen? _ ⟨w0.heap.size, 5, none⟩ = false := frozen_of_row _ _ _ _ _ Kv112
      have b6 := blk_cell Kv112 6
      have fb6 : World.frozen? _ ⟨w0.heap.size, 6, none⟩ = false := frozen_of_row _ _ _ _ _ Kv112
      simp only [List.getElem?_toArray, List.getElem?_cons_succ, List.getElem?_cons_zero] at b0 b1 b2 b3 b4 b5 b6
      go_simp
      have e1 := row_setCell (o := 0) (.int .i64 live.length) Kv112
      have e2 := row_setCell (o := 1) (.int .i64 sl) e1
      have e3 := row_setCell (o := 2) (.int .i64 quar.length) e2
      have e4 := row_setCell (o := 3) (.int .i64 sq) e3
      have e5 := row_setCell (o := 4) (.int .i64 0) e4
      have e6 := row_setCell (o := 5) (.int .i64 0) e5
      have e7 := row_setCell (o := 6) (.int .i64 (-1)) e6
      simp only [List.setIfInBounds_toArray, List.set_cons_zero, List.set_cons_succ] at e7
      have hfin := (((((((Sv112.setCell (p := ⟨w0.heap.size, 0, none⟩) hnb (.int .i64 live.length)).setCell (p := ⟨w0.heap.size, 1, none⟩) hnb (.int .i64 sl)).setCell (p := ⟨w0.heap.size, 2, none⟩) hnb (.int .i64 quar.length)).setCell (p := ⟨w0.heap.size, 3, none⟩) hnb (.int .i64 sq)).setCell (p := ⟨w0.heap.size, 4, none⟩) hnb (.int .i64 0)).setCell (p := ⟨w0.heap.size, 5, none⟩) hnb (.int .i64 0)).setCell (p := ⟨w0.heap.size, 6, none⟩) hnb (.int .i64 (-1)))
      refine hK.out _ _ hfin (fun _ => ?_)
      clear hK K
      refine wpAnyH_done (by kernel_rfl) ?_ _
      go_simp
      all_goals exact e7
  rintro nb w1 ⟨hB1, hnb, hst1⟩
  simp only [List.setIfInBounds_toArray, List.set_cons_zero, List.set_cons_succ]
  have HBW1 : Hid (Below w.heap.size w w1) := HBW0.out.trans (hB1.mono HBW0.out.size)
  have HY0 := Lib.hid ((hB1.block _ (by omega : w.heap.size < w0.heap.size)).trans HX0.out)
  have HY1 := Lib.hid ((hB1.block _ hlt0).trans HX1.out)
  have hlt1 : nb < w1.heap.size := blk_lt hst1
  have hs01 := hB1.size
  have hy0 := HY0.out
  have q0 := blk_cell hy0 0
  have q1 := blk_cell hy0 1
  have q2 := blk_cell hy0 2
  have q3 := blk_cell hy0 3
  have q4 := blk_cell hy0 4
  have q5 := blk_cell hy0 5
  have q6 := blk_cell hy0 6
  simp only [List.getElem?_toArray, List.getElem?_cons_succ, List.getElem?_cons_zero] at q0 q1 q2 q3 q4 q5 q6
  have HST1 := Lib.hid hst1
  clear hB1 hst1 hy0 HX0 HX1
  go_wp2_with fail
  refine Calls.mono (H40.out w1 HBW1.out) ?_
  clear H40
  rintro e w2 ⟨v, rfl, hB2, ho2⟩
  have hst2 := (hB2.block _ hlt1).trans HST1.out
  have HZ0 := Lib.hid ((hB2.block _ (by omega : w.heap.size < w1.heap.size)).trans HY0.out)
  have HZ1 := Lib.hid ((hB2.block _ (by omega : w.heap.size + 1 < w1.heap.size)).trans HY1.out)
  have HBW2 : Hid (Below w.heap.size w w2) := HBW1.out.trans (hB2.mono HBW1.out.size)
  have HSLG := Lib.hid (sl_of_own ho2 (by rw [List.length_map, HN.out]))
  have hnew : ∀ A m c, v = .slice (some A) m c → A.block ≠ nb ∧ A.block < w2.heap.size := fun A m c e => by
    rcases ho2.2 with ⟨h, _⟩ | ⟨g, cap, cur, h, hb, hg, _⟩
    · rw [e] at h; cases h
    · rw [e] at h; cases h; exact ⟨by show g ≠ nb; omega, blk_lt hg⟩
  obtain ⟨AG, nG, kG, eG⟩ : ∃ A n k, v = .slice A n k := by obtain ⟨A, c', h, _⟩ := HSLG.out; exact ⟨A, _, c', h⟩
  subst eG
  obtain ⟨AG', cG', eG, _, hlG⟩ := HSLG.out
  rw [List.length_map, HN.out] at eG
  cases eG
  have HLG := Lib.hid hlG
  have HNEW := Lib.hid hnew
  have hs12 := hB2.size
  have hlt2 : nb < w2.heap.size := by omega
  clear q0 q1 q2 q3 q4 q5 q6
  have z0 := blk_cell hst2 0
  have fz0 : w2.frozen? ⟨nb, 0, none⟩ = false := frozen_of_row _ _ _ _ _ hst2
  have z1 := blk_cell hst2 1
  have fz1 : w2.frozen? ⟨nb, 1, none⟩ = false := frozen_of_row _ _ _ _ _ hst2
  have z2 := blk_cell hst2 2
  have fz2 : w2.frozen? ⟨nb, 2, none⟩ = false := frozen_of_row _ _ _ _ _ hst2
  have z3 := blk_cell hst2 3
  have fz3 : w2.frozen? ⟨nb, 3, none⟩ = false := frozen_of_row _ _ _ _ _ hst2
  have z4 := blk_cell hst2 4
  have fz4 : w2.frozen? ⟨nb, 4, none⟩ = false := frozen_of_row _ _ _ _ _ hst2
  have z5 := blk_cell hst2 5
  have fz5 : w2.frozen? ⟨nb, 5, none⟩ = false := frozen_of_row _ _ _ _ _ hst2
  have z6 := blk_cell hst2 6
  have fz6 : w2.frozen? ⟨nb, 6, none⟩ = false := frozen_of_row _ _ _ _ _ hst2
  simp only [List.getElem?_toArray, List.getElem?_cons_succ, List.getElem?_cons_zero] at z0 z1 z2 z3 z4 z5 z6
  have HST2 := Lib.hid hst2
  clear hB2 ho2 hst2 hnew hlG
  go_wp2
  refine gen_worldP (fun W => Below w.heap.size w W ∧ w2.heap.size ≤ W.heap.size ∧ (∀ k, k < w2.heap.size → k ≠ nb → W.heap[k]? = w2.heap[k]?) ∧ W.heap[nb]? = some (.cells #[.int .i64 live.length, .int .i64 sl, .int .i64 quar.length, .int .i64 sq, .int .i64 ((n : Int)), .int .i64 (0), .int .i64 (-1)] 59 (0, 0))) ⟨HBW2.out.setCell (p := ⟨nb, 4, none⟩) (by show w.heap.size ≤ nb; omega) _, by simp [World.setCell], fun k hk hne => Below.heap_setCell _ _ _ _ hne, ?_⟩ ?_
  · have e5 := row_setCell (o := 4) (.int .i64 n) HST2.out
    simpa only [List.setIfInBounds_toArray, List.set_cons_zero, List.set_cons_succ] using e5
  rintro W3 ⟨hW3, hsz3, hk3, hst3⟩
  have HW3 := Lib.hid hW3
  have HK3 := Lib.hid hk3
  have HST3 := Lib.hid hst3
  clear z0 z1 z2 z3 z4 z5 z6 fz0 fz1 fz2 fz3 fz4 fz5 fz6 hW3 hk3 hst3
  go_loopg [5] n (fun kx s5 wr => ∃ k : Nat, k ≤ n ∧ s5 = .int .i64 k ∧ n - k ≤ kx ∧ Hid (Below w.heap.size w wr) ∧ w2.heap.size ≤ wr.heap.size ∧ Hid (∀ k, k < w2.heap.size → k ≠ nb → wr.heap[k]? = w2.heap[k]?) ∧ Hid (wr.heap[nb]? = some (.cells #[.int .i64 live.length, .int .i64 sl, .int .i64 quar.length, .int .i64 sq, .int .i64 ((n : Int)), .int .i64 (gapB (G.take k)), .int .i64 (lgF c.red (G.take k) (-1))] 59 (0, 0))))
  case atStart => exact ⟨0, Nat.zero_le _, rfl, by omega, HW3.out, hsz3, HK3.out, HST3.out⟩
  case round =>
    obtain ⟨k, hk, rfl, hkx, HBr, hszr, HKr, HSTr⟩ := hrel
    have hstr := HSTr.out
    have hbx := (HKr.out w.heap.size (by omega) (by omega)).trans HZ0.out
    have hltr : nb < wr.heap.size := by omega
    have hltw : w.heap.size < wr.heap.size := by omega
    by_cases hlt : k < n
    · have hkl : k < G.length := by rw [HN.out]; exact hlt
      obtain ⟨bb, off, rfl, hL⟩ := HLG.out.resolve_left (by intro h; rw [List.map_eq_nil_iff] at h; rw [h] at hkl; simp at hkl)
      obtain ⟨hbn, hbl⟩ := HNEW.out _ _ _ rfl
      have hbn : bb ≠ nb := hbn
      have hbl : bb < w2.heap.size := hbl
      have hcell : ∀ j u, (encN (G[k]!.1, G[k]!.2 - G[k]!.1))[j]? = some u → wr.cell? ⟨bb, off + k * 2 + j, none⟩ = some u := fun j u hu => by
        have h := hL.2 k (by rw [List.length_map]; exact hkl) j u (by
          rw [getElem!_pos _ k (by rw [List.length_map]; exact hkl), List.getElem_map, ← getElem!_pos G k hkl]; exact hu)
        rw [← h]
        simp only [World.cell?]
        rw [HKr.out bb hbl hbn]
      have m0 := hcell 0 _ rfl
      have m1 := hcell 1 _ rfl
      simp only [Nat.add_zero] at m0
      obtain ⟨g0, g1, g2⟩ := HGS.out G[k]! (by rw [getElem!_pos G k hkl]; exact List.getElem_mem hkl)
      have ht : G.take (k + 1) = G.take k ++ [G[k]!] := by rw [List.take_succ_eq_append_getElem hkl, getElem!_pos G k hkl]
      have hgb := gapB_bound (G.take k) (fun g hg => HGS.out g (List.mem_of_mem_take hg))
      have hgbl : (G.take k).length ≤ 2001 := by rw [List.length_take]; omega
      have hb1 : gapB (G.take (k + 1)) = gapB (G.take k) + (G[k]!.2 - G[k]!.1) := by rw [ht, gapB_snoc]
      have hl1 : lgF c.red (G.take (k + 1)) (-1) = if 1 ≤ gapN c.red G[k]! then max (lgF c.red (G.take k) (-1)) (min (gapN c.red G[k]!) 65536) else lgF c.red (G.take k) (-1) := by rw [ht, lgF_snoc]
      generalize G[k]! = g at m0 m1 g0 g1 g2 hb1 hl1
      obtain ⟨ga, gz⟩ := g
      simp only at m0 m1 g0 g1 g2 hb1
      generalize gapB (G.take k) = gb at hgb hb1 hstr
      generalize lgF c.red (G.take k) (-1) = lg at hl1 hstr
      have hw1 : IntKind.i64.wrap (gb + (gz - ga)) = gb + (gz - ga) := by rw [IntKind.wrap_i64]; omega
      have HB1 := Lib.hid hb1
      have HL1 := Lib.hid hl1
      have HSTR := Lib.hid hstr
      have HHBX := Lib.hid hbx
      have hbbr : bb < wr.heap.size := by omega
      have M0 := Lib.hid m0
      have M1 := Lib.hid m1
      have z0 := blk_cell hstr 0
      have fz0 : wr.frozen? ⟨nb, 0, none⟩ = false := frozen_of_row _ _ _ _ _ hstr
      have z1 := blk_cell hstr 1
      have fz1 : wr.frozen? ⟨nb, 1, none⟩ = false := frozen_of_row _ _ _ _ _ hstr
      have z2 := blk_cell hstr 2
      have fz2 : wr.frozen? ⟨nb, 2, none⟩ = false := frozen_of_row _ _ _ _ _ hstr
      have z3 := blk_cell hstr 3
      have fz3 : wr.frozen? ⟨nb, 3, none⟩ = false := frozen_of_row _ _ _ _ _ hstr
      have z4 := blk_cell hstr 4
      have fz4 : wr.frozen? ⟨nb, 4, none⟩ = false := frozen_of_row _ _ _ _ _ hstr
      have z5 := blk_cell hstr 5
      have fz5 : wr.frozen? ⟨nb, 5, none⟩ = false := frozen_of_row _ _ _ _ _ hstr
      have z6 := blk_cell hstr 6
      have fz6 : wr.frozen? ⟨nb, 6, none⟩ = false := frozen_of_row _ _ _ _ _ hstr
      simp only [List.getElem?_toArray, List.getElem?_cons_succ, List.getElem?_cons_zero] at z0 z1 z2 z3 z4 z5 z6
      have q0 := blk_cell hbx 0
      have q1 := blk_cell hbx 1
      have q2 := blk_cell hbx 2
      have q3 := blk_cell hbx 3
      have q4 := blk_cell hbx 4
      have q5 := blk_cell hbx 5
      have q6 := blk_cell hbx 6
      simp only [List.getElem?_toArray, List.getElem?_cons_succ, List.getElem?_cons_zero] at q0 q1 q2 q3 q4 q5 q6
      clear hb1 hl1 hgb hgbl ht hcell hL hkl hbx hstr
      go_wp2
      go_region
      refine gen_worldQ (fun W => Below w.heap.size w W ∧ w2.heap.size ≤ W.heap.size ∧ (∀ k, k < w2.heap.size → k ≠ nb → W.heap[k]? = w2.heap[k]?) ∧ W.heap[nb]? = some (.cells #[.int .i64 live.length, .int .i64 sl, .int .i64 quar.length, .int .i64 sq, .int .i64 ((n : Int)), .int .i64 (gb + (gz - ga)), .int .i64 (lg)] 59 (0, 0))) ⟨?_, ?_, ?_, ?_⟩ ?_
      · exact (HBr.out.setCell (p := ⟨nb, 5, none⟩) (by show w.heap.size ≤ nb; omega) _).drew
      · simp [World.setCell]; omega
      · intro j hj hne
        exact (Below.heap_setCell _ _ _ _ hne).trans (HKr.out j hj hne)
      · have e6 := row_setCell (o := 5) (.int .i64 (gb + (gz - ga))) HSTR.out
        simp only [List.setIfInBounds_toArray, List.set_cons_zero, List.set_cons_succ] at e6; exact e6
      rintro X ⟨x1, x2, x3, x4⟩
      have m0 : X.cell? ⟨bb, off + k * 2, none⟩ = some (.int .u32 ga) := by
        have h := M0.out
        simp only [World.cell?] at h ⊢
        rw [x3 bb hbl hbn, ← HKr.out bb hbl hbn]; exact h
      have m1 : X.cell? ⟨bb, off + k * 2 + 1, none⟩ = some (.int .i64 (gz - ga)) := by
        have h := M1.out
        simp only [World.cell?] at h ⊢
        rw [x3 bb hbl hbn, ← HKr.out bb hbl hbn]; exact h
      have hbX := (x3 w.heap.size (by omega) (by omega)).trans HZ0.out
      clear z0 z1 z2 z3 z4 z5 z6 fz0 fz1 fz2 fz3 fz4 fz5 fz6 q0 q1 q2 q3 q4 q5 q6
      have z0 := blk_cell x4 0
      have fz0 : X.frozen? ⟨nb, 0, none⟩ = false := frozen_of_row _ _ _ _ _ x4
      have z1 := blk_cell x4 1
      have fz1 : X.frozen? ⟨nb, 1, none⟩ = false := frozen_of_row _ _ _ _ _ x4
      have z2 := blk_cell x4 2
      have fz2 : X.frozen? ⟨nb, 2, none⟩ = false := frozen_of_row _ _ _ _ _ x4
      have z3 := blk_cell x4 3
      have fz3 : X.frozen? ⟨nb, 3, none⟩ = false := frozen_of_row _ _ _ _ _ x4
      have z4 := blk_cell x4 4
      have fz4 : X.frozen? ⟨nb, 4, none⟩ = false := frozen_of_row _ _ _ _ _ x4
      have z5 := blk_cell x4 5
      have fz5 : X.frozen? ⟨nb, 5, none⟩ = false := frozen_of_row _ _ _ _ _ x4
      have z6 := blk_cell x4 6
      have fz6 : X.frozen? ⟨nb, 6, none⟩ = false := frozen_of_row _ _ _ _ _ x4
      simp only [List.getElem?_toArray, List.getElem?_cons_succ, List.getElem?_cons_zero] at z0 z1 z2 z3 z4 z5 z6
      have q0 := blk_cell hbX 0
      have q1 := blk_cell hbX 1
      have q2 := blk_cell hbX 2
      have q3 := blk_cell hbX 3
      have q4 := blk_cell hbX 4
      have q5 := blk_cell hbX 5
      have q6 := blk_cell hbX 6
      simp only [List.getElem?_toArray, List.getElem?_cons_succ, List.getElem?_cons_zero] at q0 q1 q2 q3 q4 q5 q6
      have hXn : nb < X.heap.size := by omega
      have hXb : bb < X.heap.size := by omega
      have hXw : w.heap.size < X.heap.size := by omega
      have X1 := Lib.hid x1
      have X3 := Lib.hid x3
      have X4 := Lib.hid x4
      clear x1 x3 x4 hbX HHBX M0 M1
      have hff : (ga + c.red + 8 - 1) / 8 * 8 = firstF c.red ga := by unfold firstF; omega
      have hgn : ga + (gz - ga) - c.red - (ga + c.red + 8 - 1) / 8 * 8 = gapN c.red (ga, gz) := by unfold gapN; rw [hff]; show _ = gz - c.red - firstF c.red ga; omega
      have HGN := Lib.hid hgn
      clear hff hgn
      by_cases hf : 1 ≤ ga + (gz - ga) - c.red - (ga + c.red + 8 - 1) / 8 * 8
      · have hl2 := HL1.out
        rw [if_pos (by rw [← HGN.out]; exact hf), ← HGN.out] at hl2
        have HL2 := Lib.hid hl2
        clear hl2
        go_wp2
        go_quiet (fail)
        go_wp2
        go_quiet (fail)
        go_wp2
        all_goals
          go_roundg (n - (k + 1))
          case measure => omega
          case rel =>
            refine ⟨k + 1, by omega, by go_num, Nat.le_refl _, (below_drewN X1.out _).setCell (p := ⟨nb, 6, none⟩) (by show w.heap.size ≤ nb; omega) _, by simp [World.setCell]; omega, fun j hj hne => (Below.heap_setCell _ _ _ _ hne).trans (X3.out j hj hne), ?_⟩
            rw [HB1.out, HL2.out]
            have e7 := row_setCell (o := 6) (.int .i64 (max lg (min (ga + (gz - ga) - c.red - (ga + c.red + 8 - 1) / 8 * 8) 65536))) X4.out
            simp only [List.setIfInBounds_toArray, List.set_cons_zero, List.set_cons_succ] at e7
            exact e7
      · have hl2 := HL1.out
        rw [if_neg (by rw [← HGN.out]; exact hf)] at hl2
        have HL2 := Lib.hid hl2
        have d1 : decide (1 ≤ ga + (gz - ga) - c.red - (ga + c.red + 8 - 1) / 8 * 8) = false := decide_eq_false hf
        clear hl2
        go_wp2
        go_quiet (fail)
        go_wp2
        go_quiet (fail)
        go_wp2
        go_roundg (n - (k + 1))
        case measure => omega
        case rel => exact ⟨k + 1, by omega, by go_num, Nat.le_refl _, below_drewN X1.out _, x2, X3.out, by rw [HB1.out, HL2.out]; exact X4.out⟩
    · obtain rfl : k = n := by omega
      have htk : G.take k = G := by rw [← HN.out, List.take_length]
      rw [htk] at hstr
      have hb1 := (HKr.out (w.heap.size + 1) (by omega) (by omega)).trans HZ1.out
      have z0 := blk_cell hstr 0
      have fz0 : wr.frozen? ⟨nb, 0, none⟩ = false := frozen_of_row _ _ _ _ _ hstr
      have z1 := blk_cell hstr 1
      have fz1 : wr.frozen? ⟨nb, 1, none⟩ = false := frozen_of_row _ _ _ _ _ hstr
      have z2 := blk_cell hstr 2
      have fz2 : wr.frozen? ⟨nb, 2, none⟩ = false := frozen_of_row _ _ _ _ _ hstr
      have z3 := blk_cell hstr 3
      have fz3 : wr.frozen? ⟨nb, 3, none⟩ = false := frozen_of_row _ _ _ _ _ hstr
      have z4 := blk_cell hstr 4
      have fz4 : wr.frozen? ⟨nb, 4, none⟩ = false := frozen_of_row _ _ _ _ _ hstr
      have z5 := blk_cell hstr 5
      have fz5 : wr.frozen? ⟨nb, 5, none⟩ = false := frozen_of_row _ _ _ _ _ hstr
      have z6 := blk_cell hstr 6
      have fz6 : wr.frozen? ⟨nb, 6, none⟩ = false := frozen_of_row _ _ _ _ _ hstr
      simp only [List.getElem?_toArray, List.getElem?_cons_succ, List.getElem?_cons_zero] at z0 z1 z2 z3 z4 z5 z6
      have y0 := blk_cell hb1 0
      have fy0 : wr.frozen? ⟨w.heap.size + 1, 0, none⟩ = false := frozen_of_row _ _ _ _ _ hb1
      have y1 := blk_cell hb1 1
      have fy1 : wr.frozen? ⟨w.heap.size + 1, 1, none⟩ = false := frozen_of_row _ _ _ _ _ hb1
      have y2 := blk_cell hb1 2
      have fy2 : wr.frozen? ⟨w.heap.size + 1, 2, none⟩ = false := frozen_of_row _ _ _ _ _ hb1
      have y3 := blk_cell hb1 3
      have fy3 : wr.frozen? ⟨w.heap.size + 1, 3, none⟩ = false := frozen_of_row _ _ _ _ _ hb1
      have y4 := blk_cell hb1 4
      have fy4 : wr.frozen? ⟨w.heap.size + 1, 4, none⟩ = false := frozen_of_row _ _ _ _ _ hb1
      have y5 := blk_cell hb1 5
      have fy5 : wr.frozen? ⟨w.heap.size + 1, 5, none⟩ = false := frozen_of_row _ _ _ _ _ hb1
      have y6 := blk_cell hb1 6
      have fy6 : wr.frozen? ⟨w.heap.size + 1, 6, none⟩ = false := frozen_of_row _ _ _ _ _ hb1
      simp only [List.getElem?_toArray, List.getElem?_cons_succ, List.getElem?_cons_zero] at y0 y1 y2 y3 y4 y5 y6
      have hltw1 : w.heap.size + 1 < wr.heap.size := by omega
      clear hb1 hstr hbx
      go_wp2
      refine bodyPost_ret (v := .agg #[.int .i64 live.length, .int .i64 sl, .int .i64 quar.length, .int .i64 sq, .int .i64 ((k : Int)), .int .i64 (gapB G), .int .i64 (lgF c.red G (-1))])  (by simp [results, Try.results41, go_sem, y0, y1, y2, y3, y4, y5, y6]) rfl ⟨rfl, ?_⟩
      repeat' first | with_reducible exact HBr.out | with_reducible refine Below.setCell ?_ (by simp; try omega) _
end Go.Proofs.Ytbhbjcgbhklieaa
