/- HeapKeeps' closure: both lists cloned. -/
import Derived.Test.YtbhbjcgbhklieaaC4
import Derived.Test.YtbhbjcgbhklieaaS2
namespace Go.Proofs.Ytbhbjcgbhklieaa
open Go.RowKit Go.Shelf

theorem fin51 {c : Conf} {A B A1 A2 : Option Addr} {k m c1 c2 : Nat} {gi : Int} {live quar : List Piece} {w W w1 : World} (_ : Below w.heap.size w W) (hs : W.heap.size = w.heap.size + 2) (_ : W.heap[w.heap.size]? = some (.cells #[.int .i64 c.page, .int .i64 c.n, .int .i64 c.red, .int .i64 c.quarantine, .slice A live.length k, .slice B quar.length m, .int .i64 gi] 26 (0, 0))) (hz : W.heap[w.heap.size + 1]? = some (.cells #[.int .i64 0, .int .i64 0, .int .i64 0, .int .i64 0, .slice none 0 0, .slice none 0 0, .int .i64 0] 26 (0, 0))) (h1 : Below W.drew.heap.size W.drew w1) (o1 : w1.ownsRow W.drew.heap.size 38 3 (.slice A1 live.length c1) live.length (live.flatMap encP)) {V : World} (hV : V.heap[w.heap.size]? = some (.cells #[.int .i64 c.page, .int .i64 c.n, .int .i64 c.red, .int .i64 c.quarantine, .slice A1 live.length c1, .slice A2 quar.length c2, .int .i64 gi] 26 (0, 0))) (hk : ∀ k, k < w1.heap.size → k ≠ w.heap.size → V.heap[k]? = w1.heap[k]?) (hB : Below w.heap.size w V)
    (o2 : V.ownsRow w1.heap.size 38 3 (.slice A2 quar.length c2) quar.length (quar.flatMap encP)) : Below w.heap.size w V ∧ V.heap[w.heap.size]? = some (.cells #[.int .i64 c.page, .int .i64 c.n, .int .i64 c.red, .int .i64 c.quarantine, .slice A1 live.length c1, .slice A2 quar.length c2, .int .i64 gi] 26 (0, 0)) ∧ V.heap[w.heap.size + 1]? = some (.cells #[.int .i64 0, .int .i64 0, .int .i64 0, .int .i64 0, .slice none 0 0, .slice none 0 0, .int .i64 0] 26 (0, 0)) ∧ V.ownsRow (w.heap.size + 2) 38 3 (.slice A1 live.length c1) live.length (live.flatMap encP) ∧ V.ownsRow (w.heap.size + 2) 38 3 (.slice A2 quar.length c2) quar.length (quar.flatMap encP) ∧ ∀ k j, (Value.slice A1 live.length c1).ownBlock = some k → (Value.slice A2 quar.length c2).ownBlock = some j → k ≠ j := by
  have hs1 := h1.size
  have hsd : W.drew.heap.size = w.heap.size + 2 := hs
  refine ⟨hB, hV, (hk _ (by omega) (by omega)).trans ((h1.block _ (by omega)).trans hz), own_base (own_blk o1 fun g hg => ?_) (by omega), own_base o2 (by omega), fun a b ha hb e => ?_⟩
  · have := own_lt o1 g hg
    exact hk g this.2 (by omega)
  · have e1 := own_lt o1 a ha
    have e2 := own_lt o2 b hb
    omega
theorem fin51a {c : Conf} {A B A1 A2 : Option Addr} {k m c1 c2 : Nat} {gi : Int} {live quar : List Piece} {w W w1 w2 : World} (hBW : Below w.heap.size w W) (hs : W.heap.size = w.heap.size + 2) (hb : W.heap[w.heap.size]? = some (.cells #[.int .i64 c.page, .int .i64 c.n, .int .i64 c.red, .int .i64 c.quarantine, .slice A live.length k, .slice B quar.length m, .int .i64 gi] 26 (0, 0))) (hz : W.heap[w.heap.size + 1]? = some (.cells #[.int .i64 0, .int .i64 0, .int .i64 0, .int .i64 0, .slice none 0 0, .slice none 0 0, .int .i64 0] 26 (0, 0))) (h1 : Below W.drew.heap.size W.drew w1) (h2 : Below w1.heap.size w1 w2) (o1 : w1.ownsRow W.drew.heap.size 38 3 (.slice A1 live.length c1) live.length (live.flatMap encP)) (o2 : w2.ownsRow w1.heap.size 38 3 (.slice A2 quar.length c2) quar.length (quar.flatMap encP)) :
    (fun V => Below w.heap.size w V ∧ V.heap[w.heap.size]? = some (.cells #[.int .i64 c.page, .int .i64 c.n, .int .i64 c.red, .int .i64 c.quarantine, .slice A1 live.length c1, .slice A2 quar.length c2, .int .i64 gi] 26 (0, 0)) ∧ V.heap[w.heap.size + 1]? = some (.cells #[.int .i64 0, .int .i64 0, .int .i64 0, .int .i64 0, .slice none 0 0, .slice none 0 0, .int .i64 0] 26 (0, 0)) ∧ V.ownsRow (w.heap.size + 2) 38 3 (.slice A1 live.length c1) live.length (live.flatMap encP) ∧ V.ownsRow (w.heap.size + 2) 38 3 (.slice A2 quar.length c2) quar.length (quar.flatMap encP) ∧ ∀ k j, (Value.slice A1 live.length c1).ownBlock = some k → (Value.slice A2 quar.length c2).ownBlock = some j → k ≠ j) ((w2.setCell ⟨w.heap.size, 4, none⟩ (.slice A1 live.length c1)).setCell ⟨w.heap.size, 5, none⟩ (.slice A2 quar.length c2)) := by
  have hs1 := h1.size
  have hsd : W.drew.heap.size = w.heap.size + 2 := hs
  have e0 := (h2.block w.heap.size (by omega)).trans ((h1.block w.heap.size (by omega)).trans hb)
  have e1 := row_setCell (o := 4) (.slice A1 live.length c1) e0
  have e2 := row_setCell (o := 5) (.slice A2 quar.length c2) e1
  simp only [List.setIfInBounds_toArray, List.set_cons_zero, List.set_cons_succ] at e2
  have hkp : ∀ k, k ≠ w.heap.size → ((w2.setCell ⟨w.heap.size, 4, none⟩ (.slice A1 live.length c1)).setCell ⟨w.heap.size, 5, none⟩ (.slice A2 quar.length c2)).heap[k]? = w2.heap[k]? := fun k hk => (Below.heap_setCell _ _ _ _ hk).trans (Below.heap_setCell _ _ _ _ hk)
  refine fin51 hBW hs hb hz h1 o1 e2 (fun k hk hne => (hkp k hne).trans (h2.block k hk)) ?_ (own_blk o2 fun g hg => hkp g ?_)
  · exact (((hBW.drew.trans (h1.mono (by omega))).trans (h2.mono (by omega))).setCell (p := ⟨w.heap.size, 4, none⟩) (Nat.le_refl _) _).setCell (p := ⟨w.heap.size, 5, none⟩) (Nat.le_refl _) _
  · have := own_lt o2 g hg; omega
set_option maxRecDepth 100000 in
set_option maxHeartbeats 4000000 in
theorem c51 (c : Conf) (A : Option Addr) (k : Nat) (B : Option Addr) (m : Nat) (gi : Int) (live quar : List Piece) (w : World) (hl : Sl 3 encP w (.slice A live.length k) live) (hq : Sl 3 encP w (.slice B quar.length m) quar) (sl : SlShape (.slice A live.length k)) (sq : SlShape (.slice B quar.length m)) (n1 : live.length ≤ 100000) (n2 : quar.length ≤ 100000) :
    Calls Try.prog 51 #[hAgg c (.slice A live.length k) (.slice B quar.length m) gi] w fun e w' => Below w.heap.size w w' ∧ ∃ A1 c1 A2 c2, e = .returned (.agg #[.int .i64 c.page, .int .i64 c.n, .int .i64 c.red, .int .i64 c.quarantine, .slice A1 live.length c1, .slice A2 quar.length c2, .int .i64 gi]) ∧ w'.ownsRow w.heap.size 38 3 (.slice A1 live.length c1) live.length (live.flatMap encP) ∧ w'.ownsRow w.heap.size 38 3 (.slice A2 quar.length c2) quar.length (quar.flatMap encP) ∧ ∀ k j, (Value.slice A1 live.length c1).ownBlock = some k → (Value.slice A2 quar.length c2).ownBlock = some j → k ≠ j := by
  have hc1 := fun W (hW : Below w.heap.size w W) => c21 (.slice A live.length k) live W (hl.below hW) sl n1
  have hc2 := fun W (hW : Below w.heap.size w W) => c21 (.slice B quar.length m) quar W (hq.below hW) sq n2
  have HC1 := Lib.hid hc1
  have HC2 := Lib.hid hc2
  clear hl hq sl sq n1 n2 hc1 hc2
  go_enter Try.func51, Try.ntmps51
  go_wp2
  refine gen_worldP (fun W => Below w.heap.size w W ∧ W.heap.size = w.heap.size + 2 ∧ W.heap[w.heap.size]? = some (.cells #[.int .i64 c.page, .int .i64 c.n, .int .i64 c.red, .int .i64 c.quarantine, .slice A live.length k, .slice B quar.length m, .int .i64 gi] 26 (0, 0)) ∧ W.heap[w.heap.size + 1]? = some (.cells #[.int .i64 0, .int .i64 0, .int .i64 0, .int .i64 0, .slice none 0 0, .slice none 0 0, .int .i64 0] 26 (0, 0))) ⟨((Below.refl _ _).alloc (Nat.le_refl _) _).alloc (by simp) _, by simp, hal_old (hal_new rfl), hal_new (by simp)⟩ ?_
  rintro W ⟨hBW, hsz, hb0, hb1⟩
  have z4 : W.cell? ⟨w.heap.size, 4, none⟩ = some (.slice A live.length k) := blk_cell hb0 4
  have z5 : W.cell? ⟨w.heap.size, 5, none⟩ = some (.slice B quar.length m) := blk_cell hb0 5
  have HBW := Lib.hid hBW
  have HB0 := Lib.hid hb0
  have HB1 := Lib.hid hb1
  have HSZ := Lib.hid hsz
  clear hBW hb0 hb1
  have hmx : Try.prog.follows .mixedOrders = true := by kernel_rfl
  refine region_joinS (ι := Option Addr × Nat × Option Addr × Nat) (fun x T => ((((((((T.setIfInBounds 3 (.pointer (some ⟨w.heap.size, 4, none⟩))).setIfInBounds 4 (.slice A live.length k)).setIfInBounds 5 (.slice x.1 live.length x.2.1)).setIfInBounds 6 (.pointer (some ⟨w.heap.size, 5, none⟩))).setIfInBounds 7 (.slice B quar.length m)).setIfInBounds 8 (.slice x.2.2.1 quar.length x.2.2.2)).setIfInBounds 9 (.pointer (some ⟨w.heap.size, 4, none⟩))).setIfInBounds 10 (.pointer (some ⟨w.heap.size, 5, none⟩)))) (fun x V => Below w.heap.size w V ∧ V.heap[w.heap.size]? = some (.cells #[.int .i64 c.page, .int .i64 c.n, .int .i64 c.red, .int .i64 c.quarantine, .slice x.1 live.length x.2.1, .slice x.2.2.1 quar.length x.2.2.2, .int .i64 gi] 26 (0, 0)) ∧ V.heap[w.heap.size + 1]? = some (.cells #[.int .i64 0, .int .i64 0, .int .i64 0, .int .i64 0, .slice none 0 0, .slice none 0 0, .int .i64 0] 26 (0, 0)) ∧ V.ownsRow (w.heap.size + 2) 38 3 (.slice x.1 live.length x.2.1) live.length (live.flatMap encP) ∧ V.ownsRow (w.heap.size + 2) 38 3 (.slice x.2.2.1 quar.length x.2.2.2) quar.length (quar.flatMap encP) ∧ ∀ k j, (Value.slice x.1 live.length x.2.1).ownBlock = some k → (Value.slice x.2.2.1 quar.length x.2.2.2).ownBlock = some j → k ≠ j) ?_ ?_
  · intro KK hKK
    have HKK := Lib.hid hKK
    clear hKK
    refine wp_region_held_drew (S := fun _ => True) hmx trivial ?_
    intro _
    refine wpAnyH_take (i := 0) (v := .pointer (some ⟨w.heap.size, 4, none⟩)) rfl (by kernel_rfl) (by kernel_rfl) (by kernel_rfl) (fun _ _ _ h => h) (Or.inl ⟨by rfl, ?hy⟩) trivial ?_
    case hy => intro w9 hSw; go_simp
    simp only [Act.put, List.setIfInBounds_toArray]
    refine wpAnyH_take (i := 3) (v := .pointer (some ⟨w.heap.size, 5, none⟩)) rfl (by kernel_rfl) (by kernel_rfl) (by kernel_rfl) (fun _ _ _ h => h) (Or.inl ⟨by rfl, ?hy⟩) trivial ?_
    case hy => intro w9 hSw; go_simp
    simp only [Act.put]
    refine wpAnyH_ready (rs := [1, 4]) (by kernel_rfl) (by simp) ?_
    refine AllReadyH.cons rfl (fun K hK => ?_) (AllReadyH.cons rfl (fun K hK => ?_) AllReadyH.nil)
    · (
      go_simp
      refine hK.out _ _ trivial (fun _ => ?_)
      clear hK K
      refine wpAnyH_ready (rs := [2, 4]) (by kernel_rfl) (by simp) ?_
      refine AllReadyH.cons rfl (fun K hK => ?_) (AllReadyH.cons rfl (fun K hK => ?_) AllReadyH.nil)
      · (
        go_simp
        refine Calls.mono (HC1.out _ HBW.out.drew) ?_
        rintro e w1 ⟨hB1, A1, c1, rfl, hr1⟩
        refine hK.out _ _ trivial (fun _ => ?_)
        clear hK K
        have g5 : w1.cell? ⟨w.heap.size, 5, none⟩ = some (.slice B quar.length m) := (hB1.cell (p := ⟨w.heap.size, 5, none⟩) (by show w.heap.size < W.heap.size; omega)).trans z5
        refine wpAnyH_ready (rs := [4]) (by kernel_rfl) (by simp) ?_
        refine AllReadyH.cons rfl (fun K hK => ?_) AllReadyH.nil
        go_simp
        refine hK.out _ _ trivial (fun _ => ?_)
        clear hK K
        have hbx1 : w1.heap[w.heap.size]? = some (.cells #[.int .i64 c.page, .int .i64 c.n, .int .i64 c.red, .int .i64 c.quarantine, .slice A live.length k, .slice B quar.length m, .int .i64 gi] 26 (0, 0)) := (hB1.block w.heap.size (by show _ < W.heap.size; omega)).trans HB0.out
        have x4 : w1.cell? ⟨w.heap.size, 4, none⟩ = some (.slice A live.length k) := blk_cell hbx1 4
        have y4 : w1.frozen? ⟨w.heap.size, 4, none⟩ = false := frozen_of_row _ _ _ _ _ hbx1
        have hlt1 : w.heap.size < w1.heap.size := blk_lt hbx1
        refine wpAnyH_take (i := 6) (v := .pointer (some ⟨w.heap.size, 4, none⟩)) rfl (by kernel_rfl) (by kernel_rfl) (by kernel_rfl) (fun _ _ _ h => h) (Or.inl ⟨by rfl, ?hy⟩) trivial ?_
        case hy => intro w9 hSw; go_simp
        simp only [Act.put, List.setIfInBounds_toArray]
        refine wpAnyH_ready (rs := [5]) (by kernel_rfl) (by simp) ?_
        refine AllReadyH.cons rfl (fun K hK => ?_) AllReadyH.nil
        · (
          go_simp
          refine Calls.mono (HC2.out _ (HBW.out.drew.trans (hB1.mono HBW.out.size))) ?_
          rintro e w2 ⟨hB2, A2, c2, rfl, hr2⟩
          refine hK.out _ _ trivial (fun _ => ?_)
          clear hK K
          have hbx2 : w2.heap[w.heap.size]? = some (.cells #[.int .i64 c.page, .int .i64 c.n, .int .i64 c.red, .int .i64 c.quarantine, .slice A live.length k, .slice B quar.length m, .int .i64 gi] 26 (0, 0)) := (hB2.block w.heap.size hlt1).trans hbx1
          have a4 : w2.cell? ⟨w.heap.size, 4, none⟩ = some (.slice A live.length k) := blk_cell hbx2 4
          have b4 : w2.frozen? ⟨w.heap.size, 4, none⟩ = false := frozen_of_row _ _ _ _ _ hbx2
          refine wpAnyH_ready (rs := [7]) (by kernel_rfl) (by simp) ?_
          refine AllReadyH.cons rfl (fun K hK => ?_) AllReadyH.nil
          go_simp
          refine hK.out _ _ trivial (fun _ => ?_)
          clear hK K
          refine wpAnyH_take (i := 8) (v := .pointer (some ⟨w.heap.size, 5, none⟩)) rfl (by kernel_rfl) (by kernel_rfl) (by kernel_rfl) (fun _ _ _ h => h) (Or.inl ⟨by rfl, ?hy⟩) trivial ?_
          case hy => intro w9 hSw; go_simp
          simp only [Act.put, List.setIfInBounds_toArray]
          have hbx3 := row_setCell (o := 4) (.slice A1 live.length c1) hbx2
          have a5 := blk_cell hbx3 5
          have b5 : (w2.setCell ⟨w.heap.size, 4, none⟩ (.slice A1 live.length c1)).frozen? ⟨w.heap.size, 5, none⟩ = false := frozen_of_row _ _ _ _ _ hbx3
          simp only [List.setIfInBounds_toArray, List.set_cons_zero, List.set_cons_succ, List.getElem?_toArray, List.getElem?_cons_succ, List.getElem?_cons_zero] at a5
          refine wpAnyH_ready (rs := [9]) (by kernel_rfl) (by simp) ?_
          refine AllReadyH.cons rfl (fun K hK => ?_) AllReadyH.nil
          go_simp
          refine hK.out _ _ trivial (fun _ => ?_)
          clear hK K
          refine wpAnyH_done (by kernel_rfl) ?_ _
          have hfin := HKK.out (A1, c1, A2, c2) _ (fin51a HBW.out HSZ.out HB0.out HB1.out hB1 hB2 hr1 hr2)
          simp only [List.setIfInBounds_toArray, List.set_cons_zero, List.set_cons_succ] at hfin
          exact hfin)
        )
      · (
        go_simp
        refine hK.out _ _ trivial (fun _ => ?_)
        clear hK K
        refine wpAnyH_ready (rs := [2]) (by kernel_rfl) (by simp) ?_
        refine AllReadyH.cons rfl (fun K hK => ?_) AllReadyH.nil
        go_simp
        refine Calls.mono (HC1.out _ HBW.out.drew) ?_
        rintro e w1 ⟨hB1, A1, c1, rfl, hr1⟩
        refine hK.out _ _ trivial (fun _ => ?_)
        clear hK K
        have hbx1 : w1.heap[w.heap.size]? = some (.cells #[.int .i64 c.page, .int .i64 c.n, .int .i64 c.red, .int .i64 c.quarantine, .slice A live.length k, .slice B quar.length m, .int .i64 gi] 26 (0, 0)) := (hB1.block w.heap.size (by show _ < W.heap.size; omega)).trans HB0.out
        have x4 : w1.cell? ⟨w.heap.size, 4, none⟩ = some (.slice A live.length k) := blk_cell hbx1 4
        have y4 : w1.frozen? ⟨w.heap.size, 4, none⟩ = false := frozen_of_row _ _ _ _ _ hbx1
        have hlt1 : w.heap.size < w1.heap.size := blk_lt hbx1
        refine wpAnyH_take (i := 6) (v := .pointer (some ⟨w.heap.size, 4, none⟩)) rfl (by kernel_rfl) (by kernel_rfl) (by kernel_rfl) (fun _ _ _ h => h) (Or.inl ⟨by rfl, ?hy⟩) trivial ?_
        case hy => intro w9 hSw; go_simp
        simp only [Act.put, List.setIfInBounds_toArray]
        refine wpAnyH_ready (rs := [5]) (by kernel_rfl) (by simp) ?_
        refine AllReadyH.cons rfl (fun K hK => ?_) AllReadyH.nil
        · (
          go_simp
          refine Calls.mono (HC2.out _ (HBW.out.drew.trans (hB1.mono HBW.out.size))) ?_
          rintro e w2 ⟨hB2, A2, c2, rfl, hr2⟩
          refine hK.out _ _ trivial (fun _ => ?_)
          clear hK K
          have hbx2 : w2.heap[w.heap.size]? = some (.cells #[.int .i64 c.page, .int .i64 c.n, .int .i64 c.red, .int .i64 c.quarantine, .slice A live.length k, .slice B quar.length m, .int .i64 gi] 26 (0, 0)) := (hB2.block w.heap.size hlt1).trans hbx1
          have a4 : w2.cell? ⟨w.heap.size, 4, none⟩ = some (.slice A live.length k) := blk_cell hbx2 4
          have b4 : w2.frozen? ⟨w.heap.size, 4, none⟩ = false := frozen_of_row _ _ _ _ _ hbx2
          refine wpAnyH_ready (rs := [7]) (by kernel_rfl) (by simp) ?_
          refine AllReadyH.cons rfl (fun K hK => ?_) AllReadyH.nil
          go_simp
          refine hK.out _ _ trivial (fun _ => ?_)
          clear hK K
          refine wpAnyH_take (i := 8) (v := .pointer (some ⟨w.heap.size, 5, none⟩)) rfl (by kernel_rfl) (by kernel_rfl) (by kernel_rfl) (fun _ _ _ h => h) (Or.inl ⟨by rfl, ?hy⟩) trivial ?_
          case hy => intro w9 hSw; go_simp
          simp only [Act.put, List.setIfInBounds_toArray]
          have hbx3 := row_setCell (o := 4) (.slice A1 live.length c1) hbx2
          have a5 := blk_cell hbx3 5
          have b5 : (w2.setCell ⟨w.heap.size, 4, none⟩ (.slice A1 live.length c1)).frozen? ⟨w.heap.size, 5, none⟩ = false := frozen_of_row _ _ _ _ _ hbx3
          simp only [List.setIfInBounds_toArray, List.set_cons_zero, List.set_cons_succ, List.getElem?_toArray, List.getElem?_cons_succ, List.getElem?_cons_zero] at a5
          refine wpAnyH_ready (rs := [9]) (by kernel_rfl) (by simp) ?_
          refine AllReadyH.cons rfl (fun K hK => ?_) AllReadyH.nil
          go_simp
          refine hK.out _ _ trivial (fun _ => ?_)
          clear hK K
          refine wpAnyH_done (by kernel_rfl) ?_ _
          have hfin := HKK.out (A1, c1, A2, c2) _ (fin51a HBW.out HSZ.out HB0.out HB1.out hB1 hB2 hr1 hr2)
          simp only [List.setIfInBounds_toArray, List.set_cons_zero, List.set_cons_succ] at hfin
          exact hfin)
        ))
    · (
      go_simp
      refine hK.out _ _ trivial (fun _ => ?_)
      clear hK K
      refine wpAnyH_ready (rs := [1]) (by kernel_rfl) (by simp) ?_
      refine AllReadyH.cons rfl (fun K hK => ?_) AllReadyH.nil
      go_simp
      refine hK.out _ _ trivial (fun _ => ?_)
      clear hK K
      refine wpAnyH_ready (rs := [2]) (by kernel_rfl) (by simp) ?_
      refine AllReadyH.cons rfl (fun K hK => ?_) AllReadyH.nil
      go_simp
      refine Calls.mono (HC1.out _ HBW.out.drew) ?_
      rintro e w1 ⟨hB1, A1, c1, rfl, hr1⟩
      refine hK.out _ _ trivial (fun _ => ?_)
      clear hK K
      have hbx1 : w1.heap[w.heap.size]? = some (.cells #[.int .i64 c.page, .int .i64 c.n, .int .i64 c.red, .int .i64 c.quarantine, .slice A live.length k, .slice B quar.length m, .int .i64 gi] 26 (0, 0)) := (hB1.block w.heap.size (by show _ < W.heap.size; omega)).trans HB0.out
      have x4 : w1.cell? ⟨w.heap.size, 4, none⟩ = some (.slice A live.length k) := blk_cell hbx1 4
      have y4 : w1.frozen? ⟨w.heap.size, 4, none⟩ = false := frozen_of_row _ _ _ _ _ hbx1
      have hlt1 : w.heap.size < w1.heap.size := blk_lt hbx1
      refine wpAnyH_take (i := 6) (v := .pointer (some ⟨w.heap.size, 4, none⟩)) rfl (by kernel_rfl) (by kernel_rfl) (by kernel_rfl) (fun _ _ _ h => h) (Or.inl ⟨by rfl, ?hy⟩) trivial ?_
      case hy => intro w9 hSw; go_simp
      simp only [Act.put, List.setIfInBounds_toArray]
      refine wpAnyH_ready (rs := [5]) (by kernel_rfl) (by simp) ?_
      refine AllReadyH.cons rfl (fun K hK => ?_) AllReadyH.nil
      · (
        go_simp
        refine Calls.mono (HC2.out _ (HBW.out.drew.trans (hB1.mono HBW.out.size))) ?_
        rintro e w2 ⟨hB2, A2, c2, rfl, hr2⟩
        refine hK.out _ _ trivial (fun _ => ?_)
        clear hK K
        have hbx2 : w2.heap[w.heap.size]? = some (.cells #[.int .i64 c.page, .int .i64 c.n, .int .i64 c.red, .int .i64 c.quarantine, .slice A live.length k, .slice B quar.length m, .int .i64 gi] 26 (0, 0)) := (hB2.block w.heap.size hlt1).trans hbx1
        have a4 : w2.cell? ⟨w.heap.size, 4, none⟩ = some (.slice A live.length k) := blk_cell hbx2 4
        have b4 : w2.frozen? ⟨w.heap.size, 4, none⟩ = false := frozen_of_row _ _ _ _ _ hbx2
        refine wpAnyH_ready (rs := [7]) (by kernel_rfl) (by simp) ?_
        refine AllReadyH.cons rfl (fun K hK => ?_) AllReadyH.nil
        go_simp
        refine hK.out _ _ trivial (fun _ => ?_)
        clear hK K
        refine wpAnyH_take (i := 8) (v := .pointer (some ⟨w.heap.size, 5, none⟩)) rfl (by kernel_rfl) (by kernel_rfl) (by kernel_rfl) (fun _ _ _ h => h) (Or.inl ⟨by rfl, ?hy⟩) trivial ?_
        case hy => intro w9 hSw; go_simp
        simp only [Act.put, List.setIfInBounds_toArray]
        have hbx3 := row_setCell (o := 4) (.slice A1 live.length c1) hbx2
        have a5 := blk_cell hbx3 5
        have b5 : (w2.setCell ⟨w.heap.size, 4, none⟩ (.slice A1 live.length c1)).frozen? ⟨w.heap.size, 5, none⟩ = false := frozen_of_row _ _ _ _ _ hbx3
        simp only [List.setIfInBounds_toArray, List.set_cons_zero, List.set_cons_succ, List.getElem?_toArray, List.getElem?_cons_succ, List.getElem?_cons_zero] at a5
        refine wpAnyH_ready (rs := [9]) (by kernel_rfl) (by simp) ?_
        refine AllReadyH.cons rfl (fun K hK => ?_) AllReadyH.nil
        go_simp
        refine hK.out _ _ trivial (fun _ => ?_)
        clear hK K
        refine wpAnyH_done (by kernel_rfl) ?_ _
        have hfin := HKK.out (A1, c1, A2, c2) _ (fin51a HBW.out HSZ.out HB0.out HB1.out hB1 hB2 hr1 hr2)
        simp only [List.setIfInBounds_toArray, List.set_cons_zero, List.set_cons_succ] at hfin
        exact hfin)
      )
  rintro ⟨A1, c1, A2, c2⟩ V ⟨r1, r2, r3, r4, r5, r6⟩
  simp only [List.setIfInBounds_toArray, List.set_cons_zero, List.set_cons_succ]
  simp only at r2 r4 r5 r6
  have p0 := blk_cell r2 0
  have q0 := blk_cell r3 0
  have f0 : V.frozen? ⟨w.heap.size + 1, 0, none⟩ = false := frozen_of_row _ _ _ _ _ r3
  have p1 := blk_cell r2 1
  have q1 := blk_cell r3 1
  have f1 : V.frozen? ⟨w.heap.size + 1, 1, none⟩ = false := frozen_of_row _ _ _ _ _ r3
  have p2 := blk_cell r2 2
  have q2 := blk_cell r3 2
  have f2 : V.frozen? ⟨w.heap.size + 1, 2, none⟩ = false := frozen_of_row _ _ _ _ _ r3
  have p3 := blk_cell r2 3
  have q3 := blk_cell r3 3
  have f3 : V.frozen? ⟨w.heap.size + 1, 3, none⟩ = false := frozen_of_row _ _ _ _ _ r3
  have p4 := blk_cell r2 4
  have q4 := blk_cell r3 4
  have f4 : V.frozen? ⟨w.heap.size + 1, 4, none⟩ = false := frozen_of_row _ _ _ _ _ r3
  have p5 := blk_cell r2 5
  have q5 := blk_cell r3 5
  have f5 : V.frozen? ⟨w.heap.size + 1, 5, none⟩ = false := frozen_of_row _ _ _ _ _ r3
  have p6 := blk_cell r2 6
  have q6 := blk_cell r3 6
  have f6 : V.frozen? ⟨w.heap.size + 1, 6, none⟩ = false := frozen_of_row _ _ _ _ _ r3
  simp only [List.getElem?_toArray, List.getElem?_cons_succ, List.getElem?_cons_zero] at p0 q0 p1 q1 p2 q2 p3 q3 p4 q4 p5 q5 p6 q6
  have hlv : w.heap.size + 1 < V.heap.size := blk_lt r3
  have R1 := Lib.hid r1
  have R3 := Lib.hid r3
  have R4 := Lib.hid r4
  have R5 := Lib.hid r5
  have R6 := Lib.hid r6
  clear r1 r2 r3 r4 r5 r6
  go_wp2
  refine bodyPost_ret (v := .agg #[.int .i64 c.page, .int .i64 c.n, .int .i64 c.red, .int .i64 c.quarantine, .slice A1 live.length c1, .slice A2 quar.length c2, .int .i64 gi]) (by simp [results, Try.results51, go_sem, q0, q1, q2, q3, q4, q5, q6]) rfl ?_
  refine ⟨?_, A1, c1, A2, c2, rfl, own_base (own_blk R4.out fun g hg => ?_) (by omega), own_base (own_blk R5.out fun g hg => ?_) (by omega), R6.out⟩
  · repeat' first | refine Below.setCell ?_ (by simp) _ | exact R1.out
  · have := (own_lt R4.out g hg).1
    have hne : g ≠ w.heap.size + 1 := by omega
    repeat' first | refine Eq.trans (Below.heap_setCell _ _ _ _ hne) ?_ | rfl
  · have := (own_lt R5.out g hg).1
    have hne : g ≠ w.heap.size + 1 := by omega
    repeat' first | refine Eq.trans (Below.heap_setCell _ _ _ _ hne) ?_ | rfl
end Go.Proofs.Ytbhbjcgbhklieaa
