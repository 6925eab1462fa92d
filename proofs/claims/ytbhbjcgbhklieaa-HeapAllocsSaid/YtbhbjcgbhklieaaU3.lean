/- HeapAllocs: the loop of the specification's Free, that cuts the quarantine. -/
import Derived.Test.YtbhbjcgbhklieaaF5
import Derived.Test.YtbhbjcgbhklieaaF3
import Derived.Test.YtbhbjcgbhklieaaU0
import Derived.Test.YtbhbjcgbhklieaaL11
import Derived.Test.YtbhbjcgbhklieaaD3
import Derived.BigQuiet
namespace Go.Proofs.Ytbhbjcgbhklieaa
open Go.RowKit Go.Shelf

noncomputable def lp48 : Code := (cL (cK (cA (cB (cB (cB (cB (cB (cB (cB (cB (cB (Try.f48.body.getD .skip)))))))))))))
theorem box_notP {W : World} {n b off : Nat} {c0 c1 c2 c3 gi : Int} {lv qv : Value} {l : List Piece} (hb : W.heap[n]? = some (.cells #[.int .i64 c0, .int .i64 c1, .int .i64 c2, .int .i64 c3, lv, qv, .int .i64 gi] 26 (0, 0))) (hlv : ∃ A n k, lv = .slice A n k) (hqv : ∃ A n k, qv = .slice A n k) (hl : l ≠ []) (h : Lies 3 encP W b off l) : b ≠ n := by
  rintro rfl
  obtain ⟨_, _, _, rfl⟩ := hlv
  obtain ⟨_, _, _, rfl⟩ := hqv
  have hj : 0 < l.length := List.length_pos_iff.2 hl
  have e := (blk_cell hb (off + 0 * 3 + 0)).symm.trans (h.2 0 hj 0 _ rfl)
  simp only [Nat.zero_mul, Nat.add_zero] at e
  rcases off with _ | _ | _ | _ | _ | _ | _ | off <;> simp at e
theorem sum_bound : ∀ (l : List Piece), (∀ q ∈ l, 0 ≤ q.size ∧ q.size ≤ 65536) → 0 ≤ (l.map (·.size)).sum ∧ (l.map (·.size)).sum ≤ 65536 * l.length
  | [], _ => by simp
  | p :: l, h => by
    have h1 := h p (List.mem_cons_self ..)
    have h2 := sum_bound l (fun q hq => h q (List.mem_cons_of_mem _ hq))
    simp only [List.map_cons, List.sum_cons, List.length_cons]
    omega

set_option maxRecDepth 1000000 in
set_option maxHeartbeats 8000000 in
theorem loop48 (Q0 : Exit → Act → World → Prop) (c : Conf) (gi : Int) (lv : Value) (l : List Piece) (A0 : Option Addr) (k0 bx N0 : Nat) (Y : World) (u0 u1 u2 u3 u4 u5 u6 u8 u9 u10 u11 u12 u13 u14 u15 u16 u17 u18 u19 u20 u21 u22 u23 u24 u25 u26 u27 u28 u29 u30 u31 u32 u33 u34 u35 u36 u37 u38 u39 u40 u41 u42 u43 u44 u45 u46 u47 u48 u49 u50 u51 u52 u53 u54 u55 u56 u57 u58 u59 u60 u61 u62 : Value)
    (hb : Y.heap[bx]? = some (.cells #[.int .i64 c.page, .int .i64 c.n, .int .i64 c.red, .int .i64 c.quarantine, lv, .slice A0 l.length k0, .int .i64 gi] 26 (0, 0))) (hlv : ∃ A n k, lv = .slice A n k) (hf : Fresh N0 Y (.slice A0 l.length k0) l) (hsz : ∀ q ∈ l, 0 ≤ q.size ∧ q.size ≤ 65536) (hn : l.length ≤ 1001) (hQ0 : 0 ≤ c.quarantine) (hQ1 : c.quarantine ≤ 65536)
    (hexit : ∀ (v45 v46 v47 v48 v49 v50 v51 v52 v53 v54 v55 v56 v57 v58 v59 v60 v61 : Value) (W' : World) (A' : Option Addr) (k' : Nat), Below bx Y W' → (∀ j, j < Y.heap.size → j ≠ bx → W'.heap[j]? = Y.heap[j]?) → W'.heap[bx]? = some (.cells #[.int .i64 c.page, .int .i64 c.n, .int .i64 c.red, .int .i64 c.quarantine, lv, .slice A' (trimF c.quarantine l).length k', .int .i64 gi] 26 (0, 0)) → Fresh N0 W' (.slice A' (trimF c.quarantine l).length k') (trimF c.quarantine l) → Q0 (.exit 0) ⟨List.toArray (u0 :: u1 :: u2 :: u3 :: u4 :: u5 :: u6 :: (.pointer (some ⟨bx, 0, none⟩) : Value) :: u8 :: u9 :: u10 :: u11 :: u12 :: u13 :: u14 :: u15 :: u16 :: u17 :: u18 :: u19 :: u20 :: u21 :: u22 :: u23 :: u24 :: u25 :: u26 :: u27 :: u28 :: u29 :: u30 :: u31 :: u32 :: u33 :: u34 :: u35 :: u36 :: u37 :: u38 :: u39 :: u40 :: u41 :: u42 :: u43 :: u44 :: v45 :: v46 :: v47 :: v48 :: v49 :: v50 :: v51 :: v52 :: v53 :: v54 :: v55 :: v56 :: v57 :: v58 :: v59 :: v60 :: v61 :: u62 :: []), []⟩ W') :
    Code.wp Try.prog (Code.loop lp48) Q0 ⟨List.toArray (u0 :: u1 :: u2 :: u3 :: u4 :: u5 :: u6 :: (.pointer (some ⟨bx, 0, none⟩) : Value) :: u8 :: u9 :: u10 :: u11 :: u12 :: u13 :: u14 :: u15 :: u16 :: u17 :: u18 :: u19 :: u20 :: u21 :: u22 :: u23 :: u24 :: u25 :: u26 :: u27 :: u28 :: u29 :: u30 :: u31 :: u32 :: u33 :: u34 :: u35 :: u36 :: u37 :: u38 :: u39 :: u40 :: u41 :: u42 :: u43 :: u44 :: u45 :: u46 :: u47 :: u48 :: u49 :: u50 :: u51 :: u52 :: u53 :: u54 :: u55 :: u56 :: u57 :: u58 :: u59 :: u60 :: u61 :: u62 :: []), []⟩ Y := by
  have HB := Lib.hid hb
  have HLV := Lib.hid hlv
  have HF := Lib.hid hf
  have HSZ := Lib.hid hsz
  have HEX := Lib.hid hexit
  have hlY : bx < Y.heap.size := blk_lt hb
  have hmx : Try.prog.follows .mixedOrders = true := by kernel_rfl
  clear hb hlv hf hsz hexit
  conv => arg 2; arg 1; whnf
  go_loopg [45] l.length (fun kx _s45 wr => ∃ (ql : List Piece) (A : Option Addr) (k : Nat), ql.length ≤ kx ∧ ql.length ≤ 1001 ∧ Hid (∀ q ∈ ql, 0 ≤ q.size ∧ q.size ≤ 65536) ∧ Hid (trimF c.quarantine ql = trimF c.quarantine l) ∧ Hid (wr.heap[bx]? = some (.cells #[.int .i64 c.page, .int .i64 c.n, .int .i64 c.red, .int .i64 c.quarantine, lv, .slice A ql.length k, .int .i64 gi] 26 (0, 0))) ∧ Hid (Fresh N0 wr (.slice A ql.length k) ql) ∧ Hid (Below bx Y wr) ∧ Hid (∀ j, j < Y.heap.size → j ≠ bx → wr.heap[j]? = Y.heap[j]?))
  case atStart => exact ⟨l, A0, k0, Nat.le_refl _, hn, HSZ.out, (rfl : trimF c.quarantine l = trimF c.quarantine l), HB.out, HF.out, Below.refl _ _, (fun _ _ _ => rfl : ∀ j, j < Y.heap.size → j ≠ bx → Y.heap[j]? = Y.heap[j]?)⟩
  case round =>
    obtain ⟨ql, A, k, hkx, hq1, HQS, HTR, HBX, HFR, HBL, HKP⟩ := hrel
    have hbx := HBX.out
    have hltr : bx < wr.heap.size := blk_lt hbx
    have hsr := HBL.out.size
    have f3 : ∀ d os, (far wr d os).cell? ⟨bx, 3, none⟩ = some (.int .i64 c.quarantine) := far_cell (blk_lt hbx) (blk_cell hbx 3)
    have f5 : ∀ d os, (far wr d os).cell? ⟨bx, 5, none⟩ = some (.slice A ql.length k) := far_cell (blk_lt hbx) (blk_cell hbx 5)
    have hsum := sum_bound ql HQS.out
    have h67 := fun d os (h : ql.length ≤ 1000) => c67 (.slice A ql.length k) ql (far wr d os) (HFR.out.sl.below (below_far wr d os)) h HQS.out
    have H67 := Lib.hid h67
    obtain ⟨S, hS⟩ : ∃ S, (ql.map (·.size)).sum = S := ⟨_, rfl⟩
    rw [hS] at hsum H67
    have HS := Lib.hid hS
    clear h67 hS hbx
    by_cases ht : 1000 < ql.length ∨ c.quarantine < S
    · have hne : ql ≠ [] := by
        rintro rfl
        have := HS.out
        simp at this ht
        omega
      obtain ⟨q, qr, rfl⟩ := List.exists_cons_of_ne_nil hne
      have htr : trimF c.quarantine qr = trimF c.quarantine l := by
        rw [← HTR.out, trimF, if_pos]
        have := HS.out
        simp only [List.map_cons, List.sum_cons, List.length_cons] at this ht
        omega
      obtain ⟨A', kk, e, hck, hlies⟩ := HFR.out.sl
      cases e
      obtain ⟨b, off, rfl, hL⟩ := hlies.resolve_left (by simp)
      have hbn := box_notP HBX.out HLV.out ⟨_, _, _, rfl⟩ (by simp) hL
      obtain ⟨_, _, e2, hnew⟩ := HFR.out.new _ _ _ rfl
      cases e2
      have hLn : ∀ X, Below wr.heap.size wr X → ∀ v, Lies 3 encP (X.setCell ⟨bx, 5, none⟩ v) b (off + 3) qr := fun X hX v => ⟨by simp only [World.size_setCell]; exact Nat.lt_of_lt_of_le hL.1 hX.size, fun j hj i u hu => by
        have h9 := hL.2 (j + 1) (by simpa using hj) i u (by simpa using hu)
        rw [show off + (j + 1) * 3 + i = off + 3 + j * 3 + i by omega] at h9
        exact (World.cell?_setCell_far _ _ _ _ (Ne.symm hbn)).trans ((hX.cell (p := ⟨b, off + 3 + j * 3 + i, none⟩) hL.1).trans h9)⟩
      have hfin : ∀ X A' k', Below wr.heap.size wr X → (qr = [] ∨ A' = some ⟨b, off + 3, none⟩) → (∃ o, A' = some ⟨b, o, none⟩) → qr.length ≤ k' →
          (X.setCell ⟨bx, 5, none⟩ (.slice A' qr.length k')).heap[bx]? = some (.cells #[.int .i64 c.page, .int .i64 c.n, .int .i64 c.red, .int .i64 c.quarantine, lv, .slice A' qr.length k', .int .i64 gi] 26 (0, 0)) ∧ Fresh N0 (X.setCell ⟨bx, 5, none⟩ (.slice A' qr.length k')) (.slice A' qr.length k') qr ∧ Below bx Y (X.setCell ⟨bx, 5, none⟩ (.slice A' qr.length k')) ∧ ∀ j, j < Y.heap.size → j ≠ bx → (X.setCell ⟨bx, 5, none⟩ (.slice A' qr.length k')).heap[j]? = Y.heap[j]? := fun X A' k' hX hA hA2 hk => by
        have hrow := (hX.block _ hltr).trans HBX.out
        refine ⟨by have h := row_setCell (o := 5) (.slice A' qr.length k') hrow; simp only [List.setIfInBounds_toArray, List.set_cons_zero, List.set_cons_succ] at h; exact h, ⟨⟨A', k', rfl, hk, hA.imp id fun e => ⟨b, off + 3, e, hLn X hX _⟩⟩, fun A n c e => ?_⟩, (HBL.out.trans (hX.mono (by omega))).setCell (Nat.le_refl _) _, fun j hj hne => (Below.heap_setCell _ _ _ _ hne).trans ((hX.block _ (by omega)).trans (HKP.out j hj hne))⟩
        obtain ⟨o, rfl⟩ := hA2
        cases e
        exact ⟨b, o, rfl, hnew⟩
      have HFIN := Lib.hid hfin
      have HTQ := Lib.hid htr
      have HQR : Hid (∀ q ∈ qr, 0 ≤ q.size ∧ q.size ≤ 65536) := fun x hx => HQS.out x (List.mem_cons_of_mem _ hx)
      obtain ⟨mm, hmm⟩ : ∃ mm, qr.length = mm := ⟨_, rfl⟩
      have HMM := Lib.hid hmm
      simp only [List.length_cons, hmm] at f5 ht hck hsum hq1 hkx HBX HFR H67
      clear hLn hfin htr hlies hL hmm hne HTR HQS
      by_cases h1 : 1000 < mm + 1
      · have d1 : decide ((1000 : Int) < ((mm : Nat) : Int) + 1) = true := decide_eq_true (by omega)
        have d2 : decide ((1000 : Int) < ((mm + 1 : Nat) : Int)) = true := decide_eq_true (by omega)
        have hle : True := trivial
        clear H67
        go_wp2
        refine wp_region_far hmx (by kernel_rfl) ?_
        repeat (go_big_quiet_step (fail))
        refine wpQuiet_nil ?_
        intro _ hw'
        obtain ⟨⟨d, os⟩, hw''⟩ := hw'
        subst hw''
        refine gen_worldQ (fun X => Below wr.heap.size wr X) (below_far wr d os) ?_
        rintro X hX
        have HX := Lib.hid hX
        have hbx := (hX.block _ hltr).trans HBX.out
        have x5 := blk_cell hbx 5
        have fx5 : X.frozen? ⟨bx, 5, none⟩ = false := frozen_of_row _ _ _ _ _ hbx
        simp only [List.getElem?_toArray, List.getElem?_cons_succ, List.getElem?_cons_zero] at x5
        have hlX : bx < X.heap.size := blk_lt hbx
        clear hbx hX f3 f5
        by_cases hk1 : k = 1
        · exfalso; omega
        · have hcb : (k = 1) = False := eq_false hk1
          go_wp2
          go_roundg mm
          case measure => omega
          case rel =>
            obtain ⟨t1, t2, t3, t4⟩ := HFIN.out X (some ⟨b, off + 3, none⟩) (k - 1) HX.out (.inr rfl) ⟨off + 3, rfl⟩ (by have := HMM.out; omega)
            rw [HMM.out] at t1 t2 t3 t4
            exact ⟨qr, some ⟨b, off + 3, none⟩, k - 1, (by have := HMM.out; omega), (by have := HMM.out; omega), HQR.out, HTQ.out, (by rw [HMM.out]; exact t1), (by rw [HMM.out]; exact t2), t3, t4⟩
      · have d1 : decide ((1000 : Int) < ((mm : Nat) : Int) + 1) = false := decide_eq_false (by omega)
        have d2 : decide ((1000 : Int) < ((mm + 1 : Nat) : Int)) = false := decide_eq_false (by omega)
        have h2 : c.quarantine < S := by omega
        have d3 : decide (c.quarantine < S) = true := decide_eq_true h2
        have hle : mm + 1 ≤ 1000 := by omega
        go_wp2
        refine wp_region_far hmx (by kernel_rfl) ?_
        repeat (go_big_quiet_step ((go_at_call 67; exact Calls.far_of (H67.out _ _ hle))))
        refine wpQuiet_nil ?_
        intro _ hw'
        obtain ⟨⟨d, os⟩, hw''⟩ := hw'
        subst hw''
        refine gen_worldQ (fun X => Below wr.heap.size wr X) (below_far wr d os) ?_
        rintro X hX
        have HX := Lib.hid hX
        have hbx := (hX.block _ hltr).trans HBX.out
        have x5 := blk_cell hbx 5
        have fx5 : X.frozen? ⟨bx, 5, none⟩ = false := frozen_of_row _ _ _ _ _ hbx
        simp only [List.getElem?_toArray, List.getElem?_cons_succ, List.getElem?_cons_zero] at x5
        have hlX : bx < X.heap.size := blk_lt hbx
        clear hbx hX f3 f5
        by_cases hk1 : k = 1
        · have hm0 : Hid (mm = 0) := by show mm = 0; omega
          subst hk1
          go_wp2
          go_roundg mm
          case measure => omega
          case rel =>
            obtain ⟨t1, t2, t3, t4⟩ := HFIN.out X (some ⟨b, off, none⟩) 0 HX.out (.inl (List.eq_nil_of_length_eq_zero (HMM.out.trans hm0.out))) ⟨off, rfl⟩ (by rw [HMM.out, hm0.out]; exact Nat.le_refl _)
            rw [HMM.out, hm0.out] at t1 t2 t3 t4
            exact ⟨qr, some ⟨b, off, none⟩, 0, (by have := HMM.out; omega), (by have := HMM.out; omega), HQR.out, HTQ.out, (by rw [HMM.out, hm0.out]; exact t1), (by rw [HMM.out, hm0.out]; exact t2), t3, t4⟩
        · have hcb : (k = 1) = False := eq_false hk1
          go_wp2
          go_roundg mm
          case measure => omega
          case rel =>
            obtain ⟨t1, t2, t3, t4⟩ := HFIN.out X (some ⟨b, off + 3, none⟩) (k - 1) HX.out (.inr rfl) ⟨off + 3, rfl⟩ (by have := HMM.out; omega)
            rw [HMM.out] at t1 t2 t3 t4
            exact ⟨qr, some ⟨b, off + 3, none⟩, k - 1, (by have := HMM.out; omega), (by have := HMM.out; omega), HQR.out, HTQ.out, (by rw [HMM.out]; exact t1), (by rw [HMM.out]; exact t2), t3, t4⟩
    · have h1 : ¬ 1000 < ql.length := fun h => ht (.inl h)
      have h2 : ¬ c.quarantine < S := fun h => ht (.inr h)
      have htq : trimF c.quarantine l = ql := by
        rw [← HTR.out]
        cases ql with
        | nil => rfl
        | cons q r =>
          rw [trimF, if_neg]
          have := HS.out
          simp only [List.map_cons, List.sum_cons, List.length_cons] at this h1
          omega
      have HTQ := Lib.hid htq
      have hle : ql.length ≤ 1000 := by omega
      obtain ⟨n, hn'⟩ : ∃ n, ql.length = n := ⟨_, rfl⟩
      rw [hn'] at f5 hle h1 HBX HFR
      simp only [hn'] at H67
      have HN := Lib.hid hn'
      have d1 : decide ((1000 : Int) < (n : Int)) = false := decide_eq_false (by omega)
      have d3 : decide (c.quarantine < S) = false := decide_eq_false h2
      clear ht htq hn' hkx hq1
      go_wp2
      refine wp_region_far hmx (by kernel_rfl) ?_
      repeat (go_big_quiet_step ((go_at_call 67; exact Calls.far_of (H67.out _ _ hle))))
      refine wpQuiet_nil ?_
      intro _ hw'
      obtain ⟨⟨d, os⟩, hw''⟩ := hw'
      subst hw''
      refine gen_worldQ (fun X => Below wr.heap.size wr X) (below_far wr d os) ?_
      rintro X hX
      have HX := Lib.hid hX
      clear f3 f5 hX
      go_wp2
      exact HEX.out _ _ _ _ _ _ _ _ _ _ _ _ _ _ _ _ _ X A k (HBL.out.trans (HX.out.mono (by omega))) (fun j hj hne => (HX.out.block _ (by omega)).trans (HKP.out j hj hne)) (by rw [HTQ.out, HN.out]; exact (HX.out.block _ hltr).trans HBX.out) (by rw [HTQ.out, HN.out]; exact HFR.out.below HX.out)
end Go.Proofs.Ytbhbjcgbhklieaa
