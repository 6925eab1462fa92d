/- HeapMoved: the walk. -/
import Derived.Test.YtbhbjcgbhklieaaE12
import Derived.Test.YtbhbjcgbhklieaaS4
import Derived.Test.YtbhbjcgbhklieaaT3
import Derived.Test.YtbhbjcgbhklieaaT4
import Derived.Test.YtbhbjcgbhklieaaP8
import Derived.Deep.RegionHeld3
import Derived.Deep.QuietTactic
import Derived.BigQuiet
namespace Go.Proofs.Ytbhbjcgbhklieaa
open Go.RowKit Go.Shelf

theorem good_newM {c : Conf} (h : okConf c = true) : GoodP c 0 [] [] := by
  have hb := h
  simp only [okConf, decide_eq_true_eq] at hb
  exact ⟨h, by omega, by omega, by simp, by simp, (fun _ hp => by cases hp), by simp, by simp, by simp, by simp; omega⟩

theorem own_unwild {w : World} {base n cc : Nat} {A : Option Addr} {zs : List OpV} (h : w.ownsRow base 29 5 (.slice A n cc) n (zs.flatMap encO)) (hn : zs.length = n) {k : Nat} (hk : k < n) :
    ∃ g, A = some ⟨g, 0, none⟩ ∧ base ≤ g ∧ g < w.heap.size ∧ n ≤ cc ∧ w.cell? ⟨g, k * 5 + 4, none⟩ = some (.bool zs[k]!.wild) ∧ w.frozen? ⟨g, k * 5 + 4, none⟩ = false ∧
      (w.setCell ⟨g, k * 5 + 4, none⟩ (.bool false)).ownsRow base 29 5 (.slice A n cc) n ((zs.set k { zs[k]! with wild := false }).flatMap encO) := by
  rcases h.2 with ⟨_, h0⟩ | ⟨g, cap, cur, hv, hb, hg, hc, hm, hcs, ht⟩
  · omega
  · cases hv
    have hkz : k < zs.length := by omega
    have hfl : (zs.flatMap encO).length = n * 5 := by rw [flat_len encO 5 (fun _ => rfl), hn]
    have hfl2 : ((zs.set k { zs[k]! with wild := false }).flatMap encO).length = n * 5 := by rw [flat_len encO 5 (fun _ => rfl), List.length_set, hn]
    have hlt : k * 5 + 4 < n * 5 := by omega
    refine ⟨g, rfl, hb, blk_lt hg, hc, ?_, frozen_of_row _ _ _ _ _ hg, hfl2, .inr ⟨g, cc, cur.setIfInBounds (k * 5 + 4) (.bool false), rfl, hb, row_setCell (o := k * 5 + 4) (.bool false) hg, hc, hm, by rw [Array.size_setIfInBounds]; exact hcs, ?_⟩⟩
    · have h1 : (zs.flatMap encO)[k * 5 + 4]? = some (.bool zs[k]!.wild) := by rw [flat_get encO 5 (fun _ => rfl) zs k 4 hkz (by omega)]; rfl
      rw [row_cell hg, ← h1, ← ht, List.getElem?_take_of_lt hlt]
    · rw [Array.toList_setIfInBounds, List.take_set, ht]
      refine List.ext_getElem? fun m => ?_
      by_cases hm' : m < n * 5
      · have e : m = m / 5 * 5 + m % 5 := by omega
        have hd : m / 5 < n := by omega
        rw [List.getElem?_set]
        have hR : ((zs.set k { zs[k]! with wild := false }).flatMap encO)[m]? = (encO (zs.set k { zs[k]! with wild := false })[m / 5]!)[m % 5]? := by
          conv => lhs; rw [e]
          rw [flat_get encO 5 (fun _ => rfl) _ (m / 5) (m % 5) (by rw [List.length_set]; omega) (by omega)]
        have hL : (zs.flatMap encO)[m]? = (encO zs[m / 5]!)[m % 5]? := by
          conv => lhs; rw [e]
          rw [flat_get encO 5 (fun _ => rfl) _ (m / 5) (m % 5) (by omega) (by omega)]
        rw [hR, hL, getElem!_pos (zs.set k { zs[k]! with wild := false }) (m / 5) (by rw [List.length_set]; omega), List.getElem_set]
        by_cases hmk : m / 5 = k
        · rw [if_pos hmk.symm]
          by_cases h4 : m % 5 = 4
          · rw [if_pos (by omega), if_pos (by rw [hfl]; omega), h4]; rfl
          · rw [if_neg (by omega), hmk]
            have h5 : m % 5 = 0 ∨ m % 5 = 1 ∨ m % 5 = 2 ∨ m % 5 = 3 := by omega
            rcases h5 with h5 | h5 | h5 | h5 <;> rw [h5] <;> rfl
        · rw [if_neg (Ne.symm hmk), if_neg (by omega), getElem!_pos zs (m / 5) (by omega)]
      · rw [List.getElem?_eq_none (by rw [List.length_set, hfl]; omega), List.getElem?_eq_none (by rw [hfl2]; omega)]
theorem sl_keepG {α : Type} [Inhabited α] {kk : Nat} {enc : α → List Value} {W W' : World} {P : Nat → Prop} {v : Value} {l : List α} (h : Sl kk enc W v l) (hs : W.heap.size ≤ W'.heap.size) (hk : ∀ j, j < W.heap.size → P j → W'.heap[j]? = W.heap[j]?) (hne : ∀ b off n c, v = .slice (some ⟨b, off, none⟩) n c → l ≠ [] → Lies kk enc W b off l → P b) : Sl kk enc W' v l := by
  obtain ⟨A, c, rfl, hc, hl⟩ := h
  refine ⟨A, c, rfl, hc, hl.imp id fun ⟨b, off, hA, hL⟩ => ⟨b, off, hA, Nat.lt_of_lt_of_le hL.1 hs, fun j hj i u hu => ?_⟩⟩
  subst hA
  rw [← hL.2 j hj i u hu]
  simp only [World.cell?]
  rw [hk b hL.1 (hne _ _ _ _ rfl (by rintro rfl; simp at hj) hL)]
theorem box_notU {W : World} {n b off : Nat} {c0 c1 c2 c3 gi : Int} {lv qv : Value} {l : List Int} (hb : W.heap[n]? = some (.cells #[.int .i64 c0, .int .i64 c1, .int .i64 c2, .int .i64 c3, lv, qv, .int .i64 gi] 26 (0, 0))) (hlv : ∃ A n k, lv = .slice A n k) (hqv : ∃ A n k, qv = .slice A n k) (hl : l ≠ []) (h : Lies 1 encU W b off l) : b ≠ n := by
  rintro rfl
  obtain ⟨_, _, _, rfl⟩ := hlv
  obtain ⟨_, _, _, rfl⟩ := hqv
  have hj : 0 < l.length := List.length_pos_iff.2 hl
  have e := (blk_cell hb (off + 0 * 1 + 0)).symm.trans (h.2 0 hj 0 _ rfl)
  simp only [Nat.zero_mul, Nat.add_zero] at e
  rcases off with _ | _ | _ | _ | _ | _ | _ | off <;> simp at e
theorem slO_of_own {w : World} {base : Nat} {v : Value} {zs : List OpV} (h : w.ownsRow base 29 5 v zs.length (zs.flatMap encO)) : Sl 5 encO w v zs := by
  rcases h.2 with ⟨rfl, h0⟩ | ⟨g, cap, cur, rfl, hb, hg, hc, hm, hcs, ht⟩
  · exact ⟨none, 0, by rw [h0], by omega, .inl (List.eq_nil_of_length_eq_zero h0)⟩
  · refine ⟨_, _, rfl, hc, .inr ⟨g, 0, rfl, blk_lt hg, fun j hj i v hv => ?_⟩⟩
    have hi : i < 5 := (List.getElem?_eq_some_iff.1 hv).1
    have h1 : (zs.flatMap encO)[j * 5 + i]? = some v := by rw [flat_get encO 5 (fun _ => rfl) zs j i hj hi]; exact hv
    rw [row_cell hg, Nat.zero_add, ← h1, ← ht, List.getElem?_take_of_lt (by omega)]

set_option maxRecDepth 100000 in
set_option maxHeartbeats 8000000 in
theorem c15 (c : Conf) (by_ : Int) (ov : Value) (ops : List OpV) (w : World) (_ : InI by_) (ho : OpsIn w ov ops) :
    Calls Try.prog 15 #[.agg #[.int .i64 c.page, .int .i64 c.n, .int .i64 c.red, .int .i64 c.quarantine], .int .i64 by_, ov] w fun e w' => e = .returned (.bool true) ∧ Below w.heap.size w w' := by
  have HO := Lib.hid ho.sl
  have HSH := Lib.hid ho.sh
  have hol := ho.len
  obtain ⟨PA, pc, rfl, _, _⟩ := id ho.sl
  obtain ⟨n, hnn⟩ : ∃ n, ops.length = n := ⟨_, rfl⟩
  rw [hnn] at hol HO HSH ⊢
  have HN := Lib.hid hnn
  clear ho hnn
  go_enter Try.func15, Try.ntmps15
  go_wp2_with fail
  refine Calls.mono (c16 _) ?_
  rintro e w1 ⟨rfl, hB1⟩
  have hb0 : w1.heap[w.heap.size]? = some (.cells #[.int .i64 c.page, .int .i64 c.n, .int .i64 c.red, .int .i64 c.quarantine] 23 (0, 0)) := (hB1.block _ (by simp)).trans (hal_new rfl)
  have hBw : Below w.heap.size w w1 := (below_alloc1 w _).trans (hB1.mono (by simp))
  have q0 := blk_cell hb0 0
  have q1 := blk_cell hb0 1
  have q2 := blk_cell hb0 2
  have q3 := blk_cell hb0 3
  simp only [List.getElem?_toArray, List.getElem?_cons_succ, List.getElem?_cons_zero] at q0 q1 q2 q3
  have HB0 := Lib.hid hb0
  have HBW := Lib.hid hBw
  have hlt0 : w.heap.size < w1.heap.size := blk_lt hb0
  clear hB1 hb0 hBw
  go_wp2_with fail
  refine Calls.mono (c30 c _) ?_
  rintro e w2 ⟨hB2, ⟨hok, rfl⟩ | ⟨hok, rfl⟩⟩
  · have HBW2 : Hid (Below w.heap.size w w2) := HBW.out.trans (hB2.mono HBW.out.size)
    clear q0 q1 q2 q3 hB2
    go_wp2
    go_ret
    exact ⟨rfl, HBW2.out.alloc HBW2.out.size _⟩
  have HBW2 : Hid (Below w.heap.size w w2) := HBW.out.trans (hB2.mono HBW.out.size)
  have HB02 := Lib.hid ((hB2.block _ hlt0).trans HB0.out)
  have hlt2 : w.heap.size < w2.heap.size := blk_lt HB02.out
  have HOK := Lib.hid hok
  have hsw2 := HBW2.out.size
  clear q0 q1 q2 q3 hB2 hok
  by_cases hg : 60 < n ∨ by_ < -16777216 ∨ 16777216 < by_
  · have hg' : 60 < n ∨ (¬ 60 < n ∧ by_ < -16777216) ∨ (¬ 60 < n ∧ ¬ by_ < -16777216 ∧ 16777216 < by_) := by omega
    clear hg
    rcases hg' with h1 | ⟨h1, h2⟩ | ⟨h1, h2, h3⟩
    · have d1 : decide ((60 : Int) < (n : Int)) = true := decide_eq_true (by omega)
      go_wp2
      go_ret
      exact ⟨rfl, HBW2.out.alloc HBW2.out.size _⟩
    · have d1 : decide ((60 : Int) < (n : Int)) = false := decide_eq_false (by omega)
      have d2 : decide (by_ < -16777216) = true := decide_eq_true h2
      go_wp2
      go_ret
      exact ⟨rfl, HBW2.out.alloc HBW2.out.size _⟩
    · have d1 : decide ((60 : Int) < (n : Int)) = false := decide_eq_false (by omega)
      have d2 : decide (by_ < -16777216) = false := decide_eq_false h2
      have d3 : decide (16777216 < by_) = true := decide_eq_true h3
      go_wp2
      go_ret
      exact ⟨rfl, HBW2.out.alloc HBW2.out.size _⟩
  have d1 : decide ((60 : Int) < (n : Int)) = false := decide_eq_false (by omega)
  have d2 : decide (by_ < -16777216) = false := decide_eq_false (by omega)
  have d3 : decide (16777216 < by_) = false := decide_eq_false (by omega)
  have hn60 : n ≤ 60 := by omega
  have b0 : -16777216 ≤ by_ := by omega
  have b1 : by_ ≤ 16777216 := by omega
  clear hg
  have hcb := HOK.out
  simp only [okConf, decide_eq_true_eq] at hcb
  have hp0 : 1 ≤ c.page := by omega
  have hp1 : c.page < 16777216 := by omega
  clear hcb
  have hcd := (HB02.out)
  have q0 := blk_cell hcd 0
  have q1 := blk_cell hcd 1
  have q2 := blk_cell hcd 2
  have q3 := blk_cell hcd 3
  simp only [List.getElem?_toArray, List.getElem?_cons_succ, List.getElem?_cons_zero] at q0 q1 q2 q3
  clear hcd
  go_wp2_with fail
  refine Calls.mono (c30 (mvC by_ c) _) ?_
  rintro e w3 ⟨hB3, ⟨hokd, rfl⟩ | ⟨hokd, rfl⟩⟩
  · have HBW3 : Hid (Below w.heap.size w w3) := ((HBW2.out.alloc HBW2.out.size _).alloc (by simp; omega) _).trans (hB3.mono (by simp; omega))
    clear q0 q1 q2 q3 hB3
    go_wp2
    go_ret
    exact ⟨rfl, HBW3.out.alloc HBW3.out.size _⟩
  have HBW3 : Hid (Below w.heap.size w w3) := ((HBW2.out.alloc HBW2.out.size _).alloc (by simp; omega) _).trans (hB3.mono (by simp; omega))
  have HA3 : Hid (w3.heap[w2.heap.size]? = some (.cells #[.int .i64 c.page, .int .i64 c.n, .int .i64 c.red, .int .i64 c.quarantine, .slice none 0 0, .slice none 0 0, .int .i64 0] 26 (0, 0))) := (hB3.block _ (by simp; omega)).trans (hal_old (hal_new rfl))
  have HOKD := Lib.hid hokd
  have hs23 : w2.heap.size + 2 ≤ w3.heap.size := by have := hB3.size; simpa using this
  clear q0 q1 q2 q3 hB3 hokd
  have hclone := fun V (hV : Below w.heap.size w V) => c54 (.slice PA n pc) ops V (HO.out.below hV) HSH.out (by rw [HN.out]; omega)
  have HCLONE := Lib.hid hclone
  clear hclone
  go_wp2_with fail
  refine Calls.mono (HCLONE.out _ (HBW3.out.alloc HBW3.out.size _)) ?_
  clear HCLONE
  rintro e w4 ⟨hB4, A, k, rfl, ho4⟩
  have HBW4 : Hid (Below w.heap.size w w4) := (HBW3.out.alloc HBW3.out.size _).trans (hB4.mono (by have := HBW3.out.size; simp; omega))
  have HA4 := Lib.hid ((hB4.block w2.heap.size (by simp; omega)).trans (hal_old HA3.out))
  have HB4 := Lib.hid ((hB4.block w3.heap.size (by simp)).trans (hal_new rfl))
  have hs34 : w3.heap.size + 1 ≤ w4.heap.size := by have := hB4.size; simpa using this
  simp only [World.size_alloc] at ho4
  rw [HN.out] at ho4 ⊢
  have HO4 := Lib.hid ho4
  clear hB4 ho4 HA3
  go_wp2
  go_loopg [56] n (fun kx s56 wr => ∃ (i : Nat) (zs : List OpV), i ≤ n ∧ s56 = .int .i64 i ∧ n - i ≤ kx ∧ Hid (zs.length = n) ∧ Hid (∀ j, j < i → zs[j]!.wild = false) ∧ Hid (wr.ownsRow (w3.heap.size + 1) 29 5 (.slice A n k) n (zs.flatMap encO)) ∧ Hid (Below (w3.heap.size + 1) w4 wr))
  case atStart => exact ⟨0, ops, Nat.zero_le _, rfl, by omega, HN.out, (fun j hj => by omega : ∀ j, j < 0 → ops[j]!.wild = false), HO4.out, Below.refl _ _⟩
  case round =>
    obtain ⟨i, zs, hi, rfl, hkx, HZN, HZW, HZO, HBr⟩ := hrel
    have hsr := HBr.out.size
    by_cases hlt : i < n
    · obtain ⟨g, rfl, hgb, hgl, hgc, hcell, hfr, hown⟩ := own_unwild HZO.out HZN.out hlt
      generalize zs[i]!.wild = wb at hcell
      have HOWN := Lib.hid hown
      have hd4 : i * 5 + 4 = i * 5 + 4 := rfl
      clear hown hd4
      go_wp2
      go_roundg (n - (i + 1))
      case measure => omega
      case rel =>
        refine ⟨i + 1, zs.set i { zs[i]! with wild := false }, by omega, by go_num, Nat.le_refl _, (by rw [List.length_set]; exact HZN.out : (zs.set i { zs[i]! with wild := false }).length = n), (fun j hj => ?_ : ∀ j, j < i + 1 → (zs.set i { zs[i]! with wild := false })[j]!.wild = false), HOWN.out, (HBr.out.setCell hgb _ : Below (w3.heap.size + 1) w4 (wr.setCell ⟨g, i * 5 + 4, none⟩ (.bool false)))⟩
        have hjn : j < zs.length := by rw [HZN.out]; omega
        rw [getElem!_pos _ j (by rw [List.length_set]; exact hjn), List.getElem_set]
        by_cases hji : i = j
        · rw [if_pos hji]
        · rw [if_neg hji, ← getElem!_pos zs j hjn]; exact HZW.out j (by omega)
    · obtain rfl : i = n := by omega
      clear hlt
      have hzsl : Hid (∀ V, Below wr.heap.size wr V → Sl 5 encO V (.slice A i k) zs) := fun V hV => (slO_of_own (by rw [HZN.out]; exact HZO.out)).below hV
      have hzwild : Hid (∀ o ∈ zs, o.wild = false) := fun o ho => by
        obtain ⟨j, hj, rfl⟩ := List.getElem_of_mem ho
        rw [← getElem!_pos zs j hj]; exact HZW.out j (by rw [← HZN.out]; exact hj)
      have hbr2 := (HBr.out.block w2.heap.size (by omega)).trans HA4.out
      have hbr3 := (HBr.out.block w3.heap.size (by omega)).trans HB4.out
      have q0 := blk_cell hbr2 0
      have q1 := blk_cell hbr2 1
      have q2 := blk_cell hbr2 2
      have q3 := blk_cell hbr2 3
      have q4 := blk_cell hbr2 4
      have q5 := blk_cell hbr2 5
      have q6 := blk_cell hbr2 6
      simp only [List.getElem?_toArray, List.getElem?_cons_succ, List.getElem?_cons_zero] at q0 q1 q2 q3 q4 q5 q6
      have p0 := blk_cell hbr3 0
      have p1 := blk_cell hbr3 1
      have p2 := blk_cell hbr3 2
      have p3 := blk_cell hbr3 3
      have p4 := blk_cell hbr3 4
      have p5 := blk_cell hbr3 5
      have p6 := blk_cell hbr3 6
      simp only [List.getElem?_toArray, List.getElem?_cons_succ, List.getElem?_cons_zero] at p0 p1 p2 p3 p4 p5 p6
      have HR2 := Lib.hid hbr2
      have HR3 := Lib.hid hbr3
      have HBWr : Hid (Below w.heap.size w wr) := HBW4.out.trans (HBr.out.mono (by omega))
      have hlr2 : w2.heap.size < wr.heap.size := blk_lt hbr2
      have hlr3 : w3.heap.size < wr.heap.size := blk_lt hbr3
      have hst0 : ∀ c : Conf, StOk ⟨c, 0, [], []⟩ := fun c => ⟨(fun _ h => by cases h), (fun _ h => by cases h), by simp, by simp⟩
      have hrow : Hid (∀ b off, A = some ⟨b, off, none⟩ → w3.heap.size + 1 ≤ b) := fun b off e => (own_lt HZO.out b (by rw [e]; rfl)).1
      have hpl1 := c50 ⟨c, 0, [], []⟩ none 0 none 0 (.slice A i k) zs wr (fresh_nilP 0 wr).sl (fresh_nilP 0 wr).sl (fresh_nilP 0 wr).shape (fresh_nilP 0 wr).shape (hst0 c) (hzsl.out wr (Below.refl _ _)) (by rw [HZN.out]; exact hn60)
      have hpl2 := fun V (hV : Sl 5 encO V (.slice A i k) zs) => c50 ⟨mvC by_ c, 0, [], []⟩ none 0 none 0 (.slice A i k) zs V (fresh_nilP 0 V).sl (fresh_nilP 0 V).sl (fresh_nilP 0 V).shape (fresh_nilP 0 V).shape (hst0 _) hV (by rw [HZN.out]; exact hn60)
      have HPL1 := Lib.hid hpl1
      have HPL2 := Lib.hid hpl2
      clear hst0 hpl1 hpl2 hbr2 hbr3
      go_wp2_with fail
      refine Calls.mono HPL1.out ?_
      clear HPL1
      rintro e u1 ⟨hU1, sa, oa, A1, k1, B1, m1, C1, j1, hpa, hoa, rfl, hl1, hq1, sl1, sq1, hs1, hav1⟩
      have hz2 := (hU1.block _ hlr2).trans HR2.out
      have hz3 := (hU1.block _ hlr3).trans HR3.out
      have hAV1 := hav1 w2.heap.size (by omega) ⟨(fun _ e => by cases e), (fun _ e => by cases e)⟩
      have hAV3 := hav1 w3.heap.size (by omega) ⟨(fun _ e => by cases e), (fun _ e => by cases e)⟩
      have hlu2 : w2.heap.size < u1.heap.size := blk_lt hz2
      have hlu3 : w3.heap.size < u1.heap.size := blk_lt hz3
      clear q0 q1 q2 q3 q4 q5 q6 p0 p1 p2 p3 p4 p5 p6
      have q0 := blk_cell hz2 0
      have fq0 : u1.frozen? ⟨w2.heap.size, 0, none⟩ = false := frozen_of_row _ _ _ _ _ hz2
      have q1 := blk_cell hz2 1
      have fq1 : u1.frozen? ⟨w2.heap.size, 1, none⟩ = false := frozen_of_row _ _ _ _ _ hz2
      have q2 := blk_cell hz2 2
      have fq2 : u1.frozen? ⟨w2.heap.size, 2, none⟩ = false := frozen_of_row _ _ _ _ _ hz2
      have q3 := blk_cell hz2 3
      have fq3 : u1.frozen? ⟨w2.heap.size, 3, none⟩ = false := frozen_of_row _ _ _ _ _ hz2
      have q4 := blk_cell hz2 4
      have fq4 : u1.frozen? ⟨w2.heap.size, 4, none⟩ = false := frozen_of_row _ _ _ _ _ hz2
      have q5 := blk_cell hz2 5
      have fq5 : u1.frozen? ⟨w2.heap.size, 5, none⟩ = false := frozen_of_row _ _ _ _ _ hz2
      have q6 := blk_cell hz2 6
      have fq6 : u1.frozen? ⟨w2.heap.size, 6, none⟩ = false := frozen_of_row _ _ _ _ _ hz2
      simp only [List.getElem?_toArray, List.getElem?_cons_succ, List.getElem?_cons_zero] at q0 q1 q2 q3 q4 q5 q6
      have p0 := blk_cell hz3 0
      have p1 := blk_cell hz3 1
      have p2 := blk_cell hz3 2
      have p3 := blk_cell hz3 3
      have p4 := blk_cell hz3 4
      have p5 := blk_cell hz3 5
      have p6 := blk_cell hz3 6
      simp only [List.getElem?_toArray, List.getElem?_cons_succ, List.getElem?_cons_zero] at p0 p1 p2 p3 p4 p5 p6
      have HZ2 := Lib.hid hz2
      have HZ3 := Lib.hid hz3
      have HPA := Lib.hid hpa
      have HOA := Lib.hid hoa
      have HL1 := Lib.hid hl1
      have HQ1 := Lib.hid hq1
      have HS1 := Lib.hid hs1
      have HAV1 := Lib.hid hAV1
      have HAV3 := Lib.hid hAV3
      have HU1 := Lib.hid hU1
      have HSZ := Lib.hid (hzsl.out u1 hU1)
      clear hz2 hz3 hpa hoa hl1 hq1 hs1 hAV1 hAV3 hav1 hU1 sl1 sq1 hzsl
      go_wp2_with fail
      refine gen_worldC (fun W => Below w.heap.size w W ∧ W.heap[w2.heap.size]? = some (.cells #[.int .i64 sa.c.page, .int .i64 sa.c.n, .int .i64 sa.c.red, .int .i64 sa.c.quarantine, .slice A1 sa.live.length k1, .slice B1 sa.quar.length m1, .int .i64 sa.gi] 26 (0, 0)) ∧ W.heap[w3.heap.size]? = some (.cells #[.int .i64 (mvC by_ c).page, .int .i64 (mvC by_ c).n, .int .i64 (mvC by_ c).red, .int .i64 (mvC by_ c).quarantine, .slice none 0 0, .slice none 0 0, .int .i64 0] 26 (0, 0)) ∧ Sl 3 encP W (.slice A1 sa.live.length k1) sa.live ∧ Sl 3 encP W (.slice B1 sa.quar.length m1) sa.quar ∧ Sl 1 encU W (.slice C1 oa.length j1) oa ∧ Sl 5 encO W (.slice A i k) zs) ?_ ?_
      · have hkp : ∀ j, j ≠ w2.heap.size → (((((((u1.setCell ⟨w2.heap.size, 0, none⟩ (.int .i64 sa.c.page)).setCell ⟨w2.heap.size, 1, none⟩ (.int .i64 sa.c.n)).setCell ⟨w2.heap.size, 2, none⟩ (.int .i64 sa.c.red)).setCell ⟨w2.heap.size, 3, none⟩ (.int .i64 sa.c.quarantine)).setCell ⟨w2.heap.size, 4, none⟩ (.slice A1 sa.live.length k1)).setCell ⟨w2.heap.size, 5, none⟩ (.slice B1 sa.quar.length m1)).setCell ⟨w2.heap.size, 6, none⟩ (.int .i64 sa.gi)).heap[j]? = u1.heap[j]? := fun j hj => by
          repeat' first | refine Eq.trans (Below.heap_setCell _ _ _ _ hj) ?_ | rfl
        have hsz7 : (((((((u1.setCell ⟨w2.heap.size, 0, none⟩ (.int .i64 sa.c.page)).setCell ⟨w2.heap.size, 1, none⟩ (.int .i64 sa.c.n)).setCell ⟨w2.heap.size, 2, none⟩ (.int .i64 sa.c.red)).setCell ⟨w2.heap.size, 3, none⟩ (.int .i64 sa.c.quarantine)).setCell ⟨w2.heap.size, 4, none⟩ (.slice A1 sa.live.length k1)).setCell ⟨w2.heap.size, 5, none⟩ (.slice B1 sa.quar.length m1)).setCell ⟨w2.heap.size, 6, none⟩ (.int .i64 sa.gi)).heap.size = u1.heap.size := by simp [World.setCell]
        have e1 := row_setCell (o := 0) (.int .i64 sa.c.page) HZ2.out
        have e2 := row_setCell (o := 1) (.int .i64 sa.c.n) e1
        have e3 := row_setCell (o := 2) (.int .i64 sa.c.red) e2
        have e4 := row_setCell (o := 3) (.int .i64 sa.c.quarantine) e3
        have e5 := row_setCell (o := 4) (.slice A1 sa.live.length k1) e4
        have e6 := row_setCell (o := 5) (.slice B1 sa.quar.length m1) e5
        have e7 := row_setCell (o := 6) (.int .i64 sa.gi) e6
        simp only [List.setIfInBounds_toArray, List.set_cons_zero, List.set_cons_succ] at e7
        have hw : w.heap.size ≤ w2.heap.size := by omega
        have hbu : Below w.heap.size w u1 := HBWr.out.trans (HU1.out.mono HBWr.out.size)
        exact ⟨((((((hbu.setCell (p := ⟨w2.heap.size, 0, none⟩) hw _).setCell (p := ⟨w2.heap.size, 1, none⟩) hw _).setCell (p := ⟨w2.heap.size, 2, none⟩) hw _).setCell (p := ⟨w2.heap.size, 3, none⟩) hw _).setCell (p := ⟨w2.heap.size, 4, none⟩) hw _).setCell (p := ⟨w2.heap.size, 5, none⟩) hw _).setCell (p := ⟨w2.heap.size, 6, none⟩) hw _,
          e7, (hkp _ (by omega)).trans HZ3.out, sl_keepS (P := fun j => j ≠ w2.heap.size) HL1.out (by omega) (fun j _ hj => hkp j hj) HAV1.out.1, sl_keepS (P := fun j => j ≠ w2.heap.size) HQ1.out (by omega) (fun j _ hj => hkp j hj) HAV1.out.2,
          sl_keepG (P := fun j => j ≠ w2.heap.size) HS1.out (by omega) (fun j _ hj => hkp j hj) (fun b off _ _ _ hne hL => box_notU HZ2.out ⟨_, _, _, rfl⟩ ⟨_, _, _, rfl⟩ hne hL), sl_keepG (P := fun j => j ≠ w2.heap.size) HSZ.out (by omega) (fun j _ hj => hkp j hj) (fun b off _ _ e _ _ => by have := hrow.out b off (by cases e; rfl); omega)⟩
      rintro W ⟨x1, x2, x3, x4, x5, x6, x7⟩
      clear q0 q1 q2 q3 q4 q5 q6 fq0 fq1 fq2 fq3 fq4 fq5 fq6 p0 p1 p2 p3 p4 p5 p6 HZ2 HZ3 HL1 HQ1 HS1 HAV1 HU1 HSZ
      have hltW2 : w2.heap.size < W.heap.size := blk_lt x2
      have hltW3 : w3.heap.size < W.heap.size := blk_lt x3
      have X1 := Lib.hid x1
      have X2 := Lib.hid x2
      have X3 := Lib.hid x3
      have X4 := Lib.hid x4
      have X5 := Lib.hid x5
      have X6 := Lib.hid x6
      refine Calls.mono (HPL2.out W x7) ?_
      clear HPL2 x1 x2 x3 x4 x5 x6 x7
      rintro e u2 ⟨hU2, sb, ob, A2, k2, B2, m2, C2, j2, hpb, hob, rfl, hl2, hq2, sl2, sq2, hs2, hav2⟩
      obtain ⟨hsb, hmv⟩ := moved_play HPA.out hpb (good_newM HOK.out) HOKD.out hzwild.out
      have hga := (HPA.out.good (StOk.of (good_newM HOK.out) (fun _ h => by cases h) (fun _ h => by cases h)) (good_newM HOK.out)).2
      have hgb := (hpb.good (StOk.of (good_newM HOKD.out) (fun _ h => by cases h) (fun _ h => by cases h)) (good_newM HOKD.out)).2
      have hwa := good_wfp hga
      have hwb := good_wfp hgb
      have hla := hga.n1
      have hqa := hga.n2
      have hmp : ∀ (xs : List Piece), (∀ p ∈ xs, WfP p) → (∀ p ∈ xs.map (mvP (by_ * 256)), WfP p) → ∀ j, j < xs.length → MovedP (by_ * 256 % 4294967296) xs[j]! (xs.map (mvP (by_ * 256)))[j]! := fun xs h1 h2 j hj => by
        rw [get_mv _ _ _ hj]
        have g1 := h1 xs[j]! (by rw [getElem!_pos xs j hj]; exact List.getElem_mem hj)
        have g2 := h2 (mvP (by_ * 256) xs[j]!) (List.mem_map_of_mem (by rw [getElem!_pos xs j hj]; exact List.getElem_mem hj))
        generalize xs[j]! = p at g1 g2
        unfold WfP at g1 g2
        simp only [mvP] at g2 ⊢
        refine ⟨?_, rfl, rfl⟩
        simp only [IntKind.wrap, IntKind.bits, IntKind.signed]
        simp
        omega
      have HML : Hid (∀ j, j < sa.live.length → MovedP (by_ * 256 % 4294967296) sa.live[j]! sb.live[j]!) := by
        rw [hsb] at hwb ⊢
        exact hmp sa.live (fun p hp => hwa p (List.mem_append_left _ hp)) (fun p hp => hwb p (List.mem_append_left _ hp))
      have HMQ : Hid (∀ j, j < sa.quar.length → MovedP (by_ * 256 % 4294967296) sa.quar[j]! sb.quar[j]!) := by
        rw [hsb] at hwb ⊢
        exact hmp sa.quar (fun p hp => hwa p (List.mem_append_right _ hp)) (fun p hp => hwb p (List.mem_append_right _ hp))
      clear hga hgb hwa hwb hmp
      have HLB : Hid (sb.live = sa.live.map (mvP (by_ * 256))) := by rw [hsb]; rfl
      have HQB : Hid (sb.quar = sa.quar.map (mvP (by_ * 256))) := by rw [hsb]; rfl
      have el : sb.live.length = sa.live.length := by rw [HLB.out, List.length_map]
      have eq : sb.quar.length = sa.quar.length := by rw [HQB.out, List.length_map]
      have eo : ob.length = oa.length := hmv.len.symm
      have hAV2 := hav2 w3.heap.size (by omega) ⟨(fun _ e => by cases e), (fun _ e => by cases e)⟩
      have HMV := Lib.hid hmv
      have hoal : oa.length ≤ 60 := by rw [HOA.out, HZN.out]; exact hn60
      rw [el] at hl2
      rw [eq] at hq2
      rw [eo] at hs2
      rw [el, eq, eo]
      clear hsb hmv hob hpb hav2 sl2 sq2 HPA HOA el eq eo
      have hzb2 := (hU2.block _ hltW2).trans X2.out
      have hzb3 := (hU2.block _ hltW3).trans X3.out
      have HU2 := Lib.hid hU2
      have HL2 := Lib.hid hl2
      have HQ2 := Lib.hid hq2
      have HS2 := Lib.hid hs2
      have HAV2 := Lib.hid hAV2
      have q0 := blk_cell hzb2 0
      have q1 := blk_cell hzb2 1
      have q2 := blk_cell hzb2 2
      have q3 := blk_cell hzb2 3
      have q4 := blk_cell hzb2 4
      have q5 := blk_cell hzb2 5
      have q6 := blk_cell hzb2 6
      simp only [List.getElem?_toArray, List.getElem?_cons_succ, List.getElem?_cons_zero] at q0 q1 q2 q3 q4 q5 q6
      have z0 := blk_cell hzb3 0
      have fz0 : u2.frozen? ⟨w3.heap.size, 0, none⟩ = false := frozen_of_row _ _ _ _ _ hzb3
      have z1 := blk_cell hzb3 1
      have fz1 : u2.frozen? ⟨w3.heap.size, 1, none⟩ = false := frozen_of_row _ _ _ _ _ hzb3
      have z2 := blk_cell hzb3 2
      have fz2 : u2.frozen? ⟨w3.heap.size, 2, none⟩ = false := frozen_of_row _ _ _ _ _ hzb3
      have z3 := blk_cell hzb3 3
      have fz3 : u2.frozen? ⟨w3.heap.size, 3, none⟩ = false := frozen_of_row _ _ _ _ _ hzb3
      have z4 := blk_cell hzb3 4
      have fz4 : u2.frozen? ⟨w3.heap.size, 4, none⟩ = false := frozen_of_row _ _ _ _ _ hzb3
      have z5 := blk_cell hzb3 5
      have fz5 : u2.frozen? ⟨w3.heap.size, 5, none⟩ = false := frozen_of_row _ _ _ _ _ hzb3
      have z6 := blk_cell hzb3 6
      have fz6 : u2.frozen? ⟨w3.heap.size, 6, none⟩ = false := frozen_of_row _ _ _ _ _ hzb3
      simp only [List.getElem?_toArray, List.getElem?_cons_succ, List.getElem?_cons_zero] at z0 z1 z2 z3 z4 z5 z6
      have HZA := Lib.hid hzb2
      have HZB := Lib.hid hzb3
      have hlv2 : w2.heap.size < u2.heap.size := blk_lt hzb2
      have hlv3 : w3.heap.size < u2.heap.size := blk_lt hzb3
      obtain ⟨NL, hNL⟩ : ∃ n, sa.live.length = n := ⟨_, rfl⟩
      obtain ⟨NQ, hNQ⟩ : ∃ n, sa.quar.length = n := ⟨_, rfl⟩
      obtain ⟨NO, hNO⟩ : ∃ n, oa.length = n := ⟨_, rfl⟩
      rw [hNL] at HL2 X4 q4 HZA
      rw [hNQ] at HQ2 X5 q5 HZA
      rw [hNO] at HS2 X6 hoal
      rw [hNL, hNQ, hNO]
      have HNL := Lib.hid hNL
      have HNQ := Lib.hid hNQ
      have HNO := Lib.hid hNO
      have hne1 : (w2.heap.size = w3.heap.size) = False := eq_false (by omega)
      have hne2 : (w3.heap.size = w2.heap.size) = False := eq_false (by omega)
      have hw1 : IntKind.i64.wrap (by_ * 256) = by_ * 256 := by rw [IntKind.wrap_i64]; omega
      clear hU2 hl2 hq2 hs2 hAV2 hzb2 hzb3 hNL hNQ hNO
      go_wp2
      obtain ⟨D, hD⟩ : ∃ D, by_ * 256 % 4294967296 = D := ⟨_, rfl⟩
      rw [hD] at HML HMQ ⊢
      refine gen_worldP (fun V => Below w.heap.size w V ∧ V.heap[w2.heap.size]? = some (.cells #[.int .i64 sa.c.page, .int .i64 sa.c.n, .int .i64 sa.c.red, .int .i64 sa.c.quarantine, .slice A1 NL k1, .slice B1 NQ m1, .int .i64 sa.gi] 26 (0, 0)) ∧ V.heap[w3.heap.size]? = some (.cells #[.int .i64 sb.c.page, .int .i64 sb.c.n, .int .i64 sb.c.red, .int .i64 sb.c.quarantine, .slice A2 NL k2, .slice B2 NQ m2, .int .i64 sb.gi] 26 (0, 0)) ∧ V.heap[u2.heap.size]? = some (.cells #[.int .u32 D] 27 (0, 0)) ∧ Sl 3 encP V (.slice A1 NL k1) sa.live ∧ Sl 3 encP V (.slice B1 NQ m1) sa.quar ∧ Sl 3 encP V (.slice A2 NL k2) sb.live ∧ Sl 3 encP V (.slice B2 NQ m2) sb.quar ∧ Sl 1 encU V (.slice C1 NO j1) oa ∧ Sl 1 encU V (.slice C2 NO j2) ob) ?_ ?_
      · have hkp : ∀ j, j ≠ w3.heap.size → (((((((u2.setCell ⟨w3.heap.size, 0, none⟩ (.int .i64 sb.c.page)).setCell ⟨w3.heap.size, 1, none⟩ (.int .i64 sb.c.n)).setCell ⟨w3.heap.size, 2, none⟩ (.int .i64 sb.c.red)).setCell ⟨w3.heap.size, 3, none⟩ (.int .i64 sb.c.quarantine)).setCell ⟨w3.heap.size, 4, none⟩ (.slice A2 NL k2)).setCell ⟨w3.heap.size, 5, none⟩ (.slice B2 NQ m2)).setCell ⟨w3.heap.size, 6, none⟩ (.int .i64 sb.gi)).heap[j]? = u2.heap[j]? := fun j hj => by
          repeat' first | refine Eq.trans (Below.heap_setCell _ _ _ _ hj) ?_ | rfl
        have hsz7 : (((((((u2.setCell ⟨w3.heap.size, 0, none⟩ (.int .i64 sb.c.page)).setCell ⟨w3.heap.size, 1, none⟩ (.int .i64 sb.c.n)).setCell ⟨w3.heap.size, 2, none⟩ (.int .i64 sb.c.red)).setCell ⟨w3.heap.size, 3, none⟩ (.int .i64 sb.c.quarantine)).setCell ⟨w3.heap.size, 4, none⟩ (.slice A2 NL k2)).setCell ⟨w3.heap.size, 5, none⟩ (.slice B2 NQ m2)).setCell ⟨w3.heap.size, 6, none⟩ (.int .i64 sb.gi)).heap.size = u2.heap.size := by simp [World.setCell]
        have e1 := row_setCell (o := 0) (.int .i64 sb.c.page) HZB.out
        have e2 := row_setCell (o := 1) (.int .i64 sb.c.n) e1
        have e3 := row_setCell (o := 2) (.int .i64 sb.c.red) e2
        have e4 := row_setCell (o := 3) (.int .i64 sb.c.quarantine) e3
        have e5 := row_setCell (o := 4) (.slice A2 NL k2) e4
        have e6 := row_setCell (o := 5) (.slice B2 NQ m2) e5
        have e7 := row_setCell (o := 6) (.int .i64 sb.gi) e6
        simp only [List.setIfInBounds_toArray, List.set_cons_zero, List.set_cons_succ] at e7
        have hw : w.heap.size ≤ w3.heap.size := by omega
        have hbu : Below w.heap.size w u2 := X1.out.trans (HU2.out.mono X1.out.size)
        have hbel := ((((((hbu.setCell (p := ⟨w3.heap.size, 0, none⟩) hw (.int .i64 sb.c.page)).setCell (p := ⟨w3.heap.size, 1, none⟩) hw (.int .i64 sb.c.n)).setCell (p := ⟨w3.heap.size, 2, none⟩) hw (.int .i64 sb.c.red)).setCell (p := ⟨w3.heap.size, 3, none⟩) hw (.int .i64 sb.c.quarantine)).setCell (p := ⟨w3.heap.size, 4, none⟩) hw (.slice A2 NL k2)).setCell (p := ⟨w3.heap.size, 5, none⟩) hw (.slice B2 NQ m2)).setCell (p := ⟨w3.heap.size, 6, none⟩) hw (.int .i64 sb.gi)
        generalize (((((((u2.setCell ⟨w3.heap.size, 0, none⟩ (.int .i64 sb.c.page)).setCell ⟨w3.heap.size, 1, none⟩ (.int .i64 sb.c.n)).setCell ⟨w3.heap.size, 2, none⟩ (.int .i64 sb.c.red)).setCell ⟨w3.heap.size, 3, none⟩ (.int .i64 sb.c.quarantine)).setCell ⟨w3.heap.size, 4, none⟩ (.slice A2 NL k2)).setCell ⟨w3.heap.size, 5, none⟩ (.slice B2 NQ m2)).setCell ⟨w3.heap.size, 6, none⟩ (.int .i64 sb.gi)) = V at hkp hsz7 e7 hbel ⊢
        have hbV := below_alloc1 V (.cells #[.int .u32 D] 27)
        have hsz8 : u2.heap.size ≤ V.heap.size := by omega
        exact ⟨hbel.alloc (by omega) _, (hal_old ((hkp _ (by omega)).trans HZA.out)), hal_old e7, hal_new hsz7.symm,
          (sl_keepS (P := fun j => j ≠ w3.heap.size) (X4.out.below HU2.out) hsz8 (fun j _ hj => hkp j hj) HAV3.out.1).below hbV, (sl_keepS (P := fun j => j ≠ w3.heap.size) (X5.out.below HU2.out) hsz8 (fun j _ hj => hkp j hj) HAV3.out.2).below hbV,
          (sl_keepS (P := fun j => j ≠ w3.heap.size) HL2.out hsz8 (fun j _ hj => hkp j hj) HAV2.out.1).below hbV, (sl_keepS (P := fun j => j ≠ w3.heap.size) HQ2.out hsz8 (fun j _ hj => hkp j hj) HAV2.out.2).below hbV,
          (sl_keepG (P := fun j => j ≠ w3.heap.size) (X6.out.below HU2.out) hsz8 (fun j _ hj => hkp j hj) (fun b off _ _ _ hne hL => box_notU HZB.out ⟨_, _, _, rfl⟩ ⟨_, _, _, rfl⟩ hne hL)).below hbV, (sl_keepG (P := fun j => j ≠ w3.heap.size) HS2.out hsz8 (fun j _ hj => hkp j hj) (fun b off _ _ _ hne hL => box_notU HZB.out ⟨_, _, _, rfl⟩ ⟨_, _, _, rfl⟩ hne hL)).below hbV⟩
      rintro V ⟨y1, y2, y3, y4, y5, y6, y7, y8, y9, y10⟩
      clear q0 q1 q2 q3 q4 q5 q6 z0 z1 z2 z3 z4 z5 z6 fz0 fz1 fz2 fz3 fz4 fz5 fz6 X1 X2 X3 X4 X5 X6 HU2 HL2 HQ2 HS2 HAV2 HAV3 HZA HZB hne1 hne2 hw1
      have Y1 := Lib.hid y1
      have Y2 := Lib.hid y2
      have Y3 := Lib.hid y3
      have Y4 := Lib.hid y4
      have Y5 := Lib.hid y5
      have Y6 := Lib.hid y6
      have Y7 := Lib.hid y7
      have Y8 := Lib.hid y8
      have Y9 := Lib.hid y9
      have Y10 := Lib.hid y10
      have hlV2 : w2.heap.size < V.heap.size := blk_lt y2
      have hlV3 : w3.heap.size < V.heap.size := blk_lt y3
      have hlVD : u2.heap.size < V.heap.size := blk_lt y4
      have HD := Lib.hid hD
      clear y1 y2 y3 y4 y5 y6 y7 y8 y9 y10 hD hlv2 hlv3
      obtain ⟨wq, rfl⟩ : ∃ wq : World, wq = wr := ⟨_, rfl⟩
      go_loopg [104] NO (fun kx s104 wr => ∃ j : Nat, j ≤ NO ∧ s104 = .int .i64 j ∧ NO - j ≤ kx ∧ Hid (Below V.heap.size V wr))
      case atStart => exact ⟨0, Nat.zero_le _, rfl, by omega, Below.refl _ _⟩
      case round =>
        obtain ⟨j, hj, rfl, hjx, HBj⟩ := hrel
        have hb4 := (HBj.out.block _ hlVD).trans Y4.out
        have D0 : wr.cell? ⟨u2.heap.size, 0, none⟩ = some (.int .u32 D) := blk_cell hb4 0
        have hlrD : u2.heap.size < wr.heap.size := blk_lt hb4
        by_cases hjN : j < NO
        · have hja : j < oa.length := by rw [HNO.out]; exact hjN
          have hjb : j < ob.length := by rw [← HMV.out.len]; exact hja
          obtain ⟨ba, ofa, rfl, hLa⟩ := sl_atS (Y9.out.below HBj.out) hja
          obtain ⟨bb, ofb, rfl, hLb⟩ := sl_atS (Y10.out.below HBj.out) hjb
          have ma := hLa.2 j hja 0 _ rfl
          have mb := hLb.2 j hjb 0 _ rfl
          have hmv := HMV.out.at j hja
          simp only [Nat.mul_one, Nat.add_zero] at ma mb
          generalize oa[j]! = x at ma hmv
          generalize ob[j]! = y at mb hmv
          have hla' : ba < wr.heap.size := hLa.1
          have hlb' : bb < wr.heap.size := hLb.1
          have j4 : (j : Int) < (NO : Int) := by omega
          clear hLa hLb hja hjb hb4
          rcases hmv with ⟨rfl, rfl⟩ | ⟨hx0, hxy, hy0, g0, g1, g2, g3⟩
          · go_wp2
            go_quiet (fail)
            go_wp2
            go_roundg (NO - (j + 1))
            case measure => omega
            case rel => exact ⟨j + 1, by omega, by go_num, Nat.le_refl _, below_drewN HBj.out _⟩
          · have t1 : (x == 0) = false := by simpa using hx0
            have t2 : (y == 0) = false := by simpa using hy0
            have t5 : (x != 0) = true := by simpa using hx0
            have t6 : (y != y) = false := by simp
            have t3 : (x + D) % 4294967296 = y := by have := HD.out; omega
            have t4 : IntKind.u32.wrap (x + D) = y := by simp only [IntKind.wrap, IntKind.bits, IntKind.signed]; simpa using t3
            clear hxy hx0 hy0
            go_wp2
            go_quiet (fail)
            go_wp2
            go_roundg (NO - (j + 1))
            case measure => omega
            case rel => exact ⟨j + 1, by omega, by go_num, Nat.le_refl _, below_drewN HBj.out _⟩
        · obtain rfl : j = NO := by omega
          clear hjN
          have hb2 := (HBj.out.block _ hlV2).trans Y2.out
          have hb3 := (HBj.out.block _ hlV3).trans Y3.out
          have q4 := blk_cell hb2 4
          have q5 := blk_cell hb2 5
          have p4 := blk_cell hb3 4
          have p5 := blk_cell hb3 5
          simp only [List.getElem?_toArray, List.getElem?_cons_succ, List.getElem?_cons_zero] at q4 q5 p4 p5
          have hlr2' : w2.heap.size < wr.heap.size := blk_lt hb2
          have hlr3' : w3.heap.size < wr.heap.size := blk_lt hb3
          have he1 := c56 (.slice A1 NL k1) (.slice A2 NL k2) sa.live sb.live D u2.heap.size wr (Y5.out.below HBj.out) (Y7.out.below HBj.out) (by omega) (by rw [HLB.out, List.length_map]) D0 hlrD HML.out
          have he2 := fun U (hU : Below wr.heap.size wr U) => c56 (.slice B1 NQ m1) (.slice B2 NQ m2) sa.quar sb.quar D u2.heap.size U ((Y6.out.below HBj.out).below hU) ((Y8.out.below HBj.out).below hU) (by omega) (by rw [HQB.out, List.length_map]) ((hU.cell (p := ⟨u2.heap.size, 0, none⟩) hlrD).trans D0) (Nat.lt_of_lt_of_le hlrD hU.size) HMQ.out
          have HB2 := Lib.hid hb2
          have HB3 := Lib.hid hb3
          have HE1 := Lib.hid he1
          have HE2 := Lib.hid he2
          have HBW9 : Hid (Below w.heap.size w wr) := Y1.out.trans (HBj.out.mono Y1.out.size)
          clear hb2 hb3 hb4 he1 he2
          go_wp2_with fail
          refine Calls.mono HE1.out ?_
          clear HE1
          rintro e r1 ⟨rfl, hR1⟩
          have hb2 := (hR1.block _ hlr2').trans HB2.out
          have hb3 := (hR1.block _ hlr3').trans HB3.out
          have q5 := blk_cell hb2 5
          have p5 := blk_cell hb3 5
          simp only [List.getElem?_toArray, List.getElem?_cons_succ, List.getElem?_cons_zero] at q5 p5
          have HR1 := Lib.hid hR1
          clear hb2 hb3 hR1
          go_wp2_with fail
          refine Calls.mono (HE2.out r1 HR1.out) ?_
          clear HE2
          rintro e r2 ⟨rfl, hR2⟩
          have HR2 := Lib.hid hR2
          clear hR2
          go_wp2
          go_ret
          exact ⟨rfl, HBW9.out.trans ((HR1.out.trans (HR2.out.mono HR1.out.size)).mono HBW9.out.size)⟩
end Go.Proofs.Ytbhbjcgbhklieaa
