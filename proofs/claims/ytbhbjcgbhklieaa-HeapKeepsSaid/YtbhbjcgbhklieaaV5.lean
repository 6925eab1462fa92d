/- HeapKeeps: the walk. -/
import Derived.Test.YtbhbjcgbhklieaaV4
import Derived.Test.YtbhbjcgbhklieaaE12
import Derived.Test.YtbhbjcgbhklieaaR2
namespace Go.Proofs.Ytbhbjcgbhklieaa
open Go.RowKit Go.Shelf

set_option maxRecDepth 100000 in
set_option maxHeartbeats 8000000 in
theorem c13 (c : Conf) (lv qv : Value) (gi : Int) (live quar : List Piece) (ov : Value) (ops : List OpV) (w : World) (hin : HeapIn w c lv qv gi live quar) (ho : OpsIn w ov ops) (n1 : live.length ≤ 8796093022208) (n2 : quar.length ≤ 8796093022208) :
    Calls Try.prog 13 #[hAgg c lv qv gi, ov] w fun e w' => e = .returned (.bool true) ∧ Below w.heap.size w w' := by
  have HL := Lib.hid hin.hl
  have HQ := Lib.hid hin.hq
  have HWL : Hid (∀ p ∈ live, WfP p) := fun p hp => (hin.wl p hp).1
  have HWQ : Hid (∀ p ∈ quar, WfP p) := fun p hp => (hin.wq p hp).1
  have HSL := Lib.hid hin.sl
  have HSQ := Lib.hid hin.sq
  have HO := Lib.hid ho.sl
  have HOE := Lib.hid ho.each
  have hol := ho.len
  have HN1 := Lib.hid n1
  have HN2 := Lib.hid n2
  obtain ⟨A, k, rfl, _, _⟩ := id hin.hl
  obtain ⟨B, m, rfl, _, _⟩ := id hin.hq
  obtain ⟨PA, pc, rfl, _, _⟩ := id ho.sl
  obtain ⟨n, hnn⟩ : ∃ n, ops.length = n := ⟨_, rfl⟩
  rw [hnn] at hol HO ⊢
  have HN := Lib.hid hnn
  clear hin ho hnn n1 n2
  go_enter Try.func13, Try.ntmps13
  go_wp2_with fail
  refine Calls.mono (c16 _) ?_
  rintro e w1 ⟨rfl, hB1⟩
  have hb0 : w1.heap[w.heap.size]? = some (.cells #[.int .i64 c.page, .int .i64 c.n, .int .i64 c.red, .int .i64 c.quarantine, .slice A live.length k, .slice B quar.length m, .int .i64 gi] 26 (0, 0)) := (hB1.block _ (by simp)).trans (hal_new rfl)
  have hBw : Below w.heap.size w w1 := (below_alloc1 w _).trans (hB1.mono (by simp))
  have q0 := blk_cell hb0 0
  have q1 := blk_cell hb0 1
  have q2 := blk_cell hb0 2
  have q3 := blk_cell hb0 3
  have q4 := blk_cell hb0 4
  have q5 := blk_cell hb0 5
  have q6 := blk_cell hb0 6
  simp only [List.getElem?_toArray, List.getElem?_cons_succ, List.getElem?_cons_zero] at q0 q1 q2 q3 q4 q5 q6
  have HB0 := Lib.hid hb0
  have HBW := Lib.hid hBw
  have hlt0 : w.heap.size < w1.heap.size := blk_lt hb0
  clear hB1 hb0 hBw
  go_wp2_with fail
  refine Calls.mono (c17 w1.heap.size c A B live.length k quar.length m gi _ (hal_new rfl)) ?_
  rintro e w2 ⟨rfl, hB2⟩
  have HBW2 : Hid (Below w.heap.size w w2) := (HBW.out.alloc HBW.out.size _).trans (hB2.mono (by have := HBW.out.size; simp; omega))
  have hb2 := (hB2.block _ (by simp; omega)).trans (hal_old HB0.out)
  have HB2 := Lib.hid hb2
  have hlt2 : w.heap.size < w2.heap.size := blk_lt hb2
  clear q0 q1 q2 q3 q4 q5 q6 hB2
  have q0 := blk_cell hb2 0
  have q1 := blk_cell hb2 1
  have q2 := blk_cell hb2 2
  have q3 := blk_cell hb2 3
  have q4 := blk_cell hb2 4
  have q5 := blk_cell hb2 5
  have q6 := blk_cell hb2 6
  simp only [List.getElem?_toArray, List.getElem?_cons_succ, List.getElem?_cons_zero] at q0 q1 q2 q3 q4 q5 q6
  clear hb2
  cases hmf : manyF live.length quar.length with
  | true =>
    go_wp2
    go_ret
    exact ⟨rfl, HBW2.out⟩
  | false =>
  have hsm := few_len hmf HN1.out HN2.out
  have HSM := Lib.hid hsm
  by_cases hn40 : 40 < n
  · have d1 : decide ((40 : Int) < (n : Int)) = true := decide_eq_true (by omega)
    go_wp2
    go_ret
    exact ⟨rfl, HBW2.out⟩
  have d1 : decide ((40 : Int) < (n : Int)) = false := decide_eq_false (by omega)
  have eg : ∀ args w, (callFunc 51 args).run Try.prog w = .ok (.enter 51 args) w := enters_of Try.func51 (by kernel_rfl) rfl
  have hc := c51 c A k B m gi live quar w2 (HL.out.below HBW2.out) (HQ.out.below HBW2.out) HSL.out HSQ.out (by omega) (by omega)
  have HC := Lib.hid hc
  clear hc hmf hsm
  go_wp2_with fail
  try go_at_fn 51
  refine Calls.mono HC.out ?_
  rintro e w3 ⟨hB3, A1, c1, A2, c2, rfl, o1, o2, o3⟩
  have hb3 := (hB3.block _ hlt2).trans HB2.out
  have HBW3 : Hid (Below w.heap.size w w3) := HBW2.out.trans (hB3.mono HBW2.out.size)
  have HOW : Hid (Own2 w3 (w.heap.size + 1) ⟨c, gi, live, quar⟩ A1 c1 A2 c2) := ⟨own_base o1 (by omega), own_base o2 (by omega), o3⟩
  have hlt3 : w.heap.size < w3.heap.size := blk_lt hb3
  clear q0 q1 q2 q3 q4 q5 q6 hB3 o1 o2 o3 HC
  have q0 := blk_cell hb3 0
  have q1 := blk_cell hb3 1
  have q2 := blk_cell hb3 2
  have q3 := blk_cell hb3 3
  have q4 := blk_cell hb3 4
  have q5 := blk_cell hb3 5
  have q6 := blk_cell hb3 6
  have f0 : w3.frozen? ⟨w.heap.size, 0, none⟩ = false := frozen_of_row _ _ _ _ _ hb3
  have f1 : w3.frozen? ⟨w.heap.size, 1, none⟩ = false := frozen_of_row _ _ _ _ _ hb3
  have f2 : w3.frozen? ⟨w.heap.size, 2, none⟩ = false := frozen_of_row _ _ _ _ _ hb3
  have f3 : w3.frozen? ⟨w.heap.size, 3, none⟩ = false := frozen_of_row _ _ _ _ _ hb3
  have f4 : w3.frozen? ⟨w.heap.size, 4, none⟩ = false := frozen_of_row _ _ _ _ _ hb3
  have f5 : w3.frozen? ⟨w.heap.size, 5, none⟩ = false := frozen_of_row _ _ _ _ _ hb3
  have f6 : w3.frozen? ⟨w.heap.size, 6, none⟩ = false := frozen_of_row _ _ _ _ _ hb3
  simp only [List.getElem?_toArray, List.getElem?_cons_succ, List.getElem?_cons_zero] at q0 q1 q2 q3 q4 q5 q6
  have HB3 := Lib.hid hb3
  clear hb3
  go_wp2
  obtain ⟨t1, t2, t3, t4⟩ := store7 HB3.out (.int .i64 c.page) (.int .i64 c.n) (.int .i64 c.red) (.int .i64 c.quarantine) (.slice A1 live.length c1) (.slice A2 quar.length c2) (.int .i64 gi)
  refine gen_worldP (fun W => Below w.heap.size w W ∧ W.heap[w.heap.size]? = some (.cells #[.int .i64 c.page, .int .i64 c.n, .int .i64 c.red, .int .i64 c.quarantine, .slice A1 live.length c1, .slice A2 quar.length c2, .int .i64 gi] 26 (0, 0)) ∧ Own2 W (w.heap.size + 1) ⟨c, gi, live, quar⟩ A1 c1 A2 c2) ⟨HBW3.out.trans t1, t2, HOW.out.kept (fun x hx => t4 x (by omega))⟩ ?_
  clear t1 t2 t3 t4 q0 q1 q2 q3 q4 q5 q6 f0 f1 f2 f3 f4 f5 f6
  rintro W ⟨x1, x2, x3⟩
  have X1 := Lib.hid x1
  have X2 := Lib.hid x2
  have X3 := Lib.hid x3
  clear x1 x2 x3
  go_loopg [31] n (fun kx s31 wr => ∃ (i : Nat) (r : HRes) (A : Option Addr) (k : Nat) (B : Option Addr) (m : Nat), i ≤ n ∧ s31 = .int .i64 i ∧ n - i ≤ kx ∧ Hid (Below w.heap.size w wr) ∧ Hid (wr.heap[w.heap.size]? = some (.cells #[.int .i64 r.c.page, .int .i64 r.c.n, .int .i64 r.c.red, .int .i64 r.c.quarantine, .slice A r.live.length k, .slice B r.quar.length m, .int .i64 r.gi] 26 (0, 0))) ∧ Hid (Own2 wr (w.heap.size + 1) r A k B m) ∧ Hid ((∀ p ∈ r.live, WfP p) ∧ (∀ p ∈ r.quar, WfP p) ∧ r.live.length + r.quar.length ≤ 60))
  case atStart => exact ⟨0, ⟨c, gi, live, quar⟩, A1, c1, A2, c2, Nat.zero_le _, rfl, by omega, X1.out, X2.out, X3.out, HWL.out, HWQ.out, HSM.out⟩
  case round =>
    clear X1 X2 X3
    obtain ⟨i, r, A5, k5, B5, m5, hi, rfl, hkx, Z1, Z2, Z3, Z4⟩ := hrel
    by_cases hlt : i < n
    rotate_left
    · obtain rfl : i = n := by omega
      clear hlt
      go_wp2
      go_ret
      exact ⟨rfl, Z1.out⟩
    have hil : i < ops.length := by rw [HN.out]; exact hlt
    obtain ⟨pb, poff, rfl, hP⟩ := sl_atS (HN.out ▸ HO.out : Sl 5 encO w (.slice PA n pc) ops) hil
    have hPr := hP.below Z1.out
    have m0 := hPr.2 i hil 0 _ rfl
    have m1 := hPr.2 i hil 1 _ rfl
    have m2 := hPr.2 i hil 2 _ rfl
    have m3 := hPr.2 i hil 3 _ rfl
    have m4 := hPr.2 i hil 4 _ rfl
    simp only [Nat.add_zero] at m0
    have hop : 0 ≤ ops[i]!.pos ∧ ops[i]!.pos < 4294967296 := by
      have := HOE.out ops[i]! (by rw [getElem!_pos ops i hil]; exact List.getElem_mem hil)
      exact this.2.2.2
    refine round13 _ ops[i]! i n pb poff pc r A5 B5 k5 m5 w.heap.size wr _ _ _ _ _ _ _ _ _ _ _ _ _ _ _ _ _ _ _ _ _ _ _ _ _ _ _ _ _ _ _ _ _ _ _ _ _ _ _ _ _ _ _ _ _ _ _ _ _ _ _ _ _ _ _ _ _ _ _ _ _ _ _ _ _ _ _ _ _ _ _ _ _ _ _ _ _ _ _ _ _ _ _ _ _ _ _ _ _ _ _ _ _ _ _ _ _ _ _ _ _ _ _ _ _ _ _ Z2.out Z3.out Z4.out.1 Z4.out.2.1 Z4.out.2.2 hlt m0 m1 m2 m3 m4 hPr.1 hop ?_ ?_
    · clear hP hPr m0 m1 m2 m3 m4 hop
      intro v7 v8 v9 v10 v11 v12 v13 v14 v32 v33 v34 v35 v36 v37 v38 v39 v40 v41 v42 v43 v44 v45 v46 v47 v48 v49 v50 v51 v52 v53 v54 v55 v56 v57 v58 v59 v60 v61 v62 v63 v64 v65 v66 v67 v68 v69 v70 v71 v72 v73 v74 v75 v76 v77 v78 v79 v80 v81 v82 v83 v84 v85 v86 v87 v88 v89 v90 v91 v92 v93 v94 v95 v96 v97 v98 v99 v100 v101 v102 v103 v104 v105 v106 v107 v108 v109 v110 v111 W' r2 A6 B6 k6 m6 y1 y2 y3 y4
      have Y1 := Lib.hid y1
      have Y2 := Lib.hid y2
      have Y3 := Lib.hid y3
      have Y4 := Lib.hid y4
      clear y1 y2 y3 y4
      go_wp2
      go_roundg (n - (i + 1))
      case measure => omega
      case rel => exact ⟨i + 1, r2, A6, k6, B6, m6, by omega, (by rw [show wrap64 ((i : Int) + 1) = ((i + 1 : Nat) : Int) from by unfold wrap64; omega]), Nat.le_refl _, Z1.out.trans Y1.out, Y2.out, Y3.out, Y4.out⟩
    · clear hP hPr m0 m1 m2 m3 m4 hop
      intro v7 v8 v9 v10 v11 v12 v13 v14 v32 v33 v34 v35 v36 v37 v38 v39 v40 v41 v42 v43 v44 v45 v46 v47 v48 v49 v50 v51 v52 v53 v54 v55 v56 v57 v58 v59 v60 v61 v62 v63 v64 v65 v66 v67 v68 v69 v70 v71 v72 v73 v74 v75 v76 v77 v78 v79 v80 v81 v82 v83 v84 v85 v86 v87 v88 v89 v90 v91 v92 v93 v94 v95 v96 v97 v98 v99 v100 v101 v102 v103 v104 v105 v106 v107 v108 v109 v110 v111 W' y1
      have Y1 := Lib.hid y1
      clear y1
      go_wp2
      go_ret
      exact ⟨rfl, Z1.out.trans Y1.out⟩
end Go.Proofs.Ytbhbjcgbhklieaa
