/- The specification's Outside. -/
import Derived.Test.YtbhbjcgbhklieaaQ2
namespace Go.Proofs.Ytbhbjcgbhklieaa
open Go.RowKit Go.Shelf

set_option maxRecDepth 100000 in
set_option maxHeartbeats 4000000 in
theorem c37 (c : Conf) (lv qv : Value) (gi : Int) (live quar : List Piece) (L : List Ext) (at_ n : Int) (w : World) (hl : Sl 3 encP w lv live) (hq : Sl 3 encP w qv quar) (wl : ∀ p ∈ live, WfP p) (wq : ∀ p ∈ quar, WfP p) (hO : Op c gi live quar L) (h0 : 0 ≤ at_) (h1 : at_ < 4294967296) (hn0 : -9223372036854775808 ≤ n) (hn1 : n ≤ 9223372036854775807) :
    Calls Try.prog 37 #[hAgg c lv qv gi, .int .u32 at_, .int .i64 n] w fun e w' => e = outR (outGo L live n.toNat at_ n) ∧ Below w.heap.size w w' := by
  have hgp := (good_iff wl wq).1 hO.good
  have hn64 := hgp.n1
  have hB : Below w.heap.size w (w.alloc (.cells #[.int .i64 c.page, .int .i64 c.n, .int .i64 c.red, .int .i64 c.quarantine, lv, qv, .int .i64 gi] 26)) := below_alloc1 w _
  have h18 := c18 c lv qv gi live quar _ (hl.below hB) (hq.below hB) wl wq
  have h38 := fun a W (hW : Below w.heap.size w W) (a0 : 0 ≤ a) (a1 : a < 4294967296) => c38 c lv qv gi live quar L a W (hl.below hW) (hq.below hW) wl wq hO a0 a1
  have hsize := good_size' hO.good wl wq
  have H18 := Lib.hid h18
  have H38 := Lib.hid h38
  have HB := Lib.hid hB
  have HG := Lib.hid hgp
  have HL := Lib.hid hl
  have HOP := Lib.hid hO
  have HSZ := Lib.hid hsize
  obtain ⟨A, ca, rfl, _, _⟩ := id hl
  obtain ⟨B, cb, rfl, _, _⟩ := hq
  clear h18 h38 hB wl wq hl hgp hO hsize
  go_enter Try.func37, Try.ntmps37
  go_wp2_with fail
  refine Calls.mono H18.out ?_
  clear H18
  rintro e w1 ⟨hB1, ⟨hg, rfl⟩ | ⟨hg, rfl⟩⟩
  · exact absurd HG.out hg
  have hb0 : w1.heap[w.heap.size]? = some (.cells #[.int .i64 c.page, .int .i64 c.n, .int .i64 c.red, .int .i64 c.quarantine, .slice A live.length ca, .slice B quar.length cb, .int .i64 gi] 26 (0, 0)) := (hB1.block _ (by simp; try omega)).trans (hal_new rfl)
  have HBW : Hid (Below w.heap.size w w1) := HB.out.trans (hB1.mono (by simp; try omega))
  have HB0 := Lib.hid hb0
  have hlt0 : w.heap.size < w1.heap.size := blk_lt hb0
  clear hb0 hB1 hg HB
  by_cases hn : n < 1
  · have hout : outGo L live n.toNat at_ n = none := by rw [show n.toNat = 0 by omega]; rfl
    have HO2 := Lib.hid hout
    clear hout
    have d1 : decide (n < 1) = true := decide_eq_true hn
    go_wp2
    go_ret2
    exact ⟨by rw [HO2.out]; rfl, HBW.out⟩
  have d1 : decide (n < 1) = false := decide_eq_false hn
  go_wp2
  go_loopg [1, 8] n.toNat (fun kx s1 s8 wr => ∃ (a m : Int), 0 ≤ a ∧ a < 4294967296 ∧ 0 ≤ m ∧ m ≤ 9223372036854775807 ∧ s1 = .int .u32 a ∧ s8 = .int .i64 m ∧ m.toNat ≤ kx ∧ Hid (rOutGo L live kx a m = outGo L live n.toNat at_ n) ∧ Hid (Below w1.heap.size w1 wr))
  case atStart => exact ⟨at_, n, h0, h1, by omega, hn1, rfl, rfl, Nat.le_refl _, rOut_eq L live _ _ _, Below.refl _ _⟩
  case round =>
    obtain ⟨a, m, a0, a1, m0, m1, rfl, rfl, hkx, HOUT, HBr⟩ := hrel
    have hsr := HBr.out.size
    by_cases hm : 0 < m
    · have hcall := H38.out a wr (HBW.out.trans (HBr.out.mono (by omega))) a0 a1
      have HN := Lib.hid hcall
      have hbr := (HBr.out.block _ hlt0).trans HB0.out
      have q0 := blk_cell hbr 0
      have q1 := blk_cell hbr 1
      have q2 := blk_cell hbr 2
      have q3 := blk_cell hbr 3
      have q4 := blk_cell hbr 4
      have q5 := blk_cell hbr 5
      have q6 := blk_cell hbr 6
      simp only [List.getElem?_toArray, List.getElem?_cons_succ, List.getElem?_cons_zero] at q0 q1 q2 q3 q4 q5 q6
      clear hcall hbr
      have hgt : ¬ m ≤ 0 := by omega
      obtain ⟨f, rfl⟩ : ∃ f, gk = f + 1 := ⟨gk - 1, by omega⟩
      have hout := HOUT.out
      rw [rOutGo, if_neg hgt] at hout
      go_wp2_with fail
      refine Calls.mono HN.out ?_
      clear HN
      rintro e w2 ⟨rfl, hB2⟩
      have hB12 : Below w1.heap.size w1 w2 := HBr.out.trans (hB2.mono hsr)
      have hbr2 := (hB12.block _ hlt0).trans HB0.out
      have hlt2 : w.heap.size < w2.heap.size := blk_lt hbr2
      clear q0 q1 q2 q3 q4 q5 q6
      by_cases hk : (nearF L a).1 = 1
      · obtain ⟨j, hj, e1, e2, o0, o1⟩ := near_live HOP.out hk
        have hpc : ∀ (k : Nat) u, (encP live[j]!)[k]? = some u → ∃ bb off, A = some ⟨bb, off, none⟩ ∧ bb < w2.heap.size ∧ w2.cell? ⟨bb, off + j * 3 + k, none⟩ = some u := fun k u hu => by
          obtain ⟨A', c', e, _, hl⟩ := (HL.out.below HBW.out).below hB12
          cases e
          obtain ⟨bb, off, eA, hl2⟩ := hl.resolve_left (by rintro rfl; simp at hj)
          exact ⟨bb, off, eA, hl2.1, hl2.2 j hj k u hu⟩
        have hsz1 := HSZ.out live[j]! (List.mem_append_left _ (by rw [getElem!_pos live j hj]; exact List.getElem_mem hj))
        rw [if_neg (by rw [hk]; simp), e1, e2, Int.toNat_natCast] at hout
        obtain ⟨bb, off, rfl, hbb, hc1⟩ := hpc 1 _ rfl
        have q0 := blk_cell hbr2 0
        have q1 := blk_cell hbr2 1
        have q2 := blk_cell hbr2 2
        have q3 := blk_cell hbr2 3
        have q4 := blk_cell hbr2 4
        have q5 := blk_cell hbr2 5
        have q6 := blk_cell hbr2 6
        simp only [List.getElem?_toArray, List.getElem?_cons_succ, List.getElem?_cons_zero] at q0 q1 q2 q3 q4 q5 q6
        rw [hk, e1, e2]
        generalize live[j]! = x at hout hc1 o0 o1 hsz1 ⊢
        have HOUT2 := Lib.hid hout
        have HB12 := Lib.hid hB12
        clear hout hB12 hbr2 hpc e1 e2 hk HOUT hB2
        have hu2 : IntKind.i64.wrap (x.size - (a - x.pos)) = x.size - (a - x.pos) := by rw [IntKind.wrap_i64]; omega
        by_cases hmn : m ≤ x.size - (a - x.pos)
        all_goals
          have hu : IntKind.u32.wrap (a + IntKind.u32.wrap (min m (x.size - (a - x.pos)))) = (a + min m (x.size - (a - x.pos))) % 4294967296 := by simp only [IntKind.wrap, IntKind.bits, IntKind.signed]; simp
          have hu3 : IntKind.i64.wrap (m - min m (x.size - (a - x.pos))) = m - min m (x.size - (a - x.pos)) := by rw [IntKind.wrap_i64]; omega
          go_wp2
          go_quiet (fail)
          go_wp2
          go_roundg f
          case measure => omega
          case rel =>
            refine ⟨_, _, by omega, by omega, ?_, ?_, rfl, rfl, by omega, HOUT2.out, ?_⟩
            · omega
            · omega
            · exact below_drewN (HB12.out.alloc HB12.out.size _) _
      · have hk' : ((nearF L a).1 == 1) = false := by simpa using hk
        rw [if_pos hk] at hout
        have HOUT2 := Lib.hid hout
        have HB12 := Lib.hid hB12
        generalize (nearF L a).1 = z1 at hk hk' ⊢
        generalize (nearF L a).2.1 = z2 at ⊢
        generalize (nearF L a).2.2 = z3 at ⊢
        clear hout hB12 HOUT hB2 hbr2
        go_wp2
        go_ret2
        exact ⟨by rw [← HOUT2.out]; rfl, (HBW.out.trans (HB12.out.mono (by omega))).alloc (by have := HB12.out.size; omega) _⟩
    · have hle : m ≤ 0 := by omega
      have hout : outGo L live n.toNat at_ n = none := by
        rw [← HOUT.out]
        cases gk with
        | zero => rfl
        | succ f => rw [rOutGo, if_pos hle]
      have HOUT2 := Lib.hid hout
      clear hout HOUT
      go_wp2
      go_ret2
      exact ⟨by rw [HOUT2.out]; rfl, HBW.out.trans (HBr.out.mono (by omega))⟩
end Go.Proofs.Ytbhbjcgbhklieaa
