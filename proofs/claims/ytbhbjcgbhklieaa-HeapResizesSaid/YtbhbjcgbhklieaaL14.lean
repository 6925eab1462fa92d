/- HeapResizes: the walk. -/
import Derived.Test.YtbhbjcgbhklieaaE12
import Derived.Test.YtbhbjcgbhklieaaF2
import Derived.Test.YtbhbjcgbhklieaaF4
import Derived.Test.YtbhbjcgbhklieaaG2
import Derived.Test.YtbhbjcgbhklieaaG4
import Derived.Test.YtbhbjcgbhklieaaM4
import Derived.Test.YtbhbjcgbhklieaaR1
import Derived.Deep.RegionHeld3
namespace Go.Proofs.Ytbhbjcgbhklieaa
open Go.RowKit Go.Shelf

theorem wrap_u64 {x : Int} (h0 : 0 ≤ x) (h1 : x < 1000000) : IntKind.u64.wrap x = x := by
  have h2 : x < 2 ^ 64 := Int.lt_trans h1 (by decide)
  simp only [IntKind.wrap, IntKind.signed, IntKind.bits]
  exact Int.emod_eq_of_lt h0 h2
theorem sl_at {α : Type} [Inhabited α] {k : Nat} {enc : α → List Value} {w : World} {A : Option Addr} {n c : Nat} {zs : List α} (h : Sl k enc w (.slice A n c) zs) {j : Nat} (hj : j < zs.length) : ∃ b off, A = some ⟨b, off, none⟩ ∧ Lies k enc w b off zs := by
  obtain ⟨A', c', e, _, h0 | ⟨b, off, rfl, hl⟩⟩ := h
  · subst h0; simp at hj
  · cases e; exact ⟨b, off, rfl, hl⟩

set_option maxRecDepth 100000 in
set_option maxHeartbeats 4000000 in
theorem c14 (c : Conf) (lv qv : Value) (gi : Int) (live quar : List Piece) (ok oN oI oA : Int) (oW : Bool) (w : World) (hin : HeapIn w c lv qv gi live quar) :
    Calls Try.prog 14 #[hAgg c lv qv gi, .agg #[.int .i64 ok, .int .i64 oN, .int .i64 oI, .int .u32 oA, .bool oW]] w fun e w' => e = .returned (.bool true) ∧ Below w.heap.size w w' := by
  have HL := Lib.hid hin.hl
  have HQ := Lib.hid hin.hq
  have HWL : Hid (∀ p ∈ live, WfP p) := fun p hp => (hin.wl p hp).1
  have HWQ : Hid (∀ p ∈ quar, WfP p) := fun p hp => (hin.wq p hp).1
  have HSL := Lib.hid hin.sl
  have HSQ := Lib.hid hin.sq
  obtain ⟨A, ca, rfl, _, _⟩ := id hin.hl
  obtain ⟨B, cb, rfl, _, _⟩ := id hin.hq
  clear hin
  go_enter Try.func14, Try.ntmps14
  go_wp2_with fail
  refine Calls.mono (c16 _) ?_
  rintro e w1 ⟨rfl, hB1⟩
  have hb0 : w1.heap[w.heap.size]? = some (.cells #[.int .i64 c.page, .int .i64 c.n, .int .i64 c.red, .int .i64 c.quarantine, .slice A live.length ca, .slice B quar.length cb, .int .i64 gi] 26 (0, 0)) := (hB1.block _ (by simp; try omega)).trans (hal_old (hal_new rfl))
  have hb1 : w1.heap[w.heap.size + 1]? = some (.cells #[.int .i64 ok, .int .i64 oN, .int .i64 oI, .int .u32 oA, .bool oW] 29 (0, 0)) := (hB1.block _ (by simp; try omega)).trans (hal_new (by simp))
  have hBw : Below w.heap.size w w1 := (((Below.refl _ _).alloc (Nat.le_refl _) _).alloc (by simp; try omega) _).trans (hB1.mono (by simp; try omega))
  have q0 := blk_cell hb0 0
  have q1 := blk_cell hb0 1
  have q2 := blk_cell hb0 2
  have q3 := blk_cell hb0 3
  have q4 := blk_cell hb0 4
  have q5 := blk_cell hb0 5
  have q6 := blk_cell hb0 6
  simp only [List.getElem?_toArray, List.getElem?_cons_succ, List.getElem?_cons_zero] at q0 q1 q2 q3 q4 q5 q6
  have HB0 := Lib.hid hb0
  have HB1 := Lib.hid hb1
  have HBW := Lib.hid hBw
  have hlt0 : w.heap.size + 1 < w1.heap.size := blk_lt hb1
  clear hB1 hBw hb0 hb1
  go_wp2_with fail
  refine Calls.mono (c17 w1.heap.size c A B live.length ca quar.length cb gi _ (hal_new rfl)) ?_
  rintro e w2 ⟨rfl, hB2⟩
  have hb02 : w2.heap[w.heap.size]? = some (.cells #[.int .i64 c.page, .int .i64 c.n, .int .i64 c.red, .int .i64 c.quarantine, .slice A live.length ca, .slice B quar.length cb, .int .i64 gi] 26 (0, 0)) := (hB2.block _ (by simp; omega)).trans (hal_old HB0.out)
  have hBw2 : Below w.heap.size w w2 := (HBW.out.alloc (by omega) _).trans (hB2.mono (by simp; omega))
  have hB12 : Below w1.heap.size w1 w2 := (below_alloc1 w1 _).trans (hB2.mono (by simp))
  clear q0 q1 q2 q3 q4 q5 q6
  have q0 := blk_cell hb02 0
  have q1 := blk_cell hb02 1
  have q2 := blk_cell hb02 2
  have q3 := blk_cell hb02 3
  have q4 := blk_cell hb02 4
  have q5 := blk_cell hb02 5
  have q6 := blk_cell hb02 6
  simp only [List.getElem?_toArray, List.getElem?_cons_succ, List.getElem?_cons_zero] at q0 q1 q2 q3 q4 q5 q6
  have HB02 := Lib.hid hb02
  have HBW2 := Lib.hid hBw2
  have HB12 := Lib.hid hB12
  clear hB2 hb02 hBw2 hB12
  cases hmf : manyF live.length quar.length with
  | true =>
    go_wp2
    go_ret
    exact ⟨rfl, HBW2.out⟩
  | false =>
    have h18 := c18 c _ _ gi live quar w2 (HL.out.below HBW2.out) (HQ.out.below HBW2.out) HWL.out HWQ.out
    have H18 := Lib.hid h18
    have HMF := Lib.hid hmf
    clear h18
    go_wp2_with fail
    refine Calls.mono H18.out ?_
    clear H18 hmf
    rintro e w3 ⟨hB3, ⟨hng, rfl⟩ | ⟨hg, rfl⟩⟩
    · have HBW3 : Hid (Below w.heap.size w w3) := HBW2.out.trans (hB3.mono HBW2.out.size)
      clear hB3 hng
      go_wp2
      go_ret
      exact ⟨rfl, HBW3.out⟩
    have HG := Lib.hid hg
    have hb03 : w3.heap[w.heap.size]? = some (.cells #[.int .i64 c.page, .int .i64 c.n, .int .i64 c.red, .int .i64 c.quarantine, .slice A live.length ca, .slice B quar.length cb, .int .i64 gi] 26 (0, 0)) := (hB3.block _ (blk_lt HB02.out)).trans HB02.out
    have HBW3 : Hid (Below w.heap.size w w3) := HBW2.out.trans (hB3.mono HBW2.out.size)
    have HB13 : Hid (Below w1.heap.size w1 w3) := HB12.out.trans (hB3.mono HB12.out.size)
    have hlt3 : w1.heap.size ≤ w3.heap.size := HB13.out.size
    have HGD : Hid (Good c gi live quar) := (good_iff HWL.out HWQ.out).2 hg
    have hgi0 := hg.gi0
    have hgi1 := hg.gi1
    have hn1 := hg.n1
    have hn2 := hg.n2
    clear q0 q1 q2 q3 q4 q5 q6
    have q0 := blk_cell hb03 0
    have q1 := blk_cell hb03 1
    have q2 := blk_cell hb03 2
    have q3 := blk_cell hb03 3
    have q4 := blk_cell hb03 4
    have q5 := blk_cell hb03 5
    have q6 := blk_cell hb03 6
    simp only [List.getElem?_toArray, List.getElem?_cons_succ, List.getElem?_cons_zero] at q0 q1 q2 q3 q4 q5 q6
    have HB03 := Lib.hid hb03
    clear hB3 hg hb03 HBW2 HB02 HB12 HBW HB0
    have hb13 : w3.heap[w.heap.size + 1]? = some (.cells #[.int .i64 ok, .int .i64 oN, .int .i64 oI, .int .u32 oA, .bool oW] 29 (0, 0)) := (HB13.out.block _ (blk_lt HB1.out)).trans HB1.out
    have HB13x := Lib.hid hb13
    have hlt3' : w.heap.size + 1 < w3.heap.size := blk_lt hb13
    clear hb13
    by_cases he : live.length = 0
    · have he' : ((live.length : Int) == 0) = true := by rw [he]; rfl
      go_wp2
      go_ret
      exact ⟨rfl, HBW3.out⟩
    have he' : ((live.length : Int) == 0) = false := by simpa using he
    obtain ⟨i, hi, hrem, _⟩ := idx_of oI live.length (by omega) (by omega)
    obtain ⟨bb, off, rfl, hL⟩ := sl_at (HL.out.below HBW3.out) hi
    have hlb : bb < w3.heap.size := hL.1
    obtain ⟨m0, m1, m2⟩ := hL.at3 i hi
    have hpm : live[i]! ∈ live := by rw [getElem!_pos live i hi]; exact List.getElem_mem hi
    obtain ⟨p, hp⟩ : ∃ p, live[i]! = p := ⟨_, rfl⟩
    rw [hp] at m0 m1 m2 hpm
    have HPM := Lib.hid hpm
    have hi0 : (0 : Int) ≤ (i : Int) := by omega
    have hi1 : (i : Int) < (live.length : Int) := by omega
    have hwp := HWL.out p hpm
    obtain ⟨pw0, pw1⟩ := hwp
    have hwl : IntKind.u64.wrap (live.length : Int) = (live.length : Int) := wrap_u64 (by omega) (by omega)
    clear hL hp hpm
    go_wp2
    have hmx : Try.prog.follows .mixedOrders = true := by kernel_rfl
    refine wp_region_held_drew (S := fun w' => w'.heap[w.heap.size]? = some (.cells #[.int .i64 c.page, .int .i64 c.n, .int .i64 c.red, .int .i64 c.quarantine, .slice (some ⟨bb, off, none⟩) live.length ca, .slice B quar.length cb, .int .i64 gi] 26 (0, 0)) ∧ w'.heap[w.heap.size + 1]? = some (.cells #[.int .i64 ok, .int .i64 oN, .int .i64 oI, .int .u32 oA, .bool oW] 29 (0, 0)) ∧ w'.cell? ⟨bb, off + i * 3, none⟩ = some (.int .u32 p.pos) ∧ w'.cell? ⟨bb, off + i * 3 + 1, none⟩ = some (.int .i64 p.size) ∧ w'.cell? ⟨bb, off + i * 3 + 2, none⟩ = some (.int .i64 p.born)) hmx ⟨HB03.out, HB13x.out, m0, m1, m2⟩ ?_
    intro hS0
    clear q0 q1 q2 q3 q4 q5 q6
    refine wpAnyH_take (i := 0) (v := .pointer (some ⟨w.heap.size, 4, none⟩)) rfl (by kernel_rfl) (by kernel_rfl) (by kernel_rfl) (fun _ _ _ h => h) (Or.inl ⟨by rfl, ?hy⟩) hS0 ?_
    case hy => intro w9 hSw; obtain ⟨k0, k1, s7, s8, s9⟩ := hSw; have s0 := blk_cell k0 4; have s1 := blk_cell k1 2; simp only [List.getElem?_toArray, List.getElem?_cons_succ, List.getElem?_cons_zero] at s0 s1; go_simp
    go_simp
    refine wpAnyH_take (i := 1) (v := .slice (some ⟨bb, off, none⟩) live.length ca) rfl (by kernel_rfl) (by kernel_rfl) (by kernel_rfl) (fun _ _ _ h => h) (Or.inl ⟨by rfl, ?hy⟩) hS0 ?_
    case hy => intro w9 hSw; obtain ⟨k0, k1, s7, s8, s9⟩ := hSw; have s0 := blk_cell k0 4; have s1 := blk_cell k1 2; simp only [List.getElem?_toArray, List.getElem?_cons_succ, List.getElem?_cons_zero] at s0 s1; go_simp
    go_simp
    refine wpAnyH_take (i := 2) (v := .pointer (some ⟨w.heap.size + 1, 2, none⟩)) rfl (by kernel_rfl) (by kernel_rfl) (by kernel_rfl) (fun _ _ _ h => h) (Or.inl ⟨by rfl, ?hy⟩) hS0 ?_
    case hy => intro w9 hSw; obtain ⟨k0, k1, s7, s8, s9⟩ := hSw; have s0 := blk_cell k0 4; have s1 := blk_cell k1 2; simp only [List.getElem?_toArray, List.getElem?_cons_succ, List.getElem?_cons_zero] at s0 s1; go_simp
    go_simp
    refine wpAnyH_take (i := 3) (v := .int .i64 oI) rfl (by kernel_rfl) (by kernel_rfl) (by kernel_rfl) (fun _ _ _ h => h) (Or.inl ⟨by rfl, ?hy⟩) hS0 ?_
    case hy => intro w9 hSw; obtain ⟨k0, k1, s7, s8, s9⟩ := hSw; have s0 := blk_cell k0 4; have s1 := blk_cell k1 2; simp only [List.getElem?_toArray, List.getElem?_cons_succ, List.getElem?_cons_zero] at s0 s1; go_simp
    go_simp
    refine wpAnyH_take (i := 4) (v := .int .u64 (IntKind.u64.wrap oI)) rfl (by kernel_rfl) (by kernel_rfl) (by kernel_rfl) (fun _ _ _ h => h) (Or.inl ⟨by rfl, ?hy⟩) hS0 ?_
    case hy => intro w9 hSw; obtain ⟨k0, k1, s7, s8, s9⟩ := hSw; have s0 := blk_cell k0 4; have s1 := blk_cell k1 2; simp only [List.getElem?_toArray, List.getElem?_cons_succ, List.getElem?_cons_zero] at s0 s1; go_simp
    go_simp
    refine wpAnyH_take (i := 5) (v := .pointer (some ⟨w.heap.size, 4, none⟩)) rfl (by kernel_rfl) (by kernel_rfl) (by kernel_rfl) (fun _ _ _ h => h) (Or.inl ⟨by rfl, ?hy⟩) hS0 ?_
    case hy => intro w9 hSw; obtain ⟨k0, k1, s7, s8, s9⟩ := hSw; have s0 := blk_cell k0 4; have s1 := blk_cell k1 2; simp only [List.getElem?_toArray, List.getElem?_cons_succ, List.getElem?_cons_zero] at s0 s1; go_simp
    go_simp
    refine wpAnyH_take (i := 6) (v := .slice (some ⟨bb, off, none⟩) live.length ca) rfl (by kernel_rfl) (by kernel_rfl) (by kernel_rfl) (fun _ _ _ h => h) (Or.inl ⟨by rfl, ?hy⟩) hS0 ?_
    case hy => intro w9 hSw; obtain ⟨k0, k1, s7, s8, s9⟩ := hSw; have s0 := blk_cell k0 4; have s1 := blk_cell k1 2; simp only [List.getElem?_toArray, List.getElem?_cons_succ, List.getElem?_cons_zero] at s0 s1; go_simp
    go_simp
    refine wpAnyH_take (i := 7) (v := .int .i64 live.length) rfl (by kernel_rfl) (by kernel_rfl) (by kernel_rfl) (fun _ _ _ h => h) (Or.inl ⟨by rfl, ?hy⟩) hS0 ?_
    case hy => intro w9 hSw; obtain ⟨k0, k1, s7, s8, s9⟩ := hSw; have s0 := blk_cell k0 4; have s1 := blk_cell k1 2; simp only [List.getElem?_toArray, List.getElem?_cons_succ, List.getElem?_cons_zero] at s0 s1; go_simp
    go_simp
    refine wpAnyH_take (i := 8) (v := .int .u64 live.length) rfl (by kernel_rfl) (by kernel_rfl) (by kernel_rfl) (fun _ _ _ h => h) (Or.inl ⟨by rfl, ?hy⟩) hS0 ?_
    case hy => intro w9 hSw; obtain ⟨k0, k1, s7, s8, s9⟩ := hSw; have s0 := blk_cell k0 4; have s1 := blk_cell k1 2; simp only [List.getElem?_toArray, List.getElem?_cons_succ, List.getElem?_cons_zero] at s0 s1; go_simp
    go_simp
    refine wpAnyH_take (i := 9) (v := .int .u64 i) rfl (by kernel_rfl) (by kernel_rfl) (by kernel_rfl) (fun _ _ _ h => h) (Or.inl ⟨by rfl, ?hy⟩) hS0 ?_
    case hy => intro w9 hSw; obtain ⟨k0, k1, s7, s8, s9⟩ := hSw; have s0 := blk_cell k0 4; have s1 := blk_cell k1 2; simp only [List.getElem?_toArray, List.getElem?_cons_succ, List.getElem?_cons_zero] at s0 s1; go_simp
    go_simp
    refine wpAnyH_take (i := 10) (v := .pointer (some ⟨bb, off + i * 3, none⟩)) rfl (by kernel_rfl) (by kernel_rfl) (by kernel_rfl) (fun _ _ _ h => h) (Or.inl ⟨by rfl, ?hy⟩) hS0 ?_
    case hy => intro w9 hSw; obtain ⟨k0, k1, s7, s8, s9⟩ := hSw; have s0 := blk_cell k0 4; have s1 := blk_cell k1 2; simp only [List.getElem?_toArray, List.getElem?_cons_succ, List.getElem?_cons_zero] at s0 s1; go_simp
    go_simp
    refine wpAnyH_take (i := 11) (v := .agg #[.int .u32 p.pos, .int .i64 p.size, .int .i64 p.born]) rfl (by kernel_rfl) (by kernel_rfl) (by kernel_rfl) (fun _ _ _ h => h) (Or.inl ⟨by rfl, ?hy⟩) hS0 ?_
    case hy => intro w9 hSw; obtain ⟨k0, k1, s7, s8, s9⟩ := hSw; have s0 := blk_cell k0 4; have s1 := blk_cell k1 2; simp only [List.getElem?_toArray, List.getElem?_cons_succ, List.getElem?_cons_zero] at s0 s1; go_simp
    go_simp
    refine wpAnyH_ready (rs := [12]) (by kernel_rfl) (by simp) ?_
    refine AllReadyH.cons rfl (fun K hK => ?_) AllReadyH.nil
    go_simp
    refine hK.out _ _ ⟨hal_old hS0.1, hal_old hS0.2.1, cells_alloc hS0.2.2.1, cells_alloc hS0.2.2.2.1, cells_alloc hS0.2.2.2.2⟩ (fun hS1 => ?_)
    clear hK K
    refine wpAnyH_ready (rs := [13]) (by kernel_rfl) (by simp) ?_
    refine AllReadyH.cons rfl (fun K hK => ?_) AllReadyH.nil
    go_simp
    refine hK.out _ _ ⟨hal_old hS0.1, hal_old hS0.2.1, cells_alloc hS0.2.2.1, cells_alloc hS0.2.2.2.1, cells_alloc hS0.2.2.2.2⟩ (fun hS2 => ?_)
    clear hK K
    refine wpAnyH_done (by kernel_rfl) ?_ _
    go_simp
    refine gen_worldQ (fun W => Below w3.heap.size w3 W ∧ W.heap[w3.heap.size]? = some (.cells #[.int .u32 p.pos, .int .i64 p.size, .int .i64 p.born] 38 (0, 0))) ⟨(Below.refl _ _).drew.alloc (Nat.le_refl _) _, hal_new rfl⟩ ?_
    rintro W4 ⟨hW4, hb4⟩
    have HBW4 : Hid (Below w.heap.size w W4) := HBW3.out.trans (hW4.mono HBW3.out.size)
    have hb04 := (hW4.block _ (blk_lt HB03.out)).trans HB03.out
    have hb14 := (hW4.block _ (blk_lt HB13x.out)).trans HB13x.out
    have HX0 := Lib.hid hb04
    have HX1 := Lib.hid hb14
    have HX2 := Lib.hid hb4
    have HLs : Hid (Sl 3 encP w (.slice (some ⟨bb, off, none⟩) live.length ca) live) := HL.out
    clear hS0 hS1 hS2 m0 m1 m2 hrem hwl hW4 hb4 hb04 hb14
    have q0 := blk_cell HX0.out 0
    have q1 := blk_cell HX0.out 1
    have q2 := blk_cell HX0.out 2
    have q3 := blk_cell HX0.out 3
    have q4 := blk_cell HX0.out 4
    have q5 := blk_cell HX0.out 5
    have q6 := blk_cell HX0.out 6
    simp only [List.getElem?_toArray, List.getElem?_cons_succ, List.getElem?_cons_zero] at q0 q1 q2 q3 q4 q5 q6
    have r0 := blk_cell HX1.out 0
    have r1 := blk_cell HX1.out 1
    have r2 := blk_cell HX1.out 2
    have r3 := blk_cell HX1.out 3
    have r4 := blk_cell HX1.out 4
    simp only [List.getElem?_toArray, List.getElem?_cons_succ, List.getElem?_cons_zero] at r0 r1 r2 r3 r4
    have t0 := blk_cell HX2.out 0
    have t1 := blk_cell HX2.out 1
    have t2 := blk_cell HX2.out 2
    simp only [List.getElem?_toArray, List.getElem?_cons_succ, List.getElem?_cons_zero] at t0 t1 t2
    have hlt4 : w3.heap.size < W4.heap.size := blk_lt HX2.out
    have hrs := c52 c _ _ gi live quar p.pos oN W4 (HL.out.below HBW4.out) (HQ.out.below HBW4.out) HWL.out HWQ.out HSL.out HSQ.out
    have HRS := Lib.hid hrs
    clear hrs
    go_wp2_with fail
    refine Calls.mono HRS.out ?_
    clear HRS
    rintro e w5 ⟨hB5, hans⟩
    have HBW5 : Hid (Below w.heap.size w w5) := HBW4.out.trans (hB5.mono HBW4.out.size)
    replace HX0 := Lib.hid ((hB5.block _ (blk_lt HX0.out)).trans HX0.out)
    replace HX1 := Lib.hid ((hB5.block _ (blk_lt HX1.out)).trans HX1.out)
    replace HX2 := Lib.hid ((hB5.block _ (blk_lt HX2.out)).trans HX2.out)
    clear q0 q1 q2 q3 q4 q5 q6
    clear r0 r1 r2 r3 r4
    clear t0 t1 t2
    have q0 := blk_cell HX0.out 0
    have q1 := blk_cell HX0.out 1
    have q2 := blk_cell HX0.out 2
    have q3 := blk_cell HX0.out 3
    have q4 := blk_cell HX0.out 4
    have q5 := blk_cell HX0.out 5
    have q6 := blk_cell HX0.out 6
    simp only [List.getElem?_toArray, List.getElem?_cons_succ, List.getElem?_cons_zero] at q0 q1 q2 q3 q4 q5 q6
    have r0 := blk_cell HX1.out 0
    have r1 := blk_cell HX1.out 1
    have r2 := blk_cell HX1.out 2
    have r3 := blk_cell HX1.out 3
    have r4 := blk_cell HX1.out 4
    simp only [List.getElem?_toArray, List.getElem?_cons_succ, List.getElem?_cons_zero] at r0 r1 r2 r3 r4
    have t0 := blk_cell HX2.out 0
    have t1 := blk_cell HX2.out 1
    have t2 := blk_cell HX2.out 2
    simp only [List.getElem?_toArray, List.getElem?_cons_succ, List.getElem?_cons_zero] at t0 t1 t2
    have hlt5 : w3.heap.size < w5.heap.size := blk_lt HX2.out
    have hl50 : w.heap.size < w5.heap.size := blk_lt HX0.out
    have hl51 : w.heap.size + 1 < w5.heap.size := blk_lt HX1.out
    have hisp : isI live p.pos = true := (isI_iff HG.out.pos p.pos).2 ⟨p, HPM.out, rfl⟩
    clear hB5
    rcases hans with ⟨hng, rfl⟩ | ⟨_, hi', rfl⟩ | ⟨_, _, hbz, rfl⟩ | ⟨L, hop, _, z0, z1, hno, rfl⟩ | ⟨L, v, hop, _, z0, z1, hv, hn, hg, lv', qv', rfl, hl', hq'⟩
    · exact absurd HGD.out hng
    · rw [hisp] at hi'; cases hi'
    · skip
      go_wp2_with fail
      refine gen_worldC (fun W => Below w5.heap.size w5 W ∧ W.heap[w5.heap.size]? = some (.cells #[.int .i64 0, .int .i64 0, .int .i64 0, .int .i64 0, .slice none 0 0, .slice none 0 0, .int .i64 0] 26 (0, 0))) ⟨(Below.refl _ _).alloc (Nat.le_refl _) _, hal_new rfl⟩ ?_
      rintro W6 ⟨hW6, hb6⟩
      have HBW6 : Hid (Below w.heap.size w W6) := HBW5.out.trans (hW6.mono HBW5.out.size)
      refine Calls.mono (c23 c _ _ gi live quar oN W6 (HL.out.below HBW6.out) (HQ.out.below HBW6.out) HWL.out HWQ.out HSL.out HSQ.out) ?_
      rintro e w7 ⟨hB7, hans⟩
      have HBW7 : Hid (Below w.heap.size w w7) := HBW6.out.trans (hB7.mono HBW6.out.size)
      have hb7 := (hB7.block _ (blk_lt hb6)).trans hb6
      have hlt7 : w5.heap.size < w7.heap.size := blk_lt hb7
      have u0 := blk_cell hb7 0
      have u1 := blk_cell hb7 1
      have u2 := blk_cell hb7 2
      have u3 := blk_cell hb7 3
      have u4 := blk_cell hb7 4
      have u5 := blk_cell hb7 5
      have u6 := blk_cell hb7 6
      simp only [List.getElem?_toArray, List.getElem?_cons_succ, List.getElem?_cons_zero] at u0 u1 u2 u3 u4 u5 u6
      clear q0 q1 q2 q3 q4 q5 q6
      clear r0 r1 r2 r3 r4
      clear t0 t1 t2
      clear hB7 hW6 hb6 hb7 hisp
      have he7 : e = .returned (.tuple #[hNil, .int .u32 0, .int .i64 1]) := by
        rcases hans with ⟨hng, rfl⟩ | ⟨_, hbz', rfl⟩ | ⟨L', hop', y0, y1, hno', rfl⟩ | ⟨L', v', hop', y0, y1, hv', hn', hg', _, _, rfl, _, _⟩
        · exact absurd HGD.out hng
        · rfl
        · omega
        · omega
      subst he7
      clear hans
      go_wp2
      go_ret
      refine ⟨rfl, ?_⟩
      exact HBW7.out.alloc HBW7.out.size _
    · skip
      go_wp2_with fail
      refine gen_worldC (fun W => Below w5.heap.size w5 W ∧ W.heap[w5.heap.size]? = some (.cells #[.int .i64 0, .int .i64 0, .int .i64 0, .int .i64 0, .slice none 0 0, .slice none 0 0, .int .i64 0] 26 (0, 0))) ⟨(Below.refl _ _).alloc (Nat.le_refl _) _, hal_new rfl⟩ ?_
      rintro W6 ⟨hW6, hb6⟩
      have HBW6 : Hid (Below w.heap.size w W6) := HBW5.out.trans (hW6.mono HBW5.out.size)
      refine Calls.mono (c23 c _ _ gi live quar oN W6 (HL.out.below HBW6.out) (HQ.out.below HBW6.out) HWL.out HWQ.out HSL.out HSQ.out) ?_
      rintro e w7 ⟨hB7, hans⟩
      have HBW7 : Hid (Below w.heap.size w w7) := HBW6.out.trans (hB7.mono HBW6.out.size)
      have hb7 := (hB7.block _ (blk_lt hb6)).trans hb6
      have hlt7 : w5.heap.size < w7.heap.size := blk_lt hb7
      have u0 := blk_cell hb7 0
      have u1 := blk_cell hb7 1
      have u2 := blk_cell hb7 2
      have u3 := blk_cell hb7 3
      have u4 := blk_cell hb7 4
      have u5 := blk_cell hb7 5
      have u6 := blk_cell hb7 6
      simp only [List.getElem?_toArray, List.getElem?_cons_succ, List.getElem?_cons_zero] at u0 u1 u2 u3 u4 u5 u6
      clear q0 q1 q2 q3 q4 q5 q6
      clear r0 r1 r2 r3 r4
      clear t0 t1 t2
      clear hB7 hW6 hb6 hb7 hisp
      have he7 : e = .returned (.tuple #[hNil, .int .u32 0, .int .i64 2]) := by
        rcases hans with ⟨hng, rfl⟩ | ⟨_, hbz', rfl⟩ | ⟨L', hop', y0, y1, hno', rfl⟩ | ⟨L', v', hop', y0, y1, hv', hn', hg', _, _, rfl, _, _⟩
        · exact absurd HGD.out hng
        · omega
        · rfl
        · exfalso
          obtain rfl := hop.uniq hop'
          rw [hv'] at hno
          rcases hno with h | h | h
          · cases h
          · exact hn' h
          · exact hg' h
      subst he7
      clear hans
      go_wp2
      go_ret
      refine ⟨rfl, ?_⟩
      exact HBW7.out.alloc HBW7.out.size _
    obtain ⟨live1, e1⟩ : ∃ l, insF live (atI live v) ⟨v, oN, gi + 1⟩ = l := ⟨_, rfl⟩
    rw [e1] at hl' hq'
    obtain ⟨live2, e2⟩ : ∃ l, live1.eraseIdx (atI live1 p.pos) = l := ⟨_, rfl⟩
    obtain ⟨quar2, e3⟩ : ∃ l, trimF c.quarantine (quar ++ [live1[atI live1 p.pos]!]) = l := ⟨_, rfl⟩
    rw [e2] at hl'
    rw [e3] at hq'
    obtain ⟨x1, x2, x3, x4, x5, x6, x7, x8, x9⟩ := resized hop HWL.out HWQ.out z0 z1 hv hn hg HPM.out e1 e2 e3
    have hvr := room_range hop hv
    have hv0 : 0 ≤ v := by omega
    have hv1 := hvr.2
    have X1 := Lib.hid x1
    have X2 := Lib.hid x2
    have X3 := Lib.hid x3
    have X4 := Lib.hid x4
    have X5 := Lib.hid x5
    have X6 := Lib.hid x6
    have X8 := Lib.hid x8
    have X9 := Lib.hid x9
    have x7' : (v == p.pos) = false := by simpa using x7
    obtain ⟨A1, k1, rfl, _, _⟩ := id hl'.sl
    obtain ⟨A2, k2, rfl, _, _⟩ := id hq'.sl
    have HFL := Lib.hid hl'
    have HFQ := Lib.hid hq'
    obtain ⟨n2, hn2⟩ : ∃ n, quar2.length = n := ⟨_, rfl⟩
    rw [x8, hn2]
    have HN2 := Lib.hid hn2
    clear hop hv hn hg hl' hq' e1 e2 e3 x1 x2 x3 x4 x5 x6 x8 x9 hvr hisp hn2
    go_wp2_with fail
    refine gen_worldC (fun W => Below w5.heap.size w5 W ∧ W.heap[w5.heap.size]? = some (.cells #[.int .i64 c.page, .int .i64 c.n, .int .i64 c.red, .int .i64 c.quarantine, .slice A1 live.length k1, .slice A2 n2 k2, .int .i64 (gi + 1)] 26 (0, 0))) ⟨(Below.refl _ _).alloc (Nat.le_refl _) _, hal_new rfl⟩ ?_
    rintro W6 ⟨hW6, hb6⟩
    have HBW6 : Hid (Below w.heap.size w W6) := HBW5.out.trans (hW6.mono HBW5.out.size)
    have HSA : Hid (Sl 3 encP W6 (.slice A1 live.length k1) live2) := X8.out ▸ (HFL.out.sl.below hW6)
    have HSB : Hid (Sl 3 encP W6 (.slice A2 n2 k2) quar2) := HN2.out ▸ (HFQ.out.sl.below hW6)
    refine Calls.mono (c35 c _ _ (gi + 1) live2 quar2 v W6 HSA.out HSB.out X2.out X3.out) ?_
    rintro e w7 ⟨hB7, ⟨hng, rfl⟩ | ⟨_, his, rfl⟩ | ⟨_, _, rfl⟩⟩
    · exact absurd X1.out hng
    · rw [X4.out] at his; cases his
    rw [X5.out]
    have HBW7 : Hid (Below w.heap.size w w7) := HBW6.out.trans (hB7.mono HBW6.out.size)
    have hb7 := (hB7.block _ (blk_lt hb6)).trans hb6
    have hW7 : Below w5.heap.size w5 w7 := hW6.trans (hB7.mono hW6.size)
    replace HX0 := Lib.hid ((hW7.block _ (blk_lt HX0.out)).trans HX0.out)
    replace HX1 := Lib.hid ((hW7.block _ (blk_lt HX1.out)).trans HX1.out)
    replace HX2 := Lib.hid ((hW7.block _ (blk_lt HX2.out)).trans HX2.out)
    clear q0 q1 q2 q3 q4 q5 q6
    clear r0 r1 r2 r3 r4
    clear t0 t1 t2
    have q0 := blk_cell HX0.out 0
    have q1 := blk_cell HX0.out 1
    have q2 := blk_cell HX0.out 2
    have q3 := blk_cell HX0.out 3
    have q4 := blk_cell HX0.out 4
    have q5 := blk_cell HX0.out 5
    have q6 := blk_cell HX0.out 6
    simp only [List.getElem?_toArray, List.getElem?_cons_succ, List.getElem?_cons_zero] at q0 q1 q2 q3 q4 q5 q6
    have r0 := blk_cell HX1.out 0
    have r1 := blk_cell HX1.out 1
    have r2 := blk_cell HX1.out 2
    have r3 := blk_cell HX1.out 3
    have r4 := blk_cell HX1.out 4
    simp only [List.getElem?_toArray, List.getElem?_cons_succ, List.getElem?_cons_zero] at r0 r1 r2 r3 r4
    have t0 := blk_cell HX2.out 0
    have t1 := blk_cell HX2.out 1
    have t2 := blk_cell HX2.out 2
    simp only [List.getElem?_toArray, List.getElem?_cons_succ, List.getElem?_cons_zero] at t0 t1 t2
    have u0 := blk_cell hb7 0
    have u1 := blk_cell hb7 1
    have u2 := blk_cell hb7 2
    have u3 := blk_cell hb7 3
    have u4 := blk_cell hb7 4
    have u5 := blk_cell hb7 5
    have u6 := blk_cell hb7 6
    simp only [List.getElem?_toArray, List.getElem?_cons_succ, List.getElem?_cons_zero] at u0 u1 u2 u3 u4 u5 u6
    have HB7 := Lib.hid hb7
    have H67 := Lib.hid hB7
    clear hB7 hW6 hb6 hb7 hW7
    go_wp2_with fail
    refine Calls.mono (c35 c _ _ (gi + 1) live2 quar2 p.pos w7 (HSA.out.below H67.out) (HSB.out.below H67.out) X2.out X3.out) ?_
    rintro e w8 ⟨hB8, ⟨hng, rfl⟩ | ⟨_, _, rfl⟩ | ⟨_, his, rfl⟩⟩
    · exact absurd X1.out hng
    rotate_left
    · rw [X6.out] at his; cases his
    have HBW8 : Hid (Below w.heap.size w w8) := HBW7.out.trans (hB8.mono HBW7.out.size)
    have hb8 := (hB8.block _ (blk_lt HB7.out)).trans HB7.out
    have H68 : Hid (Below W6.heap.size W6 w8) := H67.out.trans (hB8.mono H67.out.size)
    replace HX0 := Lib.hid ((hB8.block _ (blk_lt HX0.out)).trans HX0.out)
    replace HX1 := Lib.hid ((hB8.block _ (blk_lt HX1.out)).trans HX1.out)
    replace HX2 := Lib.hid ((hB8.block _ (blk_lt HX2.out)).trans HX2.out)
    clear q0 q1 q2 q3 q4 q5 q6
    clear r0 r1 r2 r3 r4
    clear t0 t1 t2
    have q0 := blk_cell HX0.out 0
    have q1 := blk_cell HX0.out 1
    have q2 := blk_cell HX0.out 2
    have q3 := blk_cell HX0.out 3
    have q4 := blk_cell HX0.out 4
    have q5 := blk_cell HX0.out 5
    have q6 := blk_cell HX0.out 6
    simp only [List.getElem?_toArray, List.getElem?_cons_succ, List.getElem?_cons_zero] at q0 q1 q2 q3 q4 q5 q6
    have r0 := blk_cell HX1.out 0
    have r1 := blk_cell HX1.out 1
    have r2 := blk_cell HX1.out 2
    have r3 := blk_cell HX1.out 3
    have r4 := blk_cell HX1.out 4
    simp only [List.getElem?_toArray, List.getElem?_cons_succ, List.getElem?_cons_zero] at r0 r1 r2 r3 r4
    have t0 := blk_cell HX2.out 0
    have t1 := blk_cell HX2.out 1
    have t2 := blk_cell HX2.out 2
    simp only [List.getElem?_toArray, List.getElem?_cons_succ, List.getElem?_cons_zero] at t0 t1 t2
    clear u0 u1 u2 u3 u4 u5 u6
    have u0 := blk_cell hb8 0
    have u1 := blk_cell hb8 1
    have u2 := blk_cell hb8 2
    have u3 := blk_cell hb8 3
    have u4 := blk_cell hb8 4
    have u5 := blk_cell hb8 5
    have u6 := blk_cell hb8 6
    simp only [List.getElem?_toArray, List.getElem?_cons_succ, List.getElem?_cons_zero] at u0 u1 u2 u3 u4 u5 u6
    have HB8 := Lib.hid hb8
    have hlt8 : w5.heap.size < w8.heap.size := blk_lt hb8
    clear hB8 hb8
    have hcf := c24_any 53 #[.pointer (some ⟨w3.heap.size, 0, none⟩), .pointer (some ⟨w5.heap.size, 0, none⟩)] eg53 (.slice (some ⟨bb, off, none⟩) live.length ca) live (fun y => decide (y ≠ p) && decide (y ∉ live2)) w8 (HL.out.below HBW8.out) (by omega)
      (fun W x hW => (c53 w3.heap.size w5.heap.size p x (.slice A1 live.length k1) live2 W ((hW.block _ (blk_lt HX2.out)).trans HX2.out) ((hW.cell (p := ⟨w5.heap.size, 4, none⟩) hlt8).trans (blk_cell HB8.out 4)) (Nat.lt_of_lt_of_le hlt8 hW.size) (HSA.out.below (H68.out.trans (hW.mono H68.out.size))) (by rw [X8.out]; omega)).mono (fun e w' h => ⟨h.1, hW.trans (h.2.mono hW.size)⟩)) (fun h0 => he (by rw [h0]; rfl))
    have hany : (live.any fun y => decide (y ≠ p) && decide (y ∉ live2)) = false := by
      rw [List.any_eq_false]
      intro y hy
      by_cases hyp : y = p
      · simp [hyp]
      · simp [X9.out y hy hyp]
    rw [hany] at hcf
    have HCF := Lib.hid hcf
    clear hcf hany
    go_wp2_with fail
    refine Calls.mono HCF.out ?_
    rintro e w9 ⟨rfl, hB9⟩
    go_wp2
    go_ret
    exact ⟨rfl, HBW8.out.trans (hB9.mono HBW8.out.size)⟩
end Go.Proofs.Ytbhbjcgbhklieaa
