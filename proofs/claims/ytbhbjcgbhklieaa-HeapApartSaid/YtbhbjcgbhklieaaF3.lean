/- The specification's small functions. | all: the list of all blocks. | The specification's New. -/
import Derived.Test.YtbhbjcgbhklieaaE4
namespace Go.Proofs.Ytbhbjcgbhklieaa
open Go.RowKit Go.Shelf

set_option maxRecDepth 100000 in
set_option maxHeartbeats 1000000 in
theorem c60 (c : Conf) (w : World) :
    Calls Try.prog 60 #[.agg #[.int .i64 c.page, .int .i64 c.n, .int .i64 c.red, .int .i64 c.quarantine]] w fun e w' => e = .returned (.bool (okConf c)) ∧ w' = w.alloc (.cells #[.int .i64 c.page, .int .i64 c.n, .int .i64 c.red, .int .i64 c.quarantine] 23) := by
  obtain ⟨pg, n, red, qu⟩ := c
  dsimp only
  go_enter Try.func60, Try.ntmps60
  go_wp2
  all_goals (go_ret; exact ⟨ret_bool (by show (_ : Bool) = _; rw [Bool.eq_iff_iff]; simp only [okConf, decide_eq_true_eq]; (try simp); omega), rfl⟩)

theorem c63 (pg n r q : Int) (w : World) (h0 : 0 ≤ pg) (h1 : pg ≤ 16777216) :
    Calls Try.prog 63 #[.agg #[.int .i64 pg, .int .i64 n, .int .i64 r, .int .i64 q]] w fun e w' => e = .returned (.int .i64 (pg * 256)) ∧ Below w.heap.size w w' := by
  go_enter Try.func63, Try.ntmps63
  go_wp2
  go_ret
  exact ⟨rfl, below_alloc1 _ _⟩
theorem c65 (pg n r q : Int) (w : World) (h0 : 0 ≤ pg) (h1 : pg ≤ 16777216) (h2 : 0 ≤ n) (h3 : n ≤ 2000) :
    Calls Try.prog 65 #[.agg #[.int .i64 pg, .int .i64 n, .int .i64 r, .int .i64 q]] w fun e w' => e = .returned (.int .i64 ((pg + n) * 256)) ∧ Below w.heap.size w w' := by
  go_enter Try.func65, Try.ntmps65
  go_wp2
  go_ret
  exact ⟨rfl, below_alloc1 _ _⟩
theorem c62 (pg n r q : Int) (p : Piece) (w : World) (h0 : 0 ≤ r) (h1 : r ≤ 64) (hp : WfP p) :
    Calls Try.prog 62 #[.agg #[.int .i64 pg, .int .i64 n, .int .i64 r, .int .i64 q], .agg #[.int .u32 p.pos, .int .i64 p.size, .int .i64 p.born]] w fun e w' => e = .returned (.int .i64 (p.pos - r)) ∧ Below w.heap.size w w' := by
  obtain ⟨a0, a1⟩ := hp
  go_enter Try.func62, Try.ntmps62
  go_wp2
  go_ret
  exact ⟨ret_int (by omega), (below_alloc1 _ _).alloc (by simp) _⟩
theorem c64 (pg n r q : Int) (p : Piece) (w : World) (h0 : 0 ≤ r) (h1 : r ≤ 64) (hp : WfP p) (s0 : 0 ≤ p.size) (s1 : p.size ≤ 65536) :
    Calls Try.prog 64 #[.agg #[.int .i64 pg, .int .i64 n, .int .i64 r, .int .i64 q], .agg #[.int .u32 p.pos, .int .i64 p.size, .int .i64 p.born]] w fun e w' => e = .returned (.int .i64 (p.pos + max p.size 1 + r)) ∧ Below w.heap.size w w' := by
  obtain ⟨a0, a1⟩ := hp
  have hm : 1 ≤ max p.size 1 ∧ max p.size 1 ≤ 65536 := by omega
  go_enter Try.func64, Try.ntmps64
  go_wp2
  all_goals go_ret
  all_goals exact ⟨ret_int (by omega), (below_alloc1 _ _).alloc (by simp) _⟩

instance (red : Int) (p q : Piece) : Decidable (DjP red p q) := inferInstanceAs (Decidable (_ ∨ _))

set_option maxRecDepth 100000 in
set_option maxHeartbeats 2000000 in
theorem c66 (pg n r q : Int) (x y : Piece) (w : World) (h0 : 0 ≤ r) (h1 : r ≤ 64) (hx : WfP x) (hy : WfP y) (x0 : 0 ≤ x.size) (x1 : x.size ≤ 65536) (y0 : 0 ≤ y.size) (y1 : y.size ≤ 65536) :
    Calls Try.prog 66 #[.agg #[.int .i64 pg, .int .i64 n, .int .i64 r, .int .i64 q], .agg #[.int .u32 x.pos, .int .i64 x.size, .int .i64 x.born], .agg #[.int .u32 y.pos, .int .i64 y.size, .int .i64 y.born]] w fun e w' => e = .returned (.bool (decide (DjP r x y))) ∧ Below w.heap.size w w' := by
  go_enter Try.func66, Try.ntmps66
  go_wp2
  refine gen_worldP (fun W => Below w.heap.size w W ∧ W.cell? ⟨w.heap.size, 0, none⟩ = some (.int .i64 pg) ∧ W.cell? ⟨w.heap.size, 1, none⟩ = some (.int .i64 n) ∧ W.cell? ⟨w.heap.size, 2, none⟩ = some (.int .i64 r) ∧ W.cell? ⟨w.heap.size, 3, none⟩ = some (.int .i64 q) ∧ W.cell? ⟨w.heap.size + 1, 0, none⟩ = some (.int .u32 x.pos) ∧ W.cell? ⟨w.heap.size + 1, 1, none⟩ = some (.int .i64 x.size) ∧ W.cell? ⟨w.heap.size + 1, 2, none⟩ = some (.int .i64 x.born) ∧ W.cell? ⟨w.heap.size + 1 + 1, 0, none⟩ = some (.int .u32 y.pos) ∧ W.cell? ⟨w.heap.size + 1 + 1, 1, none⟩ = some (.int .i64 y.size) ∧ W.cell? ⟨w.heap.size + 1 + 1, 2, none⟩ = some (.int .i64 y.born) ∧ w.heap.size + 3 ≤ W.heap.size) ?_ ?_
  · refine ⟨((((Below.refl _ _).alloc (Nat.le_refl _) _).alloc (by simp) _).alloc (by simp; try omega) _), ?_, ?_, ?_, ?_, ?_, ?_, ?_, ?_, ?_, ?_, by simp⟩
    all_goals simp [go_sem]
  rintro W ⟨hBW, k0, k1, k2, k3, k4, k5, k6, k7, k8, k9, hsz⟩
  have hcell : ∀ w', Below W.heap.size W w' → w'.cell? ⟨w.heap.size, 0, none⟩ = some (.int .i64 pg) ∧ w'.cell? ⟨w.heap.size, 1, none⟩ = some (.int .i64 n) ∧ w'.cell? ⟨w.heap.size, 2, none⟩ = some (.int .i64 r) ∧ w'.cell? ⟨w.heap.size, 3, none⟩ = some (.int .i64 q) ∧ w'.cell? ⟨w.heap.size + 1, 0, none⟩ = some (.int .u32 x.pos) ∧ w'.cell? ⟨w.heap.size + 1, 1, none⟩ = some (.int .i64 x.size) ∧ w'.cell? ⟨w.heap.size + 1, 2, none⟩ = some (.int .i64 x.born) ∧ w'.cell? ⟨w.heap.size + 1 + 1, 0, none⟩ = some (.int .u32 y.pos) ∧ w'.cell? ⟨w.heap.size + 1 + 1, 1, none⟩ = some (.int .i64 y.size) ∧ w'.cell? ⟨w.heap.size + 1 + 1, 2, none⟩ = some (.int .i64 y.born) := fun w' h =>
    ⟨(h.cell (p := ⟨w.heap.size, 0, none⟩) (show w.heap.size < W.heap.size by omega)).trans k0, (h.cell (p := ⟨w.heap.size, 1, none⟩) (show w.heap.size < W.heap.size by omega)).trans k1, (h.cell (p := ⟨w.heap.size, 2, none⟩) (show w.heap.size < W.heap.size by omega)).trans k2, (h.cell (p := ⟨w.heap.size, 3, none⟩) (show w.heap.size < W.heap.size by omega)).trans k3, (h.cell (p := ⟨w.heap.size + 1, 0, none⟩) (show w.heap.size + 1 < W.heap.size by omega)).trans k4, (h.cell (p := ⟨w.heap.size + 1, 1, none⟩) (show w.heap.size + 1 < W.heap.size by omega)).trans k5, (h.cell (p := ⟨w.heap.size + 1, 2, none⟩) (show w.heap.size + 1 < W.heap.size by omega)).trans k6, (h.cell (p := ⟨w.heap.size + 1 + 1, 0, none⟩) (show w.heap.size + 1 + 1 < W.heap.size by omega)).trans k7, (h.cell (p := ⟨w.heap.size + 1 + 1, 1, none⟩) (show w.heap.size + 1 + 1 < W.heap.size by omega)).trans k8, (h.cell (p := ⟨w.heap.size + 1 + 1, 2, none⟩) (show w.heap.size + 1 + 1 < W.heap.size by omega)).trans k9⟩
  have HCELL := Lib.hid hcell
  have HBW := Lib.hid hBW
  have hmx : Try.prog.follows .mixedOrders = true := by kernel_rfl
  clear hBW hcell k0 k1 k2 k3 k4 k5 k6 k7 k8 k9
  refine wp_region_held_drew (S := fun w' => Below W.heap.size W w') hmx (Below.refl _ W).drew ?_
  intro hS0
  refine wpAnyH_take (i := 0) (v := .agg #[.int .i64 pg, .int .i64 n, .int .i64 r, .int .i64 q]) rfl (by kernel_rfl) (by kernel_rfl) (by kernel_rfl) (fun _ _ _ h => h) (Or.inl ⟨by rfl, ?hy⟩) hS0 ?_
  case hy => intro w9 hSw; obtain ⟨s0, s1, s2, s3, s4, s5, s6, s7, s8, s9⟩ := HCELL.out w9 hSw; go_simp
  go_simp
  refine wpAnyH_take (i := 1) (v := .agg #[.int .u32 x.pos, .int .i64 x.size, .int .i64 x.born]) rfl (by kernel_rfl) (by kernel_rfl) (by kernel_rfl) (fun _ _ _ h => h) (Or.inl ⟨by rfl, ?hy⟩) hS0 ?_
  case hy => intro w9 hSw; obtain ⟨s0, s1, s2, s3, s4, s5, s6, s7, s8, s9⟩ := HCELL.out w9 hSw; go_simp
  go_simp
  refine wpAnyH_take (i := 3) (v := .agg #[.int .i64 pg, .int .i64 n, .int .i64 r, .int .i64 q]) rfl (by kernel_rfl) (by kernel_rfl) (by kernel_rfl) (fun _ _ _ h => h) (Or.inl ⟨by rfl, ?hy⟩) hS0 ?_
  case hy => intro w9 hSw; obtain ⟨s0, s1, s2, s3, s4, s5, s6, s7, s8, s9⟩ := HCELL.out w9 hSw; go_simp
  go_simp
  refine wpAnyH_take (i := 4) (v := .agg #[.int .u32 y.pos, .int .i64 y.size, .int .i64 y.born]) rfl (by kernel_rfl) (by kernel_rfl) (by kernel_rfl) (fun _ _ _ h => h) (Or.inl ⟨by rfl, ?hy⟩) hS0 ?_
  case hy => intro w9 hSw; obtain ⟨s0, s1, s2, s3, s4, s5, s6, s7, s8, s9⟩ := HCELL.out w9 hSw; go_simp
  go_simp
  refine wpAnyH_ready (rs := [2]) (by kernel_rfl) (by simp) ?_
  refine AllReadyH.cons rfl (fun K hK => ?_) AllReadyH.nil
  go_simp
  refine Calls.mono (c64 pg n r q x _ h0 h1 hx x0 x1) ?_
  rintro e v1 ⟨rfl, hb1⟩
  have hS1 : Below W.heap.size W v1 := hS0.trans (hb1.mono hS0.size)
  refine hK.out _ _ hS1 (fun _ => ?_)
  clear hK K hb1
  refine wpAnyH_ready (rs := [5]) (by kernel_rfl) (by simp) ?_
  refine AllReadyH.cons rfl (fun K hK => ?_) AllReadyH.nil
  go_simp
  refine Calls.mono (c62 pg n r q y _ h0 h1 hy) ?_
  rintro e v2 ⟨rfl, hb2⟩
  have hS2 : Below W.heap.size W v2 := hS1.trans (hb2.mono hS1.size)
  refine hK.out _ _ hS2 (fun _ => ?_)
  clear hK K hb2
  by_cases hc : x.pos + max x.size 1 + r ≤ y.pos - r
  · have hcl : (x.pos + max x.size 1 + r ≤ y.pos - r) = True := eq_true hc
    refine wpAnyH_take (i := 6) (v := .bool true) rfl (by kernel_rfl) (by kernel_rfl) (by kernel_rfl) (fun _ _ _ h => h) (Or.inl ⟨by rfl, ?hy⟩) hS2 ?_
    case hy => intro w9 hSw; obtain ⟨s0, s1, s2, s3, s4, s5, s6, s7, s8, s9⟩ := HCELL.out w9 hSw; go_simp
    go_simp
    refine wpAnyH_take (i := 7) (v := .bool true) rfl (by kernel_rfl) (by kernel_rfl) (by kernel_rfl) (fun _ _ _ h => h) (Or.inl ⟨by rfl, ?hy⟩) hS2 ?_
    case hy => intro w9 hSw; obtain ⟨s0, s1, s2, s3, s4, s5, s6, s7, s8, s9⟩ := HCELL.out w9 hSw; go_simp
    go_simp
    refine wpAnyH_take (i := 8) (v := undef) rfl (by kernel_rfl) (by kernel_rfl) (by kernel_rfl) (fun _ _ _ h => h) (Or.inr ⟨by rfl, rfl⟩) hS2 ?_
    go_simp
    refine wpAnyH_take (i := 9) (v := undef) rfl (by kernel_rfl) (by kernel_rfl) (by kernel_rfl) (fun _ _ _ h => h) (Or.inr ⟨by rfl, rfl⟩) hS2 ?_
    go_simp
    refine wpAnyH_take (i := 11) (v := undef) rfl (by kernel_rfl) (by kernel_rfl) (by kernel_rfl) (fun _ _ _ h => h) (Or.inr ⟨by rfl, rfl⟩) hS2 ?_
    go_simp
    refine wpAnyH_take (i := 12) (v := undef) rfl (by kernel_rfl) (by kernel_rfl) (by kernel_rfl) (fun _ _ _ h => h) (Or.inr ⟨by rfl, rfl⟩) hS2 ?_
    go_simp
    refine wpAnyH_take (i := 10) (v := undef) rfl (by kernel_rfl) (by kernel_rfl) (by kernel_rfl) (fun _ _ _ h => h) (Or.inr ⟨by rfl, rfl⟩) hS2 ?_
    go_simp
    refine wpAnyH_take (i := 13) (v := undef) rfl (by kernel_rfl) (by kernel_rfl) (by kernel_rfl) (fun _ _ _ h => h) (Or.inr ⟨by rfl, rfl⟩) hS2 ?_
    go_simp
    refine wpAnyH_take (i := 14) (v := undef) rfl (by kernel_rfl) (by kernel_rfl) (by kernel_rfl) (fun _ _ _ h => h) (Or.inr ⟨by rfl, rfl⟩) hS2 ?_
    go_simp
    refine wpAnyH_take (i := 15) (v := .bool true) rfl (by kernel_rfl) (by kernel_rfl) (by kernel_rfl) (fun _ _ _ h => h) (Or.inl ⟨by rfl, ?hy⟩) hS2 ?_
    case hy => intro w9 hSw; obtain ⟨s0, s1, s2, s3, s4, s5, s6, s7, s8, s9⟩ := HCELL.out w9 hSw; go_simp
    go_simp
    refine wpAnyH_take (i := 16) (v := .bool true) rfl (by kernel_rfl) (by kernel_rfl) (by kernel_rfl) (fun _ _ _ h => h) (Or.inl ⟨by rfl, ?hy⟩) hS2 ?_
    case hy => intro w9 hSw; obtain ⟨s0, s1, s2, s3, s4, s5, s6, s7, s8, s9⟩ := HCELL.out w9 hSw; go_simp
    go_simp
    refine wpAnyH_done (by kernel_rfl) ?_ _
    go_simp
    clear hS0 hS1
    go_wp2
    go_ret
    exact ⟨by rw [decide_eq_true (show DjP r x y from .inl hc)]; rfl, HBW.out.trans (hS2.mono HBW.out.size)⟩
  · have hcl : (x.pos + max x.size 1 + r ≤ y.pos - r) = False := eq_false hc
    refine wpAnyH_take (i := 6) (v := .bool false) rfl (by kernel_rfl) (by kernel_rfl) (by kernel_rfl) (fun _ _ _ h => h) (Or.inl ⟨by rfl, ?hy⟩) hS2 ?_
    case hy => intro w9 hSw; obtain ⟨s0, s1, s2, s3, s4, s5, s6, s7, s8, s9⟩ := HCELL.out w9 hSw; go_simp
    go_simp
    refine wpAnyH_take (i := 7) (v := .bool false) rfl (by kernel_rfl) (by kernel_rfl) (by kernel_rfl) (fun _ _ _ h => h) (Or.inl ⟨by rfl, ?hy⟩) hS2 ?_
    case hy => intro w9 hSw; obtain ⟨s0, s1, s2, s3, s4, s5, s6, s7, s8, s9⟩ := HCELL.out w9 hSw; go_simp
    go_simp
    refine wpAnyH_take (i := 8) (v := .agg #[.int .i64 pg, .int .i64 n, .int .i64 r, .int .i64 q]) rfl (by kernel_rfl) (by kernel_rfl) (by kernel_rfl) (fun _ _ _ h => h) (Or.inl ⟨by rfl, ?hy⟩) hS2 ?_
    case hy => intro w9 hSw; obtain ⟨s0, s1, s2, s3, s4, s5, s6, s7, s8, s9⟩ := HCELL.out w9 hSw; go_simp
    go_simp
    refine wpAnyH_take (i := 9) (v := .agg #[.int .u32 y.pos, .int .i64 y.size, .int .i64 y.born]) rfl (by kernel_rfl) (by kernel_rfl) (by kernel_rfl) (fun _ _ _ h => h) (Or.inl ⟨by rfl, ?hy⟩) hS2 ?_
    case hy => intro w9 hSw; obtain ⟨s0, s1, s2, s3, s4, s5, s6, s7, s8, s9⟩ := HCELL.out w9 hSw; go_simp
    go_simp
    refine wpAnyH_take (i := 11) (v := .agg #[.int .i64 pg, .int .i64 n, .int .i64 r, .int .i64 q]) rfl (by kernel_rfl) (by kernel_rfl) (by kernel_rfl) (fun _ _ _ h => h) (Or.inl ⟨by rfl, ?hy⟩) hS2 ?_
    case hy => intro w9 hSw; obtain ⟨s0, s1, s2, s3, s4, s5, s6, s7, s8, s9⟩ := HCELL.out w9 hSw; go_simp
    go_simp
    refine wpAnyH_take (i := 12) (v := .agg #[.int .u32 x.pos, .int .i64 x.size, .int .i64 x.born]) rfl (by kernel_rfl) (by kernel_rfl) (by kernel_rfl) (fun _ _ _ h => h) (Or.inl ⟨by rfl, ?hy⟩) hS2 ?_
    case hy => intro w9 hSw; obtain ⟨s0, s1, s2, s3, s4, s5, s6, s7, s8, s9⟩ := HCELL.out w9 hSw; go_simp
    go_simp
    refine wpAnyH_ready (rs := [10]) (by kernel_rfl) (by simp) ?_
    refine AllReadyH.cons rfl (fun K hK => ?_) AllReadyH.nil
    go_simp
    refine Calls.mono (c64 pg n r q y _ h0 h1 hy y0 y1) ?_
    rintro e v3 ⟨rfl, hb3⟩
    have hS3 : Below W.heap.size W v3 := hS2.trans (hb3.mono hS2.size)
    refine hK.out _ _ hS3 (fun _ => ?_)
    clear hK K hb3
    refine wpAnyH_ready (rs := [13]) (by kernel_rfl) (by simp) ?_
    refine AllReadyH.cons rfl (fun K hK => ?_) AllReadyH.nil
    go_simp
    refine Calls.mono (c62 pg n r q x _ h0 h1 hx) ?_
    rintro e v4 ⟨rfl, hb4⟩
    have hS4 : Below W.heap.size W v4 := hS3.trans (hb4.mono hS3.size)
    refine hK.out _ _ hS4 (fun _ => ?_)
    clear hK K hb4
    obtain ⟨bb, hbb⟩ : ∃ bb, decide (y.pos + max y.size 1 + r ≤ x.pos - r) = bb := ⟨_, rfl⟩
    have HBB : Hid (decide (DjP r x y) = bb) := by
      show decide (DjP r x y) = bb
      rw [← hbb]
      unfold DjP
      simp [hc]
    refine wpAnyH_take (i := 14) (v := .bool bb) rfl (by kernel_rfl) (by kernel_rfl) (by kernel_rfl) (fun _ _ _ h => h) (Or.inl ⟨by rfl, ?hy⟩) hS4 ?_
    case hy => intro w9 hSw; obtain ⟨s0, s1, s2, s3, s4, s5, s6, s7, s8, s9⟩ := HCELL.out w9 hSw; go_simp
    go_simp
    refine wpAnyH_take (i := 15) (v := .bool bb) rfl (by kernel_rfl) (by kernel_rfl) (by kernel_rfl) (fun _ _ _ h => h) (Or.inl ⟨by rfl, ?hy⟩) hS4 ?_
    case hy => intro w9 hSw; obtain ⟨s0, s1, s2, s3, s4, s5, s6, s7, s8, s9⟩ := HCELL.out w9 hSw; go_simp
    go_simp
    refine wpAnyH_take (i := 16) (v := .bool bb) rfl (by kernel_rfl) (by kernel_rfl) (by kernel_rfl) (fun _ _ _ h => h) (Or.inl ⟨by rfl, ?hy⟩) hS4 ?_
    case hy => intro w9 hSw; obtain ⟨s0, s1, s2, s3, s4, s5, s6, s7, s8, s9⟩ := HCELL.out w9 hSw; go_simp
    go_simp
    refine wpAnyH_done (by kernel_rfl) ?_ _
    go_simp
    clear hS0 hS1 hS2 hS3
    go_wp2
    go_ret
    exact ⟨by rw [HBB.out]; rfl, HBW.out.trans (hS4.mono HBW.out.size)⟩

set_option maxRecDepth 100000 in
set_option maxHeartbeats 2000000 in
theorem c67 (v : Value) (zs : List Piece) (w : World) (hs : Sl 3 encP w v zs) (hn : zs.length ≤ 1000) (hz : ∀ p ∈ zs, 0 ≤ p.size ∧ p.size ≤ 65536) :
    Calls Try.prog 67 #[v] w fun e w' => e = .returned (.int .i64 (zs.map (·.size)).sum) ∧ Below w.heap.size w w' := by
  have HS := Lib.hid hs
  have HZ := Lib.hid hz
  obtain ⟨A, ca, rfl, _, hl⟩ := hs
  obtain ⟨n, hnn⟩ : ∃ n, zs.length = n := ⟨_, rfl⟩
  rw [hnn] at hn HS ⊢
  have HL := Lib.hid hl
  have HN := Lib.hid hnn
  clear hz hl hnn
  go_enter Try.func67, Try.ntmps67
  go_wp2
  go_loopg [3, 4] n (fun kx s3 s4 wr => ∃ k : Nat, k ≤ n ∧ s4 = .int .i64 k ∧ s3 = .int .i64 ((zs.take k).map (·.size)).sum ∧ n - k ≤ kx ∧ Hid (Below w.heap.size w wr))
  case atStart => exact ⟨0, Nat.zero_le _, rfl, rfl, by omega, Below.refl _ _⟩
  case round =>
    obtain ⟨k, hk, rfl, rfl, hkx, HB⟩ := hrel
    by_cases hlt : k < n
    · have hkl : k < zs.length := by rw [HN.out]; exact hlt
      obtain ⟨b, off, rfl, hL⟩ := HL.out.resolve_left (by rintro rfl; simp at hkl)
      obtain ⟨m0, m1, m2⟩ := (hL.below HB.out).at3 k hkl
      have hst : ((zs.take (k + 1)).map (·.size)).sum = ((zs.take k).map (·.size)).sum + zs[k]!.size := by
        rw [List.take_succ_eq_append_getElem hkl, List.map_append, List.sum_append, getElem!_pos zs k hkl]; simp
      have hr1 : ∀ (l : List Piece), (∀ p ∈ l, 0 ≤ p.size ∧ p.size ≤ 65536) → 0 ≤ (l.map (·.size)).sum ∧ (l.map (·.size)).sum ≤ 65536 * l.length := by
        intro l
        induction l with
        | nil => intro _; simp
        | cons p l ih =>
          intro h
          have h1 := h p (List.mem_cons_self ..)
          have h2 := ih (fun q hq => h q (List.mem_cons_of_mem _ hq))
          simp only [List.map_cons, List.sum_cons, List.length_cons]
          omega
      have hr2 := hr1 (zs.take k) (fun q hq => HZ.out q (List.mem_of_mem_take hq))
      have hr3 := HZ.out zs[k]! (by rw [getElem!_pos zs k hkl]; exact List.getElem_mem hkl)
      have hr4 : (zs.take k).length ≤ 1000 := by simp; omega
      generalize zs[k]! = x at m1 hst hr3
      generalize ((zs.take k).map (·.size)).sum = sm at hst hr2 ⊢
      have hw : IntKind.i64.wrap (sm + x.size) = sm + x.size := by rw [IntKind.wrap_i64]; omega
      have HST := Lib.hid hst
      clear hst hr1 hr2 hr3 hr4 m0 m2 hL hkl
      go_wp2
      go_roundg (n - (k + 1))
      case measure => omega
      case rel => exact ⟨k + 1, by omega, by go_num, by rw [HST.out], Nat.le_refl _, HB.out⟩
    · obtain rfl : k = n := by omega
      go_wp2
      go_ret
      exact ⟨by rw [← HN.out, List.take_length]; rfl, HB.out⟩

theorem append_none (w : World) (t ty : TypeId) (_ d : Nat) (A : Option Addr) (u : Try.prog.underlying t = some (.slice 38)) (hA : A = none ∨ True) :
    ∃ v', (Builtin.append_ #[t, t] ty #[.slice none 0 0, .slice A 0 d]).run Try.prog w = .ok v' w ∧ v' = .slice none 0 0 := by
  obtain ⟨i0, hi0, hi1, hi2, hi3⟩ := info38'
  refine ⟨_, ?_, rfl⟩
  cases A <;> simp [Builtin.append_, run_underlying u, sizeOf, typeInfo, hi0, Builtin.lenOf, Builtin.firstCells, loadCells, go_sem]
end Go.Proofs.Ytbhbjcgbhklieaa

namespace Go.Proofs.Ytbhbjcgbhklieaa
open Go.RowKit Go.Shelf

/-- append of a list of pieces to an owned row: whatever its slice is. -/
theorem append_sl (base : Nat) (v : Value) (xs zs : List Piece) (v2 : Value) (w : World) (ho : w.ownsRow base 38 3 v xs.length (xs.flatMap encP)) (hs : Sl 3 encP w v2 zs) (n1 : xs.length ≤ 1000) (n2 : zs.length ≤ 1000) (hb : base ≤ w.heap.size) :
    ∃ v' w', (Builtin.append_ #[24, 24] 24 #[v, v2]).run Try.prog w = .ok v' w' ∧ w'.ownsRow base 38 3 v' (xs ++ zs).length ((xs ++ zs).flatMap encP) ∧ w.grownBy w' v.ownBlock := by
  obtain ⟨i0, hi0, hi1, hi2, hi3⟩ := info38'
  have u24 : Try.prog.underlying 24 = some (.slice 38) := Try.underlying24
  obtain ⟨A, c, rfl, hc, hl⟩ := hs
  rcases hl with rfl | ⟨b, off, rfl, hl⟩
  · rcases A with _ | ad
    · -- nothing to append, the nil slice
      refine ⟨v, w, ?_, by simpa using ho, grown_refl _ _⟩
      rcases ho.2 with ⟨rfl, _⟩ | ⟨g, cap, cur, rfl, _, hg, hcap, _⟩
      · simp [Builtin.append_, run_underlying u24, sizeOf, typeInfo, hi0, Builtin.lenOf, Builtin.firstCells, go_sem]
      · simp [Builtin.append_, run_underlying u24, sizeOf, typeInfo, hi0, Builtin.lenOf, Builtin.firstCells, loadCells, go_sem, hcap, storeCells]
    · obtain ⟨v', w', hrun, hown, hgr, _⟩ := run_append_own (P := Try.prog) w base 24 24 38 i0 (.agg #[.int .u32 0, .int .i64 0, .int .i64 0]) 3 24 u24 hi0 hi1 hi2 hi3 rfl (by omega) v xs.length (xs.flatMap encP) ho ad 0 c [] rfl
        (by simp) (by simp) (by unfold maxLen; omega) (by omega) hb
      exact ⟨v', w', hrun, by simpa using hown, hgr⟩
  · obtain ⟨v', w', hrun, hown, hgr, _⟩ := run_append_own (P := Try.prog) w base 24 24 38 i0 (.agg #[.int .u32 0, .int .i64 0, .int .i64 0]) 3 24 u24 hi0 hi1 hi2 hi3 rfl (by omega) v xs.length (xs.flatMap encP) ho ⟨b, off, none⟩ zs.length c (zs.flatMap encP) (flat_length zs)
      (fun j u hu => by rw [Addr.add_lit]; exact lies_flat hl j u hu) (flat_one zs) (by unfold maxLen; omega) (by omega) hb
    exact ⟨v', w', hrun, by rw [List.length_append, List.flatMap_append]; exact hown, hgr⟩

set_option maxRecDepth 100000 in
set_option maxHeartbeats 1000000 in
theorem c61 (c : Conf) (lv qv : Value) (gi : Int) (live quar : List Piece) (w : World) (hl : Sl 3 encP w lv live) (hq : Sl 3 encP w qv quar) (n1 : live.length ≤ 1000) (n2 : quar.length ≤ 1000) :
    Calls Try.prog 61 #[hAgg c lv qv gi] w fun e w' => ∃ v, e = .returned v ∧ Below w.heap.size w w' ∧ w'.ownsRow w.heap.size 38 3 v (live ++ quar).length ((live ++ quar).flatMap encP) := by
  have hB1 := below_alloc1 w (.cells #[.int .i64 c.page, .int .i64 c.n, .int .i64 c.red, .int .i64 c.quarantine, lv, qv, .int .i64 gi] 26)
  obtain ⟨v1, w1, hr1, ho1, hg1⟩ := append_sl (w.heap.size + 1) (.slice none 0 0) [] live lv _ (World.ownsRow_nil _ _ _ _) (hl.below hB1) (by simp) n1 (by simp)
  have hw1 : Below w.heap.size w w1 := hB1.trans (below_of_grown hg1 (by simp) (by simp [Value.ownBlock]))
  have hbx : w1.heap[w.heap.size]? = some (.cells #[.int .i64 c.page, .int .i64 c.n, .int .i64 c.red, .int .i64 c.quarantine, lv, qv, .int .i64 gi] 26 (0, 0)) := (hg1.block _ (by simp) (by simp [Value.ownBlock])).trans (hal_new rfl)
  obtain ⟨v2, w2, hr2, ho2, hg2⟩ := append_sl (w.heap.size + 1) v1 live quar qv w1 (by simpa using ho1) (hq.below hw1) n1 n2 (by have := blk_lt hbx; omega)
  have hw2 : Below w.heap.size w w2 := hw1.trans (below_of_grown hg2 hw1.size (fun j e => by have := (own_lt ho1 j e).1; omega))
  have y5 := blk_cell hbx 5
  simp only [List.getElem?_toArray, List.getElem?_cons_succ, List.getElem?_cons_zero] at y5
  have HW2 := Lib.hid hw2
  have HO2 := Lib.hid (own_base ho2 (Nat.le_succ _))
  clear hB1 ho1 hg1 hw1 hbx ho2 hg2 hw2
  obtain ⟨A, ca, rfl, _, _⟩ := hl
  obtain ⟨B, cb, rfl, _, _⟩ := hq
  go_enter Try.func61, Try.ntmps61
  go_wp2_with (first
    | (at_builtin; refine Lib.wpList_append_run _ rfl _ _ _ _ rfl _ _ rfl rfl _ _ hr1 ?_)
    | (at_builtin; refine Lib.wpList_append_run _ rfl _ _ _ _ rfl _ _ rfl rfl _ _ hr2 ?_))
  go_ret
  exact ⟨_, rfl, HW2.out, HO2.out⟩
end Go.Proofs.Ytbhbjcgbhklieaa

namespace Go.Proofs.Ytbhbjcgbhklieaa
open Go.RowKit Go.Shelf

set_option maxRecDepth 100000 in
set_option maxHeartbeats 1000000 in
theorem c31 (c : Conf) (w : World) :
    Calls Try.prog 31 #[.agg (encC c).toArray] w fun e w' => Below w.heap.size w w' ∧
      ((okConf c = false ∧ e = .returned (.tuple #[.agg #[.int .i64 0, .int .i64 0, .int .i64 0, .int .i64 0, .slice none 0 0, .slice none 0 0, .int .i64 0], .int .i64 1])) ∨
       (okConf c = true ∧ e = .returned (.tuple #[.agg #[.int .i64 c.page, .int .i64 c.n, .int .i64 c.red, .int .i64 c.quarantine, .slice none 0 0, .slice none 0 0, .int .i64 0], .int .i64 0]))) := by
  have hv := fun W => c60 c W
  unfold encC at hv ⊢
  cases hok : okConf c with
  | false =>
    rw [hok] at hv
    go_enter Try.func31, Try.ntmps31
    go_wp2_with (go_at_call 60; refine (hv _).mono ?_; rintro e w' ⟨rfl, rfl⟩)
    refine bodyPost_ret (v := .tuple #[.agg #[.int .i64 0, .int .i64 0, .int .i64 0, .int .i64 0, .slice none 0 0, .slice none 0 0, .int .i64 0], .int .i64 1]) (by simp [results, Try.results31, go_sem]) rfl ⟨?_, .inl ⟨trivial, rfl⟩⟩
    repeat' first | (with_reducible refine Below.alloc ?_ (by simp; try omega) _) | (with_reducible refine Below.setCell ?_ (by simp; try omega) _) | with_reducible exact Below.refl _ _
  | true =>
    rw [hok] at hv
    go_enter Try.func31, Try.ntmps31
    go_wp2_with (go_at_call 60; refine (hv _).mono ?_; rintro e w' ⟨rfl, rfl⟩)
    refine bodyPost_ret (v := .tuple #[.agg #[.int .i64 c.page, .int .i64 c.n, .int .i64 c.red, .int .i64 c.quarantine, .slice none 0 0, .slice none 0 0, .int .i64 0], .int .i64 0]) (by simp [results, Try.results31, go_sem]) rfl ⟨?_, .inr ⟨trivial, rfl⟩⟩
    repeat' first | (with_reducible refine Below.alloc ?_ (by simp; try omega) _) | (with_reducible refine Below.setCell ?_ (by simp; try omega) _) | with_reducible exact Below.refl _ _
end Go.Proofs.Ytbhbjcgbhklieaa
