/- room: the least address at which there is room. -/
import Derived.Test.YtbhbjcgbhklieaaD1
import Derived.Test.YtbhbjcgbhklieaaD3
namespace Go.Proofs.Ytbhbjcgbhklieaa
open Go.RowKit Go.Shelf
attribute [local go_sem] Oper.semAt_some

theorem ownFrom_blk {β : Type} (B k : Nat) (cs : Array Value) (t : TypeId) (f : Nat × Nat) : OwnFrom B (fun (_ : β) W => W.heap[k]? = some (.cells cs t f)) :=
  fun _ X Y row hs hg hr => (hg.block k (blk_lt hs) (fun e => by obtain ⟨_, o, ho, hc⟩ := hr k e.symm; rw [hs] at ho; cases ho; simp [Obj.isCells] at hc)).trans hs
theorem ownFrom_size {β : Type} (B m : Nat) : OwnFrom B (fun (_ : β) W => m ≤ W.heap.size) := fun _ _ _ _ hs hg _ => Nat.le_trans hs hg.size

theorem leave72 {T : Array Value} {N : Nat} {W : World} {p : Value} {b : Bool} (h2 : T[4]? = some (.pointer (some ⟨N + 2, 0, none⟩))) (h3 : T[5]? = some (.pointer (some ⟨N + 3, 0, none⟩))) (c1 : W.cell? ⟨N + 2, 0, none⟩ = some p) (c2 : W.cell? ⟨N + 3, 0, none⟩ = some (.bool b)) :
    (results Try.f72 T).run Try.prog W = .ok (.tuple #[p, .bool b]) W := by
  simp [results, Try.results72, go_sem, h2, h3, c1, c2]

theorem finish72 {W : World} {N D : Nat} {T : Array Value} {p v1 v2 : Value} {ok : Bool} {R : Ending → World → Prop} (h1 : W.heap[N + 2]? = some (.cells #[v1] 3 (0, 0))) (h2 : W.heap[N + 3]? = some (.cells #[v2] 4 (0, 0)))
    (hK : W.heap[D]? = some (.deferred (some []))) (t2 : T[4]? = some (.pointer (some ⟨N + 2, 0, none⟩))) (t3 : T[5]? = some (.pointer (some ⟨N + 3, 0, none⟩)))
    (hR : R (.returned (.tuple #[p, .bool ok])) (((W.setCell ⟨N + 1 + 1, 0, none⟩ p).setCell ⟨N + 1 + 1 + 1, 0, none⟩ (.bool ok)).putObj D (.deferred none))) :
    bodyPostM Fence.wide 9 Try.prog Try.f72 R .ret { tmps := T, defers := [{ target := .collected D, args := #[] }] } ((W.setCell ⟨N + 1 + 1, 0, none⟩ p).setCell ⟨N + 1 + 1 + 1, 0, none⟩ (.bool ok)) := by
  have b1 : Boxed W (N + 1 + 1) 3 v1 := h1
  have b2 : Boxed W (N + 1 + 1 + 1) 4 v2 := h2
  have d1 : D ≠ N + 1 + 1 := by rintro rfl; rw [h1] at hK; cases hK
  have d2 : D ≠ N + 1 + 1 + 1 := by rintro rfl; rw [h2] at hK; cases hK
  have hK' : ((W.setCell ⟨N + 1 + 1, 0, none⟩ p).setCell ⟨N + 1 + 1 + 1, 0, none⟩ (.bool ok)).heap[D]? = some (.deferred (some [])) := (Below.heap_setCell _ _ _ _ d2).trans ((Below.heap_setCell _ _ _ _ d1).trans hK)
  refine ⟨by simp, .inl ⟨_, _, rfl, run_takeDeferred hK', ?_⟩⟩
  refine ⟨_, leave72 (N := N) t2 t3 (cell_putObj hK' rfl ((b1.set p).other (by omega) _).cell) (cell_putObj hK' rfl ((b2.other (B' := N + 1 + 1) (by omega) p).set _).cell), hR⟩

abbrev C72 (N : Nat) : Nat → Prop := fun k => k = N + 2 ∨ k = N + 3

set_option maxRecDepth 100000 in
set_option maxHeartbeats 4000000 in
theorem c72 (g : Nat) (c : Conf) (lv qv : Value) (gi : Int) (live quar : List Piece) (L : List Ext) (size : Int) (w : World) (hh : HeapB w g c lv qv gi L) (hop : Op c gi live quar L) (hz0 : 0 ≤ size) (hz1 : size ≤ 65536) :
    CallsIn Fence.wide 9 Try.prog 72 #[.pointer (some ⟨g, 0, none⟩), .int .i64 size] w fun e w' => Below w.heap.size w w' ∧
      ((∃ v, roomGo c.red size (gapsF c L) = some v ∧ e = .returned (.tuple #[.int .i64 v, .bool true])) ∨ (roomGo c.red size (gapsF c L) = none ∧ e = .returned (.tuple #[.int .i64 0, .bool false]))) := by
  have hb := hop.good.conf
  have hlen := hop.len
  have hgp := hop.gaps
  obtain ⟨G, hG⟩ : ∃ G, gapsF c L = G := ⟨_, rfl⟩
  rw [hG] at hgp ⊢
  have hok := hb
  simp only [okConf, decide_eq_true_eq] at hb
  obtain ⟨b1, b2, b3, b4, b5, b6, b7, b8, b9⟩ := hb
  obtain ⟨lsv, hbl, hsl⟩ := hh.out
  have hg := blk_lt hbl
  have g2 : w.cell? ⟨g, 2, none⟩ = some (.int .i64 c.red) := blk_cell hbl 2
  refine callsIn_of_wp_marks Try.func72 rfl trivial ?_ rfl
  simp only [Try.ntmps72, List.size_toArray, List.length_cons, List.length_nil, Nat.reduceAdd, Nat.reduceSub, Array.replicate_succ, Array.replicate_zero, List.push_toArray, List.append_toArray, List.nil_append, List.cons_append]
  have f76 : Fence.wide.fn 76 := trivial
  have f78 : Fence.wide.fn 78 := trivial
  have f99 : Fence.wide.fn 99 := trivial
  have HH := Lib.hid hh
  have HOK := Lib.hid hok
  have HG := Lib.hid hG
  have HGP := Lib.hid hgp
  clear hh hok hop hbl hG hgp hsl
  gi_wp2_with (gi_at_call 76; refine (c76 _ _ _).mono ?_; rintro e w' ⟨rfl, rfl⟩)
  refine gen_world (fun W => Below w.heap.size w W ∧ W.heap.size = w.heap.size + 5 ∧ W.heap[w.heap.size]? = some (.cells #[.pointer (some ⟨g, 0, none⟩)] 97 (0, 0)) ∧ W.heap[w.heap.size + 1]? = some (.cells #[.int .i64 size] 3 (0, 0)) ∧
    W.heap[w.heap.size + 2]? = some (.cells #[.int .i64 0] 3 (0, 0)) ∧ W.heap[w.heap.size + 3]? = some (.cells #[.bool false] 4 (0, 0)) ∧ W.heap[w.heap.size + 4]? = some (.cells #[.pointer (some ⟨g, 0, none⟩)] 97 (0, 0))) ?_ ?_
  · refine ⟨?_, by simp, ?_, ?_, ?_, ?_, ?_⟩
    rotate_left
    all_goals first | (repeat' first | (refine hal_new ?_; (try simp); done) | refine hal_old ?_ | refine hal_drew ?_) | skip
    repeat' first | exact Below.refl _ _ | refine Below.alloc ?_ (by simp; try omega) _ | refine below_drewN ?_ _
  rintro W0 ⟨hB0, hs0, hk0, hk1, hk2, hk3, hk4⟩
  refine wpIn_rangeFunc_ownT _ rfl (by omega) (gf := 99) (lb := #[.pointer (some ⟨w.heap.size + 4, 0, none⟩)]) rfl f99 (enters_of Try.func99 (by kernel_rfl) rfl)
    (s99r 8 (by omega) (w.heap.size + 4) g c lv qv gi L (C72 w.heap.size) 0 (by decide) w W0 HOK.out (by omega) (blk_cell hk4 0) HH.out hB0 (fun k hk => by rcases hk with rfl | rfl <;> omega) (by omega) G HG.out)
    KpR.trans (fun W l o o' _ hl ho _ => KpR.put W l o o' hl ho) (Below.refl _ _) (fun _ => rfl)
    (fun pre W => (roomGo c.red size (pre.map (·.1)) = none ∧ W.heap[w.heap.size]? = some (.cells #[.pointer (some ⟨g, 0, none⟩)] 97 (0, 0)) ∧ W.heap[w.heap.size + 1]? = some (.cells #[.int .i64 size] 3 (0, 0)) ∧ W.heap[w.heap.size + 2]? = some (.cells #[.int .i64 0] 3 (0, 0)) ∧ W.heap[w.heap.size + 3]? = some (.cells #[.bool false] 4 (0, 0))) ∧ (Below w.heap.size w W ∧ W0.heap.size ≤ W.heap.size))
    (fun cd pre W => (cd = .ret ∧ ∃ v, roomGo c.red size (pre.map (·.1)) = some v ∧ W.cell? ⟨w.heap.size + 2, 0, none⟩ = some (.int .i64 v) ∧ W.cell? ⟨w.heap.size + 3, 0, none⟩ = some (.bool true)) ∧ Below w.heap.size w W)
    (OwnFrom.and (OwnFrom.and (ownFrom_pure _ _) (OwnFrom.and (ownFrom_blk _ _ _ _ _) (OwnFrom.and (ownFrom_blk _ _ _ _ _) (OwnFrom.and (ownFrom_blk _ _ _ _ _) (ownFrom_blk _ _ _ _ _))))) (OwnFrom.and (ownFrom_below (Nat.le_refl _) (by omega)) (ownFrom_size _ _)))
    ?hIx
    ⟨⟨rfl, hk0, hk1, hk2, hk3⟩, hB0, Nat.le_refl _⟩
    (fun T x a' W => a' = { tmps := (((T.setIfInBounds 11 (.int .i64 x.1.1)).setIfInBounds 12 (.int .i64 x.1.2)).setIfInBounds 6 (.int .i64 x.1.1)).setIfInBounds 7 (.int .i64 x.1.2), defers := [] })
    ?hAx ?assign ?body ?done ?stop
  case hIx =>
    exact fun cd => OwnFrom.and (fun s X Y row hs hg hr => ⟨hs.1, by obtain ⟨_, v, h1, h2, h3⟩ := hs; exact ⟨v, h1, cell_kept h2 hg (fun r e => (hr r e).2), cell_kept h3 hg (fun r e => (hr r e).2)⟩⟩) (ownFrom_below (Nat.le_refl _) (by omega))
  case hAx =>
    exact fun x a' => ownFrom_pure _ _
  case assign =>
    rintro l pre x W K ⟨⟨hno, j0, j1, j2, j3⟩, hB, hz⟩ hK
    gi_wp2
    refine hK _ _ ((KeepsOthers.refl _).from _) (KpR.refl _ _ _ _) ⟨⟨hno, j0, j1, j2, j3⟩, hB, hz⟩ rfl
  case body =>
    rintro l pre ⟨⟨fr, to⟩, hm⟩ a' W hl hloop ⟨⟨hno, j0, j1, j2, j3⟩, hB, hz⟩ rfl hlen
    have hbd := HGP.out.1 (fr, to) hm
    simp only at hbd
    obtain ⟨q1, q2, q3, q4⟩ := hbd
    clear q4 hloop
    have cg : W.cell? ⟨g, 2, none⟩ = some (.int .i64 c.red) := (hB.cell (p := ⟨g, 2, none⟩) hg).trans g2
    have hcall := c78 fr c.red g W cg (by omega) (by omega) (by omega) (by omega)
    have k0 : W.cell? ⟨w.heap.size, 0, none⟩ = some (.pointer (some ⟨g, 0, none⟩)) := blk_cell j0 0
    have k1 : W.cell? ⟨w.heap.size + 1, 0, none⟩ = some (.int .i64 size) := blk_cell j1 0
    have k2 : W.cell? ⟨w.heap.size + 1 + 1, 0, none⟩ = some (.int .i64 0) := blk_cell j2 0
    have k3 : W.cell? ⟨w.heap.size + 1 + 1 + 1, 0, none⟩ = some (.bool false) := blk_cell j3 0
    have r2 : W.frozen? ⟨w.heap.size + 1 + 1, 0, none⟩ = false := frozen_of_row _ _ _ _ _ j2
    have r3 : W.frozen? ⟨w.heap.size + 1 + 1 + 1, 0, none⟩ = false := frozen_of_row _ _ _ _ _ j3
    obtain ⟨ff, hff⟩ : ∃ ff, (fr + c.red + 7) / 8 * 8 = ff := ⟨_, rfl⟩
    obtain ⟨mx, hmx⟩ : ∃ mx, max size 1 = mx := ⟨_, rfl⟩
    have hffb : 0 ≤ ff ∧ ff ≤ 4294967400 := by omega
    have hmxb : 1 ≤ mx ∧ mx ≤ 65536 := by omega
    have hmx2 : (size ≤ 1 → mx = 1) ∧ (1 < size → mx = size) := by omega
    rw [hff] at hcall
    have HFF := Lib.hid hff
    have HMX := Lib.hid hmx
    have HJ := Lib.hid (And.intro j0 (And.intro j1 (And.intro j2 j3)))
    have HNO := Lib.hid hno
    have HBB := Lib.hid hB
    have HM := Lib.hid hm
    clear hff hmx j0 j1 j2 j3 hno hB
    gi_wp2
    refine CallsIn.mono (CallsIn.inRound l (callsIn_wide.2 hcall)) ?_
    rintro e w' ⟨rfl, rfl⟩
    gi_wp2
    refine round_region (fun w' => w'.cell? ⟨w.heap.size, 0, none⟩ = some (.pointer (some ⟨g, 0, none⟩)) ∧ w'.cell? ⟨w.heap.size + 1, 0, none⟩ = some (.int .i64 size) ∧ w'.cell? ⟨g, 2, none⟩ = some (.int .i64 c.red)) (by kernel_rfl) (by kernel_rfl) (fun ⟨_, _, h⟩ => h) ⟨k0, k1, cg⟩ ?_
    intro hS0
    refine wpAnyH_take (i := 0) (v := .int .i64 ff) rfl (by kernel_rfl) (by kernel_rfl) (by kernel_rfl) (fun _ _ _ h => h) (Or.inl ⟨by rfl, ?hy⟩) hS0 ?_
    case hy => intro w9 hSw; obtain ⟨s0, s1, s2⟩ := hSw; go_simp
    simp only [Act.put, List.setIfInBounds_toArray]
    refine wpAnyH_take (i := 1) (v := .int .i64 size) rfl (by kernel_rfl) (by kernel_rfl) (by kernel_rfl) (fun _ _ _ h => h) (Or.inl ⟨by rfl, ?hy⟩) hS0 ?_
    case hy => intro w9 hSw; obtain ⟨s0, s1, s2⟩ := hSw; go_simp
    simp only [Act.put]
    refine wpAnyH_take (i := 2) (v := .int .i64 mx) rfl (by kernel_rfl) (by kernel_rfl) (by kernel_rfl) (fun _ _ _ h => h) (Or.inl ⟨by rfl, ?hy⟩) hS0 ?_
    case hy => intro w9 hSw; obtain ⟨s0, s1, s2⟩ := hSw; go_simp; exact HMX.out
    simp only [Act.put]
    refine wpAnyH_take (i := 3) (v := .int .i64 (ff + mx)) rfl (by kernel_rfl) (by kernel_rfl) (by kernel_rfl) (fun _ _ _ h => h) (Or.inl ⟨by rfl, ?hy⟩) hS0 ?_
    case hy => intro w9 hSw; obtain ⟨s0, s1, s2⟩ := hSw; go_simp; rw [IntKind.wrap_i64]; omega
    simp only [Act.put]
    refine wpAnyH_take (i := 4) (v := .pointer (some ⟨g, 0, none⟩)) rfl (by kernel_rfl) (by kernel_rfl) (by kernel_rfl) (fun _ _ _ h => h) (Or.inl ⟨by rfl, ?hy⟩) hS0 ?_
    case hy => intro w9 hSw; obtain ⟨s0, s1, s2⟩ := hSw; go_simp
    simp only [Act.put]
    refine wpAnyH_take (i := 5) (v := .pointer (some ⟨g, 0, none⟩)) rfl (by kernel_rfl) (by kernel_rfl) (by kernel_rfl) (fun _ _ _ h => h) (Or.inl ⟨by rfl, ?hy⟩) hS0 ?_
    case hy => intro w9 hSw; obtain ⟨s0, s1, s2⟩ := hSw; go_simp
    simp only [Act.put]
    refine wpAnyH_take (i := 6) (v := .pointer (some ⟨g, 0, none⟩)) rfl (by kernel_rfl) (by kernel_rfl) (by kernel_rfl) (fun _ _ _ h => h) (Or.inl ⟨by rfl, ?hy⟩) hS0 ?_
    case hy => intro w9 hSw; obtain ⟨s0, s1, s2⟩ := hSw; go_simp
    simp only [Act.put]
    refine wpAnyH_take (i := 7) (v := .pointer (some ⟨g, 0, none⟩)) rfl (by kernel_rfl) (by kernel_rfl) (by kernel_rfl) (fun _ _ _ h => h) (Or.inl ⟨by rfl, ?hy⟩) hS0 ?_
    case hy => intro w9 hSw; obtain ⟨s0, s1, s2⟩ := hSw; go_simp
    simp only [Act.put]
    refine wpAnyH_take (i := 8) (v := .pointer (some ⟨g, 2, none⟩)) rfl (by kernel_rfl) (by kernel_rfl) (by kernel_rfl) (fun _ _ _ h => h) (Or.inl ⟨by rfl, ?hy⟩) hS0 ?_
    case hy => intro w9 hSw; obtain ⟨s0, s1, s2⟩ := hSw; go_simp
    simp only [Act.put]
    refine wpAnyH_take (i := 9) (v := .int .i64 c.red) rfl (by kernel_rfl) (by kernel_rfl) (by kernel_rfl) (fun _ _ _ h => h) (Or.inl ⟨by rfl, ?hy⟩) hS0 ?_
    case hy => intro w9 hSw; obtain ⟨s0, s1, s2⟩ := hSw; go_simp
    simp only [Act.put]
    refine wpAnyH_take (i := 10) (v := .int .i64 (ff + mx + c.red)) rfl (by kernel_rfl) (by kernel_rfl) (by kernel_rfl) (fun _ _ _ h => h) (Or.inl ⟨by rfl, ?hy⟩) hS0 ?_
    case hy => intro w9 hSw; obtain ⟨s0, s1, s2⟩ := hSw; go_simp; rw [IntKind.wrap_i64]; omega
    simp only [Act.put]
    refine wpAnyH_take (i := 11) (v := .int .i64 to) rfl (by kernel_rfl) (by kernel_rfl) (by kernel_rfl) (fun _ _ _ h => h) (Or.inl ⟨by rfl, ?hy⟩) hS0 ?_
    case hy => intro w9 hSw; obtain ⟨s0, s1, s2⟩ := hSw; go_simp
    simp only [Act.put]
    refine wpAnyH_take (i := 12) (v := .bool (decide (ff + mx + c.red ≤ to))) rfl (by kernel_rfl) (by kernel_rfl) (by kernel_rfl) (fun _ _ _ h => h) (Or.inl ⟨by rfl, ?hy⟩) hS0 ?_
    case hy => intro w9 hSw; obtain ⟨s0, s1, s2⟩ := hSw; go_simp
    simp only [Act.put]
    refine wpAnyH_done (by kernel_rfl) ?_ _
    clear hS0
    go_simp
    rename_i K1 hK1
    refine hK1 _ _ ?_
    clear hK1 K1
    by_cases hle : ff + mx + c.red ≤ to
    · rw [decide_eq_true hle]
      gi_wp2
      have b2 : Boxed w'.drew (w.heap.size + 1 + 1) 3 (.int .i64 0) := HJ.out.2.2.1
      have b3 : Boxed w'.drew (w.heap.size + 1 + 1 + 1) 4 (.bool false) := HJ.out.2.2.2
      refine ⟨((KeepsOthers.drew _).trans ((KeepsOthers.setCell _ _ _).trans (KeepsOthers.setCell _ _ _))).from _, ⟨rfl, ff, ?_, ?_, ?_⟩, ?_⟩
      · rw [List.map_append, roomGo_append _ _ _ _ HNO.out]
        simp only [List.map_cons, List.map_nil, roomGo]
        unfold firstF
        rw [HFF.out, HMX.out, if_pos hle]
      · exact ((b2.set _).other (by omega) _).cell
      · exact ((b3.other (B' := w.heap.size + 1 + 1) (by omega) _).set _).cell
      · exact (HBB.out.drew.setCell (p := ⟨w.heap.size + 1 + 1, 0, none⟩) (by simp; omega) _).setCell (p := ⟨w.heap.size + 1 + 1 + 1, 0, none⟩) (by simp; omega) _
    · rw [decide_eq_false hle]
      gi_wp2
      refine ⟨(KeepsOthers.drew _).from _, KpR.of_none (grown_none ⟨rfl, rfl, rfl, Nat.le_refl _, fun _ _ => rfl⟩), ⟨?_, HJ.out⟩, HBB.out.drew, by rw [← hs0]; exact hz⟩
      rw [List.map_append, roomGo_append _ _ _ _ HNO.out]
      simp only [List.map_cons, List.map_nil, roomGo]
      rw [if_neg]
      unfold firstF
      rw [HFF.out, HMX.out]; omega
  case done =>
    rintro D zs W hD hS ⟨⟨hno, j0, j1, j2, j3⟩, hB, hz⟩ hK
    have b2 : Boxed W (w.heap.size + 1 + 1) 3 (.int .i64 0) := j2
    have b3 : Boxed W (w.heap.size + 1 + 1 + 1) 4 (.bool false) := j3
    have k2 : W.cell? ⟨w.heap.size + 1 + 1, 0, none⟩ = some (.int .i64 0) := blk_cell j2 0
    have k3 : W.cell? ⟨w.heap.size + 1 + 1 + 1, 0, none⟩ = some (.bool false) := blk_cell j3 0
    have r2 : W.frozen? ⟨w.heap.size + 1 + 1, 0, none⟩ = false := frozen_of_row _ _ _ _ _ j2
    have r3 : W.frozen? ⟨w.heap.size + 1 + 1 + 1, 0, none⟩ = false := frozen_of_row _ _ _ _ _ j3
    have HB := Lib.hid hB
    have HK := Lib.hid hK
    clear j0 j1 hB hK
    gi_wp2
    refine finish72 (v1 := .int .i64 0) (v2 := .bool false) b2 b3 HK.out rfl rfl ⟨?_, .inr ⟨?_, rfl⟩⟩
    · exact ((HB.out.setCell (p := ⟨w.heap.size + 1 + 1, 0, none⟩) (by simp; omega) _).setCell (p := ⟨w.heap.size + 1 + 1 + 1, 0, none⟩) (by simp; omega) _).grown (grownBy_putObj' _ D _) (by simp; exact HB.out.size) (fun k e => by cases e; omega)
    · rw [← hS]; exact hno
  case stop =>
    rintro D cd pre W hD ⟨rest, hpre⟩ ⟨⟨rfl, v, hv, c1, c2⟩, hB⟩ hK
    gi_wp2
    refine ⟨by simp, .inl ⟨_, _, rfl, run_takeDeferred hK, ?_⟩⟩
    exact ⟨_, leave72 (N := w.heap.size) rfl rfl (cell_putObj hK rfl c1) (cell_putObj hK rfl c2), hB.grown (grownBy_putObj' W D _) hB.size (fun k e => by cases e; omega), .inl ⟨v, by rw [← hpre]; exact roomGo_pre _ _ _ _ _ hv, rfl⟩⟩
end Go.Proofs.Ytbhbjcgbhklieaa
