/- opened: where it goes on. Printed by genB2.py. -/
import Derived.Test.YtbhbjcgbhklieaaB5
import Derived.WalkSmall
import Derived.Deep.AppendLies
namespace Go.Proofs.Ytbhbjcgbhklieaa
open Go.RowKit Go.Shelf
attribute [local go_sem] Oper.semAt_some

theorem gen_world {F : Fence} {n : Nat} {P : Program} {c : Code} {Q : Exit → Act → World → Prop} {a : Act} {w : World} (R : World → Prop) (h : R w) (k : ∀ W, R W → c.wpIn F n P Q a W) : c.wpIn F n P Q a w := k w h
theorem hal_new {w : World} {o : Obj} {k : Nat} (hk : k = w.heap.size) : (w.alloc o).heap[k]? = some o := by subst hk; exact World.alloc_heap_new w o
theorem hal_old {w : World} {o o' : Obj} {k : Nat} (h : w.heap[k]? = some o') : (w.alloc o).heap[k]? = some o' := (Below.heap_alloc w o k (Array.getElem?_eq_some_iff.1 h).1).trans h
theorem cells_alloc {w : World} {a : Addr} {v : Value} {o : Obj} (h : w.cell? a = some v) : (w.alloc o).cell? a = some v := (World.cell?_alloc_lt _ _ _ (World.block_lt_of_cell? w a h)).trans h
theorem hal_drew {w : World} {o' : Obj} {k n : Nat} (h : w.heap[k]? = some o') : (w.drewN n).heap[k]? = some o' := h

theorem cell_putObj {W : World} {D b o : Nat} {v : Value} {x o' : Obj} (hD : W.heap[D]? = some x) (hx : x.isCells = false) (h : W.cell? ⟨b, o, none⟩ = some v) : (W.putObj D o').cell? ⟨b, o, none⟩ = some v := by
  obtain ⟨y, hy, hc⟩ := cells_of_cell h
  have hne : b ≠ D := by rintro rfl; rw [hD] at hy; cases hy; rw [hx] at hc; cases hc
  simp only [World.cell?] at h ⊢
  rw [World.putObj_heap_other hne]; exact h
theorem leave68 {T : Array Value} {N : Nat} {W : World} {p : Value} {b : Bool} (h2 : T[2]? = some (.pointer (some ⟨N + 1, 0, none⟩))) (h3 : T[3]? = some (.pointer (some ⟨N + 2, 0, none⟩))) (c1 : W.cell? ⟨N + 1, 0, none⟩ = some p) (c2 : W.cell? ⟨N + 2, 0, none⟩ = some (.bool b)) :
    (results Try.f68 T).run Try.prog W = .ok (.tuple #[p, .bool b]) W := by
  simp [results, Try.results68, go_sem, h2, h3, c1, c2]

theorem finish68 {W : World} {N D : Nat} {T : Array Value} {p v1 v2 : Value} {ok : Bool} {R : Ending → World → Prop} (h1 : W.heap[N + 1]? = some (.cells #[v1] 97 (0, 0))) (h2 : W.heap[N + 2]? = some (.cells #[v2] 4 (0, 0)))
    (hK : W.heap[D]? = some (.deferred (some []))) (t2 : T[2]? = some (.pointer (some ⟨N + 1, 0, none⟩))) (t3 : T[3]? = some (.pointer (some ⟨N + 2, 0, none⟩)))
    (hR : R (.returned (.tuple #[p, .bool ok])) (((W.setCell ⟨N + 1, 0, none⟩ p).setCell ⟨N + 1 + 1, 0, none⟩ (.bool ok)).putObj D (.deferred none))) :
    bodyPostM Fence.wide 9 Try.prog Try.f68 R .ret { tmps := T, defers := [{ target := .collected D, args := #[] }] } ((W.setCell ⟨N + 1, 0, none⟩ p).setCell ⟨N + 1 + 1, 0, none⟩ (.bool ok)) := by
  have b1 : Boxed W (N + 1) 97 v1 := h1
  have b2 : Boxed W (N + 1 + 1) 4 v2 := h2
  have d1 : D ≠ N + 1 := by rintro rfl; rw [h1] at hK; cases hK
  have d2 : D ≠ N + 1 + 1 := by rintro rfl; rw [h2] at hK; cases hK
  have hK' : ((W.setCell ⟨N + 1, 0, none⟩ p).setCell ⟨N + 1 + 1, 0, none⟩ (.bool ok)).heap[D]? = some (.deferred (some [])) := (Below.heap_setCell _ _ _ _ d2).trans ((Below.heap_setCell _ _ _ _ d1).trans hK)
  refine ⟨by simp, .inl ⟨_, _, rfl, run_takeDeferred hK', ?_⟩⟩
  refine ⟨_, leave68 (N := N) t2 t3 (cell_putObj hK' rfl ((b1.set p).other (by omega) _).cell) (cell_putObj hK' rfl ((b2.other (B' := N + 1) (by omega) p).set _).cell), hR⟩
theorem finish_below {w W : World} {D : Nat} {p q : Value} (hB : Below w.heap.size w W) (hD : w.heap.size ≤ D) (_ : W.heap[D]? = some (.deferred (some []))) : Below w.heap.size w (((W.setCell ⟨w.heap.size + 1, 0, none⟩ p).setCell ⟨w.heap.size + 1 + 1, 0, none⟩ q).putObj D (.deferred none)) := by
  have h := (hB.setCell (p := ⟨w.heap.size + 1, 0, none⟩) (by simp) p).setCell (p := ⟨w.heap.size + 1 + 1, 0, none⟩) (by simp; omega) q
  exact h.grown (grownBy_putObj' _ D _) h.size (fun k e => by cases e; exact hD)

theorem finish_heapB {W : World} {N D : Nat} {c : Conf} {lv qv : Value} {gi : Int} {L : List Ext} {A : Option Addr} {n cap : Nat} {p q : Value} (hg : W.heap[N + 3]? = some (.cells #[.int .i64 c.page, .int .i64 c.n, .int .i64 c.red, .int .i64 c.quarantine, lv, qv, .int .i64 gi, .slice A n cap] 123 (0, 0)))
    (hs : Sl 7 encE W (.slice A n cap) L) (hrow : ∀ b, (Value.slice A n cap).ownBlock = some b → N + 12 ≤ b ∧ b ≠ D) (hD : N + 12 ≤ D) :
    HeapB (((W.setCell ⟨N + 1, 0, none⟩ p).setCell ⟨N + 1 + 1, 0, none⟩ q).putObj D (.deferred none)) (N + 3) c lv qv gi L := by
  have k : ∀ j : Nat, j ≠ N + 1 → j ≠ N + 1 + 1 → j ≠ D → (((W.setCell ⟨N + 1, 0, none⟩ p).setCell ⟨N + 1 + 1, 0, none⟩ q).putObj D (.deferred none)).heap[j]? = W.heap[j]? := fun j h1 h2 h3 =>
    (World.putObj_heap_other h3).trans ((Below.heap_setCell _ _ _ _ h2).trans (Below.heap_setCell _ _ _ _ h1))
  refine ⟨.slice A n cap, (k _ (by omega) (by omega) (by omega)).trans hg, ?_⟩
  obtain ⟨A', c', e, hc, hl⟩ := hs
  cases e
  refine ⟨A, cap, rfl, hc, ?_⟩
  rcases hl with rfl | ⟨b, off, rfl, hL⟩
  · exact .inl rfl
  refine .inr ⟨b, off, rfl, ?_⟩
  have hb := hrow b rfl
  have hk := k b (by omega) (by omega) hb.2
  refine ⟨?_, fun j hj i v hv => ?_⟩
  · have h1 := hL.1
    exact (Array.getElem?_eq_some_iff.1 (hk.trans (Array.getElem?_eq_some_iff.2 ⟨h1, rfl⟩))).1
  · rw [← hL.2 j hj i v hv]
    simp only [World.cell?]
    rw [hk]

def Adj (L : List Ext) : Prop := ∀ j, j + 1 < L.length → L[j]!.to ≤ L[j + 1]!.fr
def SortedFr (L : List Ext) : Prop := ∀ i j, i < j → j < L.length → L[i]!.fr ≤ L[j]!.fr
/-- what opened answers. -/
def OpRes (c : Conf) (lv qv : Value) (gi : Int) (live quar : List Piece) (w : World) (e : Ending) (w' : World) : Prop :=
  Below w.heap.size w w' ∧
  ((¬ okGo c gi [] (items c.red live quar) ∧ e = .returned (.tuple #[.pointer none, .bool false])) ∨
   (okGo c gi [] (items c.red live quar) ∧ ∃ L : List Ext, L.Perm (items c.red live quar) ∧ SortedFr L ∧
     ((¬ Adj L ∧ e = .returned (.tuple #[.pointer none, .bool false])) ∨
      (Adj L ∧ e = .returned (.tuple #[.pointer (some ⟨w.heap.size + 3, 0, none⟩), .bool (decide (SortedPos live) && decide (heldF (items c.red live quar) ≤ c.quarantine))]) ∧ HeapB w' (w.heap.size + 3) c lv qv gi L))))

set_option maxRecDepth 100000 in
set_option maxHeartbeats 4000000 in
theorem c68_yes (c : Conf) (lv qv : Value) (gi : Int) (live quar : List Piece) (w : World) (hok : okConf c = true) (hg0 : 0 ≤ gi) (hg1 : gi ≤ 1073741824) (hl : Sl 3 encP w lv live) (hq : Sl 3 encP w qv quar) (hn1 : live.length ≤ 1000) (hn2 : quar.length ≤ 1000) :
    CallsIn Fence.wide 9 Try.prog 68 #[.agg #[.int .i64 c.page, .int .i64 c.n, .int .i64 c.red, .int .i64 c.quarantine, lv, qv, .int .i64 gi]] w (OpRes c lv qv gi live quar w) := by
  have hv := fun W => c79 c W
  unfold encC at hv
  rw [hok] at hv
  have hmm := @run_makeMap Try.prog
  have hbnd := hok
  simp only [okConf, decide_eq_true_eq] at hbnd
  obtain ⟨b1, b2, b3, b4, b5, b6, b7, b8, b9⟩ := hbnd
  have hreg := fun W A (h0 : W.cell? ⟨A, 0, none⟩ = some (.int .i64 c.page)) (h1 : W.cell? ⟨A, 1, none⟩ = some (.int .i64 c.n)) => c86 c.page c.n A W h0 h1 (by omega) (by omega) (by omega) (by omega)
  have HL := Lib.hid hl
  have HQ := Lib.hid hq
  obtain ⟨A, ca, rfl, _, _⟩ := hl
  obtain ⟨B, cb, rfl, _, _⟩ := hq
  generalize hm1 : live.length = n1 at hn1 HL
  generalize hm2 : quar.length = n2 at hn2 HQ
  have HM1 := Lib.hid hm1
  have HM2 := Lib.hid hm2
  have HOK := Lib.hid hok
  clear hm1 hm2 hok
  refine callsIn_of_wp_marks Try.func68 rfl trivial ?_ rfl
  simp only [Try.ntmps68, List.size_toArray, List.length_cons, List.length_nil, Nat.reduceAdd, Nat.reduceSub, Array.replicate_succ, Array.replicate_zero, List.push_toArray, List.append_toArray, List.nil_append, List.cons_append]
  have f79 : Fence.wide.fn 79 := trivial
  have f86 : Fence.wide.fn 86 := trivial
  have f77 : Fence.wide.fn 77 := trivial
  gi_wp2_with (gi_at_call 79; refine (callsIn_wide.2 (hv _)).mono ?_; rintro e w' ⟨rfl, rfl⟩)
  refine CallsIn.mono (callsIn_wide.2 (hreg _ _ ?h0 ?h1)) ?_
  case h0 => simp [go_sem]
  case h1 => simp [go_sem]
  rintro e w' ⟨rfl, nq, rfl⟩
  gi_wp2_with (gi_at_call 77; refine (c77 _ _ _).mono ?_; rintro e w' ⟨rfl, rfl⟩)
  refine gen_world (fun W => OpI c (.slice A n1 ca) (.slice B n2 cb) gi w.heap.size [] W ∧ Below w.heap.size w W ∧ W.heap.size = w.heap.size + 12 ∧ W.heap[w.heap.size + 11]? = some (.cells #[.pointer (some ⟨w.heap.size + 3, 0, none⟩)] 97 (0, 0))) ?_ ?_
  · refine ⟨⟨?_, ?_, ?_, ⟨.slice none 0 0, ?_, World.ownsRow_nil _ _ _ _⟩, ?_, ⟨#[], 0, ?_, SeenE.nil⟩, ?_, ?_, ?_, ?_⟩, ?_, by simp, ?_⟩
    all_goals first | (repeat' first | (refine hal_new ?_; (try simp); done) | refine hal_old ?_ | refine hal_drew ?_) | skip
    repeat' first | exact Below.refl _ _ | refine Below.alloc ?_ (by simp; try omega) _ | refine below_drewN ?_ _
  rintro W0 ⟨hF0, hB0, hs0, hb0⟩
  have f100 : Fence.wide.fn 100 := trivial
  obtain ⟨lsv0, hg0', _⟩ := OpF.g hF0
  have hit : (items c.red live quar).length = n1 + n2 := by simp [items, itemsFrom_len, HM1.out, HM2.out]
  refine wpIn_rangeFunc_ownT _ rfl (by omega) (gf := 100) (lb := #[.pointer (some ⟨w.heap.size + 11, 0, none⟩)]) rfl f100 (enters_of Try.func100 (by kernel_rfl) rfl)
    (s100 8 (by omega) (w.heap.size + 11) (w.heap.size + 3) c.red _ _ live quar (opC w.heap.size) w W0 (by omega) hb0 (by omega) (blk_cell hg0' 2) (blk_cell hg0' 4) (blk_cell hg0' 5) HL.out HQ.out hB0 (by omega) (by omega) (by rw [HM1.out]; omega) (by rw [HM2.out]; omega))
    KpG.trans (fun W l o o' _ hl ho _ => KpG.put W l o o' hl ho) (Below.refl _ _) (fun _ => rfl)
    (fun pre W => (OpI c (.slice A n1 ca) (.slice B n2 cb) gi w.heap.size pre W ∧ okGo c gi [] pre) ∧ (Below w.heap.size w W ∧ W0.heap.size ≤ W.heap.size))
    (fun cd pre W => (cd = .ret ∧ ¬ okGo c gi [] pre ∧ (W.cell? ⟨w.heap.size + 1, 0, none⟩ = some (.pointer none) ∧ W.cell? ⟨w.heap.size + 2, 0, none⟩ = some (.bool false))) ∧ Below w.heap.size w W)
    (OwnFrom.and (OwnFrom.and (OpI.own _ _ _ _ _ _ (by omega)) (ownFrom_pure _ _)) (OwnFrom.and (ownFrom_below (Nat.le_refl _) (by omega)) (fun _ X Y row hs hg _ => Nat.le_trans hs hg.size)))
    ?hIx
    ⟨⟨hF0, trivial⟩, hB0, Nat.le_refl _⟩
    (fun T x a' W => ∃ Bx, W0.heap.size ≤ Bx ∧ W.heap[Bx]? = some (.cells (encE x).toArray 115 (0, 0)) ∧ (∃ lsv, W.cell? ⟨w.heap.size + 3, 7, none⟩ = some lsv ∧ lsv.ownBlock ≠ some Bx) ∧ a' = { tmps := (T.setIfInBounds 50 (.agg (encE x).toArray)).setIfInBounds 9 (.pointer (some ⟨Bx, 0, none⟩)), defers := [] })
    ?hAx ?assign ?body ?done ?stop
  case hIx =>
    exact fun cd => OwnFrom.and (fun s X Y row hs hg hr => ⟨hs.1, hs.2.1, cell_kept hs.2.2.1 hg (fun r e => (hr r e).2), cell_kept hs.2.2.2 hg (fun r e => (hr r e).2)⟩) (ownFrom_below (Nat.le_refl _) (by omega))
  case hAx =>
    rintro x a' _ X Y row ⟨Bx, h1, h2, ⟨lsv, h4, h5⟩, h3⟩ hg hr
    exact ⟨Bx, h1, (hg.block Bx (blk_lt h2) (fun e => by obtain ⟨_, o, ho, hc⟩ := hr Bx e.symm; rw [h2] at ho; cases ho; simp [Obj.isCells] at hc)).trans h2, ⟨lsv, cell_kept h4 hg (fun r e => (hr r e).2), h5⟩, h3⟩
  case assign =>
    rintro l pre x W K ⟨⟨hF, hgo⟩, hB, hz⟩ hK
    obtain ⟨lsv, hgl, hrl⟩ := OpF.g hF
    unfold encE at hK ⊢
    gi_wp2
    refine hK _ _ ((KeepsOthers.alloc _ _).from _) (KpG.below (below_alloc1 _ _) ?_) ⟨⟨?_, hgo⟩, hB.alloc hB.size _, by simp; omega⟩ ⟨W.heap.size, hz, World.alloc_heap_new W _, ⟨lsv, ((below_alloc1 W _).cell (p := ⟨w.heap.size + 3, 7, none⟩) (blk_lt hgl)).trans (blk_cell hgl 7), fun e => by have := (hrl.lt _ e).2; omega⟩, rfl⟩
    · obtain ⟨_, h, _⟩ := OpF.g hF; exact blk_lt h
    · exact OpF.kept hF (World.grownBy_alloc W _ none) (by simp)
  case stop =>
    rintro D cd pre W hD ⟨rest, hpre⟩ ⟨⟨rfl, hno, c1, c2⟩, hB⟩ hK
    have hno' : ¬ okGo c gi [] (items c.red live quar) := fun h => hno (okGo_prefix c gi [] pre rest (by rw [hpre]; exact h))
    gi_wp2
    refine ⟨by simp, .inl ⟨_, _, rfl, run_takeDeferred hK, ?_⟩⟩
    exact ⟨_, leave68 (N := w.heap.size) rfl rfl (cell_putObj hK rfl c1) (cell_putObj hK rfl c2), hB.grown (grownBy_putObj' W D _) hB.size (fun k e => by cases e; omega), .inl ⟨hno', rfl⟩⟩
  case done =>
    rintro D zs W hD rfl ⟨⟨hF, hgo⟩, hB, hz⟩ hK
    have HGO := Lib.hid hgo
    have HK := Lib.hid hK
    obtain ⟨lsv, hg2, hrow⟩ := OpF.g hF
    have hn64 : (items c.red live quar).length < 4611686018427387904 := by omega
    have hcall := c87v (items c.red live quar) W _ lsv hrow hn64
    have hob : ∀ b, b < w.heap.size + 12 → some b ≠ lsv.ownBlock := fun b hb e => by have := (hrow.lt b e.symm).1; omega
    have ch : W.cell? ⟨w.heap.size + 1 + 1 + 1 + 1, 0, none⟩ = some (.pointer (some ⟨w.heap.size + 3, 0, none⟩)) := blk_cell (OpF.h hF) 0
    have c7 : W.cell? ⟨w.heap.size + 3, 7, none⟩ = some lsv := blk_cell hg2 7
    have HF := Lib.hid hF
    have HG2 := Lib.hid hg2
    have HOB := Lib.hid hob
    have hBsz := hB.size
    have HB := Lib.hid hB
    have hlD : some D ≠ lsv.ownBlock := fun e => by
      rcases hrow.2 with ⟨rfl, _⟩ | ⟨g, cap, cur, rfl, _, h2, _⟩
      · cases e
      · cases e; rw [hK] at h2; cases h2
    have HLD := Lib.hid hlD
    clear hgo hF hrow hg2 hob hB hlD hK
    have f87 : Fence.wide.fn 87 := trivial
    gi_wp2_with (gi_at_call 87; refine (callsIn_wide.2 hcall).mono ?_; rintro e w' ⟨rfl, L', hperm, hsort, hsl, hgrow⟩; have ch' : w'.cell? ⟨w.heap.size + 1 + 1 + 1 + 1, 0, none⟩ = some (.pointer (some ⟨w.heap.size + 3, 0, none⟩)) := hgrow.cell ch (HOB.out _ (by simp)); have c7' : w'.cell? ⟨w.heap.size + 3, 7, none⟩ = some lsv := hgrow.cell c7 (HOB.out _ (by simp)); have hsz' := hgrow.size; have HPERM := Lib.hid hperm; have HSORT := Lib.hid hsort; have HSL := Lib.hid hsl; have HGROW := Lib.hid hgrow; clear hperm hsort hgrow hcall ch c7; obtain ⟨AL, cL, rfl, hLc, hLies⟩ := hsl)
    have HLIES := Lib.hid hLies
    clear hLies
    generalize hnn : L'.length = nn at hLc HSL c7' HG2 HLD HOB HGROW ⊢
    have HNN := Lib.hid hnn
    have hnn64 : nn < 4611686018427387904 := by rw [← hnn, HPERM.out.length_eq]; exact hn64
    clear hnn
    obtain ⟨W1, rfl⟩ : ∃ W1 : World, W1 = w' := ⟨_, rfl⟩
    gi_loopw [132] (fun s wr => ∃ k : Nat, k ≤ nn ∧ s = .int .i64 k ∧ Hid (∀ j, j + 1 < k → L'[j]!.to ≤ L'[j + 1]!.fr) ∧ Hid (Below W1.heap.size W1 wr)) (fun s _ => nn - (intOf s).toNat)
    case atStart => exact ⟨0, Nat.zero_le _, rfl, fun j hj => by omega, Below.refl _ _⟩
    case round =>
      obtain ⟨k, hk, rfl, HA, HBr⟩ := hrel
      have hszr := HBr.out.size
      have d4 : wr.cell? ⟨w.heap.size + 1 + 1 + 1 + 1, 0, none⟩ = some (.pointer (some ⟨w.heap.size + 3, 0, none⟩)) := (HBr.out.cell (p := ⟨w.heap.size + 1 + 1 + 1 + 1, 0, none⟩) (by simp; omega)).trans ch'
      have d7 : wr.cell? ⟨w.heap.size + 3, 7, none⟩ = some (.slice AL nn cL) := (HBr.out.cell (p := ⟨w.heap.size + 3, 7, none⟩) (by simp; omega)).trans c7'
      have hcw : ∀ (b o : Nat) (v : Value), b < w.heap.size + 12 → W.cell? ⟨b, o, none⟩ = some v → wr.cell? ⟨b, o, none⟩ = some v := fun b o v hb hv => (HBr.out.cell (p := ⟨b, o, none⟩) (by show b < W1.heap.size; omega)).trans (HGROW.out.cell hv (HOB.out b hb))
      have hhw : ∀ (b : Nat) (o : Obj), b < w.heap.size + 12 → W.heap[b]? = some o → wr.heap[b]? = some o := fun b o hb hv => (HBr.out.block b (by omega)).trans ((HGROW.out.block b (by omega) (HOB.out b hb)).trans hv)
      have hKr : wr.heap[D]? = some (.deferred (some [])) := (HBr.out.block D (Nat.lt_of_lt_of_le (blk_lt HK.out) hsz')).trans ((HGROW.out.block D (blk_lt HK.out) HLD.out).trans HK.out)
      have hBw : Below w.heap.size w wr := (HB.out.grown HGROW.out HB.out.size (fun b e => Nat.le_of_not_lt fun hlt => HOB.out b (by omega) e.symm)).trans (HBr.out.mono (by omega))
      have e1 := hhw _ _ (by simp) (OpF.r1 HF.out)
      have e2 := hhw _ _ (by simp) (OpF.r2 HF.out)
      have cr1 : wr.cell? ⟨w.heap.size + 1, 0, none⟩ = some (.pointer none) := blk_cell e1 0
      have cr2 : wr.cell? ⟨w.heap.size + 1 + 1, 0, none⟩ = some (.bool false) := blk_cell e2 0
      have fr1 : wr.frozen? ⟨w.heap.size + 1, 0, none⟩ = false := frozen_of_row _ _ _ _ _ e1
      have fr2 : wr.frozen? ⟨w.heap.size + 1 + 1, 0, none⟩ = false := frozen_of_row _ _ _ _ _ e2
      have s1 : w.heap.size + 1 < wr.heap.size := by omega
      have s2 : w.heap.size + 1 + 1 < wr.heap.size := by omega
      have s3 : w.heap.size + 1 + 1 + 1 + 1 < wr.heap.size := by omega
      have s4 : w.heap.size + 3 < wr.heap.size := by omega
      have HE1 := Lib.hid e1
      have HE2 := Lib.hid e2
      have HKR := Lib.hid hKr
      have HBW := Lib.hid hBw
      have HHW := Lib.hid hhw
      have HCW := Lib.hid hcw
      clear e1 e2 hKr hBw hhw hcw
      by_cases hlt : k < nn
      · have hkl : k < L'.length := by rw [HNN.out]; exact hlt
        obtain ⟨b, off, rfl, hl⟩ := HLIES.out.resolve_left (by rintro rfl; simp at hkl)
        have hbr := Nat.lt_of_lt_of_le hl.1 hszr
        obtain ⟨l0, l1, l2, l3, l4, l5, l6⟩ := (hl.below HBr.out).at7 k hkl
        by_cases h0 : k = 0
        · subst h0
          generalize hx : L'[0]! = x at l0 l1 l2 l3 l4 l5 l6
          simp only [Nat.zero_mul, Nat.add_zero] at l0 l1 l2 l3 l4 l5 l6
          clear hx hl hkl
          gi_wp2
          refine wpIn_wide.2 ?_
          go_quiet (fail)
          gi_wp2
          go_roundw
          case rel => exact ⟨0 + 1, by omega, rfl, fun j hj => by omega, below_drewN (HBr.out.alloc hszr _) _⟩
          case measure => simp [intOf]; omega
        · obtain ⟨t, rfl⟩ : ∃ t, k = t + 1 := ⟨k - 1, by omega⟩
          have htl : t < L'.length := by omega
          obtain ⟨m0, m1, m2, m3, m4, m5, m6⟩ := (hl.below HBr.out).at7 t htl
          generalize hx : L'[t + 1]! = x at l0 l1 l2 l3 l4 l5 l6
          generalize hy : L'[t]! = y at m0 m1 m2 m3 m4 m5 m6
          have X := Lib.hid hx
          have Y := Lib.hid hy
          have hb1 : (t : Int) + 1 < (nn : Int) := by omega
          have hb2 : t + 1 < nn := by omega
          have hb3 : t < nn := by omega
          have hb4 : 0 ≤ (t : Int) + 1 := by omega
          have hb5 : (t : Int) + 1 - 1 = t := by omega
          have hb6 : ((t : Int) + 1).toNat = t + 1 := by omega
          have hb7 : IntKind.i64.wrap (t : Int) = t := by simp only [IntKind.wrap, IntKind.bits, IntKind.signed]; simp; omega
          have hb8 : 0 < (t : Int) + 1 := by omega
          clear hx hy hl hkl htl h0
          by_cases ha : x.fr < y.to
          · gi_wp2
            refine wpIn_wide.2 ?_
            go_quiet (fail)
            gi_wp2
            have hKx : ((wr.alloc (.cells (encE x).toArray 115)).drewN nq).heap[D]? = some (.deferred (some [])) := hal_drew (hal_old HKR.out)
            refine finish68 (hal_drew (hal_old HE1.out)) (hal_drew (hal_old HE2.out)) hKx rfl rfl ⟨finish_below (below_drewN (HBW.out.alloc HBW.out.size _) _) (by omega) hKx, .inr ⟨HGO.out, L', HPERM.out, HSORT.out, .inl ⟨fun hadj => ?_, rfl⟩⟩⟩
            have := hadj t (by rw [HNN.out]; omega)
            rw [X.out, Y.out] at this
            omega
          · gi_wp2
            refine wpIn_wide.2 ?_
            go_quiet (fail)
            gi_wp2
            go_roundw
            case rel =>
              refine ⟨t + 1 + 1, by omega, by go_num, ?_, below_drewN (HBr.out.alloc hszr _) _⟩
              intro j hj
              by_cases hjt : j = t
              · subst hjt; rw [X.out, Y.out]; omega
              · exact HA.out j (by omega)
            case measure => simp [intOf]; omega
      · obtain rfl : k = nn := by omega
        clear hk
        have cA4 : wr.cell? ⟨w.heap.size, 4, none⟩ = some (.slice A n1 ca) := HCW.out _ _ _ (by simp) (blk_cell (OpF.a HF.out) 4)
        have hcall := c90 (.slice A n1 ca) live wr (HL.out.below HBW.out) (by rw [HM1.out]; omega)
        have f90 : Fence.wide.fn 90 := trivial
        by_cases hsp : SortedPos live
        · rw [decide_eq_true hsp] at hcall
          gi_wp2_with (gi_at_call 90; refine (callsIn_wide.2 hcall).mono ?_; rintro e w3 ⟨rfl, hB3⟩)
          have sz3 := hB3.size
          have g1 := (hB3.block _ s1).trans HE1.out
          have g2 := (hB3.block _ s2).trans HE2.out
          have g4 : w3.cell? ⟨w.heap.size + 1 + 1 + 1 + 1, 0, none⟩ = some (.pointer (some ⟨w.heap.size + 3, 0, none⟩)) := (hB3.cell (p := ⟨w.heap.size + 1 + 1 + 1 + 1, 0, none⟩) s3).trans d4
          have g8 : w3.cell? ⟨w.heap.size + 1 + 1 + 1 + 1 + 1 + 1 + 1 + 1, 0, none⟩ = some (.int .i64 (heldF (items c.red live quar))) := (hB3.cell (p := ⟨w.heap.size + 1 + 1 + 1 + 1 + 1 + 1 + 1 + 1, 0, none⟩) (by simp; omega)).trans (HCW.out _ _ _ (by simp) (blk_cell (OpF.hd HF.out) 0))
          have ga : w3.cell? ⟨w.heap.size, 3, none⟩ = some (.int .i64 c.quarantine) := (hB3.cell (p := ⟨w.heap.size, 3, none⟩) (by simp; omega)).trans (HCW.out _ _ _ (by simp) (blk_cell (OpF.a HF.out) 3))
          have q1 : w3.cell? ⟨w.heap.size + 1, 0, none⟩ = some (.pointer none) := blk_cell g1 0
          have q2 : w3.cell? ⟨w.heap.size + 1 + 1, 0, none⟩ = some (.bool false) := blk_cell g2 0
          have k1 : w3.frozen? ⟨w.heap.size + 1, 0, none⟩ = false := frozen_of_row _ _ _ _ _ g1
          have k2 : w3.frozen? ⟨w.heap.size + 1 + 1, 0, none⟩ = false := frozen_of_row _ _ _ _ _ g2
          have HG1 := Lib.hid g1
          have HG2' := Lib.hid g2
          have HB3 := Lib.hid hB3
          clear g1 g2 hB3 cr1 cr2 fr1 fr2 d4 d7 cA4 ch' c7'
          refine wpIn_wide.2 ?_
          go_region
          gi_wp2
          have hK3 : w3.drew.heap[D]? = some (.deferred (some [])) := (HB3.out.block D (blk_lt HKR.out)).trans HKR.out
          have hg3 : w3.drew.heap[w.heap.size + 3]? = some (.cells #[.int .i64 c.page, .int .i64 c.n, .int .i64 c.red, .int .i64 c.quarantine, .slice A n1 ca, .slice B n2 cb, .int .i64 gi, .slice AL k cL] 123 (0, 0)) := (HB3.out.block _ s4).trans (HHW.out _ _ (by simp) HG2.out)
          refine finish68 (W := w3.drew) HG1.out HG2'.out hK3 rfl rfl ⟨finish_below (HBW.out.trans (HB3.out.mono HBW.out.size)).drew (by omega) hK3, .inr ⟨HGO.out, L', HPERM.out, HSORT.out, .inr ⟨fun j hj => HA.out j (by rw [← HNN.out]; exact hj), ?_, finish_heapB hg3 ((HSL.out.below HBr.out).below HB3.out.drew) ?_ (by omega)⟩⟩⟩
          · simp [hsp]
          · intro b hb
            exact ⟨Nat.le_of_not_lt fun hlt => HOB.out b hlt hb.symm, fun e => HLD.out (by rw [hb, e])⟩
        · rw [decide_eq_false hsp] at hcall
          gi_wp2_with (gi_at_call 90; refine (callsIn_wide.2 hcall).mono ?_; rintro e w3 ⟨rfl, hB3⟩)
          have sz3 := hB3.size
          have g1 := (hB3.block _ s1).trans HE1.out
          have g2 := (hB3.block _ s2).trans HE2.out
          have g4 : w3.cell? ⟨w.heap.size + 1 + 1 + 1 + 1, 0, none⟩ = some (.pointer (some ⟨w.heap.size + 3, 0, none⟩)) := (hB3.cell (p := ⟨w.heap.size + 1 + 1 + 1 + 1, 0, none⟩) s3).trans d4
          have g8 : w3.cell? ⟨w.heap.size + 1 + 1 + 1 + 1 + 1 + 1 + 1 + 1, 0, none⟩ = some (.int .i64 (heldF (items c.red live quar))) := (hB3.cell (p := ⟨w.heap.size + 1 + 1 + 1 + 1 + 1 + 1 + 1 + 1, 0, none⟩) (by simp; omega)).trans (HCW.out _ _ _ (by simp) (blk_cell (OpF.hd HF.out) 0))
          have ga : w3.cell? ⟨w.heap.size, 3, none⟩ = some (.int .i64 c.quarantine) := (hB3.cell (p := ⟨w.heap.size, 3, none⟩) (by simp; omega)).trans (HCW.out _ _ _ (by simp) (blk_cell (OpF.a HF.out) 3))
          have q1 : w3.cell? ⟨w.heap.size + 1, 0, none⟩ = some (.pointer none) := blk_cell g1 0
          have q2 : w3.cell? ⟨w.heap.size + 1 + 1, 0, none⟩ = some (.bool false) := blk_cell g2 0
          have k1 : w3.frozen? ⟨w.heap.size + 1, 0, none⟩ = false := frozen_of_row _ _ _ _ _ g1
          have k2 : w3.frozen? ⟨w.heap.size + 1 + 1, 0, none⟩ = false := frozen_of_row _ _ _ _ _ g2
          have HG1 := Lib.hid g1
          have HG2' := Lib.hid g2
          have HB3 := Lib.hid hB3
          clear g1 g2 hB3 cr1 cr2 fr1 fr2 d4 d7 cA4 ch' c7'
          refine wpIn_wide.2 ?_
          go_region
          gi_wp2
          have hK3 : w3.drew.heap[D]? = some (.deferred (some [])) := (HB3.out.block D (blk_lt HKR.out)).trans HKR.out
          have hg3 : w3.drew.heap[w.heap.size + 3]? = some (.cells #[.int .i64 c.page, .int .i64 c.n, .int .i64 c.red, .int .i64 c.quarantine, .slice A n1 ca, .slice B n2 cb, .int .i64 gi, .slice AL k cL] 123 (0, 0)) := (HB3.out.block _ s4).trans (HHW.out _ _ (by simp) HG2.out)
          refine finish68 (W := w3.drew) HG1.out HG2'.out hK3 rfl rfl ⟨finish_below (HBW.out.trans (HB3.out.mono HBW.out.size)).drew (by omega) hK3, .inr ⟨HGO.out, L', HPERM.out, HSORT.out, .inr ⟨fun j hj => HA.out j (by rw [← HNN.out]; exact hj), ?_, finish_heapB hg3 ((HSL.out.below HBr.out).below HB3.out.drew) ?_ (by omega)⟩⟩⟩
          · simp [hsp]
          · intro b hb
            exact ⟨Nat.le_of_not_lt fun hlt => HOB.out b hlt hb.symm, fun e => HLD.out (by rw [hb, e])⟩
  case body =>
    rintro l pre x a' W hl ⟨r, hr⟩ ⟨⟨hF, hgo⟩, hB, hz⟩ ⟨Bx, hBx, hX, ⟨lsv, hlsv, hown⟩, rfl⟩ hlt
    have hxl := blk_lt hX
    have x0 : W.cell? ⟨Bx, 0, none⟩ = some (.int .u32 x.p.pos) := blk_cell hX 0
    have x1 : W.cell? ⟨Bx, 1, none⟩ = some (.int .i64 x.p.size) := blk_cell hX 1
    have x2 : W.cell? ⟨Bx, 2, none⟩ = some (.int .i64 x.p.born) := blk_cell hX 2
    have x3 : W.cell? ⟨Bx, 3, none⟩ = some (.int .i64 x.fr) := blk_cell hX 3
    have x4 : W.cell? ⟨Bx, 4, none⟩ = some (.int .i64 x.to) := blk_cell hX 4
    have x5 : W.cell? ⟨Bx, 5, none⟩ = some (.bool x.quar) := blk_cell hX 5
    have cgi : W.cell? ⟨w.heap.size, 6, none⟩ = some (.int .i64 gi) := blk_cell (OpF.a hF) 6
    have cmv : W.cell? ⟨w.heap.size + 1 + 1 + 1 + 1 + 1 + 1 + 1, 0, none⟩ = some (.map (some (w.heap.size + 1 + 1 + 1 + 1 + 1 + 1))) := blk_cell (OpF.mv hF) 0
    have cfr : W.cell? ⟨w.heap.size + 1 + 1 + 1 + 1 + 1 + 1 + 1 + 1 + 1, 0, none⟩ = some (.int .i64 (c.page * 256)) := blk_cell (OpF.fr hF) 0
    have cto : W.cell? ⟨w.heap.size + 1 + 1 + 1 + 1 + 1 + 1 + 1 + 1 + 1 + 1, 0, none⟩ = some (.int .i64 ((c.page + c.n) * 256)) := blk_cell (OpF.to hF) 0
    have cr1 : W.cell? ⟨w.heap.size + 1, 0, none⟩ = some (.pointer none) := blk_cell (OpF.r1 hF) 0
    have cr2 : W.cell? ⟨w.heap.size + 1 + 1, 0, none⟩ = some (.bool false) := blk_cell (OpF.r2 hF) 0
    have fr1 : W.frozen? ⟨w.heap.size + 1, 0, none⟩ = false := frozen_of_row _ _ _ _ _ (OpF.r1 hF)
    have fr2 : W.frozen? ⟨w.heap.size + 1 + 1, 0, none⟩ = false := frozen_of_row _ _ _ _ _ (OpF.r2 hF)
    have hFH := Lib.hid hF
    have HGO := Lib.hid hgo
    have HX := Lib.hid hX
    clear hF hgo hX
    obtain ⟨es, clk, hm, hsn⟩ := OpF.m hFH.out
    have hlk := run_lookup_seen x.p.born W hm hsn
    have HM := Lib.hid hm
    have HSN := Lib.hid hsn
    clear hm hsn
    by_cases t1 : x.p.pos.tmod 8 = 0
    rotate_left
    · have HF' := hFH
      clear hFH HGO HX HM HSN
      unfold encE
      gi_wp2
      have hfl := opF_fail HF'.out hB (w.heap.size + 12)
      exact ⟨(by first | exact hfl.1 | (rw [hs0]; exact hfl.1)), ⟨rfl, fun ho => (by have h := ((okGo_snoc c gi [] pre x).1 ho).2; obtain ⟨z1, z2, z3, z4, z5, z6, z7, z8⟩ := h; first | exact absurd z1 t1 | exact absurd t1 z6 | omega), hfl.2.1⟩, hfl.2.2⟩
    by_cases t2 : x.p.size < 0
    · have HF' := hFH
      clear hFH HGO HX HM HSN
      unfold encE
      gi_wp2
      have hfl := opF_fail HF'.out hB (w.heap.size + 12)
      exact ⟨(by first | exact hfl.1 | (rw [hs0]; exact hfl.1)), ⟨rfl, fun ho => (by have h := ((okGo_snoc c gi [] pre x).1 ho).2; obtain ⟨z1, z2, z3, z4, z5, z6, z7, z8⟩ := h; first | exact absurd z1 t2 | exact absurd t2 z6 | omega), hfl.2.1⟩, hfl.2.2⟩
    by_cases t3 : 65536 < x.p.size
    · have HF' := hFH
      clear hFH HGO HX HM HSN
      unfold encE
      gi_wp2
      have hfl := opF_fail HF'.out hB (w.heap.size + 12)
      exact ⟨(by first | exact hfl.1 | (rw [hs0]; exact hfl.1)), ⟨rfl, fun ho => (by have h := ((okGo_snoc c gi [] pre x).1 ho).2; obtain ⟨z1, z2, z3, z4, z5, z6, z7, z8⟩ := h; first | exact absurd z1 t3 | exact absurd t3 z6 | omega), hfl.2.1⟩, hfl.2.2⟩
    by_cases t4 : x.p.born < 1
    · have HF' := hFH
      clear hFH HGO HX HM HSN
      unfold encE
      gi_wp2
      have hfl := opF_fail HF'.out hB (w.heap.size + 12)
      exact ⟨(by first | exact hfl.1 | (rw [hs0]; exact hfl.1)), ⟨rfl, fun ho => (by have h := ((okGo_snoc c gi [] pre x).1 ho).2; obtain ⟨z1, z2, z3, z4, z5, z6, z7, z8⟩ := h; first | exact absurd z1 t4 | exact absurd t4 z6 | omega), hfl.2.1⟩, hfl.2.2⟩
    by_cases t5 : gi < x.p.born
    · have HF' := hFH
      clear hFH HGO HX HM HSN
      unfold encE
      gi_wp2
      have hfl := opF_fail HF'.out hB (w.heap.size + 12)
      exact ⟨(by first | exact hfl.1 | (rw [hs0]; exact hfl.1)), ⟨rfl, fun ho => (by have h := ((okGo_snoc c gi [] pre x).1 ho).2; obtain ⟨z1, z2, z3, z4, z5, z6, z7, z8⟩ := h; first | exact absurd z1 t5 | exact absurd t5 z6 | omega), hfl.2.1⟩, hfl.2.2⟩
    by_cases t6 : x.p.born ∈ pre.map (·.p.born)
    · rw [decide_eq_true t6] at hlk
      have HF' := hFH
      clear hFH HGO HX HM HSN
      unfold encE
      gi_wp2
      have hfl := opF_fail HF'.out hB (w.heap.size + 12)
      exact ⟨(by first | exact hfl.1 | (rw [hs0]; exact hfl.1)), ⟨rfl, fun ho => (by have h := ((okGo_snoc c gi [] pre x).1 ho).2; obtain ⟨z1, z2, z3, z4, z5, z6, z7, z8⟩ := h; first | exact absurd z1 t6 | exact absurd t6 z6 | omega), hfl.2.1⟩, hfl.2.2⟩
    rw [decide_eq_false t6] at hlk
    by_cases t7 : x.fr < c.page * 256
    · have HF' := hFH
      clear hFH HGO HX HM HSN
      unfold encE
      gi_wp2
      have hfl := opF_fail HF'.out hB (w.heap.size + 12)
      exact ⟨(by first | exact hfl.1 | (rw [hs0]; exact hfl.1)), ⟨rfl, fun ho => (by have h := ((okGo_snoc c gi [] pre x).1 ho).2; obtain ⟨z1, z2, z3, z4, z5, z6, z7, z8⟩ := h; first | exact absurd z1 t7 | exact absurd t7 z6 | omega), hfl.2.1⟩, hfl.2.2⟩
    by_cases t8 : (c.page + c.n) * 256 < x.to
    · have HF' := hFH
      clear hFH HGO HX HM HSN
      unfold encE
      gi_wp2
      have hfl := opF_fail HF'.out hB (w.heap.size + 12)
      exact ⟨(by first | exact hfl.1 | (rw [hs0]; exact hfl.1)), ⟨rfl, fun ho => (by have h := ((okGo_snoc c gi [] pre x).1 ho).2; obtain ⟨z1, z2, z3, z4, z5, z6, z7, z8⟩ := h; first | exact absurd z1 t8 | exact absurd t8 z6 | omega), hfl.2.1⟩, hfl.2.2⟩
    have hup := run_update_seen x.p.born W HM.out HSN.out t6
    have hxm : Bx ≠ w.heap.size + 6 := by omega
    have hF1 := hFH.out.birth HM.out (es.push { key := .int .i64 x.p.born, val := .bool true, born := clk }) (clk + 1) (pre.map (·.p.born) ++ [x.p.born]) (by rw [Array.toList_push]; exact HSN.out.snoc _ _)
    have hX1 := (World.putObj_heap_other (o := .map (es.push { key := .int .i64 x.p.born, val := .bool true, born := clk }) (clk + 1)) hxm).trans HX.out
    have hW1 : KeepsFrom (w.heap.size + 12) W (W.putObj (w.heap.size + 6) (.map (es.push { key := .int .i64 x.p.born, val := .bool true, born := clk }) (clk + 1))) ∧
        KpG w.heap.size (opC w.heap.size) (w.heap.size + 3) W (W.putObj (w.heap.size + 6) (.map (es.push { key := .int .i64 x.p.born, val := .bool true, born := clk }) (clk + 1))) ∧
        Below w.heap.size w (W.putObj (w.heap.size + 6) (.map (es.push { key := .int .i64 x.p.born, val := .bool true, born := clk }) (clk + 1))) ∧ W0.heap.size ≤ (W.putObj (w.heap.size + 6) (.map (es.push { key := .int .i64 x.p.born, val := .bool true, born := clk }) (clk + 1))).heap.size ∧ (W.putObj (w.heap.size + 6) (.map (es.push { key := .int .i64 x.p.born, val := .bool true, born := clk }) (clk + 1))).cell? ⟨w.heap.size + 3, 7, none⟩ = some lsv :=
      ⟨KeepsFrom.of_grownBy (grownBy_putObj' _ _ _) (fun j e => by cases e; omega), KpG.put W _ _ _ HM.out rfl, hB.grown (grownBy_putObj' W (w.heap.size + 6) _) hB.size (fun k e => by cases e; omega), by simpa using hz, by rw [← hlsv]; simp only [World.cell?]; rw [World.putObj_heap_other (by simp)]⟩
    generalize (W.putObj (w.heap.size + 6) (.map (es.push { key := .int .i64 x.p.born, val := .bool true, born := clk }) (clk + 1))) = W1 at hup hF1 hX1 hW1
    have y1 : W1.cell? ⟨Bx, 1, none⟩ = some (.int .i64 x.p.size) := blk_cell hX1 1
    have y5 : W1.cell? ⟨Bx, 5, none⟩ = some (.bool x.quar) := blk_cell hX1 5
    have chd : W1.cell? ⟨w.heap.size + 1 + 1 + 1 + 1 + 1 + 1 + 1 + 1, 0, none⟩ = some (.int .i64 (heldF pre)) := blk_cell (OpF.hd hF1) 0
    have fhd : W1.frozen? ⟨w.heap.size + 1 + 1 + 1 + 1 + 1 + 1 + 1 + 1, 0, none⟩ = false := frozen_of_row _ _ _ _ _ (OpF.hd hF1)
    have hrng := heldF_range c gi [] pre HGO.out
    have hadd : wrap64 (heldF pre + x.p.size) = heldF pre + x.p.size := (by have := hrng.1; have := hrng.2; unfold wrap64; omega)
    have HF1 := Lib.hid hF1
    have HX1 := Lib.hid hX1
    have HW1 := Lib.hid hW1
    have HB := Lib.hid hB
    clear hF1 hX1 hW1 hFH HX HM HSN hB hrng
    unfold encE
    cases hqx : x.quar
    all_goals rw [hqx] at y5 x5
    all_goals gi_wp2
    all_goals refine gen_world (fun W2 => OpF c (.slice A n1 ca) (.slice B n2 cb) gi w.heap.size pre (pre.map (·.p.born) ++ [x.p.born]) (heldF (pre ++ [x])) W2 ∧ W2.heap[Bx]? = some (.cells (encE x).toArray 115 (0, 0)) ∧
      KeepsFrom (w.heap.size + 12) W W2 ∧ KpG w.heap.size (opC w.heap.size) (w.heap.size + 3) W W2 ∧ Below w.heap.size w W2 ∧ W0.heap.size ≤ W2.heap.size ∧ W2.cell? ⟨w.heap.size + 3, 7, none⟩ = some lsv) ?_ ?_
    · refine ⟨?_, HX1.out, HW1.out⟩
      have := HF1.out
      rwa [show heldF (pre ++ [x]) = heldF pre by rw [heldF_snoc, hqx]; simp]
    rotate_left
    · obtain ⟨q1, q2, q3, q4, q5⟩ := HW1.out
      refine ⟨?_, (Below.heap_setCell _ _ _ _ (by simp; omega)).trans HX1.out, q1.trans ((KeepsOthers.setCell _ _ _).from _), q2.trans ⟨KpE.of_grownBy (grownBy_setCellJ _ _ _ _) (fun j e => by cases e; exact .inl (.inr rfl)), fun j hj v hv => ?_⟩, q3.setCell (p := ⟨w.heap.size + 1 + 1 + 1 + 1 + 1 + 1 + 1 + 1, 0, none⟩) (by simp; omega) _, Nat.le_trans q4 (KeepsWalks.setCell W1 _ _).size, ?_⟩
      · rw [show heldF (pre ++ [x]) = heldF pre + x.p.size by rw [heldF_snoc, hqx]; simp]
        exact HF1.out.hold _
      · have h2 : (W1.setCell ⟨w.heap.size + 8, 0, none⟩ (.int .i64 (heldF pre + x.p.size))).heap[w.heap.size + 3]? = W1.heap[w.heap.size + 3]? := Below.heap_setCell _ _ _ _ (by simp)
        simp only [World.cell?] at hv ⊢
        rw [h2]; exact hv
      · rw [← q5]; simp only [World.cell?]; rw [Below.heap_setCell _ _ _ _ (by simp)]
    all_goals clear hlsv hqx x0 x1 x2 x3 x4 x5 y1 y5 cgi cmv cfr cto cr1 cr2 fr1 fr2 chd fhd hlk hup hadd HF1 HX1 HW1 HB hxl hz hxm
    all_goals rintro W2 ⟨hF2, hX2, hkf, hkp, hB2, hz2, hl2⟩
    all_goals obtain ⟨lsv', hg2, hrow⟩ := OpF.g hF2
    all_goals obtain rfl : lsv = lsv' := by rw [blk_cell hg2] at hl2; simpa using hl2.symm
    all_goals
      have c4 : W2.cell? ⟨w.heap.size + 1 + 1 + 1 + 1, 0, none⟩ = some (.pointer (some ⟨w.heap.size + 3, 0, none⟩)) := blk_cell (OpF.h hF2) 0
      have c7 : W2.cell? ⟨w.heap.size + 3, 7, none⟩ = some lsv := blk_cell hg2 7
      have z0 : W2.cell? ⟨Bx, 0, none⟩ = some (.int .u32 x.p.pos) := blk_cell hX2 0
      have z1 : W2.cell? ⟨Bx, 1, none⟩ = some (.int .i64 x.p.size) := blk_cell hX2 1
      have z2 : W2.cell? ⟨Bx, 2, none⟩ = some (.int .i64 x.p.born) := blk_cell hX2 2
      have z3 : W2.cell? ⟨Bx, 3, none⟩ = some (.int .i64 x.fr) := blk_cell hX2 3
      have z4 : W2.cell? ⟨Bx, 4, none⟩ = some (.int .i64 x.to) := blk_cell hX2 4
      have z5 : W2.cell? ⟨Bx, 5, none⟩ = some (.bool x.quar) := blk_cell hX2 5
      have z6 : W2.cell? ⟨Bx, 6, none⟩ = some (.int .i64 x.ix) := blk_cell hX2 6
      refine round_region (fun w' => w'.cell? ⟨w.heap.size + 1 + 1 + 1 + 1, 0, none⟩ = some (.pointer (some ⟨w.heap.size + 3, 0, none⟩)) ∧ w'.cell? ⟨Bx, 0, none⟩ = some (.int .u32 x.p.pos) ∧ w'.cell? ⟨Bx, 1, none⟩ = some (.int .i64 x.p.size) ∧ w'.cell? ⟨Bx, 2, none⟩ = some (.int .i64 x.p.born) ∧ w'.cell? ⟨Bx, 3, none⟩ = some (.int .i64 x.fr) ∧ w'.cell? ⟨Bx, 4, none⟩ = some (.int .i64 x.to) ∧ w'.cell? ⟨Bx, 5, none⟩ = some (.bool x.quar) ∧ w'.cell? ⟨Bx, 6, none⟩ = some (.int .i64 x.ix)) (by kernel_rfl) (by kernel_rfl) (fun ⟨_, _, h⟩ => h) ⟨c4, z0, z1, z2, z3, z4, z5, z6⟩ ?_
      intro hS0
      clear c4 z0 z1 z2 z3 z4 z5 z6
      refine wpAnyH_take (i := 0) (v := .pointer (some ⟨w.heap.size + 3, 0, none⟩)) rfl (by kernel_rfl) (by kernel_rfl) (by kernel_rfl) (fun _ _ _ h => h) (Or.inl ⟨by rfl, ?hy⟩) hS0 ?_
      case hy => intro w9 hSw; obtain ⟨s0, s2, s3, s4, s5, s6, s7, s8⟩ := hSw; go_simp
      simp only [Act.put, List.setIfInBounds_toArray]
      refine wpAnyH_take (i := 1) (v := .pointer (some ⟨w.heap.size + 3, 0, none⟩)) rfl (by kernel_rfl) (by kernel_rfl) (by kernel_rfl) (fun _ _ _ h => h) (Or.inl ⟨by rfl, ?hy⟩) hS0 ?_
      case hy => intro w9 hSw; obtain ⟨s0, s2, s3, s4, s5, s6, s7, s8⟩ := hSw; go_simp
      simp only [Act.put]
      refine wpAnyH_take (i := 2) (v := .pointer (some ⟨w.heap.size + 3, 0, none⟩)) rfl (by kernel_rfl) (by kernel_rfl) (by kernel_rfl) (fun _ _ _ h => h) (Or.inl ⟨by rfl, ?hy⟩) hS0 ?_
      case hy => intro w9 hSw; obtain ⟨s0, s2, s3, s4, s5, s6, s7, s8⟩ := hSw; go_simp
      simp only [Act.put]
      refine wpAnyH_take (i := 3) (v := .pointer (some ⟨w.heap.size + 3, 7, none⟩)) rfl (by kernel_rfl) (by kernel_rfl) (by kernel_rfl) (fun _ _ _ h => h) (Or.inl ⟨by rfl, ?hy⟩) hS0 ?_
      case hy => intro w9 hSw; obtain ⟨s0, s2, s3, s4, s5, s6, s7, s8⟩ := hSw; go_simp
      simp only [Act.put]
      refine wpAnyH_take (i := 5) (v := .agg #[.int .u32 x.p.pos, .int .i64 x.p.size, .int .i64 x.p.born, .int .i64 x.fr, .int .i64 x.to, .bool x.quar, .int .i64 x.ix]) rfl (by kernel_rfl) (by kernel_rfl) (by kernel_rfl) (fun _ _ _ h => h) (Or.inl ⟨by rfl, ?hy⟩) hS0 ?_
      case hy => intro w9 hSw; obtain ⟨s0, s2, s3, s4, s5, s6, s7, s8⟩ := hSw; go_simp
      simp only [Act.put]
      refine wpAnyH_ready (rs := [4, 6]) (by kernel_rfl) (by simp) ?_
      refine AllReadyH.cons rfl (fun K hK => ?_) (AllReadyH.cons rfl (fun K hK => ?_) AllReadyH.nil)
      go_simp
      refine hK.out _ _ hS0 (fun _ => ?_)
      clear hK K
      refine wpAnyH_ready (rs := [6]) (by kernel_rfl) (by simp) ?_
      refine AllReadyH.cons rfl (fun K hK => ?_) AllReadyH.nil
      go_simp
      refine hK.out _ _ ⟨cells_alloc hS0.1, cells_alloc hS0.2.1, cells_alloc hS0.2.2.1, cells_alloc hS0.2.2.2.1, cells_alloc hS0.2.2.2.2.1, cells_alloc hS0.2.2.2.2.2.1, cells_alloc hS0.2.2.2.2.2.2.1, cells_alloc hS0.2.2.2.2.2.2.2⟩ (fun hS1 => ?_)
      clear hK K c7
      rotate_left
      have c7' : (W2.alloc (.cells #[.int .u32 x.p.pos, .int .i64 x.p.size, .int .i64 x.p.born, .int .i64 x.fr, .int .i64 x.to, .bool x.quar, .int .i64 x.ix] 115)).cell? ⟨w.heap.size + 3, 7, none⟩ = some lsv := cells_alloc c7
      go_simp
      refine hK.out _ _ ⟨cells_alloc hS0.1, cells_alloc hS0.2.1, cells_alloc hS0.2.2.1, cells_alloc hS0.2.2.2.1, cells_alloc hS0.2.2.2.2.1, cells_alloc hS0.2.2.2.2.2.1, cells_alloc hS0.2.2.2.2.2.2.1, cells_alloc hS0.2.2.2.2.2.2.2⟩ (fun hS1 => ?_)
      clear hK K
      refine wpAnyH_ready (rs := [4]) (by kernel_rfl) (by simp) ?_
      refine AllReadyH.cons rfl (fun K hK => ?_) AllReadyH.nil
      go_simp
      refine hK.out _ _ hS1 (fun _ => ?_)
      clear hK K c7 c7'
      all_goals
        have hg3 : W2.grownBy (W2.drew.alloc (.cells #[.int .u32 x.p.pos, .int .i64 x.p.size, .int .i64 x.p.born, .int .i64 x.fr, .int .i64 x.to, .bool x.quar, .int .i64 x.ix] 115)) none := ⟨rfl, rfl, rfl, by simp, fun k hk _ => Below.heap_alloc W2.drew _ k hk⟩
        have hrow3 := hrow.kept hg3 (by cases lsv.ownBlock <;> simp)
        have hb3 : (W2.drew.alloc (.cells #[.int .u32 x.p.pos, .int .i64 x.p.size, .int .i64 x.p.born, .int .i64 x.fr, .int .i64 x.to, .bool x.quar, .int .i64 x.ix] 115)).heap[W2.drew.heap.size]? = some (.cells #[.int .u32 x.p.pos, .int .i64 x.p.size, .int .i64 x.p.born, .int .i64 x.fr, .int .i64 x.to, .bool x.quar, .int .i64 x.ix] 115 (0, 0)) := World.alloc_heap_new _ _
        have hsz3 : W2.heap.size ≤ (W2.drew.alloc (.cells #[.int .u32 x.p.pos, .int .i64 x.p.size, .int .i64 x.p.born, .int .i64 x.fr, .int .i64 x.to, .bool x.quar, .int .i64 x.ix] 115)).heap.size := hg3.size
        refine wpAnyH_ready (rs := [7]) (by kernel_rfl) (by simp) ?_
        refine AllReadyH.cons rfl (fun K hK => ?_) AllReadyH.nil
        obtain ⟨i0, hi0, hi1, hi2, hi3⟩ := info115
        refine step_append_lies _ rfl _ _ _ rfl (w.heap.size + 12) 115 i0 (.agg #[.int .u32 0, .int .i64 0, .int .i64 0, .int .i64 0, .int .i64 0, .bool false, .int .i64 0]) 7 56 (by kernel_rfl) hi0 hi1 hi2 hi3 rfl (by omega) lsv pre.length (pre.flatMap encE) rfl hrow3 ⟨W2.drew.heap.size, 0, none⟩ 1 1 (encE x) rfl rfl (fun j u hu => World.news_of_block hb3 j u hu) (by simp [encE, Value.oneCell']) (by omega) (by unfold maxLen; omega) (by omega) (Nat.le_trans (Nat.le_of_eq hs0.symm) (Nat.le_trans hz2 hsz3)) _ rfl ?_
        intro gg cap W4 hown4 hgrow4 hat4 hlt4
        have hap := hF2.append hg2 hrow hg3 hgrow4 hown4
        have hne : ∀ j, lsv.ownBlock = some j → w.heap.size + 12 ≤ j := fun j e => (hrow.lt j e).1
        have hc4 : ∀ (b o : Nat) (v : Value), some b ≠ lsv.ownBlock → (W2.drew.alloc (.cells #[.int .u32 x.p.pos, .int .i64 x.p.size, .int .i64 x.p.born, .int .i64 x.fr, .int .i64 x.to, .bool x.quar, .int .i64 x.ix] 115)).cell? ⟨b, o, none⟩ = some v → W4.cell? ⟨b, o, none⟩ = some v := fun b o v hb hv => hgrow4.cell hv hb
        have hbx : some Bx ≠ lsv.ownBlock := fun e => hown e.symm
        have hb4 : some (w.heap.size + 1 + 1 + 1 + 1) ≠ lsv.ownBlock := fun e => by have := hne _ e.symm; omega
        have hb5 : some (w.heap.size + 3) ≠ lsv.ownBlock := fun e => by have := hne _ e.symm; omega
        refine hK.out _ _ ⟨hc4 _ _ _ hb4 hS1.1, hc4 _ _ _ hbx hS1.2.1, hc4 _ _ _ hbx hS1.2.2.1, hc4 _ _ _ hbx hS1.2.2.2.1, hc4 _ _ _ hbx hS1.2.2.2.2.1, hc4 _ _ _ hbx hS1.2.2.2.2.2.1, hc4 _ _ _ hbx hS1.2.2.2.2.2.2.1, hc4 _ _ _ hbx hS1.2.2.2.2.2.2.2⟩ (fun hS4 => ?_)
        clear hK K
        simp only [Act.put, List.setIfInBounds_toArray]
        refine wpAnyH_take (i := 8) (v := .pointer (some ⟨w.heap.size + 3, 0, none⟩)) rfl (by kernel_rfl) (by kernel_rfl) (by kernel_rfl) (fun _ _ _ h => h) (Or.inl ⟨by rfl, ?hy⟩) hS4 ?_
        case hy => intro w9 hSw; obtain ⟨s0, s2, s3, s4, s5, s6, s7, s8⟩ := hSw; go_simp
        simp only [Act.put]
        refine wpAnyH_take (i := 9) (v := .pointer (some ⟨w.heap.size + 3, 7, none⟩)) rfl (by kernel_rfl) (by kernel_rfl) (by kernel_rfl) (fun _ _ _ h => h) (Or.inl ⟨by rfl, ?hy⟩) hS4 ?_
        case hy => intro w9 hSw; obtain ⟨s0, s2, s3, s4, s5, s6, s7, s8⟩ := hSw; go_simp
        simp only [Act.put]
        refine wpAnyH_ready (rs := [10]) (by kernel_rfl) (by simp) ?_
        refine AllReadyH.cons rfl (fun K hK => ?_) AllReadyH.nil
        have hg4 : W4.heap[w.heap.size + 3]? = some (.cells #[.int .i64 c.page, .int .i64 c.n, .int .i64 c.red, .int .i64 c.quarantine, .slice A n1 ca, .slice B n2 cb, .int .i64 gi, lsv] 123 (0, 0)) := by
          have h3 := (hg3.block _ (blk_lt hg2) (by simp)).trans hg2
          exact (hgrow4.block _ (blk_lt h3) hb5).trans h3
        have c7 : W4.cell? ⟨w.heap.size + 3, 7, none⟩ = some lsv := blk_cell hg4 7
        have f7 : W4.frozen? ⟨w.heap.size + 3, 7, none⟩ = false := frozen_of_row _ _ _ _ _ hg4
        go_simp
        have hc5 : ∀ (b o : Nat) (u v : Value), b ≠ w.heap.size + 3 → W4.cell? ⟨b, o, none⟩ = some v → (W4.setCell ⟨w.heap.size + 3, 7, none⟩ u).cell? ⟨b, o, none⟩ = some v := fun b o u v hb hv => by simp only [World.cell?] at hv ⊢; rw [Below.heap_setCell _ _ _ _ hb]; exact hv
        have hbx3 : Bx ≠ w.heap.size + 3 := by omega
        refine hK.out _ _ ⟨hc5 _ _ _ _ (by omega) hS4.1, hc5 _ _ _ _ hbx3 hS4.2.1, hc5 _ _ _ _ hbx3 hS4.2.2.1, hc5 _ _ _ _ hbx3 hS4.2.2.2.1, hc5 _ _ _ _ hbx3 hS4.2.2.2.2.1, hc5 _ _ _ _ hbx3 hS4.2.2.2.2.2.1, hc5 _ _ _ _ hbx3 hS4.2.2.2.2.2.2.1, hc5 _ _ _ _ hbx3 hS4.2.2.2.2.2.2.2⟩ (fun _ => ?_)
        clear hK K
        refine wpAnyH_done (by kernel_rfl) ?_ _
        refine ⟨by rw [hs0]; exact hkf.trans hap.2.2.1, hkp.trans hap.2.1, ⟨?_, ?_⟩, hap.2.2.2.1 w rfl hB2, by have := hap.2.2.2.2; omega⟩
        · have := hap.1
          simpa [OpI] using this
        · exact (okGo_snoc c gi [] pre x).2 ⟨HGO.out, by unfold okX; simp only [List.nil_append]; exact ⟨t1, by omega, by omega, by omega, by omega, t6, by omega, by omega⟩⟩
end Go.Proofs.Ytbhbjcgbhklieaa
