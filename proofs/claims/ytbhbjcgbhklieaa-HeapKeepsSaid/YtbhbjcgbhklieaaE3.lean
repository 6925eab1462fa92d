/- Rows of cells: what storing many cells does. | slices.Delete of one piece out of an owned row. | slices.Insert of one piece into an owned row. -/
import Derived.Test.YtbhbjcgbhklieaaA5
import Derived.Deep.RegionLaw
import Derived.Laws.IdiomCopy
import Derived.Lib.SliceRun
import Derived.Shelf.RegionOpenPlain
import Derived.Shelf.Spec.SlicesInsert
import Derived.Lib.AppendZerosOnto
import Derived.Laws.NewBlocks
import Derived.RangeFuncRecord
namespace Go.Proofs.Ytbhbjcgbhklieaa
open Go.RowKit Go.Shelf

theorem row_setCell {w : World} {g o : Nat} {cur : Array Value} {t : TypeId} {f : Nat × Nat} (v : Value) (h : w.heap[g]? = some (.cells cur t f)) : (w.setCell ⟨g, o, none⟩ v).heap[g]? = some (.cells (cur.setIfInBounds o v) t f) := by
  simp [World.setCell, Array.getElem?_modify, h]

theorem list_set_cut (v : Value) (r : List Value) (o : Nat) (l : List Value) (h : o + (r.length + 1) ≤ l.length) :
    (l.set o v).take (o + 1) ++ r ++ (l.set o v).drop (o + 1 + r.length) = l.take o ++ (v :: r) ++ l.drop (o + (r.length + 1)) := by
  have e : l.set o v = l.take o ++ v :: l.drop (o + 1) := by rw [List.set_eq_take_append_cons_drop, if_pos (by omega)]
  have hl : (l.take o).length = o := by simp; omega
  have e1 : (l.set o v).take (o + 1) = l.take o ++ [v] := by
    rw [e, show o + 1 = (l.take o).length + 1 by rw [hl], List.take_length_add_append]; simp
  have e2 : (l.set o v).drop (o + 1 + r.length) = l.drop (o + (r.length + 1)) := by
    rw [List.drop_set_of_lt (by omega), show o + 1 + r.length = o + (r.length + 1) by omega]
  rw [e1, e2]
  simp

theorem row_setCells {g : Nat} {t : TypeId} {f : Nat × Nat} : ∀ (vs : List Value) (o : Nat) (w : World) (cur : Array Value), w.heap[g]? = some (.cells cur t f) → o + vs.length ≤ cur.size →
    (w.setCells g o vs).heap[g]? = some (.cells (cur.toList.take o ++ vs ++ cur.toList.drop (o + vs.length)).toArray t f)
  | [], o, w, cur, h, _ => by simpa [World.setCells] using h
  | v :: r, o, w, cur, h, hn => by
    simp only [List.length_cons] at hn
    have := row_setCells (g := g) r (o + 1) (w.setCell ⟨g, o, none⟩ v) _ (row_setCell v h) (by simp; omega)
    rw [World.setCells, this]
    rw [Array.toList_setIfInBounds, list_set_cut v r o cur.toList (by simp; omega)]
    rfl

theorem grown_refl (w : World) (r : Option Nat) : w.grownBy w r := ⟨rfl, rfl, rfl, Nat.le_refl _, fun _ _ _ => rfl⟩
theorem grown_drew (w : World) (r : Option Nat) : w.grownBy w.drew r := ⟨rfl, rfl, rfl, Nat.le_refl _, fun _ _ _ => rfl⟩
theorem grown_trans {a b c : World} {r : Option Nat} (h : a.grownBy b r) (k : b.grownBy c r) : a.grownBy c r :=
  ⟨k.os.trans h.os, k.tape.trans h.tape, k.output.trans h.output, Nat.le_trans h.size k.size, fun j hj hr => (k.block j (Nat.lt_of_lt_of_le hj h.size) hr).trans (h.block j hj hr)⟩
theorem grown_some {a b : World} {r : Option Nat} (h : a.grownBy b none) : a.grownBy b r := ⟨h.os, h.tape, h.output, h.size, fun j hj _ => h.block j hj (by simp)⟩
theorem grown_setCells (g : Nat) : ∀ (vs : List Value) (o : Nat) (w : World), w.grownBy (w.setCells g o vs) (some g)
  | [], _, w => grown_refl w _
  | v :: r, o, w => grown_trans (b := w.setCell ⟨g, o, none⟩ v) ⟨rfl, rfl, rfl, by simp [World.setCell], fun k _ hk => by
      have : k ≠ g := fun e => hk (by rw [e])
      simp [World.setCell, Array.getElem?_modify, Ne.symm this]⟩ (grown_setCells g r (o + 1) _)
theorem below_of_grown {a b : World} {r : Option Nat} {N : Nat} (h : a.grownBy b r) (hN : N ≤ a.heap.size) (hr : ∀ j, r = some j → N ≤ j) : Below N a b :=
  ⟨h.os, h.tape, h.output, h.size, fun k hk => h.block k (by omega) (fun e => by have := hr k e.symm; omega)⟩

theorem row_cell {w : World} {g : Nat} {cur : Array Value} {t : TypeId} {f : Nat × Nat} (h : w.heap[g]? = some (.cells cur t f)) (j : Nat) : w.cell? ⟨g, j, none⟩ = cur.toList[j]? := by simp [World.cell?, h]
theorem row_frozen {w : World} {g : Nat} {cur : Array Value} {t : TypeId} (h : w.heap[g]? = some (.cells cur t (0, 0))) (j : Nat) : w.frozen? ⟨g, j, none⟩ = false := frozen_of_row _ _ _ _ _ h

/-- 'clear(s)', s of one element. -/
theorem run_clear_one {P : Program} (w : World) (t e ty : TypeId) (z : Value) (ht : P.underlying t = some (.slice e)) (hv : ∀ w, (zeroValue e).run P w = .ok z w) (h1 : ∀ u ∈ z.cells.toList, u.oneCell' = true) (b o c : Nat)
    (hc : ∀ j, j < z.cells.size → (w.cell? ⟨b, o + j, none⟩).isSome = true) (hf : ∀ j, j < z.cells.size → w.frozen? ⟨b, o + j, none⟩ = false) :
    (Builtin.clear_ #[t] ty #[.slice (some ⟨b, o, none⟩) 1 c]).run P w = .ok (.tuple #[]) (w.setCells b o z.cells.toList) := by
  have hzc : (Builtin.zeroCells z.cells 1).toList = z.cells.toList := by
    simp [Builtin.zeroCells]
    apply List.ext_getElem
    · simp
    · intro i h1 h2
      simp at h2
      simp [Nat.mod_eq_of_lt h2, getElem!_pos z.cells i h2]
  have hst := run_storeCells_cells (P := P) b o z.cells.toList 0 w (by simpa using hc) (by simpa using hf) h1
  simp only [Nat.add_zero] at hst
  simp [Builtin.clear_, run_underlying ht, hv, hzc, hst]

theorem info38' : ∃ i, Try.prog.info? 38 = some i ∧ i.zero = some (.agg #[.int .u32 0, .int .i64 0, .int .i64 0]) ∧ i.size = 3 ∧ i.bytes = 24 := by
  have h : (Try.prog.info? 38).map (fun i => (i.zero, i.size, i.bytes)) = some (some (.agg #[.int .u32 0, .int .i64 0, .int .i64 0]), 3, 24) := by kernel_rfl
  cases hi : Try.prog.info? 38 with
  | none => rw [hi] at h; cases h
  | some i => rw [hi] at h; simp at h; exact ⟨i, rfl, h.1, h.2.1, h.2.2⟩
end Go.Proofs.Ytbhbjcgbhklieaa

namespace Go.Proofs.Ytbhbjcgbhklieaa
open Go.RowKit Go.Shelf

theorem encP_length (p : Piece) : (encP p).length = 3 := rfl
theorem flat_length (zs : List Piece) : (zs.flatMap encP).length = zs.length * 3 := by
  induction zs with
  | nil => rfl
  | cons p l ih => simp only [List.flatMap_cons, List.length_append, ih, encP_length, List.length_cons]; omega
theorem flat_one (zs : List Piece) : ∀ u ∈ zs.flatMap encP, u.oneCell' = true := by
  intro u hu
  obtain ⟨p, _, hp⟩ := List.mem_flatMap.1 hu
  simp [encP] at hp
  rcases hp with rfl | rfl | rfl <;> rfl
theorem flat_take (zs : List Piece) (i : Nat) : (zs.flatMap encP).take (i * 3) = (zs.take i).flatMap encP := by
  induction zs generalizing i with
  | nil => simp
  | cons p l ih =>
    cases i with
    | zero => simp
    | succ i => simp only [List.flatMap_cons, List.take_succ_cons]; rw [show (i + 1) * 3 = (encP p).length + i * 3 by simp [encP_length]; omega, List.take_length_add_append, ih]
theorem flat_drop (zs : List Piece) (i : Nat) : (zs.flatMap encP).drop (i * 3) = (zs.drop i).flatMap encP := by
  induction zs generalizing i with
  | nil => simp
  | cons p l ih =>
    cases i with
    | zero => simp
    | succ i => simp only [List.flatMap_cons, List.drop_succ_cons]; rw [show (i + 1) * 3 = (encP p).length + i * 3 by simp [encP_length]; omega, List.drop_length_add_append, ih]

set_option maxRecDepth 100000 in
set_option maxHeartbeats 2000000 in
theorem c71 (g cap : Nat) (cur : Array Value) (zs : List Piece) (i : Nat) (w : World) (hg : w.heap[g]? = some (.cells cur 38 (0, 0))) (hc : zs.length ≤ cap) (hm : cap ≤ maxLen) (hcs : cur.size = cap * 3) (ht : cur.toList.take (zs.length * 3) = zs.flatMap encP) (hi : i < zs.length) :
    Calls Try.prog 71 #[.slice (some ⟨g, 0, none⟩) zs.length cap, .int .i64 i, .int .i64 ((i : Int) + 1)] w fun e w' => e = .returned (.slice (some ⟨g, 0, none⟩) (zs.length - 1) cap) ∧ w.grownBy w' (some g) ∧
      w'.ownsRow g 38 3 (.slice (some ⟨g, 0, none⟩) (zs.length - 1) cap) (zs.length - 1) ((zs.eraseIdx i).flatMap encP) := by
  obtain ⟨i0, hi0, hi1, hi2, hi3⟩ := info38'
  have u24 : Try.prog.underlying 24 = some (.slice 38) := Try.underlying24
  obtain ⟨n, hn⟩ : ∃ n, zs.length = n := ⟨_, rfl⟩
  rw [hn] at hc ht hi ⊢
  have hm' : cap ≤ 9223372036854775807 := hm
  obtain ⟨news, hnews⟩ : ∃ news, news = (zs.drop (i + 1)).flatMap encP := ⟨_, rfl⟩
  have hlen : news.length = (n - (i + 1)) * 3 := by rw [hnews, flat_length, List.length_drop, hn]
  have hnd : news = (zs.flatMap encP).drop ((i + 1) * 3) := by rw [hnews, flat_drop]
  obtain ⟨A, hA, hsrc⟩ : ∃ A : Addr, (if cap = i + 1 then some (⟨g, 0, none⟩ : Addr) else some ⟨g, (i + 1) * 3, none⟩) = some A ∧ (∀ t u, news[t]? = some u → w.drew.cell? (A.add t) = some u) := by
    by_cases h : cap = i + 1
    · refine ⟨⟨g, 0, none⟩, by simp [h], fun t u hu => ?_⟩
      have h0 : news.length = 0 := by rw [hlen]; omega
      rw [List.length_eq_zero_iff.1 h0] at hu; simp at hu
    · refine ⟨⟨g, (i + 1) * 3, none⟩, by simp [h], fun t u hu => ?_⟩
      have htl := (List.getElem?_eq_some_iff.1 hu).1
      rw [hlen] at htl
      rw [hnd, List.getElem?_drop, ← ht, List.getElem?_take_of_lt (by omega)] at hu
      rw [Addr.add_lit]
      exact (row_cell (w := w) hg _).trans hu
  have s2 : ∀ u ∈ news, u.oneCell' = true := by rw [hnews]; exact flat_one _
  have s3 : ∀ t, t < news.length → (w.drew.cell? ⟨g, 0 + i * 3 + t, none⟩).isSome = true ∧ w.drew.frozen? ⟨g, 0 + i * 3 + t, none⟩ = false := by
    intro t htl
    rw [hlen] at htl
    refine ⟨?_, row_frozen (w := w) hg _⟩
    rw [show w.drew.cell? ⟨g, 0 + i * 3 + t, none⟩ = cur.toList[0 + i * 3 + t]? from row_cell (w := w) hg _, List.getElem?_eq_getElem (by simp; omega)]
    rfl
  obtain ⟨W1, hW1⟩ : ∃ W1, W1 = w.drew.setCells g (0 + i * 3) news := ⟨_, rfl⟩
  obtain ⟨cur1, hcur1, hg1⟩ : ∃ cur1 : List Value, (List.take (0 + i * 3) cur.toList ++ news ++ List.drop (0 + i * 3 + news.length) cur.toList) = cur1 ∧ W1.heap[g]? = some (.cells cur1.toArray 38 (0, 0)) := ⟨_, rfl, by rw [hW1]; exact row_setCells news (0 + i * 3) w.drew cur hg (by rw [hlen, hcs]; omega)⟩
  have hgr1 : w.grownBy W1 (some g) := by rw [hW1]; exact grown_trans (grown_drew w _) (grown_setCells g _ _ _)
  have z38 : ∀ w : World, (zeroValue 38).run Try.prog w = .ok (.agg #[.int .u32 0, .int .i64 0, .int .i64 0]) w := fun w => by simp [go_sem]
  have hzs : ((Value.agg #[.int .u32 0, .int .i64 0, .int .i64 0]).cells).toList = [.int .u32 0, .int .i64 0, .int .i64 0] := rfl
  have hl1 : cur1.length = cap * 3 := by rw [← hcur1]; simp [hlen]; omega
  have hcl : ∀ ty c', (Builtin.clear_ #[24] ty #[.slice (some ⟨g, (i + (n - (i + 1))) * 3, none⟩) (n - (i + (n - (i + 1)))) c']).run Try.prog W1 = .ok (.tuple #[]) (W1.setCells g ((n - 1) * 3) [.int .u32 0, .int .i64 0, .int .i64 0]) := fun ty c' => by
    rw [show n - (i + (n - (i + 1))) = 1 by omega, show i + (n - (i + 1)) = n - 1 by omega]
    rw [← hzs]
    refine run_clear_one W1 24 38 ty _ u24 z38 (by simp [Value.cells]; decide) g ((n - 1) * 3) c' (fun j hj => ?_) (fun j _ => row_frozen hg1 _)
    have hj' : j < 3 := hj
    rw [row_cell hg1, List.getElem?_eq_getElem (by simp [hl1]; omega)]; rfl
  have HW : Hid (W1 = w.drew.setCells g (0 + i * 3) news) := hW1
  have HT := Lib.hid ht
  have HG1 := Lib.hid hg1
  have HGR := Lib.hid hgr1
  have HC1 := Lib.hid hcur1
  have HN := Lib.hid hn
  have HS := Lib.hid hsrc
  have HND := Lib.hid hnews
  clear hW1 hg1 hgr1 hcur1 ht hg hn hsrc hnews hnd
  have mixed : Try.prog.follows .mixedOrders = true := by kernel_rfl
  have hic : i ≤ cap := by omega
  have hjc : i + 1 ≤ cap := by omega
  have hb0 : (0 : Int) ≤ (i : Int) + 1 := by omega
  have hb1 : (i : Int) + 1 ≤ (n : Int) := by omega
  go_enter Try.func71, Try.ntmps71
  go_wp2_with fail
  go_region_law_o (refine step_append_room rfl (.tmp 22) (.tmp 25) 24 rfl 38 i0 3 u24 hi0 hi2 g 0 i cap (by simp [Act.eval, Act.put]) A (n - (i + 1)) (cap - (i + 1)) news (by simp [Act.eval, Act.put]) hlen HS.out s2 (by omega) s3 ?_; rw [← HW.out])
  go_wp2
  go_ret
  have hg1 := HG1.out
  have hn := HN.out
  have hrow := row_setCells [.int .u32 0, .int .i64 0, .int .i64 0] ((n - 1) * 3) W1 _ hg1 (by simp [hl1]; omega)
  refine ⟨by rw [show i + (n - (i + 1)) = n - 1 by omega]; rfl, grown_trans HGR.out (grown_setCells g _ _ _), ?_, .inr ⟨g, cap, _, rfl, Nat.le_refl _, hrow, by omega, hm, by simp [hl1]; omega, ?_⟩⟩
  · rw [flat_length, List.length_eraseIdx_of_lt (by omega), hn]
  · have hlt : (List.take ((n - 1) * 3) cur1).length = (n - 1) * 3 := by simp [hl1]; omega
    simp only [List.append_assoc]
    rw [List.take_append_of_le_length (by rw [hlt]; exact Nat.le_refl _), List.take_take, Nat.min_self, ← HC1.out]
    have h1 : (List.take (0 + i * 3) cur.toList).length = i * 3 := by simp; omega
    have h2 : (List.take (0 + i * 3) cur.toList ++ news).length = (n - 1) * 3 := by rw [List.length_append, h1, hlen]; omega
    rw [← h2, List.take_left, Nat.zero_add]
    rw [HND.out, List.eraseIdx_eq_take_drop_succ, List.flatMap_append]
    congr 1
    rw [← flat_take, ← HT.out, List.take_take, Nat.min_eq_left (by omega)]
end Go.Proofs.Ytbhbjcgbhklieaa

namespace Go.Proofs.Ytbhbjcgbhklieaa
open Go.RowKit Go.Shelf

theorem run_copy_wide {P : Program} (w : World) (dT sT ty elem : TypeId) (b o dLen dCap : Nat) (a : Addr) (sLen sCap : Nat) (cs : List Value) (size k : Nat)
    (hu : P.underlying dT = some (.slice elem)) (hs : (P.info? elem).map (·.size) = some size) (hk : Nat.min sLen dLen = k) (hn : cs.length = k * size)
    (hsrc : ∀ j v, cs[j]? = some v → w.cell? (a.add j) = some v) (hc : ∀ j, j < cs.length → (w.cell? ⟨b, o + j, none⟩).isSome = true) (hf : ∀ j, j < cs.length → w.frozen? ⟨b, o + j, none⟩ = false) (h1 : ∀ v ∈ cs, v.oneCell' = true) :
    (Builtin.copy_ #[dT, sT] ty #[.slice (some ⟨b, o, none⟩) dLen dCap, .slice (some a) sLen sCap]).run P w = .ok (goInt k) (w.setCells b o cs) := by
  have hl := run_loadCells_list (P := P) w a cs hsrc
  have hst := run_storeCells_cells (P := P) b o cs 0 w (by simpa using hc) (by simpa using hf) h1
  rw [hn] at hl
  cases hq : P.info? elem with
  | none => simp [hq] at hs
  | some i =>
    have hi : i.size = size := by simpa [hq] using hs
    simp [Builtin.copy_, run_underlying hu, Builtin.lenOf, Builtin.firstCells, sizeOf, typeInfo, hq, hi, hk, hl, hst]

def insF (zs : List Piece) (i : Nat) (p : Piece) : List Piece := zs.take i ++ p :: zs.drop i
theorem insF_length (zs : List Piece) (i : Nat) (p : Piece) (hi : i ≤ zs.length) : (insF zs i p).length = zs.length + 1 := by simp [insF]; omega

set_option maxRecDepth 100000 in
set_option maxHeartbeats 2000000 in
theorem c73_end (base : Nat) (v : Value) (zs : List Piece) (p : Piece) (va : Nat) (w : World) (hr : w.ownsRow base 38 3 v zs.length (zs.flatMap encP)) (hbase : base ≤ w.heap.size) (hv : w.heap[va]? = some (.cells (encP p).toArray 38 (0, 0))) (hn : zs.length ≤ 100000) :
    Calls Try.prog 73 #[v, .int .i64 zs.length, .slice (some ⟨va, 0, none⟩) 1 1] w fun e w' => ∃ v', e = .returned v' ∧ w.grownBy w' v.ownBlock ∧ w'.ownsRow base 38 3 v' (zs.length + 1) ((insF zs zs.length p).flatMap encP) := by
  obtain ⟨i0, hi0, hi1, hi2, hi3⟩ := info38'
  have u24 : Try.prog.underlying 24 = some (.slice 38) := Try.underlying24
  obtain ⟨v', w', hrun, hown, hgr, _⟩ := run_append_own (P := Try.prog) w base 24 24 38 i0 (.agg #[.int .u32 0, .int .i64 0, .int .i64 0]) 3 24 u24 hi0 hi1 hi2 hi3 rfl (by omega) v zs.length (zs.flatMap encP) hr ⟨va, 0, none⟩ 1 1 (encP p) rfl
    (fun j u hu => by rw [Addr.add_lit, Nat.zero_add]; rw [row_cell hv]; exact hu) (by intro u hu; simp [encP] at hu; rcases hu with rfl | rfl | rfl <;> rfl) (by unfold maxLen; omega) (by omega) hbase
  have hfl : zs.flatMap encP ++ encP p = (insF zs zs.length p).flatMap encP := by simp [insF]
  rw [hfl] at hown
  have HR := Lib.hid hown
  clear hown hv hfl
  obtain ⟨A, c, rfl⟩ : ∃ A c, v = .slice A zs.length c := by
    rcases hr.2 with ⟨rfl, h0⟩ | ⟨g, cap, cur, rfl, _⟩
    · exact ⟨none, 0, by rw [h0]⟩
    · exact ⟨_, _, rfl⟩
  have hA : A = none → c = 0 := by
    rintro rfl
    rcases hr.2 with ⟨h, h0⟩ | ⟨g, cap, cur, h, _⟩
    · simpa using congrArg (fun v => match v with | .slice _ _ c => c | _ => 0) h
    · cases h
  have hc : zs.length ≤ c := by
    rcases hr.2 with ⟨h, h0⟩ | ⟨g, cap, cur, h, _, _, hc, _⟩
    · omega
    · cases h; exact hc
  have hc2 : c ≤ 9223372036854775807 := by
    rcases hr.2 with ⟨h, h0⟩ | ⟨g, cap, cur, h, _, _, _, hc, _⟩
    · have := congrArg (fun v => match v with | Value.slice _ _ c => c | _ => 0) h
      simp at this; omega
    · cases h; exact hc
  have HGR := Lib.hid hgr
  clear hr hgr
  generalize zs.length = n at *
  cases A with
  | none =>
    obtain rfl := hA rfl
    obtain rfl : n = 0 := by omega
    go_enter Try.func73, Try.ntmps73
    go_wp2_with (at_builtin; refine Lib.wpList_append_run _ rfl _ _ _ _ rfl _ _ rfl rfl _ _ hrun ?_)
    go_ret
    exact ⟨_, rfl, HGR.out, HR.out⟩
  | some A =>
    clear hA
    go_enter Try.func73, Try.ntmps73
    go_wp2_with (at_builtin; refine Lib.wpList_append_run _ rfl _ _ _ _ rfl _ _ rfl rfl _ _ hrun ?_)
    all_goals (go_ret; exact ⟨_, rfl, HGR.out, HR.out⟩)

set_option maxRecDepth 100000 in
set_option maxHeartbeats 2000000 in
theorem c73_shift (g cap : Nat) (cur : Array Value) (zs : List Piece) (i : Nat) (p : Piece) (va : Nat) (w : World) (hg : w.heap[g]? = some (.cells cur 38 (0, 0))) (hv : w.heap[va]? = some (.cells (encP p).toArray 38 (0, 0))) (hvg : va ≠ g) (hc : zs.length + 1 ≤ cap) (hm : cap ≤ maxLen) (hcs : cur.size = cap * 3) (ht : cur.toList.take (zs.length * 3) = zs.flatMap encP) (hi : i < zs.length) :
    Calls Try.prog 73 #[.slice (some ⟨g, 0, none⟩) zs.length cap, .int .i64 i, .slice (some ⟨va, 0, none⟩) 1 1] w fun e w' => e = .returned (.slice (some ⟨g, 0, none⟩) (zs.length + 1) cap) ∧ w.grownBy w' (some g) ∧
      w'.ownsRow g 38 3 (.slice (some ⟨g, 0, none⟩) (zs.length + 1) cap) (zs.length + 1) ((insF zs i p).flatMap encP) := by
  obtain ⟨i0, hi0, hi1, hi2, hi3⟩ := info38'
  have u24 : Try.prog.underlying 24 = some (.slice 38) := Try.underlying24
  have hsz : (Try.prog.info? 38).map (·.size) = some 3 := by rw [hi0]; simp [hi2]
  obtain ⟨n, hn⟩ : ∃ n, zs.length = n := ⟨_, rfl⟩
  have hm' : cap ≤ 9223372036854775807 := hm
  have hov : ∀ lb cb, (callFunc 95 #[.slice (some ⟨va, 0, none⟩) 1 1, .slice (some ⟨g, (i + 1) * 3, none⟩) lb cb]).run Try.prog w = .ok (.value (.bool false)) w := fun lb cb => by
    rw [run_callFunc_extern Try.func95 (by kernel_rfl) (by kernel_rfl) (by kernel_rfl) (e := Extern.SlicesOverlaps.overlaps #[24, 24] #[4]) (by kernel_rfl),
      Lib.run_overlaps_apart w 24 4 38 u24 3 (fun w => by simp [go_sem]) ⟨va, 0, none⟩ ⟨g, (i + 1) * 3, none⟩ 1 1 lb cb hvg 38 38 3 (cap * 3) (by simp [World.shape?, hv, encP]) (by simp [World.shape?, hg, hcs]) (by omega) (row_frozen hv _) (row_frozen hv _)]
    rfl
  have hfl : ∀ t, t < n * 3 → cur.toList[t]? = (zs.flatMap encP)[t]? := fun t h => by rw [← ht, List.getElem?_take_of_lt (by omega)]
  rw [hn] at hi hc ⊢
  obtain ⟨news, hnews⟩ : ∃ news, news = (zs.drop i).flatMap encP := ⟨_, rfl⟩
  have hlen : news.length = (n - i) * 3 := by rw [hnews, flat_length, List.length_drop, hn]
  have hnd : news = (zs.flatMap encP).drop (i * 3) := by rw [hnews, flat_drop]
  have hcp1 : ∀ ty dc sc, (Builtin.copy_ #[24, 24] ty #[.slice (some ⟨g, (i + 1) * 3, none⟩) (n - i) dc, .slice (some ⟨g, i * 3, none⟩) (n + 1 - i) sc]).run Try.prog w.drew = .ok (goInt ((n - i : Nat) : Int)) (w.drew.setCells g ((i + 1) * 3) news) := fun ty dc sc =>
    run_copy_wide w.drew 24 24 ty 38 g ((i + 1) * 3) _ dc ⟨g, i * 3, none⟩ _ sc news 3 (n - i) u24 hsz (by simp only [Nat.min_def]; split <;> omega) hlen
      (fun j v hj => by
        have hjl := (List.getElem?_eq_some_iff.1 hj).1
        rw [hlen] at hjl
        rw [Addr.add_lit, show w.drew.cell? ⟨g, i * 3 + j, none⟩ = cur.toList[i * 3 + j]? from row_cell (w := w) hg _, hfl _ (by omega)]
        rw [hnd, List.getElem?_drop] at hj; exact hj)
      (fun j hj => by
        rw [hlen] at hj
        rw [show w.drew.cell? ⟨g, (i + 1) * 3 + j, none⟩ = cur.toList[(i + 1) * 3 + j]? from row_cell (w := w) hg _, List.getElem?_eq_getElem (by simp; omega)]; rfl)
      (fun j _ => row_frozen (w := w) hg _) (by rw [hnews]; exact flat_one _)
  obtain ⟨W1, hW1⟩ : ∃ W1, W1 = w.drew.setCells g ((i + 1) * 3) news := ⟨_, rfl⟩
  obtain ⟨cur1, hcur1, hg1⟩ : ∃ cur1 : List Value, (List.take ((i + 1) * 3) cur.toList ++ news ++ List.drop ((i + 1) * 3 + news.length) cur.toList) = cur1 ∧ W1.heap[g]? = some (.cells cur1.toArray 38 (0, 0)) := ⟨_, rfl, by rw [hW1]; exact row_setCells news ((i + 1) * 3) w.drew cur hg (by rw [hlen, hcs]; omega)⟩
  have hgr1 : w.grownBy W1 (some g) := by rw [hW1]; exact grown_trans (grown_drew w _) (grown_setCells g _ _ _)
  have hl1 : cur1.length = cap * 3 := by rw [← hcur1]; simp [hlen]; omega
  have hv1 : W1.heap[va]? = some (.cells (encP p).toArray 38 (0, 0)) := (hgr1.block va (blk_lt hv) (by simpa using hvg)).trans hv
  have hcp2 : ∀ ty dc, (Builtin.copy_ #[24, 24] ty #[.slice (some ⟨g, i * 3, none⟩) (n + 1 - i) dc, .slice (some ⟨va, 0, none⟩) 1 1]).run Try.prog W1 = .ok (goInt ((1 : Nat) : Int)) (W1.setCells g (i * 3) (encP p)) := fun ty dc =>
    run_copy_wide W1 24 24 ty 38 g (i * 3) _ dc ⟨va, 0, none⟩ _ 1 (encP p) 3 1 u24 hsz (by simp only [Nat.min_def]; split <;> omega) rfl
      (fun j v hj => by rw [Addr.add_lit, Nat.zero_add, row_cell hv1]; exact hj)
      (fun j hj => by
        have hj' : j < 3 := hj
        rw [row_cell hg1, List.getElem?_eq_getElem (by simp [hl1]; omega)]; rfl)
      (fun j _ => row_frozen hg1 _) (by intro u hu; simp [encP] at hu; rcases hu with rfl | rfl | rfl <;> rfl)
  rw [← hW1] at hcp1
  have mixed : Try.prog.follows .mixedOrders = true := by kernel_rfl
  have hz2 : ¬ ((i : Int) = (n : Int)) := by omega
  have hw1 : IntKind.i64.wrap ((i : Int) + 1) = (i : Int) + 1 := by rw [IntKind.wrap_i64]; omega
  have hb1 : (0 : Int) ≤ (i : Int) + 1 := by omega
  have hin : i ≤ n := by omega
  have htn : ((i : Int) + 1).toNat = i + 1 := by omega
  have hb2 : ¬ (cap = i + 1) := by omega
  have hb3 : (i : Int) ≤ (n : Int) + 1 := by omega
  have hb4 : ¬ (cap = i) := by omega
  have HC1 := Lib.hid hcur1
  have HG1 := Lib.hid hg1
  have HGR := Lib.hid hgr1
  have HFL := Lib.hid hfl
  have HND := Lib.hid hnews
  have HN := Lib.hid hn
  clear hcur1 hg1 hgr1 hfl hnews hnd hv1 hv hg ht hW1 hn
  go_enter Try.func73, Try.ntmps73
  go_wp2_with (simp only [hov])
  go_region_law_o (refine step_copy_runI rfl _ _ 24 24 rfl _ _ (by simp [Act.eval, Act.put]) (by simp [Act.eval, Act.put]) (hcp1 _ _ _) ?_)
  go_wp2_with (at_builtin; refine wpList_copy_runI _ rfl _ _ 24 24 rfl _ _ rfl rfl (hcp2 _ _) ?_)
  go_ret
  have hg1 := HG1.out
  have hn := HN.out
  have hrow := row_setCells (encP p) (i * 3) W1 _ hg1 (by simp [hl1, encP]; omega)
  refine ⟨rfl, grown_trans HGR.out (grown_setCells g _ _ _), ?_, .inr ⟨g, cap, _, rfl, Nat.le_refl _, hrow, hc, hm, by simp [hl1, encP]; omega, ?_⟩⟩
  · rw [flat_length, insF_length _ _ _ (by omega), hn]
  · have hl0 : (List.take ((i + 1) * 3) cur.toList).length = (i + 1) * 3 := by simp; omega
    have a1 : List.take (i * 3) cur1 = (zs.take i).flatMap encP := by
      rw [← HC1.out, List.append_assoc, List.take_append_of_le_length (by omega), List.take_take, Nat.min_eq_left (by omega), ← flat_take]
      apply List.ext_getElem?
      intro t
      by_cases ht : t < i * 3
      · rw [List.getElem?_take_of_lt ht, List.getElem?_take_of_lt ht, HFL.out t (by omega)]
      · rw [List.getElem?_take_eq_none (by omega), List.getElem?_take_eq_none (by omega)]
    have a2 : List.drop (i * 3 + (encP p).length) cur1 = news ++ List.drop ((i + 1) * 3 + news.length) cur.toList := by
      rw [← HC1.out, List.append_assoc, show i * 3 + (encP p).length = (List.take ((i + 1) * 3) cur.toList).length by rw [hl0, encP_length]; omega, List.drop_left]
    rw [show (List.take (i * 3) cur1.toArray.toList ++ encP p ++ List.drop (i * 3 + (encP p).length) cur1.toArray.toList).toArray.toList = (List.take (i * 3) cur1 ++ encP p) ++ List.drop (i * 3 + (encP p).length) cur1 from rfl, a1, a2, ← List.append_assoc]
    have hl3 : ((zs.take i).flatMap encP ++ encP p ++ news).length = (n + 1) * 3 := by rw [List.length_append, List.length_append, flat_length, hlen, encP_length, List.length_take, hn]; omega
    rw [← hl3, List.take_left, HND.out, insF]
    simp

set_option maxRecDepth 100000 in
set_option maxHeartbeats 2000000 in
theorem c73_grow (g cap : Nat) (cur : Array Value) (zs : List Piece) (i : Nat) (p : Piece) (va : Nat) (w : World) (hg : w.heap[g]? = some (.cells cur 38 (0, 0))) (hv : w.heap[va]? = some (.cells (encP p).toArray 38 (0, 0))) (hc : zs.length ≤ cap) (hroom : cap < zs.length + 1) (hn : zs.length ≤ 100000) (_ : cur.size = cap * 3) (ht : cur.toList.take (zs.length * 3) = zs.flatMap encP) (hi : i < zs.length) :
    Calls Try.prog 73 #[.slice (some ⟨g, 0, none⟩) zs.length cap, .int .i64 i, .slice (some ⟨va, 0, none⟩) 1 1] w fun e w' => ∃ G, e = .returned (.slice (some ⟨w.heap.size, 0, none⟩) (zs.length + 1) G) ∧ w.grownBy w' none ∧
      w'.ownsRow w.heap.size 38 3 (.slice (some ⟨w.heap.size, 0, none⟩) (zs.length + 1) G) (zs.length + 1) ((insF zs i p).flatMap encP) := by
  obtain ⟨i0, hi0, hi1, hi2, hi3⟩ := info38'
  have u24 : Try.prog.underlying 24 = some (.slice 38) := Try.underlying24
  have u3 : Try.prog.underlying 3 = some (.int .i64) := Try.underlying3
  have hsz : (Try.prog.info? 38).map (·.size) = some 3 := by rw [hi0]; simp [hi2]
  obtain ⟨n, hnn⟩ : ∃ n, zs.length = n := ⟨_, rfl⟩
  have hfl : ∀ t, t < n * 3 → cur.toList[t]? = (zs.flatMap encP)[t]? := fun t h => by rw [← ht, List.getElem?_take_of_lt (by omega)]
  rw [hnn] at hi hc hroom hn ⊢
  obtain ⟨olds, holds⟩ : ∃ olds, olds = (zs.take i).flatMap encP := ⟨_, rfl⟩
  have hol : olds.length = i * 3 := by rw [holds, flat_length, List.length_take, hnn]; omega
  have hod : olds = (zs.flatMap encP).take (i * 3) := by rw [holds, flat_take]
  obtain ⟨news, hnews⟩ : ∃ news, news = (zs.drop i).flatMap encP := ⟨_, rfl⟩
  have hlen : news.length = (n - i) * 3 := by rw [hnews, flat_length, List.length_drop, hnn]
  have hnd : news = (zs.flatMap encP).drop (i * 3) := by rw [hnews, flat_drop]
  have hgw := blk_lt hg
  have hvw := blk_lt hv
  have hkk : (n : Int) + 1 - (i : Int) = ((n + 1 - i : Nat) : Int) := by omega
  have hik : i + (n + 1 - i) = n + 1 := by omega
  have hold : (Builtin.firstCells i0.size i (.slice (some ⟨g, 0, none⟩) i cap)).run Try.prog w.drew = .ok olds.toArray w.drew := by
    rw [hi2]
    exact run_firstCells_some w.drew 3 i ⟨g, 0, none⟩ i cap olds hol (fun j v hj => by
      have hjl := (List.getElem?_eq_some_iff.1 hj).1
      rw [hol] at hjl
      rw [Addr.add_lit, Nat.zero_add, show w.drew.cell? ⟨g, j, none⟩ = cur.toList[j]? from row_cell (w := w) hg _, hfl _ (by omega)]
      rw [hod, List.getElem?_take_of_lt (by omega)] at hj; exact hj)
  have hrz : ∀ ty, (Builtin.append_ #[24, 3] ty #[.slice (some ⟨g, 0, none⟩) i cap, .int .i64 ((n : Int) + 1 - (i : Int))]).run Try.prog w =
      .ok (.slice (some ⟨w.heap.size, 0, none⟩) (n + 1) (grownCap w (n + 1) cap 38)) (w.drew.alloc (.cells (olds.toArray ++ Builtin.zeroCells (Value.agg #[.int .u32 0, .int .i64 0, .int .i64 0]).cells (n + 1 - i) ++ Builtin.zeroCells (Value.agg #[.int .u32 0, .int .i64 0, .int .i64 0]).cells (grownCap w (n + 1) cap 38 - (n + 1))) 38)) := fun ty => by
    have h := Lib.run_append_grow_zeros w 24 3 ty 38 i0 _ .i64 .i64 u24 u3 hi0 hi1 (some ⟨g, 0, none⟩) i cap olds hold (n + 1 - i) (by omega) (by omega) (by omega) (by omega) (by rw [hi3]; omega) (by rw [hi3, hik]; exact growslice_fits hroom (by omega))
    rw [hik] at h
    rw [hkk]
    exact h
  obtain ⟨G, hG⟩ : ∃ G, G = grownCap w (n + 1) cap 38 := ⟨_, rfl⟩
  have hGn : n + 1 ≤ G := by rw [hG]; exact grownCap_ge w _ _ _
  have hGm : G ≤ maxLen := by rw [hG]; exact grownCap_le_maxLen w (n + 1) cap 38 (by unfold maxLen; omega)
  obtain ⟨ROW, hROW⟩ : ∃ ROW : Array Value, ROW = olds.toArray ++ Builtin.zeroCells (Value.agg #[.int .u32 0, .int .i64 0, .int .i64 0]).cells (n + 1 - i) ++ Builtin.zeroCells (Value.agg #[.int .u32 0, .int .i64 0, .int .i64 0]).cells (G - (n + 1)) := ⟨_, rfl⟩
  rw [← hG] at hrz
  rw [← hROW] at hrz
  have hRl : ROW.size = G * 3 := by
    rw [hROW]
    simp [Builtin.zeroCells, Value.cells, hol]
    omega
  have hRt : ROW.toList.take (i * 3) = olds := by
    rw [hROW, Array.toList_append, Array.toList_append, List.append_assoc, ← hol, List.take_left]
  obtain ⟨W1, hW1⟩ : ∃ W1, W1 = w.drew.alloc (.cells ROW 38) := ⟨_, rfl⟩
  rw [← hW1] at hrz
  have hgr1 : w.grownBy W1 none := by rw [hW1]; exact grown_trans (grown_drew w _) (World.grownBy_alloc _ _ _)
  have hr1 : W1.heap[w.heap.size]? = some (.cells ROW 38 (0, 0)) := by rw [hW1]; exact World.alloc_heap_new w.drew _
  have hv1 : W1.heap[va]? = some (.cells (encP p).toArray 38 (0, 0)) := (hgr1.block va hvw (by simp)).trans hv
  have hg1 : W1.heap[g]? = some (.cells cur 38 (0, 0)) := (hgr1.block g hgw (by simp)).trans hg
  have hcpA : ∀ ty dc, (Builtin.copy_ #[24, 24] ty #[.slice (some ⟨w.heap.size, i * 3, none⟩) (n + 1 - i) dc, .slice (some ⟨va, 0, none⟩) 1 1]).run Try.prog W1 = .ok (goInt ((1 : Nat) : Int)) (W1.setCells w.heap.size (i * 3) (encP p)) := fun ty dc =>
    run_copy_wide W1 24 24 ty 38 w.heap.size (i * 3) _ dc ⟨va, 0, none⟩ _ 1 (encP p) 3 1 u24 hsz (by simp only [Nat.min_def]; split <;> omega) rfl
      (fun j v hj => by rw [Addr.add_lit, Nat.zero_add, row_cell hv1]; exact hj)
      (fun j hj => by
        have hj' : j < 3 := hj
        rw [row_cell hr1, List.getElem?_eq_getElem (by simp [hRl]; omega)]; rfl)
      (fun j _ => row_frozen hr1 _) (by intro u hu; simp [encP] at hu; rcases hu with rfl | rfl | rfl <;> rfl)
  obtain ⟨W2, hW2⟩ : ∃ W2, W2 = W1.setCells w.heap.size (i * 3) (encP p) := ⟨_, rfl⟩
  rw [← hW2] at hcpA
  obtain ⟨R2, hR2, hr2⟩ : ∃ R2 : List Value, (List.take (i * 3) ROW.toList ++ encP p ++ List.drop (i * 3 + (encP p).length) ROW.toList) = R2 ∧ W2.heap[w.heap.size]? = some (.cells R2.toArray 38 (0, 0)) := ⟨_, rfl, by rw [hW2]; exact row_setCells _ _ W1 ROW hr1 (by rw [hRl, encP_length]; omega)⟩
  have hgr2 : W1.grownBy W2 (some w.heap.size) := by rw [hW2]; exact grown_setCells _ _ _ _
  have hl2 : R2.length = G * 3 := by rw [← hR2]; simp [encP_length, hRl]; omega
  have hg2 : W2.heap[g]? = some (.cells cur 38 (0, 0)) := (hgr2.block g (blk_lt hg1) (by simp; omega)).trans hg1
  have hcpB : ∀ ty dc sc, (Builtin.copy_ #[24, 24] ty #[.slice (some ⟨w.heap.size, (i + 1) * 3, none⟩) (n - i) dc, .slice (some ⟨g, i * 3, none⟩) (n - i) sc]).run Try.prog W2.drew = .ok (goInt ((n - i : Nat) : Int)) (W2.drew.setCells w.heap.size ((i + 1) * 3) news) := fun ty dc sc =>
    run_copy_wide W2.drew 24 24 ty 38 w.heap.size ((i + 1) * 3) _ dc ⟨g, i * 3, none⟩ _ sc news 3 (n - i) u24 hsz (Nat.min_self _) hlen
      (fun j v hj => by
        have hjl := (List.getElem?_eq_some_iff.1 hj).1
        rw [hlen] at hjl
        rw [Addr.add_lit, show W2.drew.cell? ⟨g, i * 3 + j, none⟩ = cur.toList[i * 3 + j]? from row_cell (w := W2) hg2 _, hfl _ (by omega)]
        rw [hnd, List.getElem?_drop] at hj; exact hj)
      (fun j hj => by
        rw [hlen] at hj
        rw [show W2.drew.cell? ⟨w.heap.size, (i + 1) * 3 + j, none⟩ = R2.toArray.toList[(i + 1) * 3 + j]? from row_cell (w := W2) hr2 _, List.getElem?_eq_getElem (by simp [hl2]; omega)]; rfl)
      (fun j _ => row_frozen (w := W2) hr2 _) (by rw [hnews]; exact flat_one _)
  have mixed : Try.prog.follows .mixedOrders = true := by kernel_rfl
  have hz2 : ¬ ((i : Int) = (n : Int)) := by omega
  have hz3 : (cap : Int) < (n : Int) + 1 := by omega
  have hw1 : IntKind.i64.wrap ((i : Int) + 1) = (i : Int) + 1 := by rw [IntKind.wrap_i64]; omega
  have hb1 : (0 : Int) ≤ (i : Int) + 1 := by omega
  have hin : i ≤ n := by omega
  have htn : ((i : Int) + 1).toNat = i + 1 := by omega
  have hGi : ¬ (G = i) := by omega
  have hGim : ¬ (G = i + 1) := by omega
  have hci : ¬ (cap = i) := by omega
  have hb3 : (i : Int) ≤ (n : Int) := by omega
  have hG63 : G ≤ 9223372036854775807 := hGm
  have hGR1 := Lib.hid hgr1
  have hGR2 := Lib.hid hgr2
  have HR2 := Lib.hid hr2
  have HRE := Lib.hid hR2
  have HRT := Lib.hid hRt
  have HOD := Lib.hid holds
  have HND := Lib.hid hnews
  have HN := Lib.hid hnn
  have HROW := Lib.hid hRl
  clear hgr1 hgr2 hr2 hR2 hRt hod holds hnd hnews hnn hkk hik hold hROW hG hW1 hW2 hg hg1 hg2 hv hv1 hr1 hfl hRl ht
  go_enter Try.func73, Try.ntmps73
  go_wp2_with (first
    | (at_builtin; refine Lib.wpList_append_run _ rfl _ _ _ _ rfl _ _ rfl rfl _ _ (hrz _) ?_)
    | (at_builtin; refine wpList_copy_runI _ rfl _ _ 24 24 rfl _ _ rfl rfl (hcpA _ _) ?_))
  go_region_law_o (refine step_copy_runI rfl _ _ 24 24 rfl _ _ (by simp [Act.eval, Act.put]) (by simp [Act.eval, Act.put]) (hcpB _ _ _) ?_)
  go_wp2
  go_ret
  have hl0 : (List.take (i * 3) ROW.toList ++ encP p).length = (i + 1) * 3 := by rw [List.length_append, HRT.out, hol, encP_length]; omega
  have hrow := row_setCells news ((i + 1) * 3) W2.drew _ HR2.out (by simp [hl2, hlen]; omega)
  have hgr : w.grownBy (W2.drew.setCells w.heap.size ((i + 1) * 3) news) none := by
    have k := grown_trans hGR2.out (grown_trans (grown_drew W2 _) (grown_setCells w.heap.size news ((i + 1) * 3) W2.drew))
    exact ⟨k.os.trans hGR1.out.os, k.tape.trans hGR1.out.tape, k.output.trans hGR1.out.output, Nat.le_trans hGR1.out.size k.size, fun j hj _ => (k.block j (Nat.lt_of_lt_of_le hj hGR1.out.size) (by simp; omega)).trans (hGR1.out.block j hj (by simp))⟩
  refine ⟨G, rfl, hgr, ?_, .inr ⟨w.heap.size, G, _, rfl, Nat.le_refl _, hrow, hGn, hGm, by simp [hl2, hlen]; omega, ?_⟩⟩
  · rw [flat_length, insF_length _ _ _ (by rw [HN.out]; omega), HN.out]
  · rw [show (List.take ((i + 1) * 3) R2.toArray.toList ++ news ++ List.drop ((i + 1) * 3 + news.length) R2.toArray.toList).toArray.toList = (List.take ((i + 1) * 3) R2 ++ news) ++ List.drop ((i + 1) * 3 + news.length) R2 from rfl]
    have a1 : List.take ((i + 1) * 3) R2 = olds ++ encP p := by rw [← HRE.out, ← hl0, List.take_left, HRT.out]
    have hl3 : (olds ++ encP p ++ news).length = (n + 1) * 3 := by rw [List.length_append, List.length_append, hol, hlen, encP_length]; omega
    rw [a1, ← hl3, List.take_left, HOD.out, HND.out, insF]
    simp

/-- slices.Insert of one piece into an owned row. -/
theorem c73 (base : Nat) (v : Value) (zs : List Piece) (i : Nat) (p : Piece) (va : Nat) (w : World) (hr : w.ownsRow base 38 3 v zs.length (zs.flatMap encP)) (hbase : base ≤ w.heap.size) (hv : w.heap[va]? = some (.cells (encP p).toArray 38 (0, 0))) (hva : v.ownBlock ≠ some va) (hn : zs.length ≤ 100000) (hi : i ≤ zs.length) :
    Calls Try.prog 73 #[v, .int .i64 i, .slice (some ⟨va, 0, none⟩) 1 1] w fun e w' => ∃ v', e = .returned v' ∧ w.grownBy w' v.ownBlock ∧ w'.ownsRow base 38 3 v' (zs.length + 1) ((insF zs i p).flatMap encP) := by
  rcases Nat.lt_or_eq_of_le hi with hlt | rfl
  · rcases hr.2 with ⟨rfl, h0⟩ | ⟨g, cap, cur, rfl, hb, hg, hc, hm, hcs, ht⟩
    · omega
    · by_cases hroom : zs.length + 1 ≤ cap
      · refine (c73_shift g cap cur zs i p va w hg hv (fun e => hva (by rw [e]; rfl)) hroom hm hcs ht hlt).mono ?_
        rintro e w' ⟨rfl, h1, h2⟩
        refine ⟨_, rfl, h1, h2.1, .inr ?_⟩
        rcases h2.2 with ⟨h, _⟩ | ⟨g', cap', cur', h, h3, h4⟩
        · cases h
        · cases h; exact ⟨_, _, cur', rfl, hb, h4⟩
      · refine (c73_grow g cap cur zs i p va w hg hv hc (by omega) hn hcs ht hlt).mono ?_
        rintro e w' ⟨G, rfl, h1, h2⟩
        refine ⟨_, rfl, grown_some h1, h2.1, .inr ?_⟩
        rcases h2.2 with ⟨h, _⟩ | ⟨g', cap', cur', h, h3, h4⟩
        · cases h
        · cases h; exact ⟨_, _, cur', rfl, hbase, h4⟩
  · exact c73_end base v zs p va w hr hbase hv hn
end Go.Proofs.Ytbhbjcgbhklieaa
