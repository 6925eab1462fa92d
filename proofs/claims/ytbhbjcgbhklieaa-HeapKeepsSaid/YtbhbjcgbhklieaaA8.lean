/- slices.SortFunc at extents, by the shelf's contract. | gaps: the iterator over the gaps of an opened heap. | pieces: the iterator over all blocks with their extents. -/
import Derived.Test.YtbhbjcgbhklieaaS0
import Derived.Test.YtbhbjcgbhklieaaA5
import Derived.Shelf.SlSortCmp.NoneTotal
import Derived.Shelf.SlGeneric
import Derived.Ground.SlsfProg
import Derived.Sort.OwnSorted
import Derived.RangeFuncNested
import Derived.RangeFuncBound
import Derived.RangeFuncCalls
import Derived.RangeFuncLeaves
import Derived.Shelf.RegionOpen
import Derived.OwnWalkIn
import Derived.TacticsInMore
import Derived.LoopNIn
import Derived.LoopIn
import Derived.Shelf.AbstractIn
namespace Go.Proofs.Ytbhbjcgbhklieaa
open Go.RowKit Go.Sort

theorem flat_get {α : Type} [Inhabited α] (enc : α → List Value) (k : Nat) (hk : ∀ x, (enc x).length = k) : ∀ (L : List α) (j i : Nat), j < L.length → i < k → (L.flatMap enc)[j * k + i]? = (enc L[j]!)[i]?
  | [], j, i, hj, _ => absurd hj (Nat.not_lt_zero _)
  | a :: L, 0, i, _, hi => by
    rw [List.flatMap_cons, Nat.zero_mul, Nat.zero_add, List.getElem?_append_left (by rw [hk]; exact hi)]
    rfl
  | a :: L, j + 1, i, hj, hi => by
    rw [List.flatMap_cons, List.getElem?_append_right (by rw [hk, Nat.add_mul]; omega), hk, show (j + 1) * k + i - k = j * k + i by rw [Nat.add_mul]; omega, flat_get enc k hk L j i (by simpa using hj) hi]
    simp

theorem flat_len {α : Type} (enc : α → List Value) (k : Nat) (hk : ∀ x, (enc x).length = k) : ∀ (L : List α), (L.flatMap enc).length = L.length * k
  | [] => by simp
  | a :: L => by rw [List.flatMap_cons, List.length_append, hk, flat_len enc k hk L, List.length_cons, Nat.add_mul]; omega

theorem encE_len (x : Ext) : (encE x).length = 7 := rfl
theorem encP_len (x : Piece) : (encP x).length = 3 := rfl

theorem lies_of_owns {α : Type} [Inhabited α] {enc : α → List Value} {k : Nat} (hk : ∀ x, (enc x).length = k) {w : World} {base g cap : Nat} {t : TypeId} {L : List α}
    (h : w.ownsRow base t k (.slice (some ⟨g, 0, none⟩) L.length cap) L.length (L.flatMap enc)) : Lies k enc w g 0 L := by
  refine ⟨(h.lt g rfl).2, fun j hj i v hv => ?_⟩
  have hi : i < k := by rw [← hk L[j]!]; exact (List.getElem?_eq_some_iff.1 hv).1
  have hjk : j * k + i < L.length * k := by
    have := Nat.mul_le_mul_right k (show j + 1 ≤ L.length from hj); rw [Nat.add_mul, Nat.one_mul] at this; omega
  rw [Nat.zero_add, h.cellAt _ hjk, flat_get enc k hk L j i hj hi, hv]

theorem cellsK_of_owns {w : World} {base g cap : Nat} {t : TypeId} {L : List Ext}
    (h : w.ownsRow base t 7 (.slice (some ⟨g, 0, none⟩) L.length cap) L.length (L.flatMap encE)) : HoldsK encE 7 w g 0 L.toArray := by
  intro u hu
  rw [size_flatK] at hu
  have hu' : u < L.length * 7 := by simpa using hu
  refine ⟨?_, by rw [Nat.zero_add]; exact h.frozenAt u⟩
  rw [Nat.zero_add, h.cellAt _ hu', get_flatK _ _ _ _ hu]
  have h1 := flat_get encE 7 encE_len L (u / 7) (u % 7) (by omega) (by omega)
  rw [show u / 7 * 7 + u % 7 = u by omega] at h1
  rw [h1]
  have h2 : L.toArray[u / 7]! = L[u / 7]! := by simp
  rw [h2]
  have h3 : u % 7 < (encE L[u / 7]!).length := by rw [encE_len]; omega
  rw [List.getElem?_eq_getElem h3]
  show some _ = some ((encE L[u / 7]!)[u % 7]!)
  rw [getElem!_pos (encE L[u / 7]!) (u % 7) h3]

theorem grownBy_sortK {w : World} {g n : Nat} {os : Array Obj} (d : Array Ext) : w.grownBy (sortWorldK encE 7 w g 0 n d os) (some g) := by
  refine ⟨rfl, rfl, rfl, by simp [sortWorldK, putRowK, size_grow], fun k hk hne => ?_⟩
  unfold sortWorldK putRowK
  rw [heap_grow_old _ _ (by simpa using hk)]
  have : g ≠ k := fun e => hne (by rw [e])
  simp [putRow, mapBlock, Sort.ahead, Array.getElem?_modify, this]

theorem ltOf_fr (x y : Ext) : ltOf (fun x y : Ext => cmpI x.fr y.fr) x y = decide (x.fr < y.fr) := by
  unfold ltOf cmpI
  by_cases h1 : x.fr < y.fr
  · simp [h1]
  · by_cases h2 : y.fr < x.fr <;> simp [h1, h2]

theorem swo_fr : SWO (ltOf fun x y : Ext => cmpI x.fr y.fr) where
  irrefl x := by rw [ltOf_fr]; simp
  trans x y z h1 h2 := by rw [ltOf_fr] at *; simp at *; omega
  ntrans x y z h1 h2 := by rw [ltOf_fr] at *; simp at *; omega

theorem c87 (L : List Ext) (w : World) (base g cap : Nat) (hown : w.ownsRow base 115 7 (.slice (some ⟨g, 0, none⟩) L.length cap) L.length (L.flatMap encE)) (hsz : L.length < 4611686018427387904) :
    Calls Try.prog 87 #[.slice (some ⟨g, 0, none⟩) L.length cap, .func (.func 88) #[] #[]] w fun e w' => e = .returned (.tuple #[]) ∧
      ∃ L' : List Ext, L'.Perm L ∧ (∀ i j, i < j → j < L'.length → L'[i]!.fr ≤ L'[j]!.fr) ∧ Lies 7 encE w' g 0 L' ∧ w.grownBy w' (some g) := by
  have hH := cellsK_of_owns hown
  have hg := (hown.lt g rfl).2
  have hcmp : CmpLays Try.prog 88 #[] encE 7 (fun x y => cmpI x.fr y.fr) g 0 L.toArray.size w := fun m os dk _ x y =>
    (c88 x y _).mono fun e w' ⟨he, hw⟩ => ⟨he, 0, #[.cells (encE x).toArray 115] ++ #[.cells (encE y).toArray 115], by subst hw; rw [alloc_eq_grow, alloc_eq_grow, grow_grow]; rfl⟩
  have h := AnyQ.slices_SortFunc Try.sortE 7 Try.isAgg115 Try.sizeOf115 encE encE_len (fun x v hv => by simp [encE] at hv; rcases hv with rfl | rfl | rfl | rfl | rfl | rfl | rfl <;> rfl) (fun x y => cmpI x.fr y.fr) swo_fr 88 #[] g 0 cap L.toArray w
    (enters_of Try.func88 (by kernel_rfl) rfl) hcmp hH hg (by simpa using hsz)
  change Calls Try.prog 87 _ _ _ at h
  simp only [List.size_toArray] at h
  refine h.mono ?_
  rintro e w' ⟨he, d', n, os, hp, hs, rfl⟩
  obtain ⟨hsize, _, hperm⟩ := hp
  have hsize' : d'.size = L.length := by simpa using hsize
  have hHK := holdsK_sortWorldK_c encE 7 w g 0 L.toArray d' n os hH hg (by simpa using hsize')
  refine ⟨he, d'.toList, ?_, ?_, ⟨Nat.lt_of_lt_of_le hg (size_sortWorldK_c encE 7 w g 0 n d' os), ?_⟩, grownBy_sortK d'⟩
  · have e1 : (d'.extract 0 L.length).toList = d'.toList := by rw [← hsize']; simp
    have e2 : (L.toArray.extract 0 L.length).toList = L := by simp
    rwa [e1, e2] at hperm
  · intro i j hij hj
    have := hs i j (Nat.zero_le _) hij (by simpa [hsize'] using hj)
    rw [ltOf_fr] at this
    have h3 := of_decide_eq_false this
    have e1 : d'.toList[i]! = d'[i]! := by rw [← Array.getElem!_toList]
    have e2 : d'.toList[j]! = d'[j]! := by rw [← Array.getElem!_toList]
    rw [e1, e2]; omega
  · intro j hj i v hv
    have hi : i < 7 := by have := (List.getElem?_eq_some_iff.1 hv).1; rwa [encE_len] at this
    have := (hHK.cell (i := j) (c := i) (by simpa using hj) hi).1
    have e2 : d'.toList[j]! = d'[j]! := by rw [← Array.getElem!_toList]
    rw [e2] at hv
    rw [this]
    have h3 : i < (encE d'[j]!).length := by rw [encE_len]; exact hi
    rw [List.getElem?_eq_getElem h3] at hv
    rw [getElem!_pos (encE d'[j]!) i h3]
    exact hv
end Go.Proofs.Ytbhbjcgbhklieaa

namespace Go.Proofs.Ytbhbjcgbhklieaa
open Go.RowKit Go.Shelf
attribute [local go_sem] Oper.semAt_some

/-- What a loop's body keeps: every block of cells but those of C. -/
structure KpC (C : Nat → Prop) (W W' : World) : Prop where
  size : W.heap.size ≤ W'.heap.size
  same : ∀ (k : Nat) (cs : Array Value) (t : TypeId) (f : Nat × Nat), ¬ C k → W.heap[k]? = some (.cells cs t f) → W'.heap[k]? = some (.cells cs t f)

theorem KpC.refl (C : Nat → Prop) (W : World) : KpC C W W := ⟨Nat.le_refl _, fun _ _ _ _ _ h => h⟩
theorem KpC.trans {C : Nat → Prop} {X Y Z : World} (h : KpC C X Y) (k : KpC C Y Z) : KpC C X Z := ⟨Nat.le_trans h.size k.size, fun i cs t f hC hi => k.same i cs t f hC (h.same i cs t f hC hi)⟩
theorem KpC.put {C : Nat → Prop} (W : World) (l : Nat) (o o' : Obj) (hl : W.heap[l]? = some o) (ho : o.isCells = false) : KpC C W (W.putObj l o') :=
  ⟨by simp, fun k cs t f _ hk => by
    have : k ≠ l := by rintro rfl; rw [hl] at hk; cases hk; simp [Obj.isCells] at ho
    rw [World.putObj_heap_other this]; exact hk⟩
theorem KpC.of_grownBy {C : Nat → Prop} {W W' : World} {row : Option Nat} (hg : W.grownBy W' row) (hrow : ∀ j, row = some j → C j) : KpC C W W' :=
  ⟨hg.size, fun k _ _ _ hC hk => (hg.block k (blk_lt hk) (fun e => hC (hrow k e.symm))).trans hk⟩
theorem KpC.cell {C : Nat → Prop} {W W' : World} (h : KpC C W W') {b o : Nat} {v : Value} (hb : ¬ C b) (hc : W.cell? ⟨b, o, none⟩ = some v) : W'.cell? ⟨b, o, none⟩ = some v := by
  unfold World.cell? at hc ⊢
  cases hk : W.heap[b]? with
  | none => simp [hk] at hc
  | some x =>
    cases x <;> simp [hk] at hc
    rename_i cs t f
    rw [h.same b cs t f hb hk]
    simpa using hc
theorem KpC.lies {C : Nat → Prop} {W W' : World} (h : KpC C W W') {α : Type} [Inhabited α] {k : Nat} {enc : α → List Value} {b off : Nat} {zs : List α} (hb : ¬ C b) (hl : Lies k enc W b off zs) : Lies k enc W' b off zs :=
  ⟨Nat.lt_of_lt_of_le hl.1 h.size, fun j hj i v hv => h.cell hb (hl.2 j hj i v hv)⟩
theorem grown_none {W W' : World} (h : Below W.heap.size W W') : W.grownBy W' none := ⟨h.os, h.tape, h.output, h.size, fun k hk _ => h.block k hk⟩

def gapsGo (end_ : Int) : Int → List Ext → List (Int × Int)
  | at_, [] => if at_ < end_ then [(at_, end_)] else []
  | at_, x :: L => (if at_ < x.fr then [(at_, x.fr)] else []) ++ gapsGo end_ x.to L

def gapsF (c : Conf) (L : List Ext) : List (Int × Int) := gapsGo ((c.page + c.n) * 256) (c.page * 256) L

theorem c76 (n : Nat) (g : Nat) (w : World) : CallsIn Fence.wide n Try.prog 76 #[.pointer (some ⟨g, 0, none⟩)] w fun e w' => e = .returned (.func (.func 99) #[] #[.pointer (some ⟨w.heap.size, 0, none⟩)]) ∧ w' = w.alloc (.cells #[.pointer (some ⟨g, 0, none⟩)] 97) := by
  refine callsIn_of_wp Try.func76 rfl trivial ?_ rfl
  simp only [Try.ntmps76, List.size_toArray, List.length_cons, List.length_nil, Nat.reduceAdd, Nat.reduceSub, Array.replicate_succ, Array.replicate_zero, List.push_toArray, List.append_toArray, List.nil_append, List.cons_append]
  gi_wp2
  go_ret
  exact ⟨rfl, rfl⟩

set_option maxRecDepth 100000 in
set_option maxHeartbeats 2000000 in
theorem s99 (n : Nat) (hn : 2 ≤ n) (Bh g : Nat) (c : Conf) (lv qv : Value) (gi : Int) (L : List Ext) (C : Nat → Prop) (w0 w : World) (hok : okConf c = true) (hBh : Bh < w.heap.size) (hbox : w.cell? ⟨Bh, 0, none⟩ = some (.pointer (some ⟨g, 0, none⟩)))
    (hh : HeapB w0 g c lv qv gi L) (hw0 : Below w0.heap.size w0 w) (hC : ∀ k, C k → w0.heap.size ≤ k ∧ k < w.heap.size) (hbig : L.length < 4611686018427387904) :
    SeqStopsK Fence.wide n Try.prog 99 #[.pointer (some ⟨Bh, 0, none⟩)] (fun x : Int × Int => #[Value.int .i64 x.1, .int .i64 x.2]) (KpC C) (fun ys => ys = gapsF c L) (fun pre => pre <+: gapsF c L) (gapsF c L).length w := by
  intro l J Jx W hW hJ hJx hY h0
  have hbox' := (hW.cell (p := ⟨Bh, 0, none⟩) hBh).trans hbox
  have hBh' : Bh < W.heap.size := Nat.lt_of_lt_of_le hBh hW.size
  have hhW := (hh.below hw0).below hW
  obtain ⟨lsv, hb, hs⟩ := hh.out
  have hb' := ((hw0.trans (hW.mono hw0.size)).block g (blk_lt hb)).trans hb
  have hg := blk_lt hb'
  have g0 := blk_cell hb' 0
  have g1 := blk_cell hb' 1
  have g7 := blk_cell hb' 7
  simp only [List.getElem?_toArray, List.getElem?_cons_succ, List.getElem?_cons_zero] at g0 g1 g7
  simp only [okConf, decide_eq_true_eq] at hok
  have hreg := fun W1 (a0 : W1.cell? ⟨g, 0, none⟩ = _) (a1 : W1.cell? ⟨g, 1, none⟩ = _) => c86 c.page c.n g W1 a0 a1 (by omega) (by omega) (by omega) (by omega)
  have hreg := hreg W g0 g1
  unfold gapsF at *
  generalize he : (c.page + c.n) * 256 = e1 at *
  generalize hs0 : c.page * 256 = s1 at *
  have HJ := Lib.hid hJ
  have HY := Lib.hid hY
  have HC := Lib.hid hC
  obtain ⟨A, cc, rfl, _, hl⟩ := hs
  have hl' : L = [] ∨ ∃ b off, A = some ⟨b, off, none⟩ ∧ ¬ C b ∧ Lies 7 encE W b off L := hl.imp id fun ⟨b, off, hA, hl⟩ => ⟨b, off, hA, fun hc => by have := (hC b hc).1; have := hl.1; omega, (hl.below hw0).below hW⟩
  have HL := Lib.hid hl'
  have hCW : ∀ k, C k → k < W.heap.size := fun k hk => Nat.lt_of_lt_of_le (hC k hk).2 hW.size
  have HCW := Lib.hid hCW
  clear hJ hJx hY hC hh hhW hb hb' hbox hW hw0 hok hl hl' HC hCW
  generalize hn0 : L.length = nn at hbig g7
  have HN := Lib.hid hn0
  clear hn0
  refine callsIn_of_wp Try.func99 rfl trivial ?_ rfl
  simp only [Try.ntmps99, List.size_toArray, List.length_cons, List.length_nil, Nat.reduceAdd, Nat.reduceSub, Array.replicate_succ, Array.replicate_zero, List.push_toArray, List.append_toArray, List.nil_append, List.cons_append]
  have f86 : Fence.wide.fn 86 := trivial
  have hn1 : 1 ≤ n := by omega
  have hn2 : 1 ≤ n - 1 := by omega
  gi_wp2_with (gi_at_call 86; refine (callsIn_wide.2 hreg).mono ?_; rintro e w' ⟨rfl, nq, rfl⟩)
  clear hreg
  have h0' : J [] (W.drewN nq) := HJ.out [] W _ none h0 (grown_none ⟨rfl, rfl, rfl, Nat.le_refl _, fun _ _ => rfl⟩) (by simp)
  have hk0 : KpC C W (W.drewN nq) := KpC.of_grownBy (row := none) (grown_none ⟨rfl, rfl, rfl, Nat.le_refl _, fun _ _ => rfl⟩) (by simp)
  generalize W.drewN nq = W1 at h0' hk0 ⊢
  gi_loopw [3, 17] (fun a i wr => ∃ (k : Nat) (at_ : Int) (pre : List (Int × Int)), k ≤ nn ∧ a = .int .i64 at_ ∧ i = .int .i64 k ∧ Hid (gapsGo e1 s1 L = pre ++ gapsGo e1 at_ (L.drop k)) ∧ Hid (J pre wr) ∧ Hid (KpC C W wr))
    (fun _ i _ => nn - (intOf i).toNat)
  case atStart => exact ⟨0, s1, [], Nat.zero_le _, rfl, rfl, (rfl : gapsGo e1 s1 L = [] ++ gapsGo e1 s1 (L.drop 0)), h0', hk0⟩
  case round =>
    clear h0 h0' hk0 hbox' hBh' hg g0 g1 g7
    obtain ⟨k, at_, pre, hk, rfl, rfl, HG, HJs, HK⟩ := hrel
    by_cases hlt : k < nn
    · have hkl : k < L.length := by rw [HN.out]; exact hlt
      obtain ⟨b, off, rfl, hnC, hl⟩ := HL.out.resolve_left (by rintro rfl; simp at hkl)
      have hl2 := HK.out.lies hnC hl
      have hbl := hl2.1
      obtain ⟨l0, l1, l2, l3, l4, l5, l6⟩ := hl2.at7 k hkl
      have hd : gapsGo e1 at_ (L.drop k) = (if at_ < L[k]!.fr then [(at_, L[k]!.fr)] else []) ++ gapsGo e1 L[k]!.to (L.drop (k + 1)) := by
        rw [List.drop_eq_getElem_cons hkl, gapsGo, getElem!_pos L k hkl]
      generalize hy : L[k]! = y at l0 l1 l2 l3 l4 l5 l6 hd
      have hnf : ∀ x ∈ gapsGo e1 s1 L, True := fun _ _ => trivial
      clear hl hl2 hy hnC hnf
      by_cases hgt : at_ < y.fr
      · rw [if_pos hgt] at hd
        have hG2 : gapsGo e1 s1 L = (pre ++ [(at_, y.fr)]) ++ gapsGo e1 y.to (L.drop (k + 1)) := by rw [HG.out, hd]; simp
        have hlen : pre.length < (gapsGo e1 s1 L).length := by rw [hG2]; simp
        have hg' : wr.grownBy (wr.alloc (.cells (encE y).toArray 115)) none := World.grownBy_alloc _ _ _
        have hJ2 := HJ.out pre wr _ none HJs.out hg' (by simp)
        obtain ⟨fn, tmps, assign, body, hyy, hR⟩ := HY.out pre (at_, y.fr) _ hJ2 hlen
        have HG2 := Lib.hid hG2
        clear hd hG2 hlen hg' hJ2 hkl
        unfold encE at hyy hR
        dsimp only at hyy
        have hnCw : ¬ C wr.heap.size := fun hc => by have := HCW.out _ hc; have := HK.out.size; omega
        have hc4 : (wr.alloc (.cells #[.int .u32 y.p.pos, .int .i64 y.p.size, .int .i64 y.p.born, .int .i64 y.fr, .int .i64 y.to, .bool y.quar, .int .i64 y.ix] 115)).cell? ⟨wr.heap.size, 4, none⟩ = some (.int .i64 y.to) := by simp
        have hks : KpC C wr (wr.alloc (.cells #[.int .u32 y.p.pos, .int .i64 y.p.size, .int .i64 y.p.born, .int .i64 y.fr, .int .i64 y.to, .bool y.quar, .int .i64 y.ix] 115)) := KpC.of_grownBy (row := none) (World.grownBy_alloc _ _ _) (by simp)
        have HC4 := Lib.hid hc4
        have HKS := Lib.hid hks
        have HNW := Lib.hid hnCw
        clear hc4 hks hnCw
        gi_wp2
        refine hR.mono ?_
        rintro e W' (⟨rfl, hJ3, hk3⟩ | ⟨rfl, hJx3⟩)
        · have c4 := hk3.cell HNW.out HC4.out
          have HK3 := Lib.hid hk3
          have HJ3 := Lib.hid hJ3
          clear hk3 hJ3 hR hyy l0 l1 l2 l3 l4 l5 l6
          gi_wp2
          go_roundw
          case rel => exact ⟨k + 1, y.to, pre ++ [(at_, y.fr)], by omega, rfl, by go_num, HG2, HJ3.out, HK.out.trans (HKS.out.trans HK3.out)⟩
          case measure => simp [intOf]; omega
        · clear hR hyy l0 l1 l2 l3 l4 l5 l6
          have HJx := Lib.hid hJx3
          clear hJx3
          gi_wp2
          refine bodyPost_ret (results_none rfl _ _ _) rfl ?_
          exact ⟨⟨_, rfl⟩, .inr ⟨_, by rw [HG2.out]; exact List.prefix_append _ _, HJx.out⟩⟩
      · rw [if_neg hgt, List.nil_append] at hd
        have hG2 : gapsGo e1 s1 L = pre ++ gapsGo e1 y.to (L.drop (k + 1)) := by rw [HG.out, hd]
        have HG2 := Lib.hid hG2
        have hg' : wr.grownBy (wr.alloc (.cells #[.int .u32 y.p.pos, .int .i64 y.p.size, .int .i64 y.p.born, .int .i64 y.fr, .int .i64 y.to, .bool y.quar, .int .i64 y.ix] 115)) none := World.grownBy_alloc _ _ _
        have hJ2 := HJ.out pre wr _ none HJs.out hg' (by simp)
        have hks := KpC.of_grownBy (C := C) (row := none) hg' (by simp)
        have HKS := Lib.hid hks
        have HJ2 := Lib.hid hJ2
        have hle : y.fr ≤ at_ := by omega
        clear hd hG2 hg' hJ2 hks hkl
        gi_wp2
        refine ⟨fun _ h => (by cases h), ?_⟩
        gi_wp2
        go_roundw
        case rel => exact ⟨k + 1, y.to, pre, by omega, rfl, by go_num, HG2, HJ2.out, HK.out.trans HKS.out⟩
        case measure => simp [intOf]; omega
    · obtain rfl : k = nn := by omega
      have hd : gapsGo e1 s1 L = pre ++ (if at_ < e1 then [(at_, e1)] else []) := by
        rw [HG.out, List.drop_eq_nil_of_le (by rw [HN.out]; exact Nat.le_refl _), gapsGo]
      by_cases hgt : at_ < e1
      · rw [if_pos hgt] at hd
        have hlen : pre.length < (gapsGo e1 s1 L).length := by rw [hd]; simp
        obtain ⟨fn, tmps, assign, body, hyy, hR⟩ := HY.out pre (at_, e1) _ HJs.out hlen
        have HD := Lib.hid hd
        clear hd hlen
        dsimp only at hyy
        gi_wp2
        refine hR.mono ?_
        rintro e W' (⟨rfl, hJ3, hk3⟩ | ⟨rfl, hJx3⟩)
        · clear hR hyy
          gi_wp2
          go_end0
          exact ⟨⟨_, rfl⟩, .inl ⟨_, HD.out.symm, hJ3⟩⟩
        · clear hR hyy
          gi_wp2
          go_end0
          exact ⟨⟨_, rfl⟩, .inr ⟨_, by rw [HD.out]; exact List.prefix_refl _, hJx3⟩⟩
      · rw [if_neg hgt, List.append_nil] at hd
        have HD := Lib.hid hd
        clear hd
        gi_wp2
        go_end0
        exact ⟨⟨_, rfl⟩, .inl (by rw [HD.out]; exact HJs.out)⟩
end Go.Proofs.Ytbhbjcgbhklieaa

namespace Go.Proofs.Ytbhbjcgbhklieaa
open Go.RowKit Go.Shelf
attribute [local go_sem] Oper.semAt_some

def mkE (red : Int) (q : Bool) (i : Nat) (p : Piece) : Ext := { takenF red p with quar := q, ix := i }
def itemsFrom (red : Int) (q : Bool) : Nat → List Piece → List Ext
  | _, [] => []
  | i, p :: ps => mkE red q i p :: itemsFrom red q (i + 1) ps
def items (red : Int) (live quar : List Piece) : List Ext := itemsFrom red false 0 live ++ itemsFrom red true 0 quar

theorem itemsFrom_snoc (red : Int) (q : Bool) : ∀ (i : Nat) (l : List Piece) (p : Piece), itemsFrom red q i (l ++ [p]) = itemsFrom red q i l ++ [mkE red q (i + l.length) p]
  | i, [], p => by simp [itemsFrom]
  | i, a :: l, p => by simp only [List.cons_append, itemsFrom, itemsFrom_snoc red q (i + 1) l p, List.length_cons]; rw [show i + 1 + l.length = i + (l.length + 1) by omega]
theorem itemsFrom_len (red : Int) (q : Bool) : ∀ (i : Nat) (l : List Piece), (itemsFrom red q i l).length = l.length
  | _, [] => rfl
  | i, _ :: l => by simp [itemsFrom, itemsFrom_len red q (i + 1) l]
theorem itemsFrom_take (red : Int) (q : Bool) (l : List Piece) (i : Nat) (hi : i < l.length) : itemsFrom red q 0 (l.take (i + 1)) = itemsFrom red q 0 (l.take i) ++ [mkE red q i l[i]!] := by
  rw [List.take_succ_eq_append_getElem hi, itemsFrom_snoc, getElem!_pos l i hi]; simp [Nat.min_eq_left (Nat.le_of_lt hi)]
theorem itemsFrom_prefix (red : Int) (q : Bool) : ∀ (i : Nat) (l : List Piece) (j : Nat), itemsFrom red q i (l.take j) <+: itemsFrom red q i l
  | _, [], j => by simp [itemsFrom]
  | _, _ :: _, 0 => by simp [itemsFrom]
  | i, a :: l, j + 1 => by simp only [List.take_succ_cons, itemsFrom, List.cons_prefix_cons, true_and]; exact itemsFrom_prefix red q (i + 1) l j

/-- as 'KpC', but rows of extents beyond b0 may be written. -/
structure KpE (b0 : Nat) (C : Nat → Prop) (W W' : World) : Prop where
  size : W.heap.size ≤ W'.heap.size
  same : ∀ (k : Nat) (cs : Array Value) (t : TypeId) (f : Nat × Nat), ¬ C k → (t ≠ 115 ∨ k < b0) → W.heap[k]? = some (.cells cs t f) → W'.heap[k]? = some (.cells cs t f)
theorem KpE.refl (b0 : Nat) (C : Nat → Prop) (W : World) : KpE b0 C W W := ⟨Nat.le_refl _, fun _ _ _ _ _ _ h => h⟩
theorem KpE.trans {b0 : Nat} {C : Nat → Prop} {X Y Z : World} (h : KpE b0 C X Y) (k : KpE b0 C Y Z) : KpE b0 C X Z := ⟨Nat.le_trans h.size k.size, fun i cs t f hC ht hi => k.same i cs t f hC ht (h.same i cs t f hC ht hi)⟩
theorem KpE.of_kpC {b0 : Nat} {C : Nat → Prop} {W W' : World} (h : KpC C W W') : KpE b0 C W W' := ⟨h.size, fun k cs t f hC _ hk => h.same k cs t f hC hk⟩
theorem KpE.of_grownBy {b0 : Nat} {C : Nat → Prop} {W W' : World} {row : Option Nat} (hg : W.grownBy W' row) (hrow : ∀ j, row = some j → C j ∨ b0 ≤ j ∧ ∃ cs f, W.heap[j]? = some (.cells cs 115 f)) : KpE b0 C W W' :=
  ⟨hg.size, fun k cs t f hC ht hk => (hg.block k (blk_lt hk) (fun e => by
    rcases hrow k e.symm with h | ⟨h, cs', f', h'⟩
    · exact hC h
    · rw [hk] at h'; cases h'; exact ht.elim (fun e => e rfl) (fun e => by omega))).trans hk⟩
theorem KpE.cell {b0 : Nat} {C : Nat → Prop} {W W' : World} (h : KpE b0 C W W') {b o : Nat} {v : Value} (hb : ¬ C b) (hlt : b < b0) (hc : W.cell? ⟨b, o, none⟩ = some v) : W'.cell? ⟨b, o, none⟩ = some v := by
  unfold World.cell? at hc ⊢
  cases hk : W.heap[b]? with
  | none => simp [hk] at hc
  | some x =>
    cases x <;> simp [hk] at hc
    rename_i cs t f
    rw [h.same b cs t f hb (.inr hlt) hk]
    simpa using hc
theorem KpE.lies {b0 : Nat} {C : Nat → Prop} {W W' : World} (h : KpE b0 C W W') {α : Type} [Inhabited α] {k : Nat} {enc : α → List Value} {b off : Nat} {zs : List α} (hb : ¬ C b) (hlt : b < b0) (hl : Lies k enc W b off zs) : Lies k enc W' b off zs :=
  ⟨Nat.lt_of_lt_of_le hl.1 h.size, fun j hj i v hv => h.cell hb hlt (hl.2 j hj i v hv)⟩

structure KpG (b0 : Nat) (C : Nat → Prop) (g : Nat) (W W' : World) : Prop where
  c : KpE b0 C W W'
  h : ∀ j, j < 7 → ∀ v, W.cell? ⟨g, j, none⟩ = some v → W'.cell? ⟨g, j, none⟩ = some v
theorem KpG.refl (b0 : Nat) (C : Nat → Prop) (g : Nat) (W : World) : KpG b0 C g W W := ⟨KpE.refl _ _ _, fun _ _ _ h => h⟩
theorem KpG.trans {b0 : Nat} {C : Nat → Prop} {g : Nat} {X Y Z : World} (h : KpG b0 C g X Y) (k : KpG b0 C g Y Z) : KpG b0 C g X Z := ⟨h.c.trans k.c, fun j hj v hv => k.h j hj v (h.h j hj v hv)⟩
theorem KpG.below {b0 : Nat} {C : Nat → Prop} {g : Nat} {W W' : World} (h : Below W.heap.size W W') (hg : g < W.heap.size) : KpG b0 C g W W' :=
  ⟨KpE.of_kpC (KpC.of_grownBy (row := none) (grown_none h) (by simp)), fun j _ v hv => by rw [h.cell (p := ⟨g, j, none⟩) hg]; exact hv⟩
theorem KpG.put {b0 : Nat} {C : Nat → Prop} {g : Nat} (W : World) (l : Nat) (o o' : Obj) (hl : W.heap[l]? = some o) (ho : o.isCells = false) : KpG b0 C g W (W.putObj l o') :=
  ⟨KpE.of_kpC (KpC.put W l o o' hl ho), fun j _ v hv => by
    have : g ≠ l := by rintro rfl; simp [World.cell?, hl] at hv; cases o <;> simp_all [Obj.isCells]
    simpa [World.cell?, World.putObj_heap_other this] using hv⟩

theorem c77 (n : Nat) (g : Nat) (w : World) : CallsIn Fence.wide n Try.prog 77 #[.pointer (some ⟨g, 0, none⟩)] w fun e w' => e = .returned (.func (.func 100) #[] #[.pointer (some ⟨w.heap.size, 0, none⟩)]) ∧ w' = w.alloc (.cells #[.pointer (some ⟨g, 0, none⟩)] 97) := by
  refine callsIn_of_wp Try.func77 rfl trivial ?_ rfl
  simp only [Try.ntmps77, List.size_toArray, List.length_cons, List.length_nil, Nat.reduceAdd, Nat.reduceSub, Array.replicate_succ, Array.replicate_zero, List.push_toArray, List.append_toArray, List.nil_append, List.cons_append]
  gi_wp2
  go_ret
  exact ⟨rfl, rfl⟩

def preK (red : Int) (live quar : List Piece) : Nat → List Ext
  | 0 => []
  | 1 => itemsFrom red false 0 live
  | _ => items red live quar

set_option maxRecDepth 100000 in
set_option maxHeartbeats 2000000 in
theorem s100 (n : Nat) (hn : 2 ≤ n) (Bh g : Nat) (red : Int) (lv qv : Value) (live quar : List Piece) (C : Nat → Prop) (w0 w : World) (hBh : Bh < w.heap.size) (hbox : w.heap[Bh]? = some (.cells #[.pointer (some ⟨g, 0, none⟩)] 97 (0, 0)))
    (hg : g < w.heap.size) (h2 : w.cell? ⟨g, 2, none⟩ = some (.int .i64 red)) (h4 : w.cell? ⟨g, 4, none⟩ = some lv) (h5 : w.cell? ⟨g, 5, none⟩ = some qv)
    (hl : Sl 3 encP w0 lv live) (hq : Sl 3 encP w0 qv quar) (hw0 : Below w0.heap.size w0 w) (hC : ∀ k, C k → w0.heap.size ≤ k ∧ k < w.heap.size) (hnB : ¬ C Bh) (hbl : live.length < 4611686018427387904) (hbq : quar.length < 4611686018427387904) :
    SeqStopsK Fence.wide n Try.prog 100 #[.pointer (some ⟨Bh, 0, none⟩)] (fun x : Ext => #[Value.agg (encE x).toArray]) (KpG w0.heap.size C g) (fun ys => ys = items red live quar) (fun pre => pre <+: items red live quar) (items red live quar).length w := by
  intro l J Jx W hW hJ hJx hY h0
  have hbox' := (hW.block Bh hBh).trans hbox
  have hbc : W.cell? ⟨Bh, 0, none⟩ = some (.pointer (some ⟨g, 0, none⟩)) := blk_cell hbox' 0
  have hBh' : Bh < W.heap.size := Nat.lt_of_lt_of_le hBh hW.size
  have hg' : g < W.heap.size := Nat.lt_of_lt_of_le hg hW.size
  have g2 := (hW.cell (p := ⟨g, 2, none⟩) hg).trans h2
  have g4 := (hW.cell (p := ⟨g, 4, none⟩) hg).trans h4
  have g5 := (hW.cell (p := ⟨g, 5, none⟩) hg).trans h5
  obtain ⟨A, ca, rfl, _, hl⟩ := hl
  obtain ⟨B, cb, rfl, _, hq⟩ := hq
  have hl' : live = [] ∨ ∃ b off, A = some ⟨b, off, none⟩ ∧ ¬ C b ∧ b < w0.heap.size ∧ Lies 3 encP W b off live := hl.imp id fun ⟨b, off, hA, hl⟩ => ⟨b, off, hA, fun hc => by have := (hC b hc).1; have := hl.1; omega, hl.1, (hl.below hw0).below hW⟩
  have hq' : quar = [] ∨ ∃ b off, B = some ⟨b, off, none⟩ ∧ ¬ C b ∧ b < w0.heap.size ∧ Lies 3 encP W b off quar := hq.imp id fun ⟨b, off, hA, hl⟩ => ⟨b, off, hA, fun hc => by have := (hC b hc).1; have := hl.1; omega, hl.1, (hl.below hw0).below hW⟩
  have HL := Lib.hid hl'
  have HQ := Lib.hid hq'
  have hCW : ∀ k, C k → k < W.heap.size := fun k hk => Nat.lt_of_lt_of_le (hC k hk).2 hW.size
  have HCW := Lib.hid hCW
  have HJ := Lib.hid hJ
  have HY := Lib.hid hY
  have HNB := Lib.hid hnB
  clear hJ hJx hY hC hbox hW hw0 hl hl' hq hq' hCW hnB h2 h4 h5 hg hBh
  generalize hn1 : live.length = n1 at hbl g4
  have HN1 := Lib.hid hn1
  generalize hn2 : quar.length = n2 at hbq g5
  have HN2 := Lib.hid hn2
  clear hn1 hn2
  refine callsIn_of_wp Try.func100 rfl trivial ?_ rfl
  simp only [Try.ntmps100, List.size_toArray, List.length_cons, List.length_nil, Nat.reduceAdd, Nat.reduceSub, Array.replicate_succ, Array.replicate_zero, List.push_toArray, List.append_toArray, List.nil_append, List.cons_append]
  have f101 : Fence.wide.fn 101 := trivial
  have q1 : 1 ≤ n := by omega
  have q2 : 1 ≤ n - 1 := by omega
  gi_wp2_with fail
  refine wpIn_wide.2 ?_
  go_region
  have hB1 : Below W.heap.size W ((W.alloc (.cells #[.slice A n1 ca, .slice B n2 cb] 24)).drew) := (below_alloc1 _ _).drew
  have bx : ((W.alloc (.cells #[.slice A n1 ca, .slice B n2 cb] 24)).drew).heap[W.heap.size]? = some (.cells #[.slice A n1 ca, .slice B n2 cb] 24 (0, 0)) := World.alloc_heap_new W _
  have bz : W.heap.size < ((W.alloc (.cells #[.slice A n1 ca, .slice B n2 cb] 24)).drew).heap.size := by simp
  have h01 := HJ.out [] W _ none h0 (grown_none hB1) (by simp)
  have hk1 := KpG.below (b0 := w0.heap.size) (C := C) hB1 hg'
  have hbs : ¬ C W.heap.size := fun h => by have := HCW.out _ h; omega
  have HBS := Lib.hid hbs
  have HC0 := Lib.hid ((hB1.block Bh hBh').trans hbox')
  have HC2 := Lib.hid (hB1.cell (p := ⟨g, 2, none⟩) hg' |>.trans g2)
  clear hbs hB1 h0 hbox' hbc g2 g4 g5
  generalize ((W.alloc (.cells #[.slice A n1 ca, .slice B n2 cb] 24)).drew) = W1 at bx h01 hk1 bz HC0 HC2 ⊢
  generalize W.heap.size = bs at bx bz HBS HCW HJ ⊢
  have HBX := Lib.hid bx
  have HK1 := Lib.hid hk1
  clear bx hk1
  gi_wp2
  gi_loopw [20] (fun i wr => ∃ (z : Int) (k : Nat), i = .int .i64 z ∧ (z = 2 ∧ k = 2 ∨ z = 0 ∧ k = 0 ∨ z = 1 ∧ k = 1) ∧ Hid (J (preK red live quar k) wr) ∧ Hid (KpG w0.heap.size C g W1 wr)) (fun i _ => 2 - (intOf i).toNat)
  case atStart => exact ⟨0, 0, rfl, .inr (.inl ⟨rfl, rfl⟩), h01, KpG.refl _ _ _ _⟩
  case round =>
    clear h01
    obtain ⟨z, k, rfl, hk, HJs, HK⟩ := hrel
    have hbx := HK.out.c.same _ _ _ _ HBS.out (.inl (by decide)) HBX.out
    have hbs1 : wr.cell? ⟨bs, 0, none⟩ = some (.slice A n1 ca) := blk_cell hbx 0
    have hbs2 : wr.cell? ⟨bs, 1, none⟩ = some (.slice B n2 cb) := blk_cell hbx 1
    clear hbx
    have hsz := HK.out.c.size
    rcases hk with ⟨rfl, rfl⟩ | hk01
    · gi_wp2
      go_end0
      exact ⟨⟨_, rfl⟩, .inl ⟨_, rfl, HJs.out⟩⟩
    · rcases hk01 with ⟨rfl, rfl⟩ | ⟨rfl, rfl⟩
      · gi_wp2_with fail
        obtain ⟨wo, rfl⟩ : ∃ wo : World, wo = wr := ⟨_, rfl⟩
        gi_loopw [27] (fun s wr => ∃ i : Nat, i ≤ n1 ∧ s = .int .i64 i ∧ Hid (J ([] ++ itemsFrom red false 0 (live.take i)) wr) ∧ Hid (KpG w0.heap.size C g W1 wr)) (fun s _ => n1 - (intOf s).toNat)
        case atStart => exact ⟨0, Nat.zero_le _, rfl, (by simpa [preK, itemsFrom] using HJs.out : J ([] ++ itemsFrom red false 0 (live.take 0)) wo), HK.out⟩
        case round =>
          clear HJs HK hbs1 hbs2 hsz
          obtain ⟨i, hi, rfl, HJi, HKi⟩ := hrel
          have hsz := HKi.out.c.size
          have HC0' := Lib.hid (show wr.cell? ⟨Bh, 0, none⟩ = some (.pointer (some ⟨g, 0, none⟩)) from blk_cell (HKi.out.c.same _ _ _ _ HNB.out (.inl (by decide)) HC0.out) 0)
          have HC2' := Lib.hid (HKi.out.h 2 (by omega) _ HC2.out)
          by_cases hlt : i < n1
          · have hil : i < live.length := by rw [HN1.out]; exact hlt
            obtain ⟨b, off, rfl, hnC, hb0, hl⟩ := HL.out.resolve_left (by rintro rfl; simp at hil)
            have hl2 := (HK1.out.trans HKi.out).c.lies hnC hb0 hl
            have hbl := hl2.1
            obtain ⟨l0, l1, l2⟩ := hl2.at3 i hil
            have htk := itemsFrom_take red false live i hil
            have hpre : ([] ++ itemsFrom red false 0 (live.take (i + 1))) <+: items red live quar := by rw [List.nil_append]; exact (itemsFrom_prefix red false 0 live (i + 1)).trans (List.prefix_append _ _)
            generalize hy : live[i]! = y at l0 l1 l2 htk
            rw [htk, ← List.append_assoc] at hpre
            have HP := Lib.hid hpre
            have HT := Lib.hid htk
            clear hl hl2 hnC hb0 hy htk hpre hil
            have c0 := HC0'.out
            have hBhw : Bh < wr.heap.size := World.block_lt_of_cell? _ _ c0
            have c2 := HC2'.out
            have hgw : g < wr.heap.size := World.block_lt_of_cell? _ _ c2
            gi_wp2_with fail
            have hb1 := below_alloc1 wr (.cells #[.int .u32 y.pos, .int .i64 y.size, .int .i64 y.born] 38)
            have ct := c101 y red g (wr.alloc (.cells #[.int .u32 y.pos, .int .i64 y.size, .int .i64 y.born] 38)) (by rw [(below_alloc1 wr _).cell (p := ⟨g, 2, none⟩) hgw]; exact c2) (by rw [World.size_alloc]; omega)
            refine (callsIn_wide.2 ct).mono ?_
            rintro e w' ⟨rfl, hb2⟩
            have hb3 : Below wr.heap.size wr w' := hb1.trans (hb2.mono (by simp))
            have hb4 : Below wr.heap.size wr (w'.alloc (.cells (encE (mkE red false i y)).toArray 115)) := hb3.alloc hb3.size _
            have hJ2 := HJ.out _ wr _ none HJi.out (grown_none hb4) (by simp)
            obtain ⟨fn, tmps, assign, body, hyy, hR⟩ := HY.out _ (mkE red false i y) _ hJ2 (by have h := HP.out.length_le; rw [List.length_append] at h; simp only [List.length_cons, List.length_nil] at h; omega)
            have HKS := Lib.hid (KpG.below (b0 := w0.heap.size) (C := C) hb4 hgw)
            have hz := hb3.size
            clear hb1 hb2 hb3 hb4 hJ2 ct l0 l1 l2 c0 c2
            simp only [encE, mkE, takenF] at hyy hR HKS ⊢
            gi_wp2
            refine hR.mono ?_
            rintro e W' (⟨rfl, hJ3, hk3⟩ | ⟨rfl, hJx3⟩)
            · have HK3 := Lib.hid hk3
              have HJ3 := Lib.hid hJ3
              clear hk3 hJ3 hR hyy
              gi_wp2
              go_roundw
              case rel => exact ⟨i + 1, by omega, by go_num, by rw [HT.out, ← List.append_assoc]; exact HJ3.out, HKi.out.trans (HKS.out.trans HK3.out)⟩
              case measure => simp [intOf]; omega
            · have HJx := Lib.hid hJx3
              clear hJx3 hR hyy
              gi_wp2
              refine bodyPost_ret (results_none rfl _ _ _) rfl ?_
              exact ⟨⟨_, rfl⟩, .inr ⟨_, HP.out, HJx.out⟩⟩
          · obtain rfl : i = n1 := by omega
            have hJe := HJi.out
            rw [List.take_of_length_le (by rw [HN1.out]; exact Nat.le_refl _)] at hJe
            have HJe := Lib.hid hJe
            clear hJe HC0' HC2'
            gi_wp2
            go_roundw
            case rel => exact ⟨0 + 1, 0 + 1, rfl, .inr (.inr ⟨rfl, rfl⟩), (by simpa [preK, items] using HJe.out : J (preK red live quar (0 + 1)) wr), HKi.out⟩
            case measure => simp [intOf]
      · gi_wp2_with fail
        obtain ⟨wo, rfl⟩ : ∃ wo : World, wo = wr := ⟨_, rfl⟩
        gi_loopw [27] (fun s wr => ∃ i : Nat, i ≤ n2 ∧ s = .int .i64 i ∧ Hid (J (itemsFrom red false 0 live ++ itemsFrom red true 0 (quar.take i)) wr) ∧ Hid (KpG w0.heap.size C g W1 wr)) (fun s _ => n2 - (intOf s).toNat)
        case atStart => exact ⟨0, Nat.zero_le _, rfl, (by simpa [preK, itemsFrom] using HJs.out : J (itemsFrom red false 0 live ++ itemsFrom red true 0 (quar.take 0)) wo), HK.out⟩
        case round =>
          clear HJs HK hbs1 hbs2 hsz
          obtain ⟨i, hi, rfl, HJi, HKi⟩ := hrel
          have hsz := HKi.out.c.size
          have HC0' := Lib.hid (show wr.cell? ⟨Bh, 0, none⟩ = some (.pointer (some ⟨g, 0, none⟩)) from blk_cell (HKi.out.c.same _ _ _ _ HNB.out (.inl (by decide)) HC0.out) 0)
          have HC2' := Lib.hid (HKi.out.h 2 (by omega) _ HC2.out)
          by_cases hlt : i < n2
          · have hil : i < quar.length := by rw [HN2.out]; exact hlt
            obtain ⟨b, off, rfl, hnC, hb0, hl⟩ := HQ.out.resolve_left (by rintro rfl; simp at hil)
            have hl2 := (HK1.out.trans HKi.out).c.lies hnC hb0 hl
            have hbl := hl2.1
            obtain ⟨l0, l1, l2⟩ := hl2.at3 i hil
            have htk := itemsFrom_take red true quar i hil
            have hpre : (itemsFrom red false 0 live ++ itemsFrom red true 0 (quar.take (i + 1))) <+: items red live quar := (List.prefix_append_right_inj _).2 (itemsFrom_prefix red true 0 quar (i + 1))
            generalize hy : quar[i]! = y at l0 l1 l2 htk
            rw [htk, ← List.append_assoc] at hpre
            have HP := Lib.hid hpre
            have HT := Lib.hid htk
            clear hl hl2 hnC hb0 hy htk hpre hil
            have c0 := HC0'.out
            have hBhw : Bh < wr.heap.size := World.block_lt_of_cell? _ _ c0
            have c2 := HC2'.out
            have hgw : g < wr.heap.size := World.block_lt_of_cell? _ _ c2
            gi_wp2_with fail
            have hb1 := below_alloc1 wr (.cells #[.int .u32 y.pos, .int .i64 y.size, .int .i64 y.born] 38)
            have ct := c101 y red g (wr.alloc (.cells #[.int .u32 y.pos, .int .i64 y.size, .int .i64 y.born] 38)) (by rw [(below_alloc1 wr _).cell (p := ⟨g, 2, none⟩) hgw]; exact c2) (by rw [World.size_alloc]; omega)
            refine (callsIn_wide.2 ct).mono ?_
            rintro e w' ⟨rfl, hb2⟩
            have hb3 : Below wr.heap.size wr w' := hb1.trans (hb2.mono (by simp))
            have hb4 : Below wr.heap.size wr (w'.alloc (.cells (encE (mkE red true i y)).toArray 115)) := hb3.alloc hb3.size _
            have hJ2 := HJ.out _ wr _ none HJi.out (grown_none hb4) (by simp)
            obtain ⟨fn, tmps, assign, body, hyy, hR⟩ := HY.out _ (mkE red true i y) _ hJ2 (by have h := HP.out.length_le; rw [List.length_append] at h; simp only [List.length_cons, List.length_nil] at h; omega)
            have HKS := Lib.hid (KpG.below (b0 := w0.heap.size) (C := C) hb4 hgw)
            have hz := hb3.size
            clear hb1 hb2 hb3 hb4 hJ2 ct l0 l1 l2 c0 c2
            simp only [encE, mkE, takenF] at hyy hR HKS ⊢
            gi_wp2
            refine hR.mono ?_
            rintro e W' (⟨rfl, hJ3, hk3⟩ | ⟨rfl, hJx3⟩)
            · have HK3 := Lib.hid hk3
              have HJ3 := Lib.hid hJ3
              clear hk3 hJ3 hR hyy
              gi_wp2
              go_roundw
              case rel => exact ⟨i + 1, by omega, by go_num, by rw [HT.out, ← List.append_assoc]; exact HJ3.out, HKi.out.trans (HKS.out.trans HK3.out)⟩
              case measure => simp [intOf]; omega
            · have HJx := Lib.hid hJx3
              clear hJx3 hR hyy
              gi_wp2
              refine bodyPost_ret (results_none rfl _ _ _) rfl ?_
              exact ⟨⟨_, rfl⟩, .inr ⟨_, HP.out, HJx.out⟩⟩
          · obtain rfl : i = n2 := by omega
            have hJe := HJi.out
            rw [List.take_of_length_le (by rw [HN2.out]; exact Nat.le_refl _)] at hJe
            have HJe := Lib.hid hJe
            clear hJe HC0' HC2'
            gi_wp2
            go_roundw
            case rel => exact ⟨1 + 1, 1 + 1, rfl, .inl ⟨rfl, rfl⟩, (by simpa [preK, items] using HJe.out : J (preK red live quar (1 + 1)) wr), HKi.out⟩
            case measure => simp [intOf]
end Go.Proofs.Ytbhbjcgbhklieaa
