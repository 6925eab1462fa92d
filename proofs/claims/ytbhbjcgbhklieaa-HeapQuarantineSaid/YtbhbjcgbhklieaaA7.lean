/- gaps: the iterator over the gaps of an opened heap. -/
import Derived.Test.YtbhbjcgbhklieaaA6
import Derived.RangeFuncNested
import Derived.RangeFuncBound
import Derived.RangeFuncCalls
import Derived.RangeFuncLeaves
import Derived.Shelf.RegionOpen
import Derived.OwnWalkIn
import Derived.TacticsInMore
import Derived.LoopNIn
import Derived.LoopIn
import Derived.Shelf.AbstractIn
namespace Go.Proofs.Ytbhbjcgbhklieaa
open Go.RowKit Go.Shelf
attribute [local go_sem] Oper.semAt_some

/-- What a loop's body keeps: every block of cells but those of C. -/
structure KpC (C : Nat → Prop) (W W' : World) : Prop where
  size : W.heap.size ≤ W'.heap.size
  same : ∀ (k : Nat) (cs : Array Value) (t : TypeId) (f : Nat × Nat), ¬ C k → W.heap[k]? = some (.cells cs t f) → W'.heap[k]? = some (.cells cs t f)

theorem KpC.refl (C : Nat → Prop) (W : World) : KpC C W W := ⟨Nat.le_refl _, fun _ _ _ _ _ h => h⟩
theorem KpC.trans {C : Nat → Prop} {X Y Z : World} (h : KpC C X Y) (k : KpC C Y Z) : KpC C X Z := ⟨Nat.le_trans h.size k.size, fun i cs t f hC hi => k.same i cs t f hC (h.same i cs t f hC hi)⟩
theorem KpC.put {C : Nat → Prop} (W : World) (l : Nat) (o o' : Obj) (hl : W.heap[l]? = some o) (ho : o.isCells = false) : KpC C W (W.putObj l o') :=
  ⟨by simp, fun k cs t f _ hk => by
    have : k ≠ l := by rintro rfl; rw [hl] at hk; cases hk; simp [Obj.isCells] at ho
    rw [World.putObj_heap_other this]; exact hk⟩
theorem KpC.of_grownBy {C : Nat → Prop} {W W' : World} {row : Option Nat} (hg : W.grownBy W' row) (hrow : ∀ j, row = some j → C j) : KpC C W W' :=
  ⟨hg.size, fun k _ _ _ hC hk => (hg.block k (blk_lt hk) (fun e => hC (hrow k e.symm))).trans hk⟩
theorem KpC.cell {C : Nat → Prop} {W W' : World} (h : KpC C W W') {b o : Nat} {v : Value} (hb : ¬ C b) (hc : W.cell? ⟨b, o, none⟩ = some v) : W'.cell? ⟨b, o, none⟩ = some v := by
  unfold World.cell? at hc ⊢
  cases hk : W.heap[b]? with
  | none => simp [hk] at hc
  | some x =>
    cases x <;> simp [hk] at hc
    rename_i cs t f
    rw [h.same b cs t f hb hk]
    simpa using hc
theorem KpC.lies {C : Nat → Prop} {W W' : World} (h : KpC C W W') {α : Type} [Inhabited α] {k : Nat} {enc : α → List Value} {b off : Nat} {zs : List α} (hb : ¬ C b) (hl : Lies k enc W b off zs) : Lies k enc W' b off zs :=
  ⟨Nat.lt_of_lt_of_le hl.1 h.size, fun j hj i v hv => h.cell hb (hl.2 j hj i v hv)⟩
theorem grown_none {W W' : World} (h : Below W.heap.size W W') : W.grownBy W' none := ⟨h.os, h.tape, h.output, h.size, fun k hk _ => h.block k hk⟩

def gapsGo (end_ : Int) : Int → List Ext → List (Int × Int)
  | at_, [] => if at_ < end_ then [(at_, end_)] else []
  | at_, x :: L => (if at_ < x.fr then [(at_, x.fr)] else []) ++ gapsGo end_ x.to L

def gapsF (c : Conf) (L : List Ext) : List (Int × Int) := gapsGo ((c.page + c.n) * 256) (c.page * 256) L

theorem c76 (n : Nat) (g : Nat) (w : World) : CallsIn Fence.wide n Try.prog 76 #[.pointer (some ⟨g, 0, none⟩)] w fun e w' => e = .returned (.func (.func 99) #[] #[.pointer (some ⟨w.heap.size, 0, none⟩)]) ∧ w' = w.alloc (.cells #[.pointer (some ⟨g, 0, none⟩)] 97) := by
  refine callsIn_of_wp Try.func76 rfl trivial ?_ rfl
  simp only [Try.ntmps76, List.size_toArray, List.length_cons, List.length_nil, Nat.reduceAdd, Nat.reduceSub, Array.replicate_succ, Array.replicate_zero, List.push_toArray, List.append_toArray, List.nil_append, List.cons_append]
  gi_wp2
  go_ret
  exact ⟨rfl, rfl⟩

set_option maxRecDepth 100000 in
set_option maxHeartbeats 2000000 in
theorem s99 (n : Nat) (hn : 2 ≤ n) (Bh g : Nat) (c : Conf) (lv qv : Value) (gi : Int) (L : List Ext) (C : Nat → Prop) (w0 w : World) (hok : okConf c = true) (hBh : Bh < w.heap.size) (hbox : w.cell? ⟨Bh, 0, none⟩ = some (.pointer (some ⟨g, 0, none⟩)))
    (hh : HeapB w0 g c lv qv gi L) (hw0 : Below w0.heap.size w0 w) (hC : ∀ k, C k → w0.heap.size ≤ k ∧ k < w.heap.size) (hbig : L.length < 4611686018427387904) :
    SeqStopsK Fence.wide n Try.prog 99 #[.pointer (some ⟨Bh, 0, none⟩)] (fun x : Int × Int => #[Value.int .i64 x.1, .int .i64 x.2]) (KpC C) (fun ys => ys = gapsF c L) (fun pre => pre <+: gapsF c L) (gapsF c L).length w := by
  intro l J Jx W hW hJ hJx hY h0
  have hbox' := (hW.cell (p := ⟨Bh, 0, none⟩) hBh).trans hbox
  have hBh' : Bh < W.heap.size := Nat.lt_of_lt_of_le hBh hW.size
  have hhW := (hh.below hw0).below hW
  obtain ⟨lsv, hb, hs⟩ := hh.out
  have hb' := ((hw0.trans (hW.mono hw0.size)).block g (blk_lt hb)).trans hb
  have hg := blk_lt hb'
  have g0 := blk_cell hb' 0
  have g1 := blk_cell hb' 1
  have g7 := blk_cell hb' 7
  simp only [List.getElem?_toArray, List.getElem?_cons_succ, List.getElem?_cons_zero] at g0 g1 g7
  simp only [okConf, decide_eq_true_eq] at hok
  have hreg := fun W1 (a0 : W1.cell? ⟨g, 0, none⟩ = _) (a1 : W1.cell? ⟨g, 1, none⟩ = _) => c86 c.page c.n g W1 a0 a1 (by omega) (by omega) (by omega) (by omega)
  have hreg := hreg W g0 g1
  unfold gapsF at *
  generalize he : (c.page + c.n) * 256 = e1 at *
  generalize hs0 : c.page * 256 = s1 at *
  have HJ := Lib.hid hJ
  have HY := Lib.hid hY
  have HC := Lib.hid hC
  obtain ⟨A, cc, rfl, _, hl⟩ := hs
  have hl' : L = [] ∨ ∃ b off, A = some ⟨b, off, none⟩ ∧ ¬ C b ∧ Lies 7 encE W b off L := hl.imp id fun ⟨b, off, hA, hl⟩ => ⟨b, off, hA, fun hc => by have := (hC b hc).1; have := hl.1; omega, (hl.below hw0).below hW⟩
  have HL := Lib.hid hl'
  have hCW : ∀ k, C k → k < W.heap.size := fun k hk => Nat.lt_of_lt_of_le (hC k hk).2 hW.size
  have HCW := Lib.hid hCW
  clear hJ hJx hY hC hh hhW hb hb' hbox hW hw0 hok hl hl' HC hCW
  generalize hn0 : L.length = nn at hbig g7
  have HN := Lib.hid hn0
  clear hn0
  refine callsIn_of_wp Try.func99 rfl trivial ?_ rfl
  simp only [Try.ntmps99, List.size_toArray, List.length_cons, List.length_nil, Nat.reduceAdd, Nat.reduceSub, Array.replicate_succ, Array.replicate_zero, List.push_toArray, List.append_toArray, List.nil_append, List.cons_append]
  have f86 : Fence.wide.fn 86 := trivial
  have hn1 : 1 ≤ n := by omega
  have hn2 : 1 ≤ n - 1 := by omega
  gi_wp2_with (gi_at_call 86; refine (callsIn_wide.2 hreg).mono ?_; rintro e w' ⟨rfl, nq, rfl⟩)
  clear hreg
  have h0' : J [] (W.drewN nq) := HJ.out [] W _ none h0 (grown_none ⟨rfl, rfl, rfl, Nat.le_refl _, fun _ _ => rfl⟩) (by simp)
  have hk0 : KpC C W (W.drewN nq) := KpC.of_grownBy (row := none) (grown_none ⟨rfl, rfl, rfl, Nat.le_refl _, fun _ _ => rfl⟩) (by simp)
  generalize W.drewN nq = W1 at h0' hk0 ⊢
  gi_loopw [3, 17] (fun a i wr => ∃ (k : Nat) (at_ : Int) (pre : List (Int × Int)), k ≤ nn ∧ a = .int .i64 at_ ∧ i = .int .i64 k ∧ Hid (gapsGo e1 s1 L = pre ++ gapsGo e1 at_ (L.drop k)) ∧ Hid (J pre wr) ∧ Hid (KpC C W wr))
    (fun _ i _ => nn - (intOf i).toNat)
  case atStart => exact ⟨0, s1, [], Nat.zero_le _, rfl, rfl, (rfl : gapsGo e1 s1 L = [] ++ gapsGo e1 s1 (L.drop 0)), h0', hk0⟩
  case round =>
    clear h0 h0' hk0 hbox' hBh' hg g0 g1 g7
    obtain ⟨k, at_, pre, hk, rfl, rfl, HG, HJs, HK⟩ := hrel
    by_cases hlt : k < nn
    · have hkl : k < L.length := by rw [HN.out]; exact hlt
      obtain ⟨b, off, rfl, hnC, hl⟩ := HL.out.resolve_left (by rintro rfl; simp at hkl)
      have hl2 := HK.out.lies hnC hl
      have hbl := hl2.1
      obtain ⟨l0, l1, l2, l3, l4, l5, l6⟩ := hl2.at7 k hkl
      have hd : gapsGo e1 at_ (L.drop k) = (if at_ < L[k]!.fr then [(at_, L[k]!.fr)] else []) ++ gapsGo e1 L[k]!.to (L.drop (k + 1)) := by
        rw [List.drop_eq_getElem_cons hkl, gapsGo, getElem!_pos L k hkl]
      generalize hy : L[k]! = y at l0 l1 l2 l3 l4 l5 l6 hd
      have hnf : ∀ x ∈ gapsGo e1 s1 L, True := fun _ _ => trivial
      clear hl hl2 hy hnC hnf
      by_cases hgt : at_ < y.fr
      · rw [if_pos hgt] at hd
        have hG2 : gapsGo e1 s1 L = (pre ++ [(at_, y.fr)]) ++ gapsGo e1 y.to (L.drop (k + 1)) := by rw [HG.out, hd]; simp
        have hlen : pre.length < (gapsGo e1 s1 L).length := by rw [hG2]; simp
        have hg' : wr.grownBy (wr.alloc (.cells (encE y).toArray 115)) none := World.grownBy_alloc _ _ _
        have hJ2 := HJ.out pre wr _ none HJs.out hg' (by simp)
        obtain ⟨fn, tmps, assign, body, hyy, hR⟩ := HY.out pre (at_, y.fr) _ hJ2 hlen
        have HG2 := Lib.hid hG2
        clear hd hG2 hlen hg' hJ2 hkl
        unfold encE at hyy hR
        dsimp only at hyy
        have hnCw : ¬ C wr.heap.size := fun hc => by have := HCW.out _ hc; have := HK.out.size; omega
        have hc4 : (wr.alloc (.cells #[.int .u32 y.p.pos, .int .i64 y.p.size, .int .i64 y.p.born, .int .i64 y.fr, .int .i64 y.to, .bool y.quar, .int .i64 y.ix] 115)).cell? ⟨wr.heap.size, 4, none⟩ = some (.int .i64 y.to) := by simp
        have hks : KpC C wr (wr.alloc (.cells #[.int .u32 y.p.pos, .int .i64 y.p.size, .int .i64 y.p.born, .int .i64 y.fr, .int .i64 y.to, .bool y.quar, .int .i64 y.ix] 115)) := KpC.of_grownBy (row := none) (World.grownBy_alloc _ _ _) (by simp)
        have HC4 := Lib.hid hc4
        have HKS := Lib.hid hks
        have HNW := Lib.hid hnCw
        clear hc4 hks hnCw
        gi_wp2
        refine hR.mono ?_
        rintro e W' (⟨rfl, hJ3, hk3⟩ | ⟨rfl, hJx3⟩)
        · have c4 := hk3.cell HNW.out HC4.out
          have HK3 := Lib.hid hk3
          have HJ3 := Lib.hid hJ3
          clear hk3 hJ3 hR hyy l0 l1 l2 l3 l4 l5 l6
          gi_wp2
          go_roundw
          case rel => exact ⟨k + 1, y.to, pre ++ [(at_, y.fr)], by omega, rfl, by go_num, HG2, HJ3.out, HK.out.trans (HKS.out.trans HK3.out)⟩
          case measure => simp [intOf]; omega
        · clear hR hyy l0 l1 l2 l3 l4 l5 l6
          have HJx := Lib.hid hJx3
          clear hJx3
          gi_wp2
          refine bodyPost_ret (results_none rfl _ _ _) rfl ?_
          exact ⟨⟨_, rfl⟩, .inr ⟨_, by rw [HG2.out]; exact List.prefix_append _ _, HJx.out⟩⟩
      · rw [if_neg hgt, List.nil_append] at hd
        have hG2 : gapsGo e1 s1 L = pre ++ gapsGo e1 y.to (L.drop (k + 1)) := by rw [HG.out, hd]
        have HG2 := Lib.hid hG2
        have hg' : wr.grownBy (wr.alloc (.cells #[.int .u32 y.p.pos, .int .i64 y.p.size, .int .i64 y.p.born, .int .i64 y.fr, .int .i64 y.to, .bool y.quar, .int .i64 y.ix] 115)) none := World.grownBy_alloc _ _ _
        have hJ2 := HJ.out pre wr _ none HJs.out hg' (by simp)
        have hks := KpC.of_grownBy (C := C) (row := none) hg' (by simp)
        have HKS := Lib.hid hks
        have HJ2 := Lib.hid hJ2
        have hle : y.fr ≤ at_ := by omega
        clear hd hG2 hg' hJ2 hks hkl
        gi_wp2
        refine ⟨fun _ h => (by cases h), ?_⟩
        gi_wp2
        go_roundw
        case rel => exact ⟨k + 1, y.to, pre, by omega, rfl, by go_num, HG2, HJ2.out, HK.out.trans HKS.out⟩
        case measure => simp [intOf]; omega
    · obtain rfl : k = nn := by omega
      have hd : gapsGo e1 s1 L = pre ++ (if at_ < e1 then [(at_, e1)] else []) := by
        rw [HG.out, List.drop_eq_nil_of_le (by rw [HN.out]; exact Nat.le_refl _), gapsGo]
      by_cases hgt : at_ < e1
      · rw [if_pos hgt] at hd
        have hlen : pre.length < (gapsGo e1 s1 L).length := by rw [hd]; simp
        obtain ⟨fn, tmps, assign, body, hyy, hR⟩ := HY.out pre (at_, e1) _ HJs.out hlen
        have HD := Lib.hid hd
        clear hd hlen
        dsimp only at hyy
        gi_wp2
        refine hR.mono ?_
        rintro e W' (⟨rfl, hJ3, hk3⟩ | ⟨rfl, hJx3⟩)
        · clear hR hyy
          gi_wp2
          go_end0
          exact ⟨⟨_, rfl⟩, .inl ⟨_, HD.out.symm, hJ3⟩⟩
        · clear hR hyy
          gi_wp2
          go_end0
          exact ⟨⟨_, rfl⟩, .inr ⟨_, by rw [HD.out]; exact List.prefix_refl _, hJx3⟩⟩
      · rw [if_neg hgt, List.append_nil] at hd
        have HD := Lib.hid hd
        clear hd
        gi_wp2
        go_end0
        exact ⟨⟨_, rfl⟩, .inl (by rw [HD.out]; exact HJs.out)⟩
end Go.Proofs.Ytbhbjcgbhklieaa
