/- gaps again: rows of one other type may turn in the body of the loop over it. -/
import Derived.Test.YtbhbjcgbhklieaaC7
namespace Go.Proofs.Ytbhbjcgbhklieaa
open Go.RowKit Go.Shelf
attribute [local go_sem] Oper.semAt_some

/-- What a loop's body keeps: every block of cells but those of C, and but rows of type t0 beyond b0. -/
structure KpR (t0 : TypeId) (b0 : Nat) (C : Nat → Prop) (W W' : World) : Prop where
  size : W.heap.size ≤ W'.heap.size
  same : ∀ (k : Nat) (cs : Array Value) (t : TypeId) (f : Nat × Nat), ¬ C k → (t ≠ t0 ∨ k < b0) → W.heap[k]? = some (.cells cs t f) → W'.heap[k]? = some (.cells cs t f)
theorem KpR.refl (t0 : TypeId) (b0 : Nat) (C : Nat → Prop) (W : World) : KpR t0 b0 C W W := ⟨Nat.le_refl _, fun _ _ _ _ _ _ h => h⟩
theorem KpR.trans {t0 : TypeId} {b0 : Nat} {C : Nat → Prop} {X Y Z : World} (h : KpR t0 b0 C X Y) (k : KpR t0 b0 C Y Z) : KpR t0 b0 C X Z := ⟨Nat.le_trans h.size k.size, fun i cs t f hC ht hi => k.same i cs t f hC ht (h.same i cs t f hC ht hi)⟩
theorem KpR.of_kpC {t0 : TypeId} {b0 : Nat} {C : Nat → Prop} {W W' : World} (h : KpC C W W') : KpR t0 b0 C W W' := ⟨h.size, fun k cs t f hC _ hk => h.same k cs t f hC hk⟩
theorem KpR.of_none {t0 : TypeId} {b0 : Nat} {C : Nat → Prop} {W W' : World} (hg : W.grownBy W' none) (_ : True := trivial) : KpR t0 b0 C W W' := KpR.of_kpC (KpC.of_grownBy (row := none) hg (by simp))
theorem KpR.of_grownBy {t0 : TypeId} {b0 : Nat} {C : Nat → Prop} {W W' : World} {row : Option Nat} (hg : W.grownBy W' row) (hrow : ∀ j, row = some j → C j ∨ b0 ≤ j ∧ ∃ cs f, W.heap[j]? = some (.cells cs t0 f)) : KpR t0 b0 C W W' :=
  ⟨hg.size, fun k cs t f hC ht hk => (hg.block k (blk_lt hk) (fun e => by
    rcases hrow k e.symm with h | ⟨h, cs', f', h'⟩
    · exact hC h
    · rw [hk] at h'; cases h'; exact ht.elim (fun e => e rfl) (fun e => by omega))).trans hk⟩
theorem KpR.put {t0 : TypeId} {b0 : Nat} {C : Nat → Prop} (W : World) (l : Nat) (o o' : Obj) (hl : W.heap[l]? = some o) (ho : o.isCells = false) : KpR t0 b0 C W (W.putObj l o') := KpR.of_kpC (KpC.put W l o o' hl ho)
theorem KpR.cell {t0 : TypeId} {b0 : Nat} {C : Nat → Prop} {W W' : World} (h : KpR t0 b0 C W W') {b o : Nat} {v : Value} (hb : ¬ C b) (hlt : b < b0) (hc : W.cell? ⟨b, o, none⟩ = some v) : W'.cell? ⟨b, o, none⟩ = some v := by
  unfold World.cell? at hc ⊢
  cases hk : W.heap[b]? with
  | none => simp [hk] at hc
  | some x =>
    cases x <;> simp [hk] at hc
    rename_i cs t f
    rw [h.same b cs t f hb (.inr hlt) hk]
    simpa using hc
theorem KpR.lies {t0 : TypeId} {b0 : Nat} {C : Nat → Prop} {W W' : World} (h : KpR t0 b0 C W W') {α : Type} [Inhabited α] {k : Nat} {enc : α → List Value} {b off : Nat} {zs : List α} (hb : ¬ C b) (hlt : b < b0) (hl : Lies k enc W b off zs) : Lies k enc W' b off zs :=
  ⟨Nat.lt_of_lt_of_le hl.1 h.size, fun j hj i v hv => h.cell hb hlt (hl.2 j hj i v hv)⟩

set_option maxRecDepth 100000 in
set_option maxHeartbeats 2000000 in
theorem s99r (n : Nat) (hn : 2 ≤ n) (Bh g : Nat) (c : Conf) (lv qv : Value) (gi : Int) (L : List Ext) (C : Nat → Prop) (t0 : TypeId) (ht0 : t0 ≠ 115) (w0 w : World) (hok : okConf c = true) (hBh : Bh < w.heap.size) (hbox : w.cell? ⟨Bh, 0, none⟩ = some (.pointer (some ⟨g, 0, none⟩)))
    (hh : HeapB w0 g c lv qv gi L) (hw0 : Below w0.heap.size w0 w) (hC : ∀ k, C k → w0.heap.size ≤ k ∧ k < w.heap.size) (hbig : L.length < 4611686018427387904) (G : List (Int × Int)) (hG0 : gapsF c L = G) :
    SeqStopsK Fence.wide n Try.prog 99 #[.pointer (some ⟨Bh, 0, none⟩)] (fun x : {p : Int × Int // p ∈ G} => #[Value.int .i64 x.1.1, .int .i64 x.1.2]) (KpR t0 w.heap.size C) (fun ys => ys.map (·.1) = G) (fun pre => pre.map (·.1) <+: G) G.length w := by
  intro l J Jx W hW hJ hJx hY h0
  have hbox' := (hW.cell (p := ⟨Bh, 0, none⟩) hBh).trans hbox
  have hBh' : Bh < W.heap.size := Nat.lt_of_lt_of_le hBh hW.size
  have hhW := (hh.below hw0).below hW
  obtain ⟨lsv, hb, hs⟩ := hh.out
  have hb' := ((hw0.trans (hW.mono hw0.size)).block g (blk_lt hb)).trans hb
  have hg := blk_lt hb'
  have g0 := blk_cell hb' 0
  have g1 := blk_cell hb' 1
  have g7 := blk_cell hb' 7
  simp only [List.getElem?_toArray, List.getElem?_cons_succ, List.getElem?_cons_zero] at g0 g1 g7
  simp only [okConf, decide_eq_true_eq] at hok
  have hreg := fun W1 (a0 : W1.cell? ⟨g, 0, none⟩ = _) (a1 : W1.cell? ⟨g, 1, none⟩ = _) => c86 c.page c.n g W1 a0 a1 (by omega) (by omega) (by omega) (by omega)
  have hreg := hreg W g0 g1
  unfold gapsF at hG0
  generalize he : (c.page + c.n) * 256 = e1 at hreg hG0
  generalize hs0 : c.page * 256 = s1 at hreg hG0
  have HG0 := Lib.hid hG0
  clear hG0 he hs0
  have HJ := Lib.hid hJ
  have HY := Lib.hid hY
  have HC := Lib.hid hC
  obtain ⟨A, cc, rfl, _, hl⟩ := hs
  have hl' : L = [] ∨ ∃ b off, A = some ⟨b, off, none⟩ ∧ b < w.heap.size ∧ ¬ C b ∧ Lies 7 encE W b off L := hl.imp id fun ⟨b, off, hA, hl⟩ => ⟨b, off, hA, Nat.lt_of_lt_of_le hl.1 hw0.size, fun hc => by have := (hC b hc).1; have := hl.1; omega, (hl.below hw0).below hW⟩
  have HL := Lib.hid hl'
  have hCW : ∀ k, C k → k < W.heap.size := fun k hk => Nat.lt_of_lt_of_le (hC k hk).2 hW.size
  have HCW := Lib.hid hCW
  clear hJ hJx hY hC hh hhW hb hb' hbox hW hw0 hok hl hl' HC hCW
  generalize hn0 : L.length = nn at hbig g7
  have HN := Lib.hid hn0
  clear hn0
  refine callsIn_of_wp Try.func99 rfl trivial ?_ rfl
  simp only [Try.ntmps99, List.size_toArray, List.length_cons, List.length_nil, Nat.reduceAdd, Nat.reduceSub, Array.replicate_succ, Array.replicate_zero, List.push_toArray, List.append_toArray, List.nil_append, List.cons_append]
  have f86 : Fence.wide.fn 86 := trivial
  have hn1 : 1 ≤ n := by omega
  have hn2 : 1 ≤ n - 1 := by omega
  gi_wp2_with (gi_at_call 86; refine (callsIn_wide.2 hreg).mono ?_; rintro e w' ⟨rfl, nq, rfl⟩)
  clear hreg
  have h0' : J [] (W.drewN nq) := HJ.out [] W _ none h0 (grown_none ⟨rfl, rfl, rfl, Nat.le_refl _, fun _ _ => rfl⟩) (by simp)
  have hk0 : KpR t0 w.heap.size C W (W.drewN nq) := KpR.of_none (grown_none ⟨rfl, rfl, rfl, Nat.le_refl _, fun _ _ => rfl⟩) (by simp)
  generalize W.drewN nq = W1 at h0' hk0 ⊢
  gi_loopw [3, 17] (fun a i wr => ∃ (k : Nat) (at_ : Int) (pre : List {p : Int × Int // p ∈ G}), k ≤ nn ∧ a = .int .i64 at_ ∧ i = .int .i64 k ∧ Hid (G = pre.map (·.1) ++ gapsGo e1 at_ (L.drop k)) ∧ Hid (J pre wr) ∧ Hid (KpR t0 w.heap.size C W wr))
    (fun _ i _ => nn - (intOf i).toNat)
  case atStart => exact ⟨0, s1, [], Nat.zero_le _, rfl, rfl, (show G = ([] : List {p : Int × Int // p ∈ G}).map (·.1) ++ gapsGo e1 s1 (L.drop 0) from HG0.out.symm), h0', hk0⟩
  case round =>
    clear h0 h0' hk0 hbox' hBh' hg g0 g1 g7
    obtain ⟨k, at_, pre, hk, rfl, rfl, HG, HJs, HK⟩ := hrel
    by_cases hlt : k < nn
    · have hkl : k < L.length := by rw [HN.out]; exact hlt
      obtain ⟨b, off, rfl, hb0, hnC, hl⟩ := HL.out.resolve_left (by rintro rfl; simp at hkl)
      have hl2 := HK.out.lies hnC hb0 hl
      have hbl := hl2.1
      obtain ⟨l0, l1, l2, l3, l4, l5, l6⟩ := hl2.at7 k hkl
      have hd : gapsGo e1 at_ (L.drop k) = (if at_ < L[k]!.fr then [(at_, L[k]!.fr)] else []) ++ gapsGo e1 L[k]!.to (L.drop (k + 1)) := by
        rw [List.drop_eq_getElem_cons hkl, gapsGo, getElem!_pos L k hkl]
      generalize hy : L[k]! = y at l0 l1 l2 l3 l4 l5 l6 hd
      clear hl hl2 hy hnC hb0
      by_cases hgt : at_ < y.fr
      · rw [if_pos hgt] at hd
        have hG1 := HG.out
        rw [hd] at hG1
        have hm : (at_, y.fr) ∈ G := by rw [hG1]; simp
        have hG2 : G = (pre ++ [(⟨(at_, y.fr), hm⟩ : {p : Int × Int // p ∈ G})]).map (·.1) ++ gapsGo e1 y.to (L.drop (k + 1)) := by rw [List.map_append, List.map_cons, List.map_nil]; refine hG1.trans ?_; simp
        have hlen : pre.length < G.length := by have := congrArg List.length hG1; simp at this; omega
        clear hG1
        have hg' : wr.grownBy (wr.alloc (.cells (encE y).toArray 115)) none := World.grownBy_alloc _ _ _
        have hJ2 := HJ.out pre wr _ none HJs.out hg' (by simp)
        obtain ⟨fn, tmps, assign, body, hyy, hR⟩ := HY.out pre ⟨(at_, y.fr), hm⟩ _ hJ2 hlen
        have HG2 := Lib.hid hG2
        clear hd hG2 hlen hg' hJ2 hkl
        unfold encE at hyy hR
        dsimp only at hyy
        have hnCw : ¬ C wr.heap.size := fun hc => by have := HCW.out _ hc; have := HK.out.size; omega
        have hc4 : (wr.alloc (.cells #[.int .u32 y.p.pos, .int .i64 y.p.size, .int .i64 y.p.born, .int .i64 y.fr, .int .i64 y.to, .bool y.quar, .int .i64 y.ix] 115)).heap[wr.heap.size]? = some (.cells #[.int .u32 y.p.pos, .int .i64 y.p.size, .int .i64 y.p.born, .int .i64 y.fr, .int .i64 y.to, .bool y.quar, .int .i64 y.ix] 115 (0, 0)) := World.alloc_heap_new _ _
        have hks : KpR t0 w.heap.size C wr (wr.alloc (.cells #[.int .u32 y.p.pos, .int .i64 y.p.size, .int .i64 y.p.born, .int .i64 y.fr, .int .i64 y.to, .bool y.quar, .int .i64 y.ix] 115)) := KpR.of_none (World.grownBy_alloc _ _ _) (by simp)
        have HC4 := Lib.hid hc4
        have HKS := Lib.hid hks
        have HNW := Lib.hid hnCw
        clear hc4 hks hnCw
        gi_wp2
        refine hR.mono ?_
        rintro e W' (⟨rfl, hJ3, hk3⟩ | ⟨rfl, hJx3⟩)
        · have c4 : W'.cell? ⟨wr.heap.size, 4, none⟩ = some (.int .i64 y.to) := blk_cell (hk3.same _ _ _ _ HNW.out (.inl (fun e => ht0 e.symm)) HC4.out) 4
          have HK3 := Lib.hid hk3
          have HJ3 := Lib.hid hJ3
          clear hk3 hJ3 hR hyy l0 l1 l2 l3 l4 l5 l6
          gi_wp2
          go_roundw
          case rel => exact ⟨k + 1, y.to, pre ++ [⟨(at_, y.fr), hm⟩], by omega, rfl, by go_num, HG2, HJ3, HK.out.trans (HKS.out.trans HK3.out)⟩
          case measure => simp [intOf]; omega
        · clear hR hyy l0 l1 l2 l3 l4 l5 l6
          have HJx := Lib.hid hJx3
          clear hJx3
          gi_wp2
          refine bodyPost_ret (results_none rfl _ _ _) rfl ?_
          exact ⟨⟨_, rfl⟩, .inr ⟨_, ⟨_, HG2.out.symm⟩, HJx.out⟩⟩
      · rw [if_neg hgt, List.nil_append] at hd
        have hG2 : G = pre.map (·.1) ++ gapsGo e1 y.to (L.drop (k + 1)) := HG.out.trans (by rw [hd])
        have HG2 := Lib.hid hG2
        have hg' : wr.grownBy (wr.alloc (.cells #[.int .u32 y.p.pos, .int .i64 y.p.size, .int .i64 y.p.born, .int .i64 y.fr, .int .i64 y.to, .bool y.quar, .int .i64 y.ix] 115)) none := World.grownBy_alloc _ _ _
        have hJ2 := HJ.out pre wr _ none HJs.out hg' (by simp)
        have hks := KpR.of_none (t0 := t0) (b0 := w.heap.size) (C := C) hg' (by simp)
        have HKS := Lib.hid hks
        have HJ2 := Lib.hid hJ2
        have hle : y.fr ≤ at_ := by omega
        clear hd hG2 hg' hJ2 hks hkl
        gi_wp2
        refine ⟨fun _ h => (by cases h), ?_⟩
        gi_wp2
        go_roundw
        case rel => exact ⟨k + 1, y.to, pre, by omega, rfl, by go_num, HG2, HJ2.out, HK.out.trans HKS.out⟩
        case measure => simp [intOf]; omega
    · obtain rfl : k = nn := by omega
      have hd : G = pre.map (·.1) ++ (if at_ < e1 then [(at_, e1)] else []) := HG.out.trans (by
        rw [List.drop_eq_nil_of_le (by rw [HN.out]; exact Nat.le_refl _), gapsGo])
      by_cases hgt : at_ < e1
      · rw [if_pos hgt] at hd
        have hm : (at_, e1) ∈ G := by rw [hd]; simp
        have hlen : pre.length < G.length := by have := congrArg List.length hd; simp at this; omega
        obtain ⟨fn, tmps, assign, body, hyy, hR⟩ := HY.out pre ⟨(at_, e1), hm⟩ _ HJs.out hlen
        have HD := Lib.hid hd
        clear hd hlen
        dsimp only at hyy
        gi_wp2
        refine hR.mono ?_
        rintro e W' (⟨rfl, hJ3, hk3⟩ | ⟨rfl, hJx3⟩)
        · clear hR hyy
          gi_wp2
          go_end0
          exact ⟨⟨_, rfl⟩, .inl ⟨_, (by rw [List.map_append]; exact HD.out.symm), hJ3⟩⟩
        · clear hR hyy
          gi_wp2
          go_end0
          exact ⟨⟨_, rfl⟩, .inr ⟨_, ⟨[], by rw [List.map_append, List.append_nil]; exact HD.out.symm⟩, hJx3⟩⟩
      · rw [if_neg hgt, List.append_nil] at hd
        have HD := Lib.hid hd
        clear hd
        gi_wp2
        go_end0
        exact ⟨⟨_, rfl⟩, .inl ⟨_, HD.out.symm, HJs.out⟩⟩
end Go.Proofs.Ytbhbjcgbhklieaa
