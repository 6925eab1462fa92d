/- pieces: the iterator over all blocks with their extents. -/
import Derived.Test.YtbhbjcgbhklieaaA7
namespace Go.Proofs.Ytbhbjcgbhklieaa
open Go.RowKit Go.Shelf
attribute [local go_sem] Oper.semAt_some

def mkE (red : Int) (q : Bool) (i : Nat) (p : Piece) : Ext := { takenF red p with quar := q, ix := i }
def itemsFrom (red : Int) (q : Bool) : Nat → List Piece → List Ext
  | _, [] => []
  | i, p :: ps => mkE red q i p :: itemsFrom red q (i + 1) ps
def items (red : Int) (live quar : List Piece) : List Ext := itemsFrom red false 0 live ++ itemsFrom red true 0 quar

theorem itemsFrom_snoc (red : Int) (q : Bool) : ∀ (i : Nat) (l : List Piece) (p : Piece), itemsFrom red q i (l ++ [p]) = itemsFrom red q i l ++ [mkE red q (i + l.length) p]
  | i, [], p => by simp [itemsFrom]
  | i, a :: l, p => by simp only [List.cons_append, itemsFrom, itemsFrom_snoc red q (i + 1) l p, List.length_cons]; rw [show i + 1 + l.length = i + (l.length + 1) by omega]
theorem itemsFrom_len (red : Int) (q : Bool) : ∀ (i : Nat) (l : List Piece), (itemsFrom red q i l).length = l.length
  | _, [] => rfl
  | i, _ :: l => by simp [itemsFrom, itemsFrom_len red q (i + 1) l]
theorem itemsFrom_take (red : Int) (q : Bool) (l : List Piece) (i : Nat) (hi : i < l.length) : itemsFrom red q 0 (l.take (i + 1)) = itemsFrom red q 0 (l.take i) ++ [mkE red q i l[i]!] := by
  rw [List.take_succ_eq_append_getElem hi, itemsFrom_snoc, getElem!_pos l i hi]; simp [Nat.min_eq_left (Nat.le_of_lt hi)]
theorem itemsFrom_prefix (red : Int) (q : Bool) : ∀ (i : Nat) (l : List Piece) (j : Nat), itemsFrom red q i (l.take j) <+: itemsFrom red q i l
  | _, [], j => by simp [itemsFrom]
  | _, _ :: _, 0 => by simp [itemsFrom]
  | i, a :: l, j + 1 => by simp only [List.take_succ_cons, itemsFrom, List.cons_prefix_cons, true_and]; exact itemsFrom_prefix red q (i + 1) l j

/-- as 'KpC', but rows of extents beyond b0 may be written. -/
structure KpE (b0 : Nat) (C : Nat → Prop) (W W' : World) : Prop where
  size : W.heap.size ≤ W'.heap.size
  same : ∀ (k : Nat) (cs : Array Value) (t : TypeId) (f : Nat × Nat), ¬ C k → (t ≠ 115 ∨ k < b0) → W.heap[k]? = some (.cells cs t f) → W'.heap[k]? = some (.cells cs t f)
theorem KpE.refl (b0 : Nat) (C : Nat → Prop) (W : World) : KpE b0 C W W := ⟨Nat.le_refl _, fun _ _ _ _ _ _ h => h⟩
theorem KpE.trans {b0 : Nat} {C : Nat → Prop} {X Y Z : World} (h : KpE b0 C X Y) (k : KpE b0 C Y Z) : KpE b0 C X Z := ⟨Nat.le_trans h.size k.size, fun i cs t f hC ht hi => k.same i cs t f hC ht (h.same i cs t f hC ht hi)⟩
theorem KpE.of_kpC {b0 : Nat} {C : Nat → Prop} {W W' : World} (h : KpC C W W') : KpE b0 C W W' := ⟨h.size, fun k cs t f hC _ hk => h.same k cs t f hC hk⟩
theorem KpE.of_grownBy {b0 : Nat} {C : Nat → Prop} {W W' : World} {row : Option Nat} (hg : W.grownBy W' row) (hrow : ∀ j, row = some j → C j ∨ b0 ≤ j ∧ ∃ cs f, W.heap[j]? = some (.cells cs 115 f)) : KpE b0 C W W' :=
  ⟨hg.size, fun k cs t f hC ht hk => (hg.block k (blk_lt hk) (fun e => by
    rcases hrow k e.symm with h | ⟨h, cs', f', h'⟩
    · exact hC h
    · rw [hk] at h'; cases h'; exact ht.elim (fun e => e rfl) (fun e => by omega))).trans hk⟩
theorem KpE.cell {b0 : Nat} {C : Nat → Prop} {W W' : World} (h : KpE b0 C W W') {b o : Nat} {v : Value} (hb : ¬ C b) (hlt : b < b0) (hc : W.cell? ⟨b, o, none⟩ = some v) : W'.cell? ⟨b, o, none⟩ = some v := by
  unfold World.cell? at hc ⊢
  cases hk : W.heap[b]? with
  | none => simp [hk] at hc
  | some x =>
    cases x <;> simp [hk] at hc
    rename_i cs t f
    rw [h.same b cs t f hb (.inr hlt) hk]
    simpa using hc
theorem KpE.lies {b0 : Nat} {C : Nat → Prop} {W W' : World} (h : KpE b0 C W W') {α : Type} [Inhabited α] {k : Nat} {enc : α → List Value} {b off : Nat} {zs : List α} (hb : ¬ C b) (hlt : b < b0) (hl : Lies k enc W b off zs) : Lies k enc W' b off zs :=
  ⟨Nat.lt_of_lt_of_le hl.1 h.size, fun j hj i v hv => h.cell hb hlt (hl.2 j hj i v hv)⟩

structure KpG (b0 : Nat) (C : Nat → Prop) (g : Nat) (W W' : World) : Prop where
  c : KpE b0 C W W'
  h : ∀ j, j < 7 → ∀ v, W.cell? ⟨g, j, none⟩ = some v → W'.cell? ⟨g, j, none⟩ = some v
theorem KpG.refl (b0 : Nat) (C : Nat → Prop) (g : Nat) (W : World) : KpG b0 C g W W := ⟨KpE.refl _ _ _, fun _ _ _ h => h⟩
theorem KpG.trans {b0 : Nat} {C : Nat → Prop} {g : Nat} {X Y Z : World} (h : KpG b0 C g X Y) (k : KpG b0 C g Y Z) : KpG b0 C g X Z := ⟨h.c.trans k.c, fun j hj v hv => k.h j hj v (h.h j hj v hv)⟩
theorem KpG.below {b0 : Nat} {C : Nat → Prop} {g : Nat} {W W' : World} (h : Below W.heap.size W W') (hg : g < W.heap.size) : KpG b0 C g W W' :=
  ⟨KpE.of_kpC (KpC.of_grownBy (row := none) (grown_none h) (by simp)), fun j _ v hv => by rw [h.cell (p := ⟨g, j, none⟩) hg]; exact hv⟩
theorem KpG.put {b0 : Nat} {C : Nat → Prop} {g : Nat} (W : World) (l : Nat) (o o' : Obj) (hl : W.heap[l]? = some o) (ho : o.isCells = false) : KpG b0 C g W (W.putObj l o') :=
  ⟨KpE.of_kpC (KpC.put W l o o' hl ho), fun j _ v hv => by
    have : g ≠ l := by rintro rfl; simp [World.cell?, hl] at hv; cases o <;> simp_all [Obj.isCells]
    simpa [World.cell?, World.putObj_heap_other this] using hv⟩

theorem c77 (n : Nat) (g : Nat) (w : World) : CallsIn Fence.wide n Try.prog 77 #[.pointer (some ⟨g, 0, none⟩)] w fun e w' => e = .returned (.func (.func 100) #[] #[.pointer (some ⟨w.heap.size, 0, none⟩)]) ∧ w' = w.alloc (.cells #[.pointer (some ⟨g, 0, none⟩)] 97) := by
  refine callsIn_of_wp Try.func77 rfl trivial ?_ rfl
  simp only [Try.ntmps77, List.size_toArray, List.length_cons, List.length_nil, Nat.reduceAdd, Nat.reduceSub, Array.replicate_succ, Array.replicate_zero, List.push_toArray, List.append_toArray, List.nil_append, List.cons_append]
  gi_wp2
  go_ret
  exact ⟨rfl, rfl⟩

def preK (red : Int) (live quar : List Piece) : Nat → List Ext
  | 0 => []
  | 1 => itemsFrom red false 0 live
  | _ => items red live quar

set_option maxRecDepth 100000 in
set_option maxHeartbeats 2000000 in
theorem s100 (n : Nat) (hn : 2 ≤ n) (Bh g : Nat) (red : Int) (lv qv : Value) (live quar : List Piece) (C : Nat → Prop) (w0 w : World) (hBh : Bh < w.heap.size) (hbox : w.heap[Bh]? = some (.cells #[.pointer (some ⟨g, 0, none⟩)] 97 (0, 0)))
    (hg : g < w.heap.size) (h2 : w.cell? ⟨g, 2, none⟩ = some (.int .i64 red)) (h4 : w.cell? ⟨g, 4, none⟩ = some lv) (h5 : w.cell? ⟨g, 5, none⟩ = some qv)
    (hl : Sl 3 encP w0 lv live) (hq : Sl 3 encP w0 qv quar) (hw0 : Below w0.heap.size w0 w) (hC : ∀ k, C k → w0.heap.size ≤ k ∧ k < w.heap.size) (hnB : ¬ C Bh) (hbl : live.length < 4611686018427387904) (hbq : quar.length < 4611686018427387904) :
    SeqStopsK Fence.wide n Try.prog 100 #[.pointer (some ⟨Bh, 0, none⟩)] (fun x : Ext => #[Value.agg (encE x).toArray]) (KpG w0.heap.size C g) (fun ys => ys = items red live quar) (fun pre => pre <+: items red live quar) (items red live quar).length w := by
  intro l J Jx W hW hJ hJx hY h0
  have hbox' := (hW.block Bh hBh).trans hbox
  have hbc : W.cell? ⟨Bh, 0, none⟩ = some (.pointer (some ⟨g, 0, none⟩)) := blk_cell hbox' 0
  have hBh' : Bh < W.heap.size := Nat.lt_of_lt_of_le hBh hW.size
  have hg' : g < W.heap.size := Nat.lt_of_lt_of_le hg hW.size
  have g2 := (hW.cell (p := ⟨g, 2, none⟩) hg).trans h2
  have g4 := (hW.cell (p := ⟨g, 4, none⟩) hg).trans h4
  have g5 := (hW.cell (p := ⟨g, 5, none⟩) hg).trans h5
  obtain ⟨A, ca, rfl, _, hl⟩ := hl
  obtain ⟨B, cb, rfl, _, hq⟩ := hq
  have hl' : live = [] ∨ ∃ b off, A = some ⟨b, off, none⟩ ∧ ¬ C b ∧ b < w0.heap.size ∧ Lies 3 encP W b off live := hl.imp id fun ⟨b, off, hA, hl⟩ => ⟨b, off, hA, fun hc => by have := (hC b hc).1; have := hl.1; omega, hl.1, (hl.below hw0).below hW⟩
  have hq' : quar = [] ∨ ∃ b off, B = some ⟨b, off, none⟩ ∧ ¬ C b ∧ b < w0.heap.size ∧ Lies 3 encP W b off quar := hq.imp id fun ⟨b, off, hA, hl⟩ => ⟨b, off, hA, fun hc => by have := (hC b hc).1; have := hl.1; omega, hl.1, (hl.below hw0).below hW⟩
  have HL := Lib.hid hl'
  have HQ := Lib.hid hq'
  have hCW : ∀ k, C k → k < W.heap.size := fun k hk => Nat.lt_of_lt_of_le (hC k hk).2 hW.size
  have HCW := Lib.hid hCW
  have HJ := Lib.hid hJ
  have HY := Lib.hid hY
  have HNB := Lib.hid hnB
  clear hJ hJx hY hC hbox hW hw0 hl hl' hq hq' hCW hnB h2 h4 h5 hg hBh
  generalize hn1 : live.length = n1 at hbl g4
  have HN1 := Lib.hid hn1
  generalize hn2 : quar.length = n2 at hbq g5
  have HN2 := Lib.hid hn2
  clear hn1 hn2
  refine callsIn_of_wp Try.func100 rfl trivial ?_ rfl
  simp only [Try.ntmps100, List.size_toArray, List.length_cons, List.length_nil, Nat.reduceAdd, Nat.reduceSub, Array.replicate_succ, Array.replicate_zero, List.push_toArray, List.append_toArray, List.nil_append, List.cons_append]
  have f101 : Fence.wide.fn 101 := trivial
  have q1 : 1 ≤ n := by omega
  have q2 : 1 ≤ n - 1 := by omega
  gi_wp2_with fail
  refine wpIn_wide.2 ?_
  go_region
  have hB1 : Below W.heap.size W ((W.alloc (.cells #[.slice A n1 ca, .slice B n2 cb] 24)).drew) := (below_alloc1 _ _).drew
  have bx : ((W.alloc (.cells #[.slice A n1 ca, .slice B n2 cb] 24)).drew).heap[W.heap.size]? = some (.cells #[.slice A n1 ca, .slice B n2 cb] 24 (0, 0)) := World.alloc_heap_new W _
  have bz : W.heap.size < ((W.alloc (.cells #[.slice A n1 ca, .slice B n2 cb] 24)).drew).heap.size := by simp
  have h01 := HJ.out [] W _ none h0 (grown_none hB1) (by simp)
  have hk1 := KpG.below (b0 := w0.heap.size) (C := C) hB1 hg'
  have hbs : ¬ C W.heap.size := fun h => by have := HCW.out _ h; omega
  have HBS := Lib.hid hbs
  have HC0 := Lib.hid ((hB1.block Bh hBh').trans hbox')
  have HC2 := Lib.hid (hB1.cell (p := ⟨g, 2, none⟩) hg' |>.trans g2)
  clear hbs hB1 h0 hbox' hbc g2 g4 g5
  generalize ((W.alloc (.cells #[.slice A n1 ca, .slice B n2 cb] 24)).drew) = W1 at bx h01 hk1 bz HC0 HC2 ⊢
  generalize W.heap.size = bs at bx bz HBS HCW HJ ⊢
  have HBX := Lib.hid bx
  have HK1 := Lib.hid hk1
  clear bx hk1
  gi_wp2
  gi_loopw [20] (fun i wr => ∃ (z : Int) (k : Nat), i = .int .i64 z ∧ (z = 2 ∧ k = 2 ∨ z = 0 ∧ k = 0 ∨ z = 1 ∧ k = 1) ∧ Hid (J (preK red live quar k) wr) ∧ Hid (KpG w0.heap.size C g W1 wr)) (fun i _ => 2 - (intOf i).toNat)
  case atStart => exact ⟨0, 0, rfl, .inr (.inl ⟨rfl, rfl⟩), h01, KpG.refl _ _ _ _⟩
  case round =>
    clear h01
    obtain ⟨z, k, rfl, hk, HJs, HK⟩ := hrel
    have hbx := HK.out.c.same _ _ _ _ HBS.out (.inl (by decide)) HBX.out
    have hbs1 : wr.cell? ⟨bs, 0, none⟩ = some (.slice A n1 ca) := blk_cell hbx 0
    have hbs2 : wr.cell? ⟨bs, 1, none⟩ = some (.slice B n2 cb) := blk_cell hbx 1
    clear hbx
    have hsz := HK.out.c.size
    rcases hk with ⟨rfl, rfl⟩ | hk01
    · gi_wp2
      go_end0
      exact ⟨⟨_, rfl⟩, .inl ⟨_, rfl, HJs.out⟩⟩
    · rcases hk01 with ⟨rfl, rfl⟩ | ⟨rfl, rfl⟩
      · gi_wp2_with fail
        obtain ⟨wo, rfl⟩ : ∃ wo : World, wo = wr := ⟨_, rfl⟩
        gi_loopw [27] (fun s wr => ∃ i : Nat, i ≤ n1 ∧ s = .int .i64 i ∧ Hid (J ([] ++ itemsFrom red false 0 (live.take i)) wr) ∧ Hid (KpG w0.heap.size C g W1 wr)) (fun s _ => n1 - (intOf s).toNat)
        case atStart => exact ⟨0, Nat.zero_le _, rfl, (by simpa [preK, itemsFrom] using HJs.out : J ([] ++ itemsFrom red false 0 (live.take 0)) wo), HK.out⟩
        case round =>
          clear HJs HK hbs1 hbs2 hsz
          obtain ⟨i, hi, rfl, HJi, HKi⟩ := hrel
          have hsz := HKi.out.c.size
          have HC0' := Lib.hid (show wr.cell? ⟨Bh, 0, none⟩ = some (.pointer (some ⟨g, 0, none⟩)) from blk_cell (HKi.out.c.same _ _ _ _ HNB.out (.inl (by decide)) HC0.out) 0)
          have HC2' := Lib.hid (HKi.out.h 2 (by omega) _ HC2.out)
          by_cases hlt : i < n1
          · have hil : i < live.length := by rw [HN1.out]; exact hlt
            obtain ⟨b, off, rfl, hnC, hb0, hl⟩ := HL.out.resolve_left (by rintro rfl; simp at hil)
            have hl2 := (HK1.out.trans HKi.out).c.lies hnC hb0 hl
            have hbl := hl2.1
            obtain ⟨l0, l1, l2⟩ := hl2.at3 i hil
            have htk := itemsFrom_take red false live i hil
            have hpre : ([] ++ itemsFrom red false 0 (live.take (i + 1))) <+: items red live quar := by rw [List.nil_append]; exact (itemsFrom_prefix red false 0 live (i + 1)).trans (List.prefix_append _ _)
            generalize hy : live[i]! = y at l0 l1 l2 htk
            rw [htk, ← List.append_assoc] at hpre
            have HP := Lib.hid hpre
            have HT := Lib.hid htk
            clear hl hl2 hnC hb0 hy htk hpre hil
            have c0 := HC0'.out
            have hBhw : Bh < wr.heap.size := World.block_lt_of_cell? _ _ c0
            have c2 := HC2'.out
            have hgw : g < wr.heap.size := World.block_lt_of_cell? _ _ c2
            gi_wp2_with fail
            have hb1 := below_alloc1 wr (.cells #[.int .u32 y.pos, .int .i64 y.size, .int .i64 y.born] 38)
            have ct := c101 y red g (wr.alloc (.cells #[.int .u32 y.pos, .int .i64 y.size, .int .i64 y.born] 38)) (by rw [(below_alloc1 wr _).cell (p := ⟨g, 2, none⟩) hgw]; exact c2) (by rw [World.size_alloc]; omega)
            refine (callsIn_wide.2 ct).mono ?_
            rintro e w' ⟨rfl, hb2⟩
            have hb3 : Below wr.heap.size wr w' := hb1.trans (hb2.mono (by simp))
            have hb4 : Below wr.heap.size wr (w'.alloc (.cells (encE (mkE red false i y)).toArray 115)) := hb3.alloc hb3.size _
            have hJ2 := HJ.out _ wr _ none HJi.out (grown_none hb4) (by simp)
            obtain ⟨fn, tmps, assign, body, hyy, hR⟩ := HY.out _ (mkE red false i y) _ hJ2 (by have h := HP.out.length_le; rw [List.length_append] at h; simp only [List.length_cons, List.length_nil] at h; omega)
            have HKS := Lib.hid (KpG.below (b0 := w0.heap.size) (C := C) hb4 hgw)
            have hz := hb3.size
            clear hb1 hb2 hb3 hb4 hJ2 ct l0 l1 l2 c0 c2
            simp only [encE, mkE, takenF] at hyy hR HKS ⊢
            gi_wp2
            refine hR.mono ?_
            rintro e W' (⟨rfl, hJ3, hk3⟩ | ⟨rfl, hJx3⟩)
            · have HK3 := Lib.hid hk3
              have HJ3 := Lib.hid hJ3
              clear hk3 hJ3 hR hyy
              gi_wp2
              go_roundw
              case rel => exact ⟨i + 1, by omega, by go_num, by rw [HT.out, ← List.append_assoc]; exact HJ3.out, HKi.out.trans (HKS.out.trans HK3.out)⟩
              case measure => simp [intOf]; omega
            · have HJx := Lib.hid hJx3
              clear hJx3 hR hyy
              gi_wp2
              refine bodyPost_ret (results_none rfl _ _ _) rfl ?_
              exact ⟨⟨_, rfl⟩, .inr ⟨_, HP.out, HJx.out⟩⟩
          · obtain rfl : i = n1 := by omega
            have hJe := HJi.out
            rw [List.take_of_length_le (by rw [HN1.out]; exact Nat.le_refl _)] at hJe
            have HJe := Lib.hid hJe
            clear hJe HC0' HC2'
            gi_wp2
            go_roundw
            case rel => exact ⟨0 + 1, 0 + 1, rfl, .inr (.inr ⟨rfl, rfl⟩), (by simpa [preK, items] using HJe.out : J (preK red live quar (0 + 1)) wr), HKi.out⟩
            case measure => simp [intOf]
      · gi_wp2_with fail
        obtain ⟨wo, rfl⟩ : ∃ wo : World, wo = wr := ⟨_, rfl⟩
        gi_loopw [27] (fun s wr => ∃ i : Nat, i ≤ n2 ∧ s = .int .i64 i ∧ Hid (J (itemsFrom red false 0 live ++ itemsFrom red true 0 (quar.take i)) wr) ∧ Hid (KpG w0.heap.size C g W1 wr)) (fun s _ => n2 - (intOf s).toNat)
        case atStart => exact ⟨0, Nat.zero_le _, rfl, (by simpa [preK, itemsFrom] using HJs.out : J (itemsFrom red false 0 live ++ itemsFrom red true 0 (quar.take 0)) wo), HK.out⟩
        case round =>
          clear HJs HK hbs1 hbs2 hsz
          obtain ⟨i, hi, rfl, HJi, HKi⟩ := hrel
          have hsz := HKi.out.c.size
          have HC0' := Lib.hid (show wr.cell? ⟨Bh, 0, none⟩ = some (.pointer (some ⟨g, 0, none⟩)) from blk_cell (HKi.out.c.same _ _ _ _ HNB.out (.inl (by decide)) HC0.out) 0)
          have HC2' := Lib.hid (HKi.out.h 2 (by omega) _ HC2.out)
          by_cases hlt : i < n2
          · have hil : i < quar.length := by rw [HN2.out]; exact hlt
            obtain ⟨b, off, rfl, hnC, hb0, hl⟩ := HQ.out.resolve_left (by rintro rfl; simp at hil)
            have hl2 := (HK1.out.trans HKi.out).c.lies hnC hb0 hl
            have hbl := hl2.1
            obtain ⟨l0, l1, l2⟩ := hl2.at3 i hil
            have htk := itemsFrom_take red true quar i hil
            have hpre : (itemsFrom red false 0 live ++ itemsFrom red true 0 (quar.take (i + 1))) <+: items red live quar := (List.prefix_append_right_inj _).2 (itemsFrom_prefix red true 0 quar (i + 1))
            generalize hy : quar[i]! = y at l0 l1 l2 htk
            rw [htk, ← List.append_assoc] at hpre
            have HP := Lib.hid hpre
            have HT := Lib.hid htk
            clear hl hl2 hnC hb0 hy htk hpre hil
            have c0 := HC0'.out
            have hBhw : Bh < wr.heap.size := World.block_lt_of_cell? _ _ c0
            have c2 := HC2'.out
            have hgw : g < wr.heap.size := World.block_lt_of_cell? _ _ c2
            gi_wp2_with fail
            have hb1 := below_alloc1 wr (.cells #[.int .u32 y.pos, .int .i64 y.size, .int .i64 y.born] 38)
            have ct := c101 y red g (wr.alloc (.cells #[.int .u32 y.pos, .int .i64 y.size, .int .i64 y.born] 38)) (by rw [(below_alloc1 wr _).cell (p := ⟨g, 2, none⟩) hgw]; exact c2) (by rw [World.size_alloc]; omega)
            refine (callsIn_wide.2 ct).mono ?_
            rintro e w' ⟨rfl, hb2⟩
            have hb3 : Below wr.heap.size wr w' := hb1.trans (hb2.mono (by simp))
            have hb4 : Below wr.heap.size wr (w'.alloc (.cells (encE (mkE red true i y)).toArray 115)) := hb3.alloc hb3.size _
            have hJ2 := HJ.out _ wr _ none HJi.out (grown_none hb4) (by simp)
            obtain ⟨fn, tmps, assign, body, hyy, hR⟩ := HY.out _ (mkE red true i y) _ hJ2 (by have h := HP.out.length_le; rw [List.length_append] at h; simp only [List.length_cons, List.length_nil] at h; omega)
            have HKS := Lib.hid (KpG.below (b0 := w0.heap.size) (C := C) hb4 hgw)
            have hz := hb3.size
            clear hb1 hb2 hb3 hb4 hJ2 ct l0 l1 l2 c0 c2
            simp only [encE, mkE, takenF] at hyy hR HKS ⊢
            gi_wp2
            refine hR.mono ?_
            rintro e W' (⟨rfl, hJ3, hk3⟩ | ⟨rfl, hJx3⟩)
            · have HK3 := Lib.hid hk3
              have HJ3 := Lib.hid hJ3
              clear hk3 hJ3 hR hyy
              gi_wp2
              go_roundw
              case rel => exact ⟨i + 1, by omega, by go_num, by rw [HT.out, ← List.append_assoc]; exact HJ3.out, HKi.out.trans (HKS.out.trans HK3.out)⟩
              case measure => simp [intOf]; omega
            · have HJx := Lib.hid hJx3
              clear hJx3 hR hyy
              gi_wp2
              refine bodyPost_ret (results_none rfl _ _ _) rfl ?_
              exact ⟨⟨_, rfl⟩, .inr ⟨_, HP.out, HJx.out⟩⟩
          · obtain rfl : i = n2 := by omega
            have hJe := HJi.out
            rw [List.take_of_length_le (by rw [HN2.out]; exact Nat.le_refl _)] at hJe
            have HJe := Lib.hid hJe
            clear hJe HC0' HC2'
            gi_wp2
            go_roundw
            case rel => exact ⟨1 + 1, 1 + 1, rfl, .inl ⟨rfl, rfl⟩, (by simpa [preK, items] using HJe.out : J (preK red live quar (1 + 1)) wr), HKi.out⟩
            case measure => simp [intOf]
end Go.Proofs.Ytbhbjcgbhklieaa
