/- The arguments of a row, opened: a heap and a call by value. | The arguments of a row, opened: a call and a configuration by value. -/
import Derived.Test.YtbhbjcgbhklieaaE4
import Derived.Deep.Slices
import Derived.OpenShut
namespace Go.Proofs.Ytbhbjcgbhklieaa
open Go.RowKit Go.Shelf Go.ChangeShapes Go.WideShapes Go.Deep

section
variable {H : Type} {enc : TypeId × Value → H} {W : World} {base : Nat}

theorem trod_cell_int {n : Nat} {t : TypeId} {k : IntKind} {v : Value} {x : DataW H × List MemPlace} (ht : Try.prog.underlying t = some (.int k)) (h : DataW.trod enc Try.prog W 0 (fun _ => true) true n t [v] = some x) :
    ∃ z, v = .int k z ∧ (Lit.int k z).wf = true := by
  obtain ⟨z, h1, _, h2⟩ := DataW.trod_int ht h
  exact ⟨z, by simpa using h1, h2⟩
theorem addr_add (b o k : Nat) : Addr.add ⟨b, o, none⟩ k = ⟨b, o + k, none⟩ := by
  unfold Addr.add
  by_cases h : k = 0
  · rw [if_pos h, h]; rfl
  · rw [if_neg h]
theorem cell_lt {W : World} {a : Addr} {v : Value} (h : W.cell? a = some v) : a.block < W.heap.size := by
  refine Nat.lt_of_not_le fun hle => ?_
  unfold World.cell? at h
  rw [Array.getElem?_eq_none hle] at h
  cases h
theorem wf_u32 {z : Int} (h : (Lit.int .u32 z).wf = true) : 0 ≤ z ∧ z < 4294967296 := by
  simp [Lit.wf, IntKind.min, IntKind.max, IntKind.signed, IntKind.bits] at h
  omega
def InI (z : Int) : Prop := -9223372036854775808 ≤ z ∧ z ≤ 9223372036854775807
theorem wf_i64 {z : Int} (h : (Lit.int .i64 z).wf = true) : InI z := by
  simp [Lit.wf, IntKind.min, IntKind.max, IntKind.signed, IntKind.bits] at h
  unfold InI
  omega
/-- a piece whose numbers fit their kinds. -/
def WfQ (p : Piece) : Prop := WfP p ∧ InI p.size ∧ InI p.born

set_option maxRecDepth 100000 in
theorem open_pieces {fuel : Nat} {v : Value} {x : DataW H × List MemPlace} (h : DataW.trod enc Try.prog W 0 (fun _ => true) true fuel 24 [v] = some x) (hv : Cell.okWide Try.prog W .any base 24 v) :
    ∃ zs : List Piece, Sl 3 encP W v zs ∧ (∀ p ∈ zs, WfQ p) ∧ SlShape v ∧ zs.length ≤ 9223372036854775807 := by
  have hsh : SlShape v := by
    intro A n c e
    subst e
    simp only [Cell.okWide, Try.underlying24, Cell.ok] at hv
    obtain ⟨_, _, _, hs, _⟩ := hv
    exact ⟨A.block, A.off, by cases A; simp at hs; subst hs; rfl⟩
  rcases open_slice Try.underlying24 h with ⟨h0, _⟩ | ⟨a, len, cap, m, n, D, Pl, hcs, _, hl, hm, hmm, _, hi⟩
  · simp only [List.cons.injEq, and_true] at h0
    subst h0
    exact ⟨[], ⟨none, 0, rfl, Nat.le_refl _, .inl rfl⟩, (fun _ hp => by cases hp), hsh, by simp⟩
  · simp only [List.cons.injEq, and_true] at hcs
    subst hcs
    obtain ⟨b, off, rfl⟩ := hsh a len cap rfl
    simp only [if_true] at hmm
    have hC : Try.prog.cellsOf 38 = 3 := by kernel_rfl
    have hC1 : Try.prog.cellsOf 27 = 1 := by kernel_rfl
    have hC2 : Try.prog.cellsOf 3 = 1 := by kernel_rfl
    have hp : ∀ i, i < len → ∃ p : Piece, WfQ p ∧ b < W.heap.size ∧ ∀ j u, (encP p)[j]? = some u → W.cell? ⟨b, off + i * 3 + j, none⟩ = some u := by
      intro i hil
      obtain ⟨cs', hc, ht⟩ := hi i (by omega)
      rw [hC] at hc
      obtain ⟨_, hlen, hcell⟩ := World.cells?_some hc
      obtain ⟨xs, n', _, _, _, hxl, hf⟩ := DataW.trod_struct Try.underlying38 ht
      match cs', hlen with
      | [c0, c1, c2], _ =>
        match xs, hxl with
        | [y0, y1, y2], _ =>
          have f0 := hf 0 _ rfl
          have f1 := hf 1 _ rfl
          have f2 := hf 2 _ rfl
          simp only [List.getElem?_cons_succ, List.getElem?_cons_zero] at f0 f1 f2
          obtain ⟨z0, rfl, w0⟩ := trod_cell_int Try.underlying27 f0
          obtain ⟨z1, rfl, w1⟩ := trod_cell_int Try.underlying3 f1
          obtain ⟨z2, rfl, w2⟩ := trod_cell_int Try.underlying3 f2
          have g0 := hcell 0 (by omega)
          have g1 := hcell 1 (by omega)
          have g2 := hcell 2 (by omega)
          simp only [addr_add, List.getElem?_cons_succ, List.getElem?_cons_zero] at g0 g1 g2
          refine ⟨⟨z0, z1, z2⟩, ⟨wf_u32 w0, wf_i64 w1, wf_i64 w2⟩, ?_, ?_⟩
          · exact cell_lt g0
          · intro j u hu
            simp only [encP] at hu
            match j with
            | 0 => simp at hu; subst hu; exact g0
            | 1 => simp at hu; subst hu; exact g1
            | 2 => simp at hu; subst hu; exact g2
            | j + 3 => simp at hu
    let f : Nat → Piece := fun i => if h : i < len then (hp i h).choose else default
    have hfs : ∀ i (h : i < len), f i = (hp i h).choose := fun i h => by simp [f, h]
    have hlen : len ≤ 9223372036854775807 := by
      simp only [Cell.okWide, Try.underlying24, Cell.ok, IntKind.max, IntKind.signed, IntKind.bits] at hv
      have := hv.1; have := hv.2.1; simp at *; omega
    refine ⟨(List.range len).map f, ⟨some ⟨b, off, none⟩, cap, by simp, by simpa using hl, ?_⟩, ?_, hsh, by simpa using hlen⟩
    · cases len with
      | zero => exact .inl rfl
      | succ k =>
        refine .inr ⟨b, off, rfl, ⟨(hp 0 (by omega)).choose_spec.2.1, fun j hj i u hu => ?_⟩⟩
        simp only [List.length_map, List.length_range] at hj
        rw [getElem!_pos _ j (by simpa using hj)] at hu
        simp only [List.getElem_map, List.getElem_range, hfs j hj] at hu
        exact (hp j hj).choose_spec.2.2 i u hu
    · intro p hpm
      obtain ⟨i, hi', rfl⟩ := List.mem_map.1 hpm
      have hi'' : i < len := by simpa using hi'
      rw [hfs i hi'']
      exact (hp i hi'').choose_spec.1

/-- a heap whose numbers fit their kinds, as an argument. -/
structure HeapIn (W : World) (c : Conf) (lv qv : Value) (gi : Int) (live quar : List Piece) : Prop where
  hl : Sl 3 encP W lv live
  hq : Sl 3 encP W qv quar
  wl : ∀ p ∈ live, WfQ p
  wq : ∀ p ∈ quar, WfQ p
  sl : SlShape lv
  sq : SlShape qv
  cb : InI c.page ∧ InI c.n ∧ InI c.red ∧ InI c.quarantine ∧ InI gi
  nl : live.length ≤ 9223372036854775807
  nq : quar.length ≤ 9223372036854775807

set_option maxRecDepth 100000 in
theorem open_conf {fuel : Nat} {cs : List Value} {x : DataW H × List MemPlace} (h : DataW.trod enc Try.prog W 0 (fun _ => true) true fuel 23 cs = some x) :
    ∃ c : Conf, cs = [.int .i64 c.page, .int .i64 c.n, .int .i64 c.red, .int .i64 c.quarantine] ∧ InI c.page ∧ InI c.n ∧ InI c.red ∧ InI c.quarantine := by
  have hC : Try.prog.cellsOf 23 = 4 := by kernel_rfl
  have hC2 : Try.prog.cellsOf 3 = 1 := by kernel_rfl
  obtain ⟨xs, n', _, _, hlen, hxl, hf⟩ := DataW.trod_struct Try.underlying23 h
  rw [hC] at hlen
  match cs, hlen with
  | [c0, c1, c2, c3], _ =>
    match xs, hxl with
    | [y0, y1, y2, y3], _ =>
      have f0 := hf 0 _ rfl
      have f1 := hf 1 _ rfl
      have f2 := hf 2 _ rfl
      have f3 := hf 3 _ rfl
      simp only [List.getElem?_cons_succ, List.getElem?_cons_zero] at f0 f1 f2 f3
      obtain ⟨z0, rfl, w0⟩ := trod_cell_int Try.underlying3 f0
      obtain ⟨z1, rfl, w1⟩ := trod_cell_int Try.underlying3 f1
      obtain ⟨z2, rfl, w2⟩ := trod_cell_int Try.underlying3 f2
      obtain ⟨z3, rfl, w3⟩ := trod_cell_int Try.underlying3 f3
      exact ⟨⟨z0, z1, z2, z3⟩, rfl, wf_i64 w0, wf_i64 w1, wf_i64 w2, wf_i64 w3⟩

set_option maxRecDepth 100000 in
theorem open_heap {v : Value} {d : DataW H} {p : List MemPlace} (hv : Value.okWide Try.prog W .any base 26 v) (h : DataW.Trod enc Try.prog W 0 (fun _ => true) true 26 v d p) :
    ∃ (c : Conf) (lv qv : Value) (gi : Int) (live quar : List Piece), v = hAgg c lv qv gi ∧ HeapIn W c lv qv gi live quar := by
  have hC : Try.prog.cellsOf 26 = 7 := by kernel_rfl
  have hC2 : Try.prog.cellsOf 3 = 1 := by kernel_rfl
  have hC3 : Try.prog.cellsOf 23 = 4 := by kernel_rfl
  have hC4 : Try.prog.cellsOf 24 = 1 := by kernel_rfl
  have hT : Try.prog.cellTypes Try.prog.depth 26 = some [3, 3, 3, 3, 24, 24, 3] := by kernel_rfl
  simp only [Value.okWide, Try.underlying26] at hv
  obtain ⟨cs, rfl, hsz, ts, hts, _, hrow⟩ := hv
  rw [hT] at hts
  cases hts
  obtain ⟨fuel, hf0⟩ := h
  obtain ⟨xs, n', _, _, hlen, hxl, hf⟩ := DataW.trod_struct Try.underlying26 hf0
  obtain ⟨l⟩ := cs
  simp only [Value.cells] at hlen hf
  rw [hC] at hlen
  match l, hlen with
  | [c0, c1, c2, c3, c4, c5, c6], _ =>
    match xs, hxl with
    | [y0, y1, y2, y3], _ =>
      have f0 := hf 0 _ rfl
      change DataW.trod enc Try.prog W 0 (fun _ => true) true n' 23 ((List.drop 0 [c0, c1, c2, c3, c4, c5, c6]).take (Try.prog.cellsOf 23)) = some y0 at f0
      have f1 := hf 1 _ rfl
      change DataW.trod enc Try.prog W 0 (fun _ => true) true n' 24 ((List.drop 4 [c0, c1, c2, c3, c4, c5, c6]).take (Try.prog.cellsOf 24)) = some y1 at f1
      have f2 := hf 2 _ rfl
      change DataW.trod enc Try.prog W 0 (fun _ => true) true n' 24 ((List.drop 5 [c0, c1, c2, c3, c4, c5, c6]).take (Try.prog.cellsOf 24)) = some y2 at f2
      have f3 := hf 3 _ rfl
      change DataW.trod enc Try.prog W 0 (fun _ => true) true n' 3 ((List.drop 6 [c0, c1, c2, c3, c4, c5, c6]).take (Try.prog.cellsOf 3)) = some y3 at f3
      simp only [hC2, hC3, hC4, List.drop_succ_cons, List.drop_zero, List.take_succ_cons, List.take_zero] at f0 f1 f2 f3
      obtain ⟨u4, e4, r4⟩ := hrow 4 c4 rfl
      obtain ⟨u5, e5, r5⟩ := hrow 5 c5 rfl
      simp at e4 e5
      subst e4 e5
      obtain ⟨c, hc, b0, b1, b2, b3⟩ := open_conf f0
      simp only [List.cons.injEq, and_true] at hc
      obtain ⟨rfl, rfl, rfl, rfl⟩ := hc
      obtain ⟨live, a1, a2, a3, a7⟩ := open_pieces f1 r4
      obtain ⟨quar, a4, a5, a6, a8⟩ := open_pieces f2 r5
      obtain ⟨gi, rfl, wg⟩ := trod_cell_int Try.underlying3 f3
      exact ⟨c, c4, c5, gi, live, quar, rfl, ⟨a1, a4, a2, a5, a3, a6, ⟨b0, b1, b2, b3, wf_i64 wg⟩, a7, a8⟩⟩

theorem HeapIn.below {W' : World} {c : Conf} {lv qv : Value} {gi : Int} {live quar : List Piece} (h : HeapIn W c lv qv gi live quar) (hb : Below W.heap.size W W') : HeapIn W' c lv qv gi live quar := { h with hl := h.hl.below hb, hq := h.hq.below hb }
end
end Go.Proofs.Ytbhbjcgbhklieaa

namespace Go.Proofs.Ytbhbjcgbhklieaa
open Go.RowKit Go.Shelf Go.ChangeShapes Go.WideShapes Go.Deep

section
variable {H : Type} {enc : TypeId × Value → H} {W : World} {base : Nat}

set_option maxRecDepth 100000 in
theorem open_op {v : Value} {d : DataW H} {p : List MemPlace} (hv : Value.okWide Try.prog W .any base 29 v) (h : DataW.Trod enc Try.prog W 0 (fun _ => true) true 29 v d p) :
    ∃ (ok oN oI oA : Int) (oW : Bool), v = .agg #[.int .i64 ok, .int .i64 oN, .int .i64 oI, .int .u32 oA, .bool oW] ∧ InI ok ∧ InI oN ∧ InI oI ∧ 0 ≤ oA ∧ oA < 4294967296 := by
  have hC : Try.prog.cellsOf 29 = 5 := by kernel_rfl
  have hC2 : Try.prog.cellsOf 3 = 1 := by kernel_rfl
  have hC3 : Try.prog.cellsOf 27 = 1 := by kernel_rfl
  have hC4 : Try.prog.cellsOf 4 = 1 := by kernel_rfl
  simp only [Value.okWide, Try.underlying29] at hv
  obtain ⟨cs, rfl, _, _⟩ := hv
  obtain ⟨fuel, hf0⟩ := h
  obtain ⟨xs, n', _, _, hlen, hxl, hf⟩ := DataW.trod_struct Try.underlying29 hf0
  obtain ⟨l⟩ := cs
  simp only [Value.cells] at hlen hf
  rw [hC] at hlen
  match l, hlen with
  | [c0, c1, c2, c3, c4], _ =>
    match xs, hxl with
    | [y0, y1, y2, y3, y4], _ =>
      have f0 := hf 0 _ rfl
      have f1 := hf 1 _ rfl
      have f2 := hf 2 _ rfl
      have f3 := hf 3 _ rfl
      have f4 := hf 4 _ rfl
      change DataW.trod enc Try.prog W 0 (fun _ => true) true n' 3 ((List.drop 0 [c0, c1, c2, c3, c4]).take (Try.prog.cellsOf 3)) = some y0 at f0
      change DataW.trod enc Try.prog W 0 (fun _ => true) true n' 3 ((List.drop 1 [c0, c1, c2, c3, c4]).take (Try.prog.cellsOf 3)) = some y1 at f1
      change DataW.trod enc Try.prog W 0 (fun _ => true) true n' 3 ((List.drop 2 [c0, c1, c2, c3, c4]).take (Try.prog.cellsOf 3)) = some y2 at f2
      change DataW.trod enc Try.prog W 0 (fun _ => true) true n' 27 ((List.drop 3 [c0, c1, c2, c3, c4]).take (Try.prog.cellsOf 27)) = some y3 at f3
      change DataW.trod enc Try.prog W 0 (fun _ => true) true n' 4 ((List.drop 4 [c0, c1, c2, c3, c4]).take (Try.prog.cellsOf 4)) = some y4 at f4
      simp only [hC2, hC3, hC4, List.drop_succ_cons, List.drop_zero, List.take_succ_cons, List.take_zero] at f0 f1 f2 f3 f4
      obtain ⟨z0, rfl, w0⟩ := trod_cell_int Try.underlying3 f0
      obtain ⟨z1, rfl, w1⟩ := trod_cell_int Try.underlying3 f1
      obtain ⟨z2, rfl, w2⟩ := trod_cell_int Try.underlying3 f2
      obtain ⟨z3, rfl, w3⟩ := trod_cell_int Try.underlying27 f3
      obtain ⟨b, hb, _⟩ := DataW.trod_bool Try.underlying4 f4
      simp only [List.cons.injEq, and_true] at hb
      subst hb
      exact ⟨z0, z1, z2, z3, b, rfl, wf_i64 w0, wf_i64 w1, wf_i64 w2, wf_u32 w3⟩

set_option maxRecDepth 100000 in
theorem open_confV {v : Value} {d : DataW H} {p : List MemPlace} (hv : Value.okWide Try.prog W .any base 23 v) (h : DataW.Trod enc Try.prog W 0 (fun _ => true) true 23 v d p) :
    ∃ c : Conf, v = .agg #[.int .i64 c.page, .int .i64 c.n, .int .i64 c.red, .int .i64 c.quarantine] ∧ InI c.page ∧ InI c.n ∧ InI c.red ∧ InI c.quarantine := by
  simp only [Value.okWide, Try.underlying23] at hv
  obtain ⟨cs, rfl, _, _⟩ := hv
  obtain ⟨fuel, hf0⟩ := h
  obtain ⟨c, hc, b⟩ := open_conf hf0
  obtain ⟨l⟩ := cs
  simp only [Value.cells] at hc
  subst hc
  exact ⟨c, rfl, b⟩
end
end Go.Proofs.Ytbhbjcgbhklieaa
