/- The arguments of a row, opened: lists of ints, of calls. -/
import Derived.Test.YtbhbjcgbhklieaaR2
namespace Go.Proofs.Ytbhbjcgbhklieaa
open Go.RowKit Go.Shelf Go.ChangeShapes Go.WideShapes Go.Deep

section
variable {H : Type} {enc : TypeId × Value → H} {W : World} {base : Nat}

set_option maxRecDepth 100000 in
theorem open_list {α : Type} [Inhabited α] (ec : α → List Value) (P : α → Prop) (k : Nat) (hk : ∀ x, (ec x).length = k) (h0k : 0 < k) {t el : TypeId} (ht : Try.prog.underlying t = some (.slice el)) (hC : Try.prog.cellsOf el = k)
    (hel : ∀ fuel cs y, DataW.trod enc Try.prog W 0 (fun _ => true) true fuel el cs = some y → cs.length = k → ∃ x, cs = ec x ∧ P x)
    {fuel : Nat} {v : Value} {x : DataW H × List MemPlace} (h : DataW.trod enc Try.prog W 0 (fun _ => true) true fuel t [v] = some x) (hv : Cell.okWide Try.prog W .any base t v) :
    ∃ zs : List α, Sl k ec W v zs ∧ (∀ p ∈ zs, P p) ∧ SlShape v ∧ zs.length ≤ 9223372036854775807 := by
  have hsh : SlShape v := by
    intro A n c e
    subst e
    simp only [Cell.okWide, ht, Cell.ok] at hv
    obtain ⟨_, _, _, hs, _⟩ := hv
    exact ⟨A.block, A.off, by cases A; simp at hs; subst hs; rfl⟩
  rcases open_slice ht h with ⟨h0, _⟩ | ⟨a, len, cap, m, n, D, Pl, hcs, _, hl, hm, hmm, _, hi⟩
  · simp only [List.cons.injEq, and_true] at h0
    subst h0
    exact ⟨[], ⟨none, 0, rfl, Nat.le_refl _, .inl rfl⟩, (fun _ hp => by cases hp), hsh, by simp⟩
  · simp only [List.cons.injEq, and_true] at hcs
    subst hcs
    obtain ⟨b, off, rfl⟩ := hsh a len cap rfl
    simp only [if_true] at hmm
    have hp : ∀ i, i < len → ∃ p : α, P p ∧ b < W.heap.size ∧ ∀ j u, (ec p)[j]? = some u → W.cell? ⟨b, off + i * k + j, none⟩ = some u := by
      intro i hil
      obtain ⟨cs', hc, hti⟩ := hi i (by omega)
      rw [hC] at hc
      obtain ⟨_, hlen, hcell⟩ := World.cells?_some hc
      obtain ⟨p, rfl, hP⟩ := hel _ _ _ hti hlen
      refine ⟨p, hP, ?_, fun j u hu => ?_⟩
      · have g0 := hcell 0 h0k
        obtain ⟨u0, hu0⟩ : ∃ u, (ec p)[0]? = some u := ⟨_, List.getElem?_eq_getElem (by rw [hk]; exact h0k)⟩
        rw [hu0] at g0
        have := cell_lt g0
        simpa [addr_add] using this
      · have hj : j < k := by rw [← hk p]; exact (List.getElem?_eq_some_iff.1 hu).1
        have g := hcell j hj
        rw [hu] at g
        simpa [addr_add] using g
    let f : Nat → α := fun i => if h : i < len then (hp i h).choose else default
    have hfs : ∀ i (h : i < len), f i = (hp i h).choose := fun i h => by simp [f, h]
    have hlen : len ≤ 9223372036854775807 := by
      simp only [Cell.okWide, ht, Cell.ok, IntKind.max, IntKind.signed, IntKind.bits] at hv
      have := hv.1; have := hv.2.1; simp at *; omega
    refine ⟨(List.range len).map f, ⟨some ⟨b, off, none⟩, cap, by simp, by simpa using hl, ?_⟩, ?_, hsh, by simpa using hlen⟩
    · cases len with
      | zero => exact .inl rfl
      | succ q =>
        refine .inr ⟨b, off, rfl, ⟨(hp 0 (by omega)).choose_spec.2.1, fun j hj i u hu => ?_⟩⟩
        simp only [List.length_map, List.length_range] at hj
        rw [getElem!_pos _ j (by simpa using hj)] at hu
        simp only [List.getElem_map, List.getElem_range, hfs j hj] at hu
        exact (hp j hj).choose_spec.2.2 i u hu
    · intro p hpm
      obtain ⟨i, hi', rfl⟩ := List.mem_map.1 hpm
      have hi'' : i < len := by simpa using hi'
      rw [hfs i hi'']
      exact (hp i hi'').choose_spec.1

def encI (z : Int) : List Value := [.int .i64 z]
/-- a list of ints, as an argument. -/
structure IntsIn (W : World) (v : Value) (zs : List Int) : Prop where
  sl : Sl 1 encI W v zs
  each : ∀ z ∈ zs, InI z
  sh : SlShape v
  len : zs.length ≤ 9223372036854775807

set_option maxRecDepth 100000 in
theorem open_intsV {v : Value} {d : DataW H} {p : List MemPlace} (hv : Value.okWide Try.prog W .any base 70 v) (h : DataW.Trod enc Try.prog W 0 (fun _ => true) true 70 v d p) :
    ∃ zs : List Int, IntsIn W v zs := by
  have u : Try.prog.underlying 70 = some (.slice 3) := Try.underlying70
  simp only [Value.okWide, u] at hv
  obtain ⟨fuel, hf0⟩ := h
  rw [show v.cells.toList = [v] by cases v <;> first | rfl | (simp [Cell.okWide, u, Cell.ok] at hv)] at hf0
  obtain ⟨zs, h1, h2, h3, h4⟩ := open_list encI InI 1 (fun _ => rfl) (by omega) u (by kernel_rfl) (fun fuel cs y ht hl => by
    match cs, hl with
    | [c0], _ =>
      obtain ⟨z, rfl, w⟩ := trod_cell_int Try.underlying3 ht
      exact ⟨z, rfl, wf_i64 w⟩) hf0 hv
  exact ⟨zs, ⟨h1, h2, h3, h4⟩⟩

structure OpV where
  kind : Int
  n : Int
  i : Int
  pos : Int
  wild : Bool
deriving DecidableEq, Inhabited
def encO (o : OpV) : List Value := [.int .i64 o.kind, .int .i64 o.n, .int .i64 o.i, .int .u32 o.pos, .bool o.wild]
def WfO (o : OpV) : Prop := InI o.kind ∧ InI o.n ∧ InI o.i ∧ 0 ≤ o.pos ∧ o.pos < 4294967296
/-- a list of calls, as an argument. -/
structure OpsIn (W : World) (v : Value) (os : List OpV) : Prop where
  sl : Sl 5 encO W v os
  each : ∀ o ∈ os, WfO o
  sh : SlShape v
  len : os.length ≤ 9223372036854775807

set_option maxRecDepth 100000 in
theorem open_ops {v : Value} {d : DataW H} {p : List MemPlace} (hv : Value.okWide Try.prog W .any base 72 v) (h : DataW.Trod enc Try.prog W 0 (fun _ => true) true 72 v d p) :
    ∃ os : List OpV, OpsIn W v os := by
  have u : Try.prog.underlying 72 = some (.slice 29) := Try.underlying72
  have hC2 : Try.prog.cellsOf 3 = 1 := by kernel_rfl
  have hC3 : Try.prog.cellsOf 27 = 1 := by kernel_rfl
  have hC4 : Try.prog.cellsOf 4 = 1 := by kernel_rfl
  simp only [Value.okWide, u] at hv
  obtain ⟨fuel, hf0⟩ := h
  rw [show v.cells.toList = [v] by cases v <;> first | rfl | (simp [Cell.okWide, u, Cell.ok] at hv)] at hf0
  obtain ⟨zs, h1, h2, h3, h4⟩ := open_list encO WfO 5 (fun _ => rfl) (by omega) u (by kernel_rfl) (fun fuel cs y ht hl => by
    obtain ⟨xs, n', _, _, hlen, hxl, hf⟩ := DataW.trod_struct Try.underlying29 ht
    match cs, hl with
    | [c0, c1, c2, c3, c4], _ =>
      match xs, hxl with
      | [y0, y1, y2, y3, y4], _ =>
        have f0 := hf 0 _ rfl
        have f1 := hf 1 _ rfl
        have f2 := hf 2 _ rfl
        have f3 := hf 3 _ rfl
        have f4 := hf 4 _ rfl
        change DataW.trod enc Try.prog W 0 (fun _ => true) true n' 3 ((List.drop 0 [c0, c1, c2, c3, c4]).take (Try.prog.cellsOf 3)) = some y0 at f0
        change DataW.trod enc Try.prog W 0 (fun _ => true) true n' 3 ((List.drop 1 [c0, c1, c2, c3, c4]).take (Try.prog.cellsOf 3)) = some y1 at f1
        change DataW.trod enc Try.prog W 0 (fun _ => true) true n' 3 ((List.drop 2 [c0, c1, c2, c3, c4]).take (Try.prog.cellsOf 3)) = some y2 at f2
        change DataW.trod enc Try.prog W 0 (fun _ => true) true n' 27 ((List.drop 3 [c0, c1, c2, c3, c4]).take (Try.prog.cellsOf 27)) = some y3 at f3
        change DataW.trod enc Try.prog W 0 (fun _ => true) true n' 4 ((List.drop 4 [c0, c1, c2, c3, c4]).take (Try.prog.cellsOf 4)) = some y4 at f4
        simp only [hC2, hC3, hC4, List.drop_succ_cons, List.drop_zero, List.take_succ_cons, List.take_zero] at f0 f1 f2 f3 f4
        obtain ⟨z0, rfl, w0⟩ := trod_cell_int Try.underlying3 f0
        obtain ⟨z1, rfl, w1⟩ := trod_cell_int Try.underlying3 f1
        obtain ⟨z2, rfl, w2⟩ := trod_cell_int Try.underlying3 f2
        obtain ⟨z3, rfl, w3⟩ := trod_cell_int Try.underlying27 f3
        obtain ⟨b, hb, _⟩ := DataW.trod_bool Try.underlying4 f4
        simp only [List.cons.injEq, and_true] at hb
        subst hb
        exact ⟨⟨z0, z1, z2, z3, b⟩, rfl, wf_i64 w0, wf_i64 w1, wf_i64 w2, wf_u32 w3⟩) hf0 hv
  exact ⟨zs, ⟨h1, h2, h3, h4⟩⟩
end
end Go.Proofs.Ytbhbjcgbhklieaa
