/- The arguments of a row, opened: a call and a configuration by value. -/
import Derived.Test.YtbhbjcgbhklieaaR1
namespace Go.Proofs.Ytbhbjcgbhklieaa
open Go.RowKit Go.Shelf Go.ChangeShapes Go.WideShapes Go.Deep

section
variable {H : Type} {enc : TypeId × Value → H} {W : World} {base : Nat}

set_option maxRecDepth 100000 in
theorem open_op {v : Value} {d : DataW H} {p : List MemPlace} (hv : Value.okWide Try.prog W .any base 29 v) (h : DataW.Trod enc Try.prog W 0 (fun _ => true) true 29 v d p) :
    ∃ (ok oN oI oA : Int) (oW : Bool), v = .agg #[.int .i64 ok, .int .i64 oN, .int .i64 oI, .int .u32 oA, .bool oW] ∧ InI ok ∧ InI oN ∧ InI oI ∧ 0 ≤ oA ∧ oA < 4294967296 := by
  have hC : Try.prog.cellsOf 29 = 5 := by kernel_rfl
  have hC2 : Try.prog.cellsOf 3 = 1 := by kernel_rfl
  have hC3 : Try.prog.cellsOf 27 = 1 := by kernel_rfl
  have hC4 : Try.prog.cellsOf 4 = 1 := by kernel_rfl
  simp only [Value.okWide, Try.underlying29] at hv
  obtain ⟨cs, rfl, _, _⟩ := hv
  obtain ⟨fuel, hf0⟩ := h
  obtain ⟨xs, n', _, _, hlen, hxl, hf⟩ := DataW.trod_struct Try.underlying29 hf0
  obtain ⟨l⟩ := cs
  simp only [Value.cells] at hlen hf
  rw [hC] at hlen
  match l, hlen with
  | [c0, c1, c2, c3, c4], _ =>
    match xs, hxl with
    | [y0, y1, y2, y3, y4], _ =>
      have f0 := hf 0 _ rfl
      have f1 := hf 1 _ rfl
      have f2 := hf 2 _ rfl
      have f3 := hf 3 _ rfl
      have f4 := hf 4 _ rfl
      change DataW.trod enc Try.prog W 0 (fun _ => true) true n' 3 ((List.drop 0 [c0, c1, c2, c3, c4]).take (Try.prog.cellsOf 3)) = some y0 at f0
      change DataW.trod enc Try.prog W 0 (fun _ => true) true n' 3 ((List.drop 1 [c0, c1, c2, c3, c4]).take (Try.prog.cellsOf 3)) = some y1 at f1
      change DataW.trod enc Try.prog W 0 (fun _ => true) true n' 3 ((List.drop 2 [c0, c1, c2, c3, c4]).take (Try.prog.cellsOf 3)) = some y2 at f2
      change DataW.trod enc Try.prog W 0 (fun _ => true) true n' 27 ((List.drop 3 [c0, c1, c2, c3, c4]).take (Try.prog.cellsOf 27)) = some y3 at f3
      change DataW.trod enc Try.prog W 0 (fun _ => true) true n' 4 ((List.drop 4 [c0, c1, c2, c3, c4]).take (Try.prog.cellsOf 4)) = some y4 at f4
      simp only [hC2, hC3, hC4, List.drop_succ_cons, List.drop_zero, List.take_succ_cons, List.take_zero] at f0 f1 f2 f3 f4
      obtain ⟨z0, rfl, w0⟩ := trod_cell_int Try.underlying3 f0
      obtain ⟨z1, rfl, w1⟩ := trod_cell_int Try.underlying3 f1
      obtain ⟨z2, rfl, w2⟩ := trod_cell_int Try.underlying3 f2
      obtain ⟨z3, rfl, w3⟩ := trod_cell_int Try.underlying27 f3
      obtain ⟨b, hb, _⟩ := DataW.trod_bool Try.underlying4 f4
      simp only [List.cons.injEq, and_true] at hb
      subst hb
      exact ⟨z0, z1, z2, z3, b, rfl, wf_i64 w0, wf_i64 w1, wf_i64 w2, wf_u32 w3⟩

set_option maxRecDepth 100000 in
theorem open_confV {v : Value} {d : DataW H} {p : List MemPlace} (hv : Value.okWide Try.prog W .any base 23 v) (h : DataW.Trod enc Try.prog W 0 (fun _ => true) true 23 v d p) :
    ∃ c : Conf, v = .agg #[.int .i64 c.page, .int .i64 c.n, .int .i64 c.red, .int .i64 c.quarantine] ∧ InI c.page ∧ InI c.n ∧ InI c.red ∧ InI c.quarantine := by
  simp only [Value.okWide, Try.underlying23] at hv
  obtain ⟨cs, rfl, _, _⟩ := hv
  obtain ⟨fuel, hf0⟩ := h
  obtain ⟨c, hc, b⟩ := open_conf hf0
  obtain ⟨l⟩ := cs
  simp only [Value.cells] at hc
  subst hc
  exact ⟨c, rfl, b⟩
end
end Go.Proofs.Ytbhbjcgbhklieaa
