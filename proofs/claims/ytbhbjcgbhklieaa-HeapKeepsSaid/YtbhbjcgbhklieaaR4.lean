/- The arguments of a row, opened: the lengths of a heap's lists, by the form's own reach. -/
import Derived.Test.YtbhbjcgbhklieaaR2
import Derived.SizedLaws
namespace Go.Proofs.Ytbhbjcgbhklieaa
open Go.RowKit Go.Shelf Go.ChangeShapes Go.WideShapes Go.Deep

section
variable {H : Type} {enc : TypeId × Value → H} {W : World}

theorem size_slice {fuel n k : Nat} {A : Option Addr} {x : DataW H × List MemPlace} (h : DataW.trod enc Try.prog W 0 (fun _ => true) true fuel 24 [.slice A n k] = some x) (hs : ∀ m ∈ x.1.weights Try.prog 24, m ≤ reachBytes) : n ≤ 8796093022208 := by
  rcases open_slice Try.underlying24 h with ⟨h0, _⟩ | ⟨a, len, cap, m, n', D, Pl, hcs, _, _, _, _, rfl, _⟩
  · cases h0; omega
  · cases hcs
    have hB : Try.prog.bytesOf 38 = 24 := by kernel_rfl
    have := hs ((((List.range n).map D).length + ((List.range (m - n)).map fun j => D (n + j)).length) * Try.prog.bytesOf 38) (by simp [DataW.weights, Try.underlying24])
    rw [hB] at this
    simp only [List.length_map, List.length_range] at this
    have := reachBytes_lt
    omega

theorem size_heap {c : Conf} {lv qv : Value} {gi : Int} {live quar : List Piece} {d : DataW H} {p : List MemPlace} (h : DataW.Trod enc Try.prog W 0 (fun _ => true) true 26 (hAgg c lv qv gi) d p) (hi : HeapIn W c lv qv gi live quar) (hs : ∀ m ∈ d.weights Try.prog 26, m ≤ reachBytes) : live.length ≤ 8796093022208 ∧ quar.length ≤ 8796093022208 := by
  have hC3 : Try.prog.cellsOf 23 = 4 := by kernel_rfl
  have hC4 : Try.prog.cellsOf 24 = 1 := by kernel_rfl
  have hC2 : Try.prog.cellsOf 3 = 1 := by kernel_rfl
  obtain ⟨fuel, hf0⟩ := h
  obtain ⟨xs, n', _, hd, hlen, hxl, hf⟩ := DataW.trod_struct Try.underlying26 hf0
  obtain ⟨A, k, rfl, _, _⟩ := id hi.hl
  obtain ⟨B, m, rfl, _, _⟩ := id hi.hq
  match xs, hxl with
  | [y0, y1, y2, y3], _ =>
    have f1 := hf 1 _ rfl
    change DataW.trod enc Try.prog W 0 (fun _ => true) true n' 24 ((List.drop 4 [.int .i64 c.page, .int .i64 c.n, .int .i64 c.red, .int .i64 c.quarantine, .slice A live.length k, .slice B quar.length m, .int .i64 gi]).take (Try.prog.cellsOf 24)) = some y1 at f1
    have f2 := hf 2 _ rfl
    change DataW.trod enc Try.prog W 0 (fun _ => true) true n' 24 ((List.drop 5 [.int .i64 c.page, .int .i64 c.n, .int .i64 c.red, .int .i64 c.quarantine, .slice A live.length k, .slice B quar.length m, .int .i64 gi]).take (Try.prog.cellsOf 24)) = some y2 at f2
    simp only [hC4, List.drop_succ_cons, List.drop_zero, List.take_succ_cons, List.take_zero] at f1 f2
    obtain ⟨rfl, _⟩ := Prod.mk.inj hd
    refine ⟨size_slice f1 fun z hz => hs z ?_, size_slice f2 fun z hz => hs z ?_⟩
    · simp only [DataW.weights, Try.underlying26]
      exact DataW.weights_mem_each (j := 1) (t := 24) (d := y1.1) rfl rfl z hz
    · simp only [DataW.weights, Try.underlying26]
      exact DataW.weights_mem_each (j := 2) (t := 24) (d := y2.1) rfl rfl z hz
end
end Go.Proofs.Ytbhbjcgbhklieaa
