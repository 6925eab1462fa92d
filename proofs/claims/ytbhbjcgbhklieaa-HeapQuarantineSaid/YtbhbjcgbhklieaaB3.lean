/- the map of all births in opened: what a look-up and a store do. -/
import Derived.Test.YtbhbjcgbhklieaaA8
import Derived.Maps.OwnIn
namespace Go.Proofs.Ytbhbjcgbhklieaa
open Go.RowKit Go.Shelf

/-- the entries: the keys bs, each with true. -/
def SeenE (es : List MapEntry) (bs : List Int) : Prop := es.map (·.key) = bs.map (Value.int .i64) ∧ ∀ e ∈ es, e.val = .bool true

theorem SeenE.nil : SeenE [] [] := ⟨rfl, fun _ h => by cases h⟩
theorem SeenE.snoc {es : List MapEntry} {bs : List Int} (h : SeenE es bs) (b : Int) (k : Nat) : SeenE (es ++ [{ key := .int .i64 b, val := .bool true, born := k }]) (bs ++ [b]) := by
  refine ⟨?_, fun e he => ?_⟩
  · simp [h.1]
  rcases List.mem_append.1 he with h1 | h1
  · exact h.2 e h1
  · rw [List.mem_singleton.1 h1]

theorem findNow_seen (b : Int) : ∀ (es : List MapEntry) (bs : List Int) (i : Nat), SeenE es bs →
    (b ∈ bs → ∃ j, Instr.findNow (.int .i64) (.int .i64 b) es i = some (some (j, .bool true))) ∧ (b ∉ bs → Instr.findNow (.int .i64) (.int .i64 b) es i = some none)
  | [], [], i, _ => ⟨fun h => (by cases h), fun _ => rfl⟩
  | [], _ :: _, i, h => by have := h.1; simp at this
  | _ :: _, [], i, h => by have := h.1; simp at this
  | e :: es, b' :: bs, i, h => by
    have h1 := h.1
    simp at h1
    have ih := findNow_seen b es bs (i + 1) ⟨h1.2, fun e he => h.2 e (List.mem_cons_of_mem _ he)⟩
    have hv := h.2 e (List.mem_cons_self ..)
    by_cases hb : b = b'
    · subst hb
      exact ⟨fun _ => ⟨i, by simp [Instr.findNow, Instr.sameNow, h1.1, hv]⟩, fun hn => by simp at hn⟩
    · refine ⟨fun hm => ?_, fun hm => ?_⟩
      · obtain ⟨j, hj⟩ := ih.1 (by simpa [hb] using hm)
        exact ⟨j, by simp [Instr.findNow, Instr.sameNow, h1.1, show (b == b') = false from by simpa using hb, hj]⟩
      · have := ih.2 (by simp at hm; exact hm.2)
        simp [Instr.findNow, Instr.sameNow, h1.1, show (b == b') = false from by simpa using hb, this]

theorem check_seen (e : Bool) (b : Int) (W : World) : (Instr.checkKey e 10000 3 (.int .i64 b)).run Try.prog W = .ok () W := by
  have hk : Try.prog.underlying 3 = some (.int .i64) := by kernel_rfl
  unfold Instr.checkKey
  simp [run_underlying hk, Result.andThen]

theorem find_seen (b : Int) {es : List MapEntry} {bs : List Int} (hs : SeenE es bs) (W : World) :
    (b ∈ bs → ∃ j, (Instr.findKey 3 (.int .i64 b) es).run Try.prog W = .ok (some (j, .bool true)) W) ∧ (b ∉ bs → (Instr.findKey 3 (.int .i64 b) es).run Try.prog W = .ok none W) := by
  have hk : Try.prog.underlying 3 = some (.int .i64) := by kernel_rfl
  obtain ⟨h1, h2⟩ := findNow_seen b es bs 0 hs
  refine ⟨fun h => ?_, fun h => ?_⟩
  · obtain ⟨j, hj⟩ := h1 h
    exact ⟨j, by simp [Instr.findKey, run_underlying hk, hj, Result.andThen]⟩
  · simp [Instr.findKey, run_underlying hk, h2 h, Result.andThen]

theorem run_lookup_seen (b : Int) {es : Array MapEntry} {bs : List Int} {clk bm : Nat} (W : World) (hb : W.heap[bm]? = some (.map es clk)) (hs : SeenE es.toList bs) :
    (Instr.lookup 124 (.map (some bm)) (.int .i64 b) false).run Try.prog W = .ok (.bool (decide (b ∈ bs))) W := by
  have hu : Try.prog.underlying 124 = some (.map 3 4) := by kernel_rfl
  have hz : (zeroValue 4).run Try.prog W = .ok (.bool false) W := by kernel_rfl
  obtain ⟨h1, h2⟩ := find_seen b hs W
  by_cases hm : b ∈ bs
  · obtain ⟨j, hj⟩ := h1 hm
    simp [Instr.lookup, run_underlying hu, MapKept.run_getObj_map hb, check_seen, hj, Result.andThen, hm]
  · simp [Instr.lookup, run_underlying hu, MapKept.run_getObj_map hb, check_seen, h2 hm, Result.andThen, hm, hz]

theorem run_update_seen (b : Int) {es : Array MapEntry} {bs : List Int} {clk bm : Nat} (W : World) (hb : W.heap[bm]? = some (.map es clk)) (hs : SeenE es.toList bs) (hm : b ∉ bs) :
    (Instr.mapUpdate 124 (.map (some bm)) (.int .i64 b) (.bool true)).run Try.prog W = .ok () (W.putObj bm (.map (es.push { key := .int .i64 b, val := .bool true, born := clk }) (clk + 1))) := by
  have hu : Try.prog.underlying 124 = some (.map 3 4) := by kernel_rfl
  have hj := (find_seen b hs W).2 hm
  simp [Instr.mapUpdate, run_underlying hu, MapKept.run_getObj_map hb, check_seen, hj, MapKept.run_setObj_map _ hb, Result.andThen, World.putObj]
end Go.Proofs.Ytbhbjcgbhklieaa
