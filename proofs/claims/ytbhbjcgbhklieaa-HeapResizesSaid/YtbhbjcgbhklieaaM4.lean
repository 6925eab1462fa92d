/- HeapResizes' closure, and ContainsFunc with it. -/
import Derived.Test.YtbhbjcgbhklieaaM3
namespace Go.Proofs.Ytbhbjcgbhklieaa
open Go.RowKit Go.Shelf

set_option maxRecDepth 100000 in
set_option maxHeartbeats 1000000 in
theorem c53 (pa pg : Nat) (old p : Piece) (lv : Value) (zs : List Piece) (w : World) (ha : w.heap[pa]? = some (.cells #[.int .u32 old.pos, .int .i64 old.size, .int .i64 old.born] 38 (0, 0))) (hg : w.cell? ⟨pg, 4, none⟩ = some lv) (lg : pg < w.heap.size) (hs : Sl 3 encP w lv zs) (hn : zs.length ≤ 100000) :
    Calls Try.prog 53 #[.agg #[.int .u32 p.pos, .int .i64 p.size, .int .i64 p.born], .pointer (some ⟨pa, 0, none⟩), .pointer (some ⟨pg, 0, none⟩)] w fun e w' => e = .returned (.bool (decide (p ≠ old) && decide (p ∉ zs))) ∧ Below w.heap.size w w' := by
  have a0 := blk_cell ha 0
  have a1 := blk_cell ha 1
  have a2 := blk_cell ha 2
  simp only [List.getElem?_toArray, List.getElem?_cons_succ, List.getElem?_cons_zero] at a0 a1 a2
  have la := blk_lt ha
  have hB : Below w.heap.size w (w.alloc (.cells #[.int .u32 p.pos, .int .i64 p.size, .int .i64 p.born] 38)) := below_alloc1 w _
  have h43 := c43 lv zs p _ (hs.below hB) hn
  have H43 := Lib.hid h43
  have HB := Lib.hid hB
  obtain ⟨A, ca, rfl, _, _⟩ := hs
  clear ha h43 hB
  by_cases hp : p = old
  · subst hp
    have hr : (decide (p ≠ p) && decide (p ∉ zs)) = false := by simp
    rw [hr]
    clear hr
    go_enter Try.func53, Try.ntmps53
    go_wp2
    go_ret
    exact ⟨rfl, HB.out⟩
  · have hr : (decide (p ≠ old) && decide (p ∉ zs)) = !decide (p ∈ zs) := by simp [hp]
    rw [hr]
    have h3 : ¬ p.pos = old.pos ∨ ¬ p.size = old.size ∨ ¬ p.born = old.born := by
      obtain ⟨x, y, z⟩ := p
      obtain ⟨x', y', z'⟩ := old
      simp only [Piece.mk.injEq] at hp
      by_cases b1 : x = x' <;> by_cases b2 : y = y' <;> by_cases b3 : z = z' <;> simp_all
    obtain ⟨E, hE⟩ : ∃ E, decide (p ∈ zs) = E := ⟨_, rfl⟩
    rw [hE]
    have H2 : Hid (Calls Try.prog 43 #[.slice A zs.length ca, .agg (encP p).toArray] (w.alloc (.cells #[.int .u32 p.pos, .int .i64 p.size, .int .i64 p.born] 38)) fun e w' => e = .returned (.bool E) ∧ Below (w.alloc (.cells #[.int .u32 p.pos, .int .i64 p.size, .int .i64 p.born] 38)).heap.size (w.alloc (.cells #[.int .u32 p.pos, .int .i64 p.size, .int .i64 p.born] 38)) w') := hE ▸ H43
    clear hr hp hE H43
    rcases h3 with h | h | h
    all_goals
      go_enter Try.func53, Try.ntmps53
      go_wp2_with fail
      refine Calls.mono H2.out ?_
      rintro e w1 ⟨rfl, hB1⟩
      go_wp2
      go_ret
      exact ⟨rfl, HB.out.trans (hB1.mono (by simp))⟩

theorem c24_any (g : Nat) (lb : Array Value) (eg : ∀ args w, (callFunc g args).run Try.prog w = .ok (.enter g args) w) (v : Value) (zs : List Piece) (p : Piece → Bool) (w : World) (hs : Sl 3 encP w v zs) (hn : zs.length ≤ 100000)
    (hp : PredBelow Try.prog g lb (fun x => .agg (encP x).toArray) p w) (h0 : zs ≠ []) :
    Calls Try.prog 24 #[v, .func (.func g) #[] lb] w fun e w' => e = .returned (.bool (zs.any p)) ∧ Below w.heap.size w w' := by
  obtain ⟨A, c, rfl, _, rfl | ⟨b, off, rfl, hl⟩⟩ := hs
  · exact absurd rfl h0
  · have h := AnyQ.slices_ContainsFunc Try.containsFP 3 Try.isAgg38 Try.sizeOf38 encP encP_len p g lb eg b off zs.length c zs w hp (Nat.le_refl _) (by omega) hl.1 hl.2
    change Calls Try.prog 24 _ _ _ at h
    rw [List.take_length] at h
    exact h
theorem eg53 : ∀ args w, (callFunc 53 args).run Try.prog w = .ok (.enter 53 args) w := enters_of Try.func53 (by kernel_rfl) rfl
end Go.Proofs.Ytbhbjcgbhklieaa
