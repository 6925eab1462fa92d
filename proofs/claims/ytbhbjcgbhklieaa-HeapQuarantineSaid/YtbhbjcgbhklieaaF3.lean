/- all: the list of all blocks. -/
import Derived.Test.YtbhbjcgbhklieaaF1
namespace Go.Proofs.Ytbhbjcgbhklieaa
open Go.RowKit Go.Shelf

/-- append of a list of pieces to an owned row: whatever its slice is. -/
theorem append_sl (base : Nat) (v : Value) (xs zs : List Piece) (v2 : Value) (w : World) (ho : w.ownsRow base 38 3 v xs.length (xs.flatMap encP)) (hs : Sl 3 encP w v2 zs) (n1 : xs.length ≤ 1000) (n2 : zs.length ≤ 1000) (hb : base ≤ w.heap.size) :
    ∃ v' w', (Builtin.append_ #[24, 24] 24 #[v, v2]).run Try.prog w = .ok v' w' ∧ w'.ownsRow base 38 3 v' (xs ++ zs).length ((xs ++ zs).flatMap encP) ∧ w.grownBy w' v.ownBlock := by
  obtain ⟨i0, hi0, hi1, hi2, hi3⟩ := info38'
  have u24 : Try.prog.underlying 24 = some (.slice 38) := Try.underlying24
  obtain ⟨A, c, rfl, hc, hl⟩ := hs
  rcases hl with rfl | ⟨b, off, rfl, hl⟩
  · rcases A with _ | ad
    · -- nothing to append, the nil slice
      refine ⟨v, w, ?_, by simpa using ho, grown_refl _ _⟩
      rcases ho.2 with ⟨rfl, _⟩ | ⟨g, cap, cur, rfl, _, hg, hcap, _⟩
      · simp [Builtin.append_, run_underlying u24, sizeOf, typeInfo, hi0, Builtin.lenOf, Builtin.firstCells, go_sem]
      · simp [Builtin.append_, run_underlying u24, sizeOf, typeInfo, hi0, Builtin.lenOf, Builtin.firstCells, loadCells, go_sem, hcap, storeCells]
    · obtain ⟨v', w', hrun, hown, hgr, _⟩ := run_append_own (P := Try.prog) w base 24 24 38 i0 (.agg #[.int .u32 0, .int .i64 0, .int .i64 0]) 3 24 u24 hi0 hi1 hi2 hi3 rfl (by omega) v xs.length (xs.flatMap encP) ho ad 0 c [] rfl
        (by simp) (by simp) (by unfold maxLen; omega) (by omega) hb
      exact ⟨v', w', hrun, by simpa using hown, hgr⟩
  · obtain ⟨v', w', hrun, hown, hgr, _⟩ := run_append_own (P := Try.prog) w base 24 24 38 i0 (.agg #[.int .u32 0, .int .i64 0, .int .i64 0]) 3 24 u24 hi0 hi1 hi2 hi3 rfl (by omega) v xs.length (xs.flatMap encP) ho ⟨b, off, none⟩ zs.length c (zs.flatMap encP) (flat_length zs)
      (fun j u hu => by rw [Addr.add_lit]; exact lies_flat hl j u hu) (flat_one zs) (by unfold maxLen; omega) (by omega) hb
    exact ⟨v', w', hrun, by rw [List.length_append, List.flatMap_append]; exact hown, hgr⟩

set_option maxRecDepth 100000 in
set_option maxHeartbeats 1000000 in
theorem c61 (c : Conf) (lv qv : Value) (gi : Int) (live quar : List Piece) (w : World) (hl : Sl 3 encP w lv live) (hq : Sl 3 encP w qv quar) (n1 : live.length ≤ 1000) (n2 : quar.length ≤ 1000) :
    Calls Try.prog 61 #[hAgg c lv qv gi] w fun e w' => ∃ v, e = .returned v ∧ Below w.heap.size w w' ∧ w'.ownsRow w.heap.size 38 3 v (live ++ quar).length ((live ++ quar).flatMap encP) := by
  have hB1 := below_alloc1 w (.cells #[.int .i64 c.page, .int .i64 c.n, .int .i64 c.red, .int .i64 c.quarantine, lv, qv, .int .i64 gi] 26)
  obtain ⟨v1, w1, hr1, ho1, hg1⟩ := append_sl (w.heap.size + 1) (.slice none 0 0) [] live lv _ (World.ownsRow_nil _ _ _ _) (hl.below hB1) (by simp) n1 (by simp)
  have hw1 : Below w.heap.size w w1 := hB1.trans (below_of_grown hg1 (by simp) (by simp [Value.ownBlock]))
  have hbx : w1.heap[w.heap.size]? = some (.cells #[.int .i64 c.page, .int .i64 c.n, .int .i64 c.red, .int .i64 c.quarantine, lv, qv, .int .i64 gi] 26 (0, 0)) := (hg1.block _ (by simp) (by simp [Value.ownBlock])).trans (hal_new rfl)
  obtain ⟨v2, w2, hr2, ho2, hg2⟩ := append_sl (w.heap.size + 1) v1 live quar qv w1 (by simpa using ho1) (hq.below hw1) n1 n2 (by have := blk_lt hbx; omega)
  have hw2 : Below w.heap.size w w2 := hw1.trans (below_of_grown hg2 hw1.size (fun j e => by have := (own_lt ho1 j e).1; omega))
  have y5 := blk_cell hbx 5
  simp only [List.getElem?_toArray, List.getElem?_cons_succ, List.getElem?_cons_zero] at y5
  have HW2 := Lib.hid hw2
  have HO2 := Lib.hid (own_base ho2 (Nat.le_succ _))
  clear hB1 ho1 hg1 hw1 hbx ho2 hg2 hw2
  obtain ⟨A, ca, rfl, _, _⟩ := hl
  obtain ⟨B, cb, rfl, _, _⟩ := hq
  go_enter Try.func61, Try.ntmps61
  go_wp2_with (first
    | (at_builtin; refine Lib.wpList_append_run _ rfl _ _ _ _ rfl _ _ rfl rfl _ _ hr1 ?_)
    | (at_builtin; refine Lib.wpList_append_run _ rfl _ _ _ _ rfl _ _ rfl rfl _ _ hr2 ?_))
  go_ret
  exact ⟨_, rfl, HW2.out, HO2.out⟩
end Go.Proofs.Ytbhbjcgbhklieaa
