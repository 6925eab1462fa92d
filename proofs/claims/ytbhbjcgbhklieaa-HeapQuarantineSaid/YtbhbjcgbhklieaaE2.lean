/- slices.Delete of one piece out of an owned row. -/
import Derived.Test.YtbhbjcgbhklieaaE0
namespace Go.Proofs.Ytbhbjcgbhklieaa
open Go.RowKit Go.Shelf

theorem encP_length (p : Piece) : (encP p).length = 3 := rfl
theorem flat_length (zs : List Piece) : (zs.flatMap encP).length = zs.length * 3 := by
  induction zs with
  | nil => rfl
  | cons p l ih => simp only [List.flatMap_cons, List.length_append, ih, encP_length, List.length_cons]; omega
theorem flat_one (zs : List Piece) : ∀ u ∈ zs.flatMap encP, u.oneCell' = true := by
  intro u hu
  obtain ⟨p, _, hp⟩ := List.mem_flatMap.1 hu
  simp [encP] at hp
  rcases hp with rfl | rfl | rfl <;> rfl
theorem flat_take (zs : List Piece) (i : Nat) : (zs.flatMap encP).take (i * 3) = (zs.take i).flatMap encP := by
  induction zs generalizing i with
  | nil => simp
  | cons p l ih =>
    cases i with
    | zero => simp
    | succ i => simp only [List.flatMap_cons, List.take_succ_cons]; rw [show (i + 1) * 3 = (encP p).length + i * 3 by simp [encP_length]; omega, List.take_length_add_append, ih]
theorem flat_drop (zs : List Piece) (i : Nat) : (zs.flatMap encP).drop (i * 3) = (zs.drop i).flatMap encP := by
  induction zs generalizing i with
  | nil => simp
  | cons p l ih =>
    cases i with
    | zero => simp
    | succ i => simp only [List.flatMap_cons, List.drop_succ_cons]; rw [show (i + 1) * 3 = (encP p).length + i * 3 by simp [encP_length]; omega, List.drop_length_add_append, ih]

set_option maxRecDepth 100000 in
set_option maxHeartbeats 2000000 in
theorem c71 (g cap : Nat) (cur : Array Value) (zs : List Piece) (i : Nat) (w : World) (hg : w.heap[g]? = some (.cells cur 38 (0, 0))) (hc : zs.length ≤ cap) (hm : cap ≤ maxLen) (hcs : cur.size = cap * 3) (ht : cur.toList.take (zs.length * 3) = zs.flatMap encP) (hi : i < zs.length) :
    Calls Try.prog 71 #[.slice (some ⟨g, 0, none⟩) zs.length cap, .int .i64 i, .int .i64 ((i : Int) + 1)] w fun e w' => e = .returned (.slice (some ⟨g, 0, none⟩) (zs.length - 1) cap) ∧ w.grownBy w' (some g) ∧
      w'.ownsRow g 38 3 (.slice (some ⟨g, 0, none⟩) (zs.length - 1) cap) (zs.length - 1) ((zs.eraseIdx i).flatMap encP) := by
  obtain ⟨i0, hi0, hi1, hi2, hi3⟩ := info38'
  have u24 : Try.prog.underlying 24 = some (.slice 38) := Try.underlying24
  obtain ⟨n, hn⟩ : ∃ n, zs.length = n := ⟨_, rfl⟩
  rw [hn] at hc ht hi ⊢
  have hm' : cap ≤ 9223372036854775807 := hm
  obtain ⟨news, hnews⟩ : ∃ news, news = (zs.drop (i + 1)).flatMap encP := ⟨_, rfl⟩
  have hlen : news.length = (n - (i + 1)) * 3 := by rw [hnews, flat_length, List.length_drop, hn]
  have hnd : news = (zs.flatMap encP).drop ((i + 1) * 3) := by rw [hnews, flat_drop]
  obtain ⟨A, hA, hsrc⟩ : ∃ A : Addr, (if cap = i + 1 then some (⟨g, 0, none⟩ : Addr) else some ⟨g, (i + 1) * 3, none⟩) = some A ∧ (∀ t u, news[t]? = some u → w.drew.cell? (A.add t) = some u) := by
    by_cases h : cap = i + 1
    · refine ⟨⟨g, 0, none⟩, by simp [h], fun t u hu => ?_⟩
      have h0 : news.length = 0 := by rw [hlen]; omega
      rw [List.length_eq_zero_iff.1 h0] at hu; simp at hu
    · refine ⟨⟨g, (i + 1) * 3, none⟩, by simp [h], fun t u hu => ?_⟩
      have htl := (List.getElem?_eq_some_iff.1 hu).1
      rw [hlen] at htl
      rw [hnd, List.getElem?_drop, ← ht, List.getElem?_take_of_lt (by omega)] at hu
      rw [Addr.add_lit]
      exact (row_cell (w := w) hg _).trans hu
  have s2 : ∀ u ∈ news, u.oneCell' = true := by rw [hnews]; exact flat_one _
  have s3 : ∀ t, t < news.length → (w.drew.cell? ⟨g, 0 + i * 3 + t, none⟩).isSome = true ∧ w.drew.frozen? ⟨g, 0 + i * 3 + t, none⟩ = false := by
    intro t htl
    rw [hlen] at htl
    refine ⟨?_, row_frozen (w := w) hg _⟩
    rw [show w.drew.cell? ⟨g, 0 + i * 3 + t, none⟩ = cur.toList[0 + i * 3 + t]? from row_cell (w := w) hg _, List.getElem?_eq_getElem (by simp; omega)]
    rfl
  obtain ⟨W1, hW1⟩ : ∃ W1, W1 = w.drew.setCells g (0 + i * 3) news := ⟨_, rfl⟩
  obtain ⟨cur1, hcur1, hg1⟩ : ∃ cur1 : List Value, (List.take (0 + i * 3) cur.toList ++ news ++ List.drop (0 + i * 3 + news.length) cur.toList) = cur1 ∧ W1.heap[g]? = some (.cells cur1.toArray 38 (0, 0)) := ⟨_, rfl, by rw [hW1]; exact row_setCells news (0 + i * 3) w.drew cur hg (by rw [hlen, hcs]; omega)⟩
  have hgr1 : w.grownBy W1 (some g) := by rw [hW1]; exact grown_trans (grown_drew w _) (grown_setCells g _ _ _)
  have z38 : ∀ w : World, (zeroValue 38).run Try.prog w = .ok (.agg #[.int .u32 0, .int .i64 0, .int .i64 0]) w := fun w => by simp [go_sem]
  have hzs : ((Value.agg #[.int .u32 0, .int .i64 0, .int .i64 0]).cells).toList = [.int .u32 0, .int .i64 0, .int .i64 0] := rfl
  have hl1 : cur1.length = cap * 3 := by rw [← hcur1]; simp [hlen]; omega
  have hcl : ∀ ty c', (Builtin.clear_ #[24] ty #[.slice (some ⟨g, (i + (n - (i + 1))) * 3, none⟩) (n - (i + (n - (i + 1)))) c']).run Try.prog W1 = .ok (.tuple #[]) (W1.setCells g ((n - 1) * 3) [.int .u32 0, .int .i64 0, .int .i64 0]) := fun ty c' => by
    rw [show n - (i + (n - (i + 1))) = 1 by omega, show i + (n - (i + 1)) = n - 1 by omega]
    rw [← hzs]
    refine run_clear_one W1 24 38 ty _ u24 z38 (by simp [Value.cells]; decide) g ((n - 1) * 3) c' (fun j hj => ?_) (fun j _ => row_frozen hg1 _)
    have hj' : j < 3 := hj
    rw [row_cell hg1, List.getElem?_eq_getElem (by simp [hl1]; omega)]; rfl
  have HW : Hid (W1 = w.drew.setCells g (0 + i * 3) news) := hW1
  have HT := Lib.hid ht
  have HG1 := Lib.hid hg1
  have HGR := Lib.hid hgr1
  have HC1 := Lib.hid hcur1
  have HN := Lib.hid hn
  have HS := Lib.hid hsrc
  have HND := Lib.hid hnews
  clear hW1 hg1 hgr1 hcur1 ht hg hn hsrc hnews hnd
  have mixed : Try.prog.follows .mixedOrders = true := by kernel_rfl
  have hic : i ≤ cap := by omega
  have hjc : i + 1 ≤ cap := by omega
  have hb0 : (0 : Int) ≤ (i : Int) + 1 := by omega
  have hb1 : (i : Int) + 1 ≤ (n : Int) := by omega
  go_enter Try.func71, Try.ntmps71
  go_wp2_with fail
  go_region_law_o (refine step_append_room rfl (.tmp 22) (.tmp 25) 24 rfl 38 i0 3 u24 hi0 hi2 g 0 i cap (by simp [Act.eval, Act.put]) A (n - (i + 1)) (cap - (i + 1)) news (by simp [Act.eval, Act.put]) hlen HS.out s2 (by omega) s3 ?_; rw [← HW.out])
  go_wp2
  go_ret
  have hg1 := HG1.out
  have hn := HN.out
  have hrow := row_setCells [.int .u32 0, .int .i64 0, .int .i64 0] ((n - 1) * 3) W1 _ hg1 (by simp [hl1]; omega)
  refine ⟨by rw [show i + (n - (i + 1)) = n - 1 by omega]; rfl, grown_trans HGR.out (grown_setCells g _ _ _), ?_, .inr ⟨g, cap, _, rfl, Nat.le_refl _, hrow, by omega, hm, by simp [hl1]; omega, ?_⟩⟩
  · rw [flat_length, List.length_eraseIdx_of_lt (by omega), hn]
  · have hlt : (List.take ((n - 1) * 3) cur1).length = (n - 1) * 3 := by simp [hl1]; omega
    simp only [List.append_assoc]
    rw [List.take_append_of_le_length (by rw [hlt]; exact Nat.le_refl _), List.take_take, Nat.min_self, ← HC1.out]
    have h1 : (List.take (0 + i * 3) cur.toList).length = i * 3 := by simp; omega
    have h2 : (List.take (0 + i * 3) cur.toList ++ news).length = (n - 1) * 3 := by rw [List.length_append, h1, hlen]; omega
    rw [← h2, List.take_left, Nat.zero_add]
    rw [HND.out, List.eraseIdx_eq_take_drop_succ, List.flatMap_append]
    congr 1
    rw [← flat_take, ← HT.out, List.take_take, Nat.min_eq_left (by omega)]
end Go.Proofs.Ytbhbjcgbhklieaa
