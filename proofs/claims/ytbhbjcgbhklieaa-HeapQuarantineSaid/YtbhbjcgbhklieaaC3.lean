/- slices.Clone at pieces. -/
import Derived.Test.YtbhbjcgbhklieaaS0
import Derived.Test.YtbhbjcgbhklieaaC1
import Derived.Shelf.SlicesE.Clone
import Derived.Ground.SlgnProg
namespace Go.Proofs.Ytbhbjcgbhklieaa
open Go.RowKit Go.Shelf

theorem info38 : ∃ i, Try.prog.info? 38 = some i ∧ i.zero = some (.agg #[.int .u32 0, .int .i64 0, .int .i64 0]) ∧ i.size = 3 ∧ i.bytes = 24 := by
  have h : (Try.prog.info? 38).map (fun i => (i.zero, i.size, i.bytes)) = some (some (.agg #[.int .u32 0, .int .i64 0, .int .i64 0]), 3, 24) := by kernel_rfl
  cases hi : Try.prog.info? 38 with
  | none => rw [hi] at h; cases h
  | some i => rw [hi] at h; simp at h; exact ⟨i, rfl, h.1, h.2.1, h.2.2⟩

/-- the cells of a list, one behind the other. -/
theorem lies_flat {w : World} {b off : Nat} {zs : List Piece} (h : Lies 3 encP w b off zs) : ∀ j u, (zs.flatMap encP)[j]? = some u → w.cell? ⟨b, off + j, none⟩ = some u := by
  intro j u hu
  have hj := (List.getElem?_eq_some_iff.1 hu).1
  rw [flat_len encP 3 encP_len] at hj
  have hd : j / 3 < zs.length := by omega
  have e : j = j / 3 * 3 + j % 3 := by omega
  rw [e, flat_get encP 3 encP_len zs (j / 3) (j % 3) hd (by omega)] at hu
  have := h.2 (j / 3) hd (j % 3) u hu
  rw [e]
  rw [Nat.add_assoc] at this
  exact this

theorem c21 (v : Value) (zs : List Piece) (w : World) (hs : Sl 3 encP w v zs) (hv : ∀ A n c, v = .slice (some A) n c → ∃ b off, A = ⟨b, off, none⟩) (hn : zs.length ≤ 100000) :
    Calls Try.prog 21 #[v] w fun e w' => Below w.heap.size w w' ∧ ∃ A' c', e = .returned (.slice A' zs.length c') ∧ w'.ownsRow w.heap.size 38 3 (.slice A' zs.length c') zs.length (zs.flatMap encP) := by
  obtain ⟨A, c, rfl, hc, hl⟩ := hs
  cases A with
  | none =>
    have hz : zs = [] := hl.elim id fun ⟨_, _, h, _⟩ => by cases h
    subst hz
    have h := AnyE.slices_Clone_nil Try.cloneP 0 c w
    change Calls Try.prog 21 _ _ _ at h
    refine h.mono ?_
    rintro e w' ⟨rfl, rfl⟩
    exact ⟨Below.refl _ _, _, _, rfl, World.ownsRow_nil _ _ _ _⟩
  | some A =>
    obtain ⟨b, off, rfl⟩ := hv A zs.length c rfl
    obtain ⟨i0, hi0, hi1, hi2, hi3⟩ := info38
    have hf : ∀ j u, (zs.flatMap encP)[j]? = some u → w.cell? ⟨b, off + j, none⟩ = some u := by
      rcases hl with rfl | ⟨b', off', e, hl⟩
      · intro j u hu; simp at hu
      · cases e; exact lies_flat hl
    have h := AnyE.slices_Clone Try.cloneP i0 (.agg #[.int .u32 0, .int .i64 0, .int .i64 0]) 3 24 hi0 hi1 hi2 hi3 rfl (by omega) Try.sizeOf38 b off zs.length c (zs.flatMap encP) w (flat_len encP 3 encP_len zs) (by unfold maxLen; omega) (by omega) hf (by
      intro u hu
      obtain ⟨p, _, hp⟩ := List.mem_flatMap.1 hu
      simp [encP] at hp
      rcases hp with rfl | rfl | rfl <;> rfl)
    change Calls Try.prog 21 _ _ _ at h
    refine h.mono ?_
    rintro e w' ⟨v', rfl, h1, _, h3⟩
    have h2 := h1.2
    rcases h2 with ⟨rfl, h0⟩ | ⟨g, cap, cur, rfl, _⟩
    · exact ⟨h3, none, 0, by rw [h0], by rw [h0] at h1 ⊢; exact h1⟩
    · exact ⟨h3, _, _, rfl, h1⟩
end Go.Proofs.Ytbhbjcgbhklieaa
