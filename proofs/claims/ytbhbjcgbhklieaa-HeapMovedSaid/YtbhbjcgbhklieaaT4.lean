/- slices.Clone at calls. -/
import Derived.Test.YtbhbjcgbhklieaaS0
import Derived.Test.YtbhbjcgbhklieaaC7
import Derived.Test.YtbhbjcgbhklieaaR3
namespace Go.Proofs
open Go.Shelf
def Try.cloneO_ren : Go.Shelf.Ren := ⟨fun | 41 => 54 | n => n, fun | 22 => 72 | 23 => 29 | 4 => 4 | n => n, fun | n => n⟩
theorem Try.cloneO : Go.Proofs.SlLaysE0.n41 Try.prog Try.cloneO_ren := {
  mixed := by kernel_rfl
  f41 := ⟨Try.f54.name, by decide, Try.func54.trans (congrArg some (by kernel_rfl))⟩
  t4 := Try.underlying4
  a4 := Try.isAgg4
  z4 := Try.sizeOf4
  v4 := Try.zeroValue4
  t22 := Try.underlying72
  a22 := Try.isAgg72
  z22 := Try.sizeOf72
  v22 := Try.zeroValue72 }
end Go.Proofs
namespace Go.Proofs.Ytbhbjcgbhklieaa
open Go.RowKit Go.Shelf

theorem info29 : ∃ i, Try.prog.info? 29 = some i ∧ i.zero = some (.agg #[.int .i64 0, .int .i64 0, .int .i64 0, .int .u32 0, .bool false]) ∧ i.size = 5 ∧ i.bytes = 32 := by
  have h : (Try.prog.info? 29).map (fun i => (i.zero, i.size, i.bytes)) = some (some (.agg #[.int .i64 0, .int .i64 0, .int .i64 0, .int .u32 0, .bool false]), 5, 32) := by kernel_rfl
  cases hi : Try.prog.info? 29 with
  | none => rw [hi] at h; cases h
  | some i => rw [hi] at h; simp at h; exact ⟨i, rfl, h.1, h.2.1, h.2.2⟩
theorem encO_len : ∀ o, (encO o).length = 5 := fun _ => rfl
theorem lies_flatO {w : World} {b off : Nat} {zs : List OpV} (h : Lies 5 encO w b off zs) : ∀ j u, (zs.flatMap encO)[j]? = some u → w.cell? ⟨b, off + j, none⟩ = some u := by
  intro j u hu
  have hj := (List.getElem?_eq_some_iff.1 hu).1
  rw [flat_len encO 5 encO_len] at hj
  have hd : j / 5 < zs.length := by omega
  have e : j = j / 5 * 5 + j % 5 := by omega
  rw [e, flat_get encO 5 encO_len zs (j / 5) (j % 5) hd (by omega)] at hu
  have := h.2 (j / 5) hd (j % 5) u hu
  rw [e]
  rw [Nat.add_assoc] at this
  exact this
theorem c54 (v : Value) (zs : List OpV) (w : World) (hs : Sl 5 encO w v zs) (hv : SlShape v) (hn : zs.length ≤ 100000) :
    Calls Try.prog 54 #[v] w fun e w' => Below w.heap.size w w' ∧ ∃ A' c', e = .returned (.slice A' zs.length c') ∧ w'.ownsRow w.heap.size 29 5 (.slice A' zs.length c') zs.length (zs.flatMap encO) := by
  obtain ⟨A, c, rfl, hc, hl⟩ := hs
  cases A with
  | none =>
    have hz : zs = [] := hl.elim id fun ⟨_, _, h, _⟩ => by cases h
    subst hz
    have h := AnyE.slices_Clone_nil Try.cloneO 0 c w
    change Calls Try.prog 54 _ _ _ at h
    refine h.mono ?_
    rintro e w' ⟨rfl, rfl⟩
    exact ⟨Below.refl _ _, _, _, rfl, World.ownsRow_nil _ _ _ _⟩
  | some A =>
    obtain ⟨b, off, rfl⟩ := hv A zs.length c rfl
    obtain ⟨i0, hi0, hi1, hi2, hi3⟩ := info29
    have hf : ∀ j u, (zs.flatMap encO)[j]? = some u → w.cell? ⟨b, off + j, none⟩ = some u := by
      rcases hl with rfl | ⟨b', off', e, hl⟩
      · intro j u hu; simp at hu
      · cases e; exact lies_flatO hl
    have h := AnyE.slices_Clone Try.cloneO i0 (.agg #[.int .i64 0, .int .i64 0, .int .i64 0, .int .u32 0, .bool false]) 5 32 hi0 hi1 hi2 hi3 rfl (by omega) Try.sizeOf29 b off zs.length c (zs.flatMap encO) w (flat_len encO 5 encO_len zs) (by unfold maxLen; omega) (by omega) hf (by
      intro u hu
      obtain ⟨p, _, hp⟩ := List.mem_flatMap.1 hu
      simp [encO] at hp
      rcases hp with rfl | rfl | rfl | rfl | rfl <;> rfl)
    change Calls Try.prog 54 _ _ _ at h
    refine h.mono ?_
    rintro e w' ⟨v', rfl, h1, _, h3⟩
    have h2 := h1.2
    rcases h2 with ⟨rfl, h0⟩ | ⟨g, cap, cur, rfl, _⟩
    · exact ⟨h3, none, 0, by rw [h0], by rw [h0] at h1 ⊢; exact h1⟩
    · exact ⟨h3, _, _, rfl, h1⟩
end Go.Proofs.Ytbhbjcgbhklieaa
