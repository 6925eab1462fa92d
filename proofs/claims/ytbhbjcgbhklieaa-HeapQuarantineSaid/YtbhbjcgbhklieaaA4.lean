/- place, live, near. -/
import Derived.Test.YtbhbjcgbhklieaaA3
namespace Go.Proofs.Ytbhbjcgbhklieaa
open Go.RowKit

theorem below_alloc1 (w : World) (o : Obj) : Below w.heap.size w (w.alloc o) := (Below.refl _ _).alloc (Nat.le_refl _) _

/-- A function value of one argument that compares it with something fixed. -/
def CmpU {α : Type} (g : Nat) (cb : Array Value) (enc : α → List Value) (cft : α → Int) (w : World) : Prop :=
  ∀ (W : World) (x : α), Below w.heap.size w W → Calls Try.prog g (#[.agg (enc x).toArray] ++ cb) W fun e w' => e = .returned (.int .i64 (cft x)) ∧ Below W.heap.size W w'

set_option maxHeartbeats 400000 in
theorem c110 (cft : Ext → Int) (g : Nat) (cb : Array Value) (eg : ∀ args w, (callFunc g args).run Try.prog w = .ok (.enter g args) w) (B : Nat) (w : World) (hB : B < w.heap.size) (hb : w.cell? ⟨B, 0, none⟩ = some (.func (.func g) #[] cb)) (hp : CmpU g cb encE cft w) :
    CmpB 110 #[.pointer (some ⟨B, 0, none⟩)] encE cft w := by
  intro W x hW
  have hb' : W.cell? ⟨B, 0, none⟩ = some (.func (.func g) #[] cb) := (hW.cell (p := ⟨B, 0, none⟩) hB).trans hb
  have hcall := hp (W.alloc (.cells (encE x).toArray 115)) x (hW.alloc hW.size _)
  have hB' : B < W.heap.size := Nat.lt_of_lt_of_le hB hW.size
  have HW := Lib.hid hW
  clear hp hb hB hW
  unfold encE at hcall ⊢
  go_enter Try.func110, Try.ntmps110
  go_wp2_with (go_at_fn g; refine hcall.mono ?_; rintro e w' ⟨rfl, BW'⟩)
  go_ret
  exact ⟨rfl, HW.out.trans (((below_alloc1 _ _).trans (BW'.mono (by simp))).mono HW.out.size)⟩

set_option maxHeartbeats 400000 in
theorem c107 (cft : Piece → Int) (g : Nat) (cb : Array Value) (eg : ∀ args w, (callFunc g args).run Try.prog w = .ok (.enter g args) w) (B : Nat) (w : World) (hB : B < w.heap.size) (hb : w.cell? ⟨B, 0, none⟩ = some (.func (.func g) #[] cb)) (hp : CmpU g cb encP cft w) :
    CmpB 107 #[.pointer (some ⟨B, 0, none⟩)] encP cft w := by
  intro W x hW
  have hb' : W.cell? ⟨B, 0, none⟩ = some (.func (.func g) #[] cb) := (hW.cell (p := ⟨B, 0, none⟩) hB).trans hb
  have hcall := hp (W.alloc (.cells (encP x).toArray 38)) x (hW.alloc hW.size _)
  have hB' : B < W.heap.size := Nat.lt_of_lt_of_le hB hW.size
  have HW := Lib.hid hW
  clear hp hb hB hW
  unfold encP at hcall ⊢
  go_enter Try.func107, Try.ntmps107
  go_wp2_with (go_at_fn g; refine hcall.mono ?_; rintro e w' ⟨rfl, BW'⟩)
  go_ret
  exact ⟨rfl, HW.out.trans (((below_alloc1 _ _).trans (BW'.mono (by simp))).mono HW.out.size)⟩


theorem CmpU.later {α : Type} {g : Nat} {cb : Array Value} {enc : α → List Value} {cft : α → Int} {w w' : World} (h : CmpU g cb enc cft w) (hw : Below w.heap.size w w') : CmpU g cb enc cft w' :=
  fun W x hW => (h W x (hw.trans (hW.mono hw.size))).mono fun _ _ h => h

theorem Lies.none {α : Type} [Inhabited α] {k : Nat} {enc : α → List Value} {w : World} {b off : Nat} (hb : b < w.heap.size) : Lies k enc w b off ([] : List α) := ⟨hb, fun _ hj => absurd hj (Nat.not_lt_zero _)⟩

/-- The slice value v holds zs. -/
def Sl {α : Type} [Inhabited α] (k : Nat) (enc : α → List Value) (w : World) (v : Value) (zs : List α) : Prop :=
  ∃ A c, v = .slice A zs.length c ∧ zs.length ≤ c ∧ (zs = [] ∨ ∃ b off, A = some ⟨b, off, none⟩ ∧ Lies k enc w b off zs)

theorem Sl.below {α : Type} [Inhabited α] {k : Nat} {enc : α → List Value} {w W : World} {v : Value} {zs : List α} (h : Sl k enc w v zs) (hW : Below w.heap.size w W) : Sl k enc W v zs := by
  obtain ⟨A, c, hv, hc, h⟩ := h
  exact ⟨A, c, hv, hc, h.imp id fun ⟨b, off, hA, hl⟩ => ⟨b, off, hA, hl.below hW⟩⟩

set_option maxHeartbeats 400000 in
theorem c97 (cft : Ext → Int) (g : Nat) (cb : Array Value) (eg : ∀ args w, (callFunc g args).run Try.prog w = .ok (.enter g args) w) (v : Value) (zs : List Ext) (w : World)
    (hp : CmpU g cb encE cft w) (hs : Sl 7 encE w v zs) (hbig : zs.length < 4611686018427387904)
    (hmono : ∀ i j, i ≤ j → j < zs.length → cft zs[j]! < 0 → cft zs[i]! < 0) :
    Calls Try.prog 97 #[v, .func (.func g) #[] cb] w fun e w' => e = .returned (.tuple #[.int .i64 (bsAt cft zs), .bool (bsIs cft zs)]) ∧ Below w.heap.size w w' := by
  have hw1 := below_alloc1 w (.cells #[.func (.func g) #[] cb] 137)
  have hcb := c110 cft g cb eg w.heap.size (w.alloc (.cells #[.func (.func g) #[] cb] 137)) (by simp) (by simp) (hp.later hw1)
  obtain ⟨A, c, rfl, _, rfl | ⟨b, off, rfl, hl⟩⟩ := hs
  · clear hcb hp hmono
    go_enter Try.func97, Try.ntmps97
    go_wp2_with (go_at_call 109; refine (c109_nil _ _ _ _).mono ?_; rintro e w' ⟨rfl, rfl⟩)
    go_ret2
    exact ⟨rfl, hw1⟩
  · have hcall := c109 cft 110 #[.pointer (some ⟨w.heap.size, 0, none⟩)] (enters_of Try.func110 (by kernel_rfl) rfl) b off c zs _ hcb (hl.below hw1) hbig hmono
    clear hcb hp hmono hl
    have HW1 := Lib.hid hw1
    clear hw1
    go_enter Try.func97, Try.ntmps97
    go_wp2_with (go_at_call 109; refine hcall.mono ?_; rintro e w' ⟨rfl, BW'⟩)
    go_ret2
    exact ⟨rfl, HW1.out.trans (BW'.mono (by simp))⟩

set_option maxHeartbeats 400000 in
theorem c93 (cft : Piece → Int) (g : Nat) (cb : Array Value) (eg : ∀ args w, (callFunc g args).run Try.prog w = .ok (.enter g args) w) (v : Value) (zs : List Piece) (w : World)
    (hp : CmpU g cb encP cft w) (hs : Sl 3 encP w v zs) (hbig : zs.length < 4611686018427387904)
    (hmono : ∀ i j, i ≤ j → j < zs.length → cft zs[j]! < 0 → cft zs[i]! < 0) :
    Calls Try.prog 93 #[v, .func (.func g) #[] cb] w fun e w' => e = .returned (.tuple #[.int .i64 (bsAt cft zs), .bool (bsIs cft zs)]) ∧ Below w.heap.size w w' := by
  have hw1 := below_alloc1 w (.cells #[.func (.func g) #[] cb] 134)
  have hcb := c107 cft g cb eg w.heap.size (w.alloc (.cells #[.func (.func g) #[] cb] 134)) (by simp) (by simp) (hp.later hw1)
  obtain ⟨A, c, rfl, _, rfl | ⟨b, off, rfl, hl⟩⟩ := hs
  · clear hcb hp hmono
    go_enter Try.func93, Try.ntmps93
    go_wp2_with (go_at_call 106; refine (c106_nil _ _ _ _).mono ?_; rintro e w' ⟨rfl, rfl⟩)
    go_ret2
    exact ⟨rfl, hw1⟩
  · have hcall := c106 cft 107 #[.pointer (some ⟨w.heap.size, 0, none⟩)] (enters_of Try.func107 (by kernel_rfl) rfl) b off c zs _ hcb (hl.below hw1) hbig hmono
    clear hcb hp hmono hl
    have HW1 := Lib.hid hw1
    clear hw1
    go_enter Try.func93, Try.ntmps93
    go_wp2_with (go_at_call 106; refine hcall.mono ?_; rintro e w' ⟨rfl, BW'⟩)
    go_ret2
    exact ⟨rfl, HW1.out.trans (BW'.mono (by simp))⟩
end Go.Proofs.Ytbhbjcgbhklieaa
