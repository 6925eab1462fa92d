/- A call that the laws make: target and does. -/
import Derived.Test.YtbhbjcgbhklieaaR3
import Derived.Test.YtbhbjcgbhklieaaM2
import Derived.Deep.RegionHeld3
import Derived.Deep.QuietTactic
import Derived.Deep.RegionWith
import Derived.BigQuiet
namespace Go.Proofs.Ytbhbjcgbhklieaa
open Go.RowKit Go.Shelf

theorem idx_gen (z : Int) (n : Nat) (h0 : 0 < n) (h1 : n ≤ 9223372036854775807) : ∃ i : Nat, i < n ∧ (IntKind.u64.wrap z).tmod (n : Int) = (i : Int) ∧ wrap64 ((IntKind.u64.wrap z).tmod (n : Int)) = (i : Int) ∧ IntKind.u64.wrap (n : Int) = (n : Int) := by
  have hn : 0 ≤ IntKind.u64.wrap z := by
    simp only [IntKind.wrap, IntKind.signed, IntKind.bits]
    exact Int.emod_nonneg _ (by decide)
  have h2 : IntKind.u64.wrap (n : Int) = (n : Int) := by
    simp only [IntKind.wrap, IntKind.signed, IntKind.bits]
    exact Int.emod_eq_of_lt (by omega) (by simp; omega)
  have hm : 0 ≤ (IntKind.u64.wrap z).tmod (n : Int) ∧ (IntKind.u64.wrap z).tmod (n : Int) < n := by
    rw [Int.tmod_eq_emod_of_nonneg hn]
    exact ⟨Int.emod_nonneg _ (by omega), Int.emod_lt_of_pos _ (by omega)⟩
  refine ⟨((IntKind.u64.wrap z).tmod (n : Int)).toNat, by omega, by omega, ?_, h2⟩
  unfold wrap64; omega
/-- the address that a call means. -/
def targetF (live : List Piece) (o : OpV) : Int := if o.wild = false ∧ 0 < live.length then live[((IntKind.u64.wrap o.i).tmod (live.length : Int)).toNat]!.pos else o.pos
theorem targetF_range {live : List Piece} {o : OpV} (wl : ∀ p ∈ live, WfP p) (hn : live.length ≤ 9223372036854775807) (ho : WfO o) : 0 ≤ targetF live o ∧ targetF live o < 4294967296 := by
  unfold targetF
  by_cases h : o.wild = false ∧ 0 < live.length
  · rw [if_pos h]
    obtain ⟨i, hi, e, _⟩ := idx_gen o.i live.length h.2 hn
    rw [e, Int.toNat_natCast]
    exact wl live[i]! (by rw [getElem!_pos live i hi]; exact List.getElem_mem hi)
  · rw [if_neg h]; exact ⟨ho.2.2.2.1, ho.2.2.2.2⟩

set_option maxRecDepth 100000 in
set_option maxHeartbeats 1000000 in
theorem c45 (c : Conf) (lv qv : Value) (gi : Int) (live : List Piece) (o : OpV) (w : World) (hl : Sl 3 encP w lv live) (hn : live.length ≤ 9223372036854775807) :
    Calls Try.prog 45 #[hAgg c lv qv gi, .agg #[.int .i64 o.kind, .int .i64 o.n, .int .i64 o.i, .int .u32 o.pos, .bool o.wild]] w fun e w' => e = .returned (.int .u32 (targetF live o)) ∧ Below w.heap.size w w' := by
  have hbel : Below w.heap.size w ((w.alloc (.cells #[.int .i64 c.page, .int .i64 c.n, .int .i64 c.red, .int .i64 c.quarantine, lv, qv, .int .i64 gi] 26)).alloc (.cells #[.int .i64 o.kind, .int .i64 o.n, .int .i64 o.i, .int .u32 o.pos, .bool o.wild] 29)) := (below_alloc1 w _).alloc (by simp) _
  obtain ⟨A, ca, rfl, _, hl⟩ := hl
  have HBEL := Lib.hid hbel
  obtain ⟨k, n, i, pos, wild⟩ := o
  simp only at HBEL ⊢
  clear hbel
  cases wild with
  | true =>
    have HT : Hid (targetF live ⟨k, n, i, pos, true⟩ = pos) := by show _ = _; simp [targetF]
    go_enter Try.func45, Try.ntmps45
    go_wp2
    go_ret
    exact ⟨by rw [HT.out]; rfl, HBEL.out⟩
  | false =>
    by_cases h0 : live.length = 0
    · have HT : Hid (targetF live ⟨k, n, i, pos, false⟩ = pos) := by show _ = _; simp [targetF, h0]
      have d0 : decide ((0 : Int) < (live.length : Int)) = false := decide_eq_false (by omega)
      have HB2 := HBEL.out
      rw [h0] at HB2
      have HB3 := Lib.hid HB2
      clear HB2
      go_enter Try.func45, Try.ntmps45
      go_wp2
      go_ret
      exact ⟨by rw [HT.out]; rfl, HB3.out⟩
    · have hp : 0 < live.length := by omega
      obtain ⟨j, hj, hrem, _, hwl⟩ := idx_gen i live.length hp hn
      have HT : Hid (targetF live ⟨k, n, i, pos, false⟩ = live[j]!.pos) := by
        show _ = _
        unfold targetF
        rw [if_pos ⟨rfl, hp⟩]
        simp only
        rw [hrem, Int.toNat_natCast]
      obtain ⟨b, off, rfl, hL⟩ := hl.resolve_left (by rintro rfl; simp at h0)
      obtain ⟨m0, m1, m2⟩ := hL.at3 j hj
      have hb := hL.1
      generalize live[j]! = x at m0 m1 m2 HT
      generalize live.length = N at *
      have d0 : decide ((0 : Int) < (N : Int)) = true := decide_eq_true (by omega)
      have hj1 : (j : Int) < (N : Int) := by omega
      have hj0 : (0 : Int) ≤ (j : Int) := by omega
      have hN0 : ((N : Int) == 0) = false := by simp; omega
      clear hL
      go_enter Try.func45, Try.ntmps45
      go_wp2
      go_quiet (fail)
      go_wp2
      go_ret
      exact ⟨by rw [HT.out]; rfl, below_drewN HBEL.out _⟩

structure HRes where
  c : Conf
  gi : Int
  live : List Piece
  quar : List Piece
def hZ : HRes := ⟨⟨0, 0, 0, 0⟩, 0, [], []⟩
def AllocP (c : Conf) (gi : Int) (live quar : List Piece) (size err at_ : Int) (r : HRes) : Prop :=
  (¬ Good c gi live quar ∧ err = 60 ∧ at_ = 0 ∧ r = hZ) ∨ (Good c gi live quar ∧ (size < 0 ∨ 65536 < size) ∧ err = 1 ∧ at_ = 0 ∧ r = hZ) ∨
  (∃ L, Op c gi live quar L ∧ 0 ≤ size ∧ size ≤ 65536 ∧ (roomGo c.red size (gapsF c L) = none ∨ live.length = 1000 ∨ gi = 1073741824) ∧ err = 2 ∧ at_ = 0 ∧ r = hZ) ∨
  (∃ L, Op c gi live quar L ∧ 0 ≤ size ∧ size ≤ 65536 ∧ roomGo c.red size (gapsF c L) = some at_ ∧ live.length ≠ 1000 ∧ gi ≠ 1073741824 ∧ err = 0 ∧ r = ⟨c, gi + 1, insF live (atI live at_) ⟨at_, size, gi + 1⟩, quar⟩)
def FreeP (c : Conf) (gi : Int) (live quar : List Piece) (tg err : Int) (r : HRes) : Prop :=
  (¬ Good c gi live quar ∧ err = 60 ∧ r = hZ) ∨ (Good c gi live quar ∧ isI live tg = false ∧ err = 61 ∧ r = hZ) ∨
  (Good c gi live quar ∧ isI live tg = true ∧ err = 0 ∧ r = ⟨c, gi, live.eraseIdx (atI live tg), trimF c.quarantine (quar ++ [live[atI live tg]!])⟩)
def ResizeP (c : Conf) (gi : Int) (live quar : List Piece) (tg size err at_ : Int) (r : HRes) : Prop :=
  (¬ Good c gi live quar ∧ err = 60 ∧ at_ = 0 ∧ r = hZ) ∨ (Good c gi live quar ∧ isI live tg = false ∧ err = 61 ∧ at_ = 0 ∧ r = hZ) ∨
  (Good c gi live quar ∧ isI live tg = true ∧ (size < 0 ∨ 65536 < size) ∧ err = 1 ∧ at_ = 0 ∧ r = hZ) ∨
  (∃ L, Op c gi live quar L ∧ isI live tg = true ∧ 0 ≤ size ∧ size ≤ 65536 ∧ (roomGo c.red size (gapsF c L) = none ∨ live.length = 1000 ∨ gi = 1073741824) ∧ err = 2 ∧ at_ = 0 ∧ r = hZ) ∨
  (∃ L, Op c gi live quar L ∧ isI live tg = true ∧ 0 ≤ size ∧ size ≤ 65536 ∧ roomGo c.red size (gapsF c L) = some at_ ∧ live.length ≠ 1000 ∧ gi ≠ 1073741824 ∧ err = 0 ∧ r = ⟨c, gi + 1, (insF live (atI live at_) ⟨at_, size, gi + 1⟩).eraseIdx (atI (insF live (atI live at_) ⟨at_, size, gi + 1⟩) tg),
    trimF c.quarantine (quar ++ [(insF live (atI live at_) ⟨at_, size, gi + 1⟩)[atI (insF live (atI live at_) ⟨at_, size, gi + 1⟩) tg]!])⟩)
def DoesP (c : Conf) (gi : Int) (live quar : List Piece) (o : OpV) (err at_ : Int) (r : HRes) : Prop :=
  if o.kind = 0 then AllocP c gi live quar o.n err at_ r else if o.kind = 1 then at_ = 0 ∧ FreeP c gi live quar (targetF live o) err r else ResizeP c gi live quar (targetF live o) o.n err at_ r
/-- an answer: the heap lies in memory of its own. -/
def HAns (N : Nat) (w' : World) (e : Ending) (err at_ : Int) (r : HRes) : Prop :=
  ∃ A k B m, e = .returned (.tuple #[hAgg r.c (.slice A r.live.length k) (.slice B r.quar.length m) r.gi, .int .u32 at_, .int .i64 err]) ∧ Fresh N w' (.slice A r.live.length k) r.live ∧ Fresh N w' (.slice B r.quar.length m) r.quar
theorem fresh_nilP (N : Nat) (w : World) : Fresh N w (.slice none 0 0) [] := ⟨⟨none, 0, rfl, Nat.le_refl _, .inl rfl⟩, fun _ _ _ e => by cases e⟩
theorem hans_nil (N : Nat) (w : World) (err : Int) : HAns N w (.returned (.tuple #[hNil, .int .u32 0, .int .i64 err])) err 0 hZ := ⟨none, 0, none, 0, rfl, fresh_nilP _ _, fresh_nilP _ _⟩
theorem HAns.of {N : Nat} {w : World} {c : Conf} {lv qv : Value} {gi err at_ : Int} {l q : List Piece} (h1 : Fresh N w lv l) (h2 : Fresh N w qv q) : HAns N w (.returned (.tuple #[hAgg c lv qv gi, .int .u32 at_, .int .i64 err])) err at_ ⟨c, gi, l, q⟩ := by
  obtain ⟨A, k, rfl, _, _⟩ := id h1.sl
  obtain ⟨B, m, rfl, _, _⟩ := id h2.sl
  exact ⟨A, k, B, m, rfl, h1, h2⟩
theorem AllocAns.plain {c : Conf} {gi : Int} {live quar : List Piece} {size : Int} {N : Nat} {e : Ending} {w' : World} (h : AllocAns c gi live quar size N e w') : ∃ err at_ r, AllocP c gi live quar size err at_ r ∧ HAns N w' e err at_ r := by
  rcases h with ⟨h, rfl⟩ | ⟨h, h2, rfl⟩ | ⟨L, h1, h2, h3, h4, rfl⟩ | ⟨L, v, h1, h2, h3, h4, h5, h6, lv, qv, rfl, f1, f2⟩
  · exact ⟨60, 0, hZ, .inl ⟨h, rfl, rfl, rfl⟩, hans_nil _ _ _⟩
  · exact ⟨1, 0, hZ, .inr (.inl ⟨h, h2, rfl, rfl, rfl⟩), hans_nil _ _ _⟩
  · exact ⟨2, 0, hZ, .inr (.inr (.inl ⟨L, h1, h2, h3, h4, rfl, rfl, rfl⟩)), hans_nil _ _ _⟩
  · exact ⟨0, v, _, .inr (.inr (.inr ⟨L, h1, h2, h3, h4, h5, h6, rfl, rfl⟩)), HAns.of f1 f2⟩
theorem ResAns.plain {c : Conf} {gi : Int} {live quar : List Piece} {tg size : Int} {N : Nat} {e : Ending} {w' : World} (h : ResAns c gi live quar tg size N e w') : ∃ err at_ r, ResizeP c gi live quar tg size err at_ r ∧ HAns N w' e err at_ r := by
  rcases h with ⟨h, rfl⟩ | ⟨h, h2, rfl⟩ | ⟨h, h2, h3, rfl⟩ | ⟨L, h1, h0, h2, h3, h4, rfl⟩ | ⟨L, v, h1, h0, h2, h3, h4, h5, h6, lv, qv, rfl, f1, f2⟩
  · exact ⟨60, 0, hZ, .inl ⟨h, rfl, rfl, rfl⟩, hans_nil _ _ _⟩
  · exact ⟨61, 0, hZ, .inr (.inl ⟨h, h2, rfl, rfl, rfl⟩), hans_nil _ _ _⟩
  · exact ⟨1, 0, hZ, .inr (.inr (.inl ⟨h, h2, h3, rfl, rfl, rfl⟩)), hans_nil _ _ _⟩
  · exact ⟨2, 0, hZ, .inr (.inr (.inr (.inl ⟨L, h1, h0, h2, h3, h4, rfl, rfl, rfl⟩))), hans_nil _ _ _⟩
  · exact ⟨0, v, _, .inr (.inr (.inr (.inr ⟨L, h1, h0, h2, h3, h4, h5, h6, rfl, rfl⟩))), HAns.of f1 f2⟩
/-- Free's answer has no address. -/
theorem FreeAns.plain {c : Conf} {gi : Int} {live quar : List Piece} {tg : Int} {N : Nat} {e : Ending} {w' : World} (h : FreeAns c gi live quar tg N e w') : ∃ err r, FreeP c gi live quar tg err r ∧ ∃ A k B m, e = .returned (.tuple #[hAgg r.c (.slice A r.live.length k) (.slice B r.quar.length m) r.gi, .int .i64 err]) ∧ Fresh N w' (.slice A r.live.length k) r.live ∧ Fresh N w' (.slice B r.quar.length m) r.quar := by
  rcases h with ⟨h, rfl⟩ | ⟨h, h2, rfl⟩ | ⟨h, h2, lv, qv, rfl, f1, f2⟩
  · exact ⟨60, hZ, .inl ⟨h, rfl, rfl⟩, none, 0, none, 0, rfl, fresh_nilP _ _, fresh_nilP _ _⟩
  · exact ⟨61, hZ, .inr (.inl ⟨h, h2, rfl, rfl⟩), none, 0, none, 0, rfl, fresh_nilP _ _, fresh_nilP _ _⟩
  · obtain ⟨A, k, rfl, _, _⟩ := id f1.sl
    obtain ⟨B, m, rfl, _, _⟩ := id f2.sl
    exact ⟨0, _, .inr (.inr ⟨h, h2, rfl, rfl⟩), A, k, B, m, rfl, f1, f2⟩
end Go.Proofs.Ytbhbjcgbhklieaa
