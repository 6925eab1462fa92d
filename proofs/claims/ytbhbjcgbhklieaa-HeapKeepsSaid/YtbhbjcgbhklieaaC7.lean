/- Check, Find, Size: by opened's contract. | Size. | slices.Clone at pieces. | New. | slices.Equal at pieces. | slices.Equal at pieces: whatever slice values. -/
import Derived.Test.YtbhbjcgbhklieaaB8
import Derived.Test.YtbhbjcgbhklieaaS0
import Derived.Shelf.SlicesE.Clone
import Derived.Ground.SlgnProg
import Derived.Shelf.SlicesQ.Equal
import Derived.Ground.SlgqProg
namespace Go.Proofs.Ytbhbjcgbhklieaa
open Go.RowKit Go.Shelf

set_option maxRecDepth 100000 in
set_option maxHeartbeats 1000000 in
theorem c20 (c : Conf) (lv qv : Value) (gi : Int) (live quar : List Piece) (w : World) (hl : Sl 3 encP w lv live) (hq : Sl 3 encP w qv quar) (wl : ∀ p ∈ live, WfP p) (wq : ∀ p ∈ quar, WfP p) :
    Calls Try.prog 20 #[.agg #[.int .i64 c.page, .int .i64 c.n, .int .i64 c.red, .int .i64 c.quarantine, lv, qv, .int .i64 gi]] w fun e w' => Below w.heap.size w w' ∧
      ((¬ Good c gi live quar ∧ e = .returned (.int .i64 60)) ∨ (Good c gi live quar ∧ e = .returned (.int .i64 0))) := by
  have hw1 := below_alloc1 w (.cells #[.int .i64 c.page, .int .i64 c.n, .int .i64 c.red, .int .i64 c.quarantine, lv, qv, .int .i64 gi] 26)
  have hcall := c68 c lv qv gi live quar _ (hl.below hw1) (hq.below hw1) wl wq
  have HW1 := Lib.hid hw1
  clear hl hq wl wq hw1
  go_enter Try.func20, Try.ntmps20
  go_wp2_with (go_at_call 68; refine hcall.mono ?_; rintro e w' ⟨hB, hr⟩; have HB := Lib.hid hB; clear hB; obtain ⟨hg, p, rfl⟩ | ⟨hg, rfl, L, hL⟩ := hr)
  · go_ret
    exact ⟨HW1.out.trans (HB.out.mono (by simp)), .inl ⟨hg, rfl⟩⟩
  · go_ret
    exact ⟨HW1.out.trans (HB.out.mono (by simp)), .inr ⟨hg, rfl⟩⟩

/-- what every function has behind 'opened' of a good heap. -/
structure Op (c : Conf) (gi : Int) (live quar : List Piece) (L : List Ext) : Prop where
  good : Good c gi live quar
  perm : L.Perm (items c.red live quar)
  fr : SortedFr L
  adj : Adj L
  ext : ∀ x ∈ L, x.fr < x.to ∧ 0 ≤ x.p.pos ∧ x.p.pos < 4294967296
  to : ∀ i j, i ≤ j → j < L.length → L[i]!.to ≤ L[j]!.to
  len : L.length ≤ 2000
  live : ∀ i j, i ≤ j → j < live.length → live[i]!.pos ≤ live[j]!.pos

def OpAns' (c : Conf) (lv qv : Value) (gi : Int) (live quar : List Piece) (w : World) (e : Ending) (w' : World) : Prop :=
  Below w.heap.size w w' ∧
  ((¬ Good c gi live quar ∧ ∃ p, e = .returned (.tuple #[.pointer p, .bool false])) ∨
   (e = .returned (.tuple #[.pointer (some ⟨w.heap.size + 3, 0, none⟩), .bool true]) ∧ ∃ L : List Ext, Op c gi live quar L ∧ HeapB w' (w.heap.size + 3) c lv qv gi L))

theorem c68' (c : Conf) (lv qv : Value) (gi : Int) (live quar : List Piece) (w : World) (hl : Sl 3 encP w lv live) (hq : Sl 3 encP w qv quar) (wl : ∀ p ∈ live, WfP p) (wq : ∀ p ∈ quar, WfP p) :
    Calls Try.prog 68 #[.agg #[.int .i64 c.page, .int .i64 c.n, .int .i64 c.red, .int .i64 c.quarantine, lv, qv, .int .i64 gi]] w (OpAns' c lv qv gi live quar w) := by
  refine (c68 c lv qv gi live quar w hl hq wl wq).mono ?_
  rintro e w' ⟨hB, ⟨hg, p, rfl⟩ | ⟨hg, rfl, L, h1, h2, h3, h4⟩⟩
  · exact ⟨hB, .inl ⟨hg, p, rfl⟩⟩
  · obtain ⟨k1, k2, k3, k4⟩ := good_list hg wl wq h1 h2 h3
    exact ⟨hB, .inr ⟨rfl, L, ⟨hg, h1, h2, h3, k1, k2, k3, k4⟩, h4⟩⟩

theorem Op.pos {c : Conf} {gi : Int} {live quar : List Piece} {L : List Ext} (h : Op c gi live quar L) : ∀ i, i < L.length → 0 ≤ L[i]!.p.pos ∧ L[i]!.p.pos < 4294967296 := fun i hi =>
  (h.ext L[i]! (by rw [getElem!_pos L i hi]; exact List.getElem_mem hi)).2

set_option maxRecDepth 100000 in
set_option maxHeartbeats 1000000 in
theorem c26 (c : Conf) (lv qv : Value) (gi : Int) (live quar : List Piece) (at_ : Int) (w : World) (hl : Sl 3 encP w lv live) (hq : Sl 3 encP w qv quar) (wl : ∀ p ∈ live, WfP p) (wq : ∀ p ∈ quar, WfP p) (h0 : 0 ≤ at_) (h1 : at_ < 4294967296) :
    Calls Try.prog 26 #[.agg #[.int .i64 c.page, .int .i64 c.n, .int .i64 c.red, .int .i64 c.quarantine, lv, qv, .int .i64 gi], .int .u32 at_] w fun e w' => Below w.heap.size w w' ∧
      ((¬ Good c gi live quar ∧ e = .returned (.agg #[.int .i64 0, .int .i64 0, .int .i64 0])) ∨
       (∃ L, Op c gi live quar L ∧ e = .returned (.agg #[.int .i64 (nearF L at_).1, .int .i64 (nearF L at_).2.1, .int .i64 (nearF L at_).2.2]))) := by
  have hw1 := (below_alloc1 w (.cells #[.int .i64 c.page, .int .i64 c.n, .int .i64 c.red, .int .i64 c.quarantine, lv, qv, .int .i64 gi] 26)).alloc (by simp) (.cells #[.int .i64 0, .int .i64 0, .int .i64 0] 48)
  have hcall := c68' c lv qv gi live quar _ (hl.below hw1) (hq.below hw1) wl wq
  have HW1 := Lib.hid hw1
  clear hl hq wl wq hw1
  go_enter Try.func26, Try.ntmps26
  go_wp2_with (go_at_call 68; refine hcall.mono ?_; rintro e w' ⟨hB, hr⟩; have HB := Lib.hid hB; obtain ⟨x1, x2, x3⟩ := bcell hB; simp only [World.size_alloc] at x1 x2 x3; have x4 := lt2 x3; clear hB; obtain ⟨hg, p, rfl⟩ | ⟨rfl, L, hL, hH⟩ := hr; try simp only [World.size_alloc] at hH)
  · refine bodyPost_ret (v := .agg #[.int .i64 0, .int .i64 0, .int .i64 0]) (by simp [results, Try.results26, go_sem, x1]) rfl ⟨?_, .inl ⟨hg, rfl⟩⟩
    repeat' first | exact HW1.out.trans (HB.out.mono (by simp; try omega)) | refine Below.setCell ?_ (by simp; try omega) _
  · simp only [World.size_alloc] at hH
    have hn := (c75 _ c lv qv gi L at_ _ hH (by have := hL.len; omega) h0 h1 hL.to hL.pos)
    refine Calls.mono hn ?_
    rintro e2 w2 ⟨rfl, hB2⟩
    have HB2 := Lib.hid hB2
    obtain ⟨y1, y2, y3⟩ := bcell hB2
    have y4 := (y1 (w.heap.size + 1) 0 x4.2.1).trans (x1 (w.heap.size + 1) 0 (by omega))
    have y5 := (y1 (w.heap.size + 1) 1 x4.2.1).trans (x1 (w.heap.size + 1) 1 (by omega))
    have y6 := (y1 (w.heap.size + 1) 2 x4.2.1).trans (x1 (w.heap.size + 1) 2 (by omega))
    have y7 := (y2 (w.heap.size + 1) 0 x4.2.1).trans (x2 (w.heap.size + 1) 0 (by omega))
    have y8 := (y2 (w.heap.size + 1) 1 x4.2.1).trans (x2 (w.heap.size + 1) 1 (by omega))
    have y9 := (y2 (w.heap.size + 1) 2 x4.2.1).trans (x2 (w.heap.size + 1) 2 (by omega))
    clear hB2 hn y1 y2
    go_wp2
    refine bodyPost_ret (v := .agg #[.int .i64 (nearF L at_).1, .int .i64 (nearF L at_).2.1, .int .i64 (nearF L at_).2.2]) (by simp [results, Try.results26, go_sem, y4, y5, y6]) rfl ⟨?_, .inr ⟨L, hL, rfl⟩⟩
    repeat' first | exact HW1.out.trans ((HB.out.trans (HB2.out.mono HB.out.size)).mono (by simp; try omega)) | refine Below.setCell ?_ (by simp; try omega) _
end Go.Proofs.Ytbhbjcgbhklieaa

namespace Go.Proofs.Ytbhbjcgbhklieaa
open Go.RowKit Go.Shelf

abbrev atI (live : List Piece) (at_ : Int) : Nat := bsAt (fun x => cmpI x.pos at_) live
abbrev isI (live : List Piece) (at_ : Int) : Bool := bsIs (fun x => cmpI x.pos at_) live

set_option maxRecDepth 100000 in
set_option maxHeartbeats 1000000 in
theorem c35 (c : Conf) (lv qv : Value) (gi : Int) (live quar : List Piece) (at_ : Int) (w : World) (hl : Sl 3 encP w lv live) (hq : Sl 3 encP w qv quar) (wl : ∀ p ∈ live, WfP p) (wq : ∀ p ∈ quar, WfP p) :
    Calls Try.prog 35 #[.agg #[.int .i64 c.page, .int .i64 c.n, .int .i64 c.red, .int .i64 c.quarantine, lv, qv, .int .i64 gi], .int .u32 at_] w fun e w' => Below w.heap.size w w' ∧
      ((¬ Good c gi live quar ∧ e = .returned (.tuple #[.int .i64 0, .int .i64 60])) ∨
       (Good c gi live quar ∧ isI live at_ = false ∧ e = .returned (.tuple #[.int .i64 0, .int .i64 61])) ∨
       (Good c gi live quar ∧ isI live at_ = true ∧ e = .returned (.tuple #[.int .i64 live[atI live at_]!.size, .int .i64 0]))) := by
  have hw1 := below_alloc1 w (.cells #[.int .i64 c.page, .int .i64 c.n, .int .i64 c.red, .int .i64 c.quarantine, lv, qv, .int .i64 gi] 26)
  have hcall := c68' c lv qv gi live quar _ (hl.below hw1) (hq.below hw1) wl wq
  have HW1 := Lib.hid hw1
  have HL := Lib.hid hl
  clear hl hq wl wq hw1
  go_enter Try.func35, Try.ntmps35
  go_wp2_with (go_at_call 68; refine hcall.mono ?_; rintro e w' ⟨hB, hr⟩; have HB := Lib.hid hB; obtain ⟨x1, x2, x3⟩ := bcell hB; simp only [World.size_alloc] at x1 x2 x3; clear hB; obtain ⟨hg, p, rfl⟩ | ⟨rfl, L, hL, hH⟩ := hr)
  · go_ret2
    exact ⟨HW1.out.trans (HB.out.mono (by simp)), .inl ⟨hg, rfl⟩⟩
  · simp only [World.size_alloc] at hH
    have hl' : Sl 3 encP w' lv live := (HL.out.below HW1.out).below HB.out
    have hn := c69 _ c lv qv gi L live at_ _ hH hl' (by have := hL.good.n1; omega) hL.live
    have HL' := Lib.hid hl'
    have HG := Lib.hid hL.good
    clear hl' hcall hL hH
    cases hf : isI live at_ with
    | false =>
      rw [show bsIs (fun x : Piece => cmpI x.pos at_) live = false from hf] at hn
      refine Calls.mono hn ?_
      rintro e2 w2 ⟨rfl, hB2⟩
      have HB2 := Lib.hid hB2
      clear hB2 hn
      go_wp2
      go_ret2
      exact ⟨HW1.out.trans ((HB.out.trans (HB2.out.mono HB.out.size)).mono (by simp)), .inr (.inl ⟨HG.out, hf, rfl⟩)⟩
    | true =>
      rw [show bsIs (fun x : Piece => cmpI x.pos at_) live = true from hf] at hn
      have hlt : bsAt (fun x : Piece => cmpI x.pos at_) live < live.length := by
        have := hf; unfold isI bsIs at this; simp only [decide_eq_true_eq] at this; exact this.1
      obtain ⟨i, hi⟩ : ∃ i, bsAt (fun x : Piece => cmpI x.pos at_) live = i := ⟨_, rfl⟩
      have hi' : atI live at_ = i := hi
      rw [hi] at hn hlt
      obtain ⟨A, ca, rfl, _, hl⟩ := HL'.out
      obtain ⟨b, off, rfl, hll⟩ := hl.resolve_left (by rintro rfl; simp at hlt)
      refine Calls.mono hn ?_
      rintro e2 w2 ⟨rfl, hB2⟩
      obtain ⟨l0, l1, l2⟩ := (hll.below hB2).at3 _ hlt
      obtain ⟨y1, y2, y3⟩ := bcell hB2
      have HB2 := Lib.hid hB2
      have hbx := (y1 w.heap.size 4 (by omega)).trans (x1 w.heap.size 4 (by omega))
      have HHI := Lib.hid hi'
      clear hB2 hn y1 y2 x1 x2 hi hi' hl hll
      have hn64 := HG.out.n1
      generalize hx : live[i]! = x at l0 l1 l2
      have HX := Lib.hid hx
      clear hx
      have HHF := Lib.hid hf
      clear hf
      generalize live.length = n at hlt hbx hn64 ⊢
      simp only [World.cell?_alloc_at] at hbx
      go_wp2
      go_ret2
      exact ⟨HW1.out.trans ((HB.out.trans (HB2.out.mono HB.out.size)).mono (by simp)), .inr (.inr ⟨HG.out, HHF.out, by rw [HHI.out, HX.out]; rfl⟩)⟩
end Go.Proofs.Ytbhbjcgbhklieaa

namespace Go.Proofs.Ytbhbjcgbhklieaa
open Go.RowKit Go.Shelf

theorem info38 : ∃ i, Try.prog.info? 38 = some i ∧ i.zero = some (.agg #[.int .u32 0, .int .i64 0, .int .i64 0]) ∧ i.size = 3 ∧ i.bytes = 24 := by
  have h : (Try.prog.info? 38).map (fun i => (i.zero, i.size, i.bytes)) = some (some (.agg #[.int .u32 0, .int .i64 0, .int .i64 0]), 3, 24) := by kernel_rfl
  cases hi : Try.prog.info? 38 with
  | none => rw [hi] at h; cases h
  | some i => rw [hi] at h; simp at h; exact ⟨i, rfl, h.1, h.2.1, h.2.2⟩

/-- the cells of a list, one behind the other. -/
theorem lies_flat {w : World} {b off : Nat} {zs : List Piece} (h : Lies 3 encP w b off zs) : ∀ j u, (zs.flatMap encP)[j]? = some u → w.cell? ⟨b, off + j, none⟩ = some u := by
  intro j u hu
  have hj := (List.getElem?_eq_some_iff.1 hu).1
  rw [flat_len encP 3 encP_len] at hj
  have hd : j / 3 < zs.length := by omega
  have e : j = j / 3 * 3 + j % 3 := by omega
  rw [e, flat_get encP 3 encP_len zs (j / 3) (j % 3) hd (by omega)] at hu
  have := h.2 (j / 3) hd (j % 3) u hu
  rw [e]
  rw [Nat.add_assoc] at this
  exact this

theorem c21 (v : Value) (zs : List Piece) (w : World) (hs : Sl 3 encP w v zs) (hv : ∀ A n c, v = .slice (some A) n c → ∃ b off, A = ⟨b, off, none⟩) (hn : zs.length ≤ 100000) :
    Calls Try.prog 21 #[v] w fun e w' => Below w.heap.size w w' ∧ ∃ A' c', e = .returned (.slice A' zs.length c') ∧ w'.ownsRow w.heap.size 38 3 (.slice A' zs.length c') zs.length (zs.flatMap encP) := by
  obtain ⟨A, c, rfl, hc, hl⟩ := hs
  cases A with
  | none =>
    have hz : zs = [] := hl.elim id fun ⟨_, _, h, _⟩ => by cases h
    subst hz
    have h := AnyE.slices_Clone_nil Try.cloneP 0 c w
    change Calls Try.prog 21 _ _ _ at h
    refine h.mono ?_
    rintro e w' ⟨rfl, rfl⟩
    exact ⟨Below.refl _ _, _, _, rfl, World.ownsRow_nil _ _ _ _⟩
  | some A =>
    obtain ⟨b, off, rfl⟩ := hv A zs.length c rfl
    obtain ⟨i0, hi0, hi1, hi2, hi3⟩ := info38
    have hf : ∀ j u, (zs.flatMap encP)[j]? = some u → w.cell? ⟨b, off + j, none⟩ = some u := by
      rcases hl with rfl | ⟨b', off', e, hl⟩
      · intro j u hu; simp at hu
      · cases e; exact lies_flat hl
    have h := AnyE.slices_Clone Try.cloneP i0 (.agg #[.int .u32 0, .int .i64 0, .int .i64 0]) 3 24 hi0 hi1 hi2 hi3 rfl (by omega) Try.sizeOf38 b off zs.length c (zs.flatMap encP) w (flat_len encP 3 encP_len zs) (by unfold maxLen; omega) (by omega) hf (by
      intro u hu
      obtain ⟨p, _, hp⟩ := List.mem_flatMap.1 hu
      simp [encP] at hp
      rcases hp with rfl | rfl | rfl <;> rfl)
    change Calls Try.prog 21 _ _ _ at h
    refine h.mono ?_
    rintro e w' ⟨v', rfl, h1, _, h3⟩
    have h2 := h1.2
    rcases h2 with ⟨rfl, h0⟩ | ⟨g, cap, cur, rfl, _⟩
    · exact ⟨h3, none, 0, by rw [h0], by rw [h0] at h1 ⊢; exact h1⟩
    · exact ⟨h3, _, _, rfl, h1⟩
end Go.Proofs.Ytbhbjcgbhklieaa

namespace Go.Proofs.Ytbhbjcgbhklieaa
open Go.RowKit Go.Shelf

set_option maxRecDepth 100000 in
set_option maxHeartbeats 1000000 in
theorem c30 (c : Conf) (w : World) :
    Calls Try.prog 30 #[.agg (encC c).toArray] w fun e w' => Below w.heap.size w w' ∧
      ((okConf c = false ∧ e = .returned (.tuple #[.agg #[.int .i64 0, .int .i64 0, .int .i64 0, .int .i64 0, .slice none 0 0, .slice none 0 0, .int .i64 0], .int .i64 1])) ∨
       (okConf c = true ∧ e = .returned (.tuple #[.agg #[.int .i64 c.page, .int .i64 c.n, .int .i64 c.red, .int .i64 c.quarantine, .slice none 0 0, .slice none 0 0, .int .i64 0], .int .i64 0]))) := by
  have hv := fun W => c79 c W
  unfold encC at hv ⊢
  cases hok : okConf c with
  | false =>
    rw [hok] at hv
    go_enter Try.func30, Try.ntmps30
    go_wp2_with (go_at_call 79; refine (hv _).mono ?_; rintro e w' ⟨rfl, rfl⟩)
    refine bodyPost_ret (v := .tuple #[.agg #[.int .i64 0, .int .i64 0, .int .i64 0, .int .i64 0, .slice none 0 0, .slice none 0 0, .int .i64 0], .int .i64 1]) (by simp [results, Try.results30, go_sem]) rfl ⟨?_, .inl ⟨trivial, rfl⟩⟩
    repeat' first | exact Below.refl _ _ | refine Below.alloc ?_ (by simp; try omega) _ | refine Below.setCell ?_ (by simp; try omega) _
  | true =>
    rw [hok] at hv
    go_enter Try.func30, Try.ntmps30
    go_wp2_with (go_at_call 79; refine (hv _).mono ?_; rintro e w' ⟨rfl, rfl⟩)
    refine bodyPost_ret (v := .tuple #[.agg #[.int .i64 c.page, .int .i64 c.n, .int .i64 c.red, .int .i64 c.quarantine, .slice none 0 0, .slice none 0 0, .int .i64 0], .int .i64 0]) (by simp [results, Try.results30, go_sem]) rfl ⟨?_, .inr ⟨trivial, rfl⟩⟩
    repeat' first | exact Below.refl _ _ | refine Below.alloc ?_ (by simp; try omega) _ | refine Below.setCell ?_ (by simp; try omega) _
end Go.Proofs.Ytbhbjcgbhklieaa

namespace Go.Proofs.Ytbhbjcgbhklieaa
open Go.RowKit Go.Shelf

def eqP (x y : Piece) : Bool := decide (x.pos = y.pos) && (decide (x.size = y.size) && decide (x.born = y.born))

theorem neqP : NeqAt Try.prog 38 (fun x : Piece => .agg (encP x).toArray) eqP := by
  refine ⟨fun x y w => ?_, fun op a b x y w => ?_⟩
  · simp only [encP]
    go_simp
    unfold eqP
    by_cases h1 : x.pos = y.pos <;> by_cases h2 : x.size = y.size <;> by_cases h3 : x.born = y.born <;> simp [h1, h2, h3]
  · simp only [encP]
    unfold eqGuard
    split <;> go_simp

theorem c22 (b1 o1 n c b2 o2 m d : Nat) (xs ys : List Piece) (w : World) (hn : n = xs.length) (hm : m = ys.length) (n1 : xs.length ≤ 9223372036854775807) (n2 : ys.length ≤ 9223372036854775807) (h1 : Lies 3 encP w b1 o1 xs) (h2 : Lies 3 encP w b2 o2 ys) :
    Calls Try.prog 22 #[.slice (some ⟨b1, o1, none⟩) n c, .slice (some ⟨b2, o2, none⟩) m d] w fun e w' => e = .returned (.bool (Lib.allEq eqP xs ys)) ∧ Below w.heap.size w w' := by
  subst hn; subst hm
  have h := AnyQ.slices_Equal Try.equalP 3 Try.isAgg38 Try.sizeOf38 encP encP_len eqP neqP b1 o1 xs.length c b2 o2 ys.length d xs ys w (Nat.le_refl _) (Nat.le_refl _) (by omega) (by omega) h1.2 h2.2
  change Calls Try.prog 22 _ _ _ at h
  refine h.mono ?_
  rintro e w' ⟨rfl, q, rfl⟩
  exact ⟨by rw [List.take_length, List.take_length], ⟨rfl, rfl, rfl, Nat.le_refl _, fun _ _ => rfl⟩⟩
end Go.Proofs.Ytbhbjcgbhklieaa

namespace Go.Proofs.Ytbhbjcgbhklieaa
open Go.RowKit Go.Shelf

theorem c22_len (A B : Option Addr) (n c m d : Nat) (w : World) (h : n ≠ m) :
    Calls Try.prog 22 #[.slice A n c, .slice B m d] w fun e w' => e = .returned (.bool false) ∧ w' = w := by
  have h' : (n : Int) ≠ (m : Int) := by omega
  go_enter Try.func22, Try.ntmps22
  go_wp2
  go_ret
  exact ⟨rfl, rfl⟩

theorem c22_nil (A B : Option Addr) (c d : Nat) (w : World) :
    Calls Try.prog 22 #[.slice A 0 c, .slice B 0 d] w fun e w' => e = .returned (.bool true) ∧ w' = w := by
  go_enter Try.func22, Try.ntmps22
  go_wp2
  refine wp_loop_rounds 1 ?_
  rw [rounds_succ]
  go_wp2
  go_ret
  exact ⟨rfl, rfl⟩

theorem allEq_len : ∀ (xs ys : List Piece), xs.length ≠ ys.length → Lib.allEq eqP xs ys = false
  | [], [], h => absurd rfl h
  | [], _ :: _, _ => rfl
  | _ :: _, [], _ => rfl
  | x :: xs, y :: ys, h => by
    have := allEq_len xs ys (by simpa using h)
    simp [Lib.allEq, this]

theorem c22v (v1 v2 : Value) (xs ys : List Piece) (w : World) (n1 : xs.length ≤ 9223372036854775807) (n2 : ys.length ≤ 9223372036854775807) (h1 : Sl 3 encP w v1 xs) (h2 : Sl 3 encP w v2 ys) :
    Calls Try.prog 22 #[v1, v2] w fun e w' => e = .returned (.bool (Lib.allEq eqP xs ys)) ∧ Below w.heap.size w w' := by
  obtain ⟨A, ca, rfl, _, h1⟩ := h1
  obtain ⟨B, cb, rfl, _, h2⟩ := h2
  by_cases hl : xs.length = ys.length
  · rcases h1 with rfl | ⟨b1, o1, rfl, h1⟩
    · have : ys = [] := List.eq_nil_of_length_eq_zero hl.symm
      subst this
      exact (c22_nil A B ca cb w).mono fun e w' ⟨he, hw⟩ => ⟨by rw [he]; rfl, by rw [hw]; exact Below.refl _ _⟩
    · rcases h2 with rfl | ⟨b2, o2, rfl, h2⟩
      · have : xs = [] := List.eq_nil_of_length_eq_zero hl
        subst this
        exact (c22_nil _ B ca cb w).mono fun e w' ⟨he, hw⟩ => ⟨by rw [he]; rfl, by rw [hw]; exact Below.refl _ _⟩
      · exact c22 b1 o1 _ ca b2 o2 _ cb xs ys w rfl rfl n1 n2 h1 h2
  · exact (c22_len A B _ ca _ cb w hl).mono fun e w' ⟨he, hw⟩ => ⟨by rw [he, allEq_len xs ys hl], by rw [hw]; exact Below.refl _ _⟩
end Go.Proofs.Ytbhbjcgbhklieaa
