/- Outside. -/
import Derived.Test.YtbhbjcgbhklieaaE4
namespace Go.Proofs.Ytbhbjcgbhklieaa
open Go.RowKit Go.Shelf

def outGo (L : List Ext) (live : List Piece) : Nat → Int → Int → Option Int
  | 0, _, _ => none
  | f + 1, at_, n => if n ≤ 0 then none else if (nearF L at_).1 ≠ 1 then some at_ else
      outGo L live f ((at_ + (live[(nearF L at_).2.1.toNat]!.size - (nearF L at_).2.2)) % 4294967296) (n - (live[(nearF L at_).2.1.toNat]!.size - (nearF L at_).2.2))
def outR : Option Int → Ending
  | none => .returned (.tuple #[.int .u32 0, .bool false])
  | some a => .returned (.tuple #[.int .u32 a, .bool true])

theorem items_ix (red : Int) : ∀ (q : Bool) (i : Nat) (l : List Piece) (x : Ext), x ∈ itemsFrom red q i l → ∃ j, j < l.length ∧ x = mkE red q (i + j) l[j]!
  | _, _, [], _, h => by cases h
  | q, i, p :: l, x, h => by
    simp only [itemsFrom, List.mem_cons] at h
    rcases h with rfl | h
    · exact ⟨0, by simp, by simp⟩
    · obtain ⟨j, hj, rfl⟩ := items_ix red q (i + 1) l x h
      exact ⟨j + 1, by simpa using hj, by simp; congr 1; omega⟩

theorem good_size' {c : Conf} {gi : Int} {live quar : List Piece} (g : Good c gi live quar) (wl : ∀ p ∈ live, WfP p) (wq : ∀ p ∈ quar, WfP p) : ∀ p ∈ live ++ quar, 0 ≤ p.size ∧ p.size ≤ 65536 := fun p hp => by
  have := ((good_iff wl wq).1 g).each p hp
  exact ⟨this.2.1, this.2.2.1⟩
theorem near_live {c : Conf} {gi : Int} {live quar : List Piece} {L : List Ext} (h : Op c gi live quar L) {at_ : Int} (hk : (nearF L at_).1 = 1) :
    ∃ j, j < live.length ∧ (nearF L at_).2.1 = (j : Int) ∧ (nearF L at_).2.2 = at_ - live[j]!.pos ∧ 0 ≤ at_ - live[j]!.pos ∧ at_ - live[j]!.pos < live[j]!.size := by
  unfold nearF at hk ⊢
  by_cases hb : bsIs (fun x => nearI x at_) L = true
  · rw [if_pos hb] at hk ⊢
    have hlt : bsAt (fun x => nearI x at_) L < L.length := by unfold bsIs at hb; simp only [decide_eq_true_eq] at hb; exact hb.1
    generalize bsAt (fun x => nearI x at_) L = k at hk hlt ⊢
    have hm : L[k]! ∈ items c.red live quar := h.perm.mem_iff.1 (by rw [getElem!_pos L k hlt]; exact List.getElem_mem hlt)
    generalize L[k]! = x at hk hm ⊢
    simp only at hk ⊢
    have hq : x.quar = false := by
      cases hx : x.quar with
      | false => rfl
      | true => rw [hx] at hk; simp only [if_true] at hk; split at hk <;> omega
    rcases List.mem_append.1 hm with hm | hm
    · obtain ⟨j, hj, rfl⟩ := items_ix _ _ _ _ _ hm
      have e1 : (mkE c.red false (0 + j) live[j]!).p = live[j]! := rfl
      have e2 : (mkE c.red false (0 + j) live[j]!).ix = ((0 + j : Nat) : Int) := rfl
      rw [e1, hq] at hk
      rw [e1, e2]
      refine ⟨j, hj, by omega, rfl, ?_⟩
      split at hk
      · assumption
      · simp at hk
    · obtain ⟨j, hj, rfl⟩ := items_ix _ _ _ _ _ hm
      cases hq
  · rw [if_neg hb] at hk
    simp at hk

set_option maxRecDepth 100000 in
set_option maxHeartbeats 4000000 in
theorem c28 (c : Conf) (lv qv : Value) (gi : Int) (live quar : List Piece) (at_ n : Int) (w : World) (hl : Sl 3 encP w lv live) (hq : Sl 3 encP w qv quar) (wl : ∀ p ∈ live, WfP p) (wq : ∀ p ∈ quar, WfP p) (h0 : 0 ≤ at_) (h1 : at_ < 4294967296) (hn0 : -9223372036854775808 ≤ n) (hn1 : n ≤ 9223372036854775807) :
    Calls Try.prog 28 #[hAgg c lv qv gi, .int .u32 at_, .int .i64 n] w fun e w' => Below w.heap.size w w' ∧
      ((¬ Good c gi live quar ∧ e = .returned (.tuple #[.int .u32 0, .bool false])) ∨ (∃ L, Op c gi live quar L ∧ e = outR (outGo L live n.toNat at_ n))) := by
  have HL := Lib.hid hl
  have HWL := Lib.hid wl
  have HWQ := Lib.hid wq
  obtain ⟨A, ca, rfl, _, _⟩ := hl
  obtain ⟨B, cb, rfl, _, _⟩ := id hq
  have hw1 := below_alloc1 w (.cells #[.int .i64 c.page, .int .i64 c.n, .int .i64 c.red, .int .i64 c.quarantine, .slice A live.length ca, .slice B quar.length cb, .int .i64 gi] 26)
  have hcall := c68' c _ _ gi live quar _ (HL.out.below hw1) (hq.below hw1) wl wq
  have HW1 := Lib.hid hw1
  clear wl wq hw1 hq
  go_enter Try.func28, Try.ntmps28
  go_wp2_with fail
  refine hcall.mono ?_
  rintro e w1 ⟨hB, hr⟩
  have hb0 : w1.heap[w.heap.size]? = some (.cells #[.int .i64 c.page, .int .i64 c.n, .int .i64 c.red, .int .i64 c.quarantine, .slice A live.length ca, .slice B quar.length cb, .int .i64 gi] 26 (0, 0)) := (hB.block _ (by simp; try omega)).trans (hal_new rfl)
  have hBw : Below w.heap.size w w1 := HW1.out.trans (hB.mono (by simp; try omega))
  have hsz : w.heap.size + 1 ≤ w1.heap.size := by have := hB.size; simpa using this
  simp only [World.size_alloc] at hr
  clear hB hcall
  obtain ⟨hg, p, rfl⟩ | ⟨rfl, L, hL, hH⟩ := hr
  · have HBW := Lib.hid hBw
    clear hBw hb0
    go_wp2
    go_ret2
    exact ⟨HBW.out, .inl ⟨hg, rfl⟩⟩
  have HOP := Lib.hid hL
  have hnl := hL.len
  have HH := Lib.hid hH
  have HBW := Lib.hid hBw
  have HB0 := Lib.hid hb0
  have hn64 := hL.good.n1
  clear hL hH hBw hb0
  go_wp2
  go_loopg [1, 2] n.toNat (fun kx s1 s2 wr => ∃ (a m : Int), 0 ≤ a ∧ a < 4294967296 ∧ -9223372036854775808 ≤ m ∧ m ≤ 9223372036854775807 ∧ s1 = .int .u32 a ∧ s2 = .int .i64 m ∧ m.toNat ≤ kx ∧ Hid (outGo L live kx a m = outGo L live n.toNat at_ n) ∧ Hid (Below w1.heap.size w1 wr))
  case atStart => exact ⟨at_, n, h0, h1, hn0, hn1, rfl, rfl, Nat.le_refl _, (rfl : outGo L live n.toNat at_ n = outGo L live n.toNat at_ n), Below.refl _ _⟩
  case round =>
    obtain ⟨a, m, a0, a1, m0, m1, rfl, rfl, hkx, HOUT, HBr⟩ := hrel
    have hsr := HBr.out.size
    by_cases hm : 0 < m
    · have hnear := c75 (w.heap.size + 1 + 3) c _ _ gi L a wr (HH.out.below HBr.out) (by omega) a0 a1 HOP.out.to HOP.out.pos
      have HN := Lib.hid hnear
      clear hnear
      have hgt : ¬ m ≤ 0 := by omega
      obtain ⟨f, rfl⟩ : ∃ f, gk = f + 1 := ⟨gk - 1, by omega⟩
      have hout := HOUT.out
      rw [outGo, if_neg hgt] at hout
      go_wp2_with fail
      refine Calls.mono HN.out ?_
      clear HN
      rintro e w2 ⟨rfl, hB2⟩
      have hB12 : Below w1.heap.size w1 w2 := HBr.out.trans (hB2.mono hsr)
      by_cases hk : (nearF L a).1 = 1
      · obtain ⟨j, hj, e1, e2, o0, o1⟩ := near_live HOP.out hk
        have hpc : ∀ (k : Nat) u, (encP live[j]!)[k]? = some u → ∃ bb off, A = some ⟨bb, off, none⟩ ∧ bb < w2.heap.size ∧ w2.cell? ⟨bb, off + j * 3 + k, none⟩ = some u := fun k u hu => by
          obtain ⟨A', c', e, _, hl⟩ := (HL.out.below HBW.out).below hB12
          cases e
          obtain ⟨bb, off, eA, hl2⟩ := hl.resolve_left (by rintro rfl; simp at hj)
          exact ⟨bb, off, eA, hl2.1, hl2.2 j hj k u hu⟩
        have hsz1 := good_size' HOP.out.good HWL.out HWQ.out live[j]! (List.mem_append_left _ (by rw [getElem!_pos live j hj]; exact List.getElem_mem hj))
        rw [if_neg (by rw [hk]; simp), e1, e2, Int.toNat_natCast] at hout
        obtain ⟨bb, off, rfl, hbb, hc1⟩ := hpc 1 _ rfl
        have hb02 : w2.heap[w.heap.size]? = some (.cells #[.int .i64 c.page, .int .i64 c.n, .int .i64 c.red, .int .i64 c.quarantine, .slice (some ⟨bb, off, none⟩) live.length ca, .slice B quar.length cb, .int .i64 gi] 26 (0, 0)) := (hB12.block _ (by omega)).trans HB0.out
        have g4 := blk_cell hb02 4
        simp only [List.getElem?_toArray, List.getElem?_cons_succ, List.getElem?_cons_zero] at g4
        rw [hk, e1, e2]
        generalize live[j]! = q at hout hc1 o0 o1 hsz1 ⊢
        have hlt0 : w.heap.size < w2.heap.size := blk_lt hb02
        have HOUT2 := Lib.hid hout
        have HB12 := Lib.hid hB12
        clear hout hB12 hb02 hpc e1 e2 hk HOUT hB2
        have hu : IntKind.u32.wrap (a + IntKind.u32.wrap (q.size - (a - q.pos))) = (a + (q.size - (a - q.pos))) % 4294967296 := by simp only [IntKind.wrap, IntKind.bits, IntKind.signed]; simp
        have hu2 : IntKind.i64.wrap (a - q.pos) = a - q.pos := by rw [IntKind.wrap_i64]; omega
        go_wp2
        go_quiet (fail)
        go_wp2
        go_roundg f
        case measure => omega
        case rel =>
          refine ⟨_, _, by omega, by omega, ?_, ?_, rfl, rfl, by omega, HOUT2.out, ?_⟩
          · omega
          · omega
          · exact below_drewN (HB12.out.alloc HB12.out.size _) _
      · have hk' : ((nearF L a).1 == 1) = false := by simpa using hk
        rw [if_pos hk] at hout
        have HOUT2 := Lib.hid hout
        have HB12 := Lib.hid hB12
        generalize (nearF L a).1 = z1 at hk hk' ⊢
        generalize (nearF L a).2.1 = z2 at ⊢
        generalize (nearF L a).2.2 = z3 at ⊢
        clear hout hB12 HOUT hB2
        go_wp2
        go_ret2
        exact ⟨(HBW.out.trans (HB12.out.mono (by omega))).alloc (by have := HB12.out.size; omega) _, .inr ⟨L, HOP.out, by rw [← HOUT2.out]; rfl⟩⟩
    · have hle : m ≤ 0 := by omega
      have hout : outGo L live n.toNat at_ n = none := by
        rw [← HOUT.out]
        cases gk with
        | zero => rfl
        | succ f => rw [outGo, if_pos hle]
      have HOUT2 := Lib.hid hout
      clear hout HOUT
      go_wp2
      go_ret2
      exact ⟨HBW.out.trans (HBr.out.mono (by omega)), .inr ⟨L, HOP.out, by rw [HOUT2.out]; rfl⟩⟩
end Go.Proofs.Ytbhbjcgbhklieaa
