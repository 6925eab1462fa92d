/- live, near: look-ups in a heap that was opened. -/
import Derived.Test.YtbhbjcgbhklieaaA4
namespace Go.Proofs.Ytbhbjcgbhklieaa
open Go.RowKit

/-- Block g holds an opened heap. -/
structure HeapB (w : World) (g : Nat) (c : Conf) (lv qv : Value) (gi : Int) (L : List Ext) : Prop where
  out : ∃ lsv, w.heap[g]? = some (.cells #[.int .i64 c.page, .int .i64 c.n, .int .i64 c.red, .int .i64 c.quarantine, lv, qv, .int .i64 gi, lsv] 123 (0, 0)) ∧ Sl 7 encE w lsv L

theorem blk_cell {w : World} {g : Nat} {cs : Array Value} {t : TypeId} {f : Nat × Nat} (h : w.heap[g]? = some (.cells cs t f)) (j : Nat) : w.cell? ⟨g, j, none⟩ = cs[j]? := by simp [World.cell?, h]
theorem blk_lt {w : World} {g : Nat} {o : Obj} (h : w.heap[g]? = some o) : g < w.heap.size := (Array.getElem?_eq_some_iff.1 h).1

theorem HeapB.below {w W : World} {g : Nat} {c : Conf} {lv qv : Value} {gi : Int} {L : List Ext} (h : HeapB w g c lv qv gi L) (hW : Below w.heap.size w W) : HeapB W g c lv qv gi L := by
  obtain ⟨lsv, hb, hs⟩ := h.out
  exact ⟨lsv, (hW.block g (blk_lt hb)).trans hb, hs.below hW⟩

theorem bcell {W w1 : World} (hb : Below W.heap.size W w1) : (∀ b o, b < W.heap.size → w1.cell? ⟨b, o, none⟩ = W.cell? ⟨b, o, none⟩) ∧ (∀ b o, b < W.heap.size → w1.frozen? ⟨b, o, none⟩ = W.frozen? ⟨b, o, none⟩) ∧ W.heap.size ≤ w1.heap.size :=
  ⟨fun b o h => hb.cell (p := ⟨b, o, none⟩) h, fun b o h => hb.frozen (p := ⟨b, o, none⟩) h, hb.size⟩

theorem lt2 {n m : Nat} (h : n + 1 + 1 ≤ m) : n < m ∧ n + 1 < m ∧ n < m + 1 ∧ n + 1 < m + 1 ∧ n < m + 1 + 1 ∧ n + 1 < m + 1 + 1 := by omega

theorem cmpI_mono (at_ a b : Int) (h : a ≤ b) (hb : cmpI b at_ < 0) : cmpI a at_ < 0 := by
  unfold cmpI at *; split at hb <;> split <;> (try split) <;> (try split at hb) <;> omega

set_option maxHeartbeats 400000 in
theorem u94 (A : Nat) (at_ : Int) (w : World) (hA : A < w.heap.size) (ha : w.cell? ⟨A, 0, none⟩ = some (.int .u32 at_)) : CmpU 94 #[.pointer (some ⟨A, 0, none⟩)] encP (fun x => cmpI x.pos at_) w := fun W x hW =>
  (c94 x at_ A W (Nat.lt_of_lt_of_le hA hW.size) ((hW.cell (p := ⟨A, 0, none⟩) hA).trans ha)).mono fun e w' ⟨he, hw⟩ => ⟨he, by subst hw; exact below_alloc1 _ _⟩

theorem u98 (A : Nat) (at_ : Int) (w : World) (hA : A < w.heap.size) (ha : w.cell? ⟨A, 0, none⟩ = some (.int .u32 at_)) (h0 : 0 ≤ at_) (h1 : at_ < 4294967296) : CmpU 98 #[.pointer (some ⟨A, 0, none⟩)] encE (fun x => nearI x at_) w := fun W x hW =>
  (c98 x at_ A W (Nat.lt_of_lt_of_le hA hW.size) ((hW.cell (p := ⟨A, 0, none⟩) hA).trans ha) h0 h1).mono fun e w' ⟨he, hw⟩ => ⟨he, by subst hw; exact below_alloc1 _ _⟩

set_option maxHeartbeats 400000 in
/-- live: the index of the live block that begins at an address, or where it would stand. -/
theorem c69 (g : Nat) (c : Conf) (lv qv : Value) (gi : Int) (L : List Ext) (live : List Piece) (at_ : Int) (w : World) (hh : HeapB w g c lv qv gi L) (hs : Sl 3 encP w lv live) (hbig : live.length < 4611686018427387904)
    (hsort : ∀ i j, i ≤ j → j < live.length → live[i]!.pos ≤ live[j]!.pos) :
    Calls Try.prog 69 #[.pointer (some ⟨g, 0, none⟩), .int .u32 at_] w fun e w' => e = .returned (.tuple #[.int .i64 (bsAt (fun x => cmpI x.pos at_) live), .bool (bsIs (fun x => cmpI x.pos at_) live)]) ∧ Below w.heap.size w w' := by
  obtain ⟨lsv, hb, _⟩ := hh.out
  have hg := blk_lt hb
  have h4 := blk_cell hb 4
  simp only [List.getElem?_toArray, List.getElem?_cons_succ, List.getElem?_cons_zero] at h4
  have hw1 := below_alloc1 w (.cells #[.int .u32 at_] 27)
  have hcall := c93 (fun x => cmpI x.pos at_) 94 #[.pointer (some ⟨w.heap.size, 0, none⟩)] (enters_of Try.func94 (by kernel_rfl) rfl) lv live (w.alloc (.cells #[.int .u32 at_] 27)) (u94 _ _ _ (by simp) (by simp)) (hs.below hw1) hbig
    (fun i j hij hj h => cmpI_mono _ _ _ (hsort i j hij hj) h)
  have HW1 := Lib.hid hw1
  clear hw1 hsort hs hh hb
  go_enter Try.func69, Try.ntmps69
  go_wp2_with (go_at_call 93; refine hcall.mono ?_; rintro e w' ⟨rfl, BW'⟩)
  go_ret2
  exact ⟨rfl, HW1.out.trans (BW'.mono (by simp))⟩

def nearF (L : List Ext) (at_ : Int) : Int × Int × Int :=
  if bsIs (fun x => nearI x at_) L then
    let x := L[bsAt (fun x => nearI x at_) L]!
    ((if 0 ≤ at_ - x.p.pos ∧ at_ - x.p.pos < x.p.size then 1 else 2) + (if x.quar then 2 else 0), x.ix, at_ - x.p.pos)
  else (0, 0, 0)

set_option maxRecDepth 100000 in
set_option maxHeartbeats 1000000 in
theorem c75 (g : Nat) (c : Conf) (lv qv : Value) (gi : Int) (L : List Ext) (at_ : Int) (w : World) (hh : HeapB w g c lv qv gi L) (hbig : L.length < 4611686018427387904) (h0 : 0 ≤ at_) (h1 : at_ < 4294967296)
    (hsort : ∀ i j, i ≤ j → j < L.length → L[i]!.to ≤ L[j]!.to) (hpos : ∀ i, i < L.length → 0 ≤ L[i]!.p.pos ∧ L[i]!.p.pos < 4294967296) :
    Calls Try.prog 75 #[.pointer (some ⟨g, 0, none⟩), .int .u32 at_] w fun e w' => e = .returned (.agg #[.int .i64 (nearF L at_).1, .int .i64 (nearF L at_).2.1, .int .i64 (nearF L at_).2.2]) ∧ Below w.heap.size w w' := by
  obtain ⟨lsv, hb, hs⟩ := hh.out
  have hg := blk_lt hb
  have h7 := blk_cell hb 7
  simp only [List.getElem?_toArray, List.getElem?_cons_succ, List.getElem?_cons_zero] at h7
  have hw1 := below_alloc1 w (.cells #[.int .u32 at_] 27)
  have hw2 : Below w.heap.size w ((w.alloc (.cells #[.int .u32 at_] 27)).alloc (.cells #[.int .i64 0, .int .i64 0, .int .i64 0] 48)) := hw1.alloc (by simp) _
  have hcall := c97 (fun x => nearI x at_) 98 #[.pointer (some ⟨w.heap.size, 0, none⟩)] (enters_of Try.func98 (by kernel_rfl) rfl) lsv L _ ((u98 w.heap.size at_ _ (by simp) (by simp) h0 h1).later (below_alloc1 _ (.cells #[.int .i64 0, .int .i64 0, .int .i64 0] 48))) (hs.below hw2) hbig
    (fun i j hij hj h => by have := hsort i j hij hj; simp only [nearI] at *; split at h <;> split <;> (try split) <;> (try split at h) <;> omega)
  have HW2 := Lib.hid hw2
  have HS := Lib.hid (hs.below hw2)
  have HPOS := Lib.hid hpos
  obtain ⟨nf, hnf⟩ : ∃ nf, nearF L at_ = nf := ⟨_, rfl⟩
  rw [hnf]
  unfold nearF at hnf
  have HNF := Lib.hid hnf
  clear hw1 hw2 hsort hs hh hb hpos hnf hbig
  generalize hk : bsAt (fun x => nearI x at_) L = k at hcall
  have HK := Lib.hid hk
  clear hk
  cases his : bsIs (fun x => nearI x at_) L with
  | false =>
    rw [his] at hcall
    have HI := Lib.hid his
    clear his
    go_enter Try.func75, Try.ntmps75
    go_wp2_with (go_at_call 97; refine hcall.mono ?_; rintro e w' ⟨rfl, BW'⟩; obtain ⟨hc1, hf1, hz1⟩ := bcell BW'; (simp only [World.size_alloc] at hz1); replace BW' := Lib.hid BW')
    refine bodyPost_ret (v := .agg #[.int .i64 nf.1, .int .i64 nf.2.1, .int .i64 nf.2.2]) ?_ rfl ⟨rfl, ?_⟩
    · have h := HNF.out
      rw [HI.out] at h
      subst h
      simp [results, Try.results75, go_sem, hc1]
    · exact (((HW2.out.trans (BW'.out.mono (by simp; omega))).setCell (by simp) _).setCell (by simp) _).setCell (by simp) _
  | true =>
    rw [his] at hcall
    have hkl : k < L.length ∧ nearI L[k]! at_ = 0 := by
      have h := his
      rw [bsIs, HK.out] at h
      exact of_decide_eq_true h
    have hk0 := (HPOS.out k hkl.1)
    obtain ⟨A, cc, hlsv, _, rfl | ⟨b, off, rfl, hl⟩⟩ := HS.out
    · simp at hkl
    obtain ⟨l0, l1, l2, l3, l4, l5, l6⟩ := hl.at7 k hkl.1
    have hbl := hl.1
    simp only [World.size_alloc] at hbl
    have hnf2 := HNF.out
    rw [his, HK.out, if_pos rfl] at hnf2
    generalize hy : L[k]! = y at l0 l1 l2 l3 l4 l5 l6 hk0 hnf2
    subst hlsv
    have hkn := hkl.1
    generalize hn : L.length = n at hkn hcall h7
    have HI := Lib.hid his
    have HN2 := Lib.hid hnf2
    clear his HNF hnf2 hkl hl HPOS HS hy HK hn
    have hg1 : g < w.heap.size + 1 := by omega
    have hg2 : g < w.heap.size + 1 + 1 := by omega
    go_enter Try.func75, Try.ntmps75
    go_wp2_with (go_at_call 97; refine hcall.mono ?_; rintro e w' ⟨rfl, BW'⟩; obtain ⟨hc1, hf1, hz1⟩ := bcell BW'; (simp only [World.size_alloc] at hz1); replace BW' := Lib.hid BW'; go_loud (obtain ⟨q1, q2, q3, q4, q5, q6⟩ := lt2 hz1))
    all_goals
      refine bodyPost_ret (v := .agg #[.int .i64 nf.1, .int .i64 nf.2.1, .int .i64 nf.2.2]) ?_ rfl ⟨rfl, ?_⟩
      · have h := HN2.out
        have hq : ∀ b, y.quar = b → (if y.quar = true then (2 : Int) else 0) = if b = true then 2 else 0 := fun b e => by rw [e]
        first
          | rw [if_pos (show 0 ≤ at_ - y.p.pos ∧ at_ - y.p.pos < y.p.size from ⟨by omega, by omega⟩)] at h
          | rw [if_neg (show ¬ (0 ≤ at_ - y.p.pos ∧ at_ - y.p.pos < y.p.size) from by omega)] at h
        rw [hq _ (by assumption)] at h
        clear hq
        subst h
        simp [results, Try.results75, go_sem, hc1, q2, q4]
      · repeat' first | exact HW2.out.trans (BW'.out.mono (by simp; omega)) | refine Below.setCell ?_ (by simp; try omega) _ | refine Below.alloc ?_ (by simp; try omega) _
end Go.Proofs.Ytbhbjcgbhklieaa
