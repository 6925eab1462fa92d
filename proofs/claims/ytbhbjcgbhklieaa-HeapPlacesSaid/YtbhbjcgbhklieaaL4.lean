/- HeapPlaces: the walk. -/
import Derived.Test.YtbhbjcgbhklieaaE12
import Derived.Test.YtbhbjcgbhklieaaF2
import Derived.Test.YtbhbjcgbhklieaaF4
import Derived.Test.YtbhbjcgbhklieaaG2
import Derived.Test.YtbhbjcgbhklieaaR1
import Derived.Deep.QuietTactic
import Derived.BigQuiet
namespace Go.Proofs.Ytbhbjcgbhklieaa
open Go.RowKit Go.Shelf

theorem below_drewN' {B : Nat} {a w : World} (h : Below B a w) (n : Nat) : Below B a (w.drewN n) := h.trans ⟨rfl, rfl, rfl, Nat.le_refl _, fun _ _ => rfl⟩
theorem c28_in (c : Conf) (lv qv : Value) (gi : Int) (live quar : List Piece) (at_ : Int) (w : World) (hl : Sl 3 encP w lv live) (hq : Sl 3 encP w qv quar) (wl : ∀ p ∈ live, WfP p) (wq : ∀ p ∈ quar, WfP p) (h0 : 0 ≤ at_) (h1 : at_ < 4294967296) {L : List Ext} (hop : Op c gi live quar L) (hk : (nearF L at_).1 = 1) :
    Calls Try.prog 28 #[hAgg c lv qv gi, .int .u32 at_, .int .i64 1] w fun e w' => e = .returned (.tuple #[.int .u32 0, .bool false]) ∧ Below w.heap.size w w' := by
  refine (c28 c lv qv gi live quar at_ 1 w hl hq wl wq h0 h1 (by decide) (by decide)).mono ?_
  rintro e w' ⟨hB, ⟨hng, _⟩ | ⟨L', hop', rfl⟩⟩
  · exact absurd hop.good hng
  · rw [hop.uniq hop', out_one, if_pos hk]
    exact ⟨rfl, hB⟩
theorem c28_out (c : Conf) (lv qv : Value) (gi : Int) (live quar : List Piece) (at_ : Int) (w : World) (hl : Sl 3 encP w lv live) (hq : Sl 3 encP w qv quar) (wl : ∀ p ∈ live, WfP p) (wq : ∀ p ∈ quar, WfP p) (h0 : 0 ≤ at_) (h1 : at_ < 4294967296) {L : List Ext} (hop : Op c gi live quar L) (hk : ¬ (nearF L at_).1 = 1) :
    Calls Try.prog 28 #[hAgg c lv qv gi, .int .u32 at_, .int .i64 1] w fun e w' => e = .returned (.tuple #[.int .u32 at_, .bool true]) ∧ Below w.heap.size w w' := by
  refine (c28 c lv qv gi live quar at_ 1 w hl hq wl wq h0 h1 (by decide) (by decide)).mono ?_
  rintro e w' ⟨hB, ⟨hng, _⟩ | ⟨L', hop', rfl⟩⟩
  · exact absurd hop.good hng
  · rw [hop.uniq hop', out_one, if_neg hk]
    exact ⟨rfl, hB⟩

theorem sl_some {α : Type} [Inhabited α] {k : Nat} {enc : α → List Value} {w : World} {A : Option Addr} {n c : Nat} {zs : List α} (h : Sl k enc w (.slice A n c) zs) {j : Nat} (hj : j < zs.length) : ∃ b off, A = some ⟨b, off, none⟩ ∧ Lies k enc w b off zs := by
  obtain ⟨A', c', e, _, h0 | ⟨b, off, rfl, hl⟩⟩ := h
  · subst h0; simp at hj
  · cases e; exact ⟨b, off, rfl, hl⟩

set_option maxRecDepth 100000 in
set_option maxHeartbeats 4000000 in
theorem c4 (c : Conf) (lv qv : Value) (gi : Int) (live quar : List Piece) (at_ : Int) (w : World) (hin : HeapIn w c lv qv gi live quar) (hat : 0 ≤ at_ ∧ at_ < 4294967296) :
    Calls Try.prog 4 #[hAgg c lv qv gi, .int .u32 at_] w fun e w' => e = .returned (.bool true) ∧ Below w.heap.size w w' := by
  have HL := Lib.hid hin.hl
  have HQ := Lib.hid hin.hq
  have HWL : Hid (∀ p ∈ live, WfP p) := fun p hp => (hin.wl p hp).1
  have HWQ : Hid (∀ p ∈ quar, WfP p) := fun p hp => (hin.wq p hp).1
  have HSL := Lib.hid hin.sl
  have HSQ := Lib.hid hin.sq
  obtain ⟨A, ca, rfl, _, _⟩ := id hin.hl
  obtain ⟨B, cb, rfl, _, _⟩ := id hin.hq
  clear hin
  obtain ⟨a0, a1⟩ := hat
  go_enter Try.func4, Try.ntmps4
  go_wp2_with fail
  refine Calls.mono (c16 _) ?_
  rintro e w1 ⟨rfl, hB1⟩
  have hb0 : w1.heap[w.heap.size]? = some (.cells #[.int .i64 c.page, .int .i64 c.n, .int .i64 c.red, .int .i64 c.quarantine, .slice A live.length ca, .slice B quar.length cb, .int .i64 gi] 26 (0, 0)) := (hB1.block _ (by simp; try omega)).trans (hal_new rfl)
  have hBw : Below w.heap.size w w1 := ((Below.refl _ _).alloc (Nat.le_refl _) _).trans (hB1.mono (by simp; try omega))
  have q0 := blk_cell hb0 0
  have q1 := blk_cell hb0 1
  have q2 := blk_cell hb0 2
  have q3 := blk_cell hb0 3
  have q4 := blk_cell hb0 4
  have q5 := blk_cell hb0 5
  have q6 := blk_cell hb0 6
  simp only [List.getElem?_toArray, List.getElem?_cons_succ, List.getElem?_cons_zero] at q0 q1 q2 q3 q4 q5 q6
  have HB0 := Lib.hid hb0
  have HBW := Lib.hid hBw
  have hlt0 : w.heap.size < w1.heap.size := blk_lt hb0
  clear hB1 hBw hb0
  go_wp2_with fail
  refine Calls.mono (c17 w1.heap.size c A B live.length ca quar.length cb gi _ (hal_new rfl)) ?_
  rintro e w2 ⟨rfl, hB2⟩
  have hb02 : w2.heap[w.heap.size]? = some (.cells #[.int .i64 c.page, .int .i64 c.n, .int .i64 c.red, .int .i64 c.quarantine, .slice A live.length ca, .slice B quar.length cb, .int .i64 gi] 26 (0, 0)) := (hB2.block _ (by simp; omega)).trans (hal_old HB0.out)
  have hBw2 : Below w.heap.size w w2 := (HBW.out.alloc (by omega) _).trans (hB2.mono (by simp; omega))
  have hB12 : Below w1.heap.size w1 w2 := (below_alloc1 w1 _).trans (hB2.mono (by simp))
  clear q0 q1 q2 q3 q4 q5 q6
  have q0 := blk_cell hb02 0
  have q1 := blk_cell hb02 1
  have q2 := blk_cell hb02 2
  have q3 := blk_cell hb02 3
  have q4 := blk_cell hb02 4
  have q5 := blk_cell hb02 5
  have q6 := blk_cell hb02 6
  simp only [List.getElem?_toArray, List.getElem?_cons_succ, List.getElem?_cons_zero] at q0 q1 q2 q3 q4 q5 q6
  have HB02 := Lib.hid hb02
  have HBW2 := Lib.hid hBw2
  have HB12 := Lib.hid hB12
  clear hB2 hb02 hBw2 hB12
  cases hmf : manyF live.length quar.length with
  | true =>
    go_wp2
    go_ret
    exact ⟨rfl, HBW2.out⟩
  | false =>
    have h18 := c18 c _ _ gi live quar w2 (HL.out.below HBW2.out) (HQ.out.below HBW2.out) HWL.out HWQ.out
    have H18 := Lib.hid h18
    have HMF := Lib.hid hmf
    clear h18
    go_wp2_with fail
    refine Calls.mono H18.out ?_
    clear H18 hmf
    rintro e w3 ⟨hB3, ⟨hng, rfl⟩ | ⟨hg, rfl⟩⟩
    · have HBW3 : Hid (Below w.heap.size w w3) := HBW2.out.trans (hB3.mono HBW2.out.size)
      clear hB3 hng
      go_wp2
      go_ret
      exact ⟨rfl, HBW3.out⟩
    have HG := Lib.hid hg
    have hb03 : w3.heap[w.heap.size]? = some (.cells #[.int .i64 c.page, .int .i64 c.n, .int .i64 c.red, .int .i64 c.quarantine, .slice A live.length ca, .slice B quar.length cb, .int .i64 gi] 26 (0, 0)) := (hB3.block _ (blk_lt HB02.out)).trans HB02.out
    have HBW3 : Hid (Below w.heap.size w w3) := HBW2.out.trans (hB3.mono HBW2.out.size)
    have HB13 : Hid (Below w1.heap.size w1 w3) := HB12.out.trans (hB3.mono HB12.out.size)
    have hlt3 : w1.heap.size ≤ w3.heap.size := HB13.out.size
    have HGD : Hid (Good c gi live quar) := (good_iff HWL.out HWQ.out).2 hg
    have hgi0 := hg.gi0
    have hgi1 := hg.gi1
    have hn1 := hg.n1
    have hn2 := hg.n2
    clear q0 q1 q2 q3 q4 q5 q6
    have q0 := blk_cell hb03 0
    have q1 := blk_cell hb03 1
    have q2 := blk_cell hb03 2
    have q3 := blk_cell hb03 3
    have q4 := blk_cell hb03 4
    have q5 := blk_cell hb03 5
    have q6 := blk_cell hb03 6
    simp only [List.getElem?_toArray, List.getElem?_cons_succ, List.getElem?_cons_zero] at q0 q1 q2 q3 q4 q5 q6
    have HB03 := Lib.hid hb03
    clear hB3 hg hb03 HBW2 HB02 HB12 HBW HB0
    have hca := c26 c _ _ gi live quar at_ w3 (HL.out.below HBW3.out) (HQ.out.below HBW3.out) HWL.out HWQ.out a0 a1
    have HCA := Lib.hid hca
    have hbc := HG.out.conf
    simp only [okConf, decide_eq_true_eq] at hbc
    obtain ⟨e1, e2, e3, e4, e5, e6, e7, e8, e9⟩ := hbc
    clear hca
    go_wp2_with fail
    refine Calls.mono HCA.out ?_
    clear HCA
    rintro e w4 ⟨hB4, ⟨hng, rfl⟩ | ⟨L, hop, rfl⟩⟩
    · exact absurd HGD.out hng
    have hpl := places hop at_
    obtain ⟨nk, hnk⟩ : ∃ z, (nearF L at_).1 = z := ⟨_, rfl⟩
    obtain ⟨ni, hni⟩ : ∃ z, (nearF L at_).2.1 = z := ⟨_, rfl⟩
    obtain ⟨no, hno⟩ : ∃ z, (nearF L at_).2.2 = z := ⟨_, rfl⟩
    rw [hnk, hni, hno] at hpl ⊢
    have HPL := Lib.hid hpl
    have HNK := Lib.hid hnk
    have HOP := Lib.hid hop
    have HBW4 : Hid (Below w.heap.size w w4) := HBW3.out.trans (hB4.mono HBW3.out.size)
    have hb04 := (hB4.block _ (blk_lt HB03.out)).trans HB03.out
    clear q0 q1 q2 q3 q4 q5 q6
    have q0 := blk_cell hb04 0
    have q1 := blk_cell hb04 1
    have q2 := blk_cell hb04 2
    have q3 := blk_cell hb04 3
    have q4 := blk_cell hb04 4
    have q5 := blk_cell hb04 5
    have q6 := blk_cell hb04 6
    simp only [List.getElem?_toArray, List.getElem?_cons_succ, List.getElem?_cons_zero] at q0 q1 q2 q3 q4 q5 q6
    have HB04 := Lib.hid hb04
    have hlt4 : w.heap.size < w4.heap.size := blk_lt hb04
    clear hpl hnk hni hno hop hB4 hb04
    go_wp2_with fail
    refine gen_worldC (fun W => Below w4.heap.size w4 W ∧ W.heap[w4.heap.size]? = some (.cells #[.int .i64 nk, .int .i64 ni, .int .i64 no] 48 (0, 0))) ⟨(Below.refl _ _).alloc (Nat.le_refl _) _, hal_new rfl⟩ ?_
    rintro W5 ⟨hW5, hbx⟩
    refine Calls.mono (c27v c _ _ gi live quar W5 (HL.out.below (HBW4.out.trans (hW5.mono HBW4.out.size))) (HQ.out.below (HBW4.out.trans (hW5.mono HBW4.out.size))) HWL.out HWQ.out) ?_
    rintro e w6 ⟨hB6, ⟨hng, rfl⟩ | ⟨L2, v6, hop2, rfl, hsp⟩⟩
    · exact absurd HGD.out hng
    obtain rfl := HOP.out.uniq hop2
    have hgp := hop2.gaps
    have hwf : ∀ s ∈ spans c L2, 256 ≤ s.1 ∧ s.1 < 4294967296 ∧ 0 ≤ s.2 ∧ s.1 + s.2 ≤ 4294967296 := fun s hs => by
      obtain ⟨g, hg, rfl⟩ := List.mem_map.1 hs
      obtain ⟨b1, b2, b3, _⟩ := hgp.1 g hg
      simp only
      omega
    have hlen : (spans c L2).length ≤ 2001 := by have := hgp.2; simpa [spans] using this
    have hcount : (spans c L2).countP (inS at_) = if (c.page * 256 ≤ at_ ∧ at_ < (c.page + c.n) * 256) ∧ nk = 0 then 1 else 0 := (spans_count c L2 at_).trans HPL.out.1
    obtain ⟨S, hS⟩ : ∃ S, spans c L2 = S := ⟨_, rfl⟩
    rw [hS] at hwf hlen hsp hcount
    obtain ⟨GA, gc, rfl, _, hgl⟩ := hsp
    obtain ⟨n, hn⟩ : ∃ n, S.length = n := ⟨_, rfl⟩
    rw [hn] at hlen ⊢
    have HBW6 : Hid (Below w.heap.size w w6) := (HBW4.out.trans (hW5.mono HBW4.out.size)).trans (hB6.mono (Nat.le_trans HBW4.out.size hW5.size))
    have HB06 := Lib.hid ((hB6.block _ (Nat.lt_of_lt_of_le (blk_lt HB04.out) hW5.size)).trans ((hW5.block _ (blk_lt HB04.out)).trans HB04.out))
    have HNB := Lib.hid ((hB6.block _ (blk_lt hbx)).trans hbx)
    have HGL := Lib.hid hgl
    have HN := Lib.hid hn
    have HWF := Lib.hid hwf
    have HCT := Lib.hid hcount
    have hlt6 : w4.heap.size < w6.heap.size := blk_lt HNB.out
    clear hgp hwf hS hgl hn hB6 hW5 hbx hop2 hcount
    clear q0 q1 q2 q3 q4 q5 q6
    go_wp2
    go_loopg [6, 31] n (fun kx s6 s31 wr => ∃ (k : Nat) (z : Int), k ≤ n ∧ s31 = .int .i64 k ∧ s6 = .int .i64 z ∧ 0 ≤ z ∧ z ≤ k ∧ n - k ≤ kx ∧ Hid (z = ((S.take k).countP (inS at_) : Int)) ∧ Hid (Below w6.heap.size w6 wr))
    case atStart => exact ⟨0, 0, Nat.zero_le _, rfl, rfl, by omega, by omega, by omega, (by rfl : (0 : Int) = ((S.take 0).countP (inS at_) : Int)), Below.refl _ _⟩
    case round =>
      obtain ⟨k, z, hk, rfl, rfl, z0, z1, hkx, HZ, HBr⟩ := hrel
      have hsr := HBr.out.size
      by_cases hlt : k < n
      · have hkl : k < S.length := by rw [HN.out]; exact hlt
        obtain ⟨bb, off, rfl, hL⟩ := HGL.out.resolve_left (by rintro rfl; simp at hkl)
        have m0 := (hL.below HBr.out).2 k hkl 0 _ rfl
        have m1 := (hL.below HBr.out).2 k hkl 1 _ rfl
        have hbb : bb < wr.heap.size := Nat.lt_of_lt_of_le hL.1 hsr
        obtain ⟨s0, s1, s2, s3⟩ := HWF.out S[k]! (by rw [getElem!_pos S k hkl]; exact List.getElem_mem hkl)
        have hct := count_take (inS at_) S k hkl
        have hin : inS at_ S[k]! = decide (S[k]!.1 ≤ at_ ∧ at_ < S[k]!.1 + S[k]!.2) := rfl
        rw [hin] at hct
        generalize S[k]!.1 = x at m0 s0 s1 s3 hct
        generalize S[k]!.2 = y at m1 s2 s3 hct
        have HCK := Lib.hid hct
        clear hct hin hL hkl
        simp only [Nat.add_zero] at m0
        by_cases g1 : x ≤ at_
        · by_cases g2 : at_ < x + y
          · go_wp2
            go_roundg (n - (k + 1))
            case measure => omega
            case rel => exact ⟨k + 1, z + 1, by omega, by go_num, rfl, by omega, by omega, Nat.le_refl _, (by rw [HCK.out, HZ.out, decide_eq_true ⟨g1, g2⟩]; simp : z + 1 = ((S.take (k + 1)).countP (inS at_) : Int)), HBr.out.alloc hsr _⟩
          · go_wp2
            go_roundg (n - (k + 1))
            case measure => omega
            case rel => exact ⟨k + 1, z, by omega, by go_num, rfl, by omega, by omega, Nat.le_refl _, (by rw [HCK.out, HZ.out, decide_eq_false (fun h => by omega)]; simp : z = ((S.take (k + 1)).countP (inS at_) : Int)), HBr.out.alloc hsr _⟩
        · go_wp2
          go_roundg (n - (k + 1))
          case measure => omega
          case rel => exact ⟨k + 1, z, by omega, by go_num, rfl, by omega, by omega, Nat.le_refl _, (by rw [HCK.out, HZ.out, decide_eq_false (fun h => by omega)]; simp : z = ((S.take (k + 1)).countP (inS at_) : Int)), HBr.out.alloc hsr _⟩
      · obtain rfl : k = n := by omega
        have hzz : z = if (c.page * 256 ≤ at_ ∧ at_ < (c.page + c.n) * 256) ∧ nk = 0 then 1 else 0 := by
          rw [HZ.out, ← HN.out, List.take_length, HCT.out]
          split <;> rfl
        have HBW7 : Hid (Below w.heap.size w wr) := HBW6.out.trans (HBr.out.mono HBW6.out.size)
        have hb07 := (HBr.out.block _ (blk_lt HB06.out)).trans HB06.out
        have hnb7 := (HBr.out.block _ (blk_lt HNB.out)).trans HNB.out
        have hll : Sl 3 encP wr _ live := HL.out.below HBW7.out
        have hql : Sl 3 encP wr _ quar := HQ.out.below HBW7.out
        have q0 := blk_cell hb07 0
        have q1 := blk_cell hb07 1
        have q2 := blk_cell hb07 2
        have q3 := blk_cell hb07 3
        have q4 := blk_cell hb07 4
        have q5 := blk_cell hb07 5
        have q6 := blk_cell hb07 6
        simp only [List.getElem?_toArray, List.getElem?_cons_succ, List.getElem?_cons_zero] at q0 q1 q2 q3 q4 q5 q6
        have r0 := blk_cell hnb7 0
        have r1 := blk_cell hnb7 1
        have r2 := blk_cell hnb7 2
        simp only [List.getElem?_toArray, List.getElem?_cons_succ, List.getElem?_cons_zero] at r0 r1 r2
        have HB07 := Lib.hid hb07
        have HNB7 := Lib.hid hnb7
        have hltr : w.heap.size < wr.heap.size := blk_lt hb07
        have hltn : w4.heap.size < wr.heap.size := blk_lt hnb7
        have HLL := Lib.hid hll
        have HQL := Lib.hid hql
        clear hb07 hnb7 hll hql hlt z0 z1 hkx
        have hpl := HPL.out
        obtain ⟨_, hp2, hp3⟩ := hpl
        by_cases hk0 : nk = 0
        · subst hk0
          have hk1 : ¬ (nearF L2 at_).1 = 1 := by rw [HNK.out]; decide
          have HK1 := Lib.hid hk1
          clear hp2 hp3 hk1
          by_cases i1 : c.page * 256 ≤ at_
          · by_cases i2 : at_ < (c.page + c.n) * 256
            · obtain rfl : z = 1 := by rw [hzz, if_pos ⟨⟨i1, i2⟩, rfl⟩]
              clear hzz
              have hc28 := c28_out c _ _ gi live quar at_ wr HLL.out HQL.out HWL.out HWQ.out a0 a1 HOP.out (HK1.out)
              have HC28 := Lib.hid hc28
              clear hc28
              go_wp2_with fail
              refine Calls.mono HC28.out ?_
              rintro e w8 ⟨rfl, hB8⟩
              have HB08 := (hB8.block _ (blk_lt HB07.out)).trans HB07.out
              have HNB8 := (hB8.block _ (blk_lt HNB7.out)).trans HNB7.out
              clear q0 q1 q2 q3 q4 q5 q6
              clear r0 r1 r2
              have q0 := blk_cell HB08 0
              have q1 := blk_cell HB08 1
              have q2 := blk_cell HB08 2
              have q3 := blk_cell HB08 3
              have q4 := blk_cell HB08 4
              have q5 := blk_cell HB08 5
              have q6 := blk_cell HB08 6
              simp only [List.getElem?_toArray, List.getElem?_cons_succ, List.getElem?_cons_zero] at q0 q1 q2 q3 q4 q5 q6
              have r0 := blk_cell HNB8 0
              have r1 := blk_cell HNB8 1
              have r2 := blk_cell HNB8 2
              simp only [List.getElem?_toArray, List.getElem?_cons_succ, List.getElem?_cons_zero] at r0 r1 r2
              have HBW8 : Hid (Below w.heap.size w w8) := HBW7.out.trans (hB8.mono HBW7.out.size)
              have HB8s := Lib.hid hB8
              clear hB8 HB08 HNB8
              have gd : ((0 : Int) == 0) = true := rfl
              go_wp2
              go_quiet (fail)
              go_wp2
              go_ret
              exact ⟨rfl, below_drewN' HBW8.out _⟩
            · obtain rfl : z = 0 := by rw [hzz, if_neg (fun h => i2 h.1.2)]
              clear hzz
              have hc28 := c28_out c _ _ gi live quar at_ wr HLL.out HQL.out HWL.out HWQ.out a0 a1 HOP.out (HK1.out)
              have HC28 := Lib.hid hc28
              clear hc28
              go_wp2_with fail
              refine Calls.mono HC28.out ?_
              rintro e w8 ⟨rfl, hB8⟩
              have HB08 := (hB8.block _ (blk_lt HB07.out)).trans HB07.out
              have HNB8 := (hB8.block _ (blk_lt HNB7.out)).trans HNB7.out
              clear q0 q1 q2 q3 q4 q5 q6
              clear r0 r1 r2
              have q0 := blk_cell HB08 0
              have q1 := blk_cell HB08 1
              have q2 := blk_cell HB08 2
              have q3 := blk_cell HB08 3
              have q4 := blk_cell HB08 4
              have q5 := blk_cell HB08 5
              have q6 := blk_cell HB08 6
              simp only [List.getElem?_toArray, List.getElem?_cons_succ, List.getElem?_cons_zero] at q0 q1 q2 q3 q4 q5 q6
              have r0 := blk_cell HNB8 0
              have r1 := blk_cell HNB8 1
              have r2 := blk_cell HNB8 2
              simp only [List.getElem?_toArray, List.getElem?_cons_succ, List.getElem?_cons_zero] at r0 r1 r2
              have HBW8 : Hid (Below w.heap.size w w8) := HBW7.out.trans (hB8.mono HBW7.out.size)
              have HB8s := Lib.hid hB8
              clear hB8 HB08 HNB8
              have gd : ((0 : Int) == 0) = true := rfl
              go_wp2
              go_quiet (fail)
              go_wp2
              go_ret
              exact ⟨rfl, below_drewN' HBW8.out _⟩
          · obtain rfl : z = 0 := by rw [hzz, if_neg (fun h => i1 h.1.1)]
            clear hzz
            have hc28 := c28_out c _ _ gi live quar at_ wr HLL.out HQL.out HWL.out HWQ.out a0 a1 HOP.out (HK1.out)
            have HC28 := Lib.hid hc28
            clear hc28
            go_wp2_with fail
            refine Calls.mono HC28.out ?_
            rintro e w8 ⟨rfl, hB8⟩
            have HB08 := (hB8.block _ (blk_lt HB07.out)).trans HB07.out
            have HNB8 := (hB8.block _ (blk_lt HNB7.out)).trans HNB7.out
            clear q0 q1 q2 q3 q4 q5 q6
            clear r0 r1 r2
            have q0 := blk_cell HB08 0
            have q1 := blk_cell HB08 1
            have q2 := blk_cell HB08 2
            have q3 := blk_cell HB08 3
            have q4 := blk_cell HB08 4
            have q5 := blk_cell HB08 5
            have q6 := blk_cell HB08 6
            simp only [List.getElem?_toArray, List.getElem?_cons_succ, List.getElem?_cons_zero] at q0 q1 q2 q3 q4 q5 q6
            have r0 := blk_cell HNB8 0
            have r1 := blk_cell HNB8 1
            have r2 := blk_cell HNB8 2
            simp only [List.getElem?_toArray, List.getElem?_cons_succ, List.getElem?_cons_zero] at r0 r1 r2
            have HBW8 : Hid (Below w.heap.size w w8) := HBW7.out.trans (hB8.mono HBW7.out.size)
            have HB8s := Lib.hid hB8
            clear hB8 HB08 HNB8
            have gd : ((0 : Int) == 0) = true := rfl
            go_wp2
            go_quiet (fail)
            go_wp2
            go_ret
            exact ⟨rfl, below_drewN' HBW8.out _⟩
        · obtain ⟨i1, i2⟩ := hp2 hk0
          obtain rfl : z = 0 := by rw [hzz, if_neg (fun h => hk0 h.2)]
          clear hzz hp2
          rcases hp3 with h | ⟨h34, j, hj, rfl, hoff⟩ | ⟨h12, j, hj, rfl, hoff⟩
          · exact absurd h hk0
          · have hjw := HWQ.out quar[j]! (by rw [getElem!_pos quar j hj]; exact List.getElem_mem hj)
            obtain ⟨bb, off, rfl, hL⟩ := sl_some HQL.out hj
            have hji : (j : Int) < (quar.length : Int) := by omega
            have hji0 : (0 : Int) ≤ (j : Int) := by omega
            obtain ⟨pw0, pw1⟩ := hjw
            have HLp := Lib.hid hL
            have hjL := Lib.hid hj
            clear hL hj
            obtain ⟨pp, hpp⟩ : ∃ z, quar[j]!.pos = z := ⟨_, rfl⟩
            rw [hpp] at hoff pw0 pw1
            have HPP := Lib.hid hpp
            have ho1 : pp + no = at_ := by omega
            have ho2 : (pp + no == at_) = true := by rw [ho1]; simp
            have HO2 := Lib.hid ho2
            have ho3 : -4294967296 ≤ no := by omega
            have ho4 : no ≤ 4294967296 := by omega
            clear hoff hpp ho1 ho2
            rcases h34 with rfl | rfl
            · have hk1 : ¬ (nearF L2 at_).1 = 1 := by rw [HNK.out]; decide
              have HK1 := Lib.hid hk1
              clear hk1 hk0
              have hc28 := c28_out c _ _ gi live quar at_ wr HLL.out HQL.out HWL.out HWQ.out a0 a1 HOP.out (HK1.out)
              have HC28 := Lib.hid hc28
              clear hc28
              go_wp2_with fail
              refine Calls.mono HC28.out ?_
              rintro e w8 ⟨rfl, hB8⟩
              have HB08 := (hB8.block _ (blk_lt HB07.out)).trans HB07.out
              have HNB8 := (hB8.block _ (blk_lt HNB7.out)).trans HNB7.out
              clear q0 q1 q2 q3 q4 q5 q6
              clear r0 r1 r2
              have q0 := blk_cell HB08 0
              have q1 := blk_cell HB08 1
              have q2 := blk_cell HB08 2
              have q3 := blk_cell HB08 3
              have q4 := blk_cell HB08 4
              have q5 := blk_cell HB08 5
              have q6 := blk_cell HB08 6
              simp only [List.getElem?_toArray, List.getElem?_cons_succ, List.getElem?_cons_zero] at q0 q1 q2 q3 q4 q5 q6
              have r0 := blk_cell HNB8 0
              have r1 := blk_cell HNB8 1
              have r2 := blk_cell HNB8 2
              simp only [List.getElem?_toArray, List.getElem?_cons_succ, List.getElem?_cons_zero] at r0 r1 r2
              have HBW8 : Hid (Below w.heap.size w w8) := HBW7.out.trans (hB8.mono HBW7.out.size)
              have HB8s := Lib.hid hB8
              clear hB8 HB08 HNB8
              have hm := (HLp.out.below HB8s.out).2 j hjL.out 0 _ rfl
              rw [HPP.out, Nat.add_zero] at hm
              have ho2 := HO2.out
              go_wp2
              go_quiet (fail)
              go_wp2
              go_ret
              exact ⟨rfl, below_drewN' HBW8.out _⟩
            · have hk1 : ¬ (nearF L2 at_).1 = 1 := by rw [HNK.out]; decide
              have HK1 := Lib.hid hk1
              clear hk1 hk0
              have hc28 := c28_out c _ _ gi live quar at_ wr HLL.out HQL.out HWL.out HWQ.out a0 a1 HOP.out (HK1.out)
              have HC28 := Lib.hid hc28
              clear hc28
              go_wp2_with fail
              refine Calls.mono HC28.out ?_
              rintro e w8 ⟨rfl, hB8⟩
              have HB08 := (hB8.block _ (blk_lt HB07.out)).trans HB07.out
              have HNB8 := (hB8.block _ (blk_lt HNB7.out)).trans HNB7.out
              clear q0 q1 q2 q3 q4 q5 q6
              clear r0 r1 r2
              have q0 := blk_cell HB08 0
              have q1 := blk_cell HB08 1
              have q2 := blk_cell HB08 2
              have q3 := blk_cell HB08 3
              have q4 := blk_cell HB08 4
              have q5 := blk_cell HB08 5
              have q6 := blk_cell HB08 6
              simp only [List.getElem?_toArray, List.getElem?_cons_succ, List.getElem?_cons_zero] at q0 q1 q2 q3 q4 q5 q6
              have r0 := blk_cell HNB8 0
              have r1 := blk_cell HNB8 1
              have r2 := blk_cell HNB8 2
              simp only [List.getElem?_toArray, List.getElem?_cons_succ, List.getElem?_cons_zero] at r0 r1 r2
              have HBW8 : Hid (Below w.heap.size w w8) := HBW7.out.trans (hB8.mono HBW7.out.size)
              have HB8s := Lib.hid hB8
              clear hB8 HB08 HNB8
              have hm := (HLp.out.below HB8s.out).2 j hjL.out 0 _ rfl
              rw [HPP.out, Nat.add_zero] at hm
              have ho2 := HO2.out
              go_wp2
              go_quiet (fail)
              go_wp2
              go_ret
              exact ⟨rfl, below_drewN' HBW8.out _⟩
          · have hjw := HWL.out live[j]! (by rw [getElem!_pos live j hj]; exact List.getElem_mem hj)
            obtain ⟨bb, off, rfl, hL⟩ := sl_some HLL.out hj
            have hji : (j : Int) < (live.length : Int) := by omega
            have hji0 : (0 : Int) ≤ (j : Int) := by omega
            obtain ⟨pw0, pw1⟩ := hjw
            have HLp := Lib.hid hL
            have hjL := Lib.hid hj
            clear hL hj
            obtain ⟨pp, hpp⟩ : ∃ z, live[j]!.pos = z := ⟨_, rfl⟩
            rw [hpp] at hoff pw0 pw1
            have HPP := Lib.hid hpp
            have ho1 : pp + no = at_ := by omega
            have ho2 : (pp + no == at_) = true := by rw [ho1]; simp
            have HO2 := Lib.hid ho2
            have ho3 : -4294967296 ≤ no := by omega
            have ho4 : no ≤ 4294967296 := by omega
            clear hoff hpp ho1 ho2
            rcases h12 with rfl | rfl
            · have hk1 : (nearF L2 at_).1 = 1 := by rw [HNK.out]
              have HK1 := Lib.hid hk1
              clear hk1 hk0
              have hc28 := c28_in c _ _ gi live quar at_ wr HLL.out HQL.out HWL.out HWQ.out a0 a1 HOP.out (HK1.out)
              have HC28 := Lib.hid hc28
              clear hc28
              go_wp2_with fail
              refine Calls.mono HC28.out ?_
              rintro e w8 ⟨rfl, hB8⟩
              have HB08 := (hB8.block _ (blk_lt HB07.out)).trans HB07.out
              have HNB8 := (hB8.block _ (blk_lt HNB7.out)).trans HNB7.out
              clear q0 q1 q2 q3 q4 q5 q6
              clear r0 r1 r2
              have q0 := blk_cell HB08 0
              have q1 := blk_cell HB08 1
              have q2 := blk_cell HB08 2
              have q3 := blk_cell HB08 3
              have q4 := blk_cell HB08 4
              have q5 := blk_cell HB08 5
              have q6 := blk_cell HB08 6
              simp only [List.getElem?_toArray, List.getElem?_cons_succ, List.getElem?_cons_zero] at q0 q1 q2 q3 q4 q5 q6
              have r0 := blk_cell HNB8 0
              have r1 := blk_cell HNB8 1
              have r2 := blk_cell HNB8 2
              simp only [List.getElem?_toArray, List.getElem?_cons_succ, List.getElem?_cons_zero] at r0 r1 r2
              have HBW8 : Hid (Below w.heap.size w w8) := HBW7.out.trans (hB8.mono HBW7.out.size)
              have HB8s := Lib.hid hB8
              clear hB8 HB08 HNB8
              have hm := (HLp.out.below HB8s.out).2 j hjL.out 0 _ rfl
              rw [HPP.out, Nat.add_zero] at hm
              have ho2 := HO2.out
              go_wp2
              go_quiet (fail)
              go_wp2
              go_ret
              exact ⟨rfl, below_drewN' HBW8.out _⟩
            · have hk1 : ¬ (nearF L2 at_).1 = 1 := by rw [HNK.out]; decide
              have HK1 := Lib.hid hk1
              clear hk1 hk0
              have hc28 := c28_out c _ _ gi live quar at_ wr HLL.out HQL.out HWL.out HWQ.out a0 a1 HOP.out (HK1.out)
              have HC28 := Lib.hid hc28
              clear hc28
              go_wp2_with fail
              refine Calls.mono HC28.out ?_
              rintro e w8 ⟨rfl, hB8⟩
              have HB08 := (hB8.block _ (blk_lt HB07.out)).trans HB07.out
              have HNB8 := (hB8.block _ (blk_lt HNB7.out)).trans HNB7.out
              clear q0 q1 q2 q3 q4 q5 q6
              clear r0 r1 r2
              have q0 := blk_cell HB08 0
              have q1 := blk_cell HB08 1
              have q2 := blk_cell HB08 2
              have q3 := blk_cell HB08 3
              have q4 := blk_cell HB08 4
              have q5 := blk_cell HB08 5
              have q6 := blk_cell HB08 6
              simp only [List.getElem?_toArray, List.getElem?_cons_succ, List.getElem?_cons_zero] at q0 q1 q2 q3 q4 q5 q6
              have r0 := blk_cell HNB8 0
              have r1 := blk_cell HNB8 1
              have r2 := blk_cell HNB8 2
              simp only [List.getElem?_toArray, List.getElem?_cons_succ, List.getElem?_cons_zero] at r0 r1 r2
              have HBW8 : Hid (Below w.heap.size w w8) := HBW7.out.trans (hB8.mono HBW7.out.size)
              have HB8s := Lib.hid hB8
              clear hB8 HB08 HNB8
              have hm := (HLp.out.below HB8s.out).2 j hjL.out 0 _ rfl
              rw [HPP.out, Nat.add_zero] at hm
              have ho2 := HO2.out
              go_wp2
              go_quiet (fail)
              go_wp2
              go_ret
              exact ⟨rfl, below_drewN' HBW8.out _⟩
end Go.Proofs.Ytbhbjcgbhklieaa
