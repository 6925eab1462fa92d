/- HeapKeeps: the round. -/
import Derived.Test.YtbhbjcgbhklieaaV2
import Derived.Test.YtbhbjcgbhklieaaV3
import Derived.Test.YtbhbjcgbhklieaaE9
import Derived.Test.YtbhbjcgbhklieaaN3
namespace Go.Proofs.Ytbhbjcgbhklieaa
open Go.RowKit Go.Shelf

theorem same_refl (c : Conf) (gi : Int) (l q : List Piece) : sameF c c gi gi l l q q = true := by
  have h : ∀ l : List Piece, Lib.allEq eqP l l = true := fun l => by
    induction l with
    | nil => rfl
    | cons p l ih => simp [Lib.allEq, eqP, ih]
  simp [sameF, h]
theorem does_small {c : Conf} {gi : Int} {live quar : List Piece} {o : OpV} {err at_ : Int} {r : HRes} (h : DoesP c gi live quar o err at_ r) (wl : ∀ p ∈ live, WfP p) (wq : ∀ p ∈ quar, WfP p) : r.live.length ≤ 100000 ∧ r.quar.length ≤ 100000 := by
  by_cases he : err = 0
  · subst he
    have g := (does_good h wl wq).2.1
    have := g.n1
    have := g.n2
    omega
  · have hz : r = hZ := by
      unfold DoesP at h
      by_cases h0 : o.kind = 0
      · rw [if_pos h0] at h
        rcases h with ⟨_, _, _, h⟩ | ⟨_, _, _, _, h⟩ | ⟨_, _, _, _, _, _, _, h⟩ | ⟨_, _, _, _, _, _, _, h, _⟩
        · exact h
        · exact h
        · exact h
        · exact absurd h he
      · rw [if_neg h0] at h
        by_cases h1 : o.kind = 1
        · rw [if_pos h1] at h
          rcases h.2 with ⟨_, _, h⟩ | ⟨_, _, _, h⟩ | ⟨_, _, h, _⟩
          · exact h
          · exact h
          · exact absurd h he
        · rw [if_neg h1] at h
          rcases h with ⟨_, _, _, h⟩ | ⟨_, _, _, _, h⟩ | ⟨_, _, _, _, _, h⟩ | ⟨_, _, _, _, _, _, _, _, h⟩ | ⟨_, _, _, _, _, _, _, _, h, _⟩
          · exact h
          · exact h
          · exact h
          · exact h
          · exact absurd h he
    subst hz
    exact ⟨by simp [hZ], by simp [hZ]⟩
theorem few_len {n1 n2 : Nat} (h : manyF n1 n2 = false) (h1 : n1 ≤ 8796093022208) (h2 : n2 ≤ 8796093022208) : n1 + n2 ≤ 60 := by
  unfold manyF at h
  have h := of_decide_eq_false h
  have hw : wrap64 ((n1 : Int) + (n2 : Int)) = (n1 : Int) + (n2 : Int) := by unfold wrap64; omega
  rw [hw] at h
  omega
theorem Own2.below {W V : World} {lo : Nat} {r : HRes} {A : Option Addr} {k : Nat} {B : Option Addr} {m : Nat} (h : Own2 W lo r A k B m) (hV : Below W.heap.size W V) : Own2 V lo r A k B m := ⟨own_belowU h.1 hV, own_belowU h.2.1 hV, h.2.2⟩
theorem Own2.base {W : World} {lo lo' : Nat} {r : HRes} {A : Option Addr} {k : Nat} {B : Option Addr} {m : Nat} (h : Own2 W lo r A k B m) (hl : lo' ≤ lo) : Own2 W lo' r A k B m := ⟨own_base h.1 hl, own_base h.2.1 hl, h.2.2⟩
theorem Own2.kept {W V : World} {lo : Nat} {r : HRes} {A : Option Addr} {k : Nat} {B : Option Addr} {m : Nat} (h : Own2 W lo r A k B m) (hk : ∀ x, lo ≤ x → V.heap[x]? = W.heap[x]?) : Own2 V lo r A k B m := ⟨own_blk h.1 fun g hg => hk g (own_lt h.1 g hg).1, own_blk h.2.1 fun g hg => hk g (own_lt h.2.1 g hg).1, h.2.2⟩
theorem own_row {W : World} {lo : Nat} {A : Option Addr} {k : Nat} {zs : List Piece} (h : W.ownsRow lo 38 3 (.slice A zs.length k) zs.length (zs.flatMap encP)) : zs.length = 0 ∨ ∃ g off cur, A = some ⟨g, off, none⟩ ∧ lo ≤ g ∧ W.heap[g]? = some (.cells cur 38 (0, 0)) ∧ ∀ j, j < zs.length → ∃ z : Int, cur[off + j * 3 + 1]? = some (.int .i64 z) := by
  rcases h.2 with ⟨_, h0⟩ | ⟨g, cap, cur, hv, hb, hg, _, _, _, ht⟩
  · exact .inl h0
  · cases hv
    refine .inr ⟨g, 0, cur, rfl, hb, hg, fun j hj => ⟨zs[j]!.size, ?_⟩⟩
    have h1 : (zs.flatMap encP)[j * 3 + 1]? = (encP zs[j]!)[1]? := flat_get encP 3 (fun _ => rfl) zs j 1 hj (by omega)
    rw [← Array.getElem?_toList, Nat.zero_add]
    rw [← ht, List.getElem?_take_of_lt (by omega)] at h1
    rw [h1]; rfl
theorem own_at {W : World} {lo : Nat} {A : Option Addr} {k n : Nat} {xs : List Value} (h : W.ownsRow lo 38 3 (.slice A n k) n xs) : ∀ g off, A = some ⟨g, off, none⟩ → lo ≤ g ∧ g < W.heap.size := fun g off e => by
  subst e; exact own_lt h g rfl
theorem Own2.loA {W : World} {lo : Nat} {r : HRes} {A : Option Addr} {k : Nat} {B : Option Addr} {m : Nat} (h : Own2 W (lo + 1) r A k B m) : ∀ g off, A = some ⟨g, off, none⟩ → lo + 1 ≤ g ∧ lo ≠ g := fun g off e => by have := own_at h.1 g off e; omega
theorem Own2.loB {W : World} {lo : Nat} {r : HRes} {A : Option Addr} {k : Nat} {B : Option Addr} {m : Nat} (h : Own2 W (lo + 1) r A k B m) : ∀ g off, B = some ⟨g, off, none⟩ → lo + 1 ≤ g ∧ lo ≠ g := fun g off e => by have := own_at h.2.1 g off e; omega
theorem Own2.ltA {W : World} {lo : Nat} {r : HRes} {A : Option Addr} {k : Nat} {B : Option Addr} {m : Nat} (h : Own2 W lo r A k B m) : ∀ g off, A = some ⟨g, off, none⟩ → g < W.heap.size := fun g off e => (own_at h.1 g off e).2
theorem Own2.ltB {W : World} {lo : Nat} {r : HRes} {A : Option Addr} {k : Nat} {B : Option Addr} {m : Nat} (h : Own2 W lo r A k B m) : ∀ g off, B = some ⟨g, off, none⟩ → g < W.heap.size := fun g off e => (own_at h.2.1 g off e).2
theorem Own2.rowA {W : World} {lo : Nat} {r : HRes} {A : Option Addr} {k : Nat} {B : Option Addr} {m : Nat} (h : Own2 W (lo + 1) r A k B m) : r.live.length = 0 ∨ ∃ g off cur, A = some ⟨g, off, none⟩ ∧ g ≠ lo ∧ W.heap[g]? = some (.cells cur 38 (0, 0)) ∧ ∀ j, j < r.live.length → ∃ z : Int, cur[off + j * 3 + 1]? = some (.int .i64 z) :=
  (own_row h.1).imp id fun ⟨g, off, cur, h1, h2, h3, h4⟩ => ⟨g, off, cur, h1, by omega, h3, h4⟩
theorem Own2.rowB' {W V : World} {lo : Nat} {r : HRes} {A : Option Addr} {k : Nat} {B : Option Addr} {m : Nat} (h : Own2 W (lo + 1) r A k B m) (hk : ∀ x, (∀ g off, A = some ⟨g, off, none⟩ → x ≠ g) → V.heap[x]? = W.heap[x]?) : r.quar.length = 0 ∨ ∃ g off cur, B = some ⟨g, off, none⟩ ∧ g ≠ lo ∧ V.heap[g]? = some (.cells cur 38 (0, 0)) ∧ ∀ j, j < r.quar.length → ∃ z : Int, cur[off + j * 3 + 1]? = some (.int .i64 z) :=
  (own_row h.2.1).imp id fun ⟨g, off, cur, h1, h2, h3, h4⟩ => ⟨g, off, cur, h1, by omega, (hk g fun g' off' e => by subst e h1; exact (h.2.2 g' g rfl rfl).symm).trans h3, h4⟩

noncomputable def round13C : Code := cL (cK (cB (cA (cB (cB (cB (cB (cB (Try.f13.body.getD .skip)))))))))
set_option maxRecDepth 1000000 in
set_option maxHeartbeats 40000000 in
theorem round13 (Q0 : Exit → Act → World → Prop) (o : OpV) (i n pb poff pc : Nat) (r : HRes) (A B : Option Addr) (k m h0 : Nat) (Y : World) (u0 u1 u3 u4 u6 u7 u8 u9 u10 u11 u12 u13 u14 u15 u16 u17 u18 u19 u20 u21 u22 u23 u24 u25 u26 u27 u28 u32 u33 u34 u35 u36 u37 u38 u39 u40 u41 u42 u43 u44 u45 u46 u47 u48 u49 u50 u51 u52 u53 u54 u55 u56 u57 u58 u59 u60 u61 u62 u63 u64 u65 u66 u67 u68 u69 u70 u71 u72 u73 u74 u75 u76 u77 u78 u79 u80 u81 u82 u83 u84 u85 u86 u87 u88 u89 u90 u91 u92 u93 u94 u95 u96 u97 u98 u99 u100 u101 u102 u103 u104 u105 u106 u107 u108 u109 u110 u111 : Value)
    (hb : Y.heap[h0]? = some (.cells #[.int .i64 r.c.page, .int .i64 r.c.n, .int .i64 r.c.red, .int .i64 r.c.quarantine, .slice A r.live.length k, .slice B r.quar.length m, .int .i64 r.gi] 26 (0, 0)))
    (hown : Own2 Y (h0 + 1) r A k B m)
    (hwl : ∀ p ∈ r.live, WfP p)
    (hwq : ∀ p ∈ r.quar, WfP p)
    (hsm : r.live.length + r.quar.length ≤ 60)
    (hi : i < n)
    (m0 : Y.cell? ⟨pb, poff + i * 5, none⟩ = some (.int .i64 o.kind))
    (m1 : Y.cell? ⟨pb, poff + i * 5 + 1, none⟩ = some (.int .i64 o.n))
    (m2 : Y.cell? ⟨pb, poff + i * 5 + 2, none⟩ = some (.int .i64 o.i))
    (m3 : Y.cell? ⟨pb, poff + i * 5 + 3, none⟩ = some (.int .u32 o.pos))
    (m4 : Y.cell? ⟨pb, poff + i * 5 + 4, none⟩ = some (.bool o.wild))
    (hpb : pb < Y.heap.size)
    (hop : 0 ≤ o.pos ∧ o.pos < 4294967296)
    (hex : ∀ (v7 v8 v9 v10 v11 v12 v13 v14 v32 v33 v34 v35 v36 v37 v38 v39 v40 v41 v42 v43 v44 v45 v46 v47 v48 v49 v50 v51 v52 v53 v54 v55 v56 v57 v58 v59 v60 v61 v62 v63 v64 v65 v66 v67 v68 v69 v70 v71 v72 v73 v74 v75 v76 v77 v78 v79 v80 v81 v82 v83 v84 v85 v86 v87 v88 v89 v90 v91 v92 v93 v94 v95 v96 v97 v98 v99 v100 v101 v102 v103 v104 v105 v106 v107 v108 v109 v110 v111 : Value) (W' : World) (r2 : HRes) (A2 B2 : Option Addr) (k2 m2 : Nat), Below h0 Y W' → W'.heap[h0]? = some (.cells #[.int .i64 r2.c.page, .int .i64 r2.c.n, .int .i64 r2.c.red, .int .i64 r2.c.quarantine, .slice A2 r2.live.length k2, .slice B2 r2.quar.length m2, .int .i64 r2.gi] 26 (0, 0)) → Own2 W' (h0 + 1) r2 A2 k2 B2 m2 → (∀ p ∈ r2.live, WfP p) ∧ (∀ p ∈ r2.quar, WfP p) ∧ r2.live.length + r2.quar.length ≤ 60 → Q0 .normal ⟨List.toArray (u0 :: u1 :: (.pointer (some ⟨h0, 0, none⟩) : Value) :: u3 :: u4 :: (.func (.func 51) #[] #[] : Value) :: u6 :: v7 :: v8 :: v9 :: v10 :: v11 :: v12 :: v13 :: v14 :: u15 :: u16 :: u17 :: u18 :: u19 :: u20 :: u21 :: u22 :: u23 :: u24 :: u25 :: u26 :: u27 :: u28 :: (.slice (some ⟨pb, poff, none⟩) n pc : Value) :: (.int .i64 n : Value) :: (.int .i64 (wrap64 ((i : Int) + 1)) : Value) :: v32 :: v33 :: v34 :: v35 :: v36 :: v37 :: v38 :: v39 :: v40 :: v41 :: v42 :: v43 :: v44 :: v45 :: v46 :: v47 :: v48 :: v49 :: v50 :: v51 :: v52 :: v53 :: v54 :: v55 :: v56 :: v57 :: v58 :: v59 :: v60 :: v61 :: v62 :: v63 :: v64 :: v65 :: v66 :: v67 :: v68 :: v69 :: v70 :: v71 :: v72 :: v73 :: v74 :: v75 :: v76 :: v77 :: v78 :: v79 :: v80 :: v81 :: v82 :: v83 :: v84 :: v85 :: v86 :: v87 :: v88 :: v89 :: v90 :: v91 :: v92 :: v93 :: v94 :: v95 :: v96 :: v97 :: v98 :: v99 :: v100 :: v101 :: v102 :: v103 :: v104 :: v105 :: v106 :: v107 :: v108 :: v109 :: v110 :: v111 :: []), []⟩ W')
    (hret : ∀ (v7 v8 v9 v10 v11 v12 v13 v14 v32 v33 v34 v35 v36 v37 v38 v39 v40 v41 v42 v43 v44 v45 v46 v47 v48 v49 v50 v51 v52 v53 v54 v55 v56 v57 v58 v59 v60 v61 v62 v63 v64 v65 v66 v67 v68 v69 v70 v71 v72 v73 v74 v75 v76 v77 v78 v79 v80 v81 v82 v83 v84 v85 v86 v87 v88 v89 v90 v91 v92 v93 v94 v95 v96 v97 v98 v99 v100 v101 v102 v103 v104 v105 v106 v107 v108 v109 v110 v111 : Value) (W' : World) , Below h0 Y W' → Q0 .ret ⟨List.toArray (u0 :: u1 :: (.pointer (some ⟨h0, 0, none⟩) : Value) :: u3 :: (.bool true : Value) :: (.func (.func 51) #[] #[] : Value) :: u6 :: v7 :: v8 :: v9 :: v10 :: v11 :: v12 :: v13 :: v14 :: u15 :: u16 :: u17 :: u18 :: u19 :: u20 :: u21 :: u22 :: u23 :: u24 :: u25 :: u26 :: u27 :: u28 :: (.slice (some ⟨pb, poff, none⟩) n pc : Value) :: (.int .i64 n : Value) :: (.int .i64 i : Value) :: v32 :: v33 :: v34 :: v35 :: v36 :: v37 :: v38 :: v39 :: v40 :: v41 :: v42 :: v43 :: v44 :: v45 :: v46 :: v47 :: v48 :: v49 :: v50 :: v51 :: v52 :: v53 :: v54 :: v55 :: v56 :: v57 :: v58 :: v59 :: v60 :: v61 :: v62 :: v63 :: v64 :: v65 :: v66 :: v67 :: v68 :: v69 :: v70 :: v71 :: v72 :: v73 :: v74 :: v75 :: v76 :: v77 :: v78 :: v79 :: v80 :: v81 :: v82 :: v83 :: v84 :: v85 :: v86 :: v87 :: v88 :: v89 :: v90 :: v91 :: v92 :: v93 :: v94 :: v95 :: v96 :: v97 :: v98 :: v99 :: v100 :: v101 :: v102 :: v103 :: v104 :: v105 :: v106 :: v107 :: v108 :: v109 :: v110 :: v111 :: []), []⟩ W')
    : Code.wp Try.prog round13C Q0 ⟨List.toArray (u0 :: u1 :: (.pointer (some ⟨h0, 0, none⟩) : Value) :: u3 :: u4 :: (.func (.func 51) #[] #[] : Value) :: u6 :: u7 :: u8 :: u9 :: u10 :: u11 :: u12 :: u13 :: u14 :: u15 :: u16 :: u17 :: u18 :: u19 :: u20 :: u21 :: u22 :: u23 :: u24 :: u25 :: u26 :: u27 :: u28 :: (.slice (some ⟨pb, poff, none⟩) n pc : Value) :: (.int .i64 n : Value) :: (.int .i64 i : Value) :: u32 :: u33 :: u34 :: u35 :: u36 :: u37 :: u38 :: u39 :: u40 :: u41 :: u42 :: u43 :: u44 :: u45 :: u46 :: u47 :: u48 :: u49 :: u50 :: u51 :: u52 :: u53 :: u54 :: u55 :: u56 :: u57 :: u58 :: u59 :: u60 :: u61 :: u62 :: u63 :: u64 :: u65 :: u66 :: u67 :: u68 :: u69 :: u70 :: u71 :: u72 :: u73 :: u74 :: u75 :: u76 :: u77 :: u78 :: u79 :: u80 :: u81 :: u82 :: u83 :: u84 :: u85 :: u86 :: u87 :: u88 :: u89 :: u90 :: u91 :: u92 :: u93 :: u94 :: u95 :: u96 :: u97 :: u98 :: u99 :: u100 :: u101 :: u102 :: u103 :: u104 :: u105 :: u106 :: u107 :: u108 :: u109 :: u110 :: u111 :: []), []⟩ Y := by
  have HEX := Lib.hid hex
  clear hex
  have HRET := Lib.hid hret
  clear hret
  have HB := Lib.hid hb
  have HOWN := Lib.hid hown
  have HWL := Lib.hid hwl
  have HWQ := Lib.hid hwq
  have hlb : h0 < Y.heap.size := blk_lt hb
  have j4 : (i : Int) < (n : Int) := by omega
  have hfl := Fresh.of_own hown.1 rfl
  have hfq := Fresh.of_own hown.2.1 rfl
  have HFL := Lib.hid hfl
  have HFQ := Lib.hid hfq
  clear hb hown hwl hwq hfl hfq
  conv => arg 2; whnf
  go_step
  go_step
  go_step
  go_step
  go_step
  go_step
  go_step
  go_step
  go_step
  go_step
  go_step
  go_step
  go_step
  go_step
  go_step
  go_step
  refine k9 _ o i n pb poff pc _ _ _ _ _ _ _ _ _ _ _ _ _ _ _ _ _ _ _ _ _ _ _ _ _ _ _ _ _ _ _ _ _ _ _ _ _ _ _ _ _ _ _ _ _ _ _ _ _ _ _ _ _ _ _ _ _ _ _ _ _ _ _ _ _ _ _ _ _ _ _ _ _ _ _ _ _ _ _ _ _ _ _ _ _ _ _ _ _ _ _ _ _ _ _ _ _ _ _ _ _ _ _ _ _ _ _ _ _ _ _ hi m0 m1 m2 m3 m4 hpb ?_
  intro v33 v34 X1 x1 x2
  clear m0 m1 m2 m3 m4
  have X1B := Lib.hid x1
  have XO := Lib.hid x2
  have hlo : Y.heap.size < X1.heap.size := blk_lt x2
  have hb1 := (x1.block _ hlb).trans HB.out
  clear x1 x2
  go_step
  go_step
  go_step
  refine k10 _ r A B k m h0 _ _ _ _ _ _ _ _ _ _ _ _ _ _ _ _ _ _ _ _ _ _ _ _ _ _ _ _ _ _ _ _ _ _ _ _ _ _ _ _ _ _ _ _ _ _ _ _ _ _ _ _ _ _ _ _ _ _ _ _ _ _ _ _ _ _ _ _ _ _ _ _ _ _ _ _ _ _ _ _ _ _ _ _ _ _ _ _ _ _ _ _ _ _ _ _ _ _ _ _ _ _ _ _ _ _ _ _ _ _ _ hb1 ((c51 r.c A k B m r.gi r.live r.quar X1 (HFL.out.sl.below X1B.out) (HFQ.out.sl.below X1B.out) HFL.out.shape HFQ.out.shape (by omega) (by omega)).mono fun e w' h => h) ?_
  intro v35 v36 v37 X2 A1 B1 k1 m1 b1 x1 x2 x3 x4
  have X2B : Hid (Below Y.heap.size Y X2) := X1B.out.trans (x1.mono X1B.out.size)
  have HB1 := Lib.hid x2
  have HO1 : Hid (Own2 X2 Y.heap.size r A1 k1 B1 m1) := ⟨own_base x3.1 (by omega), own_base x3.2.1 (by omega), x3.2.2⟩
  have hb2 := (X2B.out.block _ hlb).trans HB.out
  have ho2 := (x1.block _ hlo).trans XO.out
  have hlb1 : b1 < X2.heap.size := blk_lt x2
  have hbY1 : Y.heap.size ≤ b1 := by omega
  have XO2 := Lib.hid ho2
  clear x1 x2 x3 x4 hb1 XO X1B
  go_step
  go_step
  go_step
  refine k11 _ (DoesP r.c r.gi r.live r.quar o) o r A B k m h0 Y.heap.size _ _ _ _ _ _ _ _ _ _ _ _ _ _ _ _ _ _ _ _ _ _ _ _ _ _ _ _ _ _ _ _ _ _ _ _ _ _ _ _ _ _ _ _ _ _ _ _ _ _ _ _ _ _ _ _ _ _ _ _ _ _ _ _ _ _ _ _ _ _ _ _ _ _ _ _ _ _ _ _ _ _ _ _ _ _ _ _ _ _ _ _ _ _ _ _ _ _ _ _ _ _ _ _ _ _ _ _ _ _ _ hb2 ho2 (c46 r.c _ _ r.gi r.live r.quar o X2 (HFL.out.sl.below X2B.out) (HFQ.out.sl.below X2B.out) HWL.out HWQ.out HFL.out.shape HFQ.out.shape (by omega)) ?_
  intro v10 v38 v39 v40 v41 v42 v43 v44 X3 err at_ r2 A2 B2 k2 m2 b2 x1 hd x2 f1 f2 x3
  have X23 := Lib.hid x1
  have X3B : Hid (Below Y.heap.size Y X3) := X2B.out.trans (x1.mono X2B.out.size)
  have HD := Lib.hid hd
  have HB2 := Lib.hid x2
  have F1 : Hid (Fresh Y.heap.size X3 (.slice A2 r2.live.length k2) r2.live) := f1.base X2B.out.size
  have F2 : Hid (Fresh Y.heap.size X3 (.slice B2 r2.quar.length m2) r2.quar) := f2.base X2B.out.size
  have hlb2 : b2 < X3.heap.size := blk_lt x2
  have hbY2 : Y.heap.size ≤ b2 := by have := X2B.out.size; omega
  obtain ⟨hs1, hs2⟩ := does_small hd HWL.out HWQ.out
  clear x1 hd f1 f2 x3 hb2 ho2
  go_step
  go_step
  go_step
  refine k12 _ r2 A2 B2 k2 m2 b2 _ _ _ _ _ _ _ _ _ _ _ _ _ _ _ _ _ _ _ _ _ _ _ _ _ _ _ _ _ _ _ _ _ _ _ _ _ _ _ _ _ _ _ _ _ _ _ _ _ _ _ _ _ _ _ _ _ _ _ _ _ _ _ _ _ _ _ _ _ _ _ _ _ _ _ _ _ _ _ _ _ _ _ _ _ _ _ _ _ _ _ _ _ _ _ _ _ _ _ _ _ _ _ _ _ _ _ _ _ _ _ x2 ((c51 r2.c A2 k2 B2 m2 r2.gi r2.live r2.quar X3 F1.out.sl F2.out.sl F1.out.shape F2.out.shape hs1 hs2).mono fun e w' h => h) ?_
  intro v45 v46 v47 X4 A3 B3 k3 m3 b3 x1 x3 x4 x5
  have X34 := Lib.hid x1
  have X4B : Hid (Below Y.heap.size Y X4) := X3B.out.trans (x1.mono X3B.out.size)
  have HB3 := Lib.hid x3
  have HO3 : Hid (Own2 X4 Y.heap.size r2 A3 k3 B3 m3) := ⟨own_base x4.1 X3B.out.size, own_base x4.2.1 X3B.out.size, x4.2.2⟩
  have hlb3 : b3 < X4.heap.size := blk_lt x3
  have hbY3 : Y.heap.size ≤ b3 := by have := X3B.out.size; omega
  have hb4 := (X4B.out.block _ hlb).trans HB.out
  have ho4 := (x1.block _ (by have := blk_lt XO2.out; have := X23.out.size; omega)).trans ((X23.out.block _ (by have := blk_lt XO2.out; omega)).trans XO2.out)
  clear x1 x2 x3 x4 x5
  go_step
  go_step
  go_step
  refine k13 _ o r A B k m h0 Y.heap.size _ _ _ _ _ _ _ _ _ _ _ _ _ _ _ _ _ _ _ _ _ _ _ _ _ _ _ _ _ _ _ _ _ _ _ _ _ _ _ _ _ _ _ _ _ _ _ _ _ _ _ _ _ _ _ _ _ _ _ _ _ _ _ _ _ _ _ _ _ _ _ _ _ _ _ _ _ _ _ _ _ _ _ _ _ _ _ _ _ _ _ _ _ _ _ _ _ _ _ _ _ _ _ _ _ _ _ _ _ _ _ hb4 ho4 ((c26 r.c _ _ r.gi r.live r.quar o.pos X4 (HFL.out.sl.below X4B.out) (HFQ.out.sl.below X4B.out) HWL.out HWQ.out hop.1 hop.2).mono fun e w' h => ⟨h.1, by rcases h.2 with ⟨_, h⟩ | ⟨_, _, h⟩ <;> exact ⟨_, h⟩⟩) ?_
  intro v48 v49 v50 v51 X5 x1
  have X45 := Lib.hid x1
  have X5B : Hid (Below Y.heap.size Y X5) := X4B.out.trans (x1.mono X4B.out.size)
  have hb5 := (X5B.out.block _ hlb).trans HB.out
  clear x1 hb4 ho4
  go_step
  go_step
  go_step
  refine k14 _ r A B k m h0 _ _ _ _ _ _ _ _ _ _ _ _ _ _ _ _ _ _ _ _ _ _ _ _ _ _ _ _ _ _ _ _ _ _ _ _ _ _ _ _ _ _ _ _ _ _ _ _ _ _ _ _ _ _ _ _ _ _ _ _ _ _ _ _ _ _ _ _ _ _ _ _ _ _ _ _ _ _ _ _ _ _ _ _ _ _ _ _ _ _ _ _ _ _ _ _ _ _ _ _ _ _ _ _ _ _ _ _ _ _ _ _ hb5 ((c27v r.c _ _ r.gi r.live r.quar X5 (HFL.out.sl.below X5B.out) (HFQ.out.sl.below X5B.out) HWL.out HWQ.out).mono fun e w' h => ⟨h.1, by rcases h.2 with ⟨_, h⟩ | ⟨_, _, _, h, _⟩ <;> exact ⟨_, h⟩⟩) ?_
  intro v52 v53 X6 x1
  have X46 : Hid (Below X4.heap.size X4 X6) := X45.out.trans (x1.mono X45.out.size)
  have X6B : Hid (Below Y.heap.size Y X6) := X4B.out.trans (X46.out.mono X4B.out.size)
  have X36 : Hid (Below X3.heap.size X3 X6) := X34.out.trans (X46.out.mono X34.out.size)
  have X26 : Hid (Below X2.heap.size X2 X6) := X23.out.trans (X36.out.mono X23.out.size)
  have hb6 := (X6B.out.block _ hlb).trans HB.out
  have hb61 := (X26.out.block _ hlb1).trans HB1.out
  have hb62 := (X36.out.block _ hlb2).trans HB2.out
  clear x1 hb5
  go_step
  go_step
  go_step
  refine k15 _ err r r2 A B A1 B1 A2 B2 k m k1 m1 k2 m2 h0 b1 b2 _ _ _ _ _ _ _ _ _ _ _ _ _ _ _ _ _ _ _ _ _ _ _ _ _ _ _ _ _ _ _ _ _ _ _ _ _ _ _ _ _ _ _ _ _ _ _ _ _ _ _ _ _ _ _ _ _ _ _ _ _ _ _ _ _ _ _ _ _ _ _ _ _ _ _ _ _ _ _ _ _ _ _ _ _ _ _ _ _ _ _ _ _ _ _ _ _ _ _ _ _ _ _ _ _ _ _ _ _ hb6 hb61 hb62 (fun V hV => ((c34 r.c r.c _ _ _ _ r.gi r.gi r.live r.quar r.live r.quar V (HFL.out.sl.below (X6B.out.trans (hV.mono X6B.out.size))) (HFQ.out.sl.below (X6B.out.trans (hV.mono X6B.out.size))) ((Fresh.of_own HO1.out.1 rfl).sl.below (X26.out.trans (hV.mono X26.out.size))) ((Fresh.of_own HO1.out.2.1 rfl).sl.below (X26.out.trans (hV.mono X26.out.size))) (by omega) (by omega) (by omega) (by omega)).mono fun e w' h => by rw [same_refl] at h; exact h)) ?_ ?_
  rotate_left
  · intro v54 v55 v56 v57 v58 v59 v60 v61 v62 v63 v64 v65 v66 v67 v68 v69 v70 X7 x1
    have hX := (X6B.out.trans (x1.mono X6B.out.size)).mono (show h0 ≤ Y.heap.size by omega)
    have HXX := Lib.hid hX
    clear hX x1 hb6 hb61 hb62
    go_wp2
    exact HRET.out _ _ _ _ _ _ _ _ _ _ _ _ _ _ _ _ _ _ _ _ _ _ _ _ _ _ _ _ _ _ _ _ _ _ _ _ _ _ _ _ _ _ _ _ _ _ _ _ _ _ _ _ _ _ _ _ _ _ _ _ _ _ _ _ _ _ _ _ _ _ _ _ _ _ _ _ _ _ _ _ _ _ _ _ _ _ _ _ _ HXX.out
  intro v54 v55 v56 v57 v58 v59 v60 v61 v62 v63 v64 v65 v66 v67 X7 x1 hfew
  have X67 := Lib.hid x1
  have HFEW := Lib.hid hfew
  have X7B : Hid (Below Y.heap.size Y X7) := X6B.out.trans (x1.mono X6B.out.size)
  have X27 : Hid (Below X2.heap.size X2 X7) := X26.out.trans (x1.mono X26.out.size)
  have X37 : Hid (Below X3.heap.size X3 X7) := X36.out.trans (x1.mono X36.out.size)
  have X47 : Hid (Below X4.heap.size X4 X7) := X46.out.trans (x1.mono X46.out.size)
  have hb7 := (X7B.out.block _ hlb).trans HB.out
  have HO7 : Hid (Own2 X7 (h0 + 1) r A k B m) := HOWN.out.below X7B.out
  have hra := HO7.out.rowA
  have hla := HO7.out.loA
  clear x1 hfew hb6 hb61 hb62
  go_step
  go_step
  go_step
  refine incA _ (h0 + 1) h0 r.live.length k A _ _ _ _ _ _ _ _ _ _ _ _ _ _ _ _ _ _ _ _ _ _ _ _ _ _ _ _ _ _ _ _ _ _ _ _ _ _ _ _ _ _ _ _ _ _ _ _ _ _ _ _ _ _ _ _ _ _ _ _ _ _ _ _ _ _ _ _ _ _ _ _ _ _ _ _ _ _ _ _ _ _ _ _ _ _ _ _ _ _ _ _ _ _ _ _ _ _ _ _ _ _ _ _ _ _ _ _ _ _ _ _ _ _ _ _ _ _ hb7 (fun g off e => ⟨(hla g off e).1, by have := (hla g off e).1; omega⟩) (by omega) hra ?_
  intro v13 v71 v72 v73 v74 v75 v76 v77 v78 v79 v80 v81 v82 v83 v84 v85 v86 X8 y1 y2 y3
  have Y1 := Lib.hid y1
  have Y2 := Lib.hid y2
  have Y3 := Lib.hid y3
  have hb8 := (y3 h0 (fun g off e => by have := (hla g off e).1; omega)).trans hb7
  have hrb := HO7.out.rowB' y3
  have hlb' := HO7.out.loB
  clear y1 y2 y3 hra hb7
  go_step
  go_step
  go_step
  refine incB _ (h0 + 1) h0 r.quar.length m B _ _ _ _ _ _ _ _ _ _ _ _ _ _ _ _ _ _ _ _ _ _ _ _ _ _ _ _ _ _ _ _ _ _ _ _ _ _ _ _ _ _ _ _ _ _ _ _ _ _ _ _ _ _ _ _ _ _ _ _ _ _ _ _ _ _ _ _ _ _ _ _ _ _ _ _ _ _ _ _ _ _ _ _ _ _ _ _ _ _ _ _ _ _ _ _ _ _ _ _ _ _ _ _ _ _ _ _ _ _ _ _ _ _ _ _ _ _ hb8 (fun g off e => ⟨(hlb' g off e).1, by have := (hlb' g off e).1; omega⟩) (by omega) hrb ?_
  intro v14 v87 v88 v89 v90 v91 v92 v93 v94 v95 v96 v97 v98 v99 v100 v101 v102 X9 y1 y2 y3
  have hs97 : X9.heap.size = X7.heap.size := by rw [y2, Y2.out]
  have hk9 : ∀ x, Y.heap.size ≤ x → X9.heap[x]? = X7.heap[x]? := fun x hx =>
    (y3 x (fun g off e => by have := HOWN.out.ltB g off e; omega)).trans (Y3.out x (fun g off e => by have := HOWN.out.ltA g off e; omega))
  have hk0 : X9.heap[h0]? = X7.heap[h0]? := (y3 h0 (fun g off e => by have := (hlb' g off e).1; omega)).trans (Y3.out h0 (fun g off e => by have := (hla g off e).1; omega))
  have X9B : Hid (Below h0 Y X9) := ((X7B.out.mono (show h0 ≤ Y.heap.size by omega)).trans (Y1.out.mono (show h0 ≤ h0 + 1 by omega))).trans (y1.mono (show h0 ≤ h0 + 1 by omega))
  have hb9 := (hk0.trans ((X7B.out.block _ hlb).trans HB.out))
  have HB9 := Lib.hid hb9
  have hb91 := (hk9 b1 hbY1).trans ((X27.out.block _ hlb1).trans HB1.out)
  have hb92 := (hk9 b2 hbY2).trans ((X37.out.block _ hlb2).trans HB2.out)
  have hb93 := (hk9 b3 hbY3).trans ((X47.out.block _ hlb3).trans HB3.out)
  have HO91 : Hid (Own2 X9 Y.heap.size r A1 k1 B1 m1) := (HO1.out.below X27.out).kept (fun x hx => hk9 x hx)
  have HO93 : Hid (Own2 X9 Y.heap.size r2 A3 k3 B3 m3) := (HO3.out.below X47.out).kept (fun x hx => hk9 x hx)
  have f91 := (F1.out.below X37.out).kept (by omega) (fun x _ hx => hk9 x hx)
  have f92 := (F2.out.below X37.out).kept (by omega) (fun x _ hx => hk9 x hx)
  have HF91 := Lib.hid f91
  have HF92 := Lib.hid f92
  have HB91 := Lib.hid hb91
  have HB93 := Lib.hid hb93
  clear y1 y2 y3 hrb hb8 Y1 Y2 Y3 hk9 hk0 f91 f92
  go_step
  go_step
  go_step
  refine k27 _ r2 A2 B2 A3 B3 k2 m2 k3 m3 b2 b3 _ _ _ _ _ _ _ _ _ _ _ _ _ _ _ _ _ _ _ _ _ _ _ _ _ _ _ _ _ _ _ _ _ _ _ _ _ _ _ _ _ _ _ _ _ _ _ _ _ _ _ _ _ _ _ _ _ _ _ _ _ _ _ _ _ _ _ _ _ _ _ _ _ _ _ _ _ _ _ _ _ _ _ _ _ _ _ _ _ _ _ _ _ _ _ _ _ _ _ _ _ _ _ _ _ _ _ _ _ _ _ hb92 hb93 ((c34 r2.c r2.c _ _ _ _ r2.gi r2.gi r2.live r2.quar r2.live r2.quar X9 HF91.out.sl HF92.out.sl (Fresh.of_own HO93.out.1 rfl).sl (Fresh.of_own HO93.out.2.1 rfl).sl (by omega) (by omega) (by omega) (by omega)).mono fun e w' h => by rw [same_refl] at h; exact h) ?_
  intro v103 v104 v105 v106 XA y1
  have hs9 : h0 < X9.heap.size := blk_lt hb9
  have hlA1 : b1 < X9.heap.size := blk_lt hb91
  have hlA3 : b3 < X9.heap.size := blk_lt hb93
  have hbA := (y1.block _ hs9).trans hb9
  have hbA1 := (y1.block _ hlA1).trans hb91
  have hbA3 := (y1.block _ hlA3).trans hb93
  have HOA1 : Hid (Own2 XA Y.heap.size r A1 k1 B1 m1) := HO91.out.below y1
  have HOA3 : Hid (Own2 XA Y.heap.size r2 A3 k3 B3 m3) := HO93.out.below y1
  have XAB : Hid (Below h0 Y XA) := X9B.out.trans (y1.mono (by omega))
  have HBA3 := Lib.hid hbA3
  clear y1 hb9 hb91 hb92 hb93
  go_step
  go_step
  go_step
  refine k29 _ r A1 B1 k1 m1 h0 b1 _ _ _ _ _ _ _ _ _ _ _ _ _ _ _ _ _ _ _ _ _ _ _ _ _ _ _ _ _ _ _ _ _ _ _ _ _ _ _ _ _ _ _ _ _ _ _ _ _ _ _ _ _ _ _ _ _ _ _ _ _ _ _ _ _ _ _ _ _ _ _ _ _ _ _ _ _ _ _ _ _ _ _ _ _ _ _ _ _ _ _ _ _ _ _ _ _ _ _ _ _ _ _ _ _ _ _ _ _ _ _ _ _ _ _ _ _ _ hbA hbA1 ?_
  intro v107 XB t1 t2 t3 t4
  have hbB3 := (t4 b3 (by omega)).trans HBA3.out
  have HOB1 : Hid (Own2 XB Y.heap.size r A1 k1 B1 m1) := HOA1.out.kept (fun x hx => t4 x (by omega))
  have HOB3 : Hid (Own2 XB Y.heap.size r2 A3 k3 B3 m3) := HOA3.out.kept (fun x hx => t4 x (by omega))
  have XBB : Hid (Below h0 Y XB) := XAB.out.trans t1
  have T2 := Lib.hid t2
  clear t1 t3 t4 hbA hbA1
  go_step
  go_step
  refine k30 _ err r2 A3 B3 k3 m3 h0 b3 _ _ _ _ _ _ _ _ _ _ _ _ _ _ _ _ _ _ _ _ _ _ _ _ _ _ _ _ _ _ _ _ _ _ _ _ _ _ _ _ _ _ _ _ _ _ _ _ _ _ _ _ _ _ _ _ _ _ _ _ _ _ _ _ _ _ _ _ _ _ _ _ _ _ _ _ _ _ _ _ _ _ _ _ _ _ _ _ _ _ _ _ _ _ _ _ _ _ _ _ _ _ _ _ _ _ _ _ _ _ _ _ _ _ _ _ _ t2 hbB3 ?_
  intro v108 v109 v110 XC hor
  clear t2 hbB3
  have HOR := Lib.hid hor
  clear hor
  go_wp2
  rcases HOR.out with ⟨he, t1, t2, t3, t4⟩ | ⟨_, rfl⟩
  · subst he
    have hg := does_good HD.out HWL.out HWQ.out
    exact HEX.out _ _ _ _ _ _ _ _ _ _ _ _ _ _ _ _ _ _ _ _ _ _ _ _ _ _ _ _ _ _ _ _ _ _ _ _ _ _ _ _ _ _ _ _ _ _ _ _ _ _ _ _ _ _ _ _ _ _ _ _ _ _ _ _ _ _ _ _ _ _ _ _ _ _ _ _ _ _ _ _ _ _ _ _ _ _ _ _ _ r2 A3 B3 k3 m3 (XBB.out.trans t1) t2 ((HOB3.out.kept (fun x hx => t4 x (by omega))).base (by omega)) ⟨hg.2.2.wl, hg.2.2.wq, few_len (HFEW.out rfl) (by omega) (by omega)⟩
  · exact HEX.out _ _ _ _ _ _ _ _ _ _ _ _ _ _ _ _ _ _ _ _ _ _ _ _ _ _ _ _ _ _ _ _ _ _ _ _ _ _ _ _ _ _ _ _ _ _ _ _ _ _ _ _ _ _ _ _ _ _ _ _ _ _ _ _ _ _ _ _ _ _ _ _ _ _ _ _ _ _ _ _ _ _ _ _ _ _ _ _ _ r A1 B1 k1 m1 XBB.out T2.out (HOB1.out.base (by omega)) ⟨HWL.out, HWQ.out, hsm⟩

end Go.Proofs.Ytbhbjcgbhklieaa
