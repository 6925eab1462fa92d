/- HeapKeeps: the two loops that write into the argument's own lists. -/
import Derived.Test.YtbhbjcgbhklieaaL11
import Derived.Test.YtbhbjcgbhklieaaE3
namespace Go.Proofs.Ytbhbjcgbhklieaa
open Go.RowKit Go.Shelf

noncomputable def incAC : Code := cA (cB (cB (cB (cB (cB (cB (cB (cK (cA (cB (cB (cL (cK (cB (cA (cB (cB (cB (cB (cB (Try.f13.body.getD .skip)))))))))))))))))))))
set_option maxRecDepth 1000000 in
set_option maxHeartbeats 40000000 in
theorem incA (Q0 : Exit → Act → World → Prop) (lo b n k : Nat) (A : Option Addr) (Y : World) (x0 x1 x2 x3 x5 x6 u0 u1 u3 u4 u5 u6 u7 u8 u9 u10 u11 u12 u13 u14 u15 u16 u17 u18 u19 u20 u21 u22 u23 u24 u25 u26 u27 u28 u29 u30 u31 u32 u33 u34 u35 u36 u37 u38 u39 u40 u41 u42 u43 u44 u45 u46 u47 u48 u49 u50 u51 u52 u53 u54 u55 u56 u57 u58 u59 u60 u61 u62 u63 u64 u65 u66 u67 u68 u69 u70 u71 u72 u73 u74 u75 u76 u77 u78 u79 u80 u81 u82 u83 u84 u85 u86 u87 u88 u89 u90 u91 u92 u93 u94 u95 u96 u97 u98 u99 u100 u101 u102 u103 u104 u105 u106 u107 u108 u109 u110 u111 : Value)
    (hb : Y.heap[b]? = some (.cells #[x0, x1, x2, x3, .slice A n k, x5, x6] 26 (0, 0))) (hlo : ∀ g off, A = some ⟨g, off, none⟩ → lo ≤ g ∧ b ≠ g) (hn : n ≤ 100000)
    (hr : n = 0 ∨ ∃ g off cur, A = some ⟨g, off, none⟩ ∧ g ≠ b ∧ Y.heap[g]? = some (.cells cur 38 (0, 0)) ∧ ∀ j, j < n → ∃ z : Int, cur[off + j * 3 + 1]? = some (.int .i64 z))
    (hexit : ∀ (v13 v71 v72 v73 v74 v75 v76 v77 v78 v79 v80 v81 v82 v83 v84 v85 v86 : Value) (W' : World), Below lo Y W' → W'.heap.size = Y.heap.size → (∀ x, (∀ g off, A = some ⟨g, off, none⟩ → x ≠ g) → W'.heap[x]? = Y.heap[x]?) → Q0 .normal ⟨List.toArray (u0 :: u1 :: (.pointer (some ⟨b, 0, none⟩) : Value) :: u3 :: u4 :: u5 :: u6 :: u7 :: u8 :: u9 :: u10 :: u11 :: u12 :: v13 :: u14 :: u15 :: u16 :: u17 :: u18 :: u19 :: u20 :: u21 :: u22 :: u23 :: u24 :: u25 :: u26 :: u27 :: u28 :: u29 :: u30 :: u31 :: u32 :: u33 :: u34 :: u35 :: u36 :: u37 :: u38 :: u39 :: u40 :: u41 :: u42 :: u43 :: u44 :: u45 :: u46 :: u47 :: u48 :: u49 :: u50 :: u51 :: u52 :: u53 :: u54 :: u55 :: u56 :: u57 :: u58 :: u59 :: u60 :: u61 :: u62 :: u63 :: u64 :: u65 :: u66 :: u67 :: u68 :: u69 :: u70 :: v71 :: v72 :: v73 :: v74 :: v75 :: v76 :: v77 :: v78 :: v79 :: v80 :: v81 :: v82 :: v83 :: v84 :: v85 :: v86 :: u87 :: u88 :: u89 :: u90 :: u91 :: u92 :: u93 :: u94 :: u95 :: u96 :: u97 :: u98 :: u99 :: u100 :: u101 :: u102 :: u103 :: u104 :: u105 :: u106 :: u107 :: u108 :: u109 :: u110 :: u111 :: []), []⟩ W') :
    Code.wp Try.prog incAC Q0 ⟨List.toArray (u0 :: u1 :: (.pointer (some ⟨b, 0, none⟩) : Value) :: u3 :: u4 :: u5 :: u6 :: u7 :: u8 :: u9 :: u10 :: u11 :: u12 :: u13 :: u14 :: u15 :: u16 :: u17 :: u18 :: u19 :: u20 :: u21 :: u22 :: u23 :: u24 :: u25 :: u26 :: u27 :: u28 :: u29 :: u30 :: u31 :: u32 :: u33 :: u34 :: u35 :: u36 :: u37 :: u38 :: u39 :: u40 :: u41 :: u42 :: u43 :: u44 :: u45 :: u46 :: u47 :: u48 :: u49 :: u50 :: u51 :: u52 :: u53 :: u54 :: u55 :: u56 :: u57 :: u58 :: u59 :: u60 :: u61 :: u62 :: u63 :: u64 :: u65 :: u66 :: u67 :: u68 :: u69 :: u70 :: u71 :: u72 :: u73 :: u74 :: u75 :: u76 :: u77 :: u78 :: u79 :: u80 :: u81 :: u82 :: u83 :: u84 :: u85 :: u86 :: u87 :: u88 :: u89 :: u90 :: u91 :: u92 :: u93 :: u94 :: u95 :: u96 :: u97 :: u98 :: u99 :: u100 :: u101 :: u102 :: u103 :: u104 :: u105 :: u106 :: u107 :: u108 :: u109 :: u110 :: u111 :: []), []⟩ Y := by
  have HB := Lib.hid hb
  have HLO := Lib.hid hlo
  have HR := Lib.hid hr
  have HEX := Lib.hid hexit
  have hlb : b < Y.heap.size := blk_lt hb
  have q4 := blk_cell hb 4
  simp only [List.getElem?_toArray, List.getElem?_cons_succ, List.getElem?_cons_zero] at q4
  clear hb hlo hr hexit
  conv => arg 2; whnf
  go_wp2
  clear q4
  go_loopg [74] n (fun kx s74 wr => ∃ j : Nat, j ≤ n ∧ s74 = .int .i64 j ∧ n - j ≤ kx ∧ Hid (Below lo Y wr ∧ wr.heap.size = Y.heap.size ∧ (∀ x, (∀ g off, A = some ⟨g, off, none⟩ → x ≠ g) → wr.heap[x]? = Y.heap[x]?) ∧ (n = 0 ∨ ∃ g off cur, A = some ⟨g, off, none⟩ ∧ g ≠ b ∧ wr.heap[g]? = some (.cells cur 38 (0, 0)) ∧ ∀ j, j < n → ∃ z : Int, cur[off + j * 3 + 1]? = some (.int .i64 z))))
  case atStart => exact ⟨0, Nat.zero_le _, rfl, by omega, Below.refl _ _, rfl, fun _ _ => rfl, HR.out⟩
  case round =>
    obtain ⟨j, hj, rfl, hjx, HX⟩ := hrel
    by_cases hjn : j < n
    · obtain ⟨g, off, cur, rfl, hgb, hg, hz⟩ := HX.out.2.2.2.resolve_left (by omega)
      obtain ⟨z, hzj⟩ := hz j hjn
      have hbr := (HX.out.2.2.1 b (fun g' off' e => (HLO.out g' off' e).2)).trans HB.out
      have q4 := blk_cell hbr 4
      simp only [List.getElem?_toArray, List.getElem?_cons_succ, List.getElem?_cons_zero] at q4
      have hc : wr.cell? ⟨g, off + j * 3 + 1, none⟩ = some (.int .i64 z) := (blk_cell hg _).trans hzj
      have hf : wr.frozen? ⟨g, off + j * 3 + 1, none⟩ = false := frozen_of_row _ _ _ _ _ hg
      have hlg : g < wr.heap.size := blk_lt hg
      have hlbr : b < wr.heap.size := blk_lt hbr
      have j4 : (j : Int) < (n : Int) := by omega
      have HG := Lib.hid hg
      have HZ := Lib.hid hz
      clear hbr hg hz hzj
      go_wp2
      go_roundg (n - (j + 1))
      case measure => omega
      case rel =>
        refine ⟨j + 1, by omega, by go_num, Nat.le_refl _, HX.out.1.setCell (p := ⟨g, off + j * 3 + 1, none⟩) (HLO.out g off rfl).1 _, by simp [World.setCell, HX.out.2.1], fun x hx => (Below.heap_setCell _ _ _ _ (hx g off rfl)).trans (HX.out.2.2.1 x hx), .inr ⟨g, off, _, rfl, hgb, row_setCell (o := off + j * 3 + 1) _ HG.out, fun j' hj' => ?_⟩⟩
        by_cases hjj : off + j' * 3 + 1 = off + j * 3 + 1
        · have hlt : off + j * 3 + 1 < cur.size := by
            obtain ⟨z', hz'⟩ := HZ.out j hjn
            exact (Array.getElem?_eq_some_iff.1 hz').1
          rw [hjj, Array.getElem?_setIfInBounds_self_of_lt hlt]; exact ⟨_, rfl⟩
        · rw [Array.getElem?_setIfInBounds_ne (Ne.symm hjj)]; exact HZ.out j' hj'
    · obtain rfl : j = n := by omega
      clear hjn
      go_wp2
      exact HEX.out _ _ _ _ _ _ _ _ _ _ _ _ _ _ _ _ _ wr HX.out.1 HX.out.2.1 HX.out.2.2.1

noncomputable def incBC : Code := cA (cB (cB (cB (cB (cB (cB (cB (cB (cK (cA (cB (cB (cL (cK (cB (cA (cB (cB (cB (cB (cB (Try.f13.body.getD .skip))))))))))))))))))))))
set_option maxRecDepth 1000000 in
set_option maxHeartbeats 40000000 in
theorem incB (Q0 : Exit → Act → World → Prop) (lo b n k : Nat) (A : Option Addr) (Y : World) (x0 x1 x2 x3 x4 x6 u0 u1 u3 u4 u5 u6 u7 u8 u9 u10 u11 u12 u13 u14 u15 u16 u17 u18 u19 u20 u21 u22 u23 u24 u25 u26 u27 u28 u29 u30 u31 u32 u33 u34 u35 u36 u37 u38 u39 u40 u41 u42 u43 u44 u45 u46 u47 u48 u49 u50 u51 u52 u53 u54 u55 u56 u57 u58 u59 u60 u61 u62 u63 u64 u65 u66 u67 u68 u69 u70 u71 u72 u73 u74 u75 u76 u77 u78 u79 u80 u81 u82 u83 u84 u85 u86 u87 u88 u89 u90 u91 u92 u93 u94 u95 u96 u97 u98 u99 u100 u101 u102 u103 u104 u105 u106 u107 u108 u109 u110 u111 : Value)
    (hb : Y.heap[b]? = some (.cells #[x0, x1, x2, x3, x4, .slice A n k, x6] 26 (0, 0))) (hlo : ∀ g off, A = some ⟨g, off, none⟩ → lo ≤ g ∧ b ≠ g) (hn : n ≤ 100000)
    (hr : n = 0 ∨ ∃ g off cur, A = some ⟨g, off, none⟩ ∧ g ≠ b ∧ Y.heap[g]? = some (.cells cur 38 (0, 0)) ∧ ∀ j, j < n → ∃ z : Int, cur[off + j * 3 + 1]? = some (.int .i64 z))
    (hexit : ∀ (v14 v87 v88 v89 v90 v91 v92 v93 v94 v95 v96 v97 v98 v99 v100 v101 v102 : Value) (W' : World), Below lo Y W' → W'.heap.size = Y.heap.size → (∀ x, (∀ g off, A = some ⟨g, off, none⟩ → x ≠ g) → W'.heap[x]? = Y.heap[x]?) → Q0 .normal ⟨List.toArray (u0 :: u1 :: (.pointer (some ⟨b, 0, none⟩) : Value) :: u3 :: u4 :: u5 :: u6 :: u7 :: u8 :: u9 :: u10 :: u11 :: u12 :: u13 :: v14 :: u15 :: u16 :: u17 :: u18 :: u19 :: u20 :: u21 :: u22 :: u23 :: u24 :: u25 :: u26 :: u27 :: u28 :: u29 :: u30 :: u31 :: u32 :: u33 :: u34 :: u35 :: u36 :: u37 :: u38 :: u39 :: u40 :: u41 :: u42 :: u43 :: u44 :: u45 :: u46 :: u47 :: u48 :: u49 :: u50 :: u51 :: u52 :: u53 :: u54 :: u55 :: u56 :: u57 :: u58 :: u59 :: u60 :: u61 :: u62 :: u63 :: u64 :: u65 :: u66 :: u67 :: u68 :: u69 :: u70 :: u71 :: u72 :: u73 :: u74 :: u75 :: u76 :: u77 :: u78 :: u79 :: u80 :: u81 :: u82 :: u83 :: u84 :: u85 :: u86 :: v87 :: v88 :: v89 :: v90 :: v91 :: v92 :: v93 :: v94 :: v95 :: v96 :: v97 :: v98 :: v99 :: v100 :: v101 :: v102 :: u103 :: u104 :: u105 :: u106 :: u107 :: u108 :: u109 :: u110 :: u111 :: []), []⟩ W') :
    Code.wp Try.prog incBC Q0 ⟨List.toArray (u0 :: u1 :: (.pointer (some ⟨b, 0, none⟩) : Value) :: u3 :: u4 :: u5 :: u6 :: u7 :: u8 :: u9 :: u10 :: u11 :: u12 :: u13 :: u14 :: u15 :: u16 :: u17 :: u18 :: u19 :: u20 :: u21 :: u22 :: u23 :: u24 :: u25 :: u26 :: u27 :: u28 :: u29 :: u30 :: u31 :: u32 :: u33 :: u34 :: u35 :: u36 :: u37 :: u38 :: u39 :: u40 :: u41 :: u42 :: u43 :: u44 :: u45 :: u46 :: u47 :: u48 :: u49 :: u50 :: u51 :: u52 :: u53 :: u54 :: u55 :: u56 :: u57 :: u58 :: u59 :: u60 :: u61 :: u62 :: u63 :: u64 :: u65 :: u66 :: u67 :: u68 :: u69 :: u70 :: u71 :: u72 :: u73 :: u74 :: u75 :: u76 :: u77 :: u78 :: u79 :: u80 :: u81 :: u82 :: u83 :: u84 :: u85 :: u86 :: u87 :: u88 :: u89 :: u90 :: u91 :: u92 :: u93 :: u94 :: u95 :: u96 :: u97 :: u98 :: u99 :: u100 :: u101 :: u102 :: u103 :: u104 :: u105 :: u106 :: u107 :: u108 :: u109 :: u110 :: u111 :: []), []⟩ Y := by
  have HB := Lib.hid hb
  have HLO := Lib.hid hlo
  have HR := Lib.hid hr
  have HEX := Lib.hid hexit
  have hlb : b < Y.heap.size := blk_lt hb
  have q5 := blk_cell hb 5
  simp only [List.getElem?_toArray, List.getElem?_cons_succ, List.getElem?_cons_zero] at q5
  clear hb hlo hr hexit
  conv => arg 2; whnf
  go_wp2
  clear q5
  go_loopg [90] n (fun kx s90 wr => ∃ j : Nat, j ≤ n ∧ s90 = .int .i64 j ∧ n - j ≤ kx ∧ Hid (Below lo Y wr ∧ wr.heap.size = Y.heap.size ∧ (∀ x, (∀ g off, A = some ⟨g, off, none⟩ → x ≠ g) → wr.heap[x]? = Y.heap[x]?) ∧ (n = 0 ∨ ∃ g off cur, A = some ⟨g, off, none⟩ ∧ g ≠ b ∧ wr.heap[g]? = some (.cells cur 38 (0, 0)) ∧ ∀ j, j < n → ∃ z : Int, cur[off + j * 3 + 1]? = some (.int .i64 z))))
  case atStart => exact ⟨0, Nat.zero_le _, rfl, by omega, Below.refl _ _, rfl, fun _ _ => rfl, HR.out⟩
  case round =>
    obtain ⟨j, hj, rfl, hjx, HX⟩ := hrel
    by_cases hjn : j < n
    · obtain ⟨g, off, cur, rfl, hgb, hg, hz⟩ := HX.out.2.2.2.resolve_left (by omega)
      obtain ⟨z, hzj⟩ := hz j hjn
      have hbr := (HX.out.2.2.1 b (fun g' off' e => (HLO.out g' off' e).2)).trans HB.out
      have q5 := blk_cell hbr 5
      simp only [List.getElem?_toArray, List.getElem?_cons_succ, List.getElem?_cons_zero] at q5
      have hc : wr.cell? ⟨g, off + j * 3 + 1, none⟩ = some (.int .i64 z) := (blk_cell hg _).trans hzj
      have hf : wr.frozen? ⟨g, off + j * 3 + 1, none⟩ = false := frozen_of_row _ _ _ _ _ hg
      have hlg : g < wr.heap.size := blk_lt hg
      have hlbr : b < wr.heap.size := blk_lt hbr
      have j4 : (j : Int) < (n : Int) := by omega
      have HG := Lib.hid hg
      have HZ := Lib.hid hz
      clear hbr hg hz hzj
      go_wp2
      go_roundg (n - (j + 1))
      case measure => omega
      case rel =>
        refine ⟨j + 1, by omega, by go_num, Nat.le_refl _, HX.out.1.setCell (p := ⟨g, off + j * 3 + 1, none⟩) (HLO.out g off rfl).1 _, by simp [World.setCell, HX.out.2.1], fun x hx => (Below.heap_setCell _ _ _ _ (hx g off rfl)).trans (HX.out.2.2.1 x hx), .inr ⟨g, off, _, rfl, hgb, row_setCell (o := off + j * 3 + 1) _ HG.out, fun j' hj' => ?_⟩⟩
        by_cases hjj : off + j' * 3 + 1 = off + j * 3 + 1
        · have hlt : off + j * 3 + 1 < cur.size := by
            obtain ⟨z', hz'⟩ := HZ.out j hjn
            exact (Array.getElem?_eq_some_iff.1 hz').1
          rw [hjj, Array.getElem?_setIfInBounds_self_of_lt hlt]; exact ⟨_, rfl⟩
        · rw [Array.getElem?_setIfInBounds_ne (Ne.symm hjj)]; exact HZ.out j' hj'
    · obtain rfl : j = n := by omega
      clear hjn
      go_wp2
      exact HEX.out _ _ _ _ _ _ _ _ _ _ _ _ _ _ _ _ _ wr HX.out.1 HX.out.2.1 HX.out.2.2.1
end Go.Proofs.Ytbhbjcgbhklieaa
