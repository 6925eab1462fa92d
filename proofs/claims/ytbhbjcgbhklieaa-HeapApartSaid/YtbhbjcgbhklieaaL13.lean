/- HeapApart: parts of the outer loop's round, over letters: region 13 with its test (mid12), what stands behind the inner loop (tail12). -/
import Derived.Test.YtbhbjcgbhklieaaL11
namespace Go.Proofs.Ytbhbjcgbhklieaa
open Go.RowKit Go.Shelf

noncomputable def tl12 : Code := cB (cB (cB (cB (cK (cA (cB (cB (cL (cK (cB (cA (cB (cB (cB (cB (cB (cB (Try.f12.body.getD .skip))))))))))))))))))
set_option maxRecDepth 1000000 in
set_option maxHeartbeats 40000000 in
theorem tail12 (Q0 : Exit → Act → World → Prop) (c : Conf) (gi : Int) (lv qv : Value) (p : Piece) (nb pb : Nat) (Y : World) (u0 u1 u2 u3 u4 u6 u7 u9 u10 u11 u12 u13 u14 u15 u16 u17 u18 u19 u20 u21 u22 u23 u24 u25 u26 u27 u28 u29 u30 u31 u32 u33 u34 u35 u36 u37 u38 u39 u40 u41 u42 u43 u44 u45 u46 u47 u48 u49 u50 u51 u52 u53 u54 u55 u56 u57 u58 u59 u60 u61 u62 u63 u64 u65 u66 u67 u68 u69 u70 u71 u72 u73 u74 u75 u76 u77 u78 u79 u80 u81 u82 u83 u84 u85 u86 u87 u88 u89 u90 u91 u92 u93 u94 u95 u96 u97 u98 u99 u100 u101 u102 u103 u104 u105 u106 u107 u108 u109 u110 u111 u112 u113 u114 u115 u116 u117 u118 u119 u120 u121 u122 u123 u124 u125 u126 u127 u128 u129 u130 u131 u132 u133 u134 u135 u136 u137 u138 u139 u140 u141 u142 u143 u144 u145 u146 u147 u148 u149 u150 u151 u152 u153 u154 u155 u156 u157 u158 u159 u160 u161 u162 u163 u164 u165 u166 u167 u168 u169 u170 u171 u172 u173 u174 u175 u176 u177 u178 u179 u180 u181 u182 u183 u184 u185 u186 u187 u188 u189 u190 u191 u192 u193 u194 u195 : Value)
    (hp : Y.heap[pb]? = some (.cells #[.int .u32 p.pos, .int .i64 p.size, .int .i64 p.born] 38 (0, 0))) (hb : Y.heap[nb]? = some (.cells #[.int .i64 c.page, .int .i64 c.n, .int .i64 c.red, .int .i64 c.quarantine, lv, qv, .int .i64 gi] 26 (0, 0)))
    (hS : ∀ V, Below Y.heap.size Y V → Calls Try.prog 35 #[.agg #[.int .i64 c.page, .int .i64 c.n, .int .i64 c.red, .int .i64 c.quarantine, lv, qv, .int .i64 gi], .int .u32 p.pos] V fun e w' => e = .returned (.tuple #[.int .i64 p.size, .int .i64 0]) ∧ Below V.heap.size V w')
    (hU : ∀ V, Below Y.heap.size Y V → Calls Try.prog 28 #[.agg #[.int .i64 c.page, .int .i64 c.n, .int .i64 c.red, .int .i64 c.quarantine, lv, qv, .int .i64 gi], .int .u32 p.pos, .int .i64 p.size] V fun e w' => e = .returned (.tuple #[.int .u32 0, .bool false]) ∧ Below V.heap.size V w')
    (hexit : ∀ (v15 v16 v17 v18 v170 v171 v172 v173 v174 v175 v176 v177 v178 v179 v180 v181 v182 v183 v184 v185 v186 v187 v188 v189 v190 v191 v192 v193 v194 : Value) (W' : World), Below Y.heap.size Y W' → Q0 .normal ⟨List.toArray (u0 :: u1 :: u2 :: u3 :: u4 :: (.pointer (some ⟨nb, 0, none⟩) : Value) :: u6 :: u7 :: (.pointer (some ⟨pb, 0, none⟩) : Value) :: u9 :: u10 :: u11 :: u12 :: u13 :: u14 :: v15 :: v16 :: v17 :: v18 :: u19 :: u20 :: u21 :: u22 :: u23 :: u24 :: u25 :: u26 :: u27 :: u28 :: u29 :: u30 :: u31 :: u32 :: u33 :: u34 :: u35 :: u36 :: u37 :: u38 :: u39 :: u40 :: u41 :: u42 :: u43 :: u44 :: u45 :: u46 :: u47 :: u48 :: u49 :: u50 :: u51 :: u52 :: u53 :: u54 :: u55 :: u56 :: u57 :: u58 :: u59 :: u60 :: u61 :: u62 :: u63 :: u64 :: u65 :: u66 :: u67 :: u68 :: u69 :: u70 :: u71 :: u72 :: u73 :: u74 :: u75 :: u76 :: u77 :: u78 :: u79 :: u80 :: u81 :: u82 :: u83 :: u84 :: u85 :: u86 :: u87 :: u88 :: u89 :: u90 :: u91 :: u92 :: u93 :: u94 :: u95 :: u96 :: u97 :: u98 :: u99 :: u100 :: u101 :: u102 :: u103 :: u104 :: u105 :: u106 :: u107 :: u108 :: u109 :: u110 :: u111 :: u112 :: u113 :: u114 :: u115 :: u116 :: u117 :: u118 :: u119 :: u120 :: u121 :: u122 :: u123 :: u124 :: u125 :: u126 :: u127 :: u128 :: u129 :: u130 :: u131 :: u132 :: u133 :: u134 :: u135 :: u136 :: u137 :: u138 :: u139 :: u140 :: u141 :: u142 :: u143 :: u144 :: u145 :: u146 :: u147 :: u148 :: u149 :: u150 :: u151 :: u152 :: u153 :: u154 :: u155 :: u156 :: u157 :: u158 :: u159 :: u160 :: u161 :: u162 :: u163 :: u164 :: u165 :: u166 :: u167 :: u168 :: u169 :: v170 :: v171 :: v172 :: v173 :: v174 :: v175 :: v176 :: v177 :: v178 :: v179 :: v180 :: v181 :: v182 :: v183 :: v184 :: v185 :: v186 :: v187 :: v188 :: v189 :: v190 :: v191 :: v192 :: v193 :: v194 :: u195 :: []), []⟩ W') :
    Code.wp Try.prog tl12 Q0 ⟨List.toArray (u0 :: u1 :: u2 :: u3 :: u4 :: (.pointer (some ⟨nb, 0, none⟩) : Value) :: u6 :: u7 :: (.pointer (some ⟨pb, 0, none⟩) : Value) :: u9 :: u10 :: u11 :: u12 :: u13 :: u14 :: u15 :: u16 :: u17 :: u18 :: u19 :: u20 :: u21 :: u22 :: u23 :: u24 :: u25 :: u26 :: u27 :: u28 :: u29 :: u30 :: u31 :: u32 :: u33 :: u34 :: u35 :: u36 :: u37 :: u38 :: u39 :: u40 :: u41 :: u42 :: u43 :: u44 :: u45 :: u46 :: u47 :: u48 :: u49 :: u50 :: u51 :: u52 :: u53 :: u54 :: u55 :: u56 :: u57 :: u58 :: u59 :: u60 :: u61 :: u62 :: u63 :: u64 :: u65 :: u66 :: u67 :: u68 :: u69 :: u70 :: u71 :: u72 :: u73 :: u74 :: u75 :: u76 :: u77 :: u78 :: u79 :: u80 :: u81 :: u82 :: u83 :: u84 :: u85 :: u86 :: u87 :: u88 :: u89 :: u90 :: u91 :: u92 :: u93 :: u94 :: u95 :: u96 :: u97 :: u98 :: u99 :: u100 :: u101 :: u102 :: u103 :: u104 :: u105 :: u106 :: u107 :: u108 :: u109 :: u110 :: u111 :: u112 :: u113 :: u114 :: u115 :: u116 :: u117 :: u118 :: u119 :: u120 :: u121 :: u122 :: u123 :: u124 :: u125 :: u126 :: u127 :: u128 :: u129 :: u130 :: u131 :: u132 :: u133 :: u134 :: u135 :: u136 :: u137 :: u138 :: u139 :: u140 :: u141 :: u142 :: u143 :: u144 :: u145 :: u146 :: u147 :: u148 :: u149 :: u150 :: u151 :: u152 :: u153 :: u154 :: u155 :: u156 :: u157 :: u158 :: u159 :: u160 :: u161 :: u162 :: u163 :: u164 :: u165 :: u166 :: u167 :: u168 :: u169 :: u170 :: u171 :: u172 :: u173 :: u174 :: u175 :: u176 :: u177 :: u178 :: u179 :: u180 :: u181 :: u182 :: u183 :: u184 :: u185 :: u186 :: u187 :: u188 :: u189 :: u190 :: u191 :: u192 :: u193 :: u194 :: u195 :: []), []⟩ Y := by
  have HP := Lib.hid hp
  have HB := Lib.hid hb
  have HS := Lib.hid (hS Y (Below.refl _ _))
  have HU := Lib.hid hU
  have HEX := Lib.hid hexit
  have hlp : pb < Y.heap.size := blk_lt hp
  have hlb : nb < Y.heap.size := blk_lt hb
  clear hp hb hS hU hexit
  have q0 := blk_cell HB.out 0
  have q1 := blk_cell HB.out 1
  have q2 := blk_cell HB.out 2
  have q3 := blk_cell HB.out 3
  have q4 := blk_cell HB.out 4
  have q5 := blk_cell HB.out 5
  have q6 := blk_cell HB.out 6
  simp only [List.getElem?_toArray, List.getElem?_cons_succ, List.getElem?_cons_zero] at q0 q1 q2 q3 q4 q5 q6
  have n0 := blk_cell HP.out 0
  have n1 := blk_cell HP.out 1
  have n2 := blk_cell HP.out 2
  simp only [List.getElem?_toArray, List.getElem?_cons_succ, List.getElem?_cons_zero] at n0 n1 n2
  conv => arg 2; whnf
  go_wp2_with fail
  refine Calls.mono HS.out ?_
  rintro e y1 ⟨rfl, hY1⟩
  have HY1 := Lib.hid hY1
  have hbj := (hY1.block _ hlb).trans HB.out
  have hpj := (hY1.block _ hlp).trans HP.out
  have HU1 := Lib.hid (HU.out y1 hY1)
  clear q0 q1 q2 q3 q4 q5 q6 n0 n1 n2 hY1
  have q0 := blk_cell hbj 0
  have q1 := blk_cell hbj 1
  have q2 := blk_cell hbj 2
  have q3 := blk_cell hbj 3
  have q4 := blk_cell hbj 4
  have q5 := blk_cell hbj 5
  have q6 := blk_cell hbj 6
  simp only [List.getElem?_toArray, List.getElem?_cons_succ, List.getElem?_cons_zero] at q0 q1 q2 q3 q4 q5 q6
  have n0 := blk_cell hpj 0
  have n1 := blk_cell hpj 1
  have n2 := blk_cell hpj 2
  simp only [List.getElem?_toArray, List.getElem?_cons_succ, List.getElem?_cons_zero] at n0 n1 n2
  clear hbj hpj
  go_wp2_with fail
  refine Calls.mono HU1.out ?_
  rintro e y2 ⟨rfl, hY2⟩
  have HY2 := Lib.hid hY2
  clear hY2
  go_wp2
  exact HEX.out _ _ _ _ _ _ _ _ _ _ _ _ _ _ _ _ _ _ _ _ _ _ _ _ _ _ _ _ _  y2 (HY1.out.trans (HY2.out.mono HY1.out.size))
noncomputable def md12 : Code := cA (cB (cB (cK (cA (cB (cB (cL (cK (cB (cA (cB (cB (cB (cB (cB (cB (Try.f12.body.getD .skip)))))))))))))))))
theorem below_drewM {B : Nat} {a w : World} (h : Below B a w) (n : Nat) : Below B a (w.drewN n) := h.trans ⟨rfl, rfl, rfl, Nat.le_refl _, fun _ _ => rfl⟩
set_option maxRecDepth 1000000 in
set_option maxHeartbeats 40000000 in
theorem mid12 (Q0 : Exit → Act → World → Prop) (c : Conf) (gi : Int) (qv : Value) (p : Piece) (i N k bb off cb nb pb : Nat) (Y : World) (u0 u1 u3 u4 u6 u11 u12 u13 u14 u15 u16 u17 u18 u19 u20 u21 u22 u23 u24 u25 u26 u27 u28 u29 u30 u31 u32 u33 u34 u35 u36 u37 u38 u39 u40 u41 u42 u43 u44 u45 u46 u47 u48 u49 u50 u51 u52 u53 u54 u55 u56 u57 u58 u59 u60 u61 u62 u63 u64 u65 u66 u67 u68 u69 u70 u71 u72 u73 u74 u75 u76 u77 u78 u79 u80 u81 u82 u83 u84 u85 u86 u87 u88 u89 u90 u91 u92 u93 u94 u95 u96 u97 u98 u99 u100 u101 u102 u103 u104 u105 u106 u107 u108 u109 u110 u111 u112 u113 u114 u115 u116 u117 u118 u119 u120 u121 u122 u123 u124 u125 u126 u127 u128 u129 u130 u131 u132 u133 u134 u135 u136 u137 u138 u139 u140 u141 u142 u143 u144 u145 u146 u147 u148 u149 u150 u151 u152 u153 u154 u155 u156 u157 u158 u159 u160 u161 u162 u163 u164 u165 u166 u167 u168 u169 u170 u171 u172 u173 u174 u175 u176 u177 u178 u179 u180 u181 u182 u183 u184 u185 u186 u187 u188 u189 u190 u191 u192 u193 u194 u195 : Value)
    (hc : Y.heap[cb]? = some (.cells #[.int .i64 c.page, .int .i64 c.n, .int .i64 c.red, .int .i64 c.quarantine] 23 (0, 0)))
    (hb : Y.heap[nb]? = some (.cells #[.int .i64 c.page, .int .i64 c.n, .int .i64 c.red, .int .i64 c.quarantine, .slice (some ⟨bb, off, none⟩) N k, qv, .int .i64 gi] 26 (0, 0)))
    (hp : Y.heap[pb]? = some (.cells #[.int .u32 p.pos, .int .i64 p.size, .int .i64 p.born] 38 (0, 0)))
    (hprev : ∀ i', i = i' + 1 → ∃ pp, Y.cell? ⟨bb, off + i' * 3, none⟩ = some (.int .u32 pp) ∧ pp < p.pos) (_ : bb < Y.heap.size) (hi : i < N)
    (j1 : (i : Int) < 9223372036854775807)
    (d1 : decide (p.pos - c.red < c.page * 256) = false) (d2 : decide ((c.page + c.n) * 256 ≤ p.pos + max p.size 1 + c.red - 1) = false)
    (hs5 : IntKind.i64.wrap (c.page * 256) = c.page * 256) (hs6 : IntKind.i64.wrap (c.page + c.n) = c.page + c.n) (hs7 : IntKind.i64.wrap ((c.page + c.n) * 256) = (c.page + c.n) * 256)
    (hexit : ∀ (v73 v74 v75 v76 v77 v78 v79 v80 v81 v82 v83 v84 v85 v86 v87 v88 v89 v90 v91 v92 v93 v94 v95 v96 v97 v98 v99 v100 v101 v102 v103 : Value) (W' : World), Below Y.heap.size Y W' → Q0 .normal ⟨List.toArray (u0 :: u1 :: (.pointer (some ⟨cb, 0, none⟩) : Value) :: u3 :: u4 :: (.pointer (some ⟨nb, 0, none⟩) : Value) :: u6 :: (.int .i64 i : Value) :: (.pointer (some ⟨pb, 0, none⟩) : Value) :: (.int .i64 (p.pos - c.red) : Value) :: (.int .i64 (p.pos + max p.size 1 + c.red - 1) : Value) :: u11 :: u12 :: u13 :: u14 :: u15 :: u16 :: u17 :: u18 :: u19 :: u20 :: u21 :: u22 :: u23 :: u24 :: u25 :: u26 :: u27 :: u28 :: u29 :: u30 :: u31 :: u32 :: u33 :: u34 :: u35 :: u36 :: u37 :: u38 :: u39 :: u40 :: u41 :: u42 :: u43 :: u44 :: u45 :: u46 :: u47 :: u48 :: u49 :: u50 :: u51 :: u52 :: u53 :: u54 :: u55 :: u56 :: u57 :: u58 :: u59 :: u60 :: u61 :: u62 :: u63 :: u64 :: u65 :: u66 :: u67 :: u68 :: u69 :: u70 :: u71 :: u72 :: v73 :: v74 :: v75 :: v76 :: v77 :: v78 :: v79 :: v80 :: v81 :: v82 :: v83 :: v84 :: v85 :: v86 :: v87 :: v88 :: v89 :: v90 :: v91 :: v92 :: v93 :: v94 :: v95 :: v96 :: v97 :: v98 :: v99 :: v100 :: v101 :: v102 :: v103 :: u104 :: u105 :: u106 :: u107 :: u108 :: u109 :: u110 :: u111 :: u112 :: u113 :: u114 :: u115 :: u116 :: u117 :: u118 :: u119 :: u120 :: u121 :: u122 :: u123 :: u124 :: u125 :: u126 :: u127 :: u128 :: u129 :: u130 :: u131 :: u132 :: u133 :: u134 :: u135 :: u136 :: u137 :: u138 :: u139 :: u140 :: u141 :: u142 :: u143 :: u144 :: u145 :: u146 :: u147 :: u148 :: u149 :: u150 :: u151 :: u152 :: u153 :: u154 :: u155 :: u156 :: u157 :: u158 :: u159 :: u160 :: u161 :: u162 :: u163 :: u164 :: u165 :: u166 :: u167 :: u168 :: u169 :: u170 :: u171 :: u172 :: u173 :: u174 :: u175 :: u176 :: u177 :: u178 :: u179 :: u180 :: u181 :: u182 :: u183 :: u184 :: u185 :: u186 :: u187 :: u188 :: u189 :: u190 :: u191 :: u192 :: u193 :: u194 :: u195 :: []), []⟩ W') :
    Code.wp Try.prog md12 Q0 ⟨List.toArray (u0 :: u1 :: (.pointer (some ⟨cb, 0, none⟩) : Value) :: u3 :: u4 :: (.pointer (some ⟨nb, 0, none⟩) : Value) :: u6 :: (.int .i64 i : Value) :: (.pointer (some ⟨pb, 0, none⟩) : Value) :: (.int .i64 (p.pos - c.red) : Value) :: (.int .i64 (p.pos + max p.size 1 + c.red - 1) : Value) :: u11 :: u12 :: u13 :: u14 :: u15 :: u16 :: u17 :: u18 :: u19 :: u20 :: u21 :: u22 :: u23 :: u24 :: u25 :: u26 :: u27 :: u28 :: u29 :: u30 :: u31 :: u32 :: u33 :: u34 :: u35 :: u36 :: u37 :: u38 :: u39 :: u40 :: u41 :: u42 :: u43 :: u44 :: u45 :: u46 :: u47 :: u48 :: u49 :: u50 :: u51 :: u52 :: u53 :: u54 :: u55 :: u56 :: u57 :: u58 :: u59 :: u60 :: u61 :: u62 :: u63 :: u64 :: u65 :: u66 :: u67 :: u68 :: u69 :: u70 :: u71 :: u72 :: u73 :: u74 :: u75 :: u76 :: u77 :: u78 :: u79 :: u80 :: u81 :: u82 :: u83 :: u84 :: u85 :: u86 :: u87 :: u88 :: u89 :: u90 :: u91 :: u92 :: u93 :: u94 :: u95 :: u96 :: u97 :: u98 :: u99 :: u100 :: u101 :: u102 :: u103 :: u104 :: u105 :: u106 :: u107 :: u108 :: u109 :: u110 :: u111 :: u112 :: u113 :: u114 :: u115 :: u116 :: u117 :: u118 :: u119 :: u120 :: u121 :: u122 :: u123 :: u124 :: u125 :: u126 :: u127 :: u128 :: u129 :: u130 :: u131 :: u132 :: u133 :: u134 :: u135 :: u136 :: u137 :: u138 :: u139 :: u140 :: u141 :: u142 :: u143 :: u144 :: u145 :: u146 :: u147 :: u148 :: u149 :: u150 :: u151 :: u152 :: u153 :: u154 :: u155 :: u156 :: u157 :: u158 :: u159 :: u160 :: u161 :: u162 :: u163 :: u164 :: u165 :: u166 :: u167 :: u168 :: u169 :: u170 :: u171 :: u172 :: u173 :: u174 :: u175 :: u176 :: u177 :: u178 :: u179 :: u180 :: u181 :: u182 :: u183 :: u184 :: u185 :: u186 :: u187 :: u188 :: u189 :: u190 :: u191 :: u192 :: u193 :: u194 :: u195 :: []), []⟩ Y := by
  have hmx : Try.prog.follows .mixedOrders = true := by kernel_rfl
  have HEX := Lib.hid hexit
  have hlp : pb < Y.heap.size := blk_lt hp
  have hlb : nb < Y.heap.size := blk_lt hb
  have hlc : cb < Y.heap.size := blk_lt hc
  have q0 := blk_cell hb 0
  have q1 := blk_cell hb 1
  have q2 := blk_cell hb 2
  have q3 := blk_cell hb 3
  have q4 := blk_cell hb 4
  have q5 := blk_cell hb 5
  have q6 := blk_cell hb 6
  simp only [List.getElem?_toArray, List.getElem?_cons_succ, List.getElem?_cons_zero] at q0 q1 q2 q3 q4 q5 q6
  have n0 := blk_cell hp 0
  have n1 := blk_cell hp 1
  have n2 := blk_cell hp 2
  simp only [List.getElem?_toArray, List.getElem?_cons_succ, List.getElem?_cons_zero] at n0 n1 n2
  have r0 := blk_cell hc 0
  have r1 := blk_cell hc 1
  have r2 := blk_cell hc 2
  have r3 := blk_cell hc 3
  simp only [List.getElem?_toArray, List.getElem?_cons_succ, List.getElem?_cons_zero] at r0 r1 r2 r3
  have HPV := Lib.hid hprev
  clear hp hb hc hexit hprev
  rcases Nat.eq_zero_or_pos i with rfl | hi0
  · have d3 : decide ((0 : Int) < 0) = false := by decide
    conv => arg 2; whnf
    go_wp2
    go_quiet (fail)
    clear d1 d2 d3 hs5 hs6 hs7 q0 q1 q2 q3 q4 q5 q6 n0 n1 n2 r0 r1 r2 r3
    intros
    go_wp2
    exact HEX.out _ _ _ _ _ _ _ _ _ _ _ _ _ _ _ _ _ _ _ _ _ _ _ _ _ _ _ _ _ _ _  _ (below_drewM (Below.refl _ _) _)
  · obtain ⟨i', rfl⟩ : ∃ i', i = i' + 1 := ⟨i - 1, by omega⟩
    obtain ⟨pp, hpc, hpl⟩ := HPV.out i' rfl
    have d3 : decide ((0 : Int) < (i' : Int) + 1) = true := decide_eq_true (by omega)
    have d4 : decide (p.pos ≤ pp) = false := decide_eq_false (by omega)
    have k1 : (i' : Int) + 1 - 1 = i' := by omega
    have k2 : IntKind.i64.wrap (i' : Int) = i' := by rw [IntKind.wrap_i64]; omega
    have k3 : i' < N := by omega
    have k4 : (i' : Int) < (N : Int) := by omega
    conv => arg 2; whnf
    go_wp2
    go_quiet (fail)
    clear d1 d2 d3 d4 hs5 hs6 hs7 q0 q1 q2 q3 q4 q5 q6 n0 n1 n2 r0 r1 r2 r3 hpc
    intros
    go_wp2
    exact HEX.out _ _ _ _ _ _ _ _ _ _ _ _ _ _ _ _ _ _ _ _ _ _ _ _ _ _ _ _ _ _ _  _ (below_drewM (Below.refl _ _) _)
end Go.Proofs.Ytbhbjcgbhklieaa
