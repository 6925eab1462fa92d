/- HeapApart: the outer loop's round as a theorem of its own. -/
import Derived.Test.YtbhbjcgbhklieaaL13
import Derived.Test.YtbhbjcgbhklieaaC4
namespace Go.Proofs.Ytbhbjcgbhklieaa
open Go.RowKit Go.Shelf

noncomputable def rd12 : Code := cL (cK (cB (cA (cB (cB (cB (cB (cB (cB (Try.f12.body.getD .skip))))))))))
set_option maxRecDepth 1000000 in
set_option maxHeartbeats 40000000 in
theorem round12 (Q0 : Exit → Act → World → Prop) (c : Conf) (gi : Int) (qv : Value) (p : Piece) (i N k bb off cb nb : Nat) (Y : World) (u0 u1 u3 u4 u6 u7 u8 u9 u10 u11 u12 u13 u14 u15 u16 u17 u18 u19 u20 u21 u22 u23 u24 u25 u26 u27 u28 u29 u30 u31 u32 u33 u34 u35 u36 u37 u38 u39 u40 u41 u42 u43 u44 u45 u46 u47 u48 u52 u53 u54 u55 u56 u57 u58 u59 u60 u61 u62 u63 u64 u65 u66 u67 u68 u69 u70 u71 u72 u73 u74 u75 u76 u77 u78 u79 u80 u81 u82 u83 u84 u85 u86 u87 u88 u89 u90 u91 u92 u93 u94 u95 u96 u97 u98 u99 u100 u101 u102 u103 u104 u105 u106 u107 u108 u109 u110 u111 u112 u113 u114 u115 u116 u117 u118 u119 u120 u121 u122 u123 u124 u125 u126 u127 u128 u129 u130 u131 u132 u133 u134 u135 u136 u137 u138 u139 u140 u141 u142 u143 u144 u145 u146 u147 u148 u149 u150 u151 u152 u153 u154 u155 u156 u157 u158 u159 u160 u161 u162 u163 u164 u165 u166 u167 u168 u169 u170 u171 u172 u173 u174 u175 u176 u177 u178 u179 u180 u181 u182 u183 u184 u185 u186 u187 u188 u189 u190 u191 u192 u193 u194 u195 : Value)
    (hc : Y.heap[cb]? = some (.cells #[.int .i64 c.page, .int .i64 c.n, .int .i64 c.red, .int .i64 c.quarantine] 23 (0, 0)))
    (hb : Y.heap[nb]? = some (.cells #[.int .i64 c.page, .int .i64 c.n, .int .i64 c.red, .int .i64 c.quarantine, .slice (some ⟨bb, off, none⟩) N k, qv, .int .i64 gi] 26 (0, 0)))
    (m0 : Y.cell? ⟨bb, off + i * 3, none⟩ = some (.int .u32 p.pos)) (m1 : Y.cell? ⟨bb, off + i * 3 + 1, none⟩ = some (.int .i64 p.size)) (m2 : Y.cell? ⟨bb, off + i * 3 + 2, none⟩ = some (.int .i64 p.born))
    (hprev : ∀ i', i = i' + 1 → ∃ pp, Y.cell? ⟨bb, off + i' * 3, none⟩ = some (.int .u32 pp) ∧ pp < p.pos) (hbb : bb < Y.heap.size) (hi : i < N)
    (hi9 : (i : Int) < 9223372036854775807)
    (hs1 : IntKind.i64.wrap (p.pos - c.red) = p.pos - c.red) (hs2 : IntKind.i64.wrap (p.pos + max p.size 1) = p.pos + max p.size 1) (hs3 : IntKind.i64.wrap (p.pos + max p.size 1 + c.red) = p.pos + max p.size 1 + c.red) (hs4 : IntKind.i64.wrap (p.pos + max p.size 1 + c.red - 1) = p.pos + max p.size 1 + c.red - 1)
    (d1 : decide (p.pos - c.red < c.page * 256) = false) (d2 : decide ((c.page + c.n) * 256 ≤ p.pos + max p.size 1 + c.red - 1) = false)
    (hs5 : IntKind.i64.wrap (c.page * 256) = c.page * 256) (hs6 : IntKind.i64.wrap (c.page + c.n) = c.page + c.n) (hs7 : IntKind.i64.wrap ((c.page + c.n) * 256) = (c.page + c.n) * 256)
    (hF : ∀ V, Below Y.heap.size Y V → ∀ x, p.pos - c.red ≤ x → x < p.pos + max p.size 1 + c.red → Calls Try.prog 26 #[hAgg c (.slice (some ⟨bb, off, none⟩) N k) qv gi, .int .u32 x] V fun e w' => e = .returned (.agg #[.int .i64 (if 0 ≤ x - p.pos ∧ x - p.pos < p.size then 1 else 2), .int .i64 i, .int .i64 (x - p.pos)]) ∧ Below V.heap.size V w')
    (hS : ∀ V, Below Y.heap.size Y V → Calls Try.prog 35 #[hAgg c (.slice (some ⟨bb, off, none⟩) N k) qv gi, .int .u32 p.pos] V fun e w' => e = .returned (.tuple #[.int .i64 p.size, .int .i64 0]) ∧ Below V.heap.size V w')
    (hU : ∀ V, Below Y.heap.size Y V → Calls Try.prog 28 #[hAgg c (.slice (some ⟨bb, off, none⟩) N k) qv gi, .int .u32 p.pos, .int .i64 p.size] V fun e w' => e = .returned (.tuple #[.int .u32 0, .bool false]) ∧ Below V.heap.size V w')
    (hp0 : 0 ≤ p.pos) (hp1 : p.pos < 4294967296) (s0 : 0 ≤ p.size) (s1 : p.size ≤ 65536) (r0 : 0 ≤ c.red) (r1 : c.red ≤ 64) (hx0 : 0 ≤ p.pos - c.red) (hx1 : p.pos + max p.size 1 + c.red ≤ 4294967296)
    (hexit : ∀ (v4 v7 v8 v9 v10 v12 v13 v14 v15 v16 v17 v18 v52 v53 v54 v55 v56 v57 v58 v59 v60 v61 v62 v63 v64 v65 v66 v67 v68 v69 v70 v71 v72 v73 v74 v75 v76 v77 v78 v79 v80 v81 v82 v83 v84 v85 v86 v87 v88 v89 v90 v91 v92 v93 v94 v95 v96 v97 v98 v99 v100 v101 v102 v103 v104 v105 v106 v107 v108 v109 v110 v111 v112 v113 v114 v115 v116 v117 v118 v119 v120 v121 v122 v123 v124 v125 v126 v127 v128 v129 v130 v131 v132 v133 v134 v135 v136 v137 v138 v139 v140 v141 v142 v143 v144 v145 v146 v147 v148 v149 v150 v151 v152 v153 v154 v155 v156 v157 v158 v159 v160 v161 v162 v163 v164 v165 v166 v167 v168 v169 v170 v171 v172 v173 v174 v175 v176 v177 v178 v179 v180 v181 v182 v183 v184 v185 v186 v187 v188 v189 v190 v191 v192 v193 v194 v195 : Value) (W' : World), Below Y.heap.size Y W' → Q0 .normal ⟨List.toArray (u0 :: u1 :: (.pointer (some ⟨cb, 0, none⟩) : Value) :: u3 :: v4 :: (.pointer (some ⟨nb, 0, none⟩) : Value) :: u6 :: v7 :: v8 :: v9 :: v10 :: u11 :: v12 :: v13 :: v14 :: v15 :: v16 :: v17 :: v18 :: u19 :: u20 :: u21 :: u22 :: u23 :: u24 :: u25 :: u26 :: u27 :: u28 :: u29 :: u30 :: u31 :: u32 :: u33 :: u34 :: u35 :: u36 :: u37 :: u38 :: u39 :: u40 :: u41 :: u42 :: u43 :: u44 :: u45 :: u46 :: u47 :: u48 :: (.slice (some ⟨bb, off, none⟩) N k : Value) :: (.int .i64 N : Value) :: (.int .i64 ((i : Int) + 1) : Value) :: v52 :: v53 :: v54 :: v55 :: v56 :: v57 :: v58 :: v59 :: v60 :: v61 :: v62 :: v63 :: v64 :: v65 :: v66 :: v67 :: v68 :: v69 :: v70 :: v71 :: v72 :: v73 :: v74 :: v75 :: v76 :: v77 :: v78 :: v79 :: v80 :: v81 :: v82 :: v83 :: v84 :: v85 :: v86 :: v87 :: v88 :: v89 :: v90 :: v91 :: v92 :: v93 :: v94 :: v95 :: v96 :: v97 :: v98 :: v99 :: v100 :: v101 :: v102 :: v103 :: v104 :: v105 :: v106 :: v107 :: v108 :: v109 :: v110 :: v111 :: v112 :: v113 :: v114 :: v115 :: v116 :: v117 :: v118 :: v119 :: v120 :: v121 :: v122 :: v123 :: v124 :: v125 :: v126 :: v127 :: v128 :: v129 :: v130 :: v131 :: v132 :: v133 :: v134 :: v135 :: v136 :: v137 :: v138 :: v139 :: v140 :: v141 :: v142 :: v143 :: v144 :: v145 :: v146 :: v147 :: v148 :: v149 :: v150 :: v151 :: v152 :: v153 :: v154 :: v155 :: v156 :: v157 :: v158 :: v159 :: v160 :: v161 :: v162 :: v163 :: v164 :: v165 :: v166 :: v167 :: v168 :: v169 :: v170 :: v171 :: v172 :: v173 :: v174 :: v175 :: v176 :: v177 :: v178 :: v179 :: v180 :: v181 :: v182 :: v183 :: v184 :: v185 :: v186 :: v187 :: v188 :: v189 :: v190 :: v191 :: v192 :: v193 :: v194 :: v195 :: []), []⟩ W') :
    Code.wp Try.prog rd12 Q0 ⟨List.toArray (u0 :: u1 :: (.pointer (some ⟨cb, 0, none⟩) : Value) :: u3 :: u4 :: (.pointer (some ⟨nb, 0, none⟩) : Value) :: u6 :: u7 :: u8 :: u9 :: u10 :: u11 :: u12 :: u13 :: u14 :: u15 :: u16 :: u17 :: u18 :: u19 :: u20 :: u21 :: u22 :: u23 :: u24 :: u25 :: u26 :: u27 :: u28 :: u29 :: u30 :: u31 :: u32 :: u33 :: u34 :: u35 :: u36 :: u37 :: u38 :: u39 :: u40 :: u41 :: u42 :: u43 :: u44 :: u45 :: u46 :: u47 :: u48 :: (.slice (some ⟨bb, off, none⟩) N k : Value) :: (.int .i64 N : Value) :: (.int .i64 i : Value) :: u52 :: u53 :: u54 :: u55 :: u56 :: u57 :: u58 :: u59 :: u60 :: u61 :: u62 :: u63 :: u64 :: u65 :: u66 :: u67 :: u68 :: u69 :: u70 :: u71 :: u72 :: u73 :: u74 :: u75 :: u76 :: u77 :: u78 :: u79 :: u80 :: u81 :: u82 :: u83 :: u84 :: u85 :: u86 :: u87 :: u88 :: u89 :: u90 :: u91 :: u92 :: u93 :: u94 :: u95 :: u96 :: u97 :: u98 :: u99 :: u100 :: u101 :: u102 :: u103 :: u104 :: u105 :: u106 :: u107 :: u108 :: u109 :: u110 :: u111 :: u112 :: u113 :: u114 :: u115 :: u116 :: u117 :: u118 :: u119 :: u120 :: u121 :: u122 :: u123 :: u124 :: u125 :: u126 :: u127 :: u128 :: u129 :: u130 :: u131 :: u132 :: u133 :: u134 :: u135 :: u136 :: u137 :: u138 :: u139 :: u140 :: u141 :: u142 :: u143 :: u144 :: u145 :: u146 :: u147 :: u148 :: u149 :: u150 :: u151 :: u152 :: u153 :: u154 :: u155 :: u156 :: u157 :: u158 :: u159 :: u160 :: u161 :: u162 :: u163 :: u164 :: u165 :: u166 :: u167 :: u168 :: u169 :: u170 :: u171 :: u172 :: u173 :: u174 :: u175 :: u176 :: u177 :: u178 :: u179 :: u180 :: u181 :: u182 :: u183 :: u184 :: u185 :: u186 :: u187 :: u188 :: u189 :: u190 :: u191 :: u192 :: u193 :: u194 :: u195 :: []), []⟩ Y := by
  have hmx : Try.prog.follows .mixedOrders = true := by kernel_rfl
  have HEX := Lib.hid hexit
  have hlb : nb < Y.heap.size := blk_lt hb
  have hlc : cb < Y.heap.size := blk_lt hc
  have q0 := blk_cell hb 0
  have q1 := blk_cell hb 1
  have q2 := blk_cell hb 2
  have q3 := blk_cell hb 3
  have q4 := blk_cell hb 4
  have q5 := blk_cell hb 5
  have q6 := blk_cell hb 6
  simp only [List.getElem?_toArray, List.getElem?_cons_succ, List.getElem?_cons_zero] at q0 q1 q2 q3 q4 q5 q6
  have c0 := blk_cell hc 0
  have c1 := blk_cell hc 1
  have c2 := blk_cell hc 2
  have c3 := blk_cell hc 3
  simp only [List.getElem?_toArray, List.getElem?_cons_succ, List.getElem?_cons_zero] at c0 c1 c2 c3
  have HPV := Lib.hid hprev
  have HF := Lib.hid hF
  have HS := Lib.hid hS
  have HU := Lib.hid hU
  have HC := Lib.hid hc
  have HB := Lib.hid hb
  have HD : Hid (decide (p.pos - c.red < c.page * 256) = false ∧ decide ((c.page + c.n) * 256 ≤ p.pos + max p.size 1 + c.red - 1) = false ∧ IntKind.i64.wrap (c.page * 256) = c.page * 256 ∧ IntKind.i64.wrap (c.page + c.n) = c.page + c.n ∧ IntKind.i64.wrap ((c.page + c.n) * 256) = (c.page + c.n) * 256) := ⟨d1, d2, hs5, hs6, hs7⟩
  have hi3 : (i : Int) < (N : Int) := by omega
  clear hc hb hexit hprev hF hS hU d1 d2 hs5 hs6 hs7
  conv => arg 2; whnf
  go_wp2
  go_quiet (fail)
  refine gen_worldQ (fun V => Below Y.heap.size Y V ∧ V.heap[Y.heap.size]? = some (.cells #[.int .u32 p.pos, .int .i64 p.size, .int .i64 p.born] 38 (0, 0))) ⟨below_drewM (below_alloc1 Y _) _, hal_new rfl⟩ ?_
  rintro V ⟨v1, v2⟩
  have hcV := (v1.block _ hlc).trans HC.out
  have hbV := (v1.block _ hlb).trans HB.out
  have hVb : bb < V.heap.size := Nat.lt_of_lt_of_le hbb v1.size
  have V1 := Lib.hid v1
  have V2 := Lib.hid v2
  clear hs1 hs2 hs3 hs4 m0 m1 m2 q0 q1 q2 q3 q4 q5 q6 c0 c1 c2 c3 v1 v2
  go_step
  go_step
  go_step
  refine mid12 _ c gi qv p i N k bb off cb nb Y.heap.size V _ _ _ _ _ _ _ _ _ _ _ _ _ _ _ _ _ _ _ _ _ _ _ _ _ _ _ _ _ _ _ _ _ _ _ _ _ _ _ _ _ _ _ _ _ _ _ _ _ _ _ _ _ _ _ _ _ _ _ _ _ _ _ _ _ _ _ _ _ _ _ _ _ _ _ _ _ _ _ _ _ _ _ _ _ _ _ _ _ _ _ _ _ _ _ _ _ _ _ _ _ _ _ _ _ _ _ _ _ _ _ _ _ _ _ _ _ _ _ _ _ _ _ _ _ _ _ _ _ _ _ _ _ _ _ _ _ _ _ _ _ _ _ _ _ _ _ _ _ _ _ _ _ _ _ _ _ _ _ _ _ _ _ _ _ _ _ _ _ _ _ _ _ _ _ _ _ _ _ _ _ _ _ _ _ _ _ _ _ _  hcV hbV V2.out (fun i' e => ?_) hVb hi hi9 HD.out.1 HD.out.2.1 HD.out.2.2.1 HD.out.2.2.2.1 HD.out.2.2.2.2 ?_
  · obtain ⟨pp, h1, h2⟩ := HPV.out i' e
    exact ⟨pp, (V1.out.cell (p := ⟨bb, off + i' * 3, none⟩) hbb).trans h1, h2⟩
  intro v73 v74 v75 v76 v77 v78 v79 v80 v81 v82 v83 v84 v85 v86 v87 v88 v89 v90 v91 v92 v93 v94 v95 v96 v97 v98 v99 v100 v101 v102 v103 U hUV
  have HUY : Hid (Below Y.heap.size Y U) := V1.out.trans (hUV.mono V1.out.size)
  have hpU := (hUV.block _ (blk_lt V2.out)).trans V2.out
  have hbU := (hUV.block _ (blk_lt hbV)).trans hbV
  have hup : Y.heap.size < U.heap.size := blk_lt hpU
  have hub : nb < U.heap.size := blk_lt hbU
  have n0 := blk_cell hpU 0
  have n1 := blk_cell hpU 1
  have n2 := blk_cell hpU 2
  simp only [List.getElem?_toArray, List.getElem?_cons_succ, List.getElem?_cons_zero] at n0 n1 n2
  have HPU := Lib.hid hpU
  have HBU := Lib.hid hbU
  clear hcV hbV hUV hpU hbU V1 V2 HPV HD
  go_wp2
  clear n0 n1 n2
  have HBL : Hid (Below U.heap.size U (U.alloc (.cells #[.int .i64 (p.pos - c.red), .int .i64 (p.pos - 1), .int .i64 p.pos, .int .i64 (p.pos + p.size / 2), .int .i64 (p.pos + p.size - 1), .int .i64 (p.pos + p.size), .int .i64 (p.pos + max p.size 1 + c.red - 1)] 3))) := below_alloc1 U _
  have HC7 : Hid ((U.alloc (.cells #[.int .i64 (p.pos - c.red), .int .i64 (p.pos - 1), .int .i64 p.pos, .int .i64 (p.pos + p.size / 2), .int .i64 (p.pos + p.size - 1), .int .i64 (p.pos + p.size), .int .i64 (p.pos + max p.size 1 + c.red - 1)] 3)).heap[U.heap.size]? = some (.cells #[.int .i64 (p.pos - c.red), .int .i64 (p.pos - 1), .int .i64 p.pos, .int .i64 (p.pos + p.size / 2), .int .i64 (p.pos + p.size - 1), .int .i64 (p.pos + p.size), .int .i64 (p.pos + max p.size 1 + c.red - 1)] 3 (0, 0))) := hal_new rfl
  generalize U.alloc (.cells #[.int .i64 (p.pos - c.red), .int .i64 (p.pos - 1), .int .i64 p.pos, .int .i64 (p.pos + p.size / 2), .int .i64 (p.pos + p.size - 1), .int .i64 (p.pos + p.size), .int .i64 (p.pos + max p.size 1 + c.red - 1)] 3) = Z at *
  have HYZ : Hid (Below Y.heap.size Y Z) := HUY.out.trans (HBL.out.mono (by omega))
  have hpZ := (HBL.out.block _ hup).trans HPU.out
  have hbZ := (HBL.out.block _ hub).trans HBU.out
  refine inner12 _ c gi (.slice (some ⟨bb, off, none⟩) N k) qv p i nb Y.heap.size U.heap.size Z _ _ _ _ _ _ _ _ _ _ _ _ _ _ _ _ _ _ _ _ _ _ _ _ _ _ _ _ _ _ _ _ _ _ _ _ _ _ _ _ _ _ _ _ _ _ _ _ _ _ _ _ _ _ _ _ _ _ _ _ _ _ _ _ _ _ _ _ _ _ _ _ _ _ _ _ _ _ _ _ _ _ _ _ _ _ _ _ _ _ _ _ _ _ _ _ _ _ _ _ _ _ _ _ _ _ _ _ _ _ _ _ _ _ _ _ _ _ _ _ _ _ _ _ _ _ _ _ _ _ _ _ _ _ _ _ _ _ _ _ _ _ _ _ _ _ _ _ _ _ _ _ _ _ _ _ _ _ _ _ _ _ _ _ _ _ _ _ _ _ _ _ _ _ _ _ _ _ _ _ _ _ _ _ _ _ _ _  HC7.out hpZ hbZ (fun V hV x h1 h2 => HF.out V (HYZ.out.trans (hV.mono HYZ.out.size)) x h1 h2) hp0 hp1 s0 s1 r0 r1 hx0 hx1 ?_
  intro v4 v12 v13 v14 v135 v136 v137 v138 v139 v140 v141 v142 v143 v144 v145 v146 v147 v148 v149 v150 v151 v152 v153 v154 v155 v156 v157 v158 v159 v160 v161 v162 v163 v164 v165 v166 v167 v168 v169 X hZX
  have HYX : Hid (Below Y.heap.size Y X) := HYZ.out.trans (hZX.mono HYZ.out.size)
  have hpX := (hZX.block _ (blk_lt hpZ)).trans hpZ
  have hbX := (hZX.block _ (blk_lt hbZ)).trans hbZ
  go_step
  go_step
  refine tail12 _ c gi (.slice (some ⟨bb, off, none⟩) N k) qv p nb Y.heap.size X _ _ _ _ _ _ _ _ _ _ _ _ _ _ _ _ _ _ _ _ _ _ _ _ _ _ _ _ _ _ _ _ _ _ _ _ _ _ _ _ _ _ _ _ _ _ _ _ _ _ _ _ _ _ _ _ _ _ _ _ _ _ _ _ _ _ _ _ _ _ _ _ _ _ _ _ _ _ _ _ _ _ _ _ _ _ _ _ _ _ _ _ _ _ _ _ _ _ _ _ _ _ _ _ _ _ _ _ _ _ _ _ _ _ _ _ _ _ _ _ _ _ _ _ _ _ _ _ _ _ _ _ _ _ _ _ _ _ _ _ _ _ _ _ _ _ _ _ _ _ _ _ _ _ _ _ _ _ _ _ _ _ _ _ _ _ _ _ _ _ _ _ _ _ _ _ _ _ _ _ _ _ _ _ _ _ _ _ _ _ _ _ _ _  hpX hbX (fun V hV => HS.out V (HYX.out.trans (hV.mono HYX.out.size))) (fun V hV => HU.out V (HYX.out.trans (hV.mono HYX.out.size))) ?_
  intro v15 v16 v17 v18 v170 v171 v172 v173 v174 v175 v176 v177 v178 v179 v180 v181 v182 v183 v184 v185 v186 v187 v188 v189 v190 v191 v192 v193 v194 W' hXW
  have HYW : Hid (Below Y.heap.size Y W') := HYX.out.trans (hXW.mono HYX.out.size)
  go_wp2
  exact HEX.out _ _ _ _ _ _ _ _ _ _ _ _ _ _ _ _ _ _ _ _ _ _ _ _ _ _ _ _ _ _ _ _ _ _ _ _ _ _ _ _ _ _ _ _ _ _ _ _ _ _ _ _ _ _ _ _ _ _ _ _ _ _ _ _ _ _ _ _ _ _ _ _ _ _ _ _ _ _ _ _ _ _ _ _ _ _ _ _ _ _ _ _ _ _ _ _ _ _ _ _ _ _ _ _ _ _ _ _ _ _ _ _ _ _ _ _ _ _ _ _ _ _ _ _ _ _ _ _ _ _ _ _ _ _ _ _ _ _ _ _ _ _ _ _ _ _ _ _ _ _ _ _ _ _ _ _  _ HYW.out
end Go.Proofs.Ytbhbjcgbhklieaa
