/- HeapApart: the inner loop. -/
import Derived.Test.YtbhbjcgbhklieaaE12
import Derived.Test.YtbhbjcgbhklieaaS4
import Derived.Deep.RegionHeld3
import Derived.Deep.QuietTactic
import Derived.BigQuiet
namespace Go.Proofs.Ytbhbjcgbhklieaa
open Go.RowKit Go.Shelf

/-- parts of a text. -/
def cA : Code → Code | .seq a _ => a | c => c
def cB : Code → Code | .seq _ b => b | c => c
def cK : Code → Code | .block _ c => c | c => c
def cL : Code → Code | .loop c => c | c => c
noncomputable def in12 : Code := (cL (cK (cB (cA (cB (cB (cB (cK (cA (cB (cB (cL (cK (cB (cA (cB (cB (cB (cB (cB (cB (Try.f12.body.getD .skip))))))))))))))))))))))

set_option maxRecDepth 1000000 in
set_option maxHeartbeats 40000000 in
theorem inner12 (Q0 : Exit → Act → World → Prop) (c : Conf) (gi : Int) (lv qv : Value) (p : Piece) (i nb pb ub : Nat) (Y : World) (u0 u1 u2 u3 u4 u6 u11 u12 u13 u14 u15 u16 u17 u18 u19 u20 u21 u22 u23 u24 u25 u26 u27 u28 u29 u30 u31 u32 u33 u34 u35 u36 u37 u38 u39 u40 u41 u42 u43 u44 u45 u46 u47 u48 u49 u50 u51 u52 u53 u54 u55 u56 u57 u58 u59 u60 u61 u62 u63 u64 u65 u66 u67 u68 u69 u70 u71 u72 u73 u74 u75 u76 u77 u78 u79 u80 u81 u82 u83 u84 u85 u86 u87 u88 u89 u90 u91 u92 u93 u94 u95 u96 u97 u98 u99 u100 u101 u102 u103 u104 u105 u106 u107 u108 u109 u110 u111 u112 u113 u114 u115 u116 u117 u118 u119 u120 u121 u122 u123 u124 u125 u126 u127 u128 u129 u130 u131 u132 u136 u137 u138 u139 u140 u141 u142 u143 u144 u145 u146 u147 u148 u149 u150 u151 u152 u153 u154 u155 u156 u157 u158 u159 u160 u161 u162 u163 u164 u165 u166 u167 u168 u169 u170 u171 u172 u173 u174 u175 u176 u177 u178 u179 u180 u181 u182 u183 u184 u185 u186 u187 u188 u189 u190 u191 u192 u193 u194 u195 : Value)
    (h7 : Y.heap[ub]? = some (.cells #[.int .i64 (p.pos - c.red), .int .i64 (p.pos - 1), .int .i64 p.pos, .int .i64 (p.pos + p.size / 2), .int .i64 (p.pos + p.size - 1), .int .i64 (p.pos + p.size), .int .i64 (p.pos + max p.size 1 + c.red - 1)] 3 (0, 0))) (hp : Y.heap[pb]? = some (.cells #[.int .u32 p.pos, .int .i64 p.size, .int .i64 p.born] 38 (0, 0))) (hb : Y.heap[nb]? = some (.cells #[.int .i64 c.page, .int .i64 c.n, .int .i64 c.red, .int .i64 c.quarantine, lv, qv, .int .i64 gi] 26 (0, 0)))
    (hF : ∀ V, Below Y.heap.size Y V → ∀ x, p.pos - c.red ≤ x → x < p.pos + max p.size 1 + c.red → Calls Try.prog 26 #[hAgg c lv qv gi, .int .u32 x] V fun e w' => e = .returned (.agg #[.int .i64 (if 0 ≤ x - p.pos ∧ x - p.pos < p.size then 1 else 2), .int .i64 i, .int .i64 (x - p.pos)]) ∧ Below V.heap.size V w')
    (hp0 : 0 ≤ p.pos) (hp1 : p.pos < 4294967296) (s0 : 0 ≤ p.size) (s1 : p.size ≤ 65536) (r0 : 0 ≤ c.red) (r1 : c.red ≤ 64) (hx0 : 0 ≤ p.pos - c.red) (hx1 : p.pos + max p.size 1 + c.red ≤ 4294967296)
    (hexit : ∀ (v4 v12 v13 v14 v135 v136 v137 v138 v139 v140 v141 v142 v143 v144 v145 v146 v147 v148 v149 v150 v151 v152 v153 v154 v155 v156 v157 v158 v159 v160 v161 v162 v163 v164 v165 v166 v167 v168 v169 : Value) (W' : World), Below Y.heap.size Y W' → Q0 (.exit 2) ⟨List.toArray (u0 :: u1 :: u2 :: u3 :: v4 :: (.pointer (some ⟨nb, 0, none⟩) : Value) :: u6 :: (.int .i64 i : Value) :: (.pointer (some ⟨pb, 0, none⟩) : Value) :: (.int .i64 (p.pos - c.red) : Value) :: (.int .i64 (p.pos + max p.size 1 + c.red - 1) : Value) :: u11 :: v12 :: v13 :: v14 :: u15 :: u16 :: u17 :: u18 :: u19 :: u20 :: u21 :: u22 :: u23 :: u24 :: u25 :: u26 :: u27 :: u28 :: u29 :: u30 :: u31 :: u32 :: u33 :: u34 :: u35 :: u36 :: u37 :: u38 :: u39 :: u40 :: u41 :: u42 :: u43 :: u44 :: u45 :: u46 :: u47 :: u48 :: u49 :: u50 :: u51 :: u52 :: u53 :: u54 :: u55 :: u56 :: u57 :: u58 :: u59 :: u60 :: u61 :: u62 :: u63 :: u64 :: u65 :: u66 :: u67 :: u68 :: u69 :: u70 :: u71 :: u72 :: u73 :: u74 :: u75 :: u76 :: u77 :: u78 :: u79 :: u80 :: u81 :: u82 :: u83 :: u84 :: u85 :: u86 :: u87 :: u88 :: u89 :: u90 :: u91 :: u92 :: u93 :: u94 :: u95 :: u96 :: u97 :: u98 :: u99 :: u100 :: u101 :: u102 :: u103 :: u104 :: u105 :: u106 :: u107 :: u108 :: u109 :: u110 :: u111 :: u112 :: u113 :: u114 :: u115 :: u116 :: u117 :: u118 :: u119 :: u120 :: u121 :: u122 :: u123 :: u124 :: u125 :: u126 :: u127 :: u128 :: u129 :: u130 :: u131 :: u132 :: (.slice (some ⟨ub, 0, none⟩) 7 7 : Value) :: (.int .i64 7 : Value) :: v135 :: v136 :: v137 :: v138 :: v139 :: v140 :: v141 :: v142 :: v143 :: v144 :: v145 :: v146 :: v147 :: v148 :: v149 :: v150 :: v151 :: v152 :: v153 :: v154 :: v155 :: v156 :: v157 :: v158 :: v159 :: v160 :: v161 :: v162 :: v163 :: v164 :: v165 :: v166 :: v167 :: v168 :: v169 :: u170 :: u171 :: u172 :: u173 :: u174 :: u175 :: u176 :: u177 :: u178 :: u179 :: u180 :: u181 :: u182 :: u183 :: u184 :: u185 :: u186 :: u187 :: u188 :: u189 :: u190 :: u191 :: u192 :: u193 :: u194 :: u195 :: []), []⟩ W') :
    Code.wp Try.prog (Code.loop in12) Q0 ⟨List.toArray (u0 :: u1 :: u2 :: u3 :: u4 :: (.pointer (some ⟨nb, 0, none⟩) : Value) :: u6 :: (.int .i64 i : Value) :: (.pointer (some ⟨pb, 0, none⟩) : Value) :: (.int .i64 (p.pos - c.red) : Value) :: (.int .i64 (p.pos + max p.size 1 + c.red - 1) : Value) :: u11 :: u12 :: u13 :: u14 :: u15 :: u16 :: u17 :: u18 :: u19 :: u20 :: u21 :: u22 :: u23 :: u24 :: u25 :: u26 :: u27 :: u28 :: u29 :: u30 :: u31 :: u32 :: u33 :: u34 :: u35 :: u36 :: u37 :: u38 :: u39 :: u40 :: u41 :: u42 :: u43 :: u44 :: u45 :: u46 :: u47 :: u48 :: u49 :: u50 :: u51 :: u52 :: u53 :: u54 :: u55 :: u56 :: u57 :: u58 :: u59 :: u60 :: u61 :: u62 :: u63 :: u64 :: u65 :: u66 :: u67 :: u68 :: u69 :: u70 :: u71 :: u72 :: u73 :: u74 :: u75 :: u76 :: u77 :: u78 :: u79 :: u80 :: u81 :: u82 :: u83 :: u84 :: u85 :: u86 :: u87 :: u88 :: u89 :: u90 :: u91 :: u92 :: u93 :: u94 :: u95 :: u96 :: u97 :: u98 :: u99 :: u100 :: u101 :: u102 :: u103 :: u104 :: u105 :: u106 :: u107 :: u108 :: u109 :: u110 :: u111 :: u112 :: u113 :: u114 :: u115 :: u116 :: u117 :: u118 :: u119 :: u120 :: u121 :: u122 :: u123 :: u124 :: u125 :: u126 :: u127 :: u128 :: u129 :: u130 :: u131 :: u132 :: (.slice (some ⟨ub, 0, none⟩) 7 7 : Value) :: (.int .i64 7 : Value) :: (.int .i64 0 : Value) :: u136 :: u137 :: u138 :: u139 :: u140 :: u141 :: u142 :: u143 :: u144 :: u145 :: u146 :: u147 :: u148 :: u149 :: u150 :: u151 :: u152 :: u153 :: u154 :: u155 :: u156 :: u157 :: u158 :: u159 :: u160 :: u161 :: u162 :: u163 :: u164 :: u165 :: u166 :: u167 :: u168 :: u169 :: u170 :: u171 :: u172 :: u173 :: u174 :: u175 :: u176 :: u177 :: u178 :: u179 :: u180 :: u181 :: u182 :: u183 :: u184 :: u185 :: u186 :: u187 :: u188 :: u189 :: u190 :: u191 :: u192 :: u193 :: u194 :: u195 :: []), []⟩ Y := by
  have HC7 := Lib.hid h7
  have HP := Lib.hid hp
  have HB := Lib.hid hb
  have HF := Lib.hid hF
  have HEX := Lib.hid hexit
  have hlY7 : ub < Y.heap.size := blk_lt h7
  have hlYp : pb < Y.heap.size := blk_lt hp
  have hlYb : nb < Y.heap.size := blk_lt hb
  clear h7 hp hb hF hexit
  conv => arg 2; arg 1; whnf
  go_loopg [135] 7 (fun kx s135 wr => ∃ j : Nat, j ≤ 7 ∧ s135 = .int .i64 j ∧ 7 - j ≤ kx ∧ Hid (Below Y.heap.size Y wr))
  case atStart => exact ⟨0, Nat.zero_le _, rfl, by omega, Below.refl _ _⟩
  case round =>
    obtain ⟨j, hj, rfl, hjx, HBj⟩ := hrel
    have h7 := (HBj.out.block _ hlY7).trans HC7.out
    have hpj := (HBj.out.block _ hlYp).trans HP.out
    have hbj := (HBj.out.block _ hlYb).trans HB.out
    by_cases hj7 : j < 7
    · have hx : ∃ x : Int, wr.cell? ⟨ub, j, none⟩ = some (.int .i64 x) ∧ -1000 ≤ x ∧ x ≤ 8589934592 := by
        have hj' : j = 0 ∨ j = 1 ∨ j = 2 ∨ j = 3 ∨ j = 4 ∨ j = 5 ∨ j = 6 := by omega
        rcases hj' with rfl | rfl | rfl | rfl | rfl | rfl | rfl
        all_goals exact ⟨_, blk_cell h7 _, by omega, by omega⟩
      obtain ⟨x, hx, xb0, xb1⟩ := hx
      have q0 := blk_cell hbj 0
      have q1 := blk_cell hbj 1
      have q2 := blk_cell hbj 2
      have q3 := blk_cell hbj 3
      have q4 := blk_cell hbj 4
      have q5 := blk_cell hbj 5
      have q6 := blk_cell hbj 6
      simp only [List.getElem?_toArray, List.getElem?_cons_succ, List.getElem?_cons_zero] at q0 q1 q2 q3 q4 q5 q6
      have n0 := blk_cell hpj 0
      have n1 := blk_cell hpj 1
      have n2 := blk_cell hpj 2
      simp only [List.getElem?_toArray, List.getElem?_cons_succ, List.getElem?_cons_zero] at n0 n1 n2
      have hlj : ub < wr.heap.size := blk_lt h7
      have hlp : pb < wr.heap.size := blk_lt hpj
      have hlb : nb < wr.heap.size := blk_lt hbj
      have j4 : (j : Int) < 7 := by omega
      have HXP : Hid (wr.heap[pb]? = some (.cells #[.int .u32 p.pos, .int .i64 p.size, .int .i64 p.born] 38 (0, 0))) := hpj
      clear h7 hpj hbj
      by_cases t1 : x < p.pos - c.red
      · (
        have d1 : decide (x < p.pos - c.red) = true := decide_eq_true t1
        go_wp2
        go_roundg (7 - (j + 1))
        case measure => omega
        case rel => exact ⟨j + 1, by omega, by go_num, Nat.le_refl _, HBj.out⟩)
      have d1 : decide (x < p.pos - c.red) = false := decide_eq_false t1
      by_cases t2 : p.pos + max p.size 1 + c.red - 1 < x
      · (
        have d2 : decide (p.pos + max p.size 1 + c.red - 1 < x) = true := decide_eq_true t2
        go_wp2
        go_roundg (7 - (j + 1))
        case measure => omega
        case rel => exact ⟨j + 1, by omega, by go_num, Nat.le_refl _, HBj.out⟩)
      have d2 : decide (p.pos + max p.size 1 + c.red - 1 < x) = false := decide_eq_false t2
      have hu1 : IntKind.i64.wrap (x - p.pos) = x - p.pos := by rw [IntKind.wrap_i64]; omega
      have hu2 : IntKind.u32.wrap x = x := by simp only [IntKind.wrap, IntKind.bits, IntKind.signed]; simp; omega
      have hf := HF.out wr HBj.out x (by omega) (by omega)
      by_cases k1 : 0 ≤ x - p.pos
      · have g1 : decide (0 ≤ x - p.pos) = true := decide_eq_true k1
        by_cases k2 : x - p.pos < p.size
        · (
          have g2 : decide (x - p.pos < p.size) = true := decide_eq_true k2
          rw [if_pos ⟨k1, k2⟩] at hf
          have HFF := Lib.hid hf
          clear hf
          go_wp2_with fail
          refine Calls.mono HFF.out ?_
          rintro e y1 ⟨rfl, hY1⟩
          have HY1 := Lib.hid hY1
          clear hY1
          go_wp2
          go_roundg (7 - (j + 1))
          case measure => omega
          case rel => exact ⟨j + 1, by omega, by go_num, Nat.le_refl _, HBj.out.trans (HY1.out.mono HBj.out.size)⟩)
        · (
          have g2 : decide (x - p.pos < p.size) = false := decide_eq_false k2
          rw [if_neg (fun h => k2 h.2)] at hf
          have HFF := Lib.hid hf
          clear hf
          go_wp2_with fail
          refine Calls.mono HFF.out ?_
          rintro e y1 ⟨rfl, hY1⟩
          have HY1 := Lib.hid hY1
          clear hY1
          go_wp2
          go_roundg (7 - (j + 1))
          case measure => omega
          case rel => exact ⟨j + 1, by omega, by go_num, Nat.le_refl _, HBj.out.trans (HY1.out.mono HBj.out.size)⟩)
      · (
        have g1 : decide (0 ≤ x - p.pos) = false := decide_eq_false k1
        rw [if_neg (fun h => k1 h.1)] at hf
        have HFF := Lib.hid hf
        clear hf
        go_wp2_with fail
        refine Calls.mono HFF.out ?_
        rintro e y1 ⟨rfl, hY1⟩
        have HY1 := Lib.hid hY1
        clear hY1
        go_wp2
        go_roundg (7 - (j + 1))
        case measure => omega
        case rel => exact ⟨j + 1, by omega, by go_num, Nat.le_refl _, HBj.out.trans (HY1.out.mono HBj.out.size)⟩)
    · obtain rfl : j = 7 := by omega
      clear hj7 h7 hpj hbj
      go_wp2
      exact HEX.out _ _ _ _ _ _ _ _ _ _ _ _ _ _ _ _ _ _ _ _ _ _ _ _ _ _ _ _ _ _ _ _ _ _ _ _ _ _ _ wr HBj.out
end Go.Proofs.Ytbhbjcgbhklieaa
