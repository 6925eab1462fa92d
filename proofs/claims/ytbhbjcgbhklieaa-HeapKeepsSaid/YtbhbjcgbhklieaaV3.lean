/- HeapKeeps: the parts of a round, each a theorem over letters. -/
import Derived.Test.YtbhbjcgbhklieaaL11
import Derived.Test.YtbhbjcgbhklieaaS4
import Derived.Test.YtbhbjcgbhklieaaF5
import Derived.Test.YtbhbjcgbhklieaaV1
namespace Go.Proofs.Ytbhbjcgbhklieaa
open Go.RowKit Go.Shelf

def cT : Code → Code | .cond _ t _ => t | c => c
/-- a heap whose two lists lie in rows of their own. -/
def Own2 (W : World) (lo : Nat) (r : HRes) (A : Option Addr) (k : Nat) (B : Option Addr) (m : Nat) : Prop :=
  W.ownsRow lo 38 3 (.slice A r.live.length k) r.live.length (r.live.flatMap encP) ∧ W.ownsRow lo 38 3 (.slice B r.quar.length m) r.quar.length (r.quar.flatMap encP) ∧ ∀ k' j, (Value.slice A r.live.length k).ownBlock = some k' → (Value.slice B r.quar.length m).ownBlock = some j → k' ≠ j
theorem store7 {V : World} {n : Nat} {o0 o1 o2 o3 o4 o5 o6 : Value} (hb : V.heap[n]? = some (.cells #[o0, o1, o2, o3, o4, o5, o6] 26 (0, 0))) (x0 x1 x2 x3 x4 x5 x6 : Value) :
    Below n V (((((((V.setCell ⟨n, 0, none⟩ x0).setCell ⟨n, 1, none⟩ x1).setCell ⟨n, 2, none⟩ x2).setCell ⟨n, 3, none⟩ x3).setCell ⟨n, 4, none⟩ x4).setCell ⟨n, 5, none⟩ x5).setCell ⟨n, 6, none⟩ x6) ∧ (((((((V.setCell ⟨n, 0, none⟩ x0).setCell ⟨n, 1, none⟩ x1).setCell ⟨n, 2, none⟩ x2).setCell ⟨n, 3, none⟩ x3).setCell ⟨n, 4, none⟩ x4).setCell ⟨n, 5, none⟩ x5).setCell ⟨n, 6, none⟩ x6).heap[n]? = some (.cells #[x0, x1, x2, x3, x4, x5, x6] 26 (0, 0)) ∧
    (((((((V.setCell ⟨n, 0, none⟩ x0).setCell ⟨n, 1, none⟩ x1).setCell ⟨n, 2, none⟩ x2).setCell ⟨n, 3, none⟩ x3).setCell ⟨n, 4, none⟩ x4).setCell ⟨n, 5, none⟩ x5).setCell ⟨n, 6, none⟩ x6).heap.size = V.heap.size ∧ ∀ j, j ≠ n → (((((((V.setCell ⟨n, 0, none⟩ x0).setCell ⟨n, 1, none⟩ x1).setCell ⟨n, 2, none⟩ x2).setCell ⟨n, 3, none⟩ x3).setCell ⟨n, 4, none⟩ x4).setCell ⟨n, 5, none⟩ x5).setCell ⟨n, 6, none⟩ x6).heap[j]? = V.heap[j]? := by
  have e1 := row_setCell (o := 0) x0 hb
  have e2 := row_setCell (o := 1) x1 e1
  have e3 := row_setCell (o := 2) x2 e2
  have e4 := row_setCell (o := 3) x3 e3
  have e5 := row_setCell (o := 4) x4 e4
  have e6 := row_setCell (o := 5) x5 e5
  have e7 := row_setCell (o := 6) x6 e6
  simp only [List.setIfInBounds_toArray, List.set_cons_zero, List.set_cons_succ] at e7
  refine ⟨?_, e7, by simp [World.setCell], fun j hj => ?_⟩
  · exact (((((((Below.refl n V).setCell (p := ⟨n, 0, none⟩) (Nat.le_refl _) _).setCell (p := ⟨n, 1, none⟩) (Nat.le_refl _) _).setCell (p := ⟨n, 2, none⟩) (Nat.le_refl _) _).setCell (p := ⟨n, 3, none⟩) (Nat.le_refl _) _).setCell (p := ⟨n, 4, none⟩) (Nat.le_refl _) _).setCell (p := ⟨n, 5, none⟩) (Nat.le_refl _) _).setCell (p := ⟨n, 6, none⟩) (Nat.le_refl _) _
  · repeat' first | refine Eq.trans (Below.heap_setCell _ _ _ _ hj) ?_ | rfl

noncomputable def k9C : Code := cA (cK (cA (cB (cB (cL (cK (cB (cA (cB (cB (cB (cB (cB (Try.f13.body.getD .skip))))))))))))))
set_option maxRecDepth 1000000 in
set_option maxHeartbeats 40000000 in
theorem k9 (Q0 : Exit → Act → World → Prop) (o : OpV) (i n pb poff pc : Nat) (Y : World) (u0 u1 u2 u3 u4 u5 u6 u7 u8 u9 u10 u11 u12 u13 u14 u15 u16 u17 u18 u19 u20 u21 u22 u23 u24 u25 u26 u27 u28 u30 u32 u33 u34 u35 u36 u37 u38 u39 u40 u41 u42 u43 u44 u45 u46 u47 u48 u49 u50 u51 u52 u53 u54 u55 u56 u57 u58 u59 u60 u61 u62 u63 u64 u65 u66 u67 u68 u69 u70 u71 u72 u73 u74 u75 u76 u77 u78 u79 u80 u81 u82 u83 u84 u85 u86 u87 u88 u89 u90 u91 u92 u93 u94 u95 u96 u97 u98 u99 u100 u101 u102 u103 u104 u105 u106 u107 u108 u109 u110 u111 : Value)
    (hi : i < n)
    (m0 : Y.cell? ⟨pb, poff + i * 5, none⟩ = some (.int .i64 o.kind))
    (m1 : Y.cell? ⟨pb, poff + i * 5 + 1, none⟩ = some (.int .i64 o.n))
    (m2 : Y.cell? ⟨pb, poff + i * 5 + 2, none⟩ = some (.int .i64 o.i))
    (m3 : Y.cell? ⟨pb, poff + i * 5 + 3, none⟩ = some (.int .u32 o.pos))
    (m4 : Y.cell? ⟨pb, poff + i * 5 + 4, none⟩ = some (.bool o.wild))
    (_ : pb < Y.heap.size)
    (hex : ∀ (v33 v34 : Value) (W' : World) , Below Y.heap.size Y W' → W'.heap[Y.heap.size]? = some (.cells #[.int .i64 o.kind, .int .i64 o.n, .int .i64 o.i, .int .u32 o.pos, .bool o.wild] 29 (0, 0)) → Q0 .normal ⟨List.toArray (u0 :: u1 :: u2 :: u3 :: u4 :: u5 :: u6 :: (.pointer (some ⟨Y.heap.size, 0, none⟩) : Value) :: u8 :: u9 :: u10 :: u11 :: u12 :: u13 :: u14 :: u15 :: u16 :: u17 :: u18 :: u19 :: u20 :: u21 :: u22 :: u23 :: u24 :: u25 :: u26 :: u27 :: u28 :: (.slice (some ⟨pb, poff, none⟩) n pc : Value) :: u30 :: (.int .i64 i : Value) :: u32 :: v33 :: v34 :: u35 :: u36 :: u37 :: u38 :: u39 :: u40 :: u41 :: u42 :: u43 :: u44 :: u45 :: u46 :: u47 :: u48 :: u49 :: u50 :: u51 :: u52 :: u53 :: u54 :: u55 :: u56 :: u57 :: u58 :: u59 :: u60 :: u61 :: u62 :: u63 :: u64 :: u65 :: u66 :: u67 :: u68 :: u69 :: u70 :: u71 :: u72 :: u73 :: u74 :: u75 :: u76 :: u77 :: u78 :: u79 :: u80 :: u81 :: u82 :: u83 :: u84 :: u85 :: u86 :: u87 :: u88 :: u89 :: u90 :: u91 :: u92 :: u93 :: u94 :: u95 :: u96 :: u97 :: u98 :: u99 :: u100 :: u101 :: u102 :: u103 :: u104 :: u105 :: u106 :: u107 :: u108 :: u109 :: u110 :: u111 :: []), []⟩ W')
    : Code.wp Try.prog k9C Q0 ⟨List.toArray (u0 :: u1 :: u2 :: u3 :: u4 :: u5 :: u6 :: u7 :: u8 :: u9 :: u10 :: u11 :: u12 :: u13 :: u14 :: u15 :: u16 :: u17 :: u18 :: u19 :: u20 :: u21 :: u22 :: u23 :: u24 :: u25 :: u26 :: u27 :: u28 :: (.slice (some ⟨pb, poff, none⟩) n pc : Value) :: u30 :: (.int .i64 i : Value) :: u32 :: u33 :: u34 :: u35 :: u36 :: u37 :: u38 :: u39 :: u40 :: u41 :: u42 :: u43 :: u44 :: u45 :: u46 :: u47 :: u48 :: u49 :: u50 :: u51 :: u52 :: u53 :: u54 :: u55 :: u56 :: u57 :: u58 :: u59 :: u60 :: u61 :: u62 :: u63 :: u64 :: u65 :: u66 :: u67 :: u68 :: u69 :: u70 :: u71 :: u72 :: u73 :: u74 :: u75 :: u76 :: u77 :: u78 :: u79 :: u80 :: u81 :: u82 :: u83 :: u84 :: u85 :: u86 :: u87 :: u88 :: u89 :: u90 :: u91 :: u92 :: u93 :: u94 :: u95 :: u96 :: u97 :: u98 :: u99 :: u100 :: u101 :: u102 :: u103 :: u104 :: u105 :: u106 :: u107 :: u108 :: u109 :: u110 :: u111 :: []), []⟩ Y := by
  have HEX := Lib.hid hex
  clear hex
  have j4 : (i : Int) < (n : Int) := by omega
  conv => arg 2; whnf
  go_wp2
  exact HEX.out _ _ _ (below_alloc1 Y _) (hal_new rfl)

noncomputable def k10C : Code := cA (cB (cK (cA (cB (cB (cL (cK (cB (cA (cB (cB (cB (cB (cB (Try.f13.body.getD .skip)))))))))))))))
set_option maxRecDepth 1000000 in
set_option maxHeartbeats 40000000 in
theorem k10 (Q0 : Exit → Act → World → Prop) (r : HRes) (A B : Option Addr) (k m b : Nat) (Y : World) (u0 u1 u3 u4 u6 u7 u8 u9 u10 u11 u12 u13 u14 u15 u16 u17 u18 u19 u20 u21 u22 u23 u24 u25 u26 u27 u28 u29 u30 u31 u32 u33 u34 u35 u36 u37 u38 u39 u40 u41 u42 u43 u44 u45 u46 u47 u48 u49 u50 u51 u52 u53 u54 u55 u56 u57 u58 u59 u60 u61 u62 u63 u64 u65 u66 u67 u68 u69 u70 u71 u72 u73 u74 u75 u76 u77 u78 u79 u80 u81 u82 u83 u84 u85 u86 u87 u88 u89 u90 u91 u92 u93 u94 u95 u96 u97 u98 u99 u100 u101 u102 u103 u104 u105 u106 u107 u108 u109 u110 u111 : Value)
    (hb : Y.heap[b]? = some (.cells #[.int .i64 r.c.page, .int .i64 r.c.n, .int .i64 r.c.red, .int .i64 r.c.quarantine, .slice A r.live.length k, .slice B r.quar.length m, .int .i64 r.gi] 26 (0, 0)))
    (hc : Calls Try.prog 51 #[.agg #[.int .i64 r.c.page, .int .i64 r.c.n, .int .i64 r.c.red, .int .i64 r.c.quarantine, .slice A r.live.length k, .slice B r.quar.length m, .int .i64 r.gi]] Y (fun e w' => Below Y.heap.size Y w' ∧ ∃ A1 c1 A2 c2, e = .returned (.agg #[.int .i64 r.c.page, .int .i64 r.c.n, .int .i64 r.c.red, .int .i64 r.c.quarantine, .slice A1 r.live.length c1, .slice A2 r.quar.length c2, .int .i64 r.gi]) ∧ Own2 w' Y.heap.size r A1 c1 A2 c2))
    (hex : ∀ (v35 v36 v37 : Value) (W' : World) (A1 B1 : Option Addr) (k1 m1 nb : Nat), Below Y.heap.size Y W' → W'.heap[nb]? = some (.cells #[.int .i64 r.c.page, .int .i64 r.c.n, .int .i64 r.c.red, .int .i64 r.c.quarantine, .slice A1 r.live.length k1, .slice B1 r.quar.length m1, .int .i64 r.gi] 26 (0, 0)) → Own2 W' Y.heap.size r A1 k1 B1 m1 → Y.heap.size ≤ nb → Q0 .normal ⟨List.toArray (u0 :: u1 :: (.pointer (some ⟨b, 0, none⟩) : Value) :: u3 :: u4 :: (.func (.func 51) #[] #[] : Value) :: u6 :: u7 :: (.pointer (some ⟨nb, 0, none⟩) : Value) :: u9 :: u10 :: u11 :: u12 :: u13 :: u14 :: u15 :: u16 :: u17 :: u18 :: u19 :: u20 :: u21 :: u22 :: u23 :: u24 :: u25 :: u26 :: u27 :: u28 :: u29 :: u30 :: u31 :: u32 :: u33 :: u34 :: v35 :: v36 :: v37 :: u38 :: u39 :: u40 :: u41 :: u42 :: u43 :: u44 :: u45 :: u46 :: u47 :: u48 :: u49 :: u50 :: u51 :: u52 :: u53 :: u54 :: u55 :: u56 :: u57 :: u58 :: u59 :: u60 :: u61 :: u62 :: u63 :: u64 :: u65 :: u66 :: u67 :: u68 :: u69 :: u70 :: u71 :: u72 :: u73 :: u74 :: u75 :: u76 :: u77 :: u78 :: u79 :: u80 :: u81 :: u82 :: u83 :: u84 :: u85 :: u86 :: u87 :: u88 :: u89 :: u90 :: u91 :: u92 :: u93 :: u94 :: u95 :: u96 :: u97 :: u98 :: u99 :: u100 :: u101 :: u102 :: u103 :: u104 :: u105 :: u106 :: u107 :: u108 :: u109 :: u110 :: u111 :: []), []⟩ W')
    : Code.wp Try.prog k10C Q0 ⟨List.toArray (u0 :: u1 :: (.pointer (some ⟨b, 0, none⟩) : Value) :: u3 :: u4 :: (.func (.func 51) #[] #[] : Value) :: u6 :: u7 :: u8 :: u9 :: u10 :: u11 :: u12 :: u13 :: u14 :: u15 :: u16 :: u17 :: u18 :: u19 :: u20 :: u21 :: u22 :: u23 :: u24 :: u25 :: u26 :: u27 :: u28 :: u29 :: u30 :: u31 :: u32 :: u33 :: u34 :: u35 :: u36 :: u37 :: u38 :: u39 :: u40 :: u41 :: u42 :: u43 :: u44 :: u45 :: u46 :: u47 :: u48 :: u49 :: u50 :: u51 :: u52 :: u53 :: u54 :: u55 :: u56 :: u57 :: u58 :: u59 :: u60 :: u61 :: u62 :: u63 :: u64 :: u65 :: u66 :: u67 :: u68 :: u69 :: u70 :: u71 :: u72 :: u73 :: u74 :: u75 :: u76 :: u77 :: u78 :: u79 :: u80 :: u81 :: u82 :: u83 :: u84 :: u85 :: u86 :: u87 :: u88 :: u89 :: u90 :: u91 :: u92 :: u93 :: u94 :: u95 :: u96 :: u97 :: u98 :: u99 :: u100 :: u101 :: u102 :: u103 :: u104 :: u105 :: u106 :: u107 :: u108 :: u109 :: u110 :: u111 :: []), []⟩ Y := by
  have HEX := Lib.hid hex
  clear hex
  have q0 := blk_cell hb 0
  have q1 := blk_cell hb 1
  have q2 := blk_cell hb 2
  have q3 := blk_cell hb 3
  have q4 := blk_cell hb 4
  have q5 := blk_cell hb 5
  have q6 := blk_cell hb 6
  simp only [List.getElem?_toArray, List.getElem?_cons_succ, List.getElem?_cons_zero] at q0 q1 q2 q3 q4 q5 q6
  have eg : ∀ args w, (callFunc 51 args).run Try.prog w = .ok (.enter 51 args) w := enters_of Try.func51 (by kernel_rfl) rfl
  have HC := Lib.hid hc
  have hlb : b < Y.heap.size := blk_lt hb
  clear hb hc
  conv => arg 2; whnf
  go_wp2_with fail
  try go_at_fn 51
  refine Calls.mono HC.out ?_
  rintro e w1 ⟨hB, A1, c1, A2, c2, rfl, ho⟩
  have HB := Lib.hid hB
  have HO := Lib.hid ho
  clear hB ho HC q0 q1 q2 q3 q4 q5 q6
  go_wp2
  exact HEX.out _ _ _ _ A1 A2 c1 c2 w1.heap.size (HB.out.alloc HB.out.size _) (hal_new rfl) ⟨own_belowU HO.out.1 (below_alloc1 w1 _), own_belowU HO.out.2.1 (below_alloc1 w1 _), HO.out.2.2⟩ HB.out.size

noncomputable def k12C : Code := cA (cB (cB (cB (cK (cA (cB (cB (cL (cK (cB (cA (cB (cB (cB (cB (cB (Try.f13.body.getD .skip)))))))))))))))))
set_option maxRecDepth 1000000 in
set_option maxHeartbeats 40000000 in
theorem k12 (Q0 : Exit → Act → World → Prop) (r : HRes) (A B : Option Addr) (k m b : Nat) (Y : World) (u0 u1 u2 u3 u4 u6 u7 u8 u10 u11 u12 u13 u14 u15 u16 u17 u18 u19 u20 u21 u22 u23 u24 u25 u26 u27 u28 u29 u30 u31 u32 u33 u34 u35 u36 u37 u38 u39 u40 u41 u42 u43 u44 u45 u46 u47 u48 u49 u50 u51 u52 u53 u54 u55 u56 u57 u58 u59 u60 u61 u62 u63 u64 u65 u66 u67 u68 u69 u70 u71 u72 u73 u74 u75 u76 u77 u78 u79 u80 u81 u82 u83 u84 u85 u86 u87 u88 u89 u90 u91 u92 u93 u94 u95 u96 u97 u98 u99 u100 u101 u102 u103 u104 u105 u106 u107 u108 u109 u110 u111 : Value)
    (hb : Y.heap[b]? = some (.cells #[.int .i64 r.c.page, .int .i64 r.c.n, .int .i64 r.c.red, .int .i64 r.c.quarantine, .slice A r.live.length k, .slice B r.quar.length m, .int .i64 r.gi] 26 (0, 0)))
    (hc : Calls Try.prog 51 #[.agg #[.int .i64 r.c.page, .int .i64 r.c.n, .int .i64 r.c.red, .int .i64 r.c.quarantine, .slice A r.live.length k, .slice B r.quar.length m, .int .i64 r.gi]] Y (fun e w' => Below Y.heap.size Y w' ∧ ∃ A1 c1 A2 c2, e = .returned (.agg #[.int .i64 r.c.page, .int .i64 r.c.n, .int .i64 r.c.red, .int .i64 r.c.quarantine, .slice A1 r.live.length c1, .slice A2 r.quar.length c2, .int .i64 r.gi]) ∧ Own2 w' Y.heap.size r A1 c1 A2 c2))
    (hex : ∀ (v45 v46 v47 : Value) (W' : World) (A1 B1 : Option Addr) (k1 m1 nb : Nat), Below Y.heap.size Y W' → W'.heap[nb]? = some (.cells #[.int .i64 r.c.page, .int .i64 r.c.n, .int .i64 r.c.red, .int .i64 r.c.quarantine, .slice A1 r.live.length k1, .slice B1 r.quar.length m1, .int .i64 r.gi] 26 (0, 0)) → Own2 W' Y.heap.size r A1 k1 B1 m1 → Y.heap.size ≤ nb → Q0 .normal ⟨List.toArray (u0 :: u1 :: u2 :: u3 :: u4 :: (.func (.func 51) #[] #[] : Value) :: u6 :: u7 :: u8 :: (.pointer (some ⟨b, 0, none⟩) : Value) :: u10 :: u11 :: (.pointer (some ⟨nb, 0, none⟩) : Value) :: u13 :: u14 :: u15 :: u16 :: u17 :: u18 :: u19 :: u20 :: u21 :: u22 :: u23 :: u24 :: u25 :: u26 :: u27 :: u28 :: u29 :: u30 :: u31 :: u32 :: u33 :: u34 :: u35 :: u36 :: u37 :: u38 :: u39 :: u40 :: u41 :: u42 :: u43 :: u44 :: v45 :: v46 :: v47 :: u48 :: u49 :: u50 :: u51 :: u52 :: u53 :: u54 :: u55 :: u56 :: u57 :: u58 :: u59 :: u60 :: u61 :: u62 :: u63 :: u64 :: u65 :: u66 :: u67 :: u68 :: u69 :: u70 :: u71 :: u72 :: u73 :: u74 :: u75 :: u76 :: u77 :: u78 :: u79 :: u80 :: u81 :: u82 :: u83 :: u84 :: u85 :: u86 :: u87 :: u88 :: u89 :: u90 :: u91 :: u92 :: u93 :: u94 :: u95 :: u96 :: u97 :: u98 :: u99 :: u100 :: u101 :: u102 :: u103 :: u104 :: u105 :: u106 :: u107 :: u108 :: u109 :: u110 :: u111 :: []), []⟩ W')
    : Code.wp Try.prog k12C Q0 ⟨List.toArray (u0 :: u1 :: u2 :: u3 :: u4 :: (.func (.func 51) #[] #[] : Value) :: u6 :: u7 :: u8 :: (.pointer (some ⟨b, 0, none⟩) : Value) :: u10 :: u11 :: u12 :: u13 :: u14 :: u15 :: u16 :: u17 :: u18 :: u19 :: u20 :: u21 :: u22 :: u23 :: u24 :: u25 :: u26 :: u27 :: u28 :: u29 :: u30 :: u31 :: u32 :: u33 :: u34 :: u35 :: u36 :: u37 :: u38 :: u39 :: u40 :: u41 :: u42 :: u43 :: u44 :: u45 :: u46 :: u47 :: u48 :: u49 :: u50 :: u51 :: u52 :: u53 :: u54 :: u55 :: u56 :: u57 :: u58 :: u59 :: u60 :: u61 :: u62 :: u63 :: u64 :: u65 :: u66 :: u67 :: u68 :: u69 :: u70 :: u71 :: u72 :: u73 :: u74 :: u75 :: u76 :: u77 :: u78 :: u79 :: u80 :: u81 :: u82 :: u83 :: u84 :: u85 :: u86 :: u87 :: u88 :: u89 :: u90 :: u91 :: u92 :: u93 :: u94 :: u95 :: u96 :: u97 :: u98 :: u99 :: u100 :: u101 :: u102 :: u103 :: u104 :: u105 :: u106 :: u107 :: u108 :: u109 :: u110 :: u111 :: []), []⟩ Y := by
  have HEX := Lib.hid hex
  clear hex
  have q0 := blk_cell hb 0
  have q1 := blk_cell hb 1
  have q2 := blk_cell hb 2
  have q3 := blk_cell hb 3
  have q4 := blk_cell hb 4
  have q5 := blk_cell hb 5
  have q6 := blk_cell hb 6
  simp only [List.getElem?_toArray, List.getElem?_cons_succ, List.getElem?_cons_zero] at q0 q1 q2 q3 q4 q5 q6
  have eg : ∀ args w, (callFunc 51 args).run Try.prog w = .ok (.enter 51 args) w := enters_of Try.func51 (by kernel_rfl) rfl
  have HC := Lib.hid hc
  have hlb : b < Y.heap.size := blk_lt hb
  clear hb hc
  conv => arg 2; whnf
  go_wp2_with fail
  try go_at_fn 51
  refine Calls.mono HC.out ?_
  rintro e w1 ⟨hB, A1, c1, A2, c2, rfl, ho⟩
  have HB := Lib.hid hB
  have HO := Lib.hid ho
  clear hB ho HC q0 q1 q2 q3 q4 q5 q6
  go_wp2
  exact HEX.out _ _ _ _ A1 A2 c1 c2 w1.heap.size (HB.out.alloc HB.out.size _) (hal_new rfl) ⟨own_belowU HO.out.1 (below_alloc1 w1 _), own_belowU HO.out.2.1 (below_alloc1 w1 _), HO.out.2.2⟩ HB.out.size

noncomputable def k11C : Code := cA (cB (cB (cK (cA (cB (cB (cL (cK (cB (cA (cB (cB (cB (cB (cB (Try.f13.body.getD .skip))))))))))))))))
set_option maxRecDepth 1000000 in
set_option maxHeartbeats 40000000 in
theorem k11 (Q0 : Exit → Act → World → Prop) (DP : Int → Int → HRes → Prop) (o : OpV) (r : HRes) (A B : Option Addr) (k m h0 bo : Nat) (Y : World) (u0 u1 u3 u4 u5 u6 u8 u9 u10 u11 u12 u13 u14 u15 u16 u17 u18 u19 u20 u21 u22 u23 u24 u25 u26 u27 u28 u29 u30 u31 u32 u33 u34 u35 u36 u37 u38 u39 u40 u41 u42 u43 u44 u45 u46 u47 u48 u49 u50 u51 u52 u53 u54 u55 u56 u57 u58 u59 u60 u61 u62 u63 u64 u65 u66 u67 u68 u69 u70 u71 u72 u73 u74 u75 u76 u77 u78 u79 u80 u81 u82 u83 u84 u85 u86 u87 u88 u89 u90 u91 u92 u93 u94 u95 u96 u97 u98 u99 u100 u101 u102 u103 u104 u105 u106 u107 u108 u109 u110 u111 : Value)
    (hb : Y.heap[h0]? = some (.cells #[.int .i64 r.c.page, .int .i64 r.c.n, .int .i64 r.c.red, .int .i64 r.c.quarantine, .slice A r.live.length k, .slice B r.quar.length m, .int .i64 r.gi] 26 (0, 0)))
    (ho : Y.heap[bo]? = some (.cells #[.int .i64 o.kind, .int .i64 o.n, .int .i64 o.i, .int .u32 o.pos, .bool o.wild] 29 (0, 0)))
    (hc : Calls Try.prog 46 #[.agg #[.int .i64 r.c.page, .int .i64 r.c.n, .int .i64 r.c.red, .int .i64 r.c.quarantine, .slice A r.live.length k, .slice B r.quar.length m, .int .i64 r.gi], .agg #[.int .i64 o.kind, .int .i64 o.n, .int .i64 o.i, .int .u32 o.pos, .bool o.wild]] Y (fun e w' => Below Y.heap.size Y w' ∧ ∃ err at_ r2, DP err at_ r2 ∧ HAns Y.heap.size w' e err at_ r2))
    (hex : ∀ (v10 v38 v39 v40 v41 v42 v43 v44 : Value) (W' : World) (err at_ : Int) (r2 : HRes) (A2 B2 : Option Addr) (k2 m2 nb : Nat), Below Y.heap.size Y W' → DP err at_ r2 → W'.heap[nb]? = some (.cells #[.int .i64 r2.c.page, .int .i64 r2.c.n, .int .i64 r2.c.red, .int .i64 r2.c.quarantine, .slice A2 r2.live.length k2, .slice B2 r2.quar.length m2, .int .i64 r2.gi] 26 (0, 0)) → Fresh Y.heap.size W' (.slice A2 r2.live.length k2) r2.live → Fresh Y.heap.size W' (.slice B2 r2.quar.length m2) r2.quar → Y.heap.size ≤ nb → Q0 .normal ⟨List.toArray (u0 :: u1 :: (.pointer (some ⟨h0, 0, none⟩) : Value) :: u3 :: u4 :: u5 :: u6 :: (.pointer (some ⟨bo, 0, none⟩) : Value) :: u8 :: (.pointer (some ⟨nb, 0, none⟩) : Value) :: v10 :: (.int .i64 err : Value) :: u12 :: u13 :: u14 :: u15 :: u16 :: u17 :: u18 :: u19 :: u20 :: u21 :: u22 :: u23 :: u24 :: u25 :: u26 :: u27 :: u28 :: u29 :: u30 :: u31 :: u32 :: u33 :: u34 :: u35 :: u36 :: u37 :: v38 :: v39 :: v40 :: v41 :: v42 :: v43 :: v44 :: u45 :: u46 :: u47 :: u48 :: u49 :: u50 :: u51 :: u52 :: u53 :: u54 :: u55 :: u56 :: u57 :: u58 :: u59 :: u60 :: u61 :: u62 :: u63 :: u64 :: u65 :: u66 :: u67 :: u68 :: u69 :: u70 :: u71 :: u72 :: u73 :: u74 :: u75 :: u76 :: u77 :: u78 :: u79 :: u80 :: u81 :: u82 :: u83 :: u84 :: u85 :: u86 :: u87 :: u88 :: u89 :: u90 :: u91 :: u92 :: u93 :: u94 :: u95 :: u96 :: u97 :: u98 :: u99 :: u100 :: u101 :: u102 :: u103 :: u104 :: u105 :: u106 :: u107 :: u108 :: u109 :: u110 :: u111 :: []), []⟩ W')
    : Code.wp Try.prog k11C Q0 ⟨List.toArray (u0 :: u1 :: (.pointer (some ⟨h0, 0, none⟩) : Value) :: u3 :: u4 :: u5 :: u6 :: (.pointer (some ⟨bo, 0, none⟩) : Value) :: u8 :: u9 :: u10 :: u11 :: u12 :: u13 :: u14 :: u15 :: u16 :: u17 :: u18 :: u19 :: u20 :: u21 :: u22 :: u23 :: u24 :: u25 :: u26 :: u27 :: u28 :: u29 :: u30 :: u31 :: u32 :: u33 :: u34 :: u35 :: u36 :: u37 :: u38 :: u39 :: u40 :: u41 :: u42 :: u43 :: u44 :: u45 :: u46 :: u47 :: u48 :: u49 :: u50 :: u51 :: u52 :: u53 :: u54 :: u55 :: u56 :: u57 :: u58 :: u59 :: u60 :: u61 :: u62 :: u63 :: u64 :: u65 :: u66 :: u67 :: u68 :: u69 :: u70 :: u71 :: u72 :: u73 :: u74 :: u75 :: u76 :: u77 :: u78 :: u79 :: u80 :: u81 :: u82 :: u83 :: u84 :: u85 :: u86 :: u87 :: u88 :: u89 :: u90 :: u91 :: u92 :: u93 :: u94 :: u95 :: u96 :: u97 :: u98 :: u99 :: u100 :: u101 :: u102 :: u103 :: u104 :: u105 :: u106 :: u107 :: u108 :: u109 :: u110 :: u111 :: []), []⟩ Y := by
  have HEX := Lib.hid hex
  clear hex
  have q0 := blk_cell hb 0
  have q1 := blk_cell hb 1
  have q2 := blk_cell hb 2
  have q3 := blk_cell hb 3
  have q4 := blk_cell hb 4
  have q5 := blk_cell hb 5
  have q6 := blk_cell hb 6
  simp only [List.getElem?_toArray, List.getElem?_cons_succ, List.getElem?_cons_zero] at q0 q1 q2 q3 q4 q5 q6
  have p0 := blk_cell ho 0
  have p1 := blk_cell ho 1
  have p2 := blk_cell ho 2
  have p3 := blk_cell ho 3
  have p4 := blk_cell ho 4
  simp only [List.getElem?_toArray, List.getElem?_cons_succ, List.getElem?_cons_zero] at p0 p1 p2 p3 p4
  have HC := Lib.hid hc
  have hlb : h0 < Y.heap.size := blk_lt hb
  have hlo : bo < Y.heap.size := blk_lt ho
  clear hb ho hc
  conv => arg 2; whnf
  go_wp2_with fail
  refine Calls.mono HC.out ?_
  rintro e w1 ⟨hB, err, at_, r2, hd, A2, k2, B2, m2, rfl, f1, f2⟩
  have HB := Lib.hid hB
  have HD := Lib.hid hd
  have F1 := Lib.hid f1
  have F2 := Lib.hid f2
  clear hB hd f1 f2 HC q0 q1 q2 q3 q4 q5 q6 p0 p1 p2 p3 p4
  go_wp2
  exact HEX.out _ _ _ _ _ _ _ _ _ err at_ r2 A2 B2 k2 m2 w1.heap.size (HB.out.alloc HB.out.size _) HD.out (hal_new rfl) (F1.out.below (below_alloc1 w1 _)) (F2.out.below (below_alloc1 w1 _)) HB.out.size

noncomputable def k13C : Code := cA (cB (cB (cB (cB (cK (cA (cB (cB (cL (cK (cB (cA (cB (cB (cB (cB (cB (Try.f13.body.getD .skip))))))))))))))))))
set_option maxRecDepth 1000000 in
set_option maxHeartbeats 40000000 in
theorem k13 (Q0 : Exit → Act → World → Prop) (o : OpV) (r : HRes) (A B : Option Addr) (k m h0 bo : Nat) (Y : World) (u0 u1 u3 u4 u5 u6 u8 u9 u10 u11 u12 u13 u14 u15 u16 u17 u18 u19 u20 u21 u22 u23 u24 u25 u26 u27 u28 u29 u30 u31 u32 u33 u34 u35 u36 u37 u38 u39 u40 u41 u42 u43 u44 u45 u46 u47 u48 u49 u50 u51 u52 u53 u54 u55 u56 u57 u58 u59 u60 u61 u62 u63 u64 u65 u66 u67 u68 u69 u70 u71 u72 u73 u74 u75 u76 u77 u78 u79 u80 u81 u82 u83 u84 u85 u86 u87 u88 u89 u90 u91 u92 u93 u94 u95 u96 u97 u98 u99 u100 u101 u102 u103 u104 u105 u106 u107 u108 u109 u110 u111 : Value)
    (hb : Y.heap[h0]? = some (.cells #[.int .i64 r.c.page, .int .i64 r.c.n, .int .i64 r.c.red, .int .i64 r.c.quarantine, .slice A r.live.length k, .slice B r.quar.length m, .int .i64 r.gi] 26 (0, 0)))
    (ho : Y.heap[bo]? = some (.cells #[.int .i64 o.kind, .int .i64 o.n, .int .i64 o.i, .int .u32 o.pos, .bool o.wild] 29 (0, 0)))
    (hc : Calls Try.prog 26 #[.agg #[.int .i64 r.c.page, .int .i64 r.c.n, .int .i64 r.c.red, .int .i64 r.c.quarantine, .slice A r.live.length k, .slice B r.quar.length m, .int .i64 r.gi], .int .u32 o.pos] Y (fun e w' => Below Y.heap.size Y w' ∧ ∃ v, e = .returned v))
    (hex : ∀ (v48 v49 v50 v51 : Value) (W' : World) , Below Y.heap.size Y W' → Q0 .normal ⟨List.toArray (u0 :: u1 :: (.pointer (some ⟨h0, 0, none⟩) : Value) :: u3 :: u4 :: u5 :: u6 :: (.pointer (some ⟨bo, 0, none⟩) : Value) :: u8 :: u9 :: u10 :: u11 :: u12 :: u13 :: u14 :: u15 :: u16 :: u17 :: u18 :: u19 :: u20 :: u21 :: u22 :: u23 :: u24 :: u25 :: u26 :: u27 :: u28 :: u29 :: u30 :: u31 :: u32 :: u33 :: u34 :: u35 :: u36 :: u37 :: u38 :: u39 :: u40 :: u41 :: u42 :: u43 :: u44 :: u45 :: u46 :: u47 :: v48 :: v49 :: v50 :: v51 :: u52 :: u53 :: u54 :: u55 :: u56 :: u57 :: u58 :: u59 :: u60 :: u61 :: u62 :: u63 :: u64 :: u65 :: u66 :: u67 :: u68 :: u69 :: u70 :: u71 :: u72 :: u73 :: u74 :: u75 :: u76 :: u77 :: u78 :: u79 :: u80 :: u81 :: u82 :: u83 :: u84 :: u85 :: u86 :: u87 :: u88 :: u89 :: u90 :: u91 :: u92 :: u93 :: u94 :: u95 :: u96 :: u97 :: u98 :: u99 :: u100 :: u101 :: u102 :: u103 :: u104 :: u105 :: u106 :: u107 :: u108 :: u109 :: u110 :: u111 :: []), []⟩ W')
    : Code.wp Try.prog k13C Q0 ⟨List.toArray (u0 :: u1 :: (.pointer (some ⟨h0, 0, none⟩) : Value) :: u3 :: u4 :: u5 :: u6 :: (.pointer (some ⟨bo, 0, none⟩) : Value) :: u8 :: u9 :: u10 :: u11 :: u12 :: u13 :: u14 :: u15 :: u16 :: u17 :: u18 :: u19 :: u20 :: u21 :: u22 :: u23 :: u24 :: u25 :: u26 :: u27 :: u28 :: u29 :: u30 :: u31 :: u32 :: u33 :: u34 :: u35 :: u36 :: u37 :: u38 :: u39 :: u40 :: u41 :: u42 :: u43 :: u44 :: u45 :: u46 :: u47 :: u48 :: u49 :: u50 :: u51 :: u52 :: u53 :: u54 :: u55 :: u56 :: u57 :: u58 :: u59 :: u60 :: u61 :: u62 :: u63 :: u64 :: u65 :: u66 :: u67 :: u68 :: u69 :: u70 :: u71 :: u72 :: u73 :: u74 :: u75 :: u76 :: u77 :: u78 :: u79 :: u80 :: u81 :: u82 :: u83 :: u84 :: u85 :: u86 :: u87 :: u88 :: u89 :: u90 :: u91 :: u92 :: u93 :: u94 :: u95 :: u96 :: u97 :: u98 :: u99 :: u100 :: u101 :: u102 :: u103 :: u104 :: u105 :: u106 :: u107 :: u108 :: u109 :: u110 :: u111 :: []), []⟩ Y := by
  have HEX := Lib.hid hex
  clear hex
  have q0 := blk_cell hb 0
  have q1 := blk_cell hb 1
  have q2 := blk_cell hb 2
  have q3 := blk_cell hb 3
  have q4 := blk_cell hb 4
  have q5 := blk_cell hb 5
  have q6 := blk_cell hb 6
  simp only [List.getElem?_toArray, List.getElem?_cons_succ, List.getElem?_cons_zero] at q0 q1 q2 q3 q4 q5 q6
  have p0 := blk_cell ho 0
  have p1 := blk_cell ho 1
  have p2 := blk_cell ho 2
  have p3 := blk_cell ho 3
  have p4 := blk_cell ho 4
  simp only [List.getElem?_toArray, List.getElem?_cons_succ, List.getElem?_cons_zero] at p0 p1 p2 p3 p4
  have HC := Lib.hid hc
  have hlb : h0 < Y.heap.size := blk_lt hb
  have hlo : bo < Y.heap.size := blk_lt ho
  clear hb ho hc
  conv => arg 2; whnf
  go_wp2_with fail
  refine Calls.mono HC.out ?_
  rintro e w1 ⟨hB, v, rfl⟩
  have HB := Lib.hid hB
  clear hB HC q0 q1 q2 q3 q4 q5 q6 p0 p1 p2 p3 p4
  go_wp2
  exact HEX.out _ _ _ _ _ HB.out

noncomputable def k14C : Code := cA (cB (cB (cB (cB (cB (cK (cA (cB (cB (cL (cK (cB (cA (cB (cB (cB (cB (cB (Try.f13.body.getD .skip)))))))))))))))))))
set_option maxRecDepth 1000000 in
set_option maxHeartbeats 40000000 in
theorem k14 (Q0 : Exit → Act → World → Prop) (r : HRes) (A B : Option Addr) (k m h0 : Nat) (Y : World) (u0 u1 u3 u4 u5 u6 u7 u8 u9 u10 u11 u12 u13 u14 u15 u16 u17 u18 u19 u20 u21 u22 u23 u24 u25 u26 u27 u28 u29 u30 u31 u32 u33 u34 u35 u36 u37 u38 u39 u40 u41 u42 u43 u44 u45 u46 u47 u48 u49 u50 u51 u52 u53 u54 u55 u56 u57 u58 u59 u60 u61 u62 u63 u64 u65 u66 u67 u68 u69 u70 u71 u72 u73 u74 u75 u76 u77 u78 u79 u80 u81 u82 u83 u84 u85 u86 u87 u88 u89 u90 u91 u92 u93 u94 u95 u96 u97 u98 u99 u100 u101 u102 u103 u104 u105 u106 u107 u108 u109 u110 u111 : Value)
    (hb : Y.heap[h0]? = some (.cells #[.int .i64 r.c.page, .int .i64 r.c.n, .int .i64 r.c.red, .int .i64 r.c.quarantine, .slice A r.live.length k, .slice B r.quar.length m, .int .i64 r.gi] 26 (0, 0)))
    (hc : Calls Try.prog 27 #[.agg #[.int .i64 r.c.page, .int .i64 r.c.n, .int .i64 r.c.red, .int .i64 r.c.quarantine, .slice A r.live.length k, .slice B r.quar.length m, .int .i64 r.gi]] Y (fun e w' => Below Y.heap.size Y w' ∧ ∃ v, e = .returned v))
    (hex : ∀ (v52 v53 : Value) (W' : World) , Below Y.heap.size Y W' → Q0 .normal ⟨List.toArray (u0 :: u1 :: (.pointer (some ⟨h0, 0, none⟩) : Value) :: u3 :: u4 :: u5 :: u6 :: u7 :: u8 :: u9 :: u10 :: u11 :: u12 :: u13 :: u14 :: u15 :: u16 :: u17 :: u18 :: u19 :: u20 :: u21 :: u22 :: u23 :: u24 :: u25 :: u26 :: u27 :: u28 :: u29 :: u30 :: u31 :: u32 :: u33 :: u34 :: u35 :: u36 :: u37 :: u38 :: u39 :: u40 :: u41 :: u42 :: u43 :: u44 :: u45 :: u46 :: u47 :: u48 :: u49 :: u50 :: u51 :: v52 :: v53 :: u54 :: u55 :: u56 :: u57 :: u58 :: u59 :: u60 :: u61 :: u62 :: u63 :: u64 :: u65 :: u66 :: u67 :: u68 :: u69 :: u70 :: u71 :: u72 :: u73 :: u74 :: u75 :: u76 :: u77 :: u78 :: u79 :: u80 :: u81 :: u82 :: u83 :: u84 :: u85 :: u86 :: u87 :: u88 :: u89 :: u90 :: u91 :: u92 :: u93 :: u94 :: u95 :: u96 :: u97 :: u98 :: u99 :: u100 :: u101 :: u102 :: u103 :: u104 :: u105 :: u106 :: u107 :: u108 :: u109 :: u110 :: u111 :: []), []⟩ W')
    : Code.wp Try.prog k14C Q0 ⟨List.toArray (u0 :: u1 :: (.pointer (some ⟨h0, 0, none⟩) : Value) :: u3 :: u4 :: u5 :: u6 :: u7 :: u8 :: u9 :: u10 :: u11 :: u12 :: u13 :: u14 :: u15 :: u16 :: u17 :: u18 :: u19 :: u20 :: u21 :: u22 :: u23 :: u24 :: u25 :: u26 :: u27 :: u28 :: u29 :: u30 :: u31 :: u32 :: u33 :: u34 :: u35 :: u36 :: u37 :: u38 :: u39 :: u40 :: u41 :: u42 :: u43 :: u44 :: u45 :: u46 :: u47 :: u48 :: u49 :: u50 :: u51 :: u52 :: u53 :: u54 :: u55 :: u56 :: u57 :: u58 :: u59 :: u60 :: u61 :: u62 :: u63 :: u64 :: u65 :: u66 :: u67 :: u68 :: u69 :: u70 :: u71 :: u72 :: u73 :: u74 :: u75 :: u76 :: u77 :: u78 :: u79 :: u80 :: u81 :: u82 :: u83 :: u84 :: u85 :: u86 :: u87 :: u88 :: u89 :: u90 :: u91 :: u92 :: u93 :: u94 :: u95 :: u96 :: u97 :: u98 :: u99 :: u100 :: u101 :: u102 :: u103 :: u104 :: u105 :: u106 :: u107 :: u108 :: u109 :: u110 :: u111 :: []), []⟩ Y := by
  have HEX := Lib.hid hex
  clear hex
  have q0 := blk_cell hb 0
  have q1 := blk_cell hb 1
  have q2 := blk_cell hb 2
  have q3 := blk_cell hb 3
  have q4 := blk_cell hb 4
  have q5 := blk_cell hb 5
  have q6 := blk_cell hb 6
  simp only [List.getElem?_toArray, List.getElem?_cons_succ, List.getElem?_cons_zero] at q0 q1 q2 q3 q4 q5 q6
  have HC := Lib.hid hc
  have hlb : h0 < Y.heap.size := blk_lt hb
  clear hb hc
  conv => arg 2; whnf
  go_wp2_with fail
  refine Calls.mono HC.out ?_
  rintro e w1 ⟨hB, v, rfl⟩
  have HB := Lib.hid hB
  clear hB HC q0 q1 q2 q3 q4 q5 q6
  go_wp2
  exact HEX.out _ _ _ HB.out

noncomputable def k15C : Code := cA (cB (cB (cB (cB (cB (cB (cK (cA (cB (cB (cL (cK (cB (cA (cB (cB (cB (cB (cB (Try.f13.body.getD .skip))))))))))))))))))))
set_option maxRecDepth 1000000 in
set_option maxHeartbeats 40000000 in
theorem k15 (Q0 : Exit → Act → World → Prop) (err : Int) (r r2 : HRes) (A B A1 B1 A2 B2 : Option Addr) (k m k1 m1 k2 m2 h0 b1 b2 : Nat) (Y : World) (u0 u1 u3 u4 u5 u6 u7 u10 u12 u13 u14 u15 u16 u17 u18 u19 u20 u21 u22 u23 u24 u25 u26 u27 u28 u29 u30 u31 u32 u33 u34 u35 u36 u37 u38 u39 u40 u41 u42 u43 u44 u45 u46 u47 u48 u49 u50 u51 u52 u53 u54 u55 u56 u57 u58 u59 u60 u61 u62 u63 u64 u65 u66 u67 u68 u69 u70 u71 u72 u73 u74 u75 u76 u77 u78 u79 u80 u81 u82 u83 u84 u85 u86 u87 u88 u89 u90 u91 u92 u93 u94 u95 u96 u97 u98 u99 u100 u101 u102 u103 u104 u105 u106 u107 u108 u109 u110 u111 : Value)
    (hb : Y.heap[h0]? = some (.cells #[.int .i64 r.c.page, .int .i64 r.c.n, .int .i64 r.c.red, .int .i64 r.c.quarantine, .slice A r.live.length k, .slice B r.quar.length m, .int .i64 r.gi] 26 (0, 0)))
    (hb1 : Y.heap[b1]? = some (.cells #[.int .i64 r.c.page, .int .i64 r.c.n, .int .i64 r.c.red, .int .i64 r.c.quarantine, .slice A1 r.live.length k1, .slice B1 r.quar.length m1, .int .i64 r.gi] 26 (0, 0)))
    (hb2 : Y.heap[b2]? = some (.cells #[.int .i64 r2.c.page, .int .i64 r2.c.n, .int .i64 r2.c.red, .int .i64 r2.c.quarantine, .slice A2 r2.live.length k2, .slice B2 r2.quar.length m2, .int .i64 r2.gi] 26 (0, 0)))
    (hc : ∀ V, Below Y.heap.size Y V → Calls Try.prog 34 #[.agg #[.int .i64 r.c.page, .int .i64 r.c.n, .int .i64 r.c.red, .int .i64 r.c.quarantine, .slice A r.live.length k, .slice B r.quar.length m, .int .i64 r.gi], .agg #[.int .i64 r.c.page, .int .i64 r.c.n, .int .i64 r.c.red, .int .i64 r.c.quarantine, .slice A1 r.live.length k1, .slice B1 r.quar.length m1, .int .i64 r.gi]] V (fun e w' => e = .returned (.bool true) ∧ Below V.heap.size V w'))
    (hex : ∀ (v54 v55 v56 v57 v58 v59 v60 v61 v62 v63 v64 v65 v66 v67 : Value) (W' : World) , Below Y.heap.size Y W' → (err = 0 → manyF r2.live.length r2.quar.length = false) → Q0 .normal ⟨List.toArray (u0 :: u1 :: (.pointer (some ⟨h0, 0, none⟩) : Value) :: u3 :: u4 :: u5 :: u6 :: u7 :: (.pointer (some ⟨b1, 0, none⟩) : Value) :: (.pointer (some ⟨b2, 0, none⟩) : Value) :: u10 :: (.int .i64 err : Value) :: u12 :: u13 :: u14 :: u15 :: u16 :: u17 :: u18 :: u19 :: u20 :: u21 :: u22 :: u23 :: u24 :: u25 :: u26 :: u27 :: u28 :: u29 :: u30 :: u31 :: u32 :: u33 :: u34 :: u35 :: u36 :: u37 :: u38 :: u39 :: u40 :: u41 :: u42 :: u43 :: u44 :: u45 :: u46 :: u47 :: u48 :: u49 :: u50 :: u51 :: u52 :: u53 :: v54 :: v55 :: v56 :: v57 :: v58 :: v59 :: v60 :: v61 :: v62 :: v63 :: v64 :: v65 :: v66 :: v67 :: u68 :: u69 :: u70 :: u71 :: u72 :: u73 :: u74 :: u75 :: u76 :: u77 :: u78 :: u79 :: u80 :: u81 :: u82 :: u83 :: u84 :: u85 :: u86 :: u87 :: u88 :: u89 :: u90 :: u91 :: u92 :: u93 :: u94 :: u95 :: u96 :: u97 :: u98 :: u99 :: u100 :: u101 :: u102 :: u103 :: u104 :: u105 :: u106 :: u107 :: u108 :: u109 :: u110 :: u111 :: []), []⟩ W')
    (hret : ∀ (v54 v55 v56 v57 v58 v59 v60 v61 v62 v63 v64 v65 v66 v67 v68 v69 v70 : Value) (W' : World) , Below Y.heap.size Y W' → Q0 .ret ⟨List.toArray (u0 :: u1 :: (.pointer (some ⟨h0, 0, none⟩) : Value) :: u3 :: (.bool true : Value) :: u5 :: u6 :: u7 :: (.pointer (some ⟨b1, 0, none⟩) : Value) :: (.pointer (some ⟨b2, 0, none⟩) : Value) :: u10 :: (.int .i64 err : Value) :: u12 :: u13 :: u14 :: u15 :: u16 :: u17 :: u18 :: u19 :: u20 :: u21 :: u22 :: u23 :: u24 :: u25 :: u26 :: u27 :: u28 :: u29 :: u30 :: u31 :: u32 :: u33 :: u34 :: u35 :: u36 :: u37 :: u38 :: u39 :: u40 :: u41 :: u42 :: u43 :: u44 :: u45 :: u46 :: u47 :: u48 :: u49 :: u50 :: u51 :: u52 :: u53 :: v54 :: v55 :: v56 :: v57 :: v58 :: v59 :: v60 :: v61 :: v62 :: v63 :: v64 :: v65 :: v66 :: v67 :: v68 :: v69 :: v70 :: u71 :: u72 :: u73 :: u74 :: u75 :: u76 :: u77 :: u78 :: u79 :: u80 :: u81 :: u82 :: u83 :: u84 :: u85 :: u86 :: u87 :: u88 :: u89 :: u90 :: u91 :: u92 :: u93 :: u94 :: u95 :: u96 :: u97 :: u98 :: u99 :: u100 :: u101 :: u102 :: u103 :: u104 :: u105 :: u106 :: u107 :: u108 :: u109 :: u110 :: u111 :: []), []⟩ W')
    : Code.wp Try.prog k15C Q0 ⟨List.toArray (u0 :: u1 :: (.pointer (some ⟨h0, 0, none⟩) : Value) :: u3 :: u4 :: u5 :: u6 :: u7 :: (.pointer (some ⟨b1, 0, none⟩) : Value) :: (.pointer (some ⟨b2, 0, none⟩) : Value) :: u10 :: (.int .i64 err : Value) :: u12 :: u13 :: u14 :: u15 :: u16 :: u17 :: u18 :: u19 :: u20 :: u21 :: u22 :: u23 :: u24 :: u25 :: u26 :: u27 :: u28 :: u29 :: u30 :: u31 :: u32 :: u33 :: u34 :: u35 :: u36 :: u37 :: u38 :: u39 :: u40 :: u41 :: u42 :: u43 :: u44 :: u45 :: u46 :: u47 :: u48 :: u49 :: u50 :: u51 :: u52 :: u53 :: u54 :: u55 :: u56 :: u57 :: u58 :: u59 :: u60 :: u61 :: u62 :: u63 :: u64 :: u65 :: u66 :: u67 :: u68 :: u69 :: u70 :: u71 :: u72 :: u73 :: u74 :: u75 :: u76 :: u77 :: u78 :: u79 :: u80 :: u81 :: u82 :: u83 :: u84 :: u85 :: u86 :: u87 :: u88 :: u89 :: u90 :: u91 :: u92 :: u93 :: u94 :: u95 :: u96 :: u97 :: u98 :: u99 :: u100 :: u101 :: u102 :: u103 :: u104 :: u105 :: u106 :: u107 :: u108 :: u109 :: u110 :: u111 :: []), []⟩ Y := by
  have HEX := Lib.hid hex
  clear hex
  have HRET := Lib.hid hret
  clear hret
  have q0 := blk_cell hb 0
  have q1 := blk_cell hb 1
  have q2 := blk_cell hb 2
  have q3 := blk_cell hb 3
  have q4 := blk_cell hb 4
  have q5 := blk_cell hb 5
  have q6 := blk_cell hb 6
  simp only [List.getElem?_toArray, List.getElem?_cons_succ, List.getElem?_cons_zero] at q0 q1 q2 q3 q4 q5 q6
  have p0 := blk_cell hb1 0
  have p1 := blk_cell hb1 1
  have p2 := blk_cell hb1 2
  have p3 := blk_cell hb1 3
  have p4 := blk_cell hb1 4
  have p5 := blk_cell hb1 5
  have p6 := blk_cell hb1 6
  simp only [List.getElem?_toArray, List.getElem?_cons_succ, List.getElem?_cons_zero] at p0 p1 p2 p3 p4 p5 p6
  have s0 := blk_cell hb2 0
  have s1 := blk_cell hb2 1
  have s2 := blk_cell hb2 2
  have s3 := blk_cell hb2 3
  have s4 := blk_cell hb2 4
  have s5 := blk_cell hb2 5
  have s6 := blk_cell hb2 6
  simp only [List.getElem?_toArray, List.getElem?_cons_succ, List.getElem?_cons_zero] at s0 s1 s2 s3 s4 s5 s6
  have HC := Lib.hid hc
  have HH := Lib.hid hb
  have HH1 := Lib.hid hb1
  have hlb : h0 < Y.heap.size := blk_lt hb
  have hlb1 : b1 < Y.heap.size := blk_lt hb1
  have hlb2 : b2 < Y.heap.size := blk_lt hb2
  by_cases he : err = 0
  rotate_left
  · have he' : (err == 0) = false := by simpa using he
    clear hb hb1 hb2 hc
    conv => arg 2; whnf
    go_wp2_with fail
    refine Calls.mono (HC.out Y (Below.refl _ _)) ?_
    rintro e w1 ⟨rfl, hB⟩
    have HB := Lib.hid hB
    clear hB HC q0 q1 q2 q3 q4 q5 q6 p0 p1 p2 p3 p4 p5 p6 s0 s1 s2 s3 s4 s5 s6
    go_wp2
    exact HEX.out _ _ _ _ _ _ _ _ _ _ _ _ _ _ _ HB.out (fun h => absurd h he)
  · subst he
    have HH2 := Lib.hid hb2
    clear hb hb1 hb2 hc
    conv => arg 2; whnf
    go_wp2_with fail
    refine Calls.mono (HC.out Y (Below.refl _ _)) ?_
    rintro e w1 ⟨rfl, hB⟩
    have HB := Lib.hid hB
    have hx2 := (hB.block _ hlb2).trans HH2.out
    have hlw : b2 < w1.heap.size := blk_lt hx2
    clear q0 q1 q2 q3 q4 q5 q6 p0 p1 p2 p3 p4 p5 p6 s0 s1 s2 s3 s4 s5 s6
    have s0 := blk_cell hx2 0
    have s1 := blk_cell hx2 1
    have s2 := blk_cell hx2 2
    have s3 := blk_cell hx2 3
    have s4 := blk_cell hx2 4
    have s5 := blk_cell hx2 5
    have s6 := blk_cell hx2 6
    simp only [List.getElem?_toArray, List.getElem?_cons_succ, List.getElem?_cons_zero] at s0 s1 s2 s3 s4 s5 s6
    clear hx2 hB
    go_wp2_with fail
    refine Calls.mono (c17 w1.heap.size r2.c A2 B2 r2.live.length k2 r2.quar.length m2 r2.gi _ (hal_new rfl)) ?_
    rintro e w2 ⟨rfl, hB2⟩
    have HB2 : Hid (Below Y.heap.size Y w2) := (HB.out.alloc HB.out.size _).trans (hB2.mono (by have := HB.out.size; simp; omega))
    clear hB2 s0 s1 s2 s3 s4 s5 s6
    cases hmf : manyF r2.live.length r2.quar.length with
    | false =>
      go_wp2
      exact HEX.out _ _ _ _ _ _ _ _ _ _ _ _ _ _ _ HB2.out (fun _ => hmf)
    | true =>
      have hxh := (HB2.out.block _ hlb).trans HH.out
      have hxb := (HB2.out.block _ hlb1).trans HH1.out
      have hl9 : h0 < w2.heap.size := blk_lt hxh
      have hl8 : b1 < w2.heap.size := blk_lt hxb
      have q0 := blk_cell hxh 0
      have q1 := blk_cell hxh 1
      have q2 := blk_cell hxh 2
      have q3 := blk_cell hxh 3
      have q4 := blk_cell hxh 4
      have q5 := blk_cell hxh 5
      have q6 := blk_cell hxh 6
      simp only [List.getElem?_toArray, List.getElem?_cons_succ, List.getElem?_cons_zero] at q0 q1 q2 q3 q4 q5 q6
      have p0 := blk_cell hxb 0
      have p1 := blk_cell hxb 1
      have p2 := blk_cell hxb 2
      have p3 := blk_cell hxb 3
      have p4 := blk_cell hxb 4
      have p5 := blk_cell hxb 5
      have p6 := blk_cell hxb 6
      simp only [List.getElem?_toArray, List.getElem?_cons_succ, List.getElem?_cons_zero] at p0 p1 p2 p3 p4 p5 p6
      clear hxh hxb
      go_wp2_with fail
      refine Calls.mono (HC.out w2 HB2.out) ?_
      rintro e w3 ⟨rfl, hB3⟩
      have HB3 := Lib.hid hB3
      clear hB3 q0 q1 q2 q3 q4 q5 q6 p0 p1 p2 p3 p4 p5 p6
      go_wp2
      exact HRET.out _ _ _ _ _ _ _ _ _ _ _ _ _ _ _ _ _ _ (HB2.out.trans (HB3.out.mono HB2.out.size))

noncomputable def k27C : Code := cA (cB (cB (cB (cB (cB (cB (cB (cB (cB (cK (cA (cB (cB (cL (cK (cB (cA (cB (cB (cB (cB (cB (Try.f13.body.getD .skip)))))))))))))))))))))))
set_option maxRecDepth 1000000 in
set_option maxHeartbeats 40000000 in
theorem k27 (Q0 : Exit → Act → World → Prop) (r2 : HRes) (A2 B2 A3 B3 : Option Addr) (k2 m2 k3 m3 b2 b3 : Nat) (Y : World) (u0 u1 u2 u3 u4 u5 u6 u7 u8 u10 u11 u13 u14 u15 u16 u17 u18 u19 u20 u21 u22 u23 u24 u25 u26 u27 u28 u29 u30 u31 u32 u33 u34 u35 u36 u37 u38 u39 u40 u41 u42 u43 u44 u45 u46 u47 u48 u49 u50 u51 u52 u53 u54 u55 u56 u57 u58 u59 u60 u61 u62 u63 u64 u65 u66 u67 u68 u69 u70 u71 u72 u73 u74 u75 u76 u77 u78 u79 u80 u81 u82 u83 u84 u85 u86 u87 u88 u89 u90 u91 u92 u93 u94 u95 u96 u97 u98 u99 u100 u101 u102 u103 u104 u105 u106 u107 u108 u109 u110 u111 : Value)
    (hb2 : Y.heap[b2]? = some (.cells #[.int .i64 r2.c.page, .int .i64 r2.c.n, .int .i64 r2.c.red, .int .i64 r2.c.quarantine, .slice A2 r2.live.length k2, .slice B2 r2.quar.length m2, .int .i64 r2.gi] 26 (0, 0)))
    (hb3 : Y.heap[b3]? = some (.cells #[.int .i64 r2.c.page, .int .i64 r2.c.n, .int .i64 r2.c.red, .int .i64 r2.c.quarantine, .slice A3 r2.live.length k3, .slice B3 r2.quar.length m3, .int .i64 r2.gi] 26 (0, 0)))
    (hc : Calls Try.prog 34 #[.agg #[.int .i64 r2.c.page, .int .i64 r2.c.n, .int .i64 r2.c.red, .int .i64 r2.c.quarantine, .slice A2 r2.live.length k2, .slice B2 r2.quar.length m2, .int .i64 r2.gi], .agg #[.int .i64 r2.c.page, .int .i64 r2.c.n, .int .i64 r2.c.red, .int .i64 r2.c.quarantine, .slice A3 r2.live.length k3, .slice B3 r2.quar.length m3, .int .i64 r2.gi]] Y (fun e w' => e = .returned (.bool true) ∧ Below Y.heap.size Y w'))
    (hex : ∀ (v103 v104 v105 v106 : Value) (W' : World) , Below Y.heap.size Y W' → Q0 .normal ⟨List.toArray (u0 :: u1 :: u2 :: u3 :: u4 :: u5 :: u6 :: u7 :: u8 :: (.pointer (some ⟨b2, 0, none⟩) : Value) :: u10 :: u11 :: (.pointer (some ⟨b3, 0, none⟩) : Value) :: u13 :: u14 :: u15 :: u16 :: u17 :: u18 :: u19 :: u20 :: u21 :: u22 :: u23 :: u24 :: u25 :: u26 :: u27 :: u28 :: u29 :: u30 :: u31 :: u32 :: u33 :: u34 :: u35 :: u36 :: u37 :: u38 :: u39 :: u40 :: u41 :: u42 :: u43 :: u44 :: u45 :: u46 :: u47 :: u48 :: u49 :: u50 :: u51 :: u52 :: u53 :: u54 :: u55 :: u56 :: u57 :: u58 :: u59 :: u60 :: u61 :: u62 :: u63 :: u64 :: u65 :: u66 :: u67 :: u68 :: u69 :: u70 :: u71 :: u72 :: u73 :: u74 :: u75 :: u76 :: u77 :: u78 :: u79 :: u80 :: u81 :: u82 :: u83 :: u84 :: u85 :: u86 :: u87 :: u88 :: u89 :: u90 :: u91 :: u92 :: u93 :: u94 :: u95 :: u96 :: u97 :: u98 :: u99 :: u100 :: u101 :: u102 :: v103 :: v104 :: v105 :: v106 :: u107 :: u108 :: u109 :: u110 :: u111 :: []), []⟩ W')
    : Code.wp Try.prog k27C Q0 ⟨List.toArray (u0 :: u1 :: u2 :: u3 :: u4 :: u5 :: u6 :: u7 :: u8 :: (.pointer (some ⟨b2, 0, none⟩) : Value) :: u10 :: u11 :: (.pointer (some ⟨b3, 0, none⟩) : Value) :: u13 :: u14 :: u15 :: u16 :: u17 :: u18 :: u19 :: u20 :: u21 :: u22 :: u23 :: u24 :: u25 :: u26 :: u27 :: u28 :: u29 :: u30 :: u31 :: u32 :: u33 :: u34 :: u35 :: u36 :: u37 :: u38 :: u39 :: u40 :: u41 :: u42 :: u43 :: u44 :: u45 :: u46 :: u47 :: u48 :: u49 :: u50 :: u51 :: u52 :: u53 :: u54 :: u55 :: u56 :: u57 :: u58 :: u59 :: u60 :: u61 :: u62 :: u63 :: u64 :: u65 :: u66 :: u67 :: u68 :: u69 :: u70 :: u71 :: u72 :: u73 :: u74 :: u75 :: u76 :: u77 :: u78 :: u79 :: u80 :: u81 :: u82 :: u83 :: u84 :: u85 :: u86 :: u87 :: u88 :: u89 :: u90 :: u91 :: u92 :: u93 :: u94 :: u95 :: u96 :: u97 :: u98 :: u99 :: u100 :: u101 :: u102 :: u103 :: u104 :: u105 :: u106 :: u107 :: u108 :: u109 :: u110 :: u111 :: []), []⟩ Y := by
  have HEX := Lib.hid hex
  clear hex
  have q0 := blk_cell hb2 0
  have q1 := blk_cell hb2 1
  have q2 := blk_cell hb2 2
  have q3 := blk_cell hb2 3
  have q4 := blk_cell hb2 4
  have q5 := blk_cell hb2 5
  have q6 := blk_cell hb2 6
  simp only [List.getElem?_toArray, List.getElem?_cons_succ, List.getElem?_cons_zero] at q0 q1 q2 q3 q4 q5 q6
  have p0 := blk_cell hb3 0
  have p1 := blk_cell hb3 1
  have p2 := blk_cell hb3 2
  have p3 := blk_cell hb3 3
  have p4 := blk_cell hb3 4
  have p5 := blk_cell hb3 5
  have p6 := blk_cell hb3 6
  simp only [List.getElem?_toArray, List.getElem?_cons_succ, List.getElem?_cons_zero] at p0 p1 p2 p3 p4 p5 p6
  have HC := Lib.hid hc
  have hlb : b2 < Y.heap.size := blk_lt hb2
  have hlb1 : b3 < Y.heap.size := blk_lt hb3
  clear hb2 hb3 hc
  conv => arg 2; whnf
  go_wp2_with fail
  refine Calls.mono HC.out ?_
  rintro e w1 ⟨rfl, hB⟩
  have HB := Lib.hid hB
  clear hB HC q0 q1 q2 q3 q4 q5 q6 p0 p1 p2 p3 p4 p5 p6
  go_wp2
  exact HEX.out _ _ _ _ _ HB.out

noncomputable def k29C : Code := cA (cB (cB (cB (cB (cB (cB (cB (cB (cB (cB (cK (cA (cB (cB (cL (cK (cB (cA (cB (cB (cB (cB (cB (Try.f13.body.getD .skip))))))))))))))))))))))))
set_option maxRecDepth 1000000 in
set_option maxHeartbeats 40000000 in
theorem k29 (Q0 : Exit → Act → World → Prop) (r : HRes) (A1 B1 : Option Addr) (k1 m1 h0 b1 : Nat) (o0 o1 o2 o3 o4 o5 o6 : Value) (Y : World) (u0 u1 u3 u4 u5 u6 u7 u9 u10 u11 u12 u13 u14 u15 u16 u17 u18 u19 u20 u21 u22 u23 u24 u25 u26 u27 u28 u29 u30 u31 u32 u33 u34 u35 u36 u37 u38 u39 u40 u41 u42 u43 u44 u45 u46 u47 u48 u49 u50 u51 u52 u53 u54 u55 u56 u57 u58 u59 u60 u61 u62 u63 u64 u65 u66 u67 u68 u69 u70 u71 u72 u73 u74 u75 u76 u77 u78 u79 u80 u81 u82 u83 u84 u85 u86 u87 u88 u89 u90 u91 u92 u93 u94 u95 u96 u97 u98 u99 u100 u101 u102 u103 u104 u105 u106 u107 u108 u109 u110 u111 : Value)
    (hb : Y.heap[h0]? = some (.cells #[o0, o1, o2, o3, o4, o5, o6] 26 (0, 0)))
    (hb1 : Y.heap[b1]? = some (.cells #[.int .i64 r.c.page, .int .i64 r.c.n, .int .i64 r.c.red, .int .i64 r.c.quarantine, .slice A1 r.live.length k1, .slice B1 r.quar.length m1, .int .i64 r.gi] 26 (0, 0)))
    (hex : ∀ (v107 : Value) (W' : World) , Below h0 Y W' → W'.heap[h0]? = some (.cells #[.int .i64 r.c.page, .int .i64 r.c.n, .int .i64 r.c.red, .int .i64 r.c.quarantine, .slice A1 r.live.length k1, .slice B1 r.quar.length m1, .int .i64 r.gi] 26 (0, 0)) → W'.heap.size = Y.heap.size → (∀ j, j ≠ h0 → W'.heap[j]? = Y.heap[j]?) → Q0 .normal ⟨List.toArray (u0 :: u1 :: (.pointer (some ⟨h0, 0, none⟩) : Value) :: u3 :: u4 :: u5 :: u6 :: u7 :: (.pointer (some ⟨b1, 0, none⟩) : Value) :: u9 :: u10 :: u11 :: u12 :: u13 :: u14 :: u15 :: u16 :: u17 :: u18 :: u19 :: u20 :: u21 :: u22 :: u23 :: u24 :: u25 :: u26 :: u27 :: u28 :: u29 :: u30 :: u31 :: u32 :: u33 :: u34 :: u35 :: u36 :: u37 :: u38 :: u39 :: u40 :: u41 :: u42 :: u43 :: u44 :: u45 :: u46 :: u47 :: u48 :: u49 :: u50 :: u51 :: u52 :: u53 :: u54 :: u55 :: u56 :: u57 :: u58 :: u59 :: u60 :: u61 :: u62 :: u63 :: u64 :: u65 :: u66 :: u67 :: u68 :: u69 :: u70 :: u71 :: u72 :: u73 :: u74 :: u75 :: u76 :: u77 :: u78 :: u79 :: u80 :: u81 :: u82 :: u83 :: u84 :: u85 :: u86 :: u87 :: u88 :: u89 :: u90 :: u91 :: u92 :: u93 :: u94 :: u95 :: u96 :: u97 :: u98 :: u99 :: u100 :: u101 :: u102 :: u103 :: u104 :: u105 :: u106 :: v107 :: u108 :: u109 :: u110 :: u111 :: []), []⟩ W')
    : Code.wp Try.prog k29C Q0 ⟨List.toArray (u0 :: u1 :: (.pointer (some ⟨h0, 0, none⟩) : Value) :: u3 :: u4 :: u5 :: u6 :: u7 :: (.pointer (some ⟨b1, 0, none⟩) : Value) :: u9 :: u10 :: u11 :: u12 :: u13 :: u14 :: u15 :: u16 :: u17 :: u18 :: u19 :: u20 :: u21 :: u22 :: u23 :: u24 :: u25 :: u26 :: u27 :: u28 :: u29 :: u30 :: u31 :: u32 :: u33 :: u34 :: u35 :: u36 :: u37 :: u38 :: u39 :: u40 :: u41 :: u42 :: u43 :: u44 :: u45 :: u46 :: u47 :: u48 :: u49 :: u50 :: u51 :: u52 :: u53 :: u54 :: u55 :: u56 :: u57 :: u58 :: u59 :: u60 :: u61 :: u62 :: u63 :: u64 :: u65 :: u66 :: u67 :: u68 :: u69 :: u70 :: u71 :: u72 :: u73 :: u74 :: u75 :: u76 :: u77 :: u78 :: u79 :: u80 :: u81 :: u82 :: u83 :: u84 :: u85 :: u86 :: u87 :: u88 :: u89 :: u90 :: u91 :: u92 :: u93 :: u94 :: u95 :: u96 :: u97 :: u98 :: u99 :: u100 :: u101 :: u102 :: u103 :: u104 :: u105 :: u106 :: u107 :: u108 :: u109 :: u110 :: u111 :: []), []⟩ Y := by
  have HEX := Lib.hid hex
  clear hex
  have q0 := blk_cell hb 0
  have q1 := blk_cell hb 1
  have q2 := blk_cell hb 2
  have q3 := blk_cell hb 3
  have q4 := blk_cell hb 4
  have q5 := blk_cell hb 5
  have q6 := blk_cell hb 6
  have f0 : Y.frozen? ⟨h0, 0, none⟩ = false := frozen_of_row _ _ _ _ _ hb
  have f1 : Y.frozen? ⟨h0, 1, none⟩ = false := frozen_of_row _ _ _ _ _ hb
  have f2 : Y.frozen? ⟨h0, 2, none⟩ = false := frozen_of_row _ _ _ _ _ hb
  have f3 : Y.frozen? ⟨h0, 3, none⟩ = false := frozen_of_row _ _ _ _ _ hb
  have f4 : Y.frozen? ⟨h0, 4, none⟩ = false := frozen_of_row _ _ _ _ _ hb
  have f5 : Y.frozen? ⟨h0, 5, none⟩ = false := frozen_of_row _ _ _ _ _ hb
  have f6 : Y.frozen? ⟨h0, 6, none⟩ = false := frozen_of_row _ _ _ _ _ hb
  simp only [List.getElem?_toArray, List.getElem?_cons_succ, List.getElem?_cons_zero] at q0 q1 q2 q3 q4 q5 q6
  have p0 := blk_cell hb1 0
  have p1 := blk_cell hb1 1
  have p2 := blk_cell hb1 2
  have p3 := blk_cell hb1 3
  have p4 := blk_cell hb1 4
  have p5 := blk_cell hb1 5
  have p6 := blk_cell hb1 6
  simp only [List.getElem?_toArray, List.getElem?_cons_succ, List.getElem?_cons_zero] at p0 p1 p2 p3 p4 p5 p6
  have HB := Lib.hid hb
  have hlb : h0 < Y.heap.size := blk_lt hb
  have hlb1 : b1 < Y.heap.size := blk_lt hb1
  clear hb hb1
  conv => arg 2; whnf
  go_wp2
  obtain ⟨t1, t2, t3, t4⟩ := store7 HB.out (.int .i64 r.c.page) (.int .i64 r.c.n) (.int .i64 r.c.red) (.int .i64 r.c.quarantine) (.slice A1 r.live.length k1) (.slice B1 r.quar.length m1) (.int .i64 r.gi)
  exact HEX.out _ _ t1 t2 t3 t4

noncomputable def k30C : Code := cB (cB (cB (cB (cB (cB (cB (cB (cB (cB (cB (cK (cA (cB (cB (cL (cK (cB (cA (cB (cB (cB (cB (cB (Try.f13.body.getD .skip))))))))))))))))))))))))
set_option maxRecDepth 1000000 in
set_option maxHeartbeats 40000000 in
theorem k30 (Q0 : Exit → Act → World → Prop) (err : Int) (r : HRes) (A1 B1 : Option Addr) (k1 m1 h0 b1 : Nat) (o0 o1 o2 o3 o4 o5 o6 : Value) (Y : World) (u0 u1 u3 u4 u5 u6 u7 u8 u9 u10 u13 u14 u15 u16 u17 u18 u19 u20 u21 u22 u23 u24 u25 u26 u27 u28 u29 u30 u31 u32 u33 u34 u35 u36 u37 u38 u39 u40 u41 u42 u43 u44 u45 u46 u47 u48 u49 u50 u51 u52 u53 u54 u55 u56 u57 u58 u59 u60 u61 u62 u63 u64 u65 u66 u67 u68 u69 u70 u71 u72 u73 u74 u75 u76 u77 u78 u79 u80 u81 u82 u83 u84 u85 u86 u87 u88 u89 u90 u91 u92 u93 u94 u95 u96 u97 u98 u99 u100 u101 u102 u103 u104 u105 u106 u107 u108 u109 u110 u111 : Value)
    (hb : Y.heap[h0]? = some (.cells #[o0, o1, o2, o3, o4, o5, o6] 26 (0, 0)))
    (hb1 : Y.heap[b1]? = some (.cells #[.int .i64 r.c.page, .int .i64 r.c.n, .int .i64 r.c.red, .int .i64 r.c.quarantine, .slice A1 r.live.length k1, .slice B1 r.quar.length m1, .int .i64 r.gi] 26 (0, 0)))
    (hex : ∀ (v108 v109 v110 : Value) (W' : World) , (err = 0 ∧ Below h0 Y W' ∧ W'.heap[h0]? = some (.cells #[.int .i64 r.c.page, .int .i64 r.c.n, .int .i64 r.c.red, .int .i64 r.c.quarantine, .slice A1 r.live.length k1, .slice B1 r.quar.length m1, .int .i64 r.gi] 26 (0, 0)) ∧ W'.heap.size = Y.heap.size ∧ (∀ j, j ≠ h0 → W'.heap[j]? = Y.heap[j]?)) ∨ (err ≠ 0 ∧ W' = Y) → Q0 .normal ⟨List.toArray (u0 :: u1 :: (.pointer (some ⟨h0, 0, none⟩) : Value) :: u3 :: u4 :: u5 :: u6 :: u7 :: u8 :: u9 :: u10 :: (.int .i64 err : Value) :: (.pointer (some ⟨b1, 0, none⟩) : Value) :: u13 :: u14 :: u15 :: u16 :: u17 :: u18 :: u19 :: u20 :: u21 :: u22 :: u23 :: u24 :: u25 :: u26 :: u27 :: u28 :: u29 :: u30 :: u31 :: u32 :: u33 :: u34 :: u35 :: u36 :: u37 :: u38 :: u39 :: u40 :: u41 :: u42 :: u43 :: u44 :: u45 :: u46 :: u47 :: u48 :: u49 :: u50 :: u51 :: u52 :: u53 :: u54 :: u55 :: u56 :: u57 :: u58 :: u59 :: u60 :: u61 :: u62 :: u63 :: u64 :: u65 :: u66 :: u67 :: u68 :: u69 :: u70 :: u71 :: u72 :: u73 :: u74 :: u75 :: u76 :: u77 :: u78 :: u79 :: u80 :: u81 :: u82 :: u83 :: u84 :: u85 :: u86 :: u87 :: u88 :: u89 :: u90 :: u91 :: u92 :: u93 :: u94 :: u95 :: u96 :: u97 :: u98 :: u99 :: u100 :: u101 :: u102 :: u103 :: u104 :: u105 :: u106 :: u107 :: v108 :: v109 :: v110 :: u111 :: []), []⟩ W')
    : Code.wp Try.prog k30C Q0 ⟨List.toArray (u0 :: u1 :: (.pointer (some ⟨h0, 0, none⟩) : Value) :: u3 :: u4 :: u5 :: u6 :: u7 :: u8 :: u9 :: u10 :: (.int .i64 err : Value) :: (.pointer (some ⟨b1, 0, none⟩) : Value) :: u13 :: u14 :: u15 :: u16 :: u17 :: u18 :: u19 :: u20 :: u21 :: u22 :: u23 :: u24 :: u25 :: u26 :: u27 :: u28 :: u29 :: u30 :: u31 :: u32 :: u33 :: u34 :: u35 :: u36 :: u37 :: u38 :: u39 :: u40 :: u41 :: u42 :: u43 :: u44 :: u45 :: u46 :: u47 :: u48 :: u49 :: u50 :: u51 :: u52 :: u53 :: u54 :: u55 :: u56 :: u57 :: u58 :: u59 :: u60 :: u61 :: u62 :: u63 :: u64 :: u65 :: u66 :: u67 :: u68 :: u69 :: u70 :: u71 :: u72 :: u73 :: u74 :: u75 :: u76 :: u77 :: u78 :: u79 :: u80 :: u81 :: u82 :: u83 :: u84 :: u85 :: u86 :: u87 :: u88 :: u89 :: u90 :: u91 :: u92 :: u93 :: u94 :: u95 :: u96 :: u97 :: u98 :: u99 :: u100 :: u101 :: u102 :: u103 :: u104 :: u105 :: u106 :: u107 :: u108 :: u109 :: u110 :: u111 :: []), []⟩ Y := by
  have HEX := Lib.hid hex
  clear hex
  have q0 := blk_cell hb 0
  have q1 := blk_cell hb 1
  have q2 := blk_cell hb 2
  have q3 := blk_cell hb 3
  have q4 := blk_cell hb 4
  have q5 := blk_cell hb 5
  have q6 := blk_cell hb 6
  have f0 : Y.frozen? ⟨h0, 0, none⟩ = false := frozen_of_row _ _ _ _ _ hb
  have f1 : Y.frozen? ⟨h0, 1, none⟩ = false := frozen_of_row _ _ _ _ _ hb
  have f2 : Y.frozen? ⟨h0, 2, none⟩ = false := frozen_of_row _ _ _ _ _ hb
  have f3 : Y.frozen? ⟨h0, 3, none⟩ = false := frozen_of_row _ _ _ _ _ hb
  have f4 : Y.frozen? ⟨h0, 4, none⟩ = false := frozen_of_row _ _ _ _ _ hb
  have f5 : Y.frozen? ⟨h0, 5, none⟩ = false := frozen_of_row _ _ _ _ _ hb
  have f6 : Y.frozen? ⟨h0, 6, none⟩ = false := frozen_of_row _ _ _ _ _ hb
  simp only [List.getElem?_toArray, List.getElem?_cons_succ, List.getElem?_cons_zero] at q0 q1 q2 q3 q4 q5 q6
  have p0 := blk_cell hb1 0
  have p1 := blk_cell hb1 1
  have p2 := blk_cell hb1 2
  have p3 := blk_cell hb1 3
  have p4 := blk_cell hb1 4
  have p5 := blk_cell hb1 5
  have p6 := blk_cell hb1 6
  simp only [List.getElem?_toArray, List.getElem?_cons_succ, List.getElem?_cons_zero] at p0 p1 p2 p3 p4 p5 p6
  have HB := Lib.hid hb
  have hlb : h0 < Y.heap.size := blk_lt hb
  have hlb1 : b1 < Y.heap.size := blk_lt hb1
  clear hb hb1
  by_cases he : err = 0
  · subst he
    conv => arg 2; whnf
    go_wp2
    obtain ⟨t1, t2, t3, t4⟩ := store7 HB.out (.int .i64 r.c.page) (.int .i64 r.c.n) (.int .i64 r.c.red) (.int .i64 r.c.quarantine) (.slice A1 r.live.length k1) (.slice B1 r.quar.length m1) (.int .i64 r.gi)
    exact HEX.out _ _ _ _ (.inl ⟨trivial, t1, t2, t3, t4⟩)
  · have he' : (err == 0) = false := by simpa using he
    conv => arg 2; whnf
    go_wp2
    exact HEX.out _ _ _ _ (.inr ⟨he, rfl⟩)

end Go.Proofs.Ytbhbjcgbhklieaa
