/- sane: the chapter's examples hold. -/
import Derived.Test.YtbhbjcgbhklieaaE11
namespace Go.Proofs.Ytbhbjcgbhklieaa
open Go.RowKit Go.Shelf

theorem fresh_nil (N : Nat) (w : World) : Fresh N w (.slice none 0 0) [] := ⟨⟨none, 0, rfl, Nat.le_refl _, .inl rfl⟩, fun _ _ _ e => by cases e⟩

set_option maxRecDepth 100000 in
set_option maxHeartbeats 4000000 in
theorem c16 (w : World) : Calls Try.prog 16 #[] w fun e w' => e = .returned (.bool true) ∧ Below w.heap.size w w' := by
  go_enter Try.func16, Try.ntmps16
  go_wp2_with fail
  refine Calls.mono (c30 cS w) ?_
  rintro e w1 ⟨hB1, ⟨h, _⟩ | ⟨_, rfl⟩⟩
  · exact absurd h (by decide)
  go_wp2_with fail
  refine gen_worldC (fun W => St w W w1.heap.size [] [] 0 none 0 0 none 0 0) ⟨hB1.alloc hB1.size _, hB1.size, hal_new rfl, fresh_nil _ _, fresh_nil _ _⟩ ?_
  rintro W1 st1
  refine Calls.mono (gives_at st1 kn0 (size := 10) (v := 264) (gi' := 1) (live' := [p1]) (by decide) (by decide) (by decide) (by decide) (by decide)) ?_
  rintro e v1 ⟨A1, n1, k1, C1, m1, d1, rfl, nx⟩
  have sn1 := st1.next (gi' := 1) nx
  have sb1 := st1.below nx.bel
  clear nx st1
  have SN1 := Lib.hid sn1
  clear sn1
  have hb1 := sb1.box
  have q0 := blk_cell hb1 0
  have f0 : v1.frozen? ⟨w1.heap.size, 0, none⟩ = false := frozen_of_row _ _ _ _ _ hb1
  have q1 := blk_cell hb1 1
  have f1 : v1.frozen? ⟨w1.heap.size, 1, none⟩ = false := frozen_of_row _ _ _ _ _ hb1
  have q2 := blk_cell hb1 2
  have f2 : v1.frozen? ⟨w1.heap.size, 2, none⟩ = false := frozen_of_row _ _ _ _ _ hb1
  have q3 := blk_cell hb1 3
  have f3 : v1.frozen? ⟨w1.heap.size, 3, none⟩ = false := frozen_of_row _ _ _ _ _ hb1
  have q4 := blk_cell hb1 4
  have f4 : v1.frozen? ⟨w1.heap.size, 4, none⟩ = false := frozen_of_row _ _ _ _ _ hb1
  have q5 := blk_cell hb1 5
  have f5 : v1.frozen? ⟨w1.heap.size, 5, none⟩ = false := frozen_of_row _ _ _ _ _ hb1
  have q6 := blk_cell hb1 6
  have f6 : v1.frozen? ⟨w1.heap.size, 6, none⟩ = false := frozen_of_row _ _ _ _ _ hb1
  simp only [List.getElem?_toArray, List.getElem?_cons_succ, List.getElem?_cons_zero] at q0 q1 q2 q3 q4 q5 q6
  have hlt1 : w1.heap.size < v1.heap.size := blk_lt hb1
  have HST1 := Lib.hid sb1
  clear sb1 hb1
  go_wp2_with fail
  refine gen_worldC (fun W => St w W w1.heap.size [p1] [] 1 A1 n1 k1 C1 m1 d1) SN1.out ?_
  rintro W2 st2
  refine Calls.mono (gives_at st2 kn1 (size := 0) (v := 296) (gi' := 2) (live' := [p1, p2]) (by decide) (by decide) (by decide) (by decide) (by decide)) ?_
  rintro e v2 ⟨A2, n2, k2, C2, m2, d2, rfl, nx⟩
  have sn2 := st2.next (gi' := 2) nx
  have sb2 := st2.below nx.bel
  clear nx st2
  have SN2 := Lib.hid sn2
  clear sn2
  have hb2 := sb2.box
  have q0 := blk_cell hb2 0
  have f0 : v2.frozen? ⟨w1.heap.size, 0, none⟩ = false := frozen_of_row _ _ _ _ _ hb2
  have q1 := blk_cell hb2 1
  have f1 : v2.frozen? ⟨w1.heap.size, 1, none⟩ = false := frozen_of_row _ _ _ _ _ hb2
  have q2 := blk_cell hb2 2
  have f2 : v2.frozen? ⟨w1.heap.size, 2, none⟩ = false := frozen_of_row _ _ _ _ _ hb2
  have q3 := blk_cell hb2 3
  have f3 : v2.frozen? ⟨w1.heap.size, 3, none⟩ = false := frozen_of_row _ _ _ _ _ hb2
  have q4 := blk_cell hb2 4
  have f4 : v2.frozen? ⟨w1.heap.size, 4, none⟩ = false := frozen_of_row _ _ _ _ _ hb2
  have q5 := blk_cell hb2 5
  have f5 : v2.frozen? ⟨w1.heap.size, 5, none⟩ = false := frozen_of_row _ _ _ _ _ hb2
  have q6 := blk_cell hb2 6
  have f6 : v2.frozen? ⟨w1.heap.size, 6, none⟩ = false := frozen_of_row _ _ _ _ _ hb2
  simp only [List.getElem?_toArray, List.getElem?_cons_succ, List.getElem?_cons_zero] at q0 q1 q2 q3 q4 q5 q6
  have hlt2 : w1.heap.size < v2.heap.size := blk_lt hb2
  have HST2 := Lib.hid sb2
  clear sb2 hb2
  go_wp2_with fail
  refine gen_worldC (fun W => St w W w1.heap.size [p1, p2] [] 2 A2 n2 k2 C2 m2 d2) SN2.out ?_
  rintro W3 st3
  refine Calls.mono (gives_at st3 kn2 (size := 100) (v := 320) (gi' := 3) (live' := [p1, p2, p3]) (by decide) (by decide) (by decide) (by decide) (by decide)) ?_
  rintro e v3 ⟨A3, n3, k3, C3, m3, d3, rfl, nx⟩
  have sn3 := st3.next (gi' := 3) nx
  have sb3 := st3.below nx.bel
  clear nx st3
  have SN3 := Lib.hid sn3
  clear sn3
  have hb3 := sb3.box
  have q0 := blk_cell hb3 0
  have f0 : v3.frozen? ⟨w1.heap.size, 0, none⟩ = false := frozen_of_row _ _ _ _ _ hb3
  have q1 := blk_cell hb3 1
  have f1 : v3.frozen? ⟨w1.heap.size, 1, none⟩ = false := frozen_of_row _ _ _ _ _ hb3
  have q2 := blk_cell hb3 2
  have f2 : v3.frozen? ⟨w1.heap.size, 2, none⟩ = false := frozen_of_row _ _ _ _ _ hb3
  have q3 := blk_cell hb3 3
  have f3 : v3.frozen? ⟨w1.heap.size, 3, none⟩ = false := frozen_of_row _ _ _ _ _ hb3
  have q4 := blk_cell hb3 4
  have f4 : v3.frozen? ⟨w1.heap.size, 4, none⟩ = false := frozen_of_row _ _ _ _ _ hb3
  have q5 := blk_cell hb3 5
  have f5 : v3.frozen? ⟨w1.heap.size, 5, none⟩ = false := frozen_of_row _ _ _ _ _ hb3
  have q6 := blk_cell hb3 6
  have f6 : v3.frozen? ⟨w1.heap.size, 6, none⟩ = false := frozen_of_row _ _ _ _ _ hb3
  simp only [List.getElem?_toArray, List.getElem?_cons_succ, List.getElem?_cons_zero] at q0 q1 q2 q3 q4 q5 q6
  have hlt3 : w1.heap.size < v3.heap.size := blk_lt hb3
  have HST3 := Lib.hid sb3
  clear sb3 hb3
  go_wp2_with fail
  refine gen_worldC (fun W => St w W w1.heap.size [p1, p2, p3] [] 3 A3 n3 k3 C3 m3 d3) SN3.out ?_
  rintro W4 st4
  refine Calls.mono (gaps_at st4 kn3 (l := [(282, 6), (305, 7), (428, 84)]) (by decide)) ?_
  rintro e v4 ⟨⟨GA, gc, rfl, hgs⟩, hbe⟩
  have sv4 := st4.below hbe
  clear hbe st4
  have hb4 := sv4.box
  have q0 := blk_cell hb4 0
  have f0 : v4.frozen? ⟨w1.heap.size, 0, none⟩ = false := frozen_of_row _ _ _ _ _ hb4
  have q1 := blk_cell hb4 1
  have f1 : v4.frozen? ⟨w1.heap.size, 1, none⟩ = false := frozen_of_row _ _ _ _ _ hb4
  have q2 := blk_cell hb4 2
  have f2 : v4.frozen? ⟨w1.heap.size, 2, none⟩ = false := frozen_of_row _ _ _ _ _ hb4
  have q3 := blk_cell hb4 3
  have f3 : v4.frozen? ⟨w1.heap.size, 3, none⟩ = false := frozen_of_row _ _ _ _ _ hb4
  have q4 := blk_cell hb4 4
  have f4 : v4.frozen? ⟨w1.heap.size, 4, none⟩ = false := frozen_of_row _ _ _ _ _ hb4
  have q5 := blk_cell hb4 5
  have f5 : v4.frozen? ⟨w1.heap.size, 5, none⟩ = false := frozen_of_row _ _ _ _ _ hb4
  have q6 := blk_cell hb4 6
  have f6 : v4.frozen? ⟨w1.heap.size, 6, none⟩ = false := frozen_of_row _ _ _ _ _ hb4
  simp only [List.getElem?_toArray, List.getElem?_cons_succ, List.getElem?_cons_zero] at q0 q1 q2 q3 q4 q5 q6
  have hlt4 : w1.heap.size < v4.heap.size := blk_lt hb4
  have HST4 := Lib.hid sv4
  clear sv4 hb4
  have HGS := Lib.hid hgs
  clear hgs
  have hsl2 : Sl 2 encN (v4.alloc (.cells #[.int .u32 282, .int .i64 6, .int .u32 305, .int .i64 7, .int .u32 428, .int .i64 84] 53)) (.slice (some ⟨v4.heap.size, 0, none⟩) 3 3) [(282, 6), (305, 7), (428, 84)] := ⟨_, 3, rfl, by decide, .inr ⟨_, 0, rfl, by simp, fun j hj i v hv => by
    rw [show (v4.alloc (.cells #[.int .u32 282, .int .i64 6, .int .u32 305, .int .i64 7, .int .u32 428, .int .i64 84] 53)).cell? ⟨v4.heap.size, 0 + j * 2 + i, none⟩ = _ from blk_cell (hal_new rfl) _]
    rcases j with _ | _ | _ | j <;> rcases i with _ | _ | i <;> simp_all [encN]
    all_goals omega⟩⟩
  have h39 := c39v _ _ _ _ _ (by decide) (by decide) (HGS.out.below (below_alloc1 v4 (.cells #[.int .u32 282, .int .i64 6, .int .u32 305, .int .i64 7, .int .u32 428, .int .i64 84] 53))) hsl2
  rw [decide_eq_true rfl] at h39
  have H39 := Lib.hid h39
  clear h39 hsl2
  go_wp2_with fail
  refine Calls.mono H39.out ?_
  clear H39
  rintro e v39 ⟨rfl, hbe⟩
  have sv39 := (HST4.out.below (below_alloc1 v4 _)).below hbe
  clear hbe
  have hb39 := sv39.box
  have q0 := blk_cell hb39 0
  have f0 : v39.frozen? ⟨w1.heap.size, 0, none⟩ = false := frozen_of_row _ _ _ _ _ hb39
  have q1 := blk_cell hb39 1
  have f1 : v39.frozen? ⟨w1.heap.size, 1, none⟩ = false := frozen_of_row _ _ _ _ _ hb39
  have q2 := blk_cell hb39 2
  have f2 : v39.frozen? ⟨w1.heap.size, 2, none⟩ = false := frozen_of_row _ _ _ _ _ hb39
  have q3 := blk_cell hb39 3
  have f3 : v39.frozen? ⟨w1.heap.size, 3, none⟩ = false := frozen_of_row _ _ _ _ _ hb39
  have q4 := blk_cell hb39 4
  have f4 : v39.frozen? ⟨w1.heap.size, 4, none⟩ = false := frozen_of_row _ _ _ _ _ hb39
  have q5 := blk_cell hb39 5
  have f5 : v39.frozen? ⟨w1.heap.size, 5, none⟩ = false := frozen_of_row _ _ _ _ _ hb39
  have q6 := blk_cell hb39 6
  have f6 : v39.frozen? ⟨w1.heap.size, 6, none⟩ = false := frozen_of_row _ _ _ _ _ hb39
  simp only [List.getElem?_toArray, List.getElem?_cons_succ, List.getElem?_cons_zero] at q0 q1 q2 q3 q4 q5 q6
  have hlt39 : w1.heap.size < v39.heap.size := blk_lt hb39
  have HST39 := Lib.hid sv39
  clear sv39 hb39
  go_wp2_with fail
  refine gen_worldC (fun W => St w W w1.heap.size [p1, p2, p3] [] 3 A3 n3 k3 C3 m3 d3) HST39.out ?_
  rintro W40 st40
  refine Calls.mono (stat_at st40 kn3 (v := .agg #[.int .i64 3, .int .i64 110, .int .i64 0, .int .i64 0, .int .i64 3, .int .i64 97, .int .i64 64]) (by kernel_rfl)) ?_
  rintro e v40 ⟨rfl, hbe⟩
  have sv40 := st40.below hbe
  clear hbe st40
  have hb40 := sv40.box
  have q0 := blk_cell hb40 0
  have f0 : v40.frozen? ⟨w1.heap.size, 0, none⟩ = false := frozen_of_row _ _ _ _ _ hb40
  have q1 := blk_cell hb40 1
  have f1 : v40.frozen? ⟨w1.heap.size, 1, none⟩ = false := frozen_of_row _ _ _ _ _ hb40
  have q2 := blk_cell hb40 2
  have f2 : v40.frozen? ⟨w1.heap.size, 2, none⟩ = false := frozen_of_row _ _ _ _ _ hb40
  have q3 := blk_cell hb40 3
  have f3 : v40.frozen? ⟨w1.heap.size, 3, none⟩ = false := frozen_of_row _ _ _ _ _ hb40
  have q4 := blk_cell hb40 4
  have f4 : v40.frozen? ⟨w1.heap.size, 4, none⟩ = false := frozen_of_row _ _ _ _ _ hb40
  have q5 := blk_cell hb40 5
  have f5 : v40.frozen? ⟨w1.heap.size, 5, none⟩ = false := frozen_of_row _ _ _ _ _ hb40
  have q6 := blk_cell hb40 6
  have f6 : v40.frozen? ⟨w1.heap.size, 6, none⟩ = false := frozen_of_row _ _ _ _ _ hb40
  simp only [List.getElem?_toArray, List.getElem?_cons_succ, List.getElem?_cons_zero] at q0 q1 q2 q3 q4 q5 q6
  have hlt40 : w1.heap.size < v40.heap.size := blk_lt hb40
  have HST40 := Lib.hid sv40
  clear sv40 hb40
  go_wp2_with fail
  refine gen_worldC (fun W => St w W w1.heap.size [p1, p2, p3] [] 3 A3 n3 k3 C3 m3 d3) HST40.out ?_
  rintro W41 st41
  refine Calls.mono (find_at st41 kn3 (a := 263) (x := 2) (y := 0) (z := (-1)) (by decide) (by decide) (by decide)) ?_
  rintro e v41 ⟨rfl, hbe⟩
  have sv41 := st41.below hbe
  clear hbe st41
  have hb41 := sv41.box
  have q0 := blk_cell hb41 0
  have f0 : v41.frozen? ⟨w1.heap.size, 0, none⟩ = false := frozen_of_row _ _ _ _ _ hb41
  have q1 := blk_cell hb41 1
  have f1 : v41.frozen? ⟨w1.heap.size, 1, none⟩ = false := frozen_of_row _ _ _ _ _ hb41
  have q2 := blk_cell hb41 2
  have f2 : v41.frozen? ⟨w1.heap.size, 2, none⟩ = false := frozen_of_row _ _ _ _ _ hb41
  have q3 := blk_cell hb41 3
  have f3 : v41.frozen? ⟨w1.heap.size, 3, none⟩ = false := frozen_of_row _ _ _ _ _ hb41
  have q4 := blk_cell hb41 4
  have f4 : v41.frozen? ⟨w1.heap.size, 4, none⟩ = false := frozen_of_row _ _ _ _ _ hb41
  have q5 := blk_cell hb41 5
  have f5 : v41.frozen? ⟨w1.heap.size, 5, none⟩ = false := frozen_of_row _ _ _ _ _ hb41
  have q6 := blk_cell hb41 6
  have f6 : v41.frozen? ⟨w1.heap.size, 6, none⟩ = false := frozen_of_row _ _ _ _ _ hb41
  simp only [List.getElem?_toArray, List.getElem?_cons_succ, List.getElem?_cons_zero] at q0 q1 q2 q3 q4 q5 q6
  have hlt41 : w1.heap.size < v41.heap.size := blk_lt hb41
  have HST41 := Lib.hid sv41
  clear sv41 hb41
  go_wp2_with fail
  refine gen_worldC (fun W => St w W w1.heap.size [p1, p2, p3] [] 3 A3 n3 k3 C3 m3 d3) HST41.out ?_
  rintro W42 st42
  refine Calls.mono (find_at st42 kn3 (a := 264) (x := 1) (y := 0) (z := 0) (by decide) (by decide) (by decide)) ?_
  rintro e v42 ⟨rfl, hbe⟩
  have sv42 := st42.below hbe
  clear hbe st42
  have hb42 := sv42.box
  have q0 := blk_cell hb42 0
  have f0 : v42.frozen? ⟨w1.heap.size, 0, none⟩ = false := frozen_of_row _ _ _ _ _ hb42
  have q1 := blk_cell hb42 1
  have f1 : v42.frozen? ⟨w1.heap.size, 1, none⟩ = false := frozen_of_row _ _ _ _ _ hb42
  have q2 := blk_cell hb42 2
  have f2 : v42.frozen? ⟨w1.heap.size, 2, none⟩ = false := frozen_of_row _ _ _ _ _ hb42
  have q3 := blk_cell hb42 3
  have f3 : v42.frozen? ⟨w1.heap.size, 3, none⟩ = false := frozen_of_row _ _ _ _ _ hb42
  have q4 := blk_cell hb42 4
  have f4 : v42.frozen? ⟨w1.heap.size, 4, none⟩ = false := frozen_of_row _ _ _ _ _ hb42
  have q5 := blk_cell hb42 5
  have f5 : v42.frozen? ⟨w1.heap.size, 5, none⟩ = false := frozen_of_row _ _ _ _ _ hb42
  have q6 := blk_cell hb42 6
  have f6 : v42.frozen? ⟨w1.heap.size, 6, none⟩ = false := frozen_of_row _ _ _ _ _ hb42
  simp only [List.getElem?_toArray, List.getElem?_cons_succ, List.getElem?_cons_zero] at q0 q1 q2 q3 q4 q5 q6
  have hlt42 : w1.heap.size < v42.heap.size := blk_lt hb42
  have HST42 := Lib.hid sv42
  clear sv42 hb42
  go_wp2_with fail
  refine gen_worldC (fun W => St w W w1.heap.size [p1, p2, p3] [] 3 A3 n3 k3 C3 m3 d3) HST42.out ?_
  rintro W43 st43
  refine Calls.mono (find_at st43 kn3 (a := 296) (x := 2) (y := 1) (z := 0) (by decide) (by decide) (by decide)) ?_
  rintro e v43 ⟨rfl, hbe⟩
  have sv43 := st43.below hbe
  clear hbe st43
  have hb43 := sv43.box
  have q0 := blk_cell hb43 0
  have f0 : v43.frozen? ⟨w1.heap.size, 0, none⟩ = false := frozen_of_row _ _ _ _ _ hb43
  have q1 := blk_cell hb43 1
  have f1 : v43.frozen? ⟨w1.heap.size, 1, none⟩ = false := frozen_of_row _ _ _ _ _ hb43
  have q2 := blk_cell hb43 2
  have f2 : v43.frozen? ⟨w1.heap.size, 2, none⟩ = false := frozen_of_row _ _ _ _ _ hb43
  have q3 := blk_cell hb43 3
  have f3 : v43.frozen? ⟨w1.heap.size, 3, none⟩ = false := frozen_of_row _ _ _ _ _ hb43
  have q4 := blk_cell hb43 4
  have f4 : v43.frozen? ⟨w1.heap.size, 4, none⟩ = false := frozen_of_row _ _ _ _ _ hb43
  have q5 := blk_cell hb43 5
  have f5 : v43.frozen? ⟨w1.heap.size, 5, none⟩ = false := frozen_of_row _ _ _ _ _ hb43
  have q6 := blk_cell hb43 6
  have f6 : v43.frozen? ⟨w1.heap.size, 6, none⟩ = false := frozen_of_row _ _ _ _ _ hb43
  simp only [List.getElem?_toArray, List.getElem?_cons_succ, List.getElem?_cons_zero] at q0 q1 q2 q3 q4 q5 q6
  have hlt43 : w1.heap.size < v43.heap.size := blk_lt hb43
  have HST43 := Lib.hid sv43
  clear sv43 hb43
  go_wp2_with fail
  refine gen_worldC (fun W => St w W w1.heap.size [p1, p2, p3] [] 3 A3 n3 k3 C3 m3 d3) HST43.out ?_
  rintro W44 st44
  refine Calls.mono (find_at st44 kn3 (a := 430) (x := 0) (y := 0) (z := 0) (by decide) (by decide) (by decide)) ?_
  rintro e v44 ⟨rfl, hbe⟩
  have sv44 := st44.below hbe
  clear hbe st44
  have hb44 := sv44.box
  have q0 := blk_cell hb44 0
  have f0 : v44.frozen? ⟨w1.heap.size, 0, none⟩ = false := frozen_of_row _ _ _ _ _ hb44
  have q1 := blk_cell hb44 1
  have f1 : v44.frozen? ⟨w1.heap.size, 1, none⟩ = false := frozen_of_row _ _ _ _ _ hb44
  have q2 := blk_cell hb44 2
  have f2 : v44.frozen? ⟨w1.heap.size, 2, none⟩ = false := frozen_of_row _ _ _ _ _ hb44
  have q3 := blk_cell hb44 3
  have f3 : v44.frozen? ⟨w1.heap.size, 3, none⟩ = false := frozen_of_row _ _ _ _ _ hb44
  have q4 := blk_cell hb44 4
  have f4 : v44.frozen? ⟨w1.heap.size, 4, none⟩ = false := frozen_of_row _ _ _ _ _ hb44
  have q5 := blk_cell hb44 5
  have f5 : v44.frozen? ⟨w1.heap.size, 5, none⟩ = false := frozen_of_row _ _ _ _ _ hb44
  have q6 := blk_cell hb44 6
  have f6 : v44.frozen? ⟨w1.heap.size, 6, none⟩ = false := frozen_of_row _ _ _ _ _ hb44
  simp only [List.getElem?_toArray, List.getElem?_cons_succ, List.getElem?_cons_zero] at q0 q1 q2 q3 q4 q5 q6
  have hlt44 : w1.heap.size < v44.heap.size := blk_lt hb44
  have HST44 := Lib.hid sv44
  clear sv44 hb44
  go_wp2_with fail
  refine gen_worldC (fun W => St w W w1.heap.size [p1, p2, p3] [] 3 A3 n3 k3 C3 m3 d3) HST44.out ?_
  rintro W45 st45
  refine Calls.mono (outside_at st45 kn3 (a := 264) (n := 20) (v := 274) (by decide) (by decide) (by decide) (by decide) (by decide)) ?_
  rintro e v45 ⟨rfl, hbe⟩
  have sv45 := st45.below hbe
  clear hbe st45
  have hb45 := sv45.box
  have q0 := blk_cell hb45 0
  have f0 : v45.frozen? ⟨w1.heap.size, 0, none⟩ = false := frozen_of_row _ _ _ _ _ hb45
  have q1 := blk_cell hb45 1
  have f1 : v45.frozen? ⟨w1.heap.size, 1, none⟩ = false := frozen_of_row _ _ _ _ _ hb45
  have q2 := blk_cell hb45 2
  have f2 : v45.frozen? ⟨w1.heap.size, 2, none⟩ = false := frozen_of_row _ _ _ _ _ hb45
  have q3 := blk_cell hb45 3
  have f3 : v45.frozen? ⟨w1.heap.size, 3, none⟩ = false := frozen_of_row _ _ _ _ _ hb45
  have q4 := blk_cell hb45 4
  have f4 : v45.frozen? ⟨w1.heap.size, 4, none⟩ = false := frozen_of_row _ _ _ _ _ hb45
  have q5 := blk_cell hb45 5
  have f5 : v45.frozen? ⟨w1.heap.size, 5, none⟩ = false := frozen_of_row _ _ _ _ _ hb45
  have q6 := blk_cell hb45 6
  have f6 : v45.frozen? ⟨w1.heap.size, 6, none⟩ = false := frozen_of_row _ _ _ _ _ hb45
  simp only [List.getElem?_toArray, List.getElem?_cons_succ, List.getElem?_cons_zero] at q0 q1 q2 q3 q4 q5 q6
  have hlt45 : w1.heap.size < v45.heap.size := blk_lt hb45
  have HST45 := Lib.hid sv45
  clear sv45 hb45
  go_wp2_with fail
  refine gen_worldC (fun W => St w W w1.heap.size [p1, p2, p3] [] 3 A3 n3 k3 C3 m3 d3) HST45.out ?_
  rintro W46 st46
  refine Calls.mono (free_at st46 kn3 (a := 264) (live' := [p2, p3]) (quar' := [p1]) (by decide) (by decide) (by decide)) ?_
  rintro e v46 ⟨A46, n46, k46, C46, m46, d46, rfl, nx, hlen⟩
  have sn46 := st46.next (gi' := 3) nx
  have sb46 := st46.below nx.bel
  obtain rfl : m46 = 1 := hlen
  obtain ⟨cA, cC, hce, _, hcl⟩ := nx.f2.sl
  obtain ⟨qb, qo, rfl, hqL⟩ := hcl.resolve_left (by simp)
  cases hce
  have hqn : W46.heap.size ≤ qb := by obtain ⟨b, off, e, hb⟩ := nx.f2.new _ _ _ rfl; cases e; exact hb
  obtain ⟨mc0, mc1, mc2⟩ := hqL.at3 0 (by simp)
  simp only [Nat.zero_mul, Nat.add_zero, List.getElem!_cons_zero] at mc0 mc1 mc2
  have hqb : qb < v46.heap.size := hqL.1
  have hBW : w1.heap.size < W46.heap.size := blk_lt st46.box
  have hqne : ¬ (w1.heap.size = qb) := by omega
  have hqne' : ¬ (qb = w1.heap.size) := by omega
  clear hqL hqn hBW
  clear nx st46
  have SN46 := Lib.hid sn46
  clear sn46
  have hb46 := sb46.box
  have q0 := blk_cell hb46 0
  have f0 : v46.frozen? ⟨w1.heap.size, 0, none⟩ = false := frozen_of_row _ _ _ _ _ hb46
  have q1 := blk_cell hb46 1
  have f1 : v46.frozen? ⟨w1.heap.size, 1, none⟩ = false := frozen_of_row _ _ _ _ _ hb46
  have q2 := blk_cell hb46 2
  have f2 : v46.frozen? ⟨w1.heap.size, 2, none⟩ = false := frozen_of_row _ _ _ _ _ hb46
  have q3 := blk_cell hb46 3
  have f3 : v46.frozen? ⟨w1.heap.size, 3, none⟩ = false := frozen_of_row _ _ _ _ _ hb46
  have q4 := blk_cell hb46 4
  have f4 : v46.frozen? ⟨w1.heap.size, 4, none⟩ = false := frozen_of_row _ _ _ _ _ hb46
  have q5 := blk_cell hb46 5
  have f5 : v46.frozen? ⟨w1.heap.size, 5, none⟩ = false := frozen_of_row _ _ _ _ _ hb46
  have q6 := blk_cell hb46 6
  have f6 : v46.frozen? ⟨w1.heap.size, 6, none⟩ = false := frozen_of_row _ _ _ _ _ hb46
  simp only [List.getElem?_toArray, List.getElem?_cons_succ, List.getElem?_cons_zero] at q0 q1 q2 q3 q4 q5 q6
  have hlt46 : w1.heap.size < v46.heap.size := blk_lt hb46
  have HST46 := Lib.hid sb46
  clear sb46 hb46
  go_wp2_with fail
  refine gen_worldC (fun W => St w W w1.heap.size [p2, p3] [p1] 3 A46 n46 k46 (some ⟨qb, qo, none⟩) 1 d46) SN46.out ?_
  rintro W47 st47
  refine Calls.mono (gives_at st47 kn4 (size := 10) (v := 440) (gi' := 4) (live' := [p2, p3, p4]) (by decide) (by decide) (by decide) (by decide) (by decide)) ?_
  rintro e v47 ⟨A47, n47, k47, C47, m47, d47, rfl, nx⟩
  have sn47 := st47.next (gi' := 4) nx
  have sb47 := st47.below nx.bel
  clear nx st47
  have SN47 := Lib.hid sn47
  clear sn47
  have hb47 := sb47.box
  have q0 := blk_cell hb47 0
  have f0 : v47.frozen? ⟨w1.heap.size, 0, none⟩ = false := frozen_of_row _ _ _ _ _ hb47
  have q1 := blk_cell hb47 1
  have f1 : v47.frozen? ⟨w1.heap.size, 1, none⟩ = false := frozen_of_row _ _ _ _ _ hb47
  have q2 := blk_cell hb47 2
  have f2 : v47.frozen? ⟨w1.heap.size, 2, none⟩ = false := frozen_of_row _ _ _ _ _ hb47
  have q3 := blk_cell hb47 3
  have f3 : v47.frozen? ⟨w1.heap.size, 3, none⟩ = false := frozen_of_row _ _ _ _ _ hb47
  have q4 := blk_cell hb47 4
  have f4 : v47.frozen? ⟨w1.heap.size, 4, none⟩ = false := frozen_of_row _ _ _ _ _ hb47
  have q5 := blk_cell hb47 5
  have f5 : v47.frozen? ⟨w1.heap.size, 5, none⟩ = false := frozen_of_row _ _ _ _ _ hb47
  have q6 := blk_cell hb47 6
  have f6 : v47.frozen? ⟨w1.heap.size, 6, none⟩ = false := frozen_of_row _ _ _ _ _ hb47
  simp only [List.getElem?_toArray, List.getElem?_cons_succ, List.getElem?_cons_zero] at q0 q1 q2 q3 q4 q5 q6
  have hlt47 : w1.heap.size < v47.heap.size := blk_lt hb47
  have HST47 := Lib.hid sb47
  clear sb47 hb47
  clear mc0 mc1 mc2 hqb hqne hqne'
  go_wp2_with fail
  refine gen_worldC (fun W => St w W w1.heap.size [p2, p3, p4] [p1] 4 A47 n47 k47 C47 m47 d47) SN47.out ?_
  rintro W48 st48
  refine Calls.mono (free_at st48 kn5 (a := 320) (live' := [p2, p4]) (quar' := []) (by decide) (by decide) (by decide)) ?_
  rintro e v48 ⟨A48, n48, k48, C48, m48, d48, rfl, nx, hlen⟩
  have sn48 := st48.next (gi' := 4) nx
  have sb48 := st48.below nx.bel
  obtain rfl : m48 = 0 := hlen
  clear nx st48
  have SN48 := Lib.hid sn48
  clear sn48
  have hb48 := sb48.box
  have q0 := blk_cell hb48 0
  have f0 : v48.frozen? ⟨w1.heap.size, 0, none⟩ = false := frozen_of_row _ _ _ _ _ hb48
  have q1 := blk_cell hb48 1
  have f1 : v48.frozen? ⟨w1.heap.size, 1, none⟩ = false := frozen_of_row _ _ _ _ _ hb48
  have q2 := blk_cell hb48 2
  have f2 : v48.frozen? ⟨w1.heap.size, 2, none⟩ = false := frozen_of_row _ _ _ _ _ hb48
  have q3 := blk_cell hb48 3
  have f3 : v48.frozen? ⟨w1.heap.size, 3, none⟩ = false := frozen_of_row _ _ _ _ _ hb48
  have q4 := blk_cell hb48 4
  have f4 : v48.frozen? ⟨w1.heap.size, 4, none⟩ = false := frozen_of_row _ _ _ _ _ hb48
  have q5 := blk_cell hb48 5
  have f5 : v48.frozen? ⟨w1.heap.size, 5, none⟩ = false := frozen_of_row _ _ _ _ _ hb48
  have q6 := blk_cell hb48 6
  have f6 : v48.frozen? ⟨w1.heap.size, 6, none⟩ = false := frozen_of_row _ _ _ _ _ hb48
  simp only [List.getElem?_toArray, List.getElem?_cons_succ, List.getElem?_cons_zero] at q0 q1 q2 q3 q4 q5 q6
  have hlt48 : w1.heap.size < v48.heap.size := blk_lt hb48
  have HST48 := Lib.hid sb48
  clear sb48 hb48
  go_wp2_with fail
  refine gen_worldC (fun W => St w W w1.heap.size [p2, p4] [] 4 A48 n48 k48 C48 0 d48) SN48.out ?_
  rintro W49 st49
  refine Calls.mono (gives_at st49 kn6 (size := 10) (v := 264) (gi' := 5) (live' := [p5, p2, p4]) (by decide) (by decide) (by decide) (by decide) (by decide)) ?_
  rintro e v49 ⟨A49, n49, k49, C49, m49, d49, rfl, nx⟩
  have sn49 := st49.next (gi' := 5) nx
  have sb49 := st49.below nx.bel
  clear nx st49
  have SN49 := Lib.hid sn49
  clear sn49
  have hb49 := sb49.box
  have q0 := blk_cell hb49 0
  have f0 : v49.frozen? ⟨w1.heap.size, 0, none⟩ = false := frozen_of_row _ _ _ _ _ hb49
  have q1 := blk_cell hb49 1
  have f1 : v49.frozen? ⟨w1.heap.size, 1, none⟩ = false := frozen_of_row _ _ _ _ _ hb49
  have q2 := blk_cell hb49 2
  have f2 : v49.frozen? ⟨w1.heap.size, 2, none⟩ = false := frozen_of_row _ _ _ _ _ hb49
  have q3 := blk_cell hb49 3
  have f3 : v49.frozen? ⟨w1.heap.size, 3, none⟩ = false := frozen_of_row _ _ _ _ _ hb49
  have q4 := blk_cell hb49 4
  have f4 : v49.frozen? ⟨w1.heap.size, 4, none⟩ = false := frozen_of_row _ _ _ _ _ hb49
  have q5 := blk_cell hb49 5
  have f5 : v49.frozen? ⟨w1.heap.size, 5, none⟩ = false := frozen_of_row _ _ _ _ _ hb49
  have q6 := blk_cell hb49 6
  have f6 : v49.frozen? ⟨w1.heap.size, 6, none⟩ = false := frozen_of_row _ _ _ _ _ hb49
  simp only [List.getElem?_toArray, List.getElem?_cons_succ, List.getElem?_cons_zero] at q0 q1 q2 q3 q4 q5 q6
  have hlt49 : w1.heap.size < v49.heap.size := blk_lt hb49
  have HST49 := Lib.hid sb49
  clear sb49 hb49
  go_wp2_with fail
  refine gen_worldC (fun W => St w W w1.heap.size [p5, p2, p4] [] 5 A49 n49 k49 C49 m49 d49) SN49.out ?_
  rintro W50 st50
  refine Calls.mono (free_not st50 kn7 (a := 265) (by decide)) ?_
  rintro e v50 ⟨rfl, hbe⟩
  have sv50 := st50.below hbe
  clear hbe st50
  have hb50 := sv50.box
  have q0 := blk_cell hb50 0
  have f0 : v50.frozen? ⟨w1.heap.size, 0, none⟩ = false := frozen_of_row _ _ _ _ _ hb50
  have q1 := blk_cell hb50 1
  have f1 : v50.frozen? ⟨w1.heap.size, 1, none⟩ = false := frozen_of_row _ _ _ _ _ hb50
  have q2 := blk_cell hb50 2
  have f2 : v50.frozen? ⟨w1.heap.size, 2, none⟩ = false := frozen_of_row _ _ _ _ _ hb50
  have q3 := blk_cell hb50 3
  have f3 : v50.frozen? ⟨w1.heap.size, 3, none⟩ = false := frozen_of_row _ _ _ _ _ hb50
  have q4 := blk_cell hb50 4
  have f4 : v50.frozen? ⟨w1.heap.size, 4, none⟩ = false := frozen_of_row _ _ _ _ _ hb50
  have q5 := blk_cell hb50 5
  have f5 : v50.frozen? ⟨w1.heap.size, 5, none⟩ = false := frozen_of_row _ _ _ _ _ hb50
  have q6 := blk_cell hb50 6
  have f6 : v50.frozen? ⟨w1.heap.size, 6, none⟩ = false := frozen_of_row _ _ _ _ _ hb50
  simp only [List.getElem?_toArray, List.getElem?_cons_succ, List.getElem?_cons_zero] at q0 q1 q2 q3 q4 q5 q6
  have hlt50 : w1.heap.size < v50.heap.size := blk_lt hb50
  have HST50 := Lib.hid sv50
  clear sv50 hb50
  go_wp2_with fail
  refine gen_worldC (fun W => St w W w1.heap.size [p5, p2, p4] [] 5 A49 n49 k49 C49 m49 d49) HST50.out ?_
  rintro W51 st51
  refine Calls.mono (alloc_not st51 kn7 (size := 65537) (.inr (by decide))) ?_
  rintro e v51 ⟨rfl, hbe⟩
  have sv51 := st51.below hbe
  clear hbe st51
  have hb51 := sv51.box
  have q0 := blk_cell hb51 0
  have f0 : v51.frozen? ⟨w1.heap.size, 0, none⟩ = false := frozen_of_row _ _ _ _ _ hb51
  have q1 := blk_cell hb51 1
  have f1 : v51.frozen? ⟨w1.heap.size, 1, none⟩ = false := frozen_of_row _ _ _ _ _ hb51
  have q2 := blk_cell hb51 2
  have f2 : v51.frozen? ⟨w1.heap.size, 2, none⟩ = false := frozen_of_row _ _ _ _ _ hb51
  have q3 := blk_cell hb51 3
  have f3 : v51.frozen? ⟨w1.heap.size, 3, none⟩ = false := frozen_of_row _ _ _ _ _ hb51
  have q4 := blk_cell hb51 4
  have f4 : v51.frozen? ⟨w1.heap.size, 4, none⟩ = false := frozen_of_row _ _ _ _ _ hb51
  have q5 := blk_cell hb51 5
  have f5 : v51.frozen? ⟨w1.heap.size, 5, none⟩ = false := frozen_of_row _ _ _ _ _ hb51
  have q6 := blk_cell hb51 6
  have f6 : v51.frozen? ⟨w1.heap.size, 6, none⟩ = false := frozen_of_row _ _ _ _ _ hb51
  simp only [List.getElem?_toArray, List.getElem?_cons_succ, List.getElem?_cons_zero] at q0 q1 q2 q3 q4 q5 q6
  have hlt51 : w1.heap.size < v51.heap.size := blk_lt hb51
  have HST51 := Lib.hid sv51
  clear sv51 hb51
  go_wp2_with fail
  refine gen_worldC (fun W => St w W w1.heap.size [p5, p2, p4] [] 5 A49 n49 k49 C49 m49 d49) (HST51.out.below (below_alloc1 v51 _)) ?_
  rintro W52 st52
  refine Calls.mono (alloc_not st52 kn7 (size := -1) (.inl (by decide))) ?_
  rintro e v52 ⟨rfl, hbe⟩
  have sv52 := st52.below hbe
  clear hbe st52
  have hb52 := sv52.box
  have q0 := blk_cell hb52 0
  have f0 : v52.frozen? ⟨w1.heap.size, 0, none⟩ = false := frozen_of_row _ _ _ _ _ hb52
  have q1 := blk_cell hb52 1
  have f1 : v52.frozen? ⟨w1.heap.size, 1, none⟩ = false := frozen_of_row _ _ _ _ _ hb52
  have q2 := blk_cell hb52 2
  have f2 : v52.frozen? ⟨w1.heap.size, 2, none⟩ = false := frozen_of_row _ _ _ _ _ hb52
  have q3 := blk_cell hb52 3
  have f3 : v52.frozen? ⟨w1.heap.size, 3, none⟩ = false := frozen_of_row _ _ _ _ _ hb52
  have q4 := blk_cell hb52 4
  have f4 : v52.frozen? ⟨w1.heap.size, 4, none⟩ = false := frozen_of_row _ _ _ _ _ hb52
  have q5 := blk_cell hb52 5
  have f5 : v52.frozen? ⟨w1.heap.size, 5, none⟩ = false := frozen_of_row _ _ _ _ _ hb52
  have q6 := blk_cell hb52 6
  have f6 : v52.frozen? ⟨w1.heap.size, 6, none⟩ = false := frozen_of_row _ _ _ _ _ hb52
  simp only [List.getElem?_toArray, List.getElem?_cons_succ, List.getElem?_cons_zero] at q0 q1 q2 q3 q4 q5 q6
  have hlt52 : w1.heap.size < v52.heap.size := blk_lt hb52
  have HST52 := Lib.hid sv52
  clear sv52 hb52
  go_wp2_with fail
  refine gen_worldC (fun W => St w W w1.heap.size [p5, p2, p4] [] 5 A49 n49 k49 C49 m49 d49) (HST52.out.below (below_alloc1 v52 _)) ?_
  rintro W53 st53
  refine Calls.mono (check_at st53 kn7) ?_
  rintro e v53 ⟨rfl, hbe⟩
  have sv53 := st53.below hbe
  clear hbe st53
  have hb53 := sv53.box
  have q0 := blk_cell hb53 0
  have f0 : v53.frozen? ⟨w1.heap.size, 0, none⟩ = false := frozen_of_row _ _ _ _ _ hb53
  have q1 := blk_cell hb53 1
  have f1 : v53.frozen? ⟨w1.heap.size, 1, none⟩ = false := frozen_of_row _ _ _ _ _ hb53
  have q2 := blk_cell hb53 2
  have f2 : v53.frozen? ⟨w1.heap.size, 2, none⟩ = false := frozen_of_row _ _ _ _ _ hb53
  have q3 := blk_cell hb53 3
  have f3 : v53.frozen? ⟨w1.heap.size, 3, none⟩ = false := frozen_of_row _ _ _ _ _ hb53
  have q4 := blk_cell hb53 4
  have f4 : v53.frozen? ⟨w1.heap.size, 4, none⟩ = false := frozen_of_row _ _ _ _ _ hb53
  have q5 := blk_cell hb53 5
  have f5 : v53.frozen? ⟨w1.heap.size, 5, none⟩ = false := frozen_of_row _ _ _ _ _ hb53
  have q6 := blk_cell hb53 6
  have f6 : v53.frozen? ⟨w1.heap.size, 6, none⟩ = false := frozen_of_row _ _ _ _ _ hb53
  simp only [List.getElem?_toArray, List.getElem?_cons_succ, List.getElem?_cons_zero] at q0 q1 q2 q3 q4 q5 q6
  have hlt53 : w1.heap.size < v53.heap.size := blk_lt hb53
  have HST53 := Lib.hid sv53
  clear sv53 hb53
  go_wp2
  go_ret
  exact ⟨rfl, HST53.out.bel⟩
end Go.Proofs.Ytbhbjcgbhklieaa
