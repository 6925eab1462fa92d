/- opened: the beginning, where it returns at once. | the map of all births in opened: what a look-up and a store do. | a region that draws its order, inside a round: by the plain calculus. | slices.IsSortedFunc at pieces. | slices.SortFunc at extents: whatever slice value. | opened: what the loop over all blocks keeps. -/
import Derived.Test.YtbhbjcgbhklieaaA8
import Derived.Maps.OwnIn
import Derived.Deep.RegionHeld
import Derived.RangeFuncNested
namespace Go.Proofs.Ytbhbjcgbhklieaa
open Go.RowKit Go.Shelf

set_option maxRecDepth 100000 in
set_option maxHeartbeats 4000000 in
theorem c68_no (c : Conf) (A B : Option Addr) (n1 c1 n2 c2 : Nat) (gi : Int) (w : World) (h : okConf c = false ∨ gi < 0 ∨ 1073741824 < gi ∨ 1000 < n1 ∨ 1000 < n2) :
    Calls Try.prog 68 #[.agg #[.int .i64 c.page, .int .i64 c.n, .int .i64 c.red, .int .i64 c.quarantine, .slice A n1 c1, .slice B n2 c2, .int .i64 gi]] w fun e w' => e = .returned (.tuple #[.pointer none, .bool false]) ∧ Below w.heap.size w w' := by
  have hv := fun W => c79 c W
  unfold encC at hv
  cases hok : okConf c with
  | false =>
    rw [hok] at hv
    clear h hok
    go_enter Try.func68, Try.ntmps68
    go_wp2_with (go_at_call 79; refine (hv _).mono ?_; rintro e w' ⟨rfl, rfl⟩)
    refine bodyPost_ret (v := .tuple #[.pointer none, .bool false]) (by simp [results, Try.results68, go_sem]) rfl ⟨rfl, ?_⟩
    repeat' first | exact Below.refl _ _ | refine Below.alloc ?_ (by simp; try omega) _
  | true =>
    rw [hok] at hv h
    replace h := h.resolve_left (by simp)
    clear hok
    by_cases h1 : gi < 0
    · clear h
      go_enter Try.func68, Try.ntmps68
      go_wp2_with (go_at_call 79; refine (hv _).mono ?_; rintro e w' ⟨rfl, rfl⟩)
      refine bodyPost_ret (v := .tuple #[.pointer none, .bool false]) (by simp [results, Try.results68, go_sem]) rfl ⟨rfl, ?_⟩
      repeat' first | exact Below.refl _ _ | refine Below.alloc ?_ (by simp; try omega) _
    · by_cases h2 : 1073741824 < gi
      · clear h
        go_enter Try.func68, Try.ntmps68
        go_wp2_with (go_at_call 79; refine (hv _).mono ?_; rintro e w' ⟨rfl, rfl⟩)
        refine bodyPost_ret (v := .tuple #[.pointer none, .bool false]) (by simp [results, Try.results68, go_sem]) rfl ⟨rfl, ?_⟩
        repeat' first | exact Below.refl _ _ | refine Below.alloc ?_ (by simp; try omega) _
      · by_cases h3 : 1000 < n1
        · clear h
          go_enter Try.func68, Try.ntmps68
          go_wp2_with (go_at_call 79; refine (hv _).mono ?_; rintro e w' ⟨rfl, rfl⟩)
          refine bodyPost_ret (v := .tuple #[.pointer none, .bool false]) (by simp [results, Try.results68, go_sem]) rfl ⟨rfl, ?_⟩
          repeat' first | exact Below.refl _ _ | refine Below.alloc ?_ (by simp; try omega) _
        · have h4 : 1000 < n2 := by omega
          clear h
          go_enter Try.func68, Try.ntmps68
          go_wp2_with (go_at_call 79; refine (hv _).mono ?_; rintro e w' ⟨rfl, rfl⟩)
          refine bodyPost_ret (v := .tuple #[.pointer none, .bool false]) (by simp [results, Try.results68, go_sem]) rfl ⟨rfl, ?_⟩
          repeat' first | exact Below.refl _ _ | refine Below.alloc ?_ (by simp; try omega) _
end Go.Proofs.Ytbhbjcgbhklieaa

namespace Go.Proofs.Ytbhbjcgbhklieaa
open Go.RowKit Go.Shelf

/-- the entries: the keys bs, each with true. -/
def SeenE (es : List MapEntry) (bs : List Int) : Prop := es.map (·.key) = bs.map (Value.int .i64) ∧ ∀ e ∈ es, e.val = .bool true

theorem SeenE.nil : SeenE [] [] := ⟨rfl, fun _ h => by cases h⟩
theorem SeenE.snoc {es : List MapEntry} {bs : List Int} (h : SeenE es bs) (b : Int) (k : Nat) : SeenE (es ++ [{ key := .int .i64 b, val := .bool true, born := k }]) (bs ++ [b]) := by
  refine ⟨?_, fun e he => ?_⟩
  · simp [h.1]
  rcases List.mem_append.1 he with h1 | h1
  · exact h.2 e h1
  · rw [List.mem_singleton.1 h1]

theorem findNow_seen (b : Int) : ∀ (es : List MapEntry) (bs : List Int) (i : Nat), SeenE es bs →
    (b ∈ bs → ∃ j, Instr.findNow (.int .i64) (.int .i64 b) es i = some (some (j, .bool true))) ∧ (b ∉ bs → Instr.findNow (.int .i64) (.int .i64 b) es i = some none)
  | [], [], i, _ => ⟨fun h => (by cases h), fun _ => rfl⟩
  | [], _ :: _, i, h => by have := h.1; simp at this
  | _ :: _, [], i, h => by have := h.1; simp at this
  | e :: es, b' :: bs, i, h => by
    have h1 := h.1
    simp at h1
    have ih := findNow_seen b es bs (i + 1) ⟨h1.2, fun e he => h.2 e (List.mem_cons_of_mem _ he)⟩
    have hv := h.2 e (List.mem_cons_self ..)
    by_cases hb : b = b'
    · subst hb
      exact ⟨fun _ => ⟨i, by simp [Instr.findNow, Instr.sameNow, h1.1, hv]⟩, fun hn => by simp at hn⟩
    · refine ⟨fun hm => ?_, fun hm => ?_⟩
      · obtain ⟨j, hj⟩ := ih.1 (by simpa [hb] using hm)
        exact ⟨j, by simp [Instr.findNow, Instr.sameNow, h1.1, show (b == b') = false from by simpa using hb, hj]⟩
      · have := ih.2 (by simp at hm; exact hm.2)
        simp [Instr.findNow, Instr.sameNow, h1.1, show (b == b') = false from by simpa using hb, this]

theorem check_seen (e : Bool) (b : Int) (W : World) : (Instr.checkKey e 10000 3 (.int .i64 b)).run Try.prog W = .ok () W := by
  have hk : Try.prog.underlying 3 = some (.int .i64) := by kernel_rfl
  unfold Instr.checkKey
  simp [run_underlying hk, Result.andThen]

theorem find_seen (b : Int) {es : List MapEntry} {bs : List Int} (hs : SeenE es bs) (W : World) :
    (b ∈ bs → ∃ j, (Instr.findKey 3 (.int .i64 b) es).run Try.prog W = .ok (some (j, .bool true)) W) ∧ (b ∉ bs → (Instr.findKey 3 (.int .i64 b) es).run Try.prog W = .ok none W) := by
  have hk : Try.prog.underlying 3 = some (.int .i64) := by kernel_rfl
  obtain ⟨h1, h2⟩ := findNow_seen b es bs 0 hs
  refine ⟨fun h => ?_, fun h => ?_⟩
  · obtain ⟨j, hj⟩ := h1 h
    exact ⟨j, by simp [Instr.findKey, run_underlying hk, hj, Result.andThen]⟩
  · simp [Instr.findKey, run_underlying hk, h2 h, Result.andThen]

theorem run_lookup_seen (b : Int) {es : Array MapEntry} {bs : List Int} {clk bm : Nat} (W : World) (hb : W.heap[bm]? = some (.map es clk)) (hs : SeenE es.toList bs) :
    (Instr.lookup 124 (.map (some bm)) (.int .i64 b) false).run Try.prog W = .ok (.bool (decide (b ∈ bs))) W := by
  have hu : Try.prog.underlying 124 = some (.map 3 4) := by kernel_rfl
  have hz : (zeroValue 4).run Try.prog W = .ok (.bool false) W := by kernel_rfl
  obtain ⟨h1, h2⟩ := find_seen b hs W
  by_cases hm : b ∈ bs
  · obtain ⟨j, hj⟩ := h1 hm
    simp [Instr.lookup, run_underlying hu, MapKept.run_getObj_map hb, check_seen, hj, Result.andThen, hm]
  · simp [Instr.lookup, run_underlying hu, MapKept.run_getObj_map hb, check_seen, h2 hm, Result.andThen, hm, hz]

theorem run_update_seen (b : Int) {es : Array MapEntry} {bs : List Int} {clk bm : Nat} (W : World) (hb : W.heap[bm]? = some (.map es clk)) (hs : SeenE es.toList bs) (hm : b ∉ bs) :
    (Instr.mapUpdate 124 (.map (some bm)) (.int .i64 b) (.bool true)).run Try.prog W = .ok () (W.putObj bm (.map (es.push { key := .int .i64 b, val := .bool true, born := clk }) (clk + 1))) := by
  have hu : Try.prog.underlying 124 = some (.map 3 4) := by kernel_rfl
  have hj := (find_seen b hs W).2 hm
  simp [Instr.mapUpdate, run_underlying hu, MapKept.run_getObj_map hb, check_seen, hj, MapKept.run_setObj_map _ hb, Result.andThen, World.putObj]
end Go.Proofs.Ytbhbjcgbhklieaa

namespace Go.Proofs.Ytbhbjcgbhklieaa
open Go.RowKit Go.Shelf

theorem uponIn_round_of {l n : Nat} {P : Program} {o : Oper} {a : Act} {K : Act → World → Prop} {Q : Exit → Act → World → Prop} {r : Result Next} (h : o.upon P a K Q r) : o.uponIn (Fence.wide.inRound l) n P a K Q r := by
  cases r with
  | halt y w' => cases y <;> exact h
  | ok x w' =>
    cases x with
    | value v => exact h
    | skip => exact h
    | defer d => exact h
    | enter f args => exact ⟨fun h0 => (by cases h0), CallsIn.inRound l (callsIn_wide.2 h)⟩
    | row row args =>
      refine ⟨fun h0 => (by cases h0), fun c cs hr => ?_⟩
      obtain ⟨v, w'', r, s⟩ := h c cs
      exact ⟨v, w'', r, stepsIn_wide.2 s⟩
    | _ => exact False.elim h

theorem wpIn_round_of {l n : Nat} {P : Program} {o : Oper} {a : Act} {w : World} {K : Act → World → Prop} {Q : Exit → Act → World → Prop} (hd : ∀ c, o.op ≠ .defer c) (h : o.wp P a w K Q) : o.wpIn (Fence.wide.inRound l) n P a w K Q := by
  refine ⟨fun _ _ => trivial, ?_⟩
  rw [show (Fence.wide.inRound l).round = some l from rfl, Oper.semAt_some l _ _ hd]
  exact uponIn_round_of h

def noDefer (o : Oper) : Bool := match o.op with | .defer _ => false | _ => true
theorem noDefer_spec {o : Oper} (h : noDefer o = true) : ∀ c, o.op ≠ .defer c := fun c e => by simp [noDefer, e] at h

theorem wpAnyIn_round_of {l n : Nat} {P : Program} {md : Region.Mode} {ops : Array Oper} {Q : Exit → Act → World → Prop} (hd : ops.all noDefer = true) (hL : ¬ LetsOut Q) :
    ∀ (fuel : Nat) (listed : Array Bool) (a : Act) (w : World), wpAny P md ops Q fuel listed a w → wpAnyIn (Fence.wide.inRound l) n P md ops Q fuel listed a w
  | 0, _, _, _, h => h
  | fuel + 1, listed, a, w, h => ⟨h.1, fun i hi => by
    have h1 := h.2 i hi
    unfold wpOp at h1
    unfold wpOpIn
    cases ho : ops[i]? with
    | none => rw [ho] at h1; exact wpAnyIn_round_of hd hL fuel _ _ _ h1
    | some o =>
      rw [ho] at h1
      have hno : noDefer o = true := by
        obtain ⟨hlt, he⟩ := Array.getElem?_eq_some_iff.1 ho
        rw [← he]
        exact Array.all_eq_true.1 hd i hlt
      dsimp only at h1 ⊢
      by_cases hw : Region.wanted o (yielded ops a.tmps) = true
      · rw [if_pos hw] at h1 ⊢
        rcases h1 with h1 | h1
        · exact Oper.wpIn_mono (fun a w hh => wpAnyIn_round_of hd hL fuel _ _ _ hh) (wpIn_round_of (noDefer_spec hno) h1)
        · exact absurd h1.2 hL
      · rw [if_neg hw] at h1 ⊢
        exact ⟨fun _ _ => trivial, wpAnyIn_round_of hd hL fuel _ _ _ h1⟩⟩

/-- the region in a round, by 'wpAnyH' of the plain calculus. -/
theorem round_region {l n : Nat} {P : Program} {id : Nat} {ops : Array Oper} {Q : Exit → Act → World → Prop} {a : Act} {w : World} (S : World → Prop) (hm : P.follows .mixedOrders = true) (hd : ops.all noDefer = true) (hL : ¬ LetsOut Q) (hS : S w.drew)
    (h : S w.drew → wpAnyH P .any ops Q S ops.size (Array.replicate ops.size false) a w.drew) : (Code.region id ops true).wpIn (Fence.wide.inRound l) n P Q a w :=
  wpIn_region_any hm (wpAnyIn_round_of hd hL _ _ _ _ (wpAny_of_held _ _ _ _ (h hS)))
end Go.Proofs.Ytbhbjcgbhklieaa

namespace Go.Proofs.Ytbhbjcgbhklieaa
open Go.RowKit Go.Shelf

def SortedPos (zs : List Piece) : Prop := ∀ j, j + 1 < zs.length → zs[j]!.pos ≤ zs[j + 1]!.pos
instance (zs : List Piece) : Decidable (SortedPos zs) := decidable_of_iff (∀ j : Fin zs.length, j.1 + 1 < zs.length → zs[j.1]!.pos ≤ zs[j.1 + 1]!.pos) ⟨fun h j hj => h ⟨j, by omega⟩ hj, fun h j hj => h j.1 hj⟩

set_option maxRecDepth 100000 in
set_option maxHeartbeats 1000000 in
theorem c90 (v : Value) (zs : List Piece) (w : World) (hs : Sl 3 encP w v zs) (hbig : zs.length < 4611686018427387904) :
    Calls Try.prog 90 #[v, .func (.func 91) #[] #[]] w fun e w' => e = .returned (.bool (decide (SortedPos zs))) ∧ Below w.heap.size w w' := by
  obtain ⟨A, c, rfl, _, hs⟩ := hs
  have HS := Lib.hid hs
  clear hs
  generalize hn : zs.length = n at hbig
  have HN := Lib.hid hn
  clear hn
  go_enter Try.func90, Try.ntmps90
  go_wp2
  go_loopg [5] n (fun kx i wr => ∃ (z : Int) (k : Nat), i = .int .i64 z ∧ z = (k : Int) - 1 ∧ k ≤ n ∧ k ≤ kx ∧ Hid (∀ j, k ≤ j + 1 → j + 1 < n → zs[j]!.pos ≤ zs[j + 1]!.pos) ∧ Hid (Below w.heap.size w wr))
  case atStart => exact ⟨_, n, rfl, rfl, Nat.le_refl _, Nat.le_refl _, fun j h1 h2 => by omega, Below.refl _ _⟩
  case round =>
    obtain ⟨z, k, rfl, hz, hk, hkx, HI, HB⟩ := hrel
    by_cases h0 : 0 < z
    · have hk1 : k - 1 < zs.length := by rw [HN.out]; omega
      have hk2 : k - 2 < zs.length := by rw [HN.out]; omega
      obtain ⟨b, off, rfl, hl⟩ := HS.out.resolve_left (by rintro rfl; simp at hk1)
      obtain ⟨l0, l1, l2⟩ := (hl.below HB.out).at3 _ hk1
      obtain ⟨m0, m1, m2⟩ := (hl.below HB.out).at3 _ hk2
      have hcall := c91 zs[k - 1]! zs[k - 2]! wr.drew
      generalize hx : zs[k - 1]! = x at l0 l1 l2 hcall
      generalize hy : zs[k - 2]! = y at m0 m1 m2 hcall
      have X := Lib.hid hx
      have Y := Lib.hid hy
      obtain ⟨t, rfl⟩ : ∃ t, k = t + 2 := ⟨k - 2, by omega⟩
      rw [show t + 2 - 1 = t + 1 by omega] at l0 l1 l2 X
      rw [show t + 2 - 2 = t by omega] at m0 m1 m2 Y
      obtain rfl : z = ((t + 1 : Nat) : Int) := by omega
      have hb1 : (t : Int) + 1 < (n : Int) := by have := HN.out; omega
      have hb2 : t + 1 < n := by omega
      have hb3 : t < n := by omega
      have hb4 : 0 ≤ (t : Int) + 1 := by omega
      have hb5 : (t : Int) + 1 - 1 = t := by omega
      have hb6 : ((t : Int) + 1).toNat = t + 1 := by omega
      have hb7 : IntKind.i64.wrap (t : Int) = t := by simp only [IntKind.wrap, IntKind.bits, IntKind.signed]; simp; omega
      clear hx hy hl hk1 hk2 hz
      unfold encP at hcall
      go_wp2
      refine region_tail 10 (by kernel_rfl) (by kernel_rfl) ?_
      simp only [List.take_succ_cons, List.take_zero, List.drop_succ_cons, List.drop_zero]
      repeat still_step
      refine wpStill_nil ?_
      by_cases hxy : x.pos < y.pos
      · have hc1 : cmpI x.pos y.pos = -1 := by unfold cmpI; simp [hxy]
        rw [hc1] at hcall
        go_wp2_with (go_at_call 91; refine hcall.mono ?_; rintro e w' ⟨rfl, rfl⟩)
        go_ret
        have e1 : decide (SortedPos zs) = false := decide_eq_false fun hs => by
          have := hs t (by rw [HN.out]; omega)
          rw [X.out, Y.out] at this
          omega
        exact ⟨by rw [e1]; rfl, HB.out.trans (((Below.refl _ _).drew.alloc (by simpa using HB.out.size) _).alloc (by have := HB.out.size; simp; omega) _)⟩
      · have hc1 : ¬ cmpI x.pos y.pos < 0 := by unfold cmpI; split <;> (try split) <;> omega
        go_wp2_with (go_at_call 91; refine hcall.mono ?_; rintro e w' ⟨rfl, rfl⟩)
        go_roundg (t + 1)
        case measure => omega
        case rel =>
          refine ⟨_, t + 1, rfl, by omega, by omega, Nat.le_refl _, ?_, HB.out.trans (((Below.refl _ _).drew.alloc (by simpa using HB.out.size) _).alloc (by have := HB.out.size; simp; omega) _)⟩
          intro j h1 h2
          by_cases hj : j = t
          · subst hj; rw [X.out, Y.out]; omega
          · exact HI.out j (by omega) h2
    · go_wp2
      go_ret
      have e1 : decide (SortedPos zs) = true := decide_eq_true fun j hj => HI.out j (by omega) (by rw [HN.out] at hj; exact hj)
      exact ⟨by rw [e1]; rfl, HB.out⟩
end Go.Proofs.Ytbhbjcgbhklieaa

namespace Go.Proofs.Ytbhbjcgbhklieaa
open Go.RowKit Go.Sort

theorem c87v (L : List Ext) (w : World) (base : Nat) (v : Value) (hown : w.ownsRow base 115 7 v L.length (L.flatMap encE)) (hsz : L.length < 4611686018427387904) :
    Calls Try.prog 87 #[v, .func (.func 88) #[] #[]] w fun e w' => e = .returned (.tuple #[]) ∧
      ∃ L' : List Ext, L'.Perm L ∧ (∀ i j, i < j → j < L'.length → L'[i]!.fr ≤ L'[j]!.fr) ∧ Sl 7 encE w' v L' ∧ w.grownBy w' v.ownBlock := by
  rcases hown.2 with ⟨rfl, h0⟩ | ⟨g, cap, cur, rfl, h1, h2, h3, h4, h5, h6⟩
  · have hL : L = [] := List.eq_nil_of_length_eq_zero h0
    subst hL
    have h := AnyF.slices_SortFunc_none Try.sortE none 0 (.func (.func 88) #[] #[]) w
    change Calls Try.prog 87 _ _ _ at h
    refine h.mono ?_
    rintro e w' ⟨rfl, rfl⟩
    exact ⟨rfl, [], .refl _, fun i j _ hj => by simp at hj, ⟨none, 0, rfl, Nat.le_refl _, .inl rfl⟩, ⟨rfl, rfl, rfl, Nat.le_refl _, fun _ _ _ => rfl⟩⟩
  · refine (c87 L w base g cap hown hsz).mono ?_
    rintro e w' ⟨he, L', hp, hs, hl, hg⟩
    exact ⟨he, L', hp, hs, ⟨some ⟨g, 0, none⟩, cap, by rw [hp.length_eq], by rw [hp.length_eq]; exact h3, .inr ⟨g, 0, rfl, hl⟩⟩, hg⟩
end Go.Proofs.Ytbhbjcgbhklieaa

namespace Go.Proofs.Ytbhbjcgbhklieaa
open Go.RowKit Go.Shelf

/-- 'wpIn_rangeFunc_ownH' where the frame is named. -/
theorem wpIn_rangeFunc_ownT {F : Fence} {n : Nat} {P : Program} {α : Type} {g : Operand} {ps : Array Tmp} {assign body : Code} {Q : Exit → Act → World → Prop} (T : Array Value) {w : World}
    (hro : F.round = none) (h1 : 1 ≤ n) {gf : Nat} {lb : Array Value} (hg : ({ tmps := T, defers := [] } : Act).eval g = .func (.func gf) #[] lb) (hFg : F.fn gf) (eg : ∀ args w, (callFunc gf args).run P w = .ok (.enter gf args) w)
    {encs : α → Array Value} {Kp : World → World → Prop} {S Sp : List α → Prop} {N : Nat} {w0 : World} (hseq : SeqStopsK F (n - 1) P gf lb encs Kp S Sp N w0)
    (hKt : ∀ {A B C : World}, Kp A B → Kp B C → Kp A C) (hKb : ∀ (W : World) (l : Nat) (o o' : Obj), w.heap.size ≤ l → W.heap[l]? = some o → o.isCells = false → o.isWalk = false → Kp W (W.putObj l o')) (hb0 : Below w0.heap.size w0 w) (hps : ∀ x, (encs x).size = ps.size)
    (I : List α → World → Prop) (Ix : Code → List α → World → Prop) (hI : OwnFrom w.heap.size I) (hIx : ∀ c, OwnFrom w.heap.size (Ix c)) (h0 : I [] w) (Ax : Array Value → α → Act → World → Prop) (hAx : ∀ x a', OwnFrom w.heap.size (fun (_ : Unit) W => Ax T x a' W))
    (hassign : ∀ (l : Nat) (pre : List α) (x : α) (W : World) (K : Act → World → Prop), I pre W → (∀ a' W', KeepsFrom w.heap.size W W' → Kp W W' → I pre W' → Ax T x a' W' → K a' W') →
      assign.wpIn (F.inRound l) (n - 1 - 1) P (Exit.then K (fun _ _ _ => False)) { tmps := (ps.zip (encs x)).foldl (fun t (p, v) => t.setIfInBounds p v) T, defers := [] } W)
    (hbody : ∀ (l : Nat) (pre : List α) (x : α) (a' : Act) (W : World), w.heap.size ≤ l → (∃ r, W.heap[l]? = some (.loop r)) → I pre W → Ax T x a' W → pre.length < N → body.wpIn (F.inRound l) (n - 1 - 1) P (ownPostG w.heap.size Kp I Ix (pre ++ [x]) W) a' W)
    (hdone : ∀ (D : Nat) (xs : List α) (W : World), w.heap.size ≤ D → S xs → I xs W → W.heap[D]? = some (.deferred (some [])) → Q .normal { tmps := T, defers := [{ target := .collected D, args := #[] }] } W)
    (hstop : ∀ (D : Nat) (c : Code) (pre : List α) (W : World), w.heap.size ≤ D → Sp pre → Ix c pre W → W.heap[D]? = some (.deferred (some [])) → c.wpIn F n P Q { tmps := T, defers := [{ target := .collected D, args := #[] }] } W) :
    (Code.rangeFunc g ps assign body).wpIn F n P Q { tmps := T, defers := [] } w :=
  wpIn_rangeFunc_ownH hro h1 hg hFg eg hseq hKt hKb hb0 hps I Ix hI hIx h0 (Ax T) hAx hassign hbody hdone hstop

def okX (c : Conf) (gi : Int) (seen : List Int) (x : Ext) : Prop :=
  x.p.pos.tmod 8 = 0 ∧ 0 ≤ x.p.size ∧ x.p.size ≤ 65536 ∧ 1 ≤ x.p.born ∧ x.p.born ≤ gi ∧ x.p.born ∉ seen ∧ c.page * 256 ≤ x.fr ∧ x.to ≤ (c.page + c.n) * 256
def okGo (c : Conf) (gi : Int) : List Int → List Ext → Prop
  | _, [] => True
  | s, x :: r => okX c gi s x ∧ okGo c gi (s ++ [x.p.born]) r
theorem okGo_snoc (c : Conf) (gi : Int) : ∀ (s : List Int) (l : List Ext) (x : Ext), okGo c gi s (l ++ [x]) ↔ okGo c gi s l ∧ okX c gi (s ++ l.map (·.p.born)) x
  | s, [], x => by simp [okGo]
  | s, y :: l, x => by simp [okGo, okGo_snoc c gi _ l x, and_assoc]
theorem okGo_prefix (c : Conf) (gi : Int) : ∀ (s : List Int) (l r : List Ext), okGo c gi s (l ++ r) → okGo c gi s l
  | _, [], _, _ => trivial
  | _, _ :: l, r, h => ⟨h.1, okGo_prefix c gi _ l r h.2⟩
def heldF (l : List Ext) : Int := (l.map fun x => if x.quar then x.p.size else 0).sum
theorem heldF_snoc (l : List Ext) (x : Ext) : heldF (l ++ [x]) = heldF l + if x.quar then x.p.size else 0 := by simp [heldF]
theorem heldF_range (c : Conf) (gi : Int) : ∀ (s : List Int) (l : List Ext), okGo c gi s l → 0 ≤ heldF l ∧ heldF l ≤ 65536 * l.length
  | _, [], _ => by simp [heldF]
  | s, x :: l, h => by
    obtain ⟨a, b⟩ := heldF_range c gi _ l h.2
    obtain ⟨_, h2, h3, _⟩ := h.1
    simp only [heldF, List.map_cons, List.sum_cons, List.length_cons] at *
    split <;> omega

structure OpF (c : Conf) (lv qv : Value) (gi : Int) (N : Nat) (pre : List Ext) (seen : List Int) (held : Int) (W : World) : Prop where
  a : W.heap[N]? = some (.cells #[.int .i64 c.page, .int .i64 c.n, .int .i64 c.red, .int .i64 c.quarantine, lv, qv, .int .i64 gi] 26 (0, 0))
  r1 : W.heap[N + 1]? = some (.cells #[.pointer none] 97 (0, 0))
  r2 : W.heap[N + 2]? = some (.cells #[.bool false] 4 (0, 0))
  g : ∃ lsv, W.heap[N + 3]? = some (.cells #[.int .i64 c.page, .int .i64 c.n, .int .i64 c.red, .int .i64 c.quarantine, lv, qv, .int .i64 gi, lsv] 123 (0, 0)) ∧ W.ownsRow (N + 12) 115 7 lsv pre.length (pre.flatMap encE)
  h : W.heap[N + 4]? = some (.cells #[.pointer (some ⟨N + 3, 0, none⟩)] 97 (0, 0))
  m : ∃ es clk, W.heap[N + 6]? = some (.map es clk) ∧ SeenE es.toList seen
  mv : W.heap[N + 7]? = some (.cells #[.map (some (N + 6))] 124 (0, 0))
  hd : W.heap[N + 8]? = some (.cells #[.int .i64 held] 3 (0, 0))
  fr : W.heap[N + 9]? = some (.cells #[.int .i64 (c.page * 256)] 3 (0, 0))
  to : W.heap[N + 10]? = some (.cells #[.int .i64 ((c.page + c.n) * 256)] 3 (0, 0))

abbrev OpI (c : Conf) (lv qv : Value) (gi : Int) (N : Nat) (pre : List Ext) (W : World) : Prop := OpF c lv qv gi N pre (pre.map (·.p.born)) (heldF pre) W
abbrev opC (N : Nat) : Nat → Prop := fun k => k = N + 3 ∨ k = N + 8

theorem OpF.kept {c : Conf} {lv qv : Value} {gi : Int} {N : Nat} {pre : List Ext} {seen : List Int} {held : Int} {W W' : World} {row : Option Nat} (h : OpF c lv qv gi N pre seen held W) (hg : W.grownBy W' row) (hr : ∀ r, row = some r → N + 11 ≤ r ∧ ∃ o : Obj, W.heap[r]? = some o ∧ o.isCells = false) : OpF c lv qv gi N pre seen held W' := by
  have k : ∀ j o, j < N + 11 → W.heap[j]? = some o → W'.heap[j]? = some o := fun j o hj ho => (hg.block j (Array.getElem?_eq_some_iff.1 ho).1 (fun e => by have := (hr j e.symm).1; omega)).trans ho
  obtain ⟨lsv, g1, g2⟩ := h.g
  obtain ⟨es, clk, m1, m2⟩ := h.m
  refine ⟨k _ _ (by omega) h.a, k _ _ (by omega) h.r1, k _ _ (by omega) h.r2, ⟨lsv, k _ _ (by omega) g1, g2.kept hg ?_⟩, k _ _ (by omega) h.h, ⟨es, clk, k _ _ (by omega) m1, m2⟩, k _ _ (by omega) h.mv, k _ _ (by omega) h.hd, k _ _ (by omega) h.fr, k _ _ (by omega) h.to⟩
  rcases g2.2 with ⟨rfl, _⟩ | ⟨b, cap, cur, rfl, _, hb, _⟩
  · exact .inl rfl
  · refine .inr fun e => ?_
    obtain ⟨_, o, ho, hc⟩ := hr b e.symm
    rw [hb] at ho; cases ho; simp [Obj.isCells] at hc

theorem OpI.own (c : Conf) (lv qv : Value) (gi : Int) (N B : Nat) (hB : N + 11 ≤ B) : OwnFrom B (fun pre W => OpI c lv qv gi N pre W) :=
  fun _ _ _ _ hs hg hr => OpF.kept hs hg fun r e => ⟨Nat.le_trans hB (hr r e).1, (hr r e).2⟩

theorem ownB {W : World} {base : Nat} {e : TypeId} {k : Nat} {v : Value} {n : Nat} {xs : List Value} (h : W.ownsRow base e k v n xs) : ∀ j, some j = v.ownBlock → base ≤ j ∧ ∃ cur, W.heap[j]? = some (.cells cur e (0, 0)) := fun j ej => by
  rcases h.2 with ⟨rfl, _⟩ | ⟨b, cap, cur, rfl, hb, hg, _⟩
  · cases ej
  · cases ej; exact ⟨hb, cur, hg⟩

theorem grownBy_setCellJ (W : World) (b o : Nat) (v : Value) : W.grownBy (W.setCell ⟨b, o, none⟩ v) (some b) :=
  ⟨rfl, rfl, rfl, by simp, fun k _ hk => Below.heap_setCell _ _ _ _ (fun e => hk (by rw [e]))⟩

/-- a block below N + 12 turns that is none of the others. -/
theorem OpF.hold {c : Conf} {lv qv : Value} {gi : Int} {N : Nat} {pre : List Ext} {seen : List Int} {held : Int} {W : World} (h : OpF c lv qv gi N pre seen held W) (v : Int) : OpF c lv qv gi N pre seen v (W.setCell ⟨N + 8, 0, none⟩ (.int .i64 v)) := by
  have k : ∀ j o, j ≠ N + 8 → W.heap[j]? = some o → (W.setCell ⟨N + 8, 0, none⟩ (.int .i64 v)).heap[j]? = some o := fun j o hj ho => (Below.heap_setCell _ _ _ _ hj).trans ho
  obtain ⟨lsv, g1, g2⟩ := h.g
  obtain ⟨es, clk, m1, m2⟩ := h.m
  refine ⟨k _ _ (by omega) h.a, k _ _ (by omega) h.r1, k _ _ (by omega) h.r2, ⟨lsv, k _ _ (by omega) g1, g2.kept (grownBy_setCellJ _ _ _ _) (.inr fun e => ?_)⟩, k _ _ (by omega) h.h, ⟨es, clk, k _ _ (by omega) m1, m2⟩, k _ _ (by omega) h.mv, ?_, k _ _ (by omega) h.fr, k _ _ (by omega) h.to⟩
  · have := (ownB g2 _ e.symm).1; omega
  · have b : Boxed W (N + 8) 3 (.int .i64 held) := h.hd
    exact b.set _

theorem OpF.birth {c : Conf} {lv qv : Value} {gi : Int} {N : Nat} {pre : List Ext} {seen : List Int} {held : Int} {W : World} (h : OpF c lv qv gi N pre seen held W) {es0 : Array MapEntry} {clk0 : Nat} (hm : W.heap[N + 6]? = some (.map es0 clk0)) (es : Array MapEntry) (clk : Nat) (bs : List Int) (hs : SeenE es.toList bs) :
    OpF c lv qv gi N pre bs held (W.putObj (N + 6) (.map es clk)) := by
  have k : ∀ j o, j ≠ N + 6 → W.heap[j]? = some o → (W.putObj (N + 6) (.map es clk)).heap[j]? = some o := fun j o hj ho => (World.putObj_heap_other hj).trans ho
  obtain ⟨lsv, g1, g2⟩ := h.g
  refine ⟨k _ _ (by omega) h.a, k _ _ (by omega) h.r1, k _ _ (by omega) h.r2, ⟨lsv, k _ _ (by omega) g1, g2.kept (grownBy_putObj' _ _ _) (.inr fun e => ?_)⟩, k _ _ (by omega) h.h, ⟨es, clk, ?_, hs⟩, k _ _ (by omega) h.mv, k _ _ (by omega) h.hd, k _ _ (by omega) h.fr, k _ _ (by omega) h.to⟩
  · have := (ownB g2 _ e.symm).1; omega
  · have := blk_lt hm
    simp [World.putObj, this]

theorem opF_fail {c : Conf} {lv qv : Value} {gi : Int} {pre : List Ext} {seen : List Int} {held : Int} {W w : World} (h : OpF c lv qv gi w.heap.size pre seen held W) (hB : Below w.heap.size w W) (B : Nat) :
    KeepsFrom B W ((W.setCell ⟨w.heap.size + 1, 0, none⟩ (.pointer none)).setCell ⟨w.heap.size + 1 + 1, 0, none⟩ (.bool false)) ∧
    (((W.setCell ⟨w.heap.size + 1, 0, none⟩ (.pointer none)).setCell ⟨w.heap.size + 1 + 1, 0, none⟩ (.bool false)).cell? ⟨w.heap.size + 1, 0, none⟩ = some (.pointer none) ∧
      ((W.setCell ⟨w.heap.size + 1, 0, none⟩ (.pointer none)).setCell ⟨w.heap.size + 1 + 1, 0, none⟩ (.bool false)).cell? ⟨w.heap.size + 2, 0, none⟩ = some (.bool false)) ∧
    Below w.heap.size w ((W.setCell ⟨w.heap.size + 1, 0, none⟩ (.pointer none)).setCell ⟨w.heap.size + 1 + 1, 0, none⟩ (.bool false)) := by
  have b1 : Boxed W (w.heap.size + 1) 97 (.pointer none) := h.r1
  have b2 : Boxed W (w.heap.size + 1 + 1) 4 (.bool false) := h.r2
  refine ⟨((KeepsOthers.setCell _ _ _).trans (KeepsOthers.setCell _ _ _)).from _, ⟨?_, ?_⟩, (hB.setCell (p := ⟨w.heap.size + 1, 0, none⟩) (by simp) _).setCell (p := ⟨w.heap.size + 1 + 1, 0, none⟩) (by simp; omega) _⟩
  · exact ((b1.set _).other (by omega) _).cell
  · exact ((b2.other (B' := w.heap.size + 1) (by omega) _).set _).cell

theorem OpF.append {c : Conf} {lv qv : Value} {gi : Int} {N : Nat} {pre : List Ext} {seen : List Int} {held : Int} {W2 W3 W4 : World} {lsv : Value} {gg cap : Nat} {x : Ext} (h : OpF c lv qv gi N pre seen held W2)
    (hg2 : W2.heap[N + 3]? = some (.cells #[.int .i64 c.page, .int .i64 c.n, .int .i64 c.red, .int .i64 c.quarantine, lv, qv, .int .i64 gi, lsv] 123 (0, 0))) (hrow : W2.ownsRow (N + 12) 115 7 lsv pre.length (pre.flatMap encE))
    (hg3 : W2.grownBy W3 none) (hg4 : W3.grownBy W4 lsv.ownBlock) (hown : W4.ownsRow (N + 12) 115 7 (.slice (some ⟨gg, 0, none⟩) (pre.length + 1) cap) (pre.length + 1) (pre.flatMap encE ++ encE x)) :
    OpF c lv qv gi N (pre ++ [x]) seen held (W4.setCell ⟨N + 3, 7, none⟩ (.slice (some ⟨gg, 0, none⟩) (pre.length + 1) cap)) ∧
    KpG N (opC N) (N + 3) W2 (W4.setCell ⟨N + 3, 7, none⟩ (.slice (some ⟨gg, 0, none⟩) (pre.length + 1) cap)) ∧
    KeepsFrom (N + 12) W2 (W4.setCell ⟨N + 3, 7, none⟩ (.slice (some ⟨gg, 0, none⟩) (pre.length + 1) cap)) ∧
    (∀ w : World, w.heap.size = N → Below w.heap.size w W2 → Below w.heap.size w (W4.setCell ⟨N + 3, 7, none⟩ (.slice (some ⟨gg, 0, none⟩) (pre.length + 1) cap))) ∧
    W2.heap.size ≤ (W4.setCell ⟨N + 3, 7, none⟩ (.slice (some ⟨gg, 0, none⟩) (pre.length + 1) cap)).heap.size := by
  have hob := ownB hrow
  have hb : ∀ k, k < N + 12 → some k ≠ lsv.ownBlock := fun k hk e => by have := (hob k e).1; omega
  -- from W2 to W4: the row alone turns
  have hblk : ∀ k o, W2.heap[k]? = some o → some k ≠ lsv.ownBlock → W4.heap[k]? = some o := fun k o hk hne => by
    have h3 := (hg3.block k (blk_lt hk) (by simp)).trans hk
    exact (hg4.block k (blk_lt h3) hne).trans h3
  have hg43 := hblk (N + 3) _ hg2 (hb _ (by omega))
  have hset : ∀ k o, k ≠ N + 3 → W4.heap[k]? = some o → (W4.setCell ⟨N + 3, 7, none⟩ (.slice (some ⟨gg, 0, none⟩) (pre.length + 1) cap)).heap[k]? = some o := fun k o hk ho => (Below.heap_setCell _ _ _ _ hk).trans ho
  have k : ∀ j o, j < N + 12 → j ≠ N + 3 → W2.heap[j]? = some o → (W4.setCell ⟨N + 3, 7, none⟩ (.slice (some ⟨gg, 0, none⟩) (pre.length + 1) cap)).heap[j]? = some o := fun j o hj hne ho => hset j o hne (hblk j o ho (hb j hj))
  have hsz : W2.heap.size ≤ (W4.setCell ⟨N + 3, 7, none⟩ (.slice (some ⟨gg, 0, none⟩) (pre.length + 1) cap)).heap.size := by
    have := hg3.size; have := hg4.size; simp only [World.size_setCell]; omega
  obtain ⟨es, clk, m1, m2⟩ := h.m
  refine ⟨⟨k _ _ (by omega) (by omega) h.a, k _ _ (by omega) (by omega) h.r1, k _ _ (by omega) (by omega) h.r2, ⟨.slice (some ⟨gg, 0, none⟩) (pre.length + 1) cap, ?_, ?_⟩, k _ _ (by omega) (by omega) h.h, ⟨es, clk, k _ _ (by omega) (by omega) m1, m2⟩, k _ _ (by omega) (by omega) h.mv, k _ _ (by omega) (by omega) h.hd, k _ _ (by omega) (by omega) h.fr, k _ _ (by omega) (by omega) h.to⟩, ⟨⟨hsz, fun j cs t f hC ht hj => ?_⟩, fun j hj v hv => ?_⟩, ⟨hsz, fun j o hj ho hc => ?_⟩, fun w hw hBw => ?_, hsz⟩
  · simp [World.setCell, Array.getElem?_modify, hg43]
  · have := hown.kept (grownBy_setCellJ W4 (N + 3) 7 (.slice (some ⟨gg, 0, none⟩) (pre.length + 1) cap)) (.inr fun e => by have := (ownB hown _ e.symm).1; omega)
    simpa using this
  · refine hset _ _ (fun e => hC (.inl e)) (hblk _ _ hj fun e => ?_)
    obtain ⟨h1, cur, h2⟩ := hob j e
    rw [hj] at h2; cases h2
    rcases ht with ht | ht
    · exact ht rfl
    · omega
  · have e4 : W2.cell? ⟨N + 3, j, none⟩ = W4.cell? ⟨N + 3, j, none⟩ := by simp only [World.cell?, hg2, hg43]
    rw [e4] at hv
    refine Eq.trans (World.cell?_setCell_other (w := W4) (a := ⟨N + 3, 7, none⟩) (v := _) (b := ⟨N + 3, j, none⟩) (h := fun e => ?_)) hv
    injection e; omega
  · refine hset _ _ (by omega) (hblk _ _ ho fun e => ?_)
    obtain ⟨_, cur, h2⟩ := hob j e
    rw [ho] at h2; cases h2; simp [Obj.isCells] at hc
  · refine Below.setCell (p := ⟨N + 3, 7, none⟩) (hBw.trans ⟨hg4.os.trans hg3.os, hg4.tape.trans hg3.tape, hg4.output.trans hg3.output, Nat.le_trans hg3.size hg4.size, fun j hj => ?_⟩) (by simp; omega) _
    have hj2 : j < W2.heap.size := Nat.lt_of_lt_of_le hj hBw.size
    exact (hg4.block j (Nat.lt_of_lt_of_le hj2 hg3.size) (hb j (by omega))).trans (hg3.block j hj2 (by simp))

theorem info115 : ∃ i, Try.prog.info? 115 = some i ∧ i.zero = some (.agg #[.int .u32 0, .int .i64 0, .int .i64 0, .int .i64 0, .int .i64 0, .bool false, .int .i64 0]) ∧ i.size = 7 ∧ i.bytes = 56 := by
  have h : (Try.prog.info? 115).map (fun i => (i.zero, i.size, i.bytes)) = some (some (.agg #[.int .u32 0, .int .i64 0, .int .i64 0, .int .i64 0, .int .i64 0, .bool false, .int .i64 0]), 7, 56) := by kernel_rfl
  cases hi : Try.prog.info? 115 with
  | none => rw [hi] at h; cases h
  | some i => rw [hi] at h; simp at h; exact ⟨i, rfl, h.1, h.2.1, h.2.2⟩
end Go.Proofs.Ytbhbjcgbhklieaa
