/- played: the walk. -/
import Derived.Test.YtbhbjcgbhklieaaS2
import Derived.Test.YtbhbjcgbhklieaaP4
import Derived.Test.YtbhbjcgbhklieaaF5
import Derived.Maps.AppendAt
namespace Go.Proofs.Ytbhbjcgbhklieaa
open Go.RowKit Go.Shelf

/-- a heap in a box, whose rows lie elsewhere. -/
structure BoxS (W : World) (n : Nat) (g : Option Nat) (r : HRes) (A : Option Addr) (k : Nat) (B : Option Addr) (m : Nat) : Prop where
  box : W.heap[n]? = some (.cells #[.int .i64 r.c.page, .int .i64 r.c.n, .int .i64 r.c.red, .int .i64 r.c.quarantine, .slice A r.live.length k, .slice B r.quar.length m, .int .i64 r.gi] 26 (0, 0))
  sl : Sl 3 encP W (.slice A r.live.length k) r.live
  sq : Sl 3 encP W (.slice B r.quar.length m) r.quar
  sh1 : SlShape (.slice A r.live.length k)
  sh2 : SlShape (.slice B r.quar.length m)
  ne1 : ∀ a, A = some a → r.live ≠ [] → a.block ≠ n ∧ some a.block ≠ g
  ne2 : ∀ a, B = some a → r.quar ≠ [] → a.block ≠ n ∧ some a.block ≠ g
  ne3 : ∀ a, A = some a → r.live ≠ [] → a.block ≠ n + 1
  ne4 : ∀ a, B = some a → r.quar ≠ [] → a.block ≠ n + 1
theorem BoxS.below {W W' : World} {n : Nat} {g : Option Nat} {r : HRes} {A : Option Addr} {k : Nat} {B : Option Addr} {m : Nat} (h : BoxS W n g r A k B m) (hB : Below W.heap.size W W') : BoxS W' n g r A k B m :=
  ⟨(hB.block n (blk_lt h.box)).trans h.box, h.sl.below hB, h.sq.below hB, h.sh1, h.sh2, h.ne1, h.ne2, h.ne3, h.ne4⟩
theorem sl_keepS {W W' : World} {P : Nat → Prop} {A : Option Addr} {n k : Nat} {l : List Piece} (h : Sl 3 encP W (.slice A n k) l) (hs : W.heap.size ≤ W'.heap.size) (hk : ∀ j, j < W.heap.size → P j → W'.heap[j]? = W.heap[j]?) (hne : ∀ a, A = some a → l ≠ [] → P a.block) : Sl 3 encP W' (.slice A n k) l := by
  obtain ⟨A', c, e, hc, hl⟩ := h
  cases e
  refine ⟨A, k, rfl, hc, hl.imp id fun ⟨b, off, hA, hL⟩ => ⟨b, off, hA, Nat.lt_of_lt_of_le hL.1 hs, fun j hj i u hu => ?_⟩⟩
  rw [← hL.2 j hj i u hu]
  simp only [World.cell?]
  rw [hk b hL.1 (hne _ hA (by rintro rfl; simp at hj))]
theorem fresh_neS {N : Nat} {W : World} {A : Option Addr} {m k : Nat} {l : List Piece} (h : Fresh N W (.slice A m k) l) {x : Nat} (hx : x < N) {g : Option Nat} (hg : ∀ q, g = some q → q < N) : ∀ a, A = some a → l ≠ [] → a.block ≠ x ∧ some a.block ≠ g := by
  intro a e _
  subst e
  obtain ⟨b, off, rfl, hb⟩ := h.new a m k rfl
  exact ⟨by show b ≠ x; omega, fun e => by have := hg b e.symm; omega⟩
/-- the rows of a heap lie not in block x. -/
def AvoidS (x : Nat) (r : HRes) (A B : Option Addr) : Prop := (∀ a, A = some a → r.live ≠ [] → a.block ≠ x) ∧ ∀ a, B = some a → r.quar ≠ [] → a.block ≠ x
theorem avoid_fresh {N x : Nat} {W : World} {r : HRes} {A B : Option Addr} {k m : Nat} (f1 : Fresh N W (.slice A r.live.length k) r.live) (f2 : Fresh N W (.slice B r.quar.length m) r.quar) (hx : x < N) : AvoidS x r A B :=
  ⟨fun a e e' => (fresh_neS f1 hx (g := none) (fun _ h => by cases h) a e e').1, fun a e e' => (fresh_neS f2 hx (g := none) (fun _ h => by cases h) a e e').1⟩
/-- the answer's heap, stored over the box. -/
theorem store_st {v wz : World} {n N : Nat} {r : HRes} {A B : Option Addr} {k m : Nat} {o0 o1 o2 o3 o4 o5 o6 : Value} (hb : v.heap[n]? = some (.cells #[o0, o1, o2, o3, o4, o5, o6] 26 (0, 0))) (h0 : Below wz.heap.size wz v) (hn : wz.heap.size ≤ n)
    (f1 : Fresh N v (.slice A r.live.length k) r.live) (f2 : Fresh N v (.slice B r.quar.length m) r.quar) (hx : n + 1 < N) {g : Option Nat} (hg : ∀ q, g = some q → q < N) :
    Below wz.heap.size wz (((((((v.setCell ⟨n, 0, none⟩ (.int .i64 r.c.page)).setCell ⟨n, 1, none⟩ (.int .i64 r.c.n)).setCell ⟨n, 2, none⟩ (.int .i64 r.c.red)).setCell ⟨n, 3, none⟩ (.int .i64 r.c.quarantine)).setCell ⟨n, 4, none⟩ (.slice A r.live.length k)).setCell ⟨n, 5, none⟩ (.slice B r.quar.length m)).setCell ⟨n, 6, none⟩ (.int .i64 r.gi)) ∧ BoxS (((((((v.setCell ⟨n, 0, none⟩ (.int .i64 r.c.page)).setCell ⟨n, 1, none⟩ (.int .i64 r.c.n)).setCell ⟨n, 2, none⟩ (.int .i64 r.c.red)).setCell ⟨n, 3, none⟩ (.int .i64 r.c.quarantine)).setCell ⟨n, 4, none⟩ (.slice A r.live.length k)).setCell ⟨n, 5, none⟩ (.slice B r.quar.length m)).setCell ⟨n, 6, none⟩ (.int .i64 r.gi)) n g r A k B m ∧ (((((((v.setCell ⟨n, 0, none⟩ (.int .i64 r.c.page)).setCell ⟨n, 1, none⟩ (.int .i64 r.c.n)).setCell ⟨n, 2, none⟩ (.int .i64 r.c.red)).setCell ⟨n, 3, none⟩ (.int .i64 r.c.quarantine)).setCell ⟨n, 4, none⟩ (.slice A r.live.length k)).setCell ⟨n, 5, none⟩ (.slice B r.quar.length m)).setCell ⟨n, 6, none⟩ (.int .i64 r.gi)).heap.size = v.heap.size ∧ ∀ j, j ≠ n → (((((((v.setCell ⟨n, 0, none⟩ (.int .i64 r.c.page)).setCell ⟨n, 1, none⟩ (.int .i64 r.c.n)).setCell ⟨n, 2, none⟩ (.int .i64 r.c.red)).setCell ⟨n, 3, none⟩ (.int .i64 r.c.quarantine)).setCell ⟨n, 4, none⟩ (.slice A r.live.length k)).setCell ⟨n, 5, none⟩ (.slice B r.quar.length m)).setCell ⟨n, 6, none⟩ (.int .i64 r.gi)).heap[j]? = v.heap[j]? := by
  have e1 := row_setCell (o := 0) (.int .i64 r.c.page) hb
  have e2 := row_setCell (o := 1) (.int .i64 r.c.n) e1
  have e3 := row_setCell (o := 2) (.int .i64 r.c.red) e2
  have e4 := row_setCell (o := 3) (.int .i64 r.c.quarantine) e3
  have e5 := row_setCell (o := 4) (.slice A r.live.length k) e4
  have e6 := row_setCell (o := 5) (.slice B r.quar.length m) e5
  have e7 := row_setCell (o := 6) (.int .i64 r.gi) e6
  simp only [List.setIfInBounds_toArray, List.set_cons_zero, List.set_cons_succ] at e7
  have hkp : ∀ j, j ≠ n → (((((((v.setCell ⟨n, 0, none⟩ (.int .i64 r.c.page)).setCell ⟨n, 1, none⟩ (.int .i64 r.c.n)).setCell ⟨n, 2, none⟩ (.int .i64 r.c.red)).setCell ⟨n, 3, none⟩ (.int .i64 r.c.quarantine)).setCell ⟨n, 4, none⟩ (.slice A r.live.length k)).setCell ⟨n, 5, none⟩ (.slice B r.quar.length m)).setCell ⟨n, 6, none⟩ (.int .i64 r.gi)).heap[j]? = v.heap[j]? := fun j hj => by
    repeat' first | refine Eq.trans (Below.heap_setCell _ _ _ _ hj) ?_ | rfl
  have hsz7 : (((((((v.setCell ⟨n, 0, none⟩ (.int .i64 r.c.page)).setCell ⟨n, 1, none⟩ (.int .i64 r.c.n)).setCell ⟨n, 2, none⟩ (.int .i64 r.c.red)).setCell ⟨n, 3, none⟩ (.int .i64 r.c.quarantine)).setCell ⟨n, 4, none⟩ (.slice A r.live.length k)).setCell ⟨n, 5, none⟩ (.slice B r.quar.length m)).setCell ⟨n, 6, none⟩ (.int .i64 r.gi)).heap.size = v.heap.size := by simp [World.setCell]
  have hbel7 : Below wz.heap.size wz (((((((v.setCell ⟨n, 0, none⟩ (.int .i64 r.c.page)).setCell ⟨n, 1, none⟩ (.int .i64 r.c.n)).setCell ⟨n, 2, none⟩ (.int .i64 r.c.red)).setCell ⟨n, 3, none⟩ (.int .i64 r.c.quarantine)).setCell ⟨n, 4, none⟩ (.slice A r.live.length k)).setCell ⟨n, 5, none⟩ (.slice B r.quar.length m)).setCell ⟨n, 6, none⟩ (.int .i64 r.gi)) :=
    ((((((h0.setCell (p := ⟨n, 0, none⟩) hn _).setCell (p := ⟨n, 1, none⟩) hn _).setCell (p := ⟨n, 2, none⟩) hn _).setCell (p := ⟨n, 3, none⟩) hn _).setCell (p := ⟨n, 4, none⟩) hn _).setCell (p := ⟨n, 5, none⟩) hn _).setCell (p := ⟨n, 6, none⟩) hn _
  generalize (((((((v.setCell ⟨n, 0, none⟩ (.int .i64 r.c.page)).setCell ⟨n, 1, none⟩ (.int .i64 r.c.n)).setCell ⟨n, 2, none⟩ (.int .i64 r.c.red)).setCell ⟨n, 3, none⟩ (.int .i64 r.c.quarantine)).setCell ⟨n, 4, none⟩ (.slice A r.live.length k)).setCell ⟨n, 5, none⟩ (.slice B r.quar.length m)).setCell ⟨n, 6, none⟩ (.int .i64 r.gi)) = v2 at e7 hkp hsz7 hbel7 ⊢
  have g1 := fresh_neS f1 (Nat.lt_of_succ_lt hx) hg
  have g2 := fresh_neS f2 (Nat.lt_of_succ_lt hx) hg
  exact ⟨hbel7, ⟨e7, sl_keepS (P := fun j => j ≠ n) f1.sl (by omega) (fun j _ hj => hkp j hj) (fun a e e' => (g1 a e e').1), sl_keepS (P := fun j => j ≠ n) f2.sl (by omega) (fun j _ hj => hkp j hj) (fun a e e' => (g2 a e e').1), f1.shape, f2.shape, g1, g2, fun a e e' => (fresh_neS f1 hx hg a e e').1, fun a e e' => (fresh_neS f2 hx hg a e e').1⟩, hsz7, hkp⟩
theorem sl_neS {W : World} {A : Option Addr} {n k : Nat} {l : List Piece} (h : Sl 3 encP W (.slice A n k) l) {x : Nat} (hx : W.heap.size ≤ x) : ∀ a, A = some a → l ≠ [] → a.block ≠ x ∧ some a.block ≠ none := by
  intro a e hl
  obtain ⟨A', c, e', _, h0 | ⟨b, off, e2, hL⟩⟩ := h
  · exact absurd h0 hl
  · cases e'; rw [e] at e2; cases e2
    have := hL.1
    exact ⟨by show b ≠ x; omega, fun e => by cases e⟩

def encU (z : Int) : List Value := [.int .u32 z]
theorem info27 : ∃ i, Try.prog.info? 27 = some i ∧ i.zero = some (.int .u32 0) ∧ i.size = 1 ∧ i.bytes = 4 := by
  have h : (Try.prog.info? 27).map (fun i => (i.zero, i.size, i.bytes)) = some (some (.int .u32 0), 1, 4) := by kernel_rfl
  cases hi : Try.prog.info? 27 with
  | none => rw [hi] at h; cases h
  | some i => rw [hi] at h; simp at h; exact ⟨i, rfl, h.1, h.2.1, h.2.2⟩
theorem append_one27 (base : Nat) (v : Value) (S : List Int) (x : Int) (nb : Nat) (w : World) (ho : w.ownsRow base 27 1 v S.length (S.flatMap encU)) (hnb : w.heap[nb]? = some (.cells #[.int .u32 x] 27 (0, 0))) (hn : S.length ≤ 3000) (hb : base ≤ w.heap.size) :
    ∃ v' w', (Builtin.append_ #[77, 77] 77 #[v, .slice (some ⟨nb, 0, none⟩) 1 1]).run Try.prog w = .ok v' w' ∧ w'.ownsRow base 27 1 v' (S ++ [x]).length ((S ++ [x]).flatMap encU) ∧ w.grownBy w' v.ownBlock ∧ (v'.ownBlock = v.ownBlock ∨ v'.ownBlock = some w.heap.size) := by
  obtain ⟨i0, hi0, hi1, hi2, hi3⟩ := info27
  obtain ⟨v', w', hrun, hown, hgr, _, hat⟩ := run_append_own_at (P := Try.prog) w base 77 77 27 i0 (.int .u32 0) 1 4 Try.underlying77 hi0 hi1 hi2 hi3 rfl (by omega) v S.length (S.flatMap encU) ho ⟨nb, 0, none⟩ 1 1 [.int .u32 x] rfl
    (fun j u hu => by rw [Addr.add_lit, blk_cell hnb]; simpa using hu) (by simp [Value.oneCell']) (by unfold maxLen; omega) (by omega) hb
  exact ⟨v', w', hrun, by rw [List.length_append, List.flatMap_append]; exact hown, hgr, hat⟩
theorem slU_of_own {w : World} {base : Nat} {v : Value} {zs : List Int} (h : w.ownsRow base 27 1 v zs.length (zs.flatMap encU)) : Sl 1 encU w v zs := by
  rcases h.2 with ⟨rfl, h0⟩ | ⟨g, cap, cur, rfl, hb, hg, hc, hm, hcs, ht⟩
  · exact ⟨none, 0, by rw [h0], by omega, .inl (List.eq_nil_of_length_eq_zero h0)⟩
  · refine ⟨_, _, rfl, hc, .inr ⟨g, 0, rfl, blk_lt hg, fun j hj i v hv => ?_⟩⟩
    have hi : i < 1 := (List.getElem?_eq_some_iff.1 hv).1
    have h1 : (zs.flatMap encU)[j * 1 + i]? = some v := by rw [flat_get encU 1 (fun _ => rfl) zs j i hj hi]; exact hv
    rw [row_cell hg, Nat.zero_add, ← h1, ← ht, List.getElem?_take_of_lt (by omega)]
theorem BoxS.append {V V' : World} {n : Nat} {g g' : Option Nat} {r : HRes} {A : Option Addr} {k : Nat} {B : Option Addr} {m : Nat} (h : BoxS V n g r A k B m) {o : Obj} (hgr : (V.alloc o).grownBy V' g) (hng : some n ≠ g) (hat : g' = g ∨ g' = some (V.alloc o).heap.size) : BoxS V' n g' r A k B m := by
  have hk : ∀ j, j < V.heap.size → some j ≠ g → V'.heap[j]? = V.heap[j]? := fun j hj hne => (hgr.block j (by simp; omega) hne).trans (Below.heap_alloc V o j hj)
  have hs : V.heap.size ≤ V'.heap.size := by have := hgr.size; simp at this; omega
  have hnew : ∀ (A : Option Addr) (q k : Nat) (l : List Piece), Sl 3 encP V (.slice A q k) l → ∀ a, A = some a → l ≠ [] → (a.block ≠ n ∧ some a.block ≠ g) → a.block ≠ n ∧ some a.block ≠ g' := by
    intro A q k l hsl a e hl hne
    refine ⟨hne.1, fun e' => ?_⟩
    rcases hat with rfl | rfl
    · exact hne.2 e'
    · obtain ⟨A', c, e2, _, h0 | ⟨b, off, e3, hL⟩⟩ := hsl
      · exact hl h0
      · cases e2; rw [e] at e3; cases e3
        have := hL.1
        simp at e'
        omega
  exact ⟨(hk n (blk_lt h.box) hng).trans h.box, sl_keepS (P := fun j => some j ≠ g) h.sl hs hk (fun a e e' => (h.ne1 a e e').2), sl_keepS (P := fun j => some j ≠ g) h.sq hs hk (fun a e e' => (h.ne2 a e e').2), h.sh1, h.sh2,
    fun a e e' => hnew _ _ _ _ h.sl a e e' (h.ne1 a e e'), fun a e e' => hnew _ _ _ _ h.sq a e e' (h.ne2 a e e'), h.ne3, h.ne4⟩
theorem own_belowU {w W : World} {base : Nat} {e : TypeId} {k : Nat} {v : Value} {n : Nat} {xs : List Value} (h : w.ownsRow base e k v n xs) (hW : Below w.heap.size w W) : W.ownsRow base e k v n xs :=
  ⟨h.1, h.2.imp id fun ⟨g, cap, cur, hv, hb, hg, rest⟩ => ⟨g, cap, cur, hv, hb, (hW.block g (blk_lt hg)).trans hg, rest⟩⟩
theorem own_keepS {w W : World} {base n z : Nat} {v : Value} {xs : List Value} (h : w.ownsRow base 27 1 v n xs) (hz : z < base) (hk : ∀ j, j < w.heap.size → j ≠ z → W.heap[j]? = w.heap[j]?) : W.ownsRow base 27 1 v n xs :=
  ⟨h.1, h.2.imp id fun ⟨g, cap, cur, hv, hb, hg, rest⟩ => ⟨g, cap, cur, hv, hb, (hk g (blk_lt hg) (by omega)).trans hg, rest⟩⟩
