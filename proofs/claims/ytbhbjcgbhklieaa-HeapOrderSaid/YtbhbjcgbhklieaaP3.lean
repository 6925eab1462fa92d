/- HeapOrder: the plain law; the closure, and ContainsFunc with it. -/
import Derived.Test.YtbhbjcgbhklieaaG4
import Derived.Test.YtbhbjcgbhklieaaF5
namespace Go.Proofs.Ytbhbjcgbhklieaa
open Go.RowKit Go.Shelf

def remF (live ch : List Piece) : List Piece := live.filter (fun p => decide (p ∉ ch))
theorem eraseIdx_filter : ∀ (l : List Piece) (j : Nat), l.Nodup → j < l.length → l.eraseIdx j = l.filter (fun x => decide (x ≠ l[j]!))
  | [], _, _, h => by simp at h
  | a :: l, 0, hn, _ => by
    have h := (List.nodup_cons.1 hn).1
    simp only [List.eraseIdx_cons_zero]
    rw [List.filter_cons_of_neg (by simp)]
    rw [List.filter_eq_self.2]
    intro x hx
    have : x ≠ a := fun e => h (e ▸ hx)
    simpa using this
  | a :: l, j + 1, hn, hj => by
    have h := List.nodup_cons.1 hn
    have hj' : j < l.length := by simpa using hj
    simp only [List.eraseIdx_cons_succ, List.getElem!_cons_succ]
    rw [eraseIdx_filter l j h.2 hj', List.filter_cons_of_pos]
    have : a ≠ l[j]! := fun e => h.1 (by rw [e, getElem!_pos l j hj']; exact List.getElem_mem hj')
    simpa using this
theorem trimF_zero (Q : Int) (hQ : Q ≤ 0) (p : Piece) (hp : 0 < p.size) : ∀ (l : List Piece), (∀ x ∈ l, 0 ≤ x.size) → trimF Q (l ++ [p]) = []
  | [], _ => by
    simp only [List.nil_append, trimF]
    rw [if_pos (.inr (by simp; omega))]
  | x :: l, h => by
    have h1 := sum_nonneg l (fun y hy => h y (List.mem_cons_of_mem _ hy))
    have h2 := h x (List.mem_cons_self ..)
    simp only [List.cons_append, trimF]
    rw [if_pos (.inr (by simp; omega))]
    exact trimF_zero Q hQ p hp l (fun y hy => h y (List.mem_cons_of_mem _ hy))

/-- a heap whose blocks ch have been freed. -/
structure FreedTo (c : Conf) (gi : Int) (live quar ch lf qf : List Piece) : Prop where
  eq : lf = remF live ch
  good : GoodP c gi lf qf
  wl : ∀ p ∈ lf, WfP p
  wq : ∀ p ∈ qf, WfP p
  len : lf.length + ch.length = live.length
  none : ch = [] → qf = quar
  all : c.quarantine ≤ 0 → (∀ p ∈ ch, p.size ≠ 0) → ch ≠ [] → qf = []
theorem FreedTo.start {c : Conf} {gi : Int} {live quar : List Piece} (g : GoodP c gi live quar) (wl : ∀ p ∈ live, WfP p) (wq : ∀ p ∈ quar, WfP p) : FreedTo c gi live quar [] live quar :=
  ⟨by unfold remF; rw [List.filter_eq_self.2]; intro x _; simp, g, wl, wq, rfl, fun _ => rfl, fun _ _ h => absurd rfl h⟩
theorem strict_nodup {l : List Piece} (h : l.Pairwise (fun p q => p.pos < q.pos)) : l.Nodup := h.imp (fun {a b} h e => by rw [e] at h; omega)
theorem FreedTo.step {c : Conf} {gi : Int} {live quar ch lf qf : List Piece} (h : FreedTo c gi live quar ch lf qf) {p : Piece} (hp : p ∈ live) (hc : p ∉ ch) {ch' : List Piece} (hm : ∀ x, x ∈ ch' ↔ x = p ∨ x ∈ ch) (hl : ch'.length = ch.length + 1) :
    isI lf p.pos = true ∧ lf[atI lf p.pos]! = p ∧ FreedTo c gi live quar ch' (lf.eraseIdx (atI lf p.pos)) (trimF c.quarantine (qf ++ [lf[atI lf p.pos]!])) := by
  have hpl : p ∈ lf := by rw [h.eq]; exact List.mem_filter.2 ⟨hp, by simpa using hc⟩
  obtain ⟨j, hj, hjp⟩ := List.getElem_of_mem hpl
  have hjp' : lf[j]! = p := by rw [getElem!_pos lf j hj]; exact hjp
  have ha := at_of h.good.pos hj
  rw [hjp'] at ha
  obtain ⟨ha1, ha2⟩ := ha
  rw [ha1]
  refine ⟨ha2, hjp', ?_, free_good h.good hj, fun q hq => h.wl q ((List.eraseIdx_sublist lf j).mem hq), fun q hq => ?_, ?_, fun e => ?_, fun hQ hz _ => ?_⟩
  · rw [eraseIdx_filter lf j (strict_nodup h.good.pos) hj, hjp', h.eq]
    unfold remF
    rw [List.filter_filter]
    refine List.filter_congr fun x _ => ?_
    by_cases h1 : x = p <;> by_cases h2 : x ∈ ch <;> simp [hm, h1, h2]
  · rcases List.mem_append.1 ((trimF_suffix _ _).subset hq) with hq | hq
    · exact h.wq q hq
    · rw [List.mem_singleton.1 hq, hjp']; exact h.wl p hpl
  · rw [List.length_eraseIdx_of_lt hj, hl]; have := h.len; omega
  · rw [e] at hl; simp at hl
  · rw [hjp']
    have hps : 0 < p.size := by
      have h1 := (h.good.each p (List.mem_append_left _ hpl)).2.1
      have h2 := hz p ((hm p).2 (.inl rfl))
      omega
    exact trimF_zero _ hQ p hps qf (fun x hx => (h.good.each x (List.mem_append_right _ hx)).2.1)
/-- both orders end alike. -/
theorem FreedTo.both {c : Conf} {gi : Int} {live quar ch la qa lb qb : List Piece} (ha : FreedTo c gi live quar ch la qa) (hb : FreedTo c gi live quar ch lb qb) : la = lb ∧ (c.quarantine ≤ 0 → (∀ p ∈ ch, p.size ≠ 0) → qa = qb) := by
  refine ⟨ha.eq.trans hb.eq.symm, fun hQ hz => ?_⟩
  by_cases hc : ch = []
  · rw [ha.none hc, hb.none hc]
  · rw [ha.all hQ hz hc, hb.all hQ hz hc]

/-- HeapOrder's closure. -/
theorem c44 (p : Piece) (w : World) : Calls Try.prog 44 #[.agg (encP p).toArray] w fun e w' => e = .returned (.bool (decide (p.size = 0))) ∧ Below w.heap.size w w' := by
  unfold encP
  go_enter Try.func44, Try.ntmps44
  by_cases h : p.size = 0
  · go_wp2
    go_ret
    exact ⟨by simp [h], below_alloc1 _ _⟩
  · go_wp2
    go_ret
    exact ⟨by simp [h], below_alloc1 _ _⟩
theorem eg44 : ∀ args w, (callFunc 44 args).run Try.prog w = .ok (.enter 44 args) w := enters_of Try.func44 (by kernel_rfl) rfl
set_option maxRecDepth 100000 in
theorem c74_nil (A : Option Addr) (c g : Nat) (lb : Array Value) (w : World) : Calls Try.prog 74 #[.slice A 0 c, .func (.func g) #[] lb] w fun e w' => e = .returned (.int .i64 (-1)) ∧ Below w.heap.size w w' := by
  go_enter Try.func74, Try.ntmps74
  go_wp2
  refine wp_loop_rounds 1 ?_
  rw [rounds_succ]
  go_wp2
  go_ret
  exact ⟨rfl, Below.refl _ _⟩
theorem c24_nil (A : Option Addr) (c g : Nat) (lb : Array Value) (w : World) : Calls Try.prog 24 #[.slice A 0 c, .func (.func g) #[] lb] w fun e w' => e = .returned (.bool false) ∧ Below w.heap.size w w' := by
  have h := c74_nil A c g lb w
  go_enter Try.func24, Try.ntmps24
  go_wp2_with fail
  refine Calls.mono h ?_
  rintro e w' ⟨rfl, hB⟩
  go_wp2
  go_ret
  exact ⟨rfl, hB⟩
theorem c24_zero (v : Value) (zs : List Piece) (w : World) (hs : Sl 3 encP w v zs) (hn : zs.length ≤ 100000) : Calls Try.prog 24 #[v, .func (.func 44) #[] #[]] w fun e w' => e = .returned (.bool (zs.any fun p => decide (p.size = 0))) ∧ Below w.heap.size w w' := by
  by_cases h0 : zs = []
  · subst h0
    obtain ⟨A, c, rfl, _, _⟩ := hs
    exact c24_nil A c 44 #[] w
  · refine c24_any 44 #[] eg44 v zs _ w hs hn ?_ h0
    intro W x hW
    exact (c44 x W).mono fun e w' ⟨he, hB⟩ => ⟨he, hW.trans (hB.mono hW.size)⟩
end Go.Proofs.Ytbhbjcgbhklieaa
