/- opened: one contract. -/
import Derived.Test.YtbhbjcgbhklieaaB5
import Derived.Test.YtbhbjcgbhklieaaB2
namespace Go.Proofs.Ytbhbjcgbhklieaa
open Go.RowKit Go.Shelf

abbrev Dj (x y : Ext) : Prop := x.to ≤ y.fr ∨ y.to ≤ x.fr

theorem adj_iff (L : List Ext) (hne : ∀ x ∈ L, x.fr < x.to) (hs : SortedFr L) : Adj L ↔ L.Pairwise Dj := by
  constructor
  · intro h
    rw [List.pairwise_iff_getElem]
    intro i j hi hj hij
    left
    have h1 := h i (by omega)
    have e1 : L[i]! = L[i] := getElem!_pos L i hi
    have e2 : L[j]! = L[j] := getElem!_pos L j hj
    rw [e1] at h1
    by_cases hj2 : i + 1 = j
    · rw [hj2, e2] at h1; exact h1
    · have h2 := hs (i + 1) j (by omega) hj
      rw [e2] at h2
      omega
  · intro h j hj
    rw [List.pairwise_iff_getElem] at h
    have h1 := h j (j + 1) (by omega) hj (by omega)
    have h2 := hs j (j + 1) (by omega) hj
    have e1 : L[j]! = L[j] := getElem!_pos L j (by omega)
    have e2 : L[j + 1]! = L[j + 1] := getElem!_pos L (j + 1) hj
    rw [e1, e2] at h2 ⊢
    have h3 := hne L[j + 1] (List.getElem_mem hj)
    rcases h1 with h1 | h1
    · exact h1
    · omega

/-- a piece as it lies in memory. -/
def WfP (p : Piece) : Prop := 0 ≤ p.pos ∧ p.pos < 4294967296
theorem mkE_ne (red : Int) (h0 : 0 ≤ red) (h1 : red ≤ 64) (q : Bool) (i : Nat) (p : Piece) (hp : WfP p) (hz0 : 0 ≤ p.size) (hz : p.size ≤ 65536) : (mkE red q i p).fr = p.pos - red ∧ (mkE red q i p).to = p.pos + max p.size 1 + red := by
  obtain ⟨a, b⟩ := hp
  simp only [mkE, takenF]
  constructor <;> (unfold wrap64; omega)

theorem items_mem (red : Int) : ∀ (q : Bool) (i : Nat) (l : List Piece) (x : Ext), x ∈ itemsFrom red q i l → ∃ p ∈ l, ∃ j, x = mkE red q j p
  | _, _, [], _, h => by cases h
  | q, i, p :: l, x, h => by
    simp only [itemsFrom, List.mem_cons] at h
    rcases h with rfl | h
    · exact ⟨p, List.mem_cons_self .., i, rfl⟩
    · obtain ⟨p', hp, j, e⟩ := items_mem red q (i + 1) l x h
      exact ⟨p', List.mem_cons_of_mem _ hp, j, e⟩

theorem okGo_mem (c : Conf) (gi : Int) : ∀ (s : List Int) (l : List Ext), okGo c gi s l → ∀ x ∈ l, 0 ≤ x.p.size ∧ x.p.size ≤ 65536
  | _, [], _, _, h => by cases h
  | s, y :: l, h, x, hx => by
    rcases List.mem_cons.1 hx with rfl | hx
    · exact ⟨h.1.2.1, h.1.2.2.1⟩
    · exact okGo_mem c gi _ l h.2 x hx

structure Good (c : Conf) (gi : Int) (live quar : List Piece) : Prop where
  conf : okConf c = true
  gi0 : 0 ≤ gi
  gi1 : gi ≤ 1073741824
  n1 : live.length ≤ 1000
  n2 : quar.length ≤ 1000
  ok : okGo c gi [] (items c.red live quar)
  dj : (items c.red live quar).Pairwise Dj
  pos : SortedPos live
  held : heldF (items c.red live quar) ≤ c.quarantine

def OpAns (c : Conf) (lv qv : Value) (gi : Int) (live quar : List Piece) (w : World) (e : Ending) (w' : World) : Prop :=
  Below w.heap.size w w' ∧
  ((¬ Good c gi live quar ∧ ∃ p, e = .returned (.tuple #[.pointer p, .bool false])) ∨
   (Good c gi live quar ∧ e = .returned (.tuple #[.pointer (some ⟨w.heap.size + 3, 0, none⟩), .bool true]) ∧
     ∃ L : List Ext, L.Perm (items c.red live quar) ∧ SortedFr L ∧ Adj L ∧ HeapB w' (w.heap.size + 3) c lv qv gi L))

theorem c68 (c : Conf) (lv qv : Value) (gi : Int) (live quar : List Piece) (w : World) (hl : Sl 3 encP w lv live) (hq : Sl 3 encP w qv quar) (wl : ∀ p ∈ live, WfP p) (wq : ∀ p ∈ quar, WfP p) :
    Calls Try.prog 68 #[.agg #[.int .i64 c.page, .int .i64 c.n, .int .i64 c.red, .int .i64 c.quarantine, lv, qv, .int .i64 gi]] w (OpAns c lv qv gi live quar w) := by
  by_cases h : okConf c = false ∨ gi < 0 ∨ 1073741824 < gi ∨ 1000 < live.length ∨ 1000 < quar.length
  · obtain ⟨A, ca, rfl, _, _⟩ := hl
    obtain ⟨B, cb, rfl, _, _⟩ := hq
    refine (c68_no c A B live.length ca quar.length cb gi w h).mono ?_
    rintro e w' ⟨rfl, hB⟩
    refine ⟨hB, .inl ⟨fun g => ?_, none, rfl⟩⟩
    obtain ⟨g1, g2, g3, g4, g5, _⟩ := g
    rcases h with h | h | h | h | h
    · rw [g1] at h; cases h
    all_goals omega
  · have hc : okConf c = true := by cases hc : okConf c <;> simp_all
    have hb := hc
    simp only [okConf, decide_eq_true_eq] at hb
    have h1 : 0 ≤ gi := by have := fun hh => h (.inr (.inl hh)); omega
    have h2 : gi ≤ 1073741824 := by have := fun hh => h (.inr (.inr (.inl hh))); omega
    have h3 : live.length ≤ 1000 := by have := fun hh => h (.inr (.inr (.inr (.inl hh)))); omega
    have h4 : quar.length ≤ 1000 := by have := fun hh => h (.inr (.inr (.inr (.inr hh)))); omega
    refine (callsIn_wide.1 (c68_yes c lv qv gi live quar w hc h1 h2 hl hq h3 h4)).mono ?_
    rintro e w' ⟨hB, ⟨hno, rfl⟩ | ⟨hgo, L, hp, hs, hr⟩⟩
    · exact ⟨hB, .inl ⟨fun g => hno g.ok, none, rfl⟩⟩
    · have hne : ∀ x ∈ items c.red live quar, x.fr < x.to := fun x hx => by
        have hsz := okGo_mem c gi [] _ hgo x hx
        rcases List.mem_append.1 hx with hx | hx
        · obtain ⟨p, hp, j, rfl⟩ := items_mem _ _ _ _ _ hx
          have := mkE_ne c.red (by omega) (by omega) false j p (wl p hp) hsz.1 hsz.2
          have := hsz.1
          omega
        · obtain ⟨p, hp, j, rfl⟩ := items_mem _ _ _ _ _ hx
          have := mkE_ne c.red (by omega) (by omega) true j p (wq p hp) hsz.1 hsz.2
          have := hsz.1
          omega
      have hadj := adj_iff L (fun x hx => hne x (hp.mem_iff.1 hx)) hs
      have hpw : L.Pairwise Dj ↔ (items c.red live quar).Pairwise Dj := ⟨fun hh => hh.perm hp (fun {x y} hxy => hxy.symm), fun hh => hh.perm hp.symm (fun {x y} hxy => hxy.symm)⟩
      rcases hr with ⟨hna, rfl⟩ | ⟨ha, rfl, hH⟩
      · exact ⟨hB, .inl ⟨fun g => hna (hadj.2 (hpw.2 g.dj)), none, rfl⟩⟩
      · by_cases hf : SortedPos live ∧ heldF (items c.red live quar) ≤ c.quarantine
        · exact ⟨hB, .inr ⟨⟨hc, h1, h2, h3, h4, hgo, hpw.1 (hadj.1 ha), hf.1, hf.2⟩, by simp [hf.1, hf.2], L, hp, hs, ha, hH⟩⟩
        · refine ⟨hB, .inl ⟨fun g => hf ⟨g.pos, g.held⟩, some ⟨w.heap.size + 3, 0, none⟩, ?_⟩⟩
          have : (decide (SortedPos live) && decide (heldF (items c.red live quar) ≤ c.quarantine)) = false := by
            rw [Bool.and_eq_false_iff]; simp only [decide_eq_false_iff_not]; exact Decidable.not_and_iff_not_or_not.1 hf
          rw [this]

/-- what the sorted list of a good heap is. -/
theorem good_list {c : Conf} {gi : Int} {live quar : List Piece} (g : Good c gi live quar) (wl : ∀ p ∈ live, WfP p) (wq : ∀ p ∈ quar, WfP p) {L : List Ext} (hp : L.Perm (items c.red live quar)) (hs : SortedFr L) (ha : Adj L) :
    (∀ x ∈ L, x.fr < x.to ∧ 0 ≤ x.p.pos ∧ x.p.pos < 4294967296) ∧ (∀ i j, i ≤ j → j < L.length → L[i]!.to ≤ L[j]!.to) ∧ L.length ≤ 2000 ∧ (∀ i j, i ≤ j → j < live.length → live[i]!.pos ≤ live[j]!.pos) := by
  have hb := g.conf
  simp only [okConf, decide_eq_true_eq] at hb
  have h1 : ∀ x ∈ L, x.fr < x.to ∧ 0 ≤ x.p.pos ∧ x.p.pos < 4294967296 := fun x hx => by
    have hx' := hp.mem_iff.1 hx
    have hsz := okGo_mem c gi [] _ g.ok x hx'
    rcases List.mem_append.1 hx' with hx | hx
    · obtain ⟨p, hp, j, rfl⟩ := items_mem _ _ _ _ _ hx
      have := mkE_ne c.red (by omega) (by omega) false j p (wl p hp) hsz.1 hsz.2
      have := hsz.1
      exact ⟨by omega, (wl p hp).1, (wl p hp).2⟩
    · obtain ⟨p, hp, j, rfl⟩ := items_mem _ _ _ _ _ hx
      have := mkE_ne c.red (by omega) (by omega) true j p (wq p hp) hsz.1 hsz.2
      have := hsz.1
      exact ⟨by omega, (wq p hp).1, (wq p hp).2⟩
  refine ⟨h1, fun i j hij hj => ?_, ?_, fun i j hij hj => ?_⟩
  · by_cases e : i = j
    · subst e; exact Int.le_refl _
    have hi : i + 1 < L.length := by omega
    have h2 := ha i hi
    have h3 := (h1 L[j]! (by rw [getElem!_pos L j hj]; exact List.getElem_mem hj)).1
    by_cases e2 : i + 1 = j
    · rw [e2] at h2; omega
    · have := hs (i + 1) j (by omega) hj; omega
  · rw [hp.length_eq]; simp only [items, List.length_append, itemsFrom_len]; have := g.n1; have := g.n2; omega
  · obtain ⟨d, rfl⟩ : ∃ d, j = i + d := ⟨j - i, by omega⟩
    clear hij
    induction d with
    | zero => exact Int.le_refl _
    | succ d ih => exact Int.le_trans (ih (by omega)) (g.pos (i + d) hj)
end Go.Proofs.Ytbhbjcgbhklieaa
