/- HeapQuarantine: the plain law. -/
import Derived.Test.YtbhbjcgbhklieaaD3
namespace Go.Proofs.Ytbhbjcgbhklieaa
open Go.RowKit

theorem sum_nonneg : ∀ (l : List Piece), (∀ p ∈ l, 0 ≤ p.size) → 0 ≤ (l.map (·.size)).sum
  | [], _ => by simp
  | p :: l, h => by
    have h1 := h p (List.mem_cons_self ..)
    have h2 := sum_nonneg l (fun q hq => h q (List.mem_cons_of_mem _ hq))
    simp only [List.map_cons, List.sum_cons]; omega
theorem sum_drop_le (l : List Piece) (h : ∀ p ∈ l, 0 ≤ p.size) (a d : Nat) : ((l.drop (a + d)).map (·.size)).sum ≤ ((l.drop a).map (·.size)).sum := by
  have e : l.drop a = (l.drop a).take d ++ l.drop (a + d) := by rw [← List.drop_drop, List.take_append_drop]
  rw [e, List.map_append, List.sum_append]
  have := sum_nonneg ((l.drop a).take d) (fun p hp => h p (List.mem_of_mem_drop (List.mem_of_mem_take hp)))
  omega
/-- what the law's loop finds is what the quarantine keeps. -/
theorem trim_of {Q : Int} {l : List Piece} {n : Nat} (h0 : ∀ p ∈ l, 0 ≤ p.size) (hl : l.length ≤ 1000) (hn : n ≤ l.length) (hQ : 0 ≤ Q) (hs : ((l.drop (l.length - n)).map (·.size)).sum ≤ Q)
    (hm : n < l.length → Q < ((l.drop (l.length - n)).map (·.size)).sum + l[l.length - 1 - n]!.size) : trimF Q l = l.drop (l.length - n) := by
  have h1 : l.drop (l.length - n) <:+ trimF Q l := trimF_most (List.drop_suffix _ _) (by simp; omega) hs
  have h2 := List.suffix_iff_eq_drop.1 (trimF_suffix Q l)
  have h3 := h1.length_le
  have h4 := (trimF_suffix Q l).length_le
  rw [List.length_drop] at h3
  have h5 : (trimF Q l).length ≤ n := by
    refine Nat.le_of_not_lt fun hlt => ?_
    have hnl : n < l.length := by omega
    have h6 := hm hnl
    have h7 := (trimF_ok hQ l).2
    rw [h2] at h7
    obtain ⟨d, hd⟩ : ∃ d, l.length - (n + 1) = (l.length - (trimF Q l).length) + d := ⟨(trimF Q l).length - (n + 1), by omega⟩
    have h8 := sum_drop_le l h0 (l.length - (trimF Q l).length) d
    rw [← hd] at h8
    have h9 : l.drop (l.length - (n + 1)) = l[l.length - 1 - n]! :: l.drop (l.length - n) := by
      rw [List.drop_eq_getElem_cons (by omega), getElem!_pos l (l.length - 1 - n) (by omega)]
      congr 1
      · congr 1; omega
      · congr 1; omega
    rw [h9] at h8
    simp only [List.map_cons, List.sum_cons] at h8
    omega
  rw [h2, show (trimF Q l).length = n by omega]

/-- Free leaves a good heap. -/
theorem free_good {c : Conf} {gi : Int} {live quar : List Piece} (g : GoodP c gi live quar) {i : Nat} (hi : i < live.length) : GoodP c gi (live.eraseIdx i) (trimF c.quarantine (quar ++ [live[i]!])) := by
  have hb := g.conf
  simp only [okConf, decide_eq_true_eq] at hb
  have h := trimF_ok (Q := c.quarantine) (by omega) (quar ++ [live[i]!])
  refine g.free hi ?_ h.1 h.2
  rw [← getElem!_pos live i hi]
  exact trimF_suffix _ _

/-- a block that is placed meets none. -/
theorem room_apart {c : Conf} {gi : Int} {live quar : List Piece} {L : List Ext} (h : Op c gi live quar L) (wl : ∀ p ∈ live, WfP p) (wq : ∀ p ∈ quar, WfP p) {size v : Int} (hv : roomGo c.red size (gapsF c L) = some v) : ∀ p ∈ live ++ quar, p.pos + max p.size 1 + c.red ≤ v - c.red ∨ v + max size 1 + c.red ≤ p.pos - c.red := by
  intro p hp
  obtain ⟨g, hg, rfl, h2⟩ := roomGo_spec _ _ _ _ hv
  obtain ⟨h3, h4, h5, h6⟩ := h.gaps.1 g hg
  have hb := h.good.conf
  simp only [okConf, decide_eq_true_eq] at hb
  have gp := (good_iff wl wq).1 h.good
  have hpo := gp.each p hp
  have wf : WfP p := (List.mem_append.1 hp).elim (wl p) (wq p)
  obtain ⟨x, hx, _, q, j, rfl⟩ := items_of (red := c.red) hp
  have e := mkE_ne c.red (by omega) (by omega) q j p wf hpo.2.1 hpo.2.2.1
  have := h6 _ (h.perm.mem_iff.2 hx)
  rw [e.1, e.2] at this
  unfold firstF at *
  omega
end Go.Proofs.Ytbhbjcgbhklieaa
