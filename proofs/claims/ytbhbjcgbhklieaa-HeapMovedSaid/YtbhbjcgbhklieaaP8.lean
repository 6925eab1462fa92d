/- HeapMoved: the plain law: what calls do, moved by so many pages. -/
import Derived.Test.YtbhbjcgbhklieaaP7
import Derived.Test.YtbhbjcgbhklieaaP2
namespace Go.Proofs.Ytbhbjcgbhklieaa
open Go.RowKit Go.Shelf

def mvR (b : Int) (r : HRes) : HRes := ⟨mvC b r.c, r.gi, r.live.map (mvP (b * 256)), r.quar.map (mvP (b * 256))⟩
theorem good_wfp {c : Conf} {gi : Int} {live quar : List Piece} (g : GoodP c gi live quar) : ∀ p ∈ live ++ quar, WfP p := fun p hp => by
  have hb := g.conf
  simp only [okConf, decide_eq_true_eq] at hb
  have h := g.each p hp
  unfold pOk at h
  unfold WfP
  omega
theorem good_mv {c : Conf} {gi : Int} {live quar : List Piece} {b : Int} (g : GoodP c gi live quar) (hc : okConf (mvC b c) = true) : GoodP (mvC b c) gi (live.map (mvP (b * 256))) (quar.map (mvP (b * 256))) := by
  have hb := of_decide_eq_true (show decide _ = true from hc)
  unfold mvC at hb
  simp only at hb
  have hb0 := g.conf
  simp only [okConf, decide_eq_true_eq] at hb0
  refine ⟨hc, g.gi0, g.gi1, by simpa using g.n1, by simpa using g.n2, ?_, ?_, ?_, ?_, ?_⟩
  · intro q hq
    rw [← List.map_append] at hq
    obtain ⟨p, hp, rfl⟩ := List.mem_map.1 hq
    have h := g.each p hp
    have hw := good_wfp g p hp
    unfold pOk at h ⊢
    unfold WfP at hw
    simp only [mvP, mvC]
    rw [Int.tmod_eq_emod_of_nonneg hw.1] at h
    rw [Int.tmod_eq_emod_of_nonneg (by omega)]
    omega
  · rw [← List.map_append, List.map_map]; exact g.births
  · rw [← List.map_append, List.pairwise_map]
    refine g.dj.imp ?_
    intro p q h
    unfold DjP at h ⊢
    simp only [mvP, mvC]
    omega
  · rw [List.pairwise_map]
    refine g.pos.imp ?_
    intro p q h
    simp only [mvP]
    omega
  · rw [size_mv]; exact g.held
theorem mkE_mv {red d : Int} (q : Bool) (i : Nat) {p : Piece} (h : WfP p) (h' : WfP (mvP d p)) (r0 : 0 ≤ red) (r1 : red ≤ 64) (s1 : p.size ≤ 65536) : mkE red q i (mvP d p) = mvE d (mkE red q i p) := by
  unfold WfP mvP at *
  simp only at h'
  simp only [mkE, takenF, mvE, mvP, Ext.mk.injEq, true_and, and_true]
  unfold wrap64
  omega
theorem itemsFrom_mv {red d : Int} (q : Bool) (r0 : 0 ≤ red) (r1 : red ≤ 64) : ∀ (l : List Piece) (i : Nat), (∀ p ∈ l, WfP p ∧ WfP (mvP d p) ∧ p.size ≤ 65536) → itemsFrom red q i (l.map (mvP d)) = (itemsFrom red q i l).map (mvE d)
  | [], _, _ => rfl
  | p :: l, i, h => by
    simp only [List.map_cons, itemsFrom]
    obtain ⟨h1, h2, h3⟩ := h p (List.mem_cons_self ..)
    rw [mkE_mv q i h1 h2 r0 r1 h3, itemsFrom_mv q r0 r1 l (i + 1) (fun x hx => h x (List.mem_cons_of_mem _ hx))]
theorem op_mv {c : Conf} {gi : Int} {live quar : List Piece} {L : List Ext} {b : Int} (h : Op c gi live quar L) (g : GoodP c gi live quar) (hc : okConf (mvC b c) = true) : Op (mvC b c) gi (live.map (mvP (b * 256))) (quar.map (mvP (b * 256))) (L.map (mvE (b * 256))) := by
  have g' := good_mv g hc
  have w := good_wfp g
  have w' := good_wfp g'
  have wl' : ∀ p ∈ live.map (mvP (b * 256)), WfP p := fun p hp => w' p (List.mem_append_left _ hp)
  have wq' : ∀ p ∈ quar.map (mvP (b * 256)), WfP p := fun p hp => w' p (List.mem_append_right _ hp)
  obtain ⟨⟨r0, r1⟩, hw⟩ := good_wf g (fun p hp => w p (List.mem_append_left _ hp)) (fun p hp => w p (List.mem_append_right _ hp))
  obtain ⟨L', h'⟩ := good_op ((good_iff wl' wq').2 g') wl' wq'
  have hit : items c.red (live.map (mvP (b * 256))) (quar.map (mvP (b * 256))) = (items c.red live quar).map (mvE (b * 256)) := by
    unfold items
    rw [List.map_append, itemsFrom_mv false r0 r1 live 0 ?_, itemsFrom_mv true r0 r1 quar 0 ?_]
    · exact fun p hp => ⟨w p (List.mem_append_right _ hp), wq' _ (List.mem_map_of_mem hp), (hw p (List.mem_append_right _ hp)).2.2⟩
    · exact fun p hp => ⟨w p (List.mem_append_left _ hp), wl' _ (List.mem_map_of_mem hp), (hw p (List.mem_append_left _ hp)).2.2⟩
  have e : L' = L.map (mvE (b * 256)) := h'.unique (by
      show (L.map (mvE (b * 256))).Perm (items c.red (live.map (mvP (b * 256))) (quar.map (mvP (b * 256))))
      rw [hit]; exact h.perm.map _) (by
      rw [List.pairwise_map]
      refine (op_pair h).imp ?_
      intro x y hxy
      simp only [mvE]
      omega)
  exact e ▸ h'
theorem gapsF_mv (c : Conf) (b : Int) (L : List Ext) : gapsF (mvC b c) (L.map (mvE (b * 256))) = (gapsF c L).map fun g => (g.1 + b * 256, g.2 + b * 256) := by
  have h := gaps_mv (b * 256) ((c.page + c.n) * 256) L (c.page * 256)
  unfold gapsF mvC
  simp only
  rw [← h, show (c.page + b + c.n) * 256 = (c.page + c.n) * 256 + b * 256 by omega, show (c.page + b) * 256 = c.page * 256 + b * 256 by omega]
/-- an address of an answer, moved. -/
def MvA (d a a' : Int) : Prop := a = 0 ∧ a' = 0 ∨ a ≠ 0 ∧ a' = a + d ∧ a' ≠ 0 ∧ 0 ≤ a ∧ a < 4294967296 ∧ 0 ≤ a' ∧ a' < 4294967296
theorem room_mvF {c : Conf} {b size : Int} {L : List Ext} : roomGo c.red size (gapsF (mvC b c) (L.map (mvE (b * 256)))) = (roomGo c.red size (gapsF c L)).map (· + b * 256) := by
  rw [gapsF_mv, room_mv _ _ _ (by omega)]
theorem alloc_mv {c : Conf} {gi : Int} {live quar : List Piece} {size err at_ : Int} {r : HRes} {b : Int} (h : AllocP c gi live quar size err at_ r) (g : GoodP c gi live quar) (hg : Good c gi live quar) (hc : okConf (mvC b c) = true) :
    ∃ a' r', AllocP (mvC b c) gi (live.map (mvP (b * 256))) (quar.map (mvP (b * 256))) size err a' r' ∧ MvA (b * 256) at_ a' ∧ (err = 0 → r' = mvR b r) := by
  have g' := good_mv g hc
  have w' := good_wfp g'
  have hg' := (good_iff (fun p hp => w' p (List.mem_append_left _ hp)) (fun p hp => w' p (List.mem_append_right _ hp))).2 g'
  rcases h with ⟨h, _⟩ | ⟨_, hz, rfl, rfl, rfl⟩ | ⟨L, hL, z0, z1, hn, rfl, rfl, rfl⟩ | ⟨L, hL, z0, z1, hv, n1, n2, rfl, rfl⟩
  · exact absurd hg h
  · exact ⟨0, hZ, .inr (.inl ⟨hg', hz, rfl, rfl, rfl⟩), .inl ⟨rfl, rfl⟩, fun h => by omega⟩
  · refine ⟨0, hZ, .inr (.inr (.inl ⟨_, op_mv hL g hc, z0, z1, ?_, rfl, rfl, rfl⟩)), .inl ⟨rfl, rfl⟩, fun h => by omega⟩
    rw [show (mvC b c).red = c.red from rfl, room_mvF]
    rcases hn with h | h | h
    · exact .inl (by rw [h]; rfl)
    · exact .inr (.inl (by simpa using h))
    · exact .inr (.inr h)
  · have hL' := op_mv hL g hc
    have hv' : roomGo (mvC b c).red size (gapsF (mvC b c) (L.map (mvE (b * 256)))) = some (at_ + b * 256) := by
      rw [show (mvC b c).red = c.red from rfl, room_mvF, hv]; rfl
    have hr := room_range hL hv
    have hr' := room_range hL' hv'
    refine ⟨at_ + b * 256, _, .inr (.inr (.inr ⟨_, hL', z0, z1, hv', by simpa using n1, n2, rfl, rfl⟩)), .inr ⟨by omega, rfl, by omega, by omega, by omega, by omega, by omega⟩, fun _ => ?_⟩
    unfold mvR
    simp only
    rw [atI_mv, show (⟨at_ + b * 256, size, gi + 1⟩ : Piece) = mvP (b * 256) ⟨at_, size, gi + 1⟩ from rfl, ins_mv]
theorem free_mv {c : Conf} {gi : Int} {live quar : List Piece} {tg tg' err : Int} {r : HRes} {b : Int} (h : FreeP c gi live quar tg err r) (g : GoodP c gi live quar) (hg : Good c gi live quar) (hc : okConf (mvC b c) = true) (ht : live = [] ∨ tg' = tg + b * 256) :
    ∃ r', FreeP (mvC b c) gi (live.map (mvP (b * 256))) (quar.map (mvP (b * 256))) tg' err r' ∧ (err = 0 → r' = mvR b r) := by
  have g' := good_mv g hc
  have w' := good_wfp g'
  have hg' := (good_iff (fun p hp => w' p (List.mem_append_left _ hp)) (fun p hp => w' p (List.mem_append_right _ hp))).2 g'
  have hI : isI (live.map (mvP (b * 256))) tg' = isI live tg := by
    rcases ht with rfl | rfl
    · simp [isI, bsIs]
    · exact isI_mv _ _ _
  rcases h with ⟨h, _⟩ | ⟨_, hi, rfl, rfl⟩ | ⟨_, hi, rfl, rfl⟩
  · exact absurd hg h
  · exact ⟨hZ, .inr (.inl ⟨hg', hI.trans hi, rfl, rfl⟩), fun h => by omega⟩
  · obtain ⟨hm1, hm2, hm3⟩ := at_mem hi
    obtain rfl : tg' = tg + b * 256 := ht.resolve_left (by rintro rfl; simp at hm2)
    refine ⟨_, .inr (.inr ⟨hg', hI.trans hi, rfl, rfl⟩), fun _ => ?_⟩
    unfold mvR
    simp only
    rw [atI_mv, erase_mv, get_mv _ _ _ hm1, show [mvP (b * 256) live[atI live tg]!] = [live[atI live tg]!].map (mvP (b * 256)) from rfl, ← List.map_append, show (mvC b c).quarantine = c.quarantine from rfl, trim_mv]
theorem resize_mv {c : Conf} {gi : Int} {live quar : List Piece} {tg tg' size err at_ : Int} {r : HRes} {b : Int} (h : ResizeP c gi live quar tg size err at_ r) (g : GoodP c gi live quar) (hg : Good c gi live quar) (hc : okConf (mvC b c) = true) (ht : live = [] ∨ tg' = tg + b * 256) :
    ∃ a' r', ResizeP (mvC b c) gi (live.map (mvP (b * 256))) (quar.map (mvP (b * 256))) tg' size err a' r' ∧ MvA (b * 256) at_ a' ∧ (err = 0 → r' = mvR b r) := by
  have g' := good_mv g hc
  have w := good_wfp g
  have w' := good_wfp g'
  have hg' := (good_iff (fun p hp => w' p (List.mem_append_left _ hp)) (fun p hp => w' p (List.mem_append_right _ hp))).2 g'
  have hI : isI (live.map (mvP (b * 256))) tg' = isI live tg := by
    rcases ht with rfl | rfl
    · simp [isI, bsIs]
    · exact isI_mv _ _ _
  rcases h with ⟨h, _⟩ | ⟨_, hi, rfl, rfl, rfl⟩ | ⟨_, hi, hz, rfl, rfl, rfl⟩ | ⟨L, hL, hi, z0, z1, hn, rfl, rfl, rfl⟩ | ⟨L, hL, hi, z0, z1, hv, n1, n2, rfl, rfl⟩
  · exact absurd hg h
  · exact ⟨0, hZ, .inr (.inl ⟨hg', hI.trans hi, rfl, rfl, rfl⟩), .inl ⟨rfl, rfl⟩, fun h => by omega⟩
  · exact ⟨0, hZ, .inr (.inr (.inl ⟨hg', hI.trans hi, hz, rfl, rfl, rfl⟩)), .inl ⟨rfl, rfl⟩, fun h => by omega⟩
  · refine ⟨0, hZ, .inr (.inr (.inr (.inl ⟨_, op_mv hL g hc, hI.trans hi, z0, z1, ?_, rfl, rfl, rfl⟩))), .inl ⟨rfl, rfl⟩, fun h => by omega⟩
    rw [show (mvC b c).red = c.red from rfl, room_mvF]
    rcases hn with h | h | h
    · exact .inl (by rw [h]; rfl)
    · exact .inr (.inl (by simpa using h))
    · exact .inr (.inr h)
  · have hL' := op_mv hL g hc
    have hv' : roomGo (mvC b c).red size (gapsF (mvC b c) (L.map (mvE (b * 256)))) = some (at_ + b * 256) := by
      rw [show (mvC b c).red = c.red from rfl, room_mvF, hv]; rfl
    have hr := room_range hL hv
    have hr' := room_range hL' hv'
    obtain ⟨hm1, hm2, hm3⟩ := at_mem hi
    obtain rfl : tg' = tg + b * 256 := ht.resolve_left (by rintro rfl; simp at hm2)
    have ga := alloc_good hL (fun p hp => w p (List.mem_append_left _ hp)) (fun p hp => w p (List.mem_append_right _ hp)) z0 z1 hv n1 n2
    have hin : live[atI live tg]! ∈ insF live (atI live at_) ⟨at_, size, gi + 1⟩ := (insF_perm _ _ _).mem_iff.2 (List.mem_cons_of_mem _ hm2)
    obtain ⟨j, hj, hje⟩ := List.getElem_of_mem hin
    have ha := at_of ga.pos hj
    rw [getElem!_pos _ j hj, hje, hm3] at ha
    have hlt : atI (insF live (atI live at_) ⟨at_, size, gi + 1⟩) tg < (insF live (atI live at_) ⟨at_, size, gi + 1⟩).length := by rw [ha.1]; exact hj
    refine ⟨at_ + b * 256, _, .inr (.inr (.inr (.inr ⟨_, hL', hI.trans hi, z0, z1, hv', by simpa using n1, n2, rfl, rfl⟩))), .inr ⟨by omega, rfl, by omega, by omega, by omega, by omega, by omega⟩, fun _ => ?_⟩
    unfold mvR
    simp only
    rw [atI_mv, show (⟨at_ + b * 256, size, gi + 1⟩ : Piece) = mvP (b * 256) ⟨at_, size, gi + 1⟩ from rfl, ins_mv, atI_mv, erase_mv, get_mv _ _ _ hlt,
      show ∀ p : Piece, [mvP (b * 256) p] = [p].map (mvP (b * 256)) from fun _ => rfl, ← List.map_append, show (mvC b c).quarantine = c.quarantine from rfl, trim_mv]
theorem tg_mv {live : List Piece} {o : OpV} (d : Int) (ho : o.wild = false) (hn : live.length ≤ 9223372036854775807) : live = [] ∨ targetF (live.map (mvP d)) o = targetF live o + d := by
  rcases Nat.eq_zero_or_pos live.length with h | h
  · exact .inl (List.eq_nil_of_length_eq_zero h)
  · right
    unfold targetF
    rw [List.length_map, if_pos ⟨ho, h⟩, if_pos ⟨ho, h⟩]
    obtain ⟨i, hi, e, _⟩ := idx_gen o.i live.length h hn
    rw [e, Int.toNat_natCast, get_mv _ _ _ hi]
    rfl
theorem does_mv {c : Conf} {gi : Int} {live quar : List Piece} {o : OpV} {err at_ : Int} {r : HRes} {b : Int} (h : DoesP c gi live quar o err at_ r) (g : GoodP c gi live quar) (hc : okConf (mvC b c) = true) (ho : o.wild = false) :
    ∃ a' r', DoesP (mvC b c) gi (live.map (mvP (b * 256))) (quar.map (mvP (b * 256))) o err a' r' ∧ MvA (b * 256) at_ a' ∧ (err = 0 → r' = mvR b r) := by
  have w := good_wfp g
  have hg := (good_iff (fun p hp => w p (List.mem_append_left _ hp)) (fun p hp => w p (List.mem_append_right _ hp))).2 g
  have ht := tg_mv (live := live) (o := o) (b * 256) ho (by have := g.n1; omega)
  unfold DoesP at h ⊢
  by_cases h0 : o.kind = 0
  · simp only [if_pos h0] at h ⊢
    exact alloc_mv h g hg hc
  · simp only [if_neg h0] at h ⊢
    by_cases h1 : o.kind = 1
    · simp only [if_pos h1] at h ⊢
      obtain ⟨r', k1, k2⟩ := free_mv h.2 g hg hc ht
      exact ⟨0, r', ⟨rfl, k1⟩, .inl ⟨h.1, rfl⟩, k2⟩
    · simp only [if_neg h1] at h ⊢
      exact resize_mv h g hg hc ht
theorem nxt_mv {st r r' : HRes} {err b : Int} (h : err = 0 → r' = mvR b r) : nxt (mvR b st) err r' = mvR b (nxt st err r) := by
  unfold nxt
  by_cases he : err = 0
  · have e := h he
    subst e
    simp only [mvR, List.length_map]
    by_cases hm : err = 0 ∧ manyF r.live.length r.quar.length = false
    · rw [if_pos hm, if_pos hm]
    · rw [if_neg hm, if_neg hm]
  · rw [if_neg (fun h => he h.1), if_neg (fun h => he h.1)]
/-- addresses of answers, moved. -/
inductive MvL (d : Int) : List Int → List Int → Prop
  | nil : MvL d [] []
  | snoc {l l' : List Int} {a a' : Int} : MvL d l l' → MvA d a a' → MvL d (l ++ [a]) (l' ++ [a'])
theorem MvL.len {d : Int} {l l' : List Int} (h : MvL d l l') : l.length = l'.length := by
  induction h with
  | nil => rfl
  | snoc _ _ ih => simp [ih]
theorem MvL.at {d : Int} {l l' : List Int} (h : MvL d l l') : ∀ i, i < l.length → MvA d l[i]! l'[i]! := by
  induction h with
  | nil => intro i hi; simp at hi
  | @snoc l l' a a' h ha ih =>
    intro i hi
    have hl := h.len
    simp only [List.length_append, List.length_singleton] at hi
    rw [getElem!_pos _ i (by simp; omega), getElem!_pos _ i (by simp; omega)]
    by_cases hi2 : i < l.length
    · have := ih i hi2
      rw [getElem!_pos _ i hi2, getElem!_pos _ i (by omega)] at this
      rw [List.getElem_append_left hi2, List.getElem_append_left (by omega)]
      exact this
    · obtain rfl : i = l.length := by omega
      rw [List.getElem_append_right (by omega), List.getElem_append_right (by omega)]
      simpa [hl] using ha
theorem play_mv {st0 st : HRes} {l : List OpV} {outs : List Int} {b : Int} (h : PlaySt st0 l st outs) (h0 : StOk st0) (g0 : GoodP st0.c st0.gi st0.live st0.quar) (hc : okConf (mvC b st0.c) = true) (ho : ∀ o ∈ l, o.wild = false) :
    ∃ outs', PlaySt (mvR b st0) l (mvR b st) outs' ∧ MvL (b * 256) outs outs' := by
  induction h with
  | nil => exact ⟨[], .nil, .nil⟩
  | @snoc l st outs o err at_ r hp hd ih =>
    obtain ⟨outs', k1, k2⟩ := ih (fun x hx => ho x (List.mem_append_left _ hx))
    obtain ⟨e, g⟩ := hp.good h0 g0
    obtain ⟨a', r', d1, d2, d3⟩ := does_mv (b := b) hd g (by rw [e]; exact hc) (ho o (by simp))
    refine ⟨outs' ++ [a'], ?_, k2.snoc d2⟩
    have := k1.snoc (o := o) (err := err) (at_ := a') (r := r') d1
    rw [nxt_mv d3] at this
    exact this
theorem play_inv {st0 st' : HRes} {m : List OpV} {outs' : List Int} (h : PlaySt st0 m st' outs') : (m = [] ∧ st' = st0 ∧ outs' = []) ∨ ∃ l o st outs err at_ r, m = l ++ [o] ∧ PlaySt st0 l st outs ∧ DoesP st.c st.gi st.live st.quar o err at_ r ∧ st' = nxt st err r ∧ outs' = outs ++ [at_] := by
  cases h with
  | nil => exact .inl ⟨rfl, rfl, rfl⟩
  | snoc hp hd => exact .inr ⟨_, _, _, _, _, _, _, rfl, hp, hd, rfl, rfl⟩
theorem PlaySt.one {st0 st st2 : HRes} {l : List OpV} {outs outs2 : List Int} (h : PlaySt st0 l st outs) (h2 : PlaySt st0 l st2 outs2) : st = st2 ∧ outs = outs2 := by
  induction h generalizing st2 outs2 with
  | nil =>
    rcases play_inv h2 with ⟨_, rfl, rfl⟩ | ⟨l, o, _, _, _, _, _, e, _⟩
    · exact ⟨rfl, rfl⟩
    · simp at e
  | @snoc l st outs o err at_ r hp hd ih =>
    rcases play_inv h2 with ⟨e, _⟩ | ⟨l', o', st', outs', err', at', r', e, hp', hd', rfl, rfl⟩
    · simp at e
    · obtain ⟨rfl, e2⟩ := List.append_inj' e rfl
      cases e2
      obtain ⟨rfl, rfl⟩ := ih hp'
      obtain ⟨rfl, rfl, rfl⟩ := hd.one hd'
      exact ⟨rfl, rfl⟩
/-- the law's plain part: two runs of the same calls. -/
theorem moved_play {c : Conf} {b : Int} {l : List OpV} {sa sb : HRes} {oa ob : List Int} (ha : PlaySt ⟨c, 0, [], []⟩ l sa oa) (hb : PlaySt ⟨mvC b c, 0, [], []⟩ l sb ob) (g0 : GoodP c 0 [] []) (hc : okConf (mvC b c) = true) (ho : ∀ o ∈ l, o.wild = false) : sb = mvR b sa ∧ MvL (b * 256) oa ob := by
  have h0 : StOk ⟨c, 0, [], []⟩ := ⟨(fun _ h => by cases h), (fun _ h => by cases h), by simp, by simp⟩
  obtain ⟨o', k1, k2⟩ := play_mv (b := b) ha h0 g0 hc ho
  obtain ⟨rfl, rfl⟩ := hb.one k1
  exact ⟨rfl, k2⟩
end Go.Proofs.Ytbhbjcgbhklieaa
