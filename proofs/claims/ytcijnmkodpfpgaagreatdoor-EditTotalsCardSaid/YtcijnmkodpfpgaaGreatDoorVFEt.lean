/- EditTotals: the plain law. No program in sight but the printed functions. -/
import Derived.Test.YtcijnmkodpfpgaaGreatDoorVFEv
import Derived.Test.YtcijnmkodpfpgaaGreatDoorVFEo
namespace Go.Proofs.YtcijnmkodpfpgaaGreatDoor
open Go
def walkP (tr : TMove → TMove) : List TMove → List Int → Option (List Int)
  | [], p => some p
  | m :: l, p => (putO p (tr m).fUnit (tr m).fFrom (tr m).fTo).bind (walkP tr l)
theorem walkP_same {tr : TMove → TMove} (htr : ∀ m, (tr m).fUnit = m.fUnit) {n : Nat} {k : Int} : ∀ {l : List TMove} {p q : List Int} (h : walkP tr l p = some q) (hm : ∀ m ∈ l, Mv n k m) (i : Nat) (hi : (i : Int) ∉ l.map TMove.fUnit), q[i]? = p[i]?
  | [], p, q, h, _, i, _ => by cases h; rfl
  | m :: l, p, q, h, hm, i, hi => by
    unfold walkP at h
    rcases hq : putO p (tr m).fUnit (tr m).fFrom (tr m).fTo with _ | p'
    · rw [hq] at h; cases h
    · rw [hq, obind] at h
      obtain ⟨_, _, rfl⟩ := putO_some hq
      rw [walkP_same htr h (fun x hx => hm x (List.mem_cons_of_mem _ hx)) i fun hx => hi (by rw [List.map_cons]; exact List.mem_cons_of_mem _ hx)]
      have h0 := (hm m (List.mem_cons_self ..)).1
      rw [List.getElem?_set_ne]
      rw [htr]
      intro e
      exact hi (by rw [List.map_cons]; exact List.mem_cons.2 (.inl (by omega)))
def From (us : List TUnit) (p0 : List Int) (k : Int) (s : TSession) : Prop := SOk us us.length s ∧ s.fK = k ∧ walkP revM s.fDone.reverse s.fPlan = some p0
theorem from_make {us : List TUnit} {p0 : List Int} {k : Int} {s : TSession} (h : From us p0 k s) (u t : Int) (h0 : (makeO us us.length s u t).2 = 0) : From us p0 k (makeO us us.length s u t).1 ∧ cnt (makeO us us.length s u t).1 ≤ cnt s + 1 := by
  obtain ⟨h1, h2, h3⟩ := h
  rcases makeO_cases h1 u t with ⟨e, he, h4⟩ | ⟨q, hm, hq, hd, he⟩
  · rw [he] at h0; simp only at h0; omega
  · have hb := put_back h1.fits hm hq
    rw [he]
    refine ⟨⟨make_valid h1 hm hq hd, h2, ?_⟩, by unfold cnt; simp only [List.length_append, List.length_cons, List.length_nil]; omega⟩
    simp only [List.reverse_append, List.reverse_cons, List.reverse_nil, List.nil_append, List.singleton_append, walkP]
    rw [show putO q (revM ⟨u, s.fPlan[u.toNat]!, t⟩).fUnit (revM ⟨u, s.fPlan[u.toNat]!, t⟩).fFrom (revM ⟨u, s.fPlan[u.toNat]!, t⟩).fTo = some s.fPlan from hb, obind]
    exact h3
theorem from_undo {us : List TUnit} {p0 : List Int} {k : Int} {s : TSession} (h : From us p0 k s) (h0 : (undoO us us.length s).2 = 0) : From us p0 k (undoO us us.length s).1 ∧ cnt (undoO us us.length s).1 ≤ cnt s ∧ (undoO us us.length s).1.fDone.length + 1 = s.fDone.length := by
  obtain ⟨h1, h2, h3⟩ := h
  rcases undoO_cases h1 with ⟨e, he, h4⟩ | ⟨l, m, q, hd, hu, hq, he, hv, hb⟩
  · rw [he] at h0; simp only at h0; omega
  · rw [he]
    refine ⟨⟨hv, h2, ?_⟩, by unfold cnt; rw [hd]; simp only [List.length_append, List.length_cons, List.length_nil]; omega, by rw [hd]; simp⟩
    rw [hd] at h3
    simp only [List.reverse_append, List.reverse_cons, List.reverse_nil, List.nil_append, List.singleton_append, walkP] at h3
    rw [show putO s.fPlan (revM m).fUnit (revM m).fFrom (revM m).fTo = some q from hq, obind] at h3
    exact h3
theorem from_redo {us : List TUnit} {p0 : List Int} {k : Int} {s : TSession} (h : From us p0 k s) (h0 : (redoO us us.length s).2 = 0) : From us p0 k (redoO us us.length s).1 ∧ cnt (redoO us us.length s).1 ≤ cnt s := by
  obtain ⟨h1, h2, h3⟩ := h
  rcases redoO_cases h1 with ⟨e, he, h4⟩ | ⟨l, m, q, hd, hu, hq, he, hv, hb⟩
  · rw [he] at h0; simp only at h0; omega
  · rw [he]
    refine ⟨⟨hv, h2, ?_⟩, by unfold cnt; rw [hd]; simp only [List.length_append, List.length_cons, List.length_nil]; omega⟩
    simp only [List.reverse_append, List.reverse_cons, List.reverse_nil, List.nil_append, List.singleton_append, walkP]
    rw [show putO q (revM m).fUnit (revM m).fFrom (revM m).fTo = some s.fPlan from hb, obind]
    exact h3
theorem do_from {g : TGraph} {r : TRoll} {us : List TUnit} (c : Case g r us) {p0 : List Int} {k : Int} {s : TSession} (h : From us p0 k s) (x : UInt8 × UInt8) : ∃ y, wardmoteref26_Do_p FU g r s x = some y ∧ (y.2 = 0 → From us p0 k y.1 ∧ cnt y.1 ≤ cnt s + 1) := by
  have hs := sok_small c h.1
  unfold wardmoteref26_Do_p
  refine jn_all (fun K => ?_) (fun q => ?_)
  · try simp only
    split
    · exact ⟨_, rfl⟩
    · split
      · exact ⟨_, rfl⟩
      · exact ⟨_, rfl⟩
  · try simp only
    split
    · rw [undoR_ok c s hs, obind]
      exact ⟨_, rfl, fun h0 => ⟨(from_undo h h0).1, Nat.le_succ_of_le (from_undo h h0).2.1⟩⟩
    · refine jn_all (fun K => ?_) (fun q => ?_)
      · try simp only
        split
        · exact ⟨_, rfl⟩
        · exact ⟨_, rfl⟩
      · try simp only
        split
        · rw [redoR_ok c s hs, obind]
          exact ⟨_, rfl, fun h0 => ⟨(from_redo h h0).1, Nat.le_succ_of_le (from_redo h h0).2⟩⟩
        · rw [makeR_ok c s hs, obind]
          exact ⟨_, rfl, fun h0 => from_make h _ _ h0⟩
theorem session_from {g : TGraph} {r : TRoll} {us : List TUnit} (c : Case g r us) {p : List Int} {k : Int} (hk : 1 ≤ k ∧ k ≤ 8) (h : Fits us.length p k) (d : TDraft28) : ∃ s, wardmoteref26_Draft_Session_p FU d g r p k = some s ∧ From us p k s ∧ cnt s ≤ 12 := by
  have hF := FU_lt
  have hh := loop_ok (B := wardmoteref26_Draft_Session_l1 FU d g r) (fun s : Nat × Int × List Int × List Int × List TMove × List TMove => 12 - s.1) (fun s => s.1 ≤ 12 ∧ From us p k ⟨s.2.1, s.2.2.1, s.2.2.2.1, s.2.2.2.2.1, s.2.2.2.2.2⟩ ∧ s.2.2.2.2.1.length + s.2.2.2.2.2.length ≤ s.1)
    (fun y => From us p k ⟨y.1, y.2.1, y.2.2.1, y.2.2.2.1, y.2.2.2.2⟩ ∧ y.2.2.2.1.length + y.2.2.2.2.length ≤ 12) ?_ FU (0, k, p, tlO us p k, [], []) ⟨by simp, ⟨start_valid hk h, rfl, rfl⟩, by simp⟩ (by simp only; omega)
  · obtain ⟨y, e, hy⟩ := hh
    refine ⟨⟨y.1, y.2.1, y.2.2.1, y.2.2.2.1, y.2.2.2.2⟩, ?_, hy.1, hy.2⟩
    unfold wardmoteref26_Draft_Session_p
    rw [start_ok c hk h, obind]
    unfold jn
    simp only
    rw [e]
    rfl
  · rintro ⟨i, k', p', t, l, u⟩ J ⟨a1, a2, a3⟩ hJ
    simp only at a1 a2 a3 hJ
    unfold wardmoteref26_Draft_Session_l1
    simp only
    split
    · rename_i hi
      split
      · rename_i h12
        obtain ⟨y, e, hy⟩ := do_from c a2 d.fL[i]
        rw [List.getElem?_eq_getElem hi, obind, e, obind]
        split
        · rename_i h0
          obtain ⟨v1, v2⟩ := hy h0
          exact hJ _ ⟨h12, v1, by unfold cnt at v2; simp only at v2 ⊢; omega⟩ (by simp only; omega)
        · exact hJ _ ⟨h12, a2, by simp only; omega⟩ (by simp only; omega)
      · exact ⟨_, rfl, a2, by simp only; omega⟩
    · exact ⟨_, rfl, a2, by simp only; omega⟩
theorem containsI_ok (xs : List Int) (f : Int) (h : xs.length ≤ 1000) : slices_Contains_int_int_p FU xs f = some (decide (f ∈ xs)) := by
  have hF := FU_lt
  have hh := loop_ok (B := slices_Index_int_int_l1 FU xs f) (fun i : Nat => xs.length - i) (fun i => i ≤ xs.length ∧ f ∉ xs.take i) (fun y => y = .inr () ∧ f ∉ xs ∨ ∃ j : Nat, y = .inl (j : Int) ∧ f ∈ xs) ?_ FU 0 ⟨Nat.zero_le _, by simp⟩ (by omega)
  · obtain ⟨y, e, hy⟩ := hh
    unfold slices_Contains_int_int_p slices_Index_int_int_p
    rw [e]
    rcases hy with ⟨rfl, hy⟩ | ⟨j, rfl, hy⟩
    · rw [decide_eq_false hy]; rfl
    · rw [decide_eq_true hy]; simp [thn]
  · intro i J ⟨h1, h2⟩ hJ
    unfold slices_Index_int_int_l1
    simp only
    split
    · rename_i hi
      rw [List.getElem?_eq_getElem hi, obind]
      split
      · rename_i he; exact ⟨_, rfl, .inr ⟨i, rfl, by rw [he]; exact List.getElem_mem _⟩⟩
      · rename_i he
        refine hJ (i + 1) ⟨hi, ?_⟩ (by omega)
        rw [List.take_succ_eq_append_getElem hi, List.mem_append, List.mem_singleton]
        rintro (h3 | h3)
        · exact h2 h3
        · exact he h3
    · exact ⟨_, rfl, .inl ⟨rfl, by rwa [List.take_of_length_le (by omega)] at h2⟩⟩
theorem isSorted_ok (l : List Int) (h : l.length ≤ 100) (hs : l.Pairwise (· ≤ ·)) : slices_IsSorted_int_int_p FU l = some true := by
  have hF := FU_lt
  have hh := loop_ok (B := slices_IsSorted_int_int_l1 FU l) (fun z : Int => z.toNat) (fun z => -1 ≤ z ∧ z < l.length) (fun y => y = .inr ()) ?_ FU (((l.length : Nat) : Int) - 1) ⟨by omega, by omega⟩ (by omega)
  · obtain ⟨y, e, rfl⟩ := hh
    unfold slices_IsSorted_int_int_p
    rw [e]
    rfl
  · intro z J ⟨h1, h2⟩ hJ
    unfold slices_IsSorted_int_int_l1
    simp only
    split
    · rename_i h0
      rw [idx_ok (by omega) (by omega), obind, chkI (by omega) (by omega), obind, idx_ok (by omega) (by omega), obind, less_ok, obind]
      have := List.pairwise_iff_getElem.1 hs (z - 1).toNat z.toNat (by omega) (by omega) (by omega)
      rw [if_neg (by rw [decide_eq_true_eq]; omega), obind]
      exact hJ _ ⟨by omega, by omega⟩ (by omega)
    · exact ⟨_, rfl, rfl⟩
theorem editTotals_ex (c : TScene) : ∃ n, wardmotelaw26_EditTotals_p n c = some true := by
  refine ⟨FU, ?_⟩
  have hF := FU_lt
  obtain ⟨g, r, p, k, us, e1, cs, hk, hfit⟩ := set_ok c
  obtain ⟨s, e2, hs, hc⟩ := session_from cs hk hfit c.fL
  have hl := cs.roll.len
  have hsk := hs.2.1
  have hft : Fits us.length s.fPlan k := hsk ▸ hs.1.fits
  have hpl := hs.1.fits.1
  obtain ⟨l, e3, l1, l2, l3⟩ := changed_ok s (by unfold cnt at hc; omega)
  have hloop := loop_ok (B := wardmotelaw26_EditTotals_l2 FU s l (g, r, p, k)) (fun i : Nat => s.fPlan.length - i) (fun i => i ≤ s.fPlan.length) (fun y => y = .inr ()) (fun i J hi hJ => by
    unfold wardmotelaw26_EditTotals_l2
    simp only
    split
    · rename_i h0
      rw [List.getElem?_eq_getElem h0, obind, containsI_ok l _ (by unfold cnt at hc; omega), obind]
      by_cases hm : ((i : Nat) : Int) ∈ l
      · rw [if_pos (decide_eq_true hm)]; exact hJ (i + 1) h0 (by omega)
      · have hw := walkP_same (tr := revM) (fun _ => rfl) hs.2.2 (fun m hm => hs.1.dm m (List.mem_reverse.1 hm)) i fun hx => hm ((l2 _).2 (by rw [List.map_reverse] at hx; exact List.mem_reverse.1 hx))
        have hip : i < p.length := by have := hfit.1; omega
        rw [List.getElem?_eq_getElem h0, List.getElem?_eq_getElem hip] at hw
        rw [if_neg (by simpa using hm), List.getElem?_eq_getElem hip, obind, if_pos (Option.some.inj hw).symm]
        exact hJ (i + 1) h0 (by omega)
    · exact ⟨_, rfl, rfl⟩) FU 0 (Nat.zero_le _) (by omega)
  obtain ⟨y, e4, rfl⟩ := hloop
  have hund := loop_ok (B := wardmotelaw26_EditTotals_l1 FU (g, r, p, k)) (fun t : Nat × Int × List Int × List Int × List TMove × List TMove => t.2.2.2.2.1.length) (fun t => From us p k ⟨t.2.1, t.2.2.1, t.2.2.2.1, t.2.2.2.2.1, t.2.2.2.2.2⟩ ∧ t.1 + t.2.2.2.2.1.length ≤ 12 ∧ t.2.2.2.2.1.length + t.2.2.2.2.2.length ≤ 12)
    (fun y => ∃ z t u, y = .inr (z, p, t, [], u)) ?_ FU (0, s.fK, s.fPlan, s.fTotals, s.fDone, s.fUndone) ⟨hs, by unfold cnt at hc; simp only; omega, hc⟩ (by unfold cnt at hc; simp only; omega)
  · obtain ⟨y, e5, z, t, u, rfl⟩ := hund
    obtain ⟨l', e6, _, _, l6⟩ := changed_ok ⟨z, p, t, [], u⟩ (by simp)
    unfold wardmotelaw26_EditTotals_p
    rw [works26, obind, if_pos rfl, e1, obind]
    simp only
    rw [e2, obind, totalsP_ok r us cs.roll s.fPlan k hk.1 hk.2 hft, obind, if_pos rfl, equal_ok _ _ (by rw [tl_len]; omega), obind, if_pos (decide_eq_true (by rw [hs.1.tot, hsk])), if_pos (by rw [hpl, cs.n]), e3, obind, isSorted_ok l (by unfold cnt at hc; omega) l1, obind, if_pos rfl, if_neg (by omega), e4]
    simp only [thn]
    unfold jn
    simp only
    rw [e5]
    simp only
    rw [equalP_ok _ _ (by have := hfit.1; omega), obind, if_pos (decide_eq_true rfl), if_pos (show ([] : List TMove).length = 0 from rfl), e6, obind, decide_eq_true (by simpa using l6)]
  · rintro ⟨i, z, q, t, d, u⟩ J ⟨a1, a2, a3⟩ hJ
    simp only at a1 a2 a3 hJ
    unfold wardmotelaw26_EditTotals_l1
    simp only
    rw [if_pos (by omega)]
    by_cases hd : d.length = 0
    · rw [if_pos hd]
      have hd0 : d = [] := List.eq_nil_of_length_eq_zero hd
      subst hd0
      have := a1.2.2
      simp only [List.reverse_nil, walkP] at this
      refine ⟨_, rfl, z, t, u, ?_⟩
      rw [Option.some.inj this]
    · rw [if_neg hd, undoP_ok cs _ (sok_small cs a1.1), obind]
      have h0 : (undoO us us.length ⟨z, q, t, d, u⟩).2 = 0 := by
        unfold undoO
        rw [if_pos a1.1]
        rcases nil_or d with h1 | ⟨l, m, h1⟩
        · subst h1; exact absurd rfl hd
        · obtain ⟨q', hq, _, _⟩ := undo_valid a1.1 (l := l) (m := m) h1 (by simp only; omega)
          subst h1
          simp only [List.getLast?_concat, List.dropLast_concat]
          rw [if_pos (by omega)]
          simp only at hq
          rw [hq]
      obtain ⟨f1, f2, f3⟩ := from_undo a1 h0
      generalize undoO us us.length ⟨z, q, t, d, u⟩ = y at h0 f1 f2 f3 ⊢
      have hyf : Fits us.length y.1.fPlan k := f1.2.1 ▸ f1.1.fits
      rw [totalsP_ok r us cs.roll _ k hk.1 hk.2 hyf, obind, if_pos h0, if_pos rfl, equal_ok _ _ (by rw [tl_len]; omega), obind, if_pos (decide_eq_true (by rw [f1.1.tot, f1.2.1]))]
      simp only at f3
      refine hJ _ ⟨f1, by simp only; omega, ?_⟩ (by simp only; omega)
      unfold cnt at f2
      simp only at f2 ⊢
      omega
end Go.Proofs.YtcijnmkodpfpgaaGreatDoor
