/- Plain laws: what the program undoes and does again. No program in sight but the printed functions. -/
import Derived.Test.YtcijnmkodpfpgaaGreatDoorWYEh
namespace Go.Proofs.YtcijnmkodpfpgaaGreatDoor
open Go
theorem works26 : wardmotelaw26_works_p FU = some true := by kernel_rfl
theorem equalP_ok (a b : List Int) (h : a.length ≤ 1000) : slices_Equal_api_Plan_int_p FU a b = some (decide (a = b)) := by
  have hF := FU_lt
  unfold slices_Equal_api_Plan_int_p
  split
  · rename_i hl; exact eq_loop hl (fun J i => by rfl) (by omega)
  · rename_i hl; rw [decide_eq_false fun e => hl (by rw [e])]
theorem equalM_ok (a b : List TMove) (h : a.length ≤ 1000) : slices_Equal_api_Move_api_Move_p FU a b = some (decide (a = b)) := by
  have hF := FU_lt
  unfold slices_Equal_api_Move_api_Move_p
  split
  · rename_i hl; exact eq_loop hl (fun J i => by rfl) (by omega)
  · rename_i hl; rw [decide_eq_false fun e => hl (by rw [e])]
theorem sameP_ok (a b : TSession) (h : Small a) : edit_Same_p FU a b = some (decide (a = b)) := by
  unfold edit_Same_p
  rw [equalP_ok _ _ h.1, equal_ok _ _ h.2.1, equalM_ok _ _ h.2.2.1, equalM_ok _ _ h.2.2.2]
  simp only [obind]
  obtain ⟨k, p, t, d, u⟩ := a
  obtain ⟨k', p', t', d', u'⟩ := b
  simp only [decide_eq_true_eq, TSession.mk.injEq]
  by_cases h1 : k = k'
  · by_cases h2 : p = p'
    · by_cases h3 : t = t'
      · by_cases h4 : d = d'
        · simp [h1, h2, h3, h4]
        · simp [h1, h2, h3, h4]
      · simp [h1, h2, h3]
    · simp [h1, h2]
  · simp [h1]
theorem last_nil : edit_last_api_Move_p FU [] = some (⟨0, 0, 0⟩, [], false) := rfl
theorem last_ok (l : List TMove) (m : TMove) : edit_last_api_Move_p FU (l ++ [m]) = some (m, l, true) := by
  unfold edit_last_api_Move_p
  rw [if_neg (by simp), last_idx, obind, last_cut, obind]
theorem undoP_ok {g : TGraph} {r : TRoll} {us : List TUnit} (c : Case g r us) (s : TSession) (hs : Small s) : edit_Undo_p FU g r s = some (undoO us us.length s) := by
  unfold edit_Undo_p
  rw [checkE_ok c s hs, obind]
  unfold undoO
  by_cases h : SOk us us.length s
  · rw [chkO_ok h, if_pos rfl, if_pos h]
    rcases nil_or s.fDone with hd | ⟨l, m, hd⟩
    · rw [hd, last_nil, obind]; rfl
    · have hm := mv_rev (h.dm m (by rw [hd]; simp))
      rw [hd, last_ok, obind]
      simp only [List.getLast?_concat, List.dropLast_concat]
      rw [if_pos trivial]
      by_cases hu : s.fUndone.length < 200
      · obtain ⟨q, hq, hv, _⟩ := undo_valid h hd hu
        rw [if_neg (by omega), if_pos hu]
        unfold edit_turned_p
        rw [obind]
        simp only
        refine (put_prog s.fPlan m.fUnit m.fTo m.fFrom hm.1 (by have := hm.2.1; have := h.fits.1; simp only [revM] at *; omega) hs.1 _ _).trans ?_
        rw [hq]
        obtain ⟨hget, _, rfl⟩ := putO_some hq
        simp only
        rw [h.tot]
        refine (step_totals c h.fits hm h.k.2 hget _).trans ?_
        rw [more_ok _ _ hs.2.2.2, obind]
      · rw [if_pos (by omega), if_neg hu]; rfl
  · rw [if_neg (chkO_no h), if_neg h]; rfl
theorem redoP_ok {g : TGraph} {r : TRoll} {us : List TUnit} (c : Case g r us) (s : TSession) (hs : Small s) : edit_Redo_p FU g r s = some (redoO us us.length s) := by
  unfold edit_Redo_p
  rw [checkE_ok c s hs, obind]
  unfold redoO
  by_cases h : SOk us us.length s
  · rw [chkO_ok h, if_pos rfl, if_pos h]
    rcases nil_or s.fUndone with hd | ⟨l, m, hd⟩
    · rw [hd, last_nil, obind]; rfl
    · have hm := h.um m (by rw [hd]; simp)
      rw [hd, last_ok, obind]
      simp only [List.getLast?_concat, List.dropLast_concat]
      rw [if_pos trivial]
      by_cases hu : s.fDone.length < 200
      · obtain ⟨q, hq, hv, _⟩ := redo_valid h hd hu
        rw [if_neg (by omega), if_pos hu]
        refine (put_prog s.fPlan m.fUnit m.fFrom m.fTo hm.1 (by have := hm.2.1; have := h.fits.1; omega) hs.1 _ _).trans ?_
        rw [hq]
        obtain ⟨hget, _, rfl⟩ := putO_some hq
        simp only
        rw [h.tot]
        refine (step_totals c h.fits hm h.k.2 hget _).trans ?_
        rw [more_ok _ _ hs.2.2.1, obind]
      · rw [if_pos (by omega), if_neg hu]; rfl
  · rw [if_neg (chkO_no h), if_neg h]; rfl
theorem undoO_eq {us : List TUnit} {n : Nat} {s : TSession} (h : SOk us n s) {l : List TMove} {m : TMove} {q : List Int} (hd : s.fDone = l ++ [m]) (hu : s.fUndone.length < 200) (hq : putO s.fPlan m.fUnit m.fTo m.fFrom = some q) : undoO us n s = (⟨s.fK, q, tlO us q s.fK, l, s.fUndone ++ [m]⟩, 0) := by
  unfold undoO
  rw [if_pos h, hd]
  simp only [List.getLast?_concat, List.dropLast_concat]
  rw [if_pos hu, hq]
theorem redoO_eq {us : List TUnit} {n : Nat} {s : TSession} (h : SOk us n s) {l : List TMove} {m : TMove} {q : List Int} (hd : s.fUndone = l ++ [m]) (hu : s.fDone.length < 200) (hq : putO s.fPlan m.fUnit m.fFrom m.fTo = some q) : redoO us n s = (⟨s.fK, q, tlO us q s.fK, s.fDone ++ [m], l⟩, 0) := by
  unfold redoO
  rw [if_pos h, hd]
  simp only [List.getLast?_concat, List.dropLast_concat]
  rw [if_pos hu, hq]
theorem session_eq {us : List TUnit} {n : Nat} {s : TSession} (h : SOk us n s) : (⟨s.fK, s.fPlan, tlO us s.fPlan s.fK, s.fDone, s.fUndone⟩ : TSession) = s := by rw [← h.tot]
theorem undo_redo {us : List TUnit} {n : Nat} {s : TSession} (h : SOk us n s) (h0 : (undoO us n s).2 = 0) : SOk us n (undoO us n s).1 ∧ redoO us n (undoO us n s).1 = (s, 0) := by
  rcases undoO_cases h with ⟨e, he, h1⟩ | ⟨l, m, q, hd, hu, hq, he, hv, hb⟩
  · rw [he] at h0; simp only at h0; omega
  · rw [he]
    refine ⟨hv, ?_⟩
    have hdl := h.dl
    rw [hd, List.length_append, List.length_cons, List.length_nil] at hdl
    rw [redoO_eq hv (l := s.fUndone) (m := m) rfl (by simp only; omega) hb]
    simp only
    rw [← hd, session_eq h]
theorem redo_undo {us : List TUnit} {n : Nat} {s : TSession} (h : SOk us n s) (h0 : (redoO us n s).2 = 0) : SOk us n (redoO us n s).1 ∧ undoO us n (redoO us n s).1 = (s, 0) := by
  rcases redoO_cases h with ⟨e, he, h1⟩ | ⟨l, m, q, hd, hu, hq, he, hv, hb⟩
  · rw [he] at h0; simp only at h0; omega
  · rw [he]
    refine ⟨hv, ?_⟩
    have hdl := h.ul
    rw [hd, List.length_append, List.length_cons, List.length_nil] at hdl
    rw [undoO_eq hv (l := s.fDone) (m := m) rfl (by simp only; omega) hb]
    simp only
    rw [← hd, session_eq h]
end Go.Proofs.YtcijnmkodpfpgaaGreatDoor
