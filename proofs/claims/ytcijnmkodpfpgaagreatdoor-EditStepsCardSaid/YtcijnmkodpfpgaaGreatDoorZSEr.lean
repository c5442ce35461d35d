/- Plain laws: what the program does again. No program in sight but the printed functions. -/
import Derived.Test.YtcijnmkodpfpgaaGreatDoorZSEo
namespace Go.Proofs.YtcijnmkodpfpgaaGreatDoor
open Go
theorem equalM_ok (a b:List TMove) (h:a.length ≤ 1000):slices_Equal_api_Move_api_Move_p FU a b = some (decide (a = b)):=by
  have hF:=FU_lt
  unfold slices_Equal_api_Move_api_Move_p
  split
  · rename_i hl; exact eq_loop hl (fun J i=>by rfl) (by omega)
  · rename_i hl; rw [decide_eq_false fun e=>hl (by rw [e])]
theorem sameP_ok (a b:TSession) (h:Small a):edit_Same_p FU a b = some (decide (a = b)):=by
  unfold edit_Same_p
  rw [equalP_ok _ _ h.1,equal_ok _ _ h.2.1,equalM_ok _ _ h.2.2.1,equalM_ok _ _ h.2.2.2]
  simp only [obind]
  obtain ⟨k,p,t,d,u⟩:=a
  obtain ⟨k', p', t', d', u'⟩:=b
  simp only [decide_eq_true_eq,TSession.mk.injEq]
  by_cases h1:k = k'
  · by_cases h2:p = p'
    · by_cases h3:t = t'
      · by_cases h4:d = d'
        · simp [h1,h2,h3,h4]
        · simp [h1,h2,h3,h4]
      · simp [h1,h2,h3]
    · simp [h1,h2]
  · simp [h1]
theorem redoP_ok {g:TGraph} {r:TRoll} {us:List TUnit} (c:Case g r us) (s:TSession) (hs:Small s):edit_Redo_p FU g r s = some (redoO us us.length s):=by
  unfold edit_Redo_p
  rw [checkE_ok c s hs,obind]
  unfold redoO
  by_cases h:SOk us us.length s
  · rw [chkO_ok h,if_pos rfl,if_pos h]
    rcases nil_or s.fUndone with hd | ⟨l,m,hd⟩
    · rw [hd,last_nil,obind]; rfl
    · have hm:=h.um m (by rw [hd]; simp)
      rw [hd,last_ok,obind]
      simp only [List.getLast?_concat,List.dropLast_concat]
      rw [if_pos trivial]
      by_cases hu:s.fDone.length < 200
      · obtain ⟨q,hq,hv,_⟩:=redo_valid h hd hu
        rw [if_neg (by omega),if_pos hu]
        refine (put_prog s.fPlan m.fUnit m.fFrom m.fTo hm.1 (by have:=hm.2.1; have:=h.fits.1; omega) hs.1 _ _).trans ?_
        rw [hq]
        obtain ⟨hget,_,rfl⟩:=putO_some hq
        simp only
        rw [h.tot]
        refine (step_totals c h.fits hm h.k.2 hget _).trans ?_
        rw [more_ok _ _ hs.2.2.1,obind]
      · rw [if_pos (by omega),if_neg hu]; rfl
  · rw [if_neg (chkO_no h),if_neg h]; rfl
end Go.Proofs.YtcijnmkodpfpgaaGreatDoor
