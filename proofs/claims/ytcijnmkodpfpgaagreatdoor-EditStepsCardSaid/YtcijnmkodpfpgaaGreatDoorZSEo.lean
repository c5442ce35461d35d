/- Plain laws: what the program undoes. No program in sight but the printed functions. -/
import Derived.Test.YtcijnmkodpfpgaaGreatDoorZSEh
namespace Go.Proofs.YtcijnmkodpfpgaaGreatDoor
open Go
theorem same_self (a:TSession) (h:Small a):wardmoteref26_Same_p FU a a = some true:=by rw [same_ok a a h,decide_eq_true rfl]
theorem works26:wardmotelaw26_works_p FU = some true:=by kernel_rfl
theorem equalP_ok (a b:List Int) (h:a.length ≤ 1000):slices_Equal_api_Plan_int_p FU a b = some (decide (a = b)):=by
  have hF:=FU_lt
  unfold slices_Equal_api_Plan_int_p
  split
  · rename_i hl; exact eq_loop hl (fun J i=>by rfl) (by omega)
  · rename_i hl; rw [decide_eq_false fun e=>hl (by rw [e])]
theorem last_nil:edit_last_api_Move_p FU [] = some (⟨0,0,0⟩,[],false):=rfl
theorem last_ok (l:List TMove) (m:TMove):edit_last_api_Move_p FU (l ++ [m]) = some (m,l,true):=by
  unfold edit_last_api_Move_p
  rw [if_neg (by simp),last_idx,obind,last_cut,obind]
theorem undoP_ok {g:TGraph} {r:TRoll} {us:List TUnit} (c:Case g r us) (s:TSession) (hs:Small s):edit_Undo_p FU g r s = some (undoO us us.length s):=by
  unfold edit_Undo_p
  rw [checkE_ok c s hs,obind]
  unfold undoO
  by_cases h:SOk us us.length s
  · rw [chkO_ok h,if_pos rfl,if_pos h]
    rcases nil_or s.fDone with hd | ⟨l,m,hd⟩
    · rw [hd,last_nil,obind]; rfl
    · have hm:=mv_rev (h.dm m (by rw [hd]; simp))
      rw [hd,last_ok,obind]
      simp only [List.getLast?_concat,List.dropLast_concat]
      rw [if_pos trivial]
      by_cases hu:s.fUndone.length < 200
      · obtain ⟨q,hq,hv,_⟩:=undo_valid h hd hu
        rw [if_neg (by omega),if_pos hu]
        unfold edit_turned_p
        rw [obind]
        simp only
        refine (put_prog s.fPlan m.fUnit m.fTo m.fFrom hm.1 (by have:=hm.2.1; have:=h.fits.1; simp only [revM] at *; omega) hs.1 _ _).trans ?_
        rw [hq]
        obtain ⟨hget,_,rfl⟩:=putO_some hq
        simp only
        rw [h.tot]
        refine (step_totals c h.fits hm h.k.2 hget _).trans ?_
        rw [more_ok _ _ hs.2.2.2,obind]
      · rw [if_pos (by omega),if_neg hu]; rfl
  · rw [if_neg (chkO_no h),if_neg h]; rfl
end Go.Proofs.YtcijnmkodpfpgaaGreatDoor
