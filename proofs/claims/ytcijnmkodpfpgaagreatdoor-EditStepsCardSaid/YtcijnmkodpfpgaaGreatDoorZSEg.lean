/- Plain laws: steps of sessions agree. No program in sight but the printed functions. -/
import Derived.Test.YtcijnmkodpfpgaaGreatDoorZSEf
namespace Go.Proofs.YtcijnmkodpfpgaaGreatDoor
open Go
theorem jn_arg {α β γ:Type} {K:α → Option β} {B:(α → Option β) → Option γ} {f:(α → Option β) → Option γ} (hB:∀ K,B K = f K):jn K B = f K:=hB K
theorem args_prog {β:Type} (u t k:Int) (n:Nat) (p:List Int) (hp:p.length = n) (z:Int) (hz:z = n) (J:Bool → Option β) :
    (if u < 0 then J true else (if z ≤ u then J true else (if t < 0 then J true else (if k ≤ t then J true else (idx p u).bind fun x=>J (decide (x = t)))))) = J (!decide (0 ≤ u∧u < n∧0 ≤ t∧t < k∧p[u.toNat]! ≠ t)):=by
  subst hz
  by_cases h1:u < 0
  · rw [if_pos h1,decide_eq_false (by omega)]; rfl
  · by_cases h2:(n:Int) ≤ u
    · rw [if_neg h1,if_pos h2,decide_eq_false (by omega)]; rfl
    · by_cases h3:t < 0
      · rw [if_neg h1,if_neg h2,if_pos h3,decide_eq_false (by omega)]; rfl
      · by_cases h4:k ≤ t
        · rw [if_neg h1,if_neg h2,if_neg h3,if_pos h4,decide_eq_false (by omega)]; rfl
        · have hu:u.toNat < p.length:=by omega
          rw [if_neg h1,if_neg h2,if_neg h3,if_neg h4,idx_ok (by omega) hu,obind,getElem!_pos p u.toNat hu]
          by_cases h5:p[u.toNat] = t
          · rw [decide_eq_true h5,decide_eq_false (by omega)]; rfl
          · rw [decide_eq_false h5,decide_eq_true (show 0 ≤ u∧u < (n:Int)∧0 ≤ t∧t < k∧p[u.toNat] ≠ t from ⟨by omega,by omega,by omega,by omega,h5⟩)]; rfl
theorem args_ref {β:Type} (u t k:Int) (n:Nat) (p:List Int) (hp:p.length = n) (z:Int) (hz:z = n) (J:Bool → Option β) :
    (if u < 0 then J true else (if z ≤ u then J true else (if t < 0 then J true else (if k ≤ t then J true else (idx p u).bind fun x=>J (decide (t = x)))))) = J (!decide (0 ≤ u∧u < n∧0 ≤ t∧t < k∧p[u.toNat]! ≠ t)):=by
  rw [← args_prog u t k n p hp z hz J]
  simp only [eq_comm]
theorem tl_small {r:TRoll} {us:List TUnit} (hr:RollOk r us) (p:List Int) (k:Int) (d:Nat) (h:d < (tlO us p k).length):0 ≤ (tlO us p k)[d]∧(tlO us p k)[d] ≤ 2295:=by
  rw [tl_get]
  have:=hr.ppl us.length p d
  rwa [List.take_of_length_le (Nat.le_refl _)] at this
theorem step_totals {g:TGraph} {r:TRoll} {us:List TUnit} (c:Case g r us) {p:List Int} {k u f t:Int} (hfit:Fits us.length p k) (hm:Mv us.length k ⟨u,f,t⟩) (hk8:k ≤ 8) (hf:p[u.toNat]? = some f) {β:Type} (K:List Int → Option β) :
    ((slices_Clone_int_int_p FU (tlO us p k)).bind fun y=>(idx y f).bind fun x=>(idx r.fUnits u).bind fun un=>(chk (x - un.fPeople)).bind fun s1=>(put y ((f.toNat:Nat):Int) s1).bind fun xs=>(idx xs t).bind fun x2=>(chk (x2 + un.fPeople)).bind fun s2=>(put xs ((t.toNat:Nat):Int) s2).bind fun ys=>K ys) = K (tlO us (p.set u.toNat t) k):=by
  obtain ⟨u0,u1,f0,f1,t0,t1,hne⟩:=hm
  simp only at u0 u1 f0 f1 t0 t1 hne
  have hl:=c.roll.len
  have hs:=c.roll.size
  have hu:u.toNat < us.length:=by omega
  have hup:u.toNat < p.length:=by rw [hfit.1]; exact hu
  have a:f.toNat < (tlO us p k).length:=by rw [tl_len]; omega
  have b:t.toNat < (tlO us p k).length:=by rw [tl_len]; omega
  rw [List.getElem?_eq_getElem hup] at hf
  have e3:r.fUnits[u.toNat]'(by omega) = us[u.toNat]:=by
    rcases c.roll.unit (j:=u.toNat) (by omega) with ⟨_,e3⟩ | ⟨h4,_⟩
    · exact e3
    · omega
  have hb1:=tl_small c.roll p k f.toNat a
  have hb2:=tl_small c.roll p k t.toNat b
  have hpe:=(c.roll.land u.toNat hu).2.2.1
  rw [cloneI_ok _ (by rw [tl_len]; omega),obind,idx_ok f0 a,obind,idx_ok u0 (by omega),obind,e3,chkI (by omega) (by omega),obind,put_ok _ a,obind,idx_ok t0 (by simpa using b),obind,List.getElem_set_ne (by omega),chkI (by omega) (by omega),obind,put_ok _ (by simpa using b),obind]
  rw [tl_set hu hup (Option.some.inj hf) f0 f1 t0 t1 hne a b]
theorem more_ok (l:List TMove) (m:TMove) (h:l.length ≤ 1000):edit_more_api_Move_p FU l m = some (l ++ [m]):=by
  unfold edit_more_api_Move_p
  rw [appS _ _ (by simp only [List.length_cons,List.length_nil]; omega),obind]
theorem with_ok {g:TGraph} {r:TRoll} {us:List TUnit} (c:Case g r us) (s:TSession) (q:List Int) (h1:1 ≤ s.fK∧s.fK ≤ 8) (h:Fits us.length q s.fK):wardmoteref26_with_p FU r s q = some ⟨s.fK,q,tlO us q s.fK,s.fDone,s.fUndone⟩:=by
  unfold wardmoteref26_with_p
  rw [totalsR_ok r us c.roll q s.fK h1.1 h1.2 h,obind]
theorem makeR_ok {g:TGraph} {r:TRoll} {us:List TUnit} (c:Case g r us) (s:TSession) (hs:Small s) (u t:Int):wardmoteref26_Make_p FU g r s u t = some (makeO us us.length s u t):=by
  unfold wardmoteref26_Make_p
  rw [checkR_ok c s hs,obind]
  unfold makeO
  by_cases h:SOk us us.length s
  · have hp:=h.fits.1
    rw [chkO_ok h,if_pos rfl,if_pos h]
    refine (jn_arg (fun K=>args_ref u t s.fK us.length s.fPlan hp g.fN c.n K)).trans ?_
    by_cases a:0 ≤ u∧u < us.length∧0 ≤ t∧t < s.fK∧s.fPlan[u.toNat]! ≠ t
    · rw [decide_eq_true a,if_pos a]
      obtain ⟨u0,u1,t0,t1,ne⟩:=a
      have hu:u.toNat < s.fPlan.length:=by omega
      rw [getElem!_pos s.fPlan u.toNat hu] at ne ⊢
      have hx:=h.fits.2.1 _ (List.getElem_mem hu)
      simp only [Bool.not_true]
      rw [if_neg (by decide),idx_ok u0 hu,obind,put_ref s.fPlan u _ t u0 (by omega) hs.1,obind]
      rcases hq:putO s.fPlan u s.fPlan[u.toNat] t with _ | q
      · rfl
      · have hfit:=fits_put (m:=⟨u,s.fPlan[u.toNat],t⟩) h.fits ⟨u0,u1,hx.1,hx.2,t0,t1,ne⟩ hq
        have hdl:=h.dl
        simp only
        rw [if_pos trivial]
        by_cases hd:s.fDone.length < 200
        · rw [if_neg (by omega),if_pos hd,with_ok c s q h.k hfit,obind,appS [] _ (by simp only [List.length_nil]; omega),obind,List.nil_append,appS _ _ (by simp only [List.length_cons,List.length_nil]; omega),obind]
        · rw [if_pos (by omega),if_neg hd]; rfl
    · rw [decide_eq_false a,if_neg a]; rfl
  · rw [if_neg (chkO_no h),if_neg h]; rfl
theorem nil_or {α:Type} (l:List α):l = [] ∨ ∃ a m,l = a ++ [m]:=by
  rcases List.eq_nil_or_concat l with h | ⟨a,m,h⟩
  · exact .inl h
  · exact .inr ⟨a,m,by rw [h]; simp⟩
theorem last_idx {α:Type} (a:List α) (m:α):idx (a ++ [m]) ((((a ++ [m]).length:Nat):Int) - 1) = some m:=by
  have h1:((((a ++ [m]).length:Nat):Int) - 1).toNat = a.length:=by simp
  rw [idx_ok (by simp only [List.length_append,List.length_cons,List.length_nil]; omega) (by rw [h1]; simp)]
  simp only [h1]
  simp
theorem last_cut {α:Type} (a:List α) (m:α):cut (a ++ [m]) 0 ((((a ++ [m]).length:Nat):Int) - 1) = some a:=by
  have h1:((((a ++ [m]).length:Nat):Int) - 1) = ((a.length:Nat):Int):=by simp only [List.length_append,List.length_cons,List.length_nil]; omega
  rw [h1,cut_ok (by simp)]
  simp
theorem undoR_ok {g:TGraph} {r:TRoll} {us:List TUnit} (c:Case g r us) (s:TSession) (hs:Small s):wardmoteref26_Undo_p FU g r s = some (undoO us us.length s):=by
  unfold wardmoteref26_Undo_p
  rw [checkR_ok c s hs,obind]
  unfold undoO
  by_cases h:SOk us us.length s
  · rw [chkO_ok h,if_pos rfl,if_pos h]
    rcases nil_or s.fDone with hd | ⟨l,m,hd⟩
    · rw [hd]; rfl
    · have hul:=h.ul
      have hm:=h.dm m (by rw [hd]; simp)
      rw [hd,if_neg (by simp)]
      simp only [List.getLast?_concat,List.dropLast_concat]
      by_cases hu:s.fUndone.length < 200
      · obtain ⟨q,hq,hv,_⟩:=undo_valid h hd hu
        rw [if_neg (by omega),if_pos hu,last_idx,obind,put_ref _ _ _ _ hm.1 (by have:=hm.2.1; have:=h.fits.1; omega) hs.1,hq]
        simp only [obind]
        rw [with_ok c s q h.k hv.fits]
        simp only [obind]
        rw [last_cut,obind,appS [] _ (by simp only [List.length_nil]; omega),obind,List.nil_append,appS _ _ (by simp only [List.length_cons,List.length_nil]; omega),obind]
      · rw [if_pos (by omega),if_neg hu]; rfl
  · rw [if_neg (chkO_no h),if_neg h]; rfl
theorem redoR_ok {g:TGraph} {r:TRoll} {us:List TUnit} (c:Case g r us) (s:TSession) (hs:Small s):wardmoteref26_Redo_p FU g r s = some (redoO us us.length s):=by
  unfold wardmoteref26_Redo_p
  rw [checkR_ok c s hs,obind]
  unfold redoO
  by_cases h:SOk us us.length s
  · rw [chkO_ok h,if_pos rfl,if_pos h]
    rcases nil_or s.fUndone with hd | ⟨l,m,hd⟩
    · rw [hd]; rfl
    · have hul:=h.dl
      have hm:=h.um m (by rw [hd]; simp)
      rw [hd,if_neg (by simp)]
      simp only [List.getLast?_concat,List.dropLast_concat]
      by_cases hu:s.fDone.length < 200
      · obtain ⟨q,hq,hv,_⟩:=redo_valid h hd hu
        rw [if_neg (by omega),if_pos hu,last_idx,obind,put_ref _ _ _ _ hm.1 (by have:=hm.2.1; have:=h.fits.1; omega) hs.1,hq]
        simp only [obind]
        rw [with_ok c s q h.k hv.fits]
        simp only [obind]
        rw [last_cut,obind,appS [] _ (by simp only [List.length_nil]; omega),obind,List.nil_append,appS _ _ (by simp only [List.length_cons,List.length_nil]; omega),obind]
      · rw [if_pos (by omega),if_neg hu]; rfl
  · rw [if_neg (chkO_no h),if_neg h]; rfl
end Go.Proofs.YtcijnmkodpfpgaaGreatDoor
