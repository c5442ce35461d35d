/- Plain laws: a drafted roll in the reference; the totals; cases are checked alike. No program in sight but the printed functions. -/
import Derived.Test.YtcijnmkodpfpgaaGreatDoorZSEc
namespace Go.Proofs.YtcijnmkodpfpgaaGreatDoor
open Go
theorem named_all:(List.range 9).all (fun i=>decide (wardmoteref16_named_p FU (nm i) = some true)) = true:=by kernel_rfl
theorem named_nm {i:Nat} (h:i < 9):wardmoteref16_named_p FU (nm i) = some true:=of_decide_eq_true (List.all_eq_true.1 named_all i (List.mem_range.2 h))
theorem named_sea:wardmoteref16_named_p FU ⟨#[115,101,97]⟩ = some true:=by kernel_rfl
theorem withinR_ok (l:List Int) (a most:Int) (hl:(l.length:Int) = a) (h:∀ x ∈ l,0 ≤ x∧x ≤ most) (hn:l.length ≤ 1000):wardmoteref16_within_p FU l a most = some true:=by
  have hF:=FU_lt
  have hh:=loop_ok (B:=wardmoteref16_within_l1 FU l most) (fun i:Nat=>l.length - i) (fun i=>i ≤ l.length) (fun r=>r = .inr ()) ?_ FU 0 (Nat.zero_le _) (by omega)
  · obtain ⟨r,e,rfl⟩:=hh
    unfold wardmoteref16_within_p
    rw [e]
    simp [thn,hl]
  · intro i J hi hJ
    unfold wardmoteref16_within_l1
    simp only
    split
    · rename_i h0
      have:=h l[i] (List.getElem_mem _)
      rw [List.getElem?_eq_getElem h0,obind,if_neg (by omega),if_neg (by omega)]
      exact hJ (i + 1) h0 (by omega)
    · exact ⟨_,rfl,rfl⟩
theorem rightR_land (r:TRoll) (u:TUnit) {i:Nat} (hi:i < 9) (hG:r.fGroups ≤ 6) (hP:r.fParties ≤ 12) (hL:r.fLevels ≤ 3) (hn:u.fName = nm i) (h:UnitOk r.fGroups r.fParties r.fLevels u):wardmoteref16_right_p FU r u = some true:=by
  obtain ⟨w,pp,g,v,q⟩:=h
  unfold wardmoteref16_right_p
  rw [hn,named_nm hi,obind,if_pos rfl,if_neg (by omega),if_neg (by omega),withinR_ok _ _ _ g.1 g.2 (by omega),obind,if_pos rfl,withinR_ok _ _ _ v.1 (fun x hx=>⟨(v.2 x hx).1,by have:=(v.2 x hx).2; omega⟩) (by omega),obind,if_pos rfl,withinR_ok _ _ _ q.1 q.2 (by omega),obind,if_pos rfl,if_neg (by rw [w]; decide)]
theorem rightR_sea (r:TRoll) (hG:0 ≤ r.fGroups∧r.fGroups ≤ 6) (hP:0 ≤ r.fParties∧r.fParties ≤ 12) (hL:0 ≤ r.fLevels∧r.fLevels ≤ 3):wardmoteref16_right_p FU r (sea r.fGroups r.fParties r.fLevels) = some true:=by
  have z:∀ (n:Nat) (m x:Int),0 ≤ m → x ∈ List.replicate n (0:Int) → 0 ≤ x∧x ≤ m:=fun n m x hm hx=>by rw [(List.mem_replicate.1 hx).2]; omega
  unfold wardmoteref16_right_p sea
  simp only
  rw [named_sea,obind,if_pos rfl,if_neg (by decide),if_neg (by decide),withinR_ok _ _ _ (by rw [List.length_replicate]; omega) (fun x=>z _ _ x (by decide)) (by rw [List.length_replicate]; omega),obind,if_pos rfl,
    withinR_ok _ _ _ (by rw [List.length_replicate]; omega) (fun x=>z _ _ x (by decide)) (by rw [List.length_replicate]; omega),obind,if_pos rfl,
    withinR_ok _ _ _ (by rw [List.length_replicate]; omega) (fun x=>z _ _ x (by decide)) (by rw [List.length_replicate]; omega),obind,if_pos rfl,if_pos trivial,if_pos trivial,
    withinR_ok _ _ _ (by rw [List.length_replicate]; omega) (fun x=>z _ _ x (by decide)) (by rw [List.length_replicate]; omega),obind,if_pos rfl,
    withinR_ok _ _ _ (by rw [List.length_replicate]; omega) (fun x=>z _ _ x (by decide)) (by rw [List.length_replicate]; omega),obind]
theorem RollOk.dry {r:TRoll} {us:List TUnit} (h:RollOk r us) {i:Nat} (hi:i < r.fUnits.length):(i < us.length → r.fUnits[i].fWater = false)∧(us.length ≤ i → r.fUnits[i].fWater = true):=by
  rcases h.unit hi with ⟨h2,e2⟩ | ⟨h2,e2⟩
  · exact ⟨fun _=>by rw [e2]; exact (h.land i h2).2.1,fun h3=>by omega⟩
  · exact ⟨fun h3=>by omega,fun _=>by rw [e2]; rfl⟩
theorem RollOk.names {r:TRoll} {us:List TUnit} (h:RollOk r us) {i j:Nat} (hi:i < r.fUnits.length) (hj:j < r.fUnits.length) (hij:j < i):r.fUnits[j].fName ≠ r.fUnits[i].fName:=fun he=>by
  have hl:=h.len
  have hs:=h.size
  rcases h.unit hi with ⟨h2,e2⟩ | ⟨h2,e2⟩ <;> rcases h.unit hj with ⟨h3,e3⟩ | ⟨h3,e3⟩
  · rw [e2,e3,(h.land i h2).1,(h.land j h3).1] at he
    have:=nm_inj (by omega) (by omega) he; omega
  · omega
  · rw [e2,e3,(h.land j h3).1] at he
    exact nm_sea he
  · omega
theorem checkrollR_ok (r:TRoll) (us:List TUnit) (h:RollOk r us):wardmoteref16_CheckRoll_p FU r = some 0:=by
  have hF:=FU_lt
  have hl:=h.len
  have hs:=h.size
  have hg:=h.g
  have hp:=h.p
  have hv:=h.l
  have hh:=loop_ok (B:=wardmoteref16_CheckRoll_l2 FU r) (fun i:Nat=>r.fUnits.length - i) (fun i=>i ≤ r.fUnits.length) (fun y=>y = .inr ()) ?_ FU 0 (Nat.zero_le _) (by omega)
  · obtain ⟨y,e,rfl⟩:=hh
    unfold wardmoteref16_CheckRoll_p jn
    simp only
    rw [if_neg (by omega),if_neg (by omega),if_neg (by omega),if_neg (by omega),if_neg (by omega),if_neg (by rw [decide_eq_false (by omega)]; decide),if_neg (by omega),if_neg (by omega),List.getElem?_eq_getElem (by omega),obind,if_neg (by rw [(h.dry (by omega)).1 (by omega)]; decide),e]
    rfl
  · intro i J hi hJ
    unfold wardmoteref16_CheckRoll_l2
    simp only
    split
    · rename_i h0
      have hr:wardmoteref16_right_p FU r r.fUnits[i] = some true:=by
        rcases h.unit h0 with ⟨h2,e2⟩ | ⟨h2,e2⟩
        · rw [e2]; exact rightR_land r us[i] (by omega) (by omega) (by omega) (by omega) (h.land i h2).1 (h.land i h2).2
        · rw [e2]; exact rightR_sea r ⟨hg.1,by omega⟩ ⟨hp.1,by omega⟩ ⟨hv.1,by omega⟩
      have hin:=loop_ok (B:=wardmoteref16_CheckRoll_l1 FU i r r.fUnits[i]) (fun j:Nat=>i - j) (fun j=>j ≤ i) (fun y=>y = .inr ()) (fun j K hj hK=>by
        unfold wardmoteref16_CheckRoll_l1
        simp only
        split
        · rename_i hji
          have hw:=(h.dry (i:=j) (by omega)).1 (by omega)
          rw [List.getElem?_eq_getElem (by omega),obind,if_neg (h.names h0 (by omega) hji),hw,if_neg (by decide)]
          exact hK (j + 1) hji (by omega)
        · exact ⟨_,rfl,rfl⟩) FU 0 (Nat.zero_le _) (by omega)
      obtain ⟨y,e,rfl⟩:=hin
      rw [List.getElem?_eq_getElem h0,obind,hr,obind,if_pos rfl,e]
      exact hJ (i + 1) h0 (by omega)
    · exact ⟨_,rfl,rfl⟩
theorem landsR_ok (r:TRoll) (us:List TUnit) (h:RollOk r us):wardmoteref16_Lands_p FU r = some (us.length:Int):=by
  have hF:=FU_lt
  have hl:=h.len
  have hs:=h.size
  have hh:=loop_ok (B:=wardmoteref16_Lands_l1 FU r) (fun i:Nat=>r.fUnits.length - i) (fun i=>i ≤ us.length) (fun y=>y = us.length) ?_ FU 0 (Nat.zero_le _) (by omega)
  · obtain ⟨y,e,rfl⟩:=hh
    unfold wardmoteref16_Lands_p jn
    rw [e]; rfl
  · intro i J hi hJ
    unfold wardmoteref16_Lands_l1
    simp only
    split
    · rename_i h0
      rw [List.getElem?_eq_getElem h0,obind]
      by_cases hiu:i < us.length
      · rw [(h.dry h0).1 hiu,if_neg (by decide)]; exact hJ (i + 1) hiu (by omega)
      · rw [(h.dry h0).2 (by omega),if_pos rfl]; exact ⟨_,rfl,by omega⟩
    · exact ⟨_,rfl,by omega⟩
theorem landR_ok (r:TRoll) (us:List TUnit) (h:RollOk r us):wardmoteref22_Land_p FU r = some (us.length:Int):=by
  unfold wardmoteref22_Land_p wardmoteref16_Land_p
  rw [checkrollR_ok r us h,obind,if_pos rfl,landsR_ok r us h,obind,obind]
theorem peo_take:∀ {us:List TUnit} {p:List Int} {i:Nat} (h:i < us.length) (h2:i < p.length) (d:Int),peo (us.take (i + 1)) p d = peo (us.take i) p d + (if p[i] = d then us[i].fPeople else 0)
  | u :: us,x :: p,0,_,_,d=>by simp [peo]
  | u :: us,x :: p,i + 1,h,h2,d=>by
    have:=peo_take (us:=us) (p:=p) (i:=i) (by simpa using h) (by simpa using h2) d
    simp only [List.take_succ_cons,peo,List.getElem_cons_succ,this]; omega
theorem peo_le:∀ {us:List TUnit} {p:List Int} (d:Int),(∀ u ∈ us,0 ≤ u.fPeople∧u.fPeople ≤ 255) → 0 ≤ peo us p d∧peo us p d ≤ 255 * us.length
  | [],p,d,_=>by unfold peo; simp
  | u :: us,[],d,h=>by unfold peo; simp; omega
  | u :: us,x :: p,d,h=>by
    have h1:=h u (List.mem_cons_self ..)
    have h2:=peo_le (us:=us) (p:=p) d fun y hy=>h y (List.mem_cons_of_mem _ hy)
    simp only [peo,List.length_cons]
    split <;> omega
theorem tl_take {us:List TUnit} {p:List Int} {k:Int} {i:Nat} (h:i < us.length) (h2:i < p.length) (x0:0 ≤ p[i]) (x1:p[i] < k) (a:p[i].toNat < (tlO (us.take i) p k).length) :
    tlO (us.take (i + 1)) p k = (tlO (us.take i) p k).set p[i].toNat ((tlO (us.take i) p k)[p[i].toNat] + us[i].fPeople):=by
  apply List.ext_getElem
  · simp [tlO]
  · intro d h3 h4
    rw [tl_get,peo_take h h2]
    by_cases e1:p[i].toNat = d
    · subst e1
      rw [List.getElem_set_self,tl_get,if_pos (by omega)]
    · rw [List.getElem_set_ne e1,tl_get,if_neg (by omega)]; omega
theorem tl_zero (p:List Int) (k:Int):tlO [] p k = List.replicate k.toNat 0:=by
  apply List.ext_getElem
  · simp [tlO]
  · intro d h1 h2
    rw [tl_get]; simp [peo]
theorem RollOk.ppl {r:TRoll} {us:List TUnit} (h:RollOk r us) (i:Nat) (p:List Int) (d:Int):0 ≤ peo (us.take i) p d∧peo (us.take i) p d ≤ 2295:=by
  have:=peo_le (us:=us.take i) (p:=p) d fun u hu=>h.people u (List.mem_of_mem_take hu)
  have:=h.len
  rw [List.length_take] at *
  omega
theorem totalsP_ok (r:TRoll) (us:List TUnit) (hr:RollOk r us) (p:List Int) (k:Int) (hk:1 ≤ k) (hk8:k ≤ 8) (h:Fits us.length p k):balance_Totals_p FU r p k = some (tlO us p k,0):=by
  have hF:=FU_lt
  have hs:=hr.size
  have hlen:=hr.len
  obtain ⟨hl,h⟩:=h
  have hh:=loop_ok (B:=balance_count_totals_l1 FU ⟨r,k⟩ p) (fun s:Nat × List Int=>r.fUnits.length - s.1) (fun s=>s.1 ≤ us.length + 1∧s.2 = tlO (us.take s.1) p k)
    (fun y=>y = .inl (.ok (tlO us p k)) ∨ y = .inr (tlO us p k)) ?_ FU (0,List.replicate k.toNat 0) ⟨by simp,by simp only [List.take_zero]; rw [tl_zero]⟩ (by simp only; omega)
  · obtain ⟨y,e,hy⟩:=hh
    unfold balance_Totals_p balance_Totals_1_p
    rw [counted_ok r us hr k hk hk8,obind]
    unfold exc
    simp only
    unfold balance_count_totals_p
    rw [check_plan r us hr p k hk h hl,obind]
    unfold exc
    simp only
    rw [show mk k (0:Int) = some (List.replicate k.toNat 0) from if_pos ⟨by omega,by omega⟩,obind,e]
    rcases hy with rfl | rfl <;> rfl
  · rintro ⟨i,xs⟩ J ⟨a1,a2⟩ hJ
    simp only at a1 a2 hJ
    subst a2
    unfold balance_count_totals_l1
    simp only
    split
    · rename_i hi
      rw [List.getElem?_eq_getElem hi,obind]
      rcases hr.unit hi with ⟨h2,e3⟩ | ⟨h2,e3⟩
      · have hx:=h.1 (p[i]'(by omega)) (List.getElem_mem _)
        have hp:(p[i]'(by omega)).toNat < (tlO (us.take i) p k).length:=by rw [tl_len]; omega
        have hb:=hr.ppl i p ((p[i]'(by omega)).toNat:Nat)
        have hu:=(hr.land i h2).2.2.1
        rw [e3,if_neg (by rw [(hr.land i h2).2.1]; decide),List.getElem?_eq_getElem (by omega),obind,idx_ok hx.1 hp,obind,tl_get,chkI (by omega) (by omega),obind,put_ok _ hp,obind]
        refine hJ _ ⟨by simp only; omega,?_⟩ (by simp only; omega)
        simp only
        rw [tl_take h2 (by omega) hx.1 hx.2 hp,tl_get]
      · rw [e3,if_pos (show (sea r.fGroups r.fParties r.fLevels).fWater = true from rfl)]
        exact ⟨_,rfl,.inl (by rw [List.take_of_length_le (by omega)])⟩
    · exact ⟨_,rfl,.inr (by rw [List.take_of_length_le (by omega)])⟩
theorem fitsR_ok (p:List Int) (n:Nat) (k:Int) (h1:1 ≤ n) (h9:n ≤ 9) (hk:1 ≤ k) (hk8:k ≤ 8) (h:Fits n p k):wardmoteref22_fits_p FU p n k = some true:=by
  have hF:=FU_lt
  obtain ⟨hl,h⟩:=h
  have h2:=loop_ok (B:=wardmoteref22_fits_l2 FU n p k) (fun s:Int × List Bool=>n - s.1.toNat) (fun s=>0 ≤ s.1∧s.1 ≤ n∧s.2.length = k.toNat∧∀ d (hd:d < s.2.length),(d:Int) ∈ p.take s.1.toNat → s.2[d] = true)
    (fun y=>∃ xs,y = .inr xs∧xs.length = k.toNat∧∀ d (hd:d < xs.length),xs[d] = true) ?_ FU (0,List.replicate k.toNat false) ⟨by simp,by simp,by simp,fun d hd hm=>by simp at hm⟩ (by simp only; omega)
  · obtain ⟨y,e,xs,rfl,x1,x2⟩:=h2
    have h3:=loop_ok (B:=wardmoteref22_fits_l1 FU k xs) (fun z:Int=>k.toNat - z.toNat) (fun z=>0 ≤ z∧z ≤ k) (fun y=>y = .inr ()) (fun z J hz hJ=>by
      unfold wardmoteref22_fits_l1
      simp only
      split
      · rename_i hzk
        rw [idx_ok hz.1 (by omega),obind,x2 z.toNat (by omega),if_pos rfl,chkI (by omega) (by omega),obind]
        exact hJ _ ⟨by omega,by omega⟩ (by omega)
      · exact ⟨_,rfl,rfl⟩) FU 0 ⟨by omega,by omega⟩ (by omega)
    obtain ⟨y,e3,rfl⟩:=h3
    unfold wardmoteref22_fits_p
    rw [if_pos (by omega),show mk k false = some (List.replicate k.toNat false) from if_pos ⟨by omega,by omega⟩,obind,e]
    unfold thn
    simp only
    rw [e3]
  · rintro ⟨z,xs⟩ J ⟨a1,a2,a3,a4⟩ hJ
    simp only at a1 a2 a3 a4 hJ
    unfold wardmoteref22_fits_l2
    simp only
    split
    · rename_i hz
      have hzl:z.toNat < p.length:=by omega
      have hx:=h.1 p[z.toNat] (List.getElem_mem _)
      have hm:p[z.toNat].toNat < xs.length:=by omega
      rw [idx_ok a1 hzl,obind,if_neg (by omega),if_neg (by omega),idx_ok hx.1 hm,obind,put_ok _ hm,obind,chkI (by omega) (by omega),obind]
      refine hJ _ ⟨by simp only; omega,by simp only; omega,by simpa using a3,fun d hd hmem=>?_⟩ (by simp only; omega)
      simp only [List.length_set] at hd hmem ⊢
      by_cases e:p[z.toNat].toNat = d
      · subst e; rw [List.getElem_set_self]
      · rw [List.getElem_set_ne e]
        refine a4 d hd ?_
        rw [show (z + 1).toNat = z.toNat + 1 by omega,List.take_succ_eq_append_getElem hzl,List.mem_append,List.mem_singleton] at hmem
        rcases hmem with hmem | hmem
        · exact hmem
        · omega
    · refine ⟨_,rfl,xs,rfl,a3,fun d hd=>a4 d hd ?_⟩
      rw [List.take_of_length_le (by omega)]
      exact h.2 d (by omega) (by omega)
theorem totalsR_ok (r:TRoll) (us:List TUnit) (hr:RollOk r us) (p:List Int) (k:Int) (hk:1 ≤ k) (hk8:k ≤ 8) (h:Fits us.length p k):wardmoteref22_Totals_p FU r p k = some (tlO us p k,0):=by
  have hF:=FU_lt
  have hs:=hr.size
  have hlen:=hr.len
  have hfit:=h
  obtain ⟨hl,h⟩:=h
  have hh:=loop_ok (B:=wardmoteref22_Totals_l1 FU p r) (fun s:Nat × List Int=>p.length - s.1) (fun s=>s.1 ≤ p.length∧s.2 = tlO (us.take s.1) p k)
    (fun y=>y = tlO us p k) ?_ FU (0,List.replicate k.toNat 0) ⟨by simp,by simp only [List.take_zero]; rw [tl_zero]⟩ (by simp only; omega)
  · obtain ⟨y,e,rfl⟩:=hh
    unfold wardmoteref22_Totals_p wardmoteref22_Check_p wardmoteref22_counted_p
    rw [checkrollR_ok r us hr,obind,if_pos rfl,if_neg (by omega),if_neg (by omega),obind,if_pos rfl,landR_ok r us hr,obind,fitsR_ok p us.length k (by omega) (by omega) hk hk8 hfit,obind,if_pos rfl,obind,if_pos rfl,show mk k (0:Int) = some (List.replicate k.toNat 0) from if_pos ⟨by omega,by omega⟩,obind,e,obind]
  · rintro ⟨i,xs⟩ J ⟨a1,a2⟩ hJ
    simp only at a1 a2 hJ
    subst a2
    unfold wardmoteref22_Totals_l1
    simp only
    split
    · rename_i hi
      have h2:i < us.length:=by omega
      have hx:=h.1 p[i] (List.getElem_mem _)
      have hp:p[i].toNat < (tlO (us.take i) p k).length:=by rw [tl_len]; omega
      have hb:=hr.ppl i p (p[i].toNat:Nat)
      have hu:=(hr.land i h2).2.2.1
      have e3:r.fUnits[i]'(by omega) = us[i]:=by
        rcases hr.unit (j:=i) (by omega) with ⟨_,e3⟩ | ⟨h4,_⟩
        · exact e3
        · omega
      rw [List.getElem?_eq_getElem hi,obind,idx_ok hx.1 hp,obind,List.getElem?_eq_getElem (by omega),obind,e3,tl_get,chkI (by omega) (by omega),obind,put_ok _ hp,obind]
      refine hJ _ ⟨hi,?_⟩ (by simp only; omega)
      simp only
      rw [tl_take h2 hi hx.1 hx.2 hp,tl_get]
    · exact ⟨_,rfl,by rw [List.take_of_length_le (by omega)]⟩
structure Case (g:TGraph) (r:TRoll) (us:List TUnit):Prop where
  roll:RollOk r us
  n:g.fN = us.length
  gp:graph_Check_p FU g = some 0
  gr:wardmoteref18_Check_p FU g = some 0
theorem chkP_no {n:Nat} {p:List Int} {k:Int} (h:chkP n p k = 0):(1 ≤ k∧k ≤ 8)∧Fits n p k:=by
  unfold chkP at h
  split at h
  · rename_i h1
    split at h
    · rename_i h2; exact ⟨h1,h2⟩
    · exact absurd h (by decide)
  · exact absurd h (by decide)
theorem judge_ok {g:TGraph} {r:TRoll} {us:List TUnit} (c:Case g r us) (p:List Int) (k:Int):judge_Check_p FU g r p k = some (chkP us.length p k):=by
  have hF:=FU_lt
  have hs:=c.roll.size
  have hlen:=c.roll.len
  have hh:=loop_ok (B:=judge_Check_l1 FU r) (fun s:Int × Nat=>r.fUnits.length - s.2) (fun s=>s.2 ≤ r.fUnits.length∧s.1 = min s.2 us.length) (fun y=>y = (us.length:Int)) ?_ FU (0,0) ⟨by simp,by simp⟩ (by simp only; omega)
  · obtain ⟨y,e,rfl⟩:=hh
    unfold judge_Check_p
    rw [c.gp,obind,show judge_need_p FU 0 = some (.ok ()) from rfl,obind]
    unfold exc
    simp only
    rw [checkroll_ok r us c.roll,obind,show judge_need_p FU 0 = some (.ok ()) from rfl,obind]
    simp only
    rw [e,obind,decide_eq_true c.n.symm]
    unfold judge_fail_p
    simp only [Bool.not_true]
    rw [if_neg (by decide),obind]
    simp only
    rw [planP_ok g us.length c.gp c.n (by omega) (by omega),obind]
    by_cases h0:chkP us.length p k = 0
    · obtain ⟨hk,hfit⟩:=chkP_no h0
      rw [h0,show judge_need_p FU 0 = some (.ok ()) from rfl,obind]
      simp only
      rw [totalsP_ok r us c.roll p k hk.1 hk.2 hfit,obind]
      rfl
    · rw [show judge_need_p FU (chkP us.length p k) = some (.error ⟨chkP us.length p k⟩) from if_neg h0,obind]
  · rintro ⟨z,i⟩ J ⟨a1,a2⟩ hJ
    simp only at a1 a2 hJ
    subst a2
    unfold judge_Check_l1 jn
    simp only
    split
    · rename_i hi
      rw [List.getElem?_eq_getElem hi,obind]
      by_cases hiu:i < us.length
      · rw [(c.roll.dry hi).1 hiu,if_neg (by decide),chkI (by omega) (by omega),obind]
        exact hJ _ ⟨hi,by simp only; omega⟩ (by simp only; omega)
      · rw [(c.roll.dry hi).2 (by omega),if_pos rfl]
        exact hJ _ ⟨hi,by simp only; omega⟩ (by simp only; omega)
    · exact ⟨_,rfl,by omega⟩
theorem check25_ok {g:TGraph} {r:TRoll} {us:List TUnit} (c:Case g r us) (p:List Int) (k:Int):wardmoteref25_Check_p FU g r p k = some (chkP us.length p k):=by
  have hlen:=c.roll.len
  unfold wardmoteref25_Check_p
  rw [c.gr,obind,if_pos rfl,checkrollR_ok r us c.roll,obind,if_pos rfl,landR_ok r us c.roll,obind,if_pos c.n.symm,planR_ok g us.length c.gr c.n (by omega) (by omega),obind]
end Go.Proofs.YtcijnmkodpfpgaaGreatDoor
