/- BalanceNames: the plain law. No program in sight but the printed functions. -/
import Derived.Test.YtmhgoecnjleagaaGreatDoorZNTb
namespace Go.Proofs.YtmhgoecnjleagaaGreatDoor
open Go
theorem peo_map (f:Int → Int) (k d:Int) (hf:∀ x,0 ≤ x → x < k → (f x = f d ↔ x = d)):∀ (us:List TUnit) (p:List Int),(∀ x ∈ p,0 ≤ x∧x < k) → peo us (p.map f) (f d) = peo us p d
  | [],_,_=>by simp [peo]
  | _ :: _,[],_=>by simp [peo]
  | u :: us,x :: p,h=>by
    have h1:=h x (List.mem_cons_self ..)
    have h2:=peo_map f k d hf us p fun y hy=>h y (List.mem_cons_of_mem _ hy)
    simp only [List.map_cons,peo,h2]
    by_cases hx:x = d
    · rw [if_pos hx,if_pos ((hf x h1.1 h1.2).2 hx)]
    · rw [if_neg hx,if_neg fun e=>hx ((hf x h1.1 h1.2).1 e)]
def rn (t k x:Int):Int:=(x + t) % k
theorem rn_range {t k:Int} (x:Int) (hk:1 ≤ k):0 ≤ rn t k x∧rn t k x < k:=⟨Int.emod_nonneg _ (by omega),Int.emod_lt_of_pos _ (by omega)⟩
theorem rn_inj {t k x d:Int} (hx:0 ≤ x∧x < k) (hd:0 ≤ d∧d < k):rn t k x = rn t k d ↔ x = d:=by
  refine ⟨fun e=>?_,fun e=>by rw [e]⟩
  unfold rn at e
  have h1:=Int.emod_emod_of_dvd (x - d) (Int.dvd_refl k)
  have h2:(x - d) % k = 0:=by
    have h3:=Int.emod_eq_emod_iff_emod_sub_eq_zero.1 e
    rwa [show x + t - (d + t) = x - d by omega] at h3
  obtain ⟨c,hc⟩:=Int.dvd_of_emod_eq_zero h2
  by_cases h0:c = 0
  · rw [h0,Int.mul_zero] at hc; omega
  · by_cases hp:1 ≤ c
    · have:k * 1 ≤ k * c:=Int.mul_le_mul_of_nonneg_left hp (by omega)
      omega
    · have:k * c ≤ k * (-1):=Int.mul_le_mul_of_nonneg_left (show c ≤ -1 by omega) (by omega)
      omega
theorem rn_onto {t k d:Int} (hk:1 ≤ k) (hd:0 ≤ d∧d < k):∃ x,(0 ≤ x∧x < k)∧rn t k x = d:=by
  refine ⟨(d - t) % k,⟨Int.emod_nonneg _ (by omega),Int.emod_lt_of_pos _ (by omega)⟩,?_⟩
  unfold rn
  rw [Int.emod_add_emod,Int.sub_add_cancel]
  exact Int.emod_eq_of_lt hd.1 hd.2
theorem rn_plan {t k:Int} {p:List Int} (hk:1 ≤ k) (h:PlanOk p k):PlanOk (p.map (rn t k)) k:=by
  refine ⟨fun x hx=>?_,fun d d0 d1=>?_⟩
  · obtain ⟨y,_,rfl⟩:=List.mem_map.1 hx
    exact rn_range y hk
  · obtain ⟨x,hx,rfl⟩:=rn_onto (t:=t) hk ⟨d0,d1⟩
    exact List.mem_map_of_mem (h.2 x hx.1 hx.2)
theorem peo_rn {t k:Int} {p:List Int} (us:List TUnit) (h:∀ x ∈ p,0 ≤ x∧x < k) {d:Int} (hd:0 ≤ d∧d < k):peo us (p.map (rn t k)) (rn t k d) = peo us p d:=
  peo_map (rn t k) k d (fun x h0 h1=>rn_inj ⟨h0,h1⟩ hd) us p h
theorem mem_tl {us:List TUnit} {p:List Int} {k x:Int}:x ∈ tlO us p k ↔ ∃ d:Nat,d < k.toNat∧peo us p d = x:=by
  unfold tlO
  rw [List.mem_map]
  exact ⟨fun ⟨d,h1,h2⟩=>⟨d,List.mem_range.1 h1,h2⟩,fun ⟨d,h1,h2⟩=>⟨d,List.mem_range.2 h1,h2⟩⟩
theorem mem_rn {t k:Int} {p:List Int} (us:List TUnit) (hk:1 ≤ k) (h:∀ x ∈ p,0 ≤ x∧x < k) (x:Int):x ∈ tlO us (p.map (rn t k)) k ↔ x ∈ tlO us p k:=by
  rw [mem_tl,mem_tl]
  constructor
  · rintro ⟨d,hd,rfl⟩
    obtain ⟨y,hy,e⟩:=rn_onto (t:=t) (d:=(d:Int)) hk ⟨by omega,by omega⟩
    refine ⟨y.toNat,by omega,?_⟩
    rw [← e,peo_rn us h hy]
    congr 1; omega
  · rintro ⟨d,hd,rfl⟩
    have hr:=rn_range (t:=t) (d:Int) hk
    refine ⟨(rn t k d).toNat,by omega,?_⟩
    rw [show (((rn t k d).toNat:Nat):Int) = rn t k d by omega]
    exact peo_rn us h ⟨by omega,by omega⟩
theorem max_of (l:List Int) (h:l ≠ []):∃ m ∈ l,∀ x ∈ l,x ≤ m:=by
  induction l with
  | nil=>exact absurd rfl h
  | cons a l ih=>
    by_cases h0:l = []
    · subst h0; exact ⟨a,by simp,by simp⟩
    · obtain ⟨m,hm,h1⟩:=ih h0
      by_cases ha:a ≤ m
      · exact ⟨m,List.mem_cons_of_mem _ hm,fun x hx=>(List.mem_cons.1 hx).elim (fun e=>e ▸ ha) (h1 x)⟩
      · exact ⟨a,List.mem_cons_self ..,fun x hx=>(List.mem_cons.1 hx).elim (fun e=>by omega) fun h2=>by have:=h1 x h2; omega⟩
theorem min_of (l:List Int) (h:l ≠ []):∃ m ∈ l,∀ x ∈ l,m ≤ x:=by
  induction l with
  | nil=>exact absurd rfl h
  | cons a l ih=>
    by_cases h0:l = []
    · subst h0; exact ⟨a,by simp,by simp⟩
    · obtain ⟨m,hm,h1⟩:=ih h0
      by_cases ha:m ≤ a
      · exact ⟨m,List.mem_cons_of_mem _ hm,fun x hx=>(List.mem_cons.1 hx).elim (fun e=>e ▸ ha) (h1 x)⟩
      · exact ⟨a,List.mem_cons_self ..,fun x hx=>(List.mem_cons.1 hx).elim (fun e=>by omega) fun h2=>by have:=h1 x h2; omega⟩
theorem turn_loop (p:List Int) (a:UInt8) (k:Int) (hk:1 ≤ k) (hk8:k ≤ 8) (hl:p.length ≤ 9) (h:∀ x ∈ p,0 ≤ x∧x < k) (p0:List Int):loopF (wardmotelaw22_BalanceNames_l2 FU p a (p0,k)) FU (0,p) = some (p.map (rn ((a.toNat:Nat):Int) k)):=by
  have hF:=FU_lt
  have hh:=loop_ok (B:=wardmotelaw22_BalanceNames_l2 FU p a (p0,k)) (fun s:Nat × List Int=>p.length - s.1) (fun s=>s.1 ≤ p.length∧s.2 = (p.take s.1).map (rn ((a.toNat:Nat):Int) k) ++ p.drop s.1) (fun y=>y = p.map (rn ((a.toNat:Nat):Int) k)) ?_ FU (0,p) ⟨by simp,by simp⟩ (by simp only; omega)
  · obtain ⟨y,e,rfl⟩:=hh; exact e
  · rintro ⟨i,xs⟩ J ⟨a1,a2⟩ hJ
    simp only at a1 a2 hJ
    unfold wardmotelaw22_BalanceNames_l2
    simp only
    split
    · rename_i hi
      have hx:=h p[i] (List.getElem_mem _)
      have ha:=a.toNat_lt
      have hlen:((p.take i).map (rn ((a.toNat:Nat):Int) k)).length = i:=by rw [List.length_map,List.length_take]; omega
      have hd:=List.drop_eq_getElem_cons hi
      have hxi:xs[i]? = some p[i]:=by rw [a2,List.getElem?_append_right (by omega),hlen,Nat.sub_self,hd]; rfl
      have hxl:xs.length = p.length:=by rw [a2,List.length_append,hlen,List.length_drop]; omega
      rw [hxi,obind,chkI (by omega) (by omega),obind,remI_ok (by omega),obind,put_ok _ (by omega),obind]
      refine hJ _ ⟨hi,?_⟩ (by simp only; omega)
      simp only
      rw [a2,List.set_append_right _ _ (by omega),hlen,Nat.sub_self,hd,List.set_cons_zero,List.take_succ_eq_append_getElem hi,List.map_append,List.append_assoc]
      simp only [List.map_cons,List.map_nil,List.singleton_append]
      rw [Int.tmod_eq_emod_of_nonneg (by omega)]
      rfl
    · refine ⟨_,rfl,?_⟩
      rw [a2,List.take_of_length_le (by omega),List.drop_eq_nil_of_le (by omega),List.append_nil]
theorem names_loop (us:List TUnit) (p:List Int) (a:UInt8) (k:Int) (hk:1 ≤ k) (hk8:k ≤ 8) (h:∀ x ∈ p,0 ≤ x∧x < k) (e e' : Int):loopF (wardmotelaw22_BalanceNames_l1 FU (tlO us p k,e) a (p,k) (tlO us (p.map (rn ((a.toNat:Nat):Int) k)) k,e')) FU 0 = some (.inr ()):=by
  have hF:=FU_lt
  have hh:=loop_ok (B:=wardmotelaw22_BalanceNames_l1 FU (tlO us p k,e) a (p,k) (tlO us (p.map (rn ((a.toNat:Nat):Int) k)) k,e')) (fun i:Nat=>(tlO us p k).length - i) (fun i=>i ≤ (tlO us p k).length) (fun y=>y = .inr ()) ?_ FU 0 (Nat.zero_le _) (by rw [tl_len]; omega)
  · obtain ⟨y,e,rfl⟩:=hh; exact e
  · intro i J hi hJ
    unfold wardmotelaw22_BalanceNames_l1
    simp only
    split
    · rename_i h0
      have hik:(i:Int) < k:=by rw [tl_len] at h0; omega
      have hr:=rn_range (t:=((a.toNat:Nat):Int)) (i:Int) hk
      have e1:Int.tmod ((i + a.toNat:Nat):Int) k = rn ((a.toNat:Nat):Int) k i:=by
        rw [Int.tmod_eq_emod_of_nonneg (by omega)]; unfold rn; congr 1
      have hb:(rn ((a.toNat:Nat):Int) k i).toNat < (tlO us (p.map (rn ((a.toNat:Nat):Int) k)) k).length:=by rw [tl_len]; omega
      rw [List.getElem?_eq_getElem h0,obind,remI_ok (by omega),obind,e1,idx_ok hr.1 hb,obind,tl_get,tl_get,show (((rn ((a.toNat:Nat):Int) k i).toNat:Nat):Int) = rn ((a.toNat:Nat):Int) k i by omega,peo_rn us h ⟨by omega,hik⟩,if_pos rfl]
      exact hJ (i + 1) h0 (by omega)
    · exact ⟨_,rfl,rfl⟩
theorem tl_move {us:List TUnit} {p:List Int} {k f t:Int} {i:Nat} (h:i < us.length) (h2:i < p.length) (hf:p[i] = f) (f0:0 ≤ f) (f1:f < k) (t0:0 ≤ t) (t1:t < k) (a:f.toNat < (tlO us p k).length) (b:t.toNat < ((tlO us p k).set f.toNat ((tlO us p k)[f.toNat] - us[i].fPeople)).length) :
    tlO us (p.set i t) k = ((tlO us p k).set f.toNat ((tlO us p k)[f.toNat] - us[i].fPeople)).set t.toNat (((tlO us p k).set f.toNat ((tlO us p k)[f.toNat] - us[i].fPeople))[t.toNat] + us[i].fPeople):=by
  apply List.ext_getElem
  · simp [tlO]
  · intro d h3 h4
    rw [tl_get,peo_set h h2,hf]
    have hd:d < (tlO us p k).length:=by simpa using h4
    simp only [List.getElem_set,tl_get]
    by_cases e1:t.toNat = d
    · subst e1
      rw [if_pos rfl,if_pos (show t = ((t.toNat:Nat):Int) by omega)]
      by_cases e2:f.toNat = t.toNat
      · rw [if_pos e2,if_pos (by omega),e2]
      · rw [if_neg e2,if_neg (by omega)]; omega
    · rw [if_neg e1,if_neg (show ¬ t = (d:Int) by omega)]
      by_cases e2:f.toNat = d
      · subst e2
        rw [if_pos rfl,if_pos (by omega)]; omega
      · rw [if_neg e2,if_neg (by omega)]; omega
theorem balanceNames_ex (a0:TDraft) (a1:TDraft26) (a2 a3 a4:UInt8):∃ n,wardmotelaw22_BalanceNames_p n a0 a1 a2 a3 a4 = some true:=by
  refine ⟨FU,?_⟩
  have hF:=FU_lt
  obtain ⟨p,k,e1,p1,p2,pk,k1,k8⟩:=loose_ok FU a0 (by omega)
  obtain ⟨r,us,e2,u1,hr⟩:=roll_ok FU a1 p.length p1 p2 (by omega)
  have hq:=rn_plan (t:=((a2.toNat:Nat):Int)) k1 pk
  have hne:tlO us p k ≠ []:=fun e=>by have:=congrArg List.length e; rw [tl_len,List.length_nil] at this; omega
  obtain ⟨mx,m1,m2⟩:=max_of _ hne
  obtain ⟨mn,n1,n2⟩:=min_of _ hne
  have ml:=mem_rn (t:=((a2.toNat:Nat):Int)) us k1 pk.1
  have ql:(p.map (rn ((a2.toNat:Nat):Int) k)).length = us.length:=by rw [List.length_map]; exact u1.symm
  unfold wardmotelaw22_BalanceNames_p
  rw [works_ok,obind,if_pos rfl,e1,obind,e2,obind]
  simp only
  rw [totalsP_ok r us hr p k k1 k8 pk u1.symm,obind,cloneP_ok p (by omega),obind,turn_loop p a2 k k1 k8 p2 pk.1,obind,totalsP_ok r us hr _ k k1 k8 hq ql,obind,
    Spread_ok r us hr p k k1 k8 pk u1.symm mx mn ⟨m1,m2⟩ ⟨n1,n2⟩,Spread_ok r us hr _ k k1 k8 hq ql mx mn ⟨(ml mx).2 m1,fun x hx=>m2 x ((ml x).1 hx)⟩ ⟨(ml mn).2 n1,fun x hx=>n2 x ((ml x).1 hx)⟩]
  have hs:∃ s:TShare × Int,(if tot us = 0 then some (noShare,7) else some (Sh (Rat.divInt ((mx - mn) * k) (tot us)),0)) = some s:=by split <;> exact ⟨_,rfl⟩
  obtain ⟨s,hs⟩:=hs
  rw [hs,obind,obind]
  unfold jn
  simp only [if_true,tl_len]
  rw [if_pos (show ((k.toNat:Nat):Int) = k by omega),decide_eq_true (show ((k.toNat:Nat):Int) = k by omega)]
  simp only [Bool.not_true]
  rw [if_neg (by decide),names_loop us p a2 k k1 k8 pk.1]
  unfold thn
  simp only
  have u0:=Int.emod_nonneg ((a3.toNat:Nat):Int) (b:=((p.length:Nat):Int)) (by omega)
  have u2:=Int.emod_lt_of_pos ((a3.toNat:Nat):Int) (b:=((p.length:Nat):Int)) (by omega)
  have t0:=Int.emod_nonneg ((a4.toNat:Nat):Int) (b:=k) (by omega)
  have t1:=Int.emod_lt_of_pos ((a4.toNat:Nat):Int) (b:=k) (by omega)
  rw [remI_ok (by omega),obind,obind,remI_ok (by omega),obind,Int.tmod_eq_emod_of_nonneg (by omega),Int.tmod_eq_emod_of_nonneg (by omega)]
  generalize ((a3.toNat:Nat):Int) % ((p.length:Nat):Int) = u at *
  generalize ((a4.toNat:Nat):Int) % k = t at *
  have hu:u.toNat < p.length:=by omega
  have huu:u.toNat < us.length:=by omega
  have hx:=pk.1 p[u.toNat] (List.getElem_mem _)
  have lab:∀ x ∈ p.set u.toNat t,0 ≤ x∧x < k:=fun x hx=>by
    rcases List.mem_or_eq_of_mem_set hx with hx | rfl
    · exact pk.1 x hx
    · exact ⟨t0,t1⟩
  have sl:(p.set u.toNat t).length = us.length:=by rw [List.length_set]; exact u1.symm
  rw [idx_ok u0 hu,obind,put_ok _ hu,obind]
  by_cases hm:p[u.toNat] ∈ p.set u.toNat t
  · have hp2:PlanOk (p.set u.toNat t) k:=⟨lab,fun d d0 d1=>by
      by_cases hd:d = p[u.toNat]
      · rw [hd]; exact hm
      · obtain ⟨j,hj,e⟩:=List.getElem_of_mem (pk.2 d d0 d1)
        have hju:j ≠ u.toNat:=fun e2=>by subst e2; exact hd e.symm
        exact List.mem_iff_getElem.2 ⟨j,by simpa using hj,by rw [List.getElem_set_ne (Ne.symm hju)]; exact e⟩⟩
    have hsz:u.toNat < r.fUnits.length:=by have:=hr.size; omega
    have hur:r.fUnits[u.toNat] = us[u.toNat]:=by
      rcases hr.unit hsz with ⟨h2,e⟩ | ⟨h2,e⟩
      · exact e
      · omega
    have hw:=(hr.land u.toNat huu).2.2.1
    have a:p[u.toNat].toNat < (tlO us p k).length:=by rw [tl_len]; omega
    have b:t.toNat < ((tlO us p k).set p[u.toNat].toNat ((tlO us p k)[p[u.toNat].toNat] - us[u.toNat].fPeople)).length:=by rw [List.length_set,tl_len]; omega
    have b1:=tl_bound hr p k _ (List.getElem_mem a)
    have hg:u.toNat < (p.set u.toNat t).length:=by simpa using hu
    have b2:0 - 255 ≤ ((tlO us p k).set p[u.toNat].toNat ((tlO us p k)[p[u.toNat].toNat] - us[u.toNat].fPeople))[t.toNat]∧((tlO us p k).set p[u.toNat].toNat ((tlO us p k)[p[u.toNat].toNat] - us[u.toNat].fPeople))[t.toNat] ≤ 2295:=by
      rcases List.mem_or_eq_of_mem_set (List.getElem_mem b) with h5 | h5
      · have:=tl_bound hr p k _ h5; omega
      · omega
    rw [totalsP_ok r us hr _ k k1 k8 hp2 sl,obind,obind,contains_ok _ _ (by omega),obind,if_pos (decide_eq_true hm),cloneI_ok _ (by rw [tl_len]; omega),obind,idx_ok hx.1 a,obind,idx_ok u0 hsz,obind,hur,chkI (by omega) (by omega),obind,put_ok _ a,obind,idx_ok u0 hg,obind,List.getElem_set_self,idx_ok t0 b,obind,chkI (by omega) (by omega),obind,put_ok _ b,obind]
    unfold wardmotelaw22_is_1_p
    rw [← tl_move huu hu rfl hx.1 hx.2 t0 t1 a b,equal_ok _ _ (by rw [tl_len]; omega),obind,if_pos (decide_eq_true rfl),obind]
    rfl
  · rw [totals_no r us hr _ k k1 k8 lab p[u.toNat] hx hm sl,obind,obind,contains_ok _ _ (by omega),obind,if_neg (by simpa using hm)]
    rfl
end Go.Proofs.YtmhgoecnjleagaaGreatDoor
