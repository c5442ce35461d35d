/- MinorityCounts: the plain law. No program in sight but the printed functions. -/
import Derived.Test.YtichhhehkcfoaaaGreatDoorXMNb
namespace Go.Proofs.YtichhhehkcfoaaaGreatDoor
open Go
theorem less_ok (a b:Int):cmp_Less_int_p FU a b = some (decide (a < b)):=by
  unfold cmp_Less_int_p cmp_isNaN_int_p
  simp
theorem containsI_ok (xs:List Int) (f:Int) (h:xs.length ≤ 1000):slices_Contains_int_int_p FU xs f = some (decide (f ∈ xs)):=by
  have hF:=FU_lt
  have hh:=loop_ok (B:=slices_Index_int_int_l1 FU xs f) (fun i:Nat=>xs.length - i) (fun i=>i ≤ xs.length∧f ∉ xs.take i) (fun y=>y = .inr ()∧f ∉ xs ∨ ∃ j:Nat,y = .inl (j:Int)∧f ∈ xs) ?_ FU 0 ⟨Nat.zero_le _,by simp⟩ (by omega)
  · obtain ⟨y,e,hy⟩:=hh
    unfold slices_Contains_int_int_p slices_Index_int_int_p
    rw [e]
    rcases hy with ⟨rfl,hy⟩ | ⟨j,rfl,hy⟩
    · rw [decide_eq_false hy]; rfl
    · rw [decide_eq_true hy]; simp [thn]
  · intro i J ⟨h1,h2⟩ hJ
    unfold slices_Index_int_int_l1
    simp only
    split
    · rename_i hi
      rw [List.getElem?_eq_getElem hi,obind]
      split
      · rename_i he; exact ⟨_,rfl,.inr ⟨i,rfl,by rw [he]; exact List.getElem_mem _⟩⟩
      · rename_i he
        refine hJ (i + 1) ⟨hi,?_⟩ (by omega)
        rw [List.take_succ_eq_append_getElem hi,List.mem_append,List.mem_singleton]
        rintro (h3 | h3)
        · exact h2 h3
        · exact he h3
    · exact ⟨_,rfl,.inl ⟨rfl,by rwa [List.take_of_length_le (by omega)] at h2⟩⟩
theorem isSorted_ok (l:List Int) (h:l.length ≤ 100) (hs:l.Pairwise (· ≤ ·)):slices_IsSorted_int_int_p FU l = some true:=by
  have hF:=FU_lt
  have hh:=loop_ok (B:=slices_IsSorted_int_int_l1 FU l) (fun z:Int=>z.toNat) (fun z=>-1 ≤ z∧z < l.length) (fun y=>y = .inr ()) ?_ FU (((l.length:Nat):Int) - 1) ⟨by omega,by omega⟩ (by omega)
  · obtain ⟨y,e,rfl⟩:=hh
    unfold slices_IsSorted_int_int_p
    rw [e]
    rfl
  · intro z J ⟨h1,h2⟩ hJ
    unfold slices_IsSorted_int_int_l1
    simp only
    split
    · rename_i h0
      rw [idx_ok (by omega) (by omega),obind,chkI (by omega) (by omega),obind,idx_ok (by omega) (by omega),obind,less_ok,obind]
      have:=List.pairwise_iff_getElem.1 hs (z - 1).toNat z.toNat (by omega) (by omega) (by omega)
      rw [if_neg (by rw [decide_eq_true_eq]; omega),obind]
      exact hJ _ ⟨by omega,by omega⟩ (by omega)
    · exact ⟨_,rfl,rfl⟩
theorem works29:wardmotelaw29_works_p FU = some true:=by kernel_rfl
theorem sum_pick (x w:Int) (f:Nat → Int):∀ k:Nat,(0 ≤ x∧x < k → ((List.range k).map fun d:Nat=>(if x = (d:Int) then w else 0) + f d).sum = w + ((List.range k).map f).sum)∧((k:Int) ≤ x → ((List.range k).map fun d:Nat=>(if x = (d:Int) then w else 0) + f d).sum = ((List.range k).map f).sum)
  | 0=>⟨fun h=>by omega,fun _=>rfl⟩
  | k + 1=>by
    obtain ⟨h1,h2⟩:=sum_pick x w f k
    rw [List.range_succ,List.map_append,List.map_append,List.sum_append,List.sum_append]
    simp only [List.map_cons,List.map_nil,List.sum_cons,List.sum_nil,Int.add_zero]
    refine ⟨fun h=>?_,fun h=>?_⟩
    · by_cases e:x = (k:Int)
      · rw [if_pos e,h2 (by omega)]; omega
      · rw [if_neg e,h1 (by omega)]; omega
    · rw [if_neg (by omega),h2 (by omega)]; omega
theorem sum_peo (k:Nat):∀ (us:List TUnit) (p:List Int),p.length = us.length → (∀ x ∈ p,0 ≤ x∧x < k) → ((List.range k).map fun d:Nat=>peo us p d).sum = tot us
  | [],p,_,_=>by
    have:((List.range k).map fun d:Nat=>peo [] p d) = List.replicate k 0:=by
      apply List.ext_getElem
      · simp
      · intro i h1 h2; simp [peo]
    rw [this,sum_rep]; rfl
  | u :: us,[],h,_=>by simp at h
  | u :: us,x :: p,h,hp=>by
    have h1:=hp x (List.mem_cons_self ..)
    have h2:=sum_peo k us p (by simpa using h) fun y hy=>hp y (List.mem_cons_of_mem _ hy)
    simp only [peo]
    rw [(sum_pick x u.fA (fun d=>peo us p d) k).1 h1,h2]
    unfold tot
    simp
def gs (us:List TUnit) (g:Nat) (p:List Int) (i:Nat):Int:=((List.range i).map fun d:Nat=>peo (gu us g) p d).sum
theorem gs_succ (us:List TUnit) (g:Nat) (p:List Int) (i:Nat):gs us g p (i + 1) = gs us g p i + peo (gu us g) p i:=by
  unfold gs
  rw [List.range_succ,List.map_append,List.sum_append]
  simp
theorem gs_bound {r:TRoll} {us:List TUnit} (hr:RollOk r us) {g:Nat} (hg:GrpOk r us g) (p:List Int) (i:Nat):0 ≤ gs us g p i∧gs us g p i ≤ 2295 * i:=by
  induction i with
  | zero=>simp [gs]
  | succ i ih=>
    rw [gs_succ]
    have h1:=peo_gu hg.unit p i
    have h2:=hr.ppl us.length p i
    rw [List.take_length] at h2
    omega
section
variable {r:TRoll} {us:List TUnit} (hr:RollOk r us) {p:List Int} {k:Int} (hk:1 ≤ k) (hk8:k ≤ 8) {g:Nat} (hg:GrpOk r us g)
include hr hk hk8 hg
theorem counts_loop:∃ u v,loopF (wardmotelaw29_MinorityCounts_l3 FU (shs (gp (fun d=>peo (gu us g) p d) (fun d=>peo us p d) k),0) (tlO us p k,0)) FU (0,(Sh (Rat.divInt 0 1)).fN.1,(Sh (Rat.divInt 0 1)).fN.2.1,(Sh (Rat.divInt 0 1)).fN.2.2.1,(Sh (Rat.divInt 0 1)).fN.2.2.2.1,(Sh (Rat.divInt 0 1)).fN.2.2.2.2.1,(Sh (Rat.divInt 0 1)).fN.2.2.2.2.2.1,(Sh (Rat.divInt 0 1)).fN.2.2.2.2.2.2.1,(Sh (Rat.divInt 0 1)).fN.2.2.2.2.2.2.2,(Sh (Rat.divInt 0 1)).fD.1,(Sh (Rat.divInt 0 1)).fD.2.1,(Sh (Rat.divInt 0 1)).fD.2.2.1,(Sh (Rat.divInt 0 1)).fD.2.2.2.1,(Sh (Rat.divInt 0 1)).fD.2.2.2.2.1,(Sh (Rat.divInt 0 1)).fD.2.2.2.2.2.1,(Sh (Rat.divInt 0 1)).fD.2.2.2.2.2.2.1,(Sh (Rat.divInt 0 1)).fD.2.2.2.2.2.2.2,false) = some (.inr (false,u.1,u.2.1,u.2.2.1,u.2.2.2.1,u.2.2.2.2.1,u.2.2.2.2.2.1,u.2.2.2.2.2.2.1,u.2.2.2.2.2.2.2,v))∧(⟨u,v⟩:TShare) = Sh (Rat.divInt (gs us g p k.toNat) 1):=by
  have hF:=FU_lt
  have hlen:(shs (gp (fun d=>peo (gu us g) p d) (fun d=>peo us p d) k)).length = k.toNat:=by unfold shs; rw [List.length_map,gp_len]
  have hh:=loop_ok (B:=wardmotelaw29_MinorityCounts_l3 FU (shs (gp (fun d=>peo (gu us g) p d) (fun d=>peo us p d) k),0) (tlO us p k,0)) (fun s=>k.toNat - s.1)
    (fun s=>s.1 ≤ k.toNat∧s.2.2.2.2.2.2.2.2.2.2.2.2.2.2.2.2.2 = false∧(⟨(s.2.1,s.2.2.1,s.2.2.2.1,s.2.2.2.2.1,s.2.2.2.2.2.1,s.2.2.2.2.2.2.1,s.2.2.2.2.2.2.2.1,s.2.2.2.2.2.2.2.2.1),(s.2.2.2.2.2.2.2.2.2.1,s.2.2.2.2.2.2.2.2.2.2.1,s.2.2.2.2.2.2.2.2.2.2.2.1,s.2.2.2.2.2.2.2.2.2.2.2.2.1,s.2.2.2.2.2.2.2.2.2.2.2.2.2.1,s.2.2.2.2.2.2.2.2.2.2.2.2.2.2.1,s.2.2.2.2.2.2.2.2.2.2.2.2.2.2.2.1,s.2.2.2.2.2.2.2.2.2.2.2.2.2.2.2.2.1)⟩:TShare) = Sh (Rat.divInt (gs us g p s.1) 1))
    (fun y=>∃ u v,y = .inr (false,u.1,u.2.1,u.2.2.1,u.2.2.2.1,u.2.2.2.2.1,u.2.2.2.2.2.1,u.2.2.2.2.2.2.1,u.2.2.2.2.2.2.2,v)∧(⟨u,v⟩:TShare) = Sh (Rat.divInt (gs us g p k.toNat) 1)) ?_ FU
    (0,(Sh (Rat.divInt 0 1)).fN.1,(Sh (Rat.divInt 0 1)).fN.2.1,(Sh (Rat.divInt 0 1)).fN.2.2.1,(Sh (Rat.divInt 0 1)).fN.2.2.2.1,(Sh (Rat.divInt 0 1)).fN.2.2.2.2.1,(Sh (Rat.divInt 0 1)).fN.2.2.2.2.2.1,(Sh (Rat.divInt 0 1)).fN.2.2.2.2.2.2.1,(Sh (Rat.divInt 0 1)).fN.2.2.2.2.2.2.2,(Sh (Rat.divInt 0 1)).fD.1,(Sh (Rat.divInt 0 1)).fD.2.1,(Sh (Rat.divInt 0 1)).fD.2.2.1,(Sh (Rat.divInt 0 1)).fD.2.2.2.1,(Sh (Rat.divInt 0 1)).fD.2.2.2.2.1,(Sh (Rat.divInt 0 1)).fD.2.2.2.2.2.1,(Sh (Rat.divInt 0 1)).fD.2.2.2.2.2.2.1,(Sh (Rat.divInt 0 1)).fD.2.2.2.2.2.2.2,false) ⟨Nat.zero_le _,rfl,by show _ = Sh (Rat.divInt (gs us g p 0) 1); rw [show gs us g p 0 = 0 from by simp [gs]]⟩ (by simp only; omega)
  · obtain ⟨y,e,u,v,rfl,h1⟩:=hh; exact ⟨u,v,e,h1⟩
  · rintro ⟨i,u1,u2,u3,u4,u5,u6,u7,u8,v1,v2,v3,v4,v5,v6,v7,v8,q⟩ J ⟨a1,a2,a3⟩ hJ
    simp only at a1 a2 a3 hJ
    subst a2
    unfold wardmotelaw29_MinorityCounts_l3
    simp only
    rw [hlen]
    split
    · rename_i hi
      have hp:=gp_parts hr hg p k ⟨peo (gu us g) p i,peo us p i⟩ (List.mem_of_getElem? (gp_get _ _ k hi))
      have hp2:0 ≤ peo (gu us g) p i∧peo (gu us g) p i ≤ peo us p i∧peo us p i ≤ 2295:=hp
      have es:(shs (gp (fun d=>peo (gu us g) p d) (fun d=>peo us p d) k))[i]? = some (Sh (shr (peo (gu us g) p i) (peo us p i))):=by
        unfold shs
        rw [List.getElem?_map,gp_get _ _ k hi]; rfl
      have et:(tlO us p k)[i]? = some (peo us p i):=by
        rw [List.getElem?_eq_getElem (by rw [tl_len]; exact hi),tl_get]
      have hb:=gs_bound hr hg p i
      have sz:SmQ (Rat.divInt 0 1):=smq (by decide) (by decide) (by decide)
      have so:SmQ (Rat.divInt 1 1):=smq (by decide) (by decide) (by decide)
      have ss:=shr_sm hp
      have s01:=shr_01 hp
      have sa:SmQ (Rat.divInt (peo us p i) 1):=smq (by decide) (by omega) (by decide)
      have sg1:SmQ (Rat.divInt (peo (gu us g) p i) 1):=smq (by decide) (by omega) (by decide)
      have sgs:SmQ (Rat.divInt (gs us g p i) 1):=smq (by decide) (by omega) (by decide)
      simp only at ss s01
      rw [es,obind,lof_ok 0 1 (by decide) (by decide) (by decide),obind,atMost_ok _ _ sz ss,obind,if_pos (decide_eq_true s01.1),lof_ok 1 1 (by decide) (by decide) (by decide),obind,atMost_ok _ _ ss so,obind,if_pos (decide_eq_true s01.2),et,obind,lof_ok _ 1 (by decide) (by omega) (by decide),obind,share_mul_ok FU _ _ ss sa FU_big,shr_mul hp,obind]
      simp only [if_true]
      rw [a3,share_add_ok FU _ _ sgs sg1 FU_big,obind,q_add _ _ _ (by decide)]
      simp only [if_true]
      refine hJ _ ⟨hi,rfl,?_⟩ (by simp only; omega)
      simp only
      rw [gs_succ]
    · have hi:i = k.toNat:=by omega
      subst hi
      exact ⟨_,rfl,(u1,u2,u3,u4,u5,u6,u7,u8),(v1,v2,v3,v4,v5,v6,v7,v8),rfl,a3⟩
end
theorem tot_gu {r:TRoll} {us:List TUnit} (hr:RollOk r us) {g:Nat} (hg:GrpOk r us g) (i:Nat):0 ≤ tot ((gu us g).take i)∧tot ((gu us g).take i) ≤ 2295:=by
  have h1:∀ u ∈ gu us g,0 ≤ u.fA∧u.fA ≤ 255:=fun u hu=>by
    obtain ⟨v,hv,rfl⟩:=List.mem_map.1 hu
    have h2:=hg.unit v hv
    have h3:=hr.people v hv
    simp only
    omega
  have h2:=tot_le (us:=(gu us g).take i) fun u hu=>h1 u (List.mem_of_mem_take hu)
  have h3:=hr.len
  rw [List.length_take,gu_len] at h2
  omega
theorem all_loop (r:TRoll) (us:List TUnit) (hr:RollOk r us) (a:UInt8) (hg:GrpOk r us (a % 2).toNat):loopF (wardmotelaw29_MinorityCounts_l2 FU r a) FU (0,0) = some (tot (gu us (a % 2).toNat)):=by
  have hF:=FU_lt
  have hs:=hr.size
  have hl:=hr.len
  have hat:=hg.at_
  have hh:=loop_ok (B:=wardmotelaw29_MinorityCounts_l2 FU r a) (fun s:Int × Nat=>r.fu.length - s.2) (fun s=>s.2 ≤ r.fu.length∧s.1 = tot ((gu us (a % 2).toNat).take s.2)) (fun x=>x = tot (gu us (a % 2).toNat)) ?_ FU (0,0) ⟨by simp,by simp [tot]⟩ (by simp only; omega)
  · obtain ⟨x,e,rfl⟩:=hh; exact e
  · rintro ⟨z,i⟩ J ⟨a1,a2⟩ hJ
    simp only at a1 a2 hJ
    unfold wardmotelaw29_MinorityCounts_l2
    simp only
    split
    · rename_i hi
      rw [List.getElem?_eq_getElem hi,obind]
      rcases hr.unit hi with ⟨h2,e2⟩ | ⟨h2,e2⟩
      · have hb2:=tot_gu hr hg (i + 1)
        have hgl:i < (gu us (a % 2).toNat).length:=by rw [gu_len]; exact h2
        rw [tot_take hgl,gu_get us _ h2] at hb2
        rw [e2,hg.get us[i] (List.getElem_mem h2),obind,chkI (by omega) (by omega),obind]
        exact hJ _ ⟨by simp only; omega,by simp only; rw [tot_take hgl,gu_get us _ h2,a2]⟩ (by simp only; omega)
      · have e3:(sea r.fj r.fh r.fl).fj[(a % 2).toNat]? = some 0:=by
          show (List.replicate r.fj.toNat (0:Int))[(a % 2).toNat]? = some 0
          rw [List.getElem?_replicate,if_pos (by omega)]
        have hb:=tot_gu hr hg i
        rw [e2,e3,obind,chkI (by omega) (by omega),obind]
        refine hJ _ ⟨by simp only; omega,?_⟩ (by simp only; omega)
        simp only
        rw [List.take_of_length_le (by rw [gu_len]; omega)] at a2
        rw [List.take_of_length_le (by rw [gu_len]; omega),a2]; omega
    · exact ⟨_,rfl,by rw [a2,List.take_of_length_le (by rw [gu_len]; omega)]⟩
def countsRest (r:TRoll) (p:List Int) (k:Int) (g:Nat) (z:Int) (s x w:TShare):Option Bool:=
  (minority_Majority_p FU r p k (g:Int) x).bind fun y154415=>(minority_Majority_p FU r p k (g:Int) w).bind fun y154426=>(if false = true then some false else (wardmotelaw29_of_p FU z (1:Int)).bind fun y154440=>(if s = y154440 then (if y154415.2 = 0 then (if y154426.2 = 0 then thn (loopF (wardmotelaw29_MinorityCounts_l1 FU y154415 y154426) FU 0) (fun _=>(slices_IsSorted_int_int_p FU y154426.1).bind fun y154493=>(if y154493 = true then (wardmotelaw29_of_p FU (1:Int) (1:Int)).bind fun y154506=>(minority_Majority_p FU r p k (g:Int) y154506).bind fun y154507=>(wardmotelaw29_lists_1_p FU y154507.1 y154507.2 ([]:List Int)).bind fun y154518=>some y154518 else some false)) else some false) else some false) else some false))
theorem few_loop (few many:List Int) (e e' : Int) (hl:few.length ≤ 8) (hm:many.length ≤ 8) (h:∀ j ∈ few,j ∈ many):loopF (wardmotelaw29_MinorityCounts_l1 FU (few,e) (many,e')) FU 0 = some (.inr ()):=by
  have hF:=FU_lt
  have hh:=loop_ok (B:=wardmotelaw29_MinorityCounts_l1 FU (few,e) (many,e')) (fun i:Nat=>few.length - i) (fun i=>i ≤ few.length) (fun y=>y = .inr ()) ?_ FU 0 (Nat.zero_le _) (by omega)
  · obtain ⟨y,e,rfl⟩:=hh; exact e
  · intro i J hi hJ
    unfold wardmotelaw29_MinorityCounts_l1
    simp only
    split
    · rename_i h0
      rw [List.getElem?_eq_getElem h0,obind,containsI_ok many _ (by omega),obind,if_pos (decide_eq_true (h _ (List.getElem_mem h0)))]
      exact hJ (i + 1) h0 (by omega)
    · exact ⟨_,rfl,rfl⟩
theorem full_ok (d:TDraft26) (m:Nat) (h1:1 ≤ m) (h2:m ≤ 9):∃ r us,wardmoteref22_Draft_Full_p FU d m = some r∧us.length = m∧RollOk r us∧r.fj = 2∧r.fh = 3:=by
  have hF:=FU_lt
  obtain ⟨r,us,e,h3,h4,h5,h6,_⟩:=roll_all FU ⟨2,3,2,d.fq,d.fNums⟩ m h1 h2 (by omega)
  refine ⟨r,us,?_,h3,h4,h5,h6⟩
  unfold wardmoteref22_Draft_Full_p
  rw [e,obind]
theorem minorityCounts_ex (a0:TDraft) (a1:TDraft26) (a2:UInt8) (a3 a4:TPart):∃ n,wardmotelaw29_MinorityCounts_p n a0 a1 a2 a3 a4 = some true:=by
  refine ⟨FU,?_⟩
  have hF:=FU_lt
  obtain ⟨p,k,e1,p1,p2,pk,k1,k8⟩:=loose_ok FU a0 (by omega)
  obtain ⟨r,us,e2,u1,hr,g2,_⟩:=full_ok a1 p.length p1 p2
  have hgl:(a2 % 2).toNat < 2:=by rw [UInt8.toNat_mod]; exact Nat.mod_lt _ (by decide)
  have hg:GrpOk r us (a2 % 2).toNat:=grp_ok hr (by omega)
  obtain ⟨n1,d1,q1,n1b,d1b⟩:=part_ok a3
  obtain ⟨n2,d2,q2,n2b,d2b⟩:=part_ok a4
  have t1:SmQ (Rat.divInt n1 d1):=smq (by omega) (by omega) (by omega)
  have t2:SmQ (Rat.divInt n2 d2):=smq (by omega) (by omega) (by omega)
  have hsl:(shs (gp (fun d=>peo (gu us (a2 % 2).toNat) p d) (fun d=>peo us p d) k)).length = k.toNat:=by unfold shs; rw [List.length_map,gp_len]
  obtain ⟨u,v,c1,c2⟩:=counts_loop hr k1 k8 hg (p:=p)
  have hsum:gs us (a2 % 2).toNat p k.toNat = tot (gu us (a2 % 2).toNat):=sum_peo k.toNat (gu us (a2 % 2).toNat) p (by rw [gu_len]; exact u1.symm) fun x hx=>by have:=pk.1 x hx; omega
  have hg0:=tot_gu hr hg us.length
  rw [List.take_of_length_le (by rw [gu_len]; omega)] at hg0
  -- what is asked of two tolerances,the first of which is not less
  have rest:∀ x w:Rat,SmQ x → SmQ w → w ≤ x → countsRest r p k (a2 % 2).toNat (tot (gu us (a2 % 2).toNat)) ⟨u,v⟩ (Sh x) (Sh w) = some true:=fun x w hx hw hle=>by
    obtain ⟨few,f1,f2,f3,f4⟩:=Majority_ok hr k1 k8 pk u1.symm hg x hx
    obtain ⟨many,m1,m2,m3,m4⟩:=Majority_ok hr k1 k8 pk u1.symm hg w hw
    obtain ⟨no,o1,o2,o3,o4⟩:=Majority_ok hr k1 k8 pk u1.symm hg (Rat.divInt 1 1) (smq (by decide) (by decide) (by decide))
    have hno:no = []:=by
      refine List.eq_nil_iff_forall_not_mem.2 fun j hj=>?_
      obtain ⟨d,hd,_,h2⟩:=(o4 j).1 hj
      exact h2 (shr_01 (gp_parts hr hg p k ⟨peo (gu us (a2 % 2).toNat) p d,peo us p d⟩ (List.mem_of_getElem? (gp_get _ _ k hd)))).2
    unfold countsRest
    rw [f1,obind,m1,obind,if_neg (by decide),lof_ok _ 1 (by decide) (by omega) (by decide),obind,c2,hsum,if_pos rfl]
    simp only [if_true]
    rw [few_loop few many 0 0 f3 m3 fun j hj=>by
      obtain ⟨d,hd,h1,h2⟩:=(f4 j).1 hj
      exact (m4 j).2 ⟨d,hd,h1,fun h3=>h2 (Rat.le_trans h3 hle)⟩]
    unfold thn
    simp only
    rw [isSorted_ok many (by omega) (m2.imp fun h=>by omega),obind,if_pos rfl,lof_ok 1 1 (by decide) (by decide) (by decide),obind,o1,obind,hno]
    unfold wardmotelaw29_lists_1_p
    simp only
    rw [equal_ok _ _ (by simp),obind]
    rfl
  unfold wardmotelaw29_MinorityCounts_p
  rw [works29,obind,if_pos rfl,e1,obind,e2,obind]
  simp only
  rw [Shares_ok hr k1 k8 pk u1.symm hg,obind,totalsP_ok r us hr p k k1 k8 pk u1.symm,obind]
  simp only [if_true]
  rw [hsl,tl_len,if_pos (by omega),if_pos (by omega),lof_ok 0 1 (by decide) (by decide) (by decide),obind,c1]
  unfold thn
  simp only
  rw [all_loop r us hr a2 hg,obind,q1,obind,q2,obind,atMost_ok _ _ t2 t1,obind]
  unfold jn
  simp only
  by_cases c:Rat.divInt n2 d2 ≤ Rat.divInt n1 d1
  · rw [if_pos (decide_eq_true c)]
    exact rest _ _ t1 t2 c
  · rw [if_neg (by simpa using c)]
    exact rest _ _ t2 t1 (Rat.le_of_lt (Rat.not_le.1 c))
end Go.Proofs.YtichhhehkcfoaaaGreatDoor
