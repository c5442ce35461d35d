/- Plain laws: InterestMerges. No program in sight but the printed functions. -/
import Derived.Test.YtfccehcnajelgaaGreatDoorTGIo
namespace Go.Proofs.YtfccehcnajelgaaGreatDoor
open Go
set_option maxRecDepth 8000
theorem clone_self {α:Type} [DecidableEq (List α)] (xs:List α) (h:xs.length ≤ 1000000):nilCase xs (some []) ((app [] xs).bind fun x=>some x) = some xs:=by
  rw [appS [] xs (by simpa using h),obind,List.nil_append]
  unfold nilCase
  cases xs with
  | nil=>simp
  | cons a l=>rfl
theorem cloneP_ok (xs:List Int) (h:xs.length ≤ 1000000):slices_Clone_api_Plan_int_p FU xs = some xs:=clone_self xs h
theorem equalS_self (a:List TShare) (hl:a.length ≤ 1000):slices_Equal_api_Share_api_Share_p FU a a = some true:=by
  have hF:=FU_lt
  unfold slices_Equal_api_Share_api_Share_p
  rw [if_pos rfl]
  have hh:=loop_ok (B:=slices_Equal_api_Share_api_Share_l1 FU a a) (fun i:Nat=>a.length - i) (fun _=>True) (fun y=>y = .inr ()) ?_ FU 0 trivial (by omega)
  · obtain ⟨y,e,rfl⟩:=hh
    rw [e,thnI]
  · intro i J _ hJ
    unfold slices_Equal_api_Share_api_Share_l1
    simp only
    by_cases hi:i < a.length
    · rw [if_pos hi,List.getElem?_eq_getElem hi,obind,obind,if_pos rfl]
      exact hJ _ trivial (by omega)
    · rw [if_neg hi]; exact ⟨_,rfl,rfl⟩
def upd (g:Int → Int) (p:List Int) (i:Nat):List Int:=(p.take i).map g ++ p.drop i
theorem updI_get {g:Int → Int} {p:List Int} {i:Nat} (h:i < p.length):(upd g p i)[i]? = some p[i]:=by
  unfold upd
  have hl:((p.take i).map g).length = i:=by rw [List.length_map,List.length_take]; omega
  rw [List.getElem?_append_right (by omega),hl,Nat.sub_self,List.getElem?_drop,Nat.add_zero,List.getElem?_eq_getElem h]
theorem updI_put {g:Int → Int} {p:List Int} {i:Nat} (h:i < p.length):put (upd g p i) ((i:Nat):Int) (g p[i]) = some (upd g p (i + 1)):=by
  have hl:((p.take i).map g).length = i:=by rw [List.length_map,List.length_take]; omega
  have hlen:i < (upd g p i).length:=by unfold upd; rw [List.length_append,hl,List.length_drop]; omega
  rw [put_ok _ hlen]
  unfold upd
  rw [List.set_append_right _ _ (by omega),hl,Nat.sub_self,List.drop_eq_getElem_cons h,List.set_cons_zero,List.take_succ_eq_append_getElem h,List.map_append,List.append_assoc]
  rfl
theorem plans_loop {p:List Int} {k:Int} (t:UInt8) (hp:∀ x ∈ p,0 ≤ x∧x < k) (hk:1 ≤ k∧k ≤ 8) (hl:p.length ≤ 1000):loopF (wardmotelaw27_InterestMerges_l2 FU (p,k) t) FU (0,p,p) = some (p.map fun x=>(x + ((t.toNat:Nat):Int)) % k,p.map fun x=>min x (max 0 (k - 2))):=by
  have hF:=FU_lt
  have ht:=t.toNat_lt
  have hh:=loop_ok (B:=wardmotelaw27_InterestMerges_l2 FU (p,k) t) (fun s:Nat × List Int × List Int=>p.length - s.1) (fun s=>s.1 ≤ p.length∧s.2.1 = upd (fun x=>min x (max 0 (k - 2))) p s.1∧s.2.2 = upd (fun x=>(x + ((t.toNat:Nat):Int)) % k) p s.1) (fun y=>y = (p.map fun x=>(x + ((t.toNat:Nat):Int)) % k,p.map fun x=>min x (max 0 (k - 2)))) ?_ FU (0,p,p) ⟨Nat.zero_le _,rfl,rfl⟩ (by simp only; omega)
  · obtain ⟨y,e,rfl⟩:=hh; exact e
  · rintro ⟨i,xs,ys⟩ J ⟨a1,a2,a3⟩ hJ
    simp only at a1 a2 a3 hJ
    subst a2
    subst a3
    unfold wardmotelaw27_InterestMerges_l2
    simp only
    by_cases hi:i < p.length
    · obtain ⟨x0,x1⟩:=hp _ (List.getElem_mem hi)
      have e1:=updI_put (g:=fun x=>(x + ((t.toNat:Nat):Int)) % k) hi
      have e2:=updI_put (g:=fun x=>min x (max 0 (k - 2))) hi
      rw [if_pos hi,List.getElem?_eq_getElem hi,obind,chkI (by omega) (by omega),obind,remI_ok (by omega),obind,Int.tmod_eq_emod_of_nonneg (by omega),updI_get hi,obind,e1,obind,chkI (by omega) (by omega),obind,updI_get hi,obind,e2,obind]
      exact hJ _ ⟨hi,rfl,rfl⟩ (by simp only; omega)
    · rw [if_neg hi]
      refine ⟨_,rfl,?_⟩
      unfold upd
      rw [List.take_of_length_le (by omega),List.drop_of_length_le (by omega),List.append_nil,List.append_nil]
theorem most_loop {r:TRoll} {p q:List Int} {k m:Nat} {l:List TInterest} (hl:l.length ≤ 1000) (hv:∀ c ∈ l,VC r p k c) (hv2:∀ c ∈ l,VC r q m c) (h:∀ c ∈ l,lsh r p k c ≤ lsh r q m c):loopF (wardmotelaw27_InterestMerges_l1 FU (l.map fun c=>Sg (lsh r p k c),0) (l.map fun c=>Sg (lsh r q m c),0)) FU 0 = some (.inr ()):=by
  have hF:=FU_lt
  have hh:=loop_ok (B:=wardmotelaw27_InterestMerges_l1 FU (l.map fun c=>Sg (lsh r p k c),0) (l.map fun c=>Sg (lsh r q m c),0)) (fun i:Nat=>l.length - i) (fun _=>True) (fun y=>y = .inr ()) ?_ FU 0 trivial (by omega)
  · obtain ⟨y,e,rfl⟩:=hh; exact e
  · intro i J _ hJ
    unfold wardmotelaw27_InterestMerges_l1
    simp only [List.length_map]
    by_cases hi:i < l.length
    · have hm:=List.getElem_mem hi
      rw [if_pos hi,List.getElem?_map,List.getElem?_map,List.getElem?_eq_getElem hi]
      simp only [Option.map_some]
      rw [obind,obind,atMostG (lsh_fq (hv _ hm)) (lsh_fq (hv2 _ hm)),obind,if_pos (decide_eq_true (h _ hm))]
      exact hJ _ trivial (by omega)
    · rw [if_neg hi]; exact ⟨_,rfl,rfl⟩
theorem interestMerges_ok (a0:TDraft48) (a1:TDraft50) (a2:TDraft) (a3:UInt8):wardmotelaw27_InterestMerges_p FU a0 a1 a2 a3 = some true:=by
  have hF:=FU_lt
  obtain ⟨p,k,e0,p1,p2,hp,k1,k2⟩:=loose_ok FU a0 (by omega)
  obtain ⟨r,us,e1,hus,hr⟩:=roll_ok FU a1 p.length (by omega) (by omega) (by omega)
  obtain ⟨l,e2,l6,ld⟩:=list_full a2 p.length (by omega) (by omega)
  obtain ⟨k,rfl⟩:∃ n:Nat,k = (n:Int):=⟨k.toNat,by omega⟩
  obtain ⟨m,hm⟩:∃ m:Nat,(m:Int) = max 1 ((k:Int) - 1):=⟨(max 1 ((k:Int) - 1)).toNat,by omega⟩
  have hloop:=plans_loop a3 hp.1 ⟨k1,k2⟩ (by omega)
  have h1:=vls_ok hr k1 k2 hp hus.symm l6 ld
  have h2:=vls_ok hr k1 k2 (plan_turn hp k1 ((a3.toNat:Nat):Int)) (by rw [List.length_map]; exact hus.symm) l6 (by rw [List.length_map]; exact ld)
  have h3:=vls_ok (p:=p.map fun x=>min x (max 0 ((k:Int) - 2))) (k:=m) hr (by omega) (by omega) (by rw [hm]; exact plan_merge hp k1) (by rw [List.length_map]; exact hus.symm) l6 (by rw [List.length_map]; exact ld)
  have h4:=vls_ok (p:=List.replicate p.length 0) (k:=1) hr (by decide) (by decide) (plan_one p1) (by rw [List.length_replicate]; exact hus.symm) l6 (by rw [List.length_replicate]; exact ld)
  have hw:∀ c ∈ l,0 ≤ c.fE∧c.fE ≤ 9:=fun c hc=>by
    obtain ⟨i,hi,rfl⟩:=List.getElem_of_mem hc
    exact (ld i hi).2.1
  have hw0:∀ c ∈ l,0 ≤ c.fE:=fun c hc=>(hw c hc).1
  have r12:∀ c ∈ l,lsh r p k c = lsh r (p.map fun x=>(x + ((a3.toNat:Nat):Int)) % (k:Int)) k c:=fun c hc=>lsh_turn (h1.v c hc) (by omega) _ (h2.v c hc)
  have r13:∀ c ∈ l,lsh r p k c ≤ lsh r (p.map fun x=>min x (max 0 ((k:Int) - 2))) m c:=fun c hc=>lsh_mono (h1.v c hc) (co_merge (by omega) hm)
  have r4:∀ c ∈ l,lsh r (List.replicate p.length 0) 1 c = 1:=fun c hc=>lsh_one (h4.v c hc)
  have sl3:=(slack_all (fun c hc=>lsh_le1 (h3.v c hc)) hw0).1
  have sl4:=(slack_all (fun c hc=>lsh_le1 (h4.v c hc)) hw0).2.2 fun c hc _=>r4 c hc
  have t1:=scs_bt h1.v hw l.length (Nat.le_refl _)
  have t3:=scs_bt h3.v hw l.length (Nat.le_refl _)
  have t4:=scs_bt h4.v hw l.length (Nat.le_refl _)
  have hb:=wsum_take (l:=l) (fun c hc=>by have:=hw c hc; omega) l.length (Nat.le_refl _)
  rw [List.take_of_length_le (Nat.le_refl _)] at hb t1 t3 t4
  have s12:=scs_congr hw0 r12
  have s13:=scs_all hw0 r13
  have g1:=score27 h1 l6 hw
  have g2:=score27 h2 l6 hw
  have g3:=score27 h3 l6 hw
  have g4:=score27 h4 l6 hw
  rw [show ((1:Nat):Int) = 1 from rfl] at g4
  have m12:(l.map fun c=>Sg (lsh r (p.map fun x=>(x + ((a3.toNat:Nat):Int)) % (k:Int)) k c)) = l.map fun c=>Sg (lsh r p k c):=List.map_congr_left fun c hc=>by rw [r12 c hc]
  have q1:=largest27 h1
  have q2:=largest27 h2
  have q3:=largest27 h3
  have ml:=most_loop (by omega) h1.v h3.v r13
  rw [m12] at q2
  rw [← s12] at g2
  rw [hm] at q3 g3
  generalize (p.map fun x=>(x + ((a3.toNat:Nat):Int)) % (k:Int)) = pt at *
  generalize (p.map fun x=>min x (max 0 ((k:Int) - 2))) = pmr at *
  unfold wardmotelaw27_InterestMerges_p jn
  rw [works27,obind,if_pos rfl,e0,obind]
  simp only
  rw [e1,obind,e2,obind,cloneP_ok p (by omega),obind,obind,hloop,obind]
  simp only
  rw [q1,obind,q2,obind,chkI (by omega) (by omega),obind,q3,obind,if_pos rfl,if_pos rfl,if_pos rfl,equalS_self _ (by rw [List.length_map]; omega),obind,if_pos rfl]
  simp only [List.length_map,if_true,decide_true,Bool.not_true]
  rw [if_neg (by decide),ml,thnI,g1,obind,g2,obind,obind,g3,obind,mk_ok p.length _ (by omega),obind,g4,obind]
  by_cases hz:wsum l = 0
  · simp only [if_pos hz]
    rfl
  · have hwp:0 < wsum l:=by omega
    have hwb:Bt 14 1 (Rat.divInt (wsum l) 1):=Bt.of (i:=14) (j:=1) (by decide) (by omega) (by decide)
    have hne:Rat.divInt (wsum l) 1 ≠ 0:=fun e=>by
      have e2:Rat.divInt (wsum l) 1 = Rat.divInt 0 1:=e.trans rfl
      have:=(Rat.divInt_eq_divInt_iff (by decide) (by decide)).1 e2
      omega
    have f1:=(t1.div hwb hne).fq (by omega) (by omega)
    have f3:=(t3.div hwb hne).fq (by omega) (by omega)
    have h11:=part_fq (n:=1) (d:=1) (by decide) (by decide) (by decide)
    have d3:=(div_le1 hwp sl3).1
    have d4:=(div_le1 hwp (by rw [sl4]; exact Rat.le_refl)).2.2 sl4
    have d13:=divW_le hwp s13
    simp only [if_neg hz,if_true]
    rw [atMostG f1 f3,obind,if_pos (decide_eq_true d13),lof (by decide) (Sm_of (by decide)) (Sm_of (by decide)),obind,atMostG f3 h11,obind,if_pos (decide_eq_true (by rw [d1_eq 1]; exact d3)),obind,d4]
    exact congrArg some (decide_eq_true (by rw [d1_eq 1]; rfl))
theorem interestMerges_ex (a0:TDraft48) (a1:TDraft50) (a2:TDraft) (a3:UInt8):∃ n,wardmotelaw27_InterestMerges_p n a0 a1 a2 a3 = some true:=⟨FU,interestMerges_ok a0 a1 a2 a3⟩
end Go.Proofs.YtfccehcnajelgaaGreatDoor
