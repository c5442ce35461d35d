/- Plain laws: InterestParts. No program in sight but the printed functions. -/
import Derived.Test.YtfccehcnajelgaaGreatDoorRDIh
import Derived.Test.YtfccehcnajelgaaGreatDoorRDSd
namespace Go.Proofs.YtfccehcnajelgaaGreatDoor
open Go
set_option maxRecDepth 8000
theorem prt_disj (u:UInt64) (p:List Int) (k:Nat):(prt u p k).Pairwise fun a b=>∀ j,bit a j = true → bit b j = true → False:=by
  unfold prt
  refine List.Pairwise.filter _ ?_
  rw [List.pairwise_map]
  refine List.Pairwise.imp ?_ (List.pairwise_lt_range (n:=k))
  intro d e hde j h1 h2
  rw [bit_pm,Bool.and_eq_true,decide_eq_true_eq] at h1 h2
  have:=h1.2.symm.trans h2.2
  simp only [Option.some.injEq] at this
  omega
theorem prt_union {u:UInt64} {p:List Int} {k:Nat} (hp:∀ x ∈ p,0 ≤ x∧x < (k:Int)) (hu:∀ i,bit u i = true → i < p.length) (j:Nat):bit u j = true ↔ ∃ m ∈ prt u p k,bit m j = true:=by
  constructor
  · intro h
    have hj:=hu j h
    obtain ⟨x0,x1⟩:=hp p[j] (List.getElem_mem hj)
    obtain ⟨d,hd⟩:∃ d:Nat,p[j] = (d:Int):=⟨p[j].toNat,by omega⟩
    have hb:bit (pm u p (d:Int)) j = true:=by
      rw [bit_pm,h,List.getElem?_eq_getElem hj,hd]; simp
    refine ⟨pm u p (d:Int),?_,hb⟩
    unfold prt
    rw [List.mem_filter]
    refine ⟨List.mem_map.2 ⟨d,List.mem_range.2 (by omega),rfl⟩,?_⟩
    rw [decide_eq_true_eq]
    intro e
    rw [e,bit_zero] at hb
    cases hb
  · rintro ⟨m,hm,hb⟩
    exact prt_sub hm hb
theorem prt_len {u:UInt64} {p:List Int} {k:Nat} (hp:∀ x ∈ p,0 ≤ x∧x < (k:Int)) (hu:∀ i,bit u i = true → i < p.length) (hz:u ≠ 0) (hk:k ≤ 8):1 ≤ (prt u p k).length∧(prt u p k).length ≤ 8:=by
  obtain ⟨i,hi⟩:=ne_zero_bit hz
  obtain ⟨m,hm,_⟩:=(prt_union hp hu i).1 hi
  refine ⟨List.length_pos_of_mem hm,?_⟩
  unfold prt
  refine Nat.le_trans (List.length_filter_le ..) ?_
  rw [List.length_map,List.length_range]; exact hk
theorem union_loop {u:UInt64} {p:List Int} {k:Nat} (hp:∀ x ∈ p,0 ≤ x∧x < (k:Int)) (hu:∀ i,bit u i = true → i < p.length) (hz:u ≠ 0) (hk:k ≤ 8):loopF (wardmotelaw27_InterestParts_l1 FU (prt u p k)) FU (0,0) = some (.inr u):=by
  have hF:=FU_lt
  have hl:=(prt_len hp hu hz hk).2
  have hd:=prt_disj u p k
  have hun:=fun j=>prt_union hp hu (u:=u) (k:=k) j
  have hnz:∀ m ∈ prt u p k,m ≠ 0:=fun m hm=>(prt_mem hm).1
  generalize prt u p k = P at *
  have hh:=loop_ok (B:=wardmotelaw27_InterestParts_l1 FU P) (fun s:UInt64 × Nat=>P.length - s.2) (fun s=>s.2 ≤ P.length∧∀ j,bit s.1 j = true ↔ ∃ m ∈ P.take s.2,bit m j = true) (fun y=>y = .inr u) ?_ FU (0,0) ⟨Nat.zero_le _,fun j=>by simp [bit_zero]⟩ (by simp only; omega)
  · obtain ⟨y,e,rfl⟩:=hh; exact e
  · rintro ⟨a,i⟩ J ⟨a1,a2⟩ hJ
    simp only at a1 a2 hJ
    unfold wardmotelaw27_InterestParts_l1
    simp only
    by_cases hi:i < P.length
    · have hm:=List.getElem_mem hi
      have h0:(a &&& P[i]) = 0:=bit_ext fun j=>by
        rw [bit_and,bit_zero]
        cases ha:bit a j with
        | false=>rfl
        | true=>
          cases hb:bit P[i] j with
          | false=>rfl
          | true=>
            obtain ⟨m,hm2,hbm⟩:=(a2 j).1 ha
            obtain ⟨x,hx,rfl⟩:=List.getElem_of_mem hm2
            rw [List.length_take] at hx
            rw [List.getElem_take] at hbm
            exact (List.pairwise_iff_getElem.1 hd x i (by omega) hi (by omega) j hbm hb).elim
      rw [if_pos hi,List.getElem?_eq_getElem hi,obind,if_neg (hnz _ hm),if_pos h0]
      refine hJ _ ⟨hi,fun j=>?_⟩ (by simp only; omega)
      simp only
      rw [bit_or,Bool.or_eq_true,a2 j,List.take_succ_eq_append_getElem hi]
      constructor
      · rintro (⟨m,hm,hb⟩ | hb)
        · exact ⟨m,List.mem_append_left _ hm,hb⟩
        · exact ⟨_,List.mem_append_right _ (List.mem_singleton_self _),hb⟩
      · rintro ⟨m,hm,hb⟩
        rcases List.mem_append.1 hm with hm | hm
        · exact .inl ⟨m,hm,hb⟩
        · rw [List.mem_singleton.1 hm] at hb; exact .inr hb
    · rw [if_neg hi]
      rw [List.take_of_length_le (by omega)] at a2
      refine ⟨_,rfl,?_⟩
      have:a = u:=bit_ext fun j=>Bool.eq_iff_iff.2 ((a2 j).trans (hun j).symm)
      rw [this]
theorem divInt_le {a b c d:Int} (hb:0 < b) (hd:0 < d) (h:a * d ≤ c * b):Rat.divInt a b ≤ Rat.divInt c d:=by
  rw [Rat.le_iff]
  have h1:=div_num (a:=a) (b:=b) (by omega)
  have h2:=div_num (a:=c) (b:=d) (by omega)
  have p1:0 < ((Rat.divInt a b).den:Int):=by have:=(Rat.divInt a b).den_pos; omega
  have p2:0 < ((Rat.divInt c d).den:Int):=by have:=(Rat.divInt c d).den_pos; omega
  generalize (Rat.divInt a b).num = x at *
  generalize ((Rat.divInt a b).den:Int) = x' at *
  generalize (Rat.divInt c d).num = y at *
  generalize ((Rat.divInt c d).den:Int) = y' at *
  refine Int.le_of_mul_le_mul_right (a:=b * d) ?_ (Int.mul_pos hb hd)
  have e1:x * y' * (b * d) = a * d * (x' * y'):=by grind
  have e2:y * x' * (b * d) = c * b * (x' * y'):=by grind
  rw [e1,e2]
  exact Int.mul_le_mul_of_nonneg_right h (Int.le_of_lt (Int.mul_pos p1 p2))
theorem lsh_fq {r:TRoll} {p:List Int} {k:Nat} {c:TInterest} (v:VC r p k c):FQ (lsh r p k c):=by
  have h1:=most_bound v (prt c.fo p k)
  have h2:=wt_bound v c.fo
  have h3:=wt_pos v
  unfold lsh
  exact (Bt.of (i:=40) (j:=40) (by omega) (by omega) (by omega)).fq (by decide) (by decide)
theorem parts_loop {r:TRoll} {p:List Int} {k:Nat} {l:List TInterest} (h:VLs r p k l):loopF (wardmotelaw27_InterestParts_l2 FU l (l.map fun c=>prt c.fo p k,0) (l.map (kp p k),0) (l.map fun c=>Sg (lsh r p k c),0)) FU 0 = some (.inr ()):=by
  have hF:=FU_lt
  have hn:=h.n
  have hh:=loop_ok (B:=wardmotelaw27_InterestParts_l2 FU l (l.map fun c=>prt c.fo p k,0) (l.map (kp p k),0) (l.map fun c=>Sg (lsh r p k c),0)) (fun i:Nat=>l.length - i) (fun _=>True) (fun y=>y = .inr ()) ?_ FU 0 trivial (by omega)
  · obtain ⟨y,e,rfl⟩:=hh; exact e
  · intro i J _ hJ
    unfold wardmotelaw27_InterestParts_l2
    simp only
    by_cases hi:i < l.length
    · have v:=h.v _ (List.getElem_mem hi)
      have next:=hJ (i + 1) trivial (by omega)
      obtain ⟨n1,n2⟩:=prt_len v.pk v.ub v.z v.k8
      obtain ⟨m1,m2⟩:=most_le v
      have hp:=wt_pos v
      have hq:=lsh_fq v
      have h1q:=part_fq (n:=1) (d:=((prt l[i].fo p k).length:Int)) (by decide) (by omega) (by omega)
      have h11:=part_fq (n:=1) (d:=1) (by decide) (by decide) (by decide)
      have le1:Rat.divInt 1 ((prt l[i].fo p k).length:Int) ≤ lsh r p k l[i]:=divInt_le (by omega) hp (by rw [Int.one_mul,Int.mul_comm]; exact m2)
      have le2:lsh r p k l[i] ≤ Rat.divInt 1 1:=divInt_le hp (by decide) (by omega)
      rw [if_pos hi,List.getElem?_eq_getElem hi,obind,List.getElem?_map,List.getElem?_eq_getElem hi]
      simp only [Option.map_some]
      rw [obind,union_loop v.pk v.ub v.z v.k8,thnI,if_pos rfl,List.getElem?_map,List.getElem?_eq_getElem hi]
      simp only [Option.map_some]
      rw [obind,if_pos (show (kp p k l[i] == decide ((prt l[i].fo p k).length = 1)) = true from beq_self_eq_true _),lof (by omega) (Sm_of (by decide)) (Sm_of (by omega)),obind,List.getElem?_map,List.getElem?_eq_getElem hi]
      simp only [Option.map_some]
      rw [obind,atMostG h1q hq,obind,if_pos (decide_eq_true le1),lof (by decide) (Sm_of (by decide)) (Sm_of (by decide)),obind,atMostG hq h11,obind,if_pos (decide_eq_true le2)]
      by_cases hk:kp p k l[i] = true
      · have hl1:(prt l[i].fo p k).length = 1:=of_decide_eq_true hk
        rw [hl1] at m2
        have e:lsh r p k l[i] = Rat.divInt 1 1:=(Rat.divInt_eq_divInt_iff (by omega) (by decide)).2 (by omega)
        rw [if_pos hk,obind,if_pos (by rw [e])]
        exact next
      · rw [if_neg hk]
        exact next
    · rw [if_neg hi]; exact ⟨_,rfl,rfl⟩
theorem bcheck_ok {r:TRoll} {us:List TUnit} (hr:RollOk r us) {p:List Int} {k:Int} (hk:1 ≤ k) (hk8:k ≤ 8) (h:PlanOk p k) (hl:p.length = us.length):balance_Check_p FU r p k = some 0:=by
  unfold balance_Check_p balance_Check_1_p
  rw [counted_ok r us hr k hk hk8,obind]
  unfold exc
  simp only
  rw [check_plan r us hr p k hk h hl]
  rfl
theorem vls_ok {r:TRoll} {us:List TUnit} (hr:RollOk r us) {p:List Int} {k:Nat} (hk:1 ≤ (k:Int)) (hk8:(k:Int) ≤ 8) (h:PlanOk p k) (hl:p.length = us.length) {l:List TInterest} (l6:l.length ≤ 6) (ld:∀ i (h:i < l.length),DC p.length i l[i]):VLs r p k l:=by
  have hs:=hr.size
  have hlen:=hr.len
  have hiv:=drafted_iv l6 ld
  have hnm:∀ c ∈ l,c.fp.size ≤ 1000:=fun c hc=>by
    obtain ⟨i,hi,rfl⟩:=List.getElem_of_mem hc
    rw [(ld i hi).1]; show 2 ≤ 1000; decide
  refine ⟨bcheck_ok hr hk hk8 h hl,?_,by omega,fun c hc=>?_⟩
  · rw [checkI_eq _ l hnm,if_neg (by omega),if_neg (by omega),if_neg (by omega),if_pos hiv]
  · obtain ⟨i,hi,rfl⟩:=List.getElem_of_mem hc
    refine ⟨by omega,h.1,fun j hj=>dc_bits (ld i hi) j hj,by omega,fun u hu=>?_,(ld i hi).2.2.1⟩
    obtain ⟨j,hj,rfl⟩:=List.getElem_of_mem hu
    rcases hr.unit hj with ⟨h2,e⟩ | ⟨_,e⟩
    · rw [e]
      have:=(hr.land j h2).2.2.1
      omega
    · rw [e]; exact ⟨Int.le_refl _,show (0:Int) ≤ 1000000000 by decide⟩
theorem interestParts_ok (a0:TDraft48) (a1:TDraft50) (a2:TDraft):wardmotelaw27_InterestParts_p FU a0 a1 a2 = some true:=by
  have hF:=FU_lt
  obtain ⟨p,k,e0,p1,p2,hp,k1,k2⟩:=loose_ok FU a0 (by omega)
  obtain ⟨r,us,e1,hus,hr⟩:=roll_ok FU a1 p.length (by omega) (by omega) (by omega)
  obtain ⟨l,e2,l6,ld⟩:=list_full a2 p.length (by omega) (by omega)
  obtain ⟨k,rfl⟩:∃ n:Nat,k = (n:Int):=⟨k.toNat,by omega⟩
  have h:=vls_ok hr k1 k2 hp hus.symm l6 ld
  unfold wardmotelaw27_InterestParts_p jn
  rw [works27,obind,if_pos rfl,e0,obind]
  simp only
  rw [e1,obind,e2,obind,parts27 h,obind,kept27 h,obind,largest27 h,obind]
  simp only [List.length_map,if_true]
  rw [parts_loop h]
  simp [thn]
theorem interestParts_ex (a0:TDraft48) (a1:TDraft50) (a2:TDraft):∃ n,wardmotelaw27_InterestParts_p n a0 a1 a2 = some true:=⟨FU,interestParts_ok a0 a1 a2⟩
end Go.Proofs.YtfccehcnajelgaaGreatDoor
