/- Plain laws: InterestParts. No program in sight but the printed functions. -/
import Derived.Test.YtfccehcnajelgaaGreatDoorSLSd
namespace Go.Proofs.YtfccehcnajelgaaGreatDoor
open Go
set_option maxRecDepth 8000
theorem divInt_le {a b c d:Int} (hb:0 < b) (hd:0 < d) (h:a * d ≤ c * b):Rat.divInt a b ≤ Rat.divInt c d:=by
  rw [Rat.le_iff]
  have h1:=div_num (a:=a) (b:=b) (by omega)
  have h2:=div_num (a:=c) (b:=d) (by omega)
  have p1:0 < ((Rat.divInt a b).den:Int):=by have:=(Rat.divInt a b).den_pos; omega
  have p2:0 < ((Rat.divInt c d).den:Int):=by have:=(Rat.divInt c d).den_pos; omega
  generalize (Rat.divInt a b).num = x at *
  generalize ((Rat.divInt a b).den:Int) = x' at *
  generalize (Rat.divInt c d).num = y at *
  generalize ((Rat.divInt c d).den:Int) = y' at *
  refine Int.le_of_mul_le_mul_right (a:=b * d) ?_ (Int.mul_pos hb hd)
  have e1:x * y' * (b * d) = a * d * (x' * y'):=by grind
  have e2:y * x' * (b * d) = c * b * (x' * y'):=by grind
  rw [e1,e2]
  exact Int.mul_le_mul_of_nonneg_right h (Int.le_of_lt (Int.mul_pos p1 p2))
theorem bcheck_ok {r:TRoll} {us:List TUnit} (hr:RollOk r us) {p:List Int} {k:Int} (hk:1 ≤ k) (hk8:k ≤ 8) (h:PlanOk p k) (hl:p.length = us.length):balance_Check_p FU r p k = some 0:=by
  unfold balance_Check_p balance_Check_1_p
  rw [counted_ok r us hr k hk hk8,obind]
  unfold exc
  simp only
  rw [check_plan r us hr p k hk h hl]
  rfl
theorem vls_ok {r:TRoll} {us:List TUnit} (hr:RollOk r us) {p:List Int} {k:Nat} (hk:1 ≤ (k:Int)) (hk8:(k:Int) ≤ 8) (h:PlanOk p k) (hl:p.length = us.length) {l:List TInterest} (l6:l.length ≤ 6) (ld:∀ i (h:i < l.length),DC p.length i l[i]):VLs r p k l:=by
  have hs:=hr.size
  have hlen:=hr.len
  have hiv:=drafted_iv l6 ld
  have hnm:∀ c ∈ l,c.fp.size ≤ 1000:=fun c hc=>by
    obtain ⟨i,hi,rfl⟩:=List.getElem_of_mem hc
    rw [(ld i hi).1]; show 2 ≤ 1000; decide
  refine ⟨bcheck_ok hr hk hk8 h hl,?_,by omega,fun c hc=>?_⟩
  · rw [checkI_eq _ l hnm,if_neg (by omega),if_neg (by omega),if_neg (by omega),if_pos hiv]
  · obtain ⟨i,hi,rfl⟩:=List.getElem_of_mem hc
    refine ⟨by omega,h.1,fun j hj=>dc_bits (ld i hi) j hj,by omega,fun u hu=>?_,(ld i hi).2.2.1⟩
    obtain ⟨j,hj,rfl⟩:=List.getElem_of_mem hu
    rcases hr.unit hj with ⟨h2,e⟩ | ⟨_,e⟩
    · rw [e]
      have:=(hr.land j h2).2.2.1
      omega
    · rw [e]; exact ⟨Int.le_refl _,show (0:Int) ≤ 1000000000 by decide⟩
end Go.Proofs.YtfccehcnajelgaaGreatDoor
/- Plain laws: the score. No program in sight but the printed functions. -/
namespace Go.Proofs.YtfccehcnajelgaaGreatDoor
open Go
set_option maxRecDepth 8000
def sc (r:TRoll) (p:List Int) (k:Nat) (c:TInterest):Rat:=Rat.divInt c.fx 1 * lsh r p k c
def scs (r:TRoll) (p:List Int) (k:Nat) (l:List TInterest):Rat:=l.foldl (fun a c=>a + sc r p k c) 0
def wsum (l:List TInterest):Int:=(l.map (·.fx)).sum
theorem scs_snoc (r:TRoll) (p:List Int) (k:Nat) (l:List TInterest) (c:TInterest):scs r p k (l ++ [c]) = scs r p k l + sc r p k c:=by unfold scs; rw [List.foldl_append]; rfl
theorem wsum_snoc (l:List TInterest) (c:TInterest):wsum (l ++ [c]) = wsum l + c.fx:=by unfold wsum; rw [List.map_append,List.sum_append]; simp
theorem sc_bt {r:TRoll} {p:List Int} {k:Nat} {c:TInterest} (v:VC r p k c) (hw:0 ≤ c.fx∧c.fx ≤ 9):Bt 36 36 (lsh r p k c)∧Bt 40 37 (sc r p k c):=by
  have h1:=most_bound v (prt c.fo p k)
  have h2:=wt_bound v c.fo
  have h3:=wt_pos v
  have b:Bt 36 36 (lsh r p k c):=Bt.of (i:=36) (j:=36) (by omega) (by omega) (by omega)
  exact ⟨b,(Bt.of (i:=4) (j:=1) (a:=c.fx) (b:=1) (by decide) (by omega) (by decide)).mul b⟩
theorem scs_bt {r:TRoll} {p:List Int} {k:Nat} {l:List TInterest} (hv:∀ c ∈ l,VC r p k c) (hw:∀ c ∈ l,0 ≤ c.fx∧c.fx ≤ 9):∀ i,i ≤ l.length → Bt (1 + 41 * i) (1 + 37 * i) (scs r p k (l.take i))
  | 0,_=>⟨show (0:Rat).num.natAbs < 2 ^ 1 by decide,show (0:Rat).den < 2 ^ 1 by decide⟩
  | i + 1,hi=>by
    have ih:=scs_bt hv hw i (by omega)
    have hm:=List.getElem_mem (l:=l) (n:=i) (by omega)
    rw [List.take_succ_eq_append_getElem (by omega),scs_snoc]
    exact (ih.add (sc_bt (hv _ hm) (hw _ hm)).2 (i:=1 + 41 * (i + 1)) (by omega) (by omega)).mono (by omega) (by omega)
theorem imust (s:TShare):interest_must_api_Share_p FU s 0 = some (.ok s):=by unfold interest_must_api_Share_p; rw [if_pos rfl]
theorem wsum_take {l:List TInterest} (hw:∀ c ∈ l,0 ≤ c.fx∧c.fx ≤ 1000):∀ i,i ≤ l.length → 0 ≤ wsum (l.take i)∧wsum (l.take i) ≤ 1000 * i
  | 0,_=>⟨by simp [wsum],by simp [wsum]⟩
  | i + 1,hi=>by
    have ih:=wsum_take hw i (by omega)
    have h1:=hw _ (List.getElem_mem (l:=l) (n:=i) (by omega))
    rw [List.take_succ_eq_append_getElem (by omega),wsum_snoc]
    omega
theorem weights_loop {l:List TInterest} (hl:l.length ≤ 20) (hw:∀ c ∈ l,0 ≤ c.fx∧c.fx ≤ 1000):loopF (interest_Score_1_l2 FU l) FU (0,0) = some (wsum l):=by
  have hF:=FU_lt
  have hh:=loop_ok (B:=interest_Score_1_l2 FU l) (fun s:Int × Nat=>l.length - s.2) (fun s=>s.2 ≤ l.length∧s.1 = wsum (l.take s.2)) (fun y=>y = wsum l) ?_ FU (0,0) ⟨Nat.zero_le _,rfl⟩ (by simp only; omega)
  · obtain ⟨y,e,rfl⟩:=hh; exact e
  · rintro ⟨z,i⟩ J ⟨a1,a2⟩ hJ
    simp only at a1 a2 hJ
    subst a2
    unfold interest_Score_1_l2
    simp only
    by_cases hi:i < l.length
    · have b1:=wsum_take hw i (by omega)
      have b2:=hw _ (List.getElem_mem hi)
      have next:=hJ (wsum (l.take (i + 1)),i + 1) ⟨hi,rfl⟩ (by simp only; omega)
      rw [List.take_succ_eq_append_getElem hi,wsum_snoc] at next
      rw [if_pos hi,List.getElem?_eq_getElem hi,obind,chkI (by omega) (by omega),obind]
      exact next
    · rw [if_neg hi]
      exact ⟨_,rfl,by rw [List.take_of_length_le (by omega)]⟩
abbrev S16:Type:=UInt64 × UInt64 × UInt64 × UInt64 × UInt64 × UInt64 × UInt64 × UInt64 × UInt64 × UInt64 × UInt64 × UInt64 × UInt64 × UInt64 × UInt64 × UInt64
def un16:S16 → TShare:=fun (a1,a2,a3,a4,a5,a6,a7,a8,b1,b2,b3,b4,b5,b6,b7,b8)=>⟨(a1,a2,a3,a4,a5,a6,a7,a8),(b1,b2,b3,b4,b5,b6,b7,b8)⟩
theorem score_loop {r:TRoll} {p:List Int} {k:Nat} {l:List TInterest} (hl:l.length ≤ 6) (hv:∀ c ∈ l,VC r p k c) (hw:∀ c ∈ l,0 ≤ c.fx∧c.fx ≤ 9) (s0:S16) (h0:un16 s0 = Sg 0):∃ s:S16,loopF (interest_Score_1_l1 FU l (l.map fun c=>Sg (lsh r p k c))) FU (0,s0) = some (.inr s)∧un16 s = Sg (scs r p k l):=by
  have hF:=FU_lt
  have hh:=loop_ok (B:=interest_Score_1_l1 FU l (l.map fun c=>Sg (lsh r p k c))) (fun s:Nat × S16=>l.length - s.1) (fun s=>s.1 ≤ l.length∧un16 s.2 = Sg (scs r p k (l.take s.1))) (fun y=>∃ s:S16,y = .inr s∧un16 s = Sg (scs r p k l)) ?_ FU (0,s0) ⟨Nat.zero_le _,h0⟩ (by simp only; omega)
  · obtain ⟨y,e,s,rfl,hs⟩:=hh
    exact ⟨s,e,hs⟩
  · rintro ⟨i,a1,a2,a3,a4,a5,a6,a7,a8,b1,b2,b3,b4,b5,b6,b7,b8⟩ J ⟨c1,c2⟩ hJ
    simp only at c1 hJ
    have c3:(⟨(a1,a2,a3,a4,a5,a6,a7,a8),(b1,b2,b3,b4,b5,b6,b7,b8)⟩:TShare) = Sg (scs r p k (l.take i)):=c2
    unfold interest_Score_1_l1
    simp only
    by_cases hi:i < l.length
    · have hm:=List.getElem_mem hi
      obtain ⟨t1,t2⟩:=sc_bt (hv _ hm) (hw _ hm)
      have t3:=scs_bt hv hw i (by omega)
      have t4:=scs_bt hv hw (i + 1) (by omega)
      have hww:=hw _ hm
      have q1:FQ (Rat.divInt l[i].fx 1):=part_fq (by omega) (by decide) (by decide)
      have q2:FQ (sc r p k l[i]):=t2.fq (by decide) (by decide)
      have q3:FQ (scs r p k (l.take i)):=t3.fq (by omega) (by omega)
      have e4:scs r p k (l.take (i + 1)) = scs r p k (l.take i) + sc r p k l[i]:=by rw [List.take_succ_eq_append_getElem hi,scs_snoc]
      have q4:FQ (scs r p k (l.take i) + sc r p k l[i]):=by rw [← e4]; exact t4.fq (by omega) (by omega)
      rw [if_pos hi,List.getElem?_eq_getElem hi,obind,iof (by decide) (Sm_of (by omega)) (Sm_of (by decide)),obind,exok,List.getElem?_map,List.getElem?_eq_getElem hi]
      simp only [Option.map_some]
      rw [obind,mul_q q1 (t1.fq (by decide) (by decide)) q2 FU_big,obind]
      simp only
      rw [imust,obind,exok,c3]
      rw [show Rat.divInt l[i].fx 1 * lsh r p k l[i] = sc r p k l[i] from rfl,add_q q3 q2 q4 FU_big,obind]
      simp only
      rw [imust,obind,exok]
      exact hJ _ ⟨hi,by rw [e4]; rfl⟩ (by simp only; omega)
    · rw [if_neg hi]
      rw [List.take_of_length_le (by omega)] at c3
      exact ⟨_,rfl,_,rfl,c3⟩
theorem score27 {r:TRoll} {p:List Int} {k:Nat} {l:List TInterest} (h:VLs r p k l) (hl:l.length ≤ 6) (hw:∀ c ∈ l,0 ≤ c.fx∧c.fx ≤ 9):interest_Score_p FU l r p k = some (if wsum l = 0 then (noS,7) else (Sg (scs r p k l / Rat.divInt (wsum l) 1),0)):=by
  have hF:=FU_lt
  have hw2:∀ c ∈ l,0 ≤ c.fx∧c.fx ≤ 1000:=fun c hc=>by have:=hw c hc; omega
  have hb:=wsum_take hw2 l.length (Nat.le_refl _)
  rw [List.take_of_length_le (Nat.le_refl _)] at hb
  have ht:=scs_bt h.v hw l.length (Nat.le_refl _)
  rw [List.take_of_length_le (Nat.le_refl _)] at ht
  unfold interest_Score_p interest_Score_1_p
  rw [largest27 h,obind]
  simp only
  unfold interest_must_list_api_Share_p
  rw [if_pos rfl,obind,exok,weights_loop (by omega) hw2,obind]
  unfold interest_fail_p interest_need_p
  by_cases h0:wsum l = 0
  · rw [if_pos h0,if_pos (decide_eq_true h0),if_neg (by decide),obind]
    rfl
  · rw [if_neg h0,if_neg (by simpa using h0),obind,exok,iof (by decide) (Sm_of (by decide)) (Sm_of (by decide)),obind,exok]
    obtain ⟨s,e,hs⟩:=score_loop hl h.v hw ((Sg (Rat.divInt 0 1)).fN.1,(Sg (Rat.divInt 0 1)).fN.2.1,(Sg (Rat.divInt 0 1)).fN.2.2.1,(Sg (Rat.divInt 0 1)).fN.2.2.2.1,(Sg (Rat.divInt 0 1)).fN.2.2.2.2.1,(Sg (Rat.divInt 0 1)).fN.2.2.2.2.2.1,(Sg (Rat.divInt 0 1)).fN.2.2.2.2.2.2.1,(Sg (Rat.divInt 0 1)).fN.2.2.2.2.2.2.2,(Sg (Rat.divInt 0 1)).fD.1,(Sg (Rat.divInt 0 1)).fD.2.1,(Sg (Rat.divInt 0 1)).fD.2.2.1,(Sg (Rat.divInt 0 1)).fD.2.2.2.1,(Sg (Rat.divInt 0 1)).fD.2.2.2.2.1,(Sg (Rat.divInt 0 1)).fD.2.2.2.2.2.1,(Sg (Rat.divInt 0 1)).fD.2.2.2.2.2.2.1,(Sg (Rat.divInt 0 1)).fD.2.2.2.2.2.2.2) rfl
    rw [e,thnI]
    obtain ⟨a1,a2,a3,a4,a5,a6,a7,a8,b1,b2,b3,b4,b5,b6,b7,b8⟩:=s
    have hs2:(⟨(a1,a2,a3,a4,a5,a6,a7,a8),(b1,b2,b3,b4,b5,b6,b7,b8)⟩:TShare) = Sg (scs r p k l):=hs
    have hwb:Bt 14 1 (Rat.divInt (wsum l) 1):=Bt.of (i:=14) (j:=1) (by decide) (by omega) (by decide)
    have hne:Rat.divInt (wsum l) 1 ≠ 0:=fun e=>by
      have e2:Rat.divInt (wsum l) 1 = Rat.divInt 0 1:=e.trans rfl
      have:=(Rat.divInt_eq_divInt_iff (by decide) (by decide)).1 e2
      omega
    have hq:=(ht.div hwb hne).fq (by omega) (by omega)
    rw [iof (by decide) (Sm_of (by omega)) (Sm_of (by decide)),obind,exok,hs2,div_q (ht.fq (by omega) (by omega)) (hwb.fq (by decide) (by decide)) hne hq FU_big,obind]
    simp only
    rw [imust,obind,exok,obind,exok]
end Go.Proofs.YtfccehcnajelgaaGreatDoor
/- Plain laws: scores as numbers. No program in sight but the printed functions. -/
namespace Go.Proofs.YtfccehcnajelgaaGreatDoor
open Go
set_option maxRecDepth 8000
theorem d1_eq (a:Int):Rat.divInt a 1 = (a:Rat):=Rat.num_divInt_den (a:Rat)
theorem lsh_le1 {r:TRoll} {p:List Int} {k:Nat} {c:TInterest} (v:VC r p k c):lsh r p k c ≤ 1:=by
  obtain ⟨m1,_⟩:=most_le v
  have hp:=wt_pos v
  have h:=divInt_le (a:=mostL (wt r c.fo) (prt c.fo p k)) (c:=1) (d:=1) hp (by decide) (by omega)
  rw [d1_eq] at h
  exact h
theorem cast_pos {w:Int} (h:0 < w):(0:Rat) < (w:Rat):=Rat.intCast_lt_intCast.2 h
theorem slack {r:TRoll} {p:List Int} {k:Nat} {l:List TInterest} (hv:∀ c ∈ l,lsh r p k c ≤ 1) (hw:∀ c ∈ l,0 ≤ c.fx):∀ i,i ≤ l.length → scs r p k (l.take i) ≤ (wsum (l.take i):Rat)∧(scs r p k (l.take i) = (wsum (l.take i):Rat) ↔ ∀ c ∈ l.take i,0 < c.fx → lsh r p k c = 1)
  | 0,_=>by simp [scs,wsum]
  | i + 1,hi=>by
    obtain ⟨h1,h2⟩:=slack hv hw i (by omega)
    have hm:=List.getElem_mem (l:=l) (n:=i) (by omega)
    have hle:=hv _ hm
    have h0:=hw _ hm
    rw [List.take_succ_eq_append_getElem (by omega),scs_snoc,wsum_snoc,Rat.intCast_add]
    have e:sc r p k l[i] = (l[i].fx:Rat) * lsh r p k l[i]:=by unfold sc; rw [d1_eq]
    have hb:sc r p k l[i] ≤ (l[i].fx:Rat)∧(sc r p k l[i] = (l[i].fx:Rat) ↔ (0 < l[i].fx → lsh r p k l[i] = 1)):=by
      rw [e]
      by_cases hz:l[i].fx = 0
      · rw [hz]
        refine ⟨?_,?_⟩
        · show (0:Rat) * _ ≤ 0
          rw [Rat.zero_mul]; exact Rat.le_refl
        · show (0:Rat) * _ = 0 ↔ _
          rw [Rat.zero_mul]
          exact ⟨fun _ h=>absurd h (by omega),fun _=>rfl⟩
      · have hp:(0:Rat) < (l[i].fx:Rat):=cast_pos (by omega)
        generalize (l[i].fx:Rat) = w at *
        generalize lsh r p k l[i] = x at *
        have h3:=Rat.mul_le_mul_of_nonneg_left hle (Rat.le_of_lt hp)
        rw [Rat.mul_one] at h3
        refine ⟨h3,fun h4 _=>?_,fun h4=>?_⟩
        · have e2:w * (x - 1) = 0:=by grind
          rcases Rat.mul_eq_zero.1 e2 with h5 | h5 <;> grind
        · rw [h4 (by omega),Rat.mul_one]
    refine ⟨by grind,?_⟩
    have key:scs r p k (l.take i) + sc r p k l[i] = (wsum (l.take i):Rat) + (l[i].fx:Rat) ↔ scs r p k (l.take i) = (wsum (l.take i):Rat)∧sc r p k l[i] = (l[i].fx:Rat):=by
      have:=hb.1
      constructor
      · intro h; constructor <;> grind
      · rintro ⟨e1,e2⟩; rw [e1,e2]
    rw [key,h2,hb.2]
    constructor
    · rintro ⟨a,b⟩ c hc
      rcases List.mem_append.1 hc with hc | hc
      · exact a c hc
      · rw [List.mem_singleton.1 hc]; exact b
    · intro h
      exact ⟨fun c hc=>h c (List.mem_append_left _ hc),h _ (List.mem_append_right _ (List.mem_singleton_self _))⟩
theorem slack_all {r:TRoll} {p:List Int} {k:Nat} {l:List TInterest} (hv:∀ c ∈ l,lsh r p k c ≤ 1) (hw:∀ c ∈ l,0 ≤ c.fx):scs r p k l ≤ (wsum l:Rat)∧(scs r p k l = (wsum l:Rat) ↔ ∀ c ∈ l,0 < c.fx → lsh r p k c = 1):=by
  have:=slack hv hw l.length (Nat.le_refl _)
  rw [List.take_of_length_le (Nat.le_refl _)] at this
  exact this
theorem div_le1 {s:Rat} {W:Int} (hW:0 < W) (h:s ≤ (W:Rat)):s / Rat.divInt W 1 ≤ 1∧(s / Rat.divInt W 1 = 1 ↔ s = (W:Rat)):=by
  have hp:=cast_pos hW
  rw [d1_eq]
  generalize (W:Rat) = w at *
  have hne:w ≠ 0:=fun e=>by rw [e] at hp; exact absurd hp (Rat.not_lt.2 Rat.le_refl)
  have hs:s / w * w = s:=Rat.div_mul_cancel hne
  refine ⟨?_,fun h=>?_,fun h=>?_⟩
  · refine Rat.not_lt.1 fun hc=>?_
    have:=Rat.mul_lt_mul_of_pos_right hc hp
    rw [hs,Rat.one_mul] at this
    exact absurd this (Rat.not_lt.2 h)
  · rw [← hs,h,Rat.one_mul]
  · rw [h,Rat.div_def,Rat.mul_inv_cancel _ hne]
end Go.Proofs.YtfccehcnajelgaaGreatDoor
/- Plain laws: InterestScores. No program in sight but the printed functions. -/
namespace Go.Proofs.YtfccehcnajelgaaGreatDoor
open Go
set_option maxRecDepth 8000
def heavy (l:List TInterest):List TInterest:=l.filter fun c=>decide (0 < c.fx)
theorem heavy_snoc (l:List TInterest) (c:TInterest):heavy (l ++ [c]) = heavy l ++ if 0 < c.fx then [c] else []:=by
  unfold heavy
  rw [List.filter_append]
  by_cases h:0 < c.fx
  · rw [if_pos h,List.filter_cons_of_pos (by simpa using h),List.filter_nil]
  · rw [if_neg h,List.filter_cons_of_neg (by simpa using h),List.filter_nil]
theorem heavy_scs {r:TRoll} {p:List Int} {k:Nat} {l:List TInterest} (hw:∀ c ∈ l,0 ≤ c.fx):∀ i,i ≤ l.length → scs r p k (heavy (l.take i)) = scs r p k (l.take i)∧wsum (heavy (l.take i)) = wsum (l.take i)
  | 0,_=>⟨rfl,rfl⟩
  | i + 1,hi=>by
    obtain ⟨h1,h2⟩:=heavy_scs (r:=r) (p:=p) (k:=k) hw i (by omega)
    have h0:=hw _ (List.getElem_mem (l:=l) (n:=i) (by omega))
    rw [List.take_succ_eq_append_getElem (by omega),heavy_snoc,scs_snoc,wsum_snoc]
    by_cases hp:0 < l[i].fx
    · rw [if_pos hp,scs_snoc,wsum_snoc,h1,h2]; exact ⟨rfl,rfl⟩
    · have hz:l[i].fx = 0:=by omega
      rw [if_neg hp,List.append_nil,h1,h2]
      unfold sc
      rw [hz,show Rat.divInt 0 1 = 0 from rfl,Rat.zero_mul,Rat.add_zero]
      exact ⟨rfl,by omega⟩
theorem heavy_all {r:TRoll} {p:List Int} {k:Nat} {l:List TInterest} (hw:∀ c ∈ l,0 ≤ c.fx):scs r p k (heavy l) = scs r p k l∧wsum (heavy l) = wsum l:=by
  have:=heavy_scs (r:=r) (p:=p) (k:=k) hw l.length (Nat.le_refl _)
  rw [List.take_of_length_le (Nat.le_refl _)] at this
  exact this
theorem heavy_iv {n:Int} {l:List TInterest} (h:IV n l):IV n (heavy l):=by
  have h1:l.Pairwise fun a b=>a.fp ≠ b.fp:=List.pairwise_iff_getElem.2 fun i j hi hj hij=>h.d j hj i hij
  have h2:(heavy l).Pairwise fun a b=>a.fp ≠ b.fp:=List.Pairwise.filter _ h1
  refine ⟨fun i hi=>?_,fun i hi j hji=>List.pairwise_iff_getElem.1 h2 j i (by omega) hi hji⟩
  have hm:=(List.mem_filter.1 (List.getElem_mem hi)).1
  obtain ⟨j,hj,e⟩:=List.getElem_of_mem hm
  rw [← e]
  exact h.u j hj
theorem heavy_vls {r:TRoll} {p:List Int} {k:Nat} {l:List TInterest} (h:VLs r p k l) (hiv:IV (p.length:Int) l) (hp:1 ≤ p.length∧p.length ≤ 64) (hn:∀ c ∈ l,c.fp.size ≤ 1000):VLs r p k (heavy l):=by
  have hl:(heavy l).length ≤ l.length:=List.length_filter_le ..
  have:=h.n
  have hsub:∀ c ∈ heavy l,c ∈ l:=fun c hc=>(List.mem_filter.1 hc).1
  refine ⟨h.b,?_,by omega,fun c hc=>h.v c (hsub c hc)⟩
  rw [checkI_eq _ _ fun c hc=>hn c (hsub c hc),if_neg (by omega),if_neg (by omega),if_neg (by omega),if_pos (heavy_iv hiv)]
theorem one_iff {q:Rat} (h:FQ q):Sg q = Sg (Rat.divInt 1 1) ↔ q = 1:=by
  have h11:=part_fq (n:=1) (d:=1) (by decide) (by decide) (by decide)
  refine ⟨fun e=>?_,fun e=>?_⟩
  · rw [Sg_inj h h11 e]; exact d1_eq 1
  · rw [e,d1_eq]; rfl
abbrev S17:Type:=UInt64 × UInt64 × UInt64 × UInt64 × UInt64 × UInt64 × UInt64 × UInt64 × UInt64 × UInt64 × UInt64 × UInt64 × UInt64 × UInt64 × UInt64 × UInt64 × Bool
def un17:S17 → TShare × Bool:=fun (a1,a2,a3,a4,a5,a6,a7,a8,b1,b2,b3,b4,b5,b6,b7,b8,q)=>(⟨(a1,a2,a3,a4,a5,a6,a7,a8),(b1,b2,b3,b4,b5,b6,b7,b8)⟩,q)
theorem scores_loop {r:TRoll} {p:List Int} {k:Nat} {l:List TInterest} (hl:l.length ≤ 6) (hv:∀ c ∈ l,VC r p k c) (hw:∀ c ∈ l,0 ≤ c.fx∧c.fx ≤ 9) (s0:S16) (h0:un16 s0 = Sg 0):∃ (t:S17) (q:Bool),loopF (wardmotelaw27_InterestScores_l1 FU l (l.map fun c=>Sg (lsh r p k c),0)) FU (0,true,0,[],s0) = some (.inr (wsum l,heavy l,t))∧un17 t = (Sg (scs r p k l),q)∧(q = true ↔ ∀ c ∈ l,0 < c.fx → lsh r p k c = 1):=by
  have hF:=FU_lt
  have hw2:∀ c ∈ l,0 ≤ c.fx∧c.fx ≤ 1000:=fun c hc=>by have:=hw c hc; omega
  have hh:=loop_ok (B:=wardmotelaw27_InterestScores_l1 FU l (l.map fun c=>Sg (lsh r p k c),0)) (fun s:Int × Bool × Nat × List TInterest × S16=>l.length - s.2.2.1) (fun s=>s.2.2.1 ≤ l.length∧s.1 = wsum (l.take s.2.2.1)∧s.2.2.2.1 = heavy (l.take s.2.2.1)∧un16 s.2.2.2.2 = Sg (scs r p k (l.take s.2.2.1))∧(s.2.1 = true ↔ ∀ c ∈ l.take s.2.2.1,0 < c.fx → lsh r p k c = 1)) (fun y=>∃ (t:S17) (q:Bool),y = .inr (wsum l,heavy l,t)∧un17 t = (Sg (scs r p k l),q)∧(q = true ↔ ∀ c ∈ l,0 < c.fx → lsh r p k c = 1)) ?_ FU (0,true,0,[],s0) ⟨Nat.zero_le _,rfl,rfl,h0,⟨fun _ c hc=>(by simp at hc),fun _=>rfl⟩⟩ (by simp only; omega)
  · obtain ⟨y,e,t,q,rfl,hs⟩:=hh
    exact ⟨t,q,e,hs⟩
  · rintro ⟨z,q,i,xs,a1,a2,a3,a4,a5,a6,a7,a8,b1,b2,b3,b4,b5,b6,b7,b8⟩ J ⟨c1,c2,c3,c4,c5⟩ hJ
    simp only at c1 c2 c3 c5 hJ
    subst c2
    subst c3
    have c6:(⟨(a1,a2,a3,a4,a5,a6,a7,a8),(b1,b2,b3,b4,b5,b6,b7,b8)⟩:TShare) = Sg (scs r p k (l.take i)):=c4
    unfold wardmotelaw27_InterestScores_l1 jn
    simp only
    by_cases hi:i < l.length
    · have hm:=List.getElem_mem hi
      obtain ⟨t1,t2⟩:=sc_bt (hv _ hm) (hw _ hm)
      have t3:=scs_bt hv hw i (by omega)
      have t4:=scs_bt hv hw (i + 1) (by omega)
      have hww:=hw _ hm
      have wt1:=wsum_take hw2 i (by omega)
      have q1:FQ (Rat.divInt l[i].fx 1):=part_fq (by omega) (by decide) (by decide)
      have q2:FQ (sc r p k l[i]):=t2.fq (by decide) (by decide)
      have q3:FQ (scs r p k (l.take i)):=t3.fq (by omega) (by omega)
      have e4:scs r p k (l.take (i + 1)) = scs r p k (l.take i) + sc r p k l[i]:=by rw [List.take_succ_eq_append_getElem hi,scs_snoc]
      have q4:FQ (scs r p k (l.take i) + sc r p k l[i]):=by rw [← e4]; exact t4.fq (by omega) (by omega)
      have hlen:(heavy (l.take i)).length ≤ 6:=Nat.le_trans (List.length_filter_le ..) (by rw [List.length_take]; omega)
      rw [if_pos hi,List.getElem?_eq_getElem hi,obind,lof (by decide) (Sm_of (by omega)) (Sm_of (by decide)),obind,List.getElem?_map,List.getElem?_eq_getElem hi]
      simp only [Option.map_some]
      rw [obind,mul_q q1 (t1.fq (by decide) (by decide)) q2 FU_big,obind]
      simp only
      rw [if_pos trivial,c6,show Rat.divInt l[i].fx 1 * lsh r p k l[i] = sc r p k l[i] from rfl,add_q q3 q2 q4 FU_big,obind]
      simp only
      rw [if_pos trivial,chkI (by omega) (by omega),obind]
      have next:∀ (z:Int) (q:Bool) (xs:List TInterest),z = wsum (l.take (i + 1)) → xs = heavy (l.take (i + 1)) → (q = true ↔ ∀ c ∈ l.take (i + 1),0 < c.fx → lsh r p k c = 1) → _:=fun z q xs hz hx hq=>hJ (z,q,i + 1,xs,(Sg (scs r p k (l.take i) + sc r p k l[i])).fN.1,(Sg (scs r p k (l.take i) + sc r p k l[i])).fN.2.1,(Sg (scs r p k (l.take i) + sc r p k l[i])).fN.2.2.1,(Sg (scs r p k (l.take i) + sc r p k l[i])).fN.2.2.2.1,(Sg (scs r p k (l.take i) + sc r p k l[i])).fN.2.2.2.2.1,(Sg (scs r p k (l.take i) + sc r p k l[i])).fN.2.2.2.2.2.1,(Sg (scs r p k (l.take i) + sc r p k l[i])).fN.2.2.2.2.2.2.1,(Sg (scs r p k (l.take i) + sc r p k l[i])).fN.2.2.2.2.2.2.2,(Sg (scs r p k (l.take i) + sc r p k l[i])).fD.1,(Sg (scs r p k (l.take i) + sc r p k l[i])).fD.2.1,(Sg (scs r p k (l.take i) + sc r p k l[i])).fD.2.2.1,(Sg (scs r p k (l.take i) + sc r p k l[i])).fD.2.2.2.1,(Sg (scs r p k (l.take i) + sc r p k l[i])).fD.2.2.2.2.1,(Sg (scs r p k (l.take i) + sc r p k l[i])).fD.2.2.2.2.2.1,(Sg (scs r p k (l.take i) + sc r p k l[i])).fD.2.2.2.2.2.2.1,(Sg (scs r p k (l.take i) + sc r p k l[i])).fD.2.2.2.2.2.2.2) ⟨hi,hz,hx,by simp only; rw [e4]; rfl,hq⟩ (by simp only; omega)
      have ez:wsum (l.take i) + l[i].fx = wsum (l.take (i + 1)):=by rw [List.take_succ_eq_append_getElem hi,wsum_snoc]
      have eh:heavy (l.take (i + 1)) = heavy (l.take i) ++ if 0 < l[i].fx then [l[i]] else []:=by rw [List.take_succ_eq_append_getElem hi,heavy_snoc]
      have eq1:(∀ c ∈ l.take (i + 1),0 < c.fx → lsh r p k c = 1) ↔ (∀ c ∈ l.take i,0 < c.fx → lsh r p k c = 1)∧(0 < l[i].fx → lsh r p k l[i] = 1):=by
        rw [List.take_succ_eq_append_getElem hi]
        constructor
        · intro h
          exact ⟨fun c hc=>h c (List.mem_append_left _ hc),h _ (List.mem_append_right _ (List.mem_singleton_self _))⟩
        · rintro ⟨a,b⟩ c hc
          rcases List.mem_append.1 hc with hc | hc
          · exact a c hc
          · rw [List.mem_singleton.1 hc]; exact b
      by_cases hp:0 < l[i].fx
      · rw [if_pos hp] at eh
        rw [if_pos hp,appS _ _ (by simp only [List.length_cons,List.length_nil]; omega),obind]
        by_cases hq:q = true
        · rw [if_pos hq,lof (by decide) (Sm_of (by decide)) (Sm_of (by decide)),obind]
          refine next _ _ _ ez eh.symm ?_
          rw [decide_eq_true_eq,one_iff (t1.fq (by decide) (by decide)),eq1]
          exact ⟨fun h=>⟨c5.1 hq,fun _=>h⟩,fun h=>h.2 hp⟩
        · rw [if_neg hq]
          refine next _ _ _ ez eh.symm ?_
          rw [eq1]
          exact ⟨fun h=>(by cases h),fun h=>absurd (c5.2 h.1) hq⟩
      · rw [if_neg hp,List.append_nil] at eh
        rw [if_neg hp]
        refine next _ _ _ ez eh.symm ?_
        rw [eq1,c5]
        exact ⟨fun h=>⟨h,fun h2=>absurd h2 hp⟩,fun h=>h.1⟩
    · rw [if_neg hi]
      rw [List.take_of_length_le (by omega)] at c6 c5
      refine ⟨_,rfl,(a1,a2,a3,a4,a5,a6,a7,a8,b1,b2,b3,b4,b5,b6,b7,b8,q),q,?_,?_,c5⟩
      · rw [List.take_of_length_le (by omega)]
      · show ((⟨(a1,a2,a3,a4,a5,a6,a7,a8),(b1,b2,b3,b4,b5,b6,b7,b8)⟩:TShare),q) = _
        rw [c6]
theorem interestScores_ok (a0:TDraft48) (a1:TDraft50) (a2:TDraft):wardmotelaw27_InterestScores_p FU a0 a1 a2 = some true:=by
  have hF:=FU_lt
  obtain ⟨p,k,e0,p1,p2,hp,k1,k2⟩:=loose_ok FU a0 (by omega)
  obtain ⟨r,us,e1,hus,hr⟩:=roll_ok FU a1 p.length (by omega) (by omega) (by omega)
  obtain ⟨l,e2,l6,ld⟩:=list_full a2 p.length (by omega) (by omega)
  obtain ⟨k,rfl⟩:∃ n:Nat,k = (n:Int):=⟨k.toNat,by omega⟩
  have h:=vls_ok hr k1 k2 hp hus.symm l6 ld
  have hw:∀ c ∈ l,0 ≤ c.fx∧c.fx ≤ 9:=fun c hc=>by
    obtain ⟨i,hi,rfl⟩:=List.getElem_of_mem hc
    exact (ld i hi).2.1
  have hnm:∀ c ∈ l,c.fp.size ≤ 1000:=fun c hc=>by
    obtain ⟨i,hi,rfl⟩:=List.getElem_of_mem hc
    rw [(ld i hi).1]; show 2 ≤ 1000; decide
  have hh:=heavy_vls h (drafted_iv l6 ld) ⟨p1,by omega⟩ hnm
  have hsub:∀ c ∈ heavy l,c ∈ l:=fun c hc=>(List.mem_filter.1 hc).1
  have s1:=score27 h l6 hw
  have s2:=score27 hh (Nat.le_trans (List.length_filter_le ..) l6) fun c hc=>hw c (hsub c hc)
  obtain ⟨g1,g2⟩:=heavy_all (r:=r) (p:=p) (k:=k) fun c hc=>(hw c hc).1
  rw [g1,g2] at s2
  obtain ⟨sl1,sl2⟩:=slack_all (r:=r) (p:=p) (k:=k) (l:=l) (fun c hc=>lsh_le1 (h.v c hc)) fun c hc=>(hw c hc).1
  have hb:=wsum_take (l:=l) (fun c hc=>by have:=hw c hc; omega) l.length (Nat.le_refl _)
  rw [List.take_of_length_le (Nat.le_refl _)] at hb
  have ht:=scs_bt h.v hw l.length (Nat.le_refl _)
  rw [List.take_of_length_le (Nat.le_refl _)] at ht
  unfold wardmotelaw27_InterestScores_p
  rw [works27,obind,if_pos rfl,e0,obind]
  simp only
  rw [e1,obind,e2,obind,largest27 h,obind]
  simp only [List.length_map,if_true]
  rw [lof (by decide) (Sm_of (by decide)) (Sm_of (by decide)),obind]
  obtain ⟨t,q,e3,hs,hq⟩:=scores_loop l6 h.v hw ((Sg (Rat.divInt 0 1)).fN.1,(Sg (Rat.divInt 0 1)).fN.2.1,(Sg (Rat.divInt 0 1)).fN.2.2.1,(Sg (Rat.divInt 0 1)).fN.2.2.2.1,(Sg (Rat.divInt 0 1)).fN.2.2.2.2.1,(Sg (Rat.divInt 0 1)).fN.2.2.2.2.2.1,(Sg (Rat.divInt 0 1)).fN.2.2.2.2.2.2.1,(Sg (Rat.divInt 0 1)).fN.2.2.2.2.2.2.2,(Sg (Rat.divInt 0 1)).fD.1,(Sg (Rat.divInt 0 1)).fD.2.1,(Sg (Rat.divInt 0 1)).fD.2.2.1,(Sg (Rat.divInt 0 1)).fD.2.2.2.1,(Sg (Rat.divInt 0 1)).fD.2.2.2.2.1,(Sg (Rat.divInt 0 1)).fD.2.2.2.2.2.1,(Sg (Rat.divInt 0 1)).fD.2.2.2.2.2.2.1,(Sg (Rat.divInt 0 1)).fD.2.2.2.2.2.2.2) rfl
  rw [e3,thnI]
  obtain ⟨a1,a2,a3,a4,a5,a6,a7,a8,b1,b2,b3,b4,b5,b6,b7,b8,q'⟩:=t
  have hs2:(⟨(a1,a2,a3,a4,a5,a6,a7,a8),(b1,b2,b3,b4,b5,b6,b7,b8)⟩:TShare) = Sg (scs r p k l):=congrArg Prod.fst hs
  have hs3:q' = q:=congrArg Prod.snd hs
  subst hs3
  simp only
  rw [s1,obind]
  by_cases hz:wsum l = 0
  · rw [if_pos hz,if_pos hz]
    rfl
  · have hwb:Bt 14 1 (Rat.divInt (wsum l) 1):=Bt.of (i:=14) (j:=1) (by decide) (by omega) (by decide)
    have hne:Rat.divInt (wsum l) 1 ≠ 0:=fun e=>by
      have e2:Rat.divInt (wsum l) 1 = Rat.divInt 0 1:=e.trans rfl
      have:=(Rat.divInt_eq_divInt_iff (by decide) (by decide)).1 e2
      omega
    have hdb:=ht.div hwb hne
    have hfq:=hdb.fq (by omega) (by omega)
    have hback:scs r p k l / Rat.divInt (wsum l) 1 * Rat.divInt (wsum l) 1 = scs r p k l:=Rat.div_mul_cancel hne
    have hsq:=ht.fq (by omega) (by omega)
    obtain ⟨dl1,dl2⟩:=div_le1 (s:=scs r p k l) (W:=wsum l) (by omega) sl1
    rw [if_neg hz,if_neg hz,lof (by decide) (Sm_of (by omega)) (Sm_of (by decide)),obind,mul_q hfq (hwb.fq (by decide) (by decide)) (by rw [hback]; exact hsq) FU_big,obind,s2,obind,if_neg hz]
    simp only
    rw [if_pos trivial,if_pos trivial,if_pos trivial,hback,if_pos hs2.symm,if_pos trivial,lof (by decide) (Sm_of (by decide)) (Sm_of (by decide)),obind]
    have:decide (Sg (scs r p k l / Rat.divInt (wsum l) 1) = Sg (Rat.divInt 1 1)) = q' :=by
      rw [Bool.eq_iff_iff,decide_eq_true_eq,one_iff hfq,dl2,sl2,hq]
    rw [this,beq_self_eq_true]
theorem interestScores_ex (a0:TDraft48) (a1:TDraft50) (a2:TDraft):∃ n,wardmotelaw27_InterestScores_p n a0 a1 a2 = some true:=⟨FU,interestScores_ok a0 a1 a2⟩
end Go.Proofs.YtfccehcnajelgaaGreatDoor
