/- Plain laws: InterestParts. No program in sight but the printed functions. -/
import Derived.Test.YtfccehcnajelgaaGreatDoorTGSd
namespace Go.Proofs.YtfccehcnajelgaaGreatDoor
open Go
set_option maxRecDepth 8000
theorem divInt_le {a b c d:Int} (hb:0 < b) (hd:0 < d) (h:a * d ≤ c * b):Rat.divInt a b ≤ Rat.divInt c d:=by
  rw [Rat.le_iff]
  have h1:=div_num (a:=a) (b:=b) (by omega)
  have h2:=div_num (a:=c) (b:=d) (by omega)
  have p1:0 < ((Rat.divInt a b).den:Int):=by have:=(Rat.divInt a b).den_pos; omega
  have p2:0 < ((Rat.divInt c d).den:Int):=by have:=(Rat.divInt c d).den_pos; omega
  generalize (Rat.divInt a b).num = x at *
  generalize ((Rat.divInt a b).den:Int) = x' at *
  generalize (Rat.divInt c d).num = y at *
  generalize ((Rat.divInt c d).den:Int) = y' at *
  refine Int.le_of_mul_le_mul_right (a:=b * d) ?_ (Int.mul_pos hb hd)
  have e1:x * y' * (b * d) = a * d * (x' * y'):=by grind
  have e2:y * x' * (b * d) = c * b * (x' * y'):=by grind
  rw [e1,e2]
  exact Int.mul_le_mul_of_nonneg_right h (Int.le_of_lt (Int.mul_pos p1 p2))
theorem lsh_fq {r:TRoll} {p:List Int} {k:Nat} {c:TInterest} (v:VC r p k c):FQ (lsh r p k c):=by
  have h1:=most_bound v (prt c.fo p k)
  have h2:=wt_bound v c.fo
  have h3:=wt_pos v
  unfold lsh
  exact (Bt.of (i:=40) (j:=40) (by omega) (by omega) (by omega)).fq (by decide) (by decide)
theorem bcheck_ok {r:TRoll} {us:List TUnit} (hr:RollOk r us) {p:List Int} {k:Int} (hk:1 ≤ k) (hk8:k ≤ 8) (h:PlanOk p k) (hl:p.length = us.length):balance_Check_p FU r p k = some 0:=by
  unfold balance_Check_p balance_Check_1_p
  rw [counted_ok r us hr k hk hk8,obind]
  unfold exc
  simp only
  rw [check_plan r us hr p k hk h hl]
  rfl
theorem vls_ok {r:TRoll} {us:List TUnit} (hr:RollOk r us) {p:List Int} {k:Nat} (hk:1 ≤ (k:Int)) (hk8:(k:Int) ≤ 8) (h:PlanOk p k) (hl:p.length = us.length) {l:List TInterest} (l6:l.length ≤ 6) (ld:∀ i (h:i < l.length),DC p.length i l[i]):VLs r p k l:=by
  have hs:=hr.size
  have hlen:=hr.len
  have hiv:=drafted_iv l6 ld
  have hnm:∀ c ∈ l,c.fp.size ≤ 1000:=fun c hc=>by
    obtain ⟨i,hi,rfl⟩:=List.getElem_of_mem hc
    rw [(ld i hi).1]; show 2 ≤ 1000; decide
  refine ⟨bcheck_ok hr hk hk8 h hl,?_,by omega,fun c hc=>?_⟩
  · rw [checkI_eq _ l hnm,if_neg (by omega),if_neg (by omega),if_neg (by omega),if_pos hiv]
  · obtain ⟨i,hi,rfl⟩:=List.getElem_of_mem hc
    refine ⟨by omega,h.1,fun j hj=>dc_bits (ld i hi) j hj,by omega,fun u hu=>?_,(ld i hi).2.2.1⟩
    obtain ⟨j,hj,rfl⟩:=List.getElem_of_mem hu
    rcases hr.unit hj with ⟨h2,e⟩ | ⟨_,e⟩
    · rw [e]
      have:=(hr.land j h2).2.2.1
      omega
    · rw [e]; exact ⟨Int.le_refl _,show (0:Int) ≤ 1000000000 by decide⟩
end Go.Proofs.YtfccehcnajelgaaGreatDoor
/- Plain laws: the score. No program in sight but the printed functions. -/
namespace Go.Proofs.YtfccehcnajelgaaGreatDoor
open Go
set_option maxRecDepth 8000
def sc (r:TRoll) (p:List Int) (k:Nat) (c:TInterest):Rat:=Rat.divInt c.fE 1 * lsh r p k c
def scs (r:TRoll) (p:List Int) (k:Nat) (l:List TInterest):Rat:=l.foldl (fun a c=>a + sc r p k c) 0
def wsum (l:List TInterest):Int:=(l.map (·.fE)).sum
theorem scs_snoc (r:TRoll) (p:List Int) (k:Nat) (l:List TInterest) (c:TInterest):scs r p k (l ++ [c]) = scs r p k l + sc r p k c:=by unfold scs; rw [List.foldl_append]; rfl
theorem wsum_snoc (l:List TInterest) (c:TInterest):wsum (l ++ [c]) = wsum l + c.fE:=by unfold wsum; rw [List.map_append,List.sum_append]; simp
theorem sc_bt {r:TRoll} {p:List Int} {k:Nat} {c:TInterest} (v:VC r p k c) (hw:0 ≤ c.fE∧c.fE ≤ 9):Bt 36 36 (lsh r p k c)∧Bt 40 37 (sc r p k c):=by
  have h1:=most_bound v (prt c.fo p k)
  have h2:=wt_bound v c.fo
  have h3:=wt_pos v
  have b:Bt 36 36 (lsh r p k c):=Bt.of (i:=36) (j:=36) (by omega) (by omega) (by omega)
  exact ⟨b,(Bt.of (i:=4) (j:=1) (a:=c.fE) (b:=1) (by decide) (by omega) (by decide)).mul b⟩
theorem scs_bt {r:TRoll} {p:List Int} {k:Nat} {l:List TInterest} (hv:∀ c ∈ l,VC r p k c) (hw:∀ c ∈ l,0 ≤ c.fE∧c.fE ≤ 9):∀ i,i ≤ l.length → Bt (1 + 41 * i) (1 + 37 * i) (scs r p k (l.take i))
  | 0,_=>⟨show (0:Rat).num.natAbs < 2 ^ 1 by decide,show (0:Rat).den < 2 ^ 1 by decide⟩
  | i + 1,hi=>by
    have ih:=scs_bt hv hw i (by omega)
    have hm:=List.getElem_mem (l:=l) (n:=i) (by omega)
    rw [List.take_succ_eq_append_getElem (by omega),scs_snoc]
    exact (ih.add (sc_bt (hv _ hm) (hw _ hm)).2 (i:=1 + 41 * (i + 1)) (by omega) (by omega)).mono (by omega) (by omega)
theorem imust (s:TShare):interest_must_api_Share_p FU s 0 = some (.ok s):=by unfold interest_must_api_Share_p; rw [if_pos rfl]
theorem wsum_take {l:List TInterest} (hw:∀ c ∈ l,0 ≤ c.fE∧c.fE ≤ 1000):∀ i,i ≤ l.length → 0 ≤ wsum (l.take i)∧wsum (l.take i) ≤ 1000 * i
  | 0,_=>⟨by simp [wsum],by simp [wsum]⟩
  | i + 1,hi=>by
    have ih:=wsum_take hw i (by omega)
    have h1:=hw _ (List.getElem_mem (l:=l) (n:=i) (by omega))
    rw [List.take_succ_eq_append_getElem (by omega),wsum_snoc]
    omega
theorem weights_loop {l:List TInterest} (hl:l.length ≤ 20) (hw:∀ c ∈ l,0 ≤ c.fE∧c.fE ≤ 1000):loopF (interest_Score_1_l2 FU l) FU (0,0) = some (wsum l):=by
  have hF:=FU_lt
  have hh:=loop_ok (B:=interest_Score_1_l2 FU l) (fun s:Int × Nat=>l.length - s.2) (fun s=>s.2 ≤ l.length∧s.1 = wsum (l.take s.2)) (fun y=>y = wsum l) ?_ FU (0,0) ⟨Nat.zero_le _,rfl⟩ (by simp only; omega)
  · obtain ⟨y,e,rfl⟩:=hh; exact e
  · rintro ⟨z,i⟩ J ⟨a1,a2⟩ hJ
    simp only at a1 a2 hJ
    subst a2
    unfold interest_Score_1_l2
    simp only
    by_cases hi:i < l.length
    · have b1:=wsum_take hw i (by omega)
      have b2:=hw _ (List.getElem_mem hi)
      have next:=hJ (wsum (l.take (i + 1)),i + 1) ⟨hi,rfl⟩ (by simp only; omega)
      rw [List.take_succ_eq_append_getElem hi,wsum_snoc] at next
      rw [if_pos hi,List.getElem?_eq_getElem hi,obind,chkI (by omega) (by omega),obind]
      exact next
    · rw [if_neg hi]
      exact ⟨_,rfl,by rw [List.take_of_length_le (by omega)]⟩
abbrev S16:Type:=UInt64 × UInt64 × UInt64 × UInt64 × UInt64 × UInt64 × UInt64 × UInt64 × UInt64 × UInt64 × UInt64 × UInt64 × UInt64 × UInt64 × UInt64 × UInt64
def un16:S16 → TShare:=fun (a1,a2,a3,a4,a5,a6,a7,a8,b1,b2,b3,b4,b5,b6,b7,b8)=>⟨(a1,a2,a3,a4,a5,a6,a7,a8),(b1,b2,b3,b4,b5,b6,b7,b8)⟩
theorem score_loop {r:TRoll} {p:List Int} {k:Nat} {l:List TInterest} (hl:l.length ≤ 6) (hv:∀ c ∈ l,VC r p k c) (hw:∀ c ∈ l,0 ≤ c.fE∧c.fE ≤ 9) (s0:S16) (h0:un16 s0 = Sg 0):∃ s:S16,loopF (interest_Score_1_l1 FU l (l.map fun c=>Sg (lsh r p k c))) FU (0,s0) = some (.inr s)∧un16 s = Sg (scs r p k l):=by
  have hF:=FU_lt
  have hh:=loop_ok (B:=interest_Score_1_l1 FU l (l.map fun c=>Sg (lsh r p k c))) (fun s:Nat × S16=>l.length - s.1) (fun s=>s.1 ≤ l.length∧un16 s.2 = Sg (scs r p k (l.take s.1))) (fun y=>∃ s:S16,y = .inr s∧un16 s = Sg (scs r p k l)) ?_ FU (0,s0) ⟨Nat.zero_le _,h0⟩ (by simp only; omega)
  · obtain ⟨y,e,s,rfl,hs⟩:=hh
    exact ⟨s,e,hs⟩
  · rintro ⟨i,a1,a2,a3,a4,a5,a6,a7,a8,b1,b2,b3,b4,b5,b6,b7,b8⟩ J ⟨c1,c2⟩ hJ
    simp only at c1 hJ
    have c3:(⟨(a1,a2,a3,a4,a5,a6,a7,a8),(b1,b2,b3,b4,b5,b6,b7,b8)⟩:TShare) = Sg (scs r p k (l.take i)):=c2
    unfold interest_Score_1_l1
    simp only
    by_cases hi:i < l.length
    · have hm:=List.getElem_mem hi
      obtain ⟨t1,t2⟩:=sc_bt (hv _ hm) (hw _ hm)
      have t3:=scs_bt hv hw i (by omega)
      have t4:=scs_bt hv hw (i + 1) (by omega)
      have hww:=hw _ hm
      have q1:FQ (Rat.divInt l[i].fE 1):=part_fq (by omega) (by decide) (by decide)
      have q2:FQ (sc r p k l[i]):=t2.fq (by decide) (by decide)
      have q3:FQ (scs r p k (l.take i)):=t3.fq (by omega) (by omega)
      have e4:scs r p k (l.take (i + 1)) = scs r p k (l.take i) + sc r p k l[i]:=by rw [List.take_succ_eq_append_getElem hi,scs_snoc]
      have q4:FQ (scs r p k (l.take i) + sc r p k l[i]):=by rw [← e4]; exact t4.fq (by omega) (by omega)
      rw [if_pos hi,List.getElem?_eq_getElem hi,obind,iof (by decide) (Sm_of (by omega)) (Sm_of (by decide)),obind,exok,List.getElem?_map,List.getElem?_eq_getElem hi]
      simp only [Option.map_some]
      rw [obind,mul_q q1 (t1.fq (by decide) (by decide)) q2 FU_big,obind]
      simp only
      rw [imust,obind,exok,c3]
      rw [show Rat.divInt l[i].fE 1 * lsh r p k l[i] = sc r p k l[i] from rfl,add_q q3 q2 q4 FU_big,obind]
      simp only
      rw [imust,obind,exok]
      exact hJ _ ⟨hi,by rw [e4]; rfl⟩ (by simp only; omega)
    · rw [if_neg hi]
      rw [List.take_of_length_le (by omega)] at c3
      exact ⟨_,rfl,_,rfl,c3⟩
theorem score27 {r:TRoll} {p:List Int} {k:Nat} {l:List TInterest} (h:VLs r p k l) (hl:l.length ≤ 6) (hw:∀ c ∈ l,0 ≤ c.fE∧c.fE ≤ 9):interest_Score_p FU l r p k = some (if wsum l = 0 then (noS,7) else (Sg (scs r p k l / Rat.divInt (wsum l) 1),0)):=by
  have hF:=FU_lt
  have hw2:∀ c ∈ l,0 ≤ c.fE∧c.fE ≤ 1000:=fun c hc=>by have:=hw c hc; omega
  have hb:=wsum_take hw2 l.length (Nat.le_refl _)
  rw [List.take_of_length_le (Nat.le_refl _)] at hb
  have ht:=scs_bt h.v hw l.length (Nat.le_refl _)
  rw [List.take_of_length_le (Nat.le_refl _)] at ht
  unfold interest_Score_p interest_Score_1_p
  rw [largest27 h,obind]
  simp only
  unfold interest_must_list_api_Share_p
  rw [if_pos rfl,obind,exok,weights_loop (by omega) hw2,obind]
  unfold interest_fail_p interest_need_p
  by_cases h0:wsum l = 0
  · rw [if_pos h0,if_pos (decide_eq_true h0),if_neg (by decide),obind]
    rfl
  · rw [if_neg h0,if_neg (by simpa using h0),obind,exok,iof (by decide) (Sm_of (by decide)) (Sm_of (by decide)),obind,exok]
    obtain ⟨s,e,hs⟩:=score_loop hl h.v hw ((Sg (Rat.divInt 0 1)).fN.1,(Sg (Rat.divInt 0 1)).fN.2.1,(Sg (Rat.divInt 0 1)).fN.2.2.1,(Sg (Rat.divInt 0 1)).fN.2.2.2.1,(Sg (Rat.divInt 0 1)).fN.2.2.2.2.1,(Sg (Rat.divInt 0 1)).fN.2.2.2.2.2.1,(Sg (Rat.divInt 0 1)).fN.2.2.2.2.2.2.1,(Sg (Rat.divInt 0 1)).fN.2.2.2.2.2.2.2,(Sg (Rat.divInt 0 1)).fD.1,(Sg (Rat.divInt 0 1)).fD.2.1,(Sg (Rat.divInt 0 1)).fD.2.2.1,(Sg (Rat.divInt 0 1)).fD.2.2.2.1,(Sg (Rat.divInt 0 1)).fD.2.2.2.2.1,(Sg (Rat.divInt 0 1)).fD.2.2.2.2.2.1,(Sg (Rat.divInt 0 1)).fD.2.2.2.2.2.2.1,(Sg (Rat.divInt 0 1)).fD.2.2.2.2.2.2.2) rfl
    rw [e,thnI]
    obtain ⟨a1,a2,a3,a4,a5,a6,a7,a8,b1,b2,b3,b4,b5,b6,b7,b8⟩:=s
    have hs2:(⟨(a1,a2,a3,a4,a5,a6,a7,a8),(b1,b2,b3,b4,b5,b6,b7,b8)⟩:TShare) = Sg (scs r p k l):=hs
    have hwb:Bt 14 1 (Rat.divInt (wsum l) 1):=Bt.of (i:=14) (j:=1) (by decide) (by omega) (by decide)
    have hne:Rat.divInt (wsum l) 1 ≠ 0:=fun e=>by
      have e2:Rat.divInt (wsum l) 1 = Rat.divInt 0 1:=e.trans rfl
      have:=(Rat.divInt_eq_divInt_iff (by decide) (by decide)).1 e2
      omega
    have hq:=(ht.div hwb hne).fq (by omega) (by omega)
    rw [iof (by decide) (Sm_of (by omega)) (Sm_of (by decide)),obind,exok,hs2,div_q (ht.fq (by omega) (by omega)) (hwb.fq (by decide) (by decide)) hne hq FU_big,obind]
    simp only
    rw [imust,obind,exok,obind,exok]
end Go.Proofs.YtfccehcnajelgaaGreatDoor
/- Plain laws: scores as numbers. No program in sight but the printed functions. -/
namespace Go.Proofs.YtfccehcnajelgaaGreatDoor
open Go
set_option maxRecDepth 8000
theorem d1_eq (a:Int):Rat.divInt a 1 = (a:Rat):=Rat.num_divInt_den (a:Rat)
theorem lsh_le1 {r:TRoll} {p:List Int} {k:Nat} {c:TInterest} (v:VC r p k c):lsh r p k c ≤ 1:=by
  obtain ⟨m1,_⟩:=most_le v
  have hp:=wt_pos v
  have h:=divInt_le (a:=mostL (wt r c.fo) (prt c.fo p k)) (c:=1) (d:=1) hp (by decide) (by omega)
  rw [d1_eq] at h
  exact h
theorem cast_nn {w:Int} (h:0 ≤ w):(0:Rat) ≤ (w:Rat):=Rat.intCast_le_intCast.2 h
theorem cast_pos {w:Int} (h:0 < w):(0:Rat) < (w:Rat):=Rat.intCast_lt_intCast.2 h
theorem slack {r:TRoll} {p:List Int} {k:Nat} {l:List TInterest} (hv:∀ c ∈ l,lsh r p k c ≤ 1) (hw:∀ c ∈ l,0 ≤ c.fE):∀ i,i ≤ l.length → scs r p k (l.take i) ≤ (wsum (l.take i):Rat)∧(scs r p k (l.take i) = (wsum (l.take i):Rat) ↔ ∀ c ∈ l.take i,0 < c.fE → lsh r p k c = 1)
  | 0,_=>by simp [scs,wsum]
  | i + 1,hi=>by
    obtain ⟨h1,h2⟩:=slack hv hw i (by omega)
    have hm:=List.getElem_mem (l:=l) (n:=i) (by omega)
    have hle:=hv _ hm
    have h0:=hw _ hm
    rw [List.take_succ_eq_append_getElem (by omega),scs_snoc,wsum_snoc,Rat.intCast_add]
    have e:sc r p k l[i] = (l[i].fE:Rat) * lsh r p k l[i]:=by unfold sc; rw [d1_eq]
    have hb:sc r p k l[i] ≤ (l[i].fE:Rat)∧(sc r p k l[i] = (l[i].fE:Rat) ↔ (0 < l[i].fE → lsh r p k l[i] = 1)):=by
      rw [e]
      by_cases hz:l[i].fE = 0
      · rw [hz]
        refine ⟨?_,?_⟩
        · show (0:Rat) * _ ≤ 0
          rw [Rat.zero_mul]; exact Rat.le_refl
        · show (0:Rat) * _ = 0 ↔ _
          rw [Rat.zero_mul]
          exact ⟨fun _ h=>absurd h (by omega),fun _=>rfl⟩
      · have hp:(0:Rat) < (l[i].fE:Rat):=cast_pos (by omega)
        generalize (l[i].fE:Rat) = w at *
        generalize lsh r p k l[i] = x at *
        have h3:=Rat.mul_le_mul_of_nonneg_left hle (Rat.le_of_lt hp)
        rw [Rat.mul_one] at h3
        refine ⟨h3,fun h4 _=>?_,fun h4=>?_⟩
        · have e2:w * (x - 1) = 0:=by grind
          rcases Rat.mul_eq_zero.1 e2 with h5 | h5 <;> grind
        · rw [h4 (by omega),Rat.mul_one]
    refine ⟨by grind,?_⟩
    have key:scs r p k (l.take i) + sc r p k l[i] = (wsum (l.take i):Rat) + (l[i].fE:Rat) ↔ scs r p k (l.take i) = (wsum (l.take i):Rat)∧sc r p k l[i] = (l[i].fE:Rat):=by
      have:=hb.1
      constructor
      · intro h; constructor <;> grind
      · rintro ⟨e1,e2⟩; rw [e1,e2]
    rw [key,h2,hb.2]
    constructor
    · rintro ⟨a,b⟩ c hc
      rcases List.mem_append.1 hc with hc | hc
      · exact a c hc
      · rw [List.mem_singleton.1 hc]; exact b
    · intro h
      exact ⟨fun c hc=>h c (List.mem_append_left _ hc),h _ (List.mem_append_right _ (List.mem_singleton_self _))⟩
theorem slack_all {r:TRoll} {p:List Int} {k:Nat} {l:List TInterest} (hv:∀ c ∈ l,lsh r p k c ≤ 1) (hw:∀ c ∈ l,0 ≤ c.fE):scs r p k l ≤ (wsum l:Rat)∧(scs r p k l = (wsum l:Rat) ↔ ∀ c ∈ l,0 < c.fE → lsh r p k c = 1):=by
  have:=slack hv hw l.length (Nat.le_refl _)
  rw [List.take_of_length_le (Nat.le_refl _)] at this
  exact this
theorem div_le1 {s:Rat} {W:Int} (hW:0 < W) (h:s ≤ (W:Rat)):s / Rat.divInt W 1 ≤ 1∧(s / Rat.divInt W 1 = 1 ↔ s = (W:Rat)):=by
  have hp:=cast_pos hW
  rw [d1_eq]
  generalize (W:Rat) = w at *
  have hne:w ≠ 0:=fun e=>by rw [e] at hp; exact absurd hp (Rat.not_lt.2 Rat.le_refl)
  have hs:s / w * w = s:=Rat.div_mul_cancel hne
  refine ⟨?_,fun h=>?_,fun h=>?_⟩
  · refine Rat.not_lt.1 fun hc=>?_
    have:=Rat.mul_lt_mul_of_pos_right hc hp
    rw [hs,Rat.one_mul] at this
    exact absurd this (Rat.not_lt.2 h)
  · rw [← hs,h,Rat.one_mul]
  · rw [h,Rat.div_def,Rat.mul_inv_cancel _ hne]
end Go.Proofs.YtfccehcnajelgaaGreatDoor
/- Plain laws: coarser plans, renamed plans, one district. No program in sight but the printed functions. -/
namespace Go.Proofs.YtfccehcnajelgaaGreatDoor
open Go
set_option maxRecDepth 8000
theorem sum_mono {f g:Nat → Int}:∀ l:List Nat,(∀ i ∈ l,f i ≤ g i) → (l.map f).sum ≤ (l.map g).sum
  | [],_=>by simp
  | x :: l,h=>by
    have h1:=h x (List.mem_cons_self ..)
    have h2:=sum_mono l fun i hi=>h i (List.mem_cons_of_mem _ hi)
    rw [List.map_cons,List.map_cons,List.sum_cons,List.sum_cons]; omega
theorem ws_mono {w:Nat → Int} (hw:∀ i,0 ≤ w i) {a b:UInt64} (h:∀ i,bit a i = true → bit b i = true):ws w a ≤ ws w b:=by
  have e:bitsL a = (bitsL b).filter (bit a ·):=by
    unfold bitsL
    rw [List.filter_filter]
    refine List.filter_congr fun i _=>?_
    cases ha:bit a i with
    | false=>rfl
    | true=>rw [h i ha]; rfl
  unfold ws
  rw [e,sum_filter]
  refine sum_mono _ fun i _=>?_
  have:=hw i
  split <;> omega
theorem most_iff {w:Nat → Int} {u:UInt64} {p:List Int} {k:Nat} {M:Int} (hM:0 ≤ M):mostL w (prt u p k) ≤ M ↔ ∀ d,d < k → ws w (pm u p (d:Int)) ≤ M:=by
  obtain ⟨h1,h2,h3⟩:=fold_max w (prt u p k) 0
  unfold mostL
  constructor
  · intro h d hd
    by_cases hz:pm u p (d:Int) = 0
    · rw [hz,ws_zero]; exact hM
    · have hm:pm u p (d:Int) ∈ prt u p k:=by
        unfold prt
        exact List.mem_filter.2 ⟨List.mem_map.2 ⟨d,List.mem_range.2 hd,rfl⟩,by simpa using hz⟩
      have:=h2 _ hm
      omega
  · intro h
    rcases h3 with h3 | ⟨m,hm,h3⟩
    · omega
    · obtain ⟨_,d,hd,rfl⟩:=prt_mem hm
      have:=h d hd
      omega
theorem coarse {w:Nat → Int} (hw:∀ i,0 ≤ w i) {u:UInt64} {p q:List Int} {k m:Nat} (h:∀ d,d < k → ∃ e,e < m∧∀ i:Nat,p[i]? = some (d:Int) → q[i]? = some ((e:Nat):Int)):mostL w (prt u p k) ≤ mostL w (prt u q m):=by
  have h0:0 ≤ mostL w (prt u q m):=(fold_max w (prt u q m) 0).1
  refine (most_iff h0).2 fun d hd=>?_
  obtain ⟨e,he,hi⟩:=h d hd
  refine Int.le_trans (ws_mono hw fun i hb=>?_) ((most_iff h0).1 (Int.le_refl _) e he)
  rw [bit_pm,Bool.and_eq_true,decide_eq_true_eq] at hb ⊢
  exact ⟨hb.1,hi i hb.2⟩
theorem lsh_mono {r:TRoll} {p q:List Int} {k m:Nat} {c:TInterest} (v:VC r p k c) (h:∀ d,d < k → ∃ e,e < m∧∀ i:Nat,p[i]? = some (d:Int) → q[i]? = some ((e:Nat):Int)):lsh r p k c ≤ lsh r q m c:=by
  have hp:=wt_pos v
  refine divInt_le hp hp (Int.mul_le_mul_of_nonneg_right (coarse (fun i=>(wt_ok v i).1) h) (Int.le_of_lt hp))
theorem scs_mono {r:TRoll} {p q:List Int} {k m:Nat} {l:List TInterest} (hw:∀ c ∈ l,0 ≤ c.fE) (h:∀ c ∈ l,lsh r p k c ≤ lsh r q m c):∀ i,i ≤ l.length → scs r p k (l.take i) ≤ scs r q m (l.take i)
  | 0,_=>by simp [scs]
  | i + 1,hi=>by
    have h1:=scs_mono hw h i (by omega)
    have hm:=List.getElem_mem (l:=l) (n:=i) (by omega)
    have h3:=Rat.mul_le_mul_of_nonneg_left (h _ hm) (cast_nn (hw _ hm))
    rw [List.take_succ_eq_append_getElem (by omega),scs_snoc,scs_snoc]
    unfold sc
    rw [d1_eq]
    grind
theorem scs_all {r:TRoll} {p q:List Int} {k m:Nat} {l:List TInterest} (hw:∀ c ∈ l,0 ≤ c.fE) (h:∀ c ∈ l,lsh r p k c ≤ lsh r q m c):scs r p k l ≤ scs r q m l:=by
  have:=scs_mono hw h l.length (Nat.le_refl _)
  rw [List.take_of_length_le (Nat.le_refl _)] at this
  exact this
theorem scs_congr {r:TRoll} {p q:List Int} {k m:Nat} {l:List TInterest} (hw:∀ c ∈ l,0 ≤ c.fE) (h:∀ c ∈ l,lsh r p k c = lsh r q m c):scs r p k l = scs r q m l:=
  Rat.le_antisymm (scs_all hw fun c hc=>by rw [h c hc]; exact Rat.le_refl) (scs_all hw fun c hc=>by rw [h c hc]; exact Rat.le_refl)
theorem divW_le {a b:Rat} {W:Int} (hW:0 < W) (h:a ≤ b):a / Rat.divInt W 1 ≤ b / Rat.divInt W 1:=by
  rw [d1_eq,Rat.div_def,Rat.div_def]
  exact Rat.mul_le_mul_of_nonneg_right h (Rat.le_of_lt (Rat.inv_pos.2 (cast_pos hW)))
/-! ### Plans -/
theorem plan_turn {p:List Int} {k:Int} (h:PlanOk p k) (hk:1 ≤ k) (t:Int):PlanOk (p.map fun x=>(x + t) % k) k:=by
  refine ⟨fun x hx=>?_,fun d h0 h1=>?_⟩
  · obtain ⟨y,_,rfl⟩:=List.mem_map.1 hx
    exact ⟨Int.emod_nonneg _ (by omega),Int.emod_lt_of_pos _ (by omega)⟩
  · refine List.mem_map.2 ⟨(d - t) % k,h.2 _ (Int.emod_nonneg _ (by omega)) (Int.emod_lt_of_pos _ (by omega)),?_⟩
    rw [Int.emod_add_emod,Int.sub_add_cancel,Int.emod_eq_of_lt h0 h1]
theorem plan_merge {p:List Int} {k:Int} (h:PlanOk p k) (hk:1 ≤ k):PlanOk (p.map fun x=>min x (max 0 (k - 2))) (max 1 (k - 1)):=by
  refine ⟨fun x hx=>?_,fun d h0 h1=>?_⟩
  · obtain ⟨y,hy,rfl⟩:=List.mem_map.1 hx
    have:=h.1 y hy
    omega
  · exact List.mem_map.2 ⟨d,h.2 d h0 (by omega),by omega⟩
theorem plan_one {n:Nat} (h:1 ≤ n):PlanOk (List.replicate n 0) 1:=by
  refine ⟨fun x hx=>?_,fun d h0 h1=>?_⟩
  · rw [(List.mem_replicate.1 hx).2]; exact ⟨Int.le_refl _,by decide⟩
  · exact List.mem_replicate.2 ⟨by omega,by omega⟩
theorem co_turn {p:List Int} {k:Nat} (hk:1 ≤ k) (t:Int) (d:Nat) (_:d < k):∃ e,e < k∧∀ i:Nat,p[i]? = some (d:Int) → (p.map fun x=>(x + t) % (k:Int))[i]? = some ((e:Nat):Int):=by
  have h0:=Int.emod_nonneg ((d:Int) + t) (b:=(k:Int)) (by omega)
  have h1:=Int.emod_lt_of_pos ((d:Int) + t) (b:=(k:Int)) (by omega)
  refine ⟨(((d:Int) + t) % (k:Int)).toNat,by omega,fun i hi=>?_⟩
  rw [List.getElem?_map,hi,Option.map_some,Int.toNat_of_nonneg h0]
theorem co_back {p:List Int} {k:Nat} (hp:∀ x ∈ p,0 ≤ x∧x < (k:Int)) (hk:1 ≤ k) (t:Int) (d:Nat) (_:d < k):∃ e,e < k∧∀ i:Nat,(p.map fun x=>(x + t) % (k:Int))[i]? = some (d:Int) → p[i]? = some ((e:Nat):Int):=by
  have h0:=Int.emod_nonneg ((d:Int) - t) (b:=(k:Int)) (by omega)
  have h1:=Int.emod_lt_of_pos ((d:Int) - t) (b:=(k:Int)) (by omega)
  refine ⟨(((d:Int) - t) % (k:Int)).toNat,by omega,fun i hi=>?_⟩
  rw [List.getElem?_map] at hi
  cases hx:p[i]? with
  | none=>rw [hx] at hi; cases hi
  | some x=>
    rw [hx,Option.map_some,Option.some.injEq] at hi
    have hr:=hp x (List.mem_of_getElem? hx)
    rw [Int.toNat_of_nonneg h0,← hi,Int.emod_sub_emod,Int.add_sub_cancel,Int.emod_eq_of_lt hr.1 hr.2]
theorem lsh_turn {r:TRoll} {p:List Int} {k:Nat} {c:TInterest} (v:VC r p k c) (hk:1 ≤ k) (t:Int) (v2:VC r (p.map fun x=>(x + t) % (k:Int)) k c):lsh r p k c = lsh r (p.map fun x=>(x + t) % (k:Int)) k c:=
  Rat.le_antisymm (lsh_mono v (co_turn hk t)) (lsh_mono v2 (co_back v.pk hk t))
theorem co_merge {p:List Int} {k m:Nat} (hk:1 ≤ k) (hm:(m:Int) = max 1 ((k:Int) - 1)) (d:Nat) (hd:d < k):∃ e,e < m∧∀ i:Nat,p[i]? = some (d:Int) → (p.map fun x=>min x (max 0 ((k:Int) - 2)))[i]? = some ((e:Nat):Int):=by
  refine ⟨(min (d:Int) (max 0 ((k:Int) - 2))).toNat,by omega,fun i hi=>?_⟩
  rw [List.getElem?_map,hi,Option.map_some,Int.toNat_of_nonneg (by omega)]
theorem lsh_one {r:TRoll} {n:Nat} {c:TInterest} (v:VC r (List.replicate n 0) 1 c):lsh r (List.replicate n 0) 1 c = 1:=by
  have hp:=wt_pos v
  have e:pm c.fo (List.replicate n 0) ((0:Nat):Int) = c.fo:=bit_ext fun i=>by
    rw [bit_pm]
    cases hb:bit c.fo i with
    | false=>rfl
    | true=>
      have:=v.ub i hb
      rw [List.length_replicate] at this
      rw [List.getElem?_replicate,if_pos this]; rfl
  have e2:prt c.fo (List.replicate n 0) 1 = [c.fo]:=by
    unfold prt
    rw [show List.range 1 = [0] from rfl,List.map_cons,List.map_nil,e,List.filter_cons_of_pos (by simpa using v.z),List.filter_nil]
  have e3:mostL (wt r c.fo) [c.fo] = ws (wt r c.fo) c.fo:=by
    show max 0 (ws (wt r c.fo) c.fo) = _
    omega
  unfold lsh
  rw [e2,e3]
  exact (((Rat.divInt_eq_divInt_iff (d₁:=ws (wt r c.fo) c.fo) (n₁:=ws (wt r c.fo) c.fo) (n₂:=1) (d₂:=1) (by omega) (by decide)).2 (by omega))).trans (d1_eq 1)
end Go.Proofs.YtfccehcnajelgaaGreatDoor
