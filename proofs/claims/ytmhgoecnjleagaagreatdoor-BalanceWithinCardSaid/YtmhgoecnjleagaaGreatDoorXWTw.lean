/- BalanceWithin: the plain law. No program in sight but the printed functions. -/
import Derived.Test.YtmhgoecnjleagaaGreatDoorXWRc
import Derived.Test.YtmhgoecnjleagaaGreatDoorXWRd
namespace Go.Proofs.YtmhgoecnjleagaaGreatDoor
open Go
theorem Off_ok (r:TRoll) (us:List TUnit) (hr:RollOk r us) (p:List Int) (k:Int) (hk:1 ≤ k) (hk8:k ≤ 8) (l:List Int) (e:balance_count_totals_p FU ⟨r,k⟩ p = some (.ok l)) (hl:(l.length:Int) = k) (h0:∀ x ∈ l,0 ≤ x∧x ≤ 2295) (hm:tot us ≠ 0 → ∀ x ∈ l,x ≤ tot us) :
    balance_Off_p FU r p k = if tot us = 0 then some ([],7) else some (offs (tot us) k l,0):=by
  have hb:=tot_bound hr us.length
  rw [List.take_length] at hb
  unfold balance_Off_p balance_Off_1_p
  rw [counted_ok r us hr k hk hk8,obind]
  unfold exc
  simp only
  rw [e,obind]
  simp only
  rw [people_ok r us hr k,obind]
  by_cases ha:tot us = 0
  · rw [if_pos ha,decide_eq_true ha]
    rfl
  · rw [if_neg ha,decide_eq_false ha,fail_no,obind]
    simp only
    rw [bof_ok _ _ (by omega) (by omega) (by omega),obind]
    simp only
    rw [off_loop l (tot us) k hk hk8 (by omega) (by omega) hl fun x hx=>⟨(h0 x hx).1,hm ha x hx⟩]
    rfl
theorem q_1sub (tn td:Int) (hd:td ≠ 0):Rat.divInt 1 1 - Rat.divInt tn td = Rat.divInt (td - tn) td:=by
  rw [Rat.sub_eq_add_neg,Rat.neg_divInt,Rat.divInt_add_divInt _ _ (by decide) hd]
  congr 1 <;> omega
theorem q_1add (tn td:Int) (hd:td ≠ 0):Rat.divInt 1 1 + Rat.divInt tn td = Rat.divInt (td + tn) td:=by
  rw [Rat.divInt_add_divInt _ _ (by decide) hd]
  congr 1 <;> omega
theorem mul_b {a b:Int} {A B:Nat} (ha:a.natAbs ≤ A) (hb:b.natAbs ≤ B):(a * b).natAbs ≤ A * B:=by
  rw [Int.natAbs_mul]; exact Nat.mul_le_mul ha hb
theorem neg_floor {X Y m:Int} (hY:0 < Y):-(-X / Y) ≤ m ↔ X ≤ m * Y:=by
  have:=Int.le_ediv_iff_mul_le (a:=-m) (b:=-X) hY
  rw [Int.neg_mul] at this
  omega
def Wi (all k mn mx tn td:Int):Prop:=(td - tn) * all ≤ mn * (td * k)∧mx * (td * k) ≤ (td + tn) * all
instance (all k mn mx tn td:Int):Decidable (Wi all k mn mx tn td):=by unfold Wi; infer_instance
theorem Within_ok (r:TRoll) (us:List TUnit) (hr:RollOk r us) (p:List Int) (k:Int) (hk:1 ≤ k) (hk8:k ≤ 8) (h:PlanOk p k) (hl:p.length = us.length) (mx mn:Int) (h1:mx ∈ tlO us p k∧∀ x ∈ tlO us p k,x ≤ mx) (h2:mn ∈ tlO us p k∧∀ x ∈ tlO us p k,mn ≤ x)
    (tn td:Int) (t0:0 ≤ tn∧tn ≤ 21000) (t1:0 < td∧td ≤ 21000):balance_Within_p FU r p k (Sh (Rat.divInt tn td)) = some (decide (Wi (tot us) k mn mx tn td),0):=by
  have hb:=tot_bound hr us.length
  rw [List.take_length] at hb
  have h0:0 < (tlO us p k).length:=by rw [tl_len]; omega
  obtain ⟨y1,e1,m1,g1,l1⟩:=great_ok (tlO us p k)[0] (tlO us p k) (by rw [tl_len]; omega)
  obtain ⟨y2,e2,m2,g2,l2⟩:=least_ok (tlO us p k)[0] (tlO us p k) (by rw [tl_len]; omega)
  have c1:y1 = mx:=by
    have:=l1 mx h1.1
    have:=h1.2 y1 (m1.elim (fun e=>e ▸ List.getElem_mem _) id)
    omega
  have c2:y2 = mn:=by
    have:=l2 mn h2.1
    have:=h2.2 y2 (m2.elim (fun e=>e ▸ List.getElem_mem _) id)
    omega
  subst c1 c2
  have st:SmQ (Rat.divInt tn td):=smq (by omega) (by omega) (by omega)
  have hk2:td * k ≠ 0:=Int.mul_ne_zero (by omega) (by omega)
  have tk:=mul_b (a:=td) (b:=k) (A:=21000) (B:=8) (by omega) (by omega)
  have ta:=mul_b (a:=td - tn) (b:=tot us) (A:=21000) (B:=2295) (by omega) (by omega)
  have tb:=mul_b (a:=td + tn) (b:=tot us) (A:=42000) (B:=2295) (by omega) (by omega)
  have si:SmQ (Rat.divInt (tot us) k):=smq (by omega) (by omega) (by omega)
  have s1:SmQ (Rat.divInt (td - tn) td):=smq (by omega) (by omega) (by omega)
  have s2:SmQ (Rat.divInt (td + tn) td):=smq (by omega) (by omega) (by omega)
  have s3:SmQ (Rat.divInt ((td - tn) * tot us) (td * k)):=smq hk2 (by omega) (by omega)
  have s4:SmQ (Rat.divInt ((td + tn) * tot us) (td * k)):=smq hk2 (by omega) (by omega)
  have so:SmQ (Rat.divInt 1 1):=smq (by decide) (by decide) (by decide)
  have tkp:0 < td * k:=Int.mul_pos (by omega) (by omega)
  have hn:¬ (Rat.divInt tn td).num.sign < 0:=by
    have:=Rat.num_nonneg.2 (Rat.divInt_nonneg t0.1 (by omega:0 ≤ td))
    have:=Int.sign_nonneg_iff.2 this
    omega
  unfold balance_Within_p balance_Within_1_p
  rw [counted_ok r us hr k hk hk8,obind]
  unfold exc
  simp only
  rw [totalsC_ok r us hr p k hk hk8 h hl,obind]
  simp only
  unfold balance_count_within_p
  rw [share_sign_ok _ st,obind]
  unfold balance_must_int_p balance_must_api_Share_p balance_must_api_Wide_p exc
  simp only [if_true,obind]
  rw [decide_eq_false hn,fail_no,obind]
  simp only
  rw [people_ok r us hr k,obind,bof_ok _ _ (by omega) (by omega) (by omega),obind]
  simp only
  rw [bof_ok 1 1 (by decide) (by decide) (by decide)]
  simp only [obind]
  rw [share_sub_ok FU _ _ so st FU_big,q_1sub _ _ (by omega)]
  simp only [obind,if_true]
  rw [share_mul_ok FU _ _ s1 si FU_big,Rat.divInt_mul_divInt]
  simp only [obind,if_true]
  rw [share_ceil_ok _ s3]
  simp only [obind,if_true]
  rw [Rat.neg_divInt,q_floor tkp,int_ok _ (by have:=Int.natAbs_ediv_le_natAbs (-((td - tn) * tot us)) (td * k); unfold Sm; omega)]
  simp only [obind,if_true]
  rw [share_add_ok FU _ _ so st FU_big,q_1add _ _ (by omega)]
  simp only [obind,if_true]
  rw [share_mul_ok FU _ _ s2 si FU_big,Rat.divInt_mul_divInt]
  simp only [obind,if_true]
  rw [share_floor_ok _ s4]
  simp only [obind,if_true]
  rw [q_floor tkp,int_ok _ (by have:=Int.natAbs_ediv_le_natAbs ((td + tn) * tot us) (td * k); unfold Sm; omega)]
  simp only [obind,if_true]
  rw [List.getElem?_eq_getElem h0,obind,e2,obind,e1]
  by_cases c:-(-((td - tn) * tot us) / (td * k)) ≤ y2
  · rw [if_pos c]
    show some (decide (y1 ≤ (td + tn) * tot us / (td * k)),(0:Int)) = _
    exact congrArg (fun b:Bool=>some (b,(0:Int))) (decide_eq_decide.2 ⟨fun h=>(⟨(neg_floor tkp).1 c,(Int.le_ediv_iff_mul_le tkp).1 h⟩:Wi (tot us) k y2 y1 tn td),fun h=>(Int.le_ediv_iff_mul_le tkp).2 h.2⟩)
  · rw [if_neg c]
    show some (false,(0:Int)) = _
    rw [decide_eq_false fun h:Wi (tot us) k y2 y1 tn td=>c ((neg_floor tkp).2 h.1)]
theorem qabs_div (y:Int) {all:Int} (h:0 < all):qabs (Rat.divInt y all) = Rat.divInt (y.natAbs:Int) all:=by
  unfold qabs
  rw [Rat.neg_divInt]
  by_cases hy:0 ≤ y
  · rw [if_pos ((q_le h h).2 (Int.mul_le_mul_of_nonneg_right (by omega) (by omega))),show (y.natAbs:Int) = y by omega]
  · have:=Int.mul_neg_of_neg_of_pos (by omega:y < 0) h
    rw [if_neg fun h2=>by have h3:=(q_le h h).1 h2; rw [Int.neg_mul] at h3; omega,show (y.natAbs:Int) = -y by omega]
theorem most_loop (l:List Int) (all k:Int) (hk:1 ≤ k) (hk8:k ≤ 8) (ha:0 < all) (ha2:all ≤ 2295) (h:∀ x ∈ l,0 ≤ x∧x ≤ all) (hl:l.length ≤ 1000) :
    ∃ u v m,loopF (wardmotelaw22_BalanceWithin_l1 FU (offs all k l,0)) FU (0,(Sh (Rat.divInt 0 1)).fN.1,(Sh (Rat.divInt 0 1)).fN.2.1,(Sh (Rat.divInt 0 1)).fN.2.2.1,(Sh (Rat.divInt 0 1)).fN.2.2.2.1,(Sh (Rat.divInt 0 1)).fN.2.2.2.2.1,(Sh (Rat.divInt 0 1)).fN.2.2.2.2.2.1,(Sh (Rat.divInt 0 1)).fN.2.2.2.2.2.2.1,(Sh (Rat.divInt 0 1)).fN.2.2.2.2.2.2.2,(Sh (Rat.divInt 0 1)).fD.1,(Sh (Rat.divInt 0 1)).fD.2.1,(Sh (Rat.divInt 0 1)).fD.2.2.1,(Sh (Rat.divInt 0 1)).fD.2.2.2.1,(Sh (Rat.divInt 0 1)).fD.2.2.2.2.1,(Sh (Rat.divInt 0 1)).fD.2.2.2.2.2.1,(Sh (Rat.divInt 0 1)).fD.2.2.2.2.2.2.1,(Sh (Rat.divInt 0 1)).fD.2.2.2.2.2.2.2) = some (.inr (u.1,u.2.1,u.2.2.1,u.2.2.2.1,u.2.2.2.2.1,u.2.2.2.2.2.1,u.2.2.2.2.2.2.1,u.2.2.2.2.2.2.2,v))∧(⟨u,v⟩:TShare) = Sh (Rat.divInt m all)∧0 ≤ m∧m ≤ 21000∧(∀ x ∈ l,((x * k - all).natAbs:Int) ≤ m)∧(m = 0 ∨ ∃ x ∈ l,m = ((x * k - all).natAbs:Int)):=by
  have hF:=FU_lt
  have hh:=loop_ok (B:=wardmotelaw22_BalanceWithin_l1 FU (offs all k l,0)) (fun s=>l.length - s.1)
    (fun s=>s.1 ≤ l.length∧∃ m,(⟨(s.2.1,s.2.2.1,s.2.2.2.1,s.2.2.2.2.1,s.2.2.2.2.2.1,s.2.2.2.2.2.2.1,s.2.2.2.2.2.2.2.1,s.2.2.2.2.2.2.2.2.1),s.2.2.2.2.2.2.2.2.2⟩:TShare) = Sh (Rat.divInt m all)∧0 ≤ m∧m ≤ 21000∧(∀ x ∈ l.take s.1,((x * k - all).natAbs:Int) ≤ m)∧(m = 0 ∨ ∃ x ∈ l,m = ((x * k - all).natAbs:Int)))
    (fun y=>∃ u v m,y = .inr (u.1,u.2.1,u.2.2.1,u.2.2.2.1,u.2.2.2.2.1,u.2.2.2.2.2.1,u.2.2.2.2.2.2.1,u.2.2.2.2.2.2.2,v)∧(⟨u,v⟩:TShare) = Sh (Rat.divInt m all)∧0 ≤ m∧m ≤ 21000∧(∀ x ∈ l,((x * k - all).natAbs:Int) ≤ m)∧(m = 0 ∨ ∃ x ∈ l,m = ((x * k - all).natAbs:Int))) ?_ FU
    (0,(Sh (Rat.divInt 0 1)).fN.1,(Sh (Rat.divInt 0 1)).fN.2.1,(Sh (Rat.divInt 0 1)).fN.2.2.1,(Sh (Rat.divInt 0 1)).fN.2.2.2.1,(Sh (Rat.divInt 0 1)).fN.2.2.2.2.1,(Sh (Rat.divInt 0 1)).fN.2.2.2.2.2.1,(Sh (Rat.divInt 0 1)).fN.2.2.2.2.2.2.1,(Sh (Rat.divInt 0 1)).fN.2.2.2.2.2.2.2,(Sh (Rat.divInt 0 1)).fD.1,(Sh (Rat.divInt 0 1)).fD.2.1,(Sh (Rat.divInt 0 1)).fD.2.2.1,(Sh (Rat.divInt 0 1)).fD.2.2.2.1,(Sh (Rat.divInt 0 1)).fD.2.2.2.2.1,(Sh (Rat.divInt 0 1)).fD.2.2.2.2.2.1,(Sh (Rat.divInt 0 1)).fD.2.2.2.2.2.2.1,(Sh (Rat.divInt 0 1)).fD.2.2.2.2.2.2.2) ⟨Nat.zero_le _,0,by rw [q_zero all (by omega)],by omega,by omega,by simp,.inl rfl⟩ (by simp only; omega)
  · obtain ⟨y,e,u,v,m,rfl,h1⟩:=hh; exact ⟨u,v,m,e,h1⟩
  · rintro ⟨i,u1,u2,u3,u4,u5,u6,u7,u8,v1,v2,v3,v4,v5,v6,v7,v8⟩ J ⟨a1,m,a2,a3,a4,a5,a6⟩ hJ
    simp only at a1 a2 a5 hJ
    unfold wardmotelaw22_BalanceWithin_l1
    simp only
    have lo:(offs all k l).length = l.length:=by unfold offs; rw [List.length_map]
    rw [lo]
    split
    · rename_i hi
      have hx:=h l[i] (List.getElem_mem _)
      have m1:=mulb (k:=k) (x:=l[i]) (by omega) hk8 hx.1 (by omega)
      rw [Int.mul_comm] at m1
      have eo:(offs all k l)[i]? = some (Sh (Rat.divInt (l[i] * k - all) all)):=by
        unfold offs
        rw [List.getElem?_map,List.getElem?_eq_getElem hi]; rfl
      have so:SmQ (Rat.divInt (l[i] * k - all) all):=smq (by omega) (by omega) (by omega)
      have sa:SmQ (Rat.divInt ((l[i] * k - all).natAbs:Int) all):=smq (by omega) (by omega) (by omega)
      have sm:SmQ (Rat.divInt m all):=smq (by omega) (by omega) (by omega)
      have tk:∀ x ∈ l.take (i + 1),x ∈ l.take i ∨ x = l[i]:=fun x hx=>by
        rw [List.take_succ_eq_append_getElem hi,List.mem_append,List.mem_singleton] at hx; exact hx
      rw [eo,obind,share_abs_ok _ so,obind,qabs_div _ ha]
      simp only [if_true]
      rw [a2,atMost_ok _ _ sm sa,obind]
      unfold jn
      simp only
      have hc:Rat.divInt m all ≤ Rat.divInt ((l[i] * k - all).natAbs:Int) all ↔ m ≤ ((l[i] * k - all).natAbs:Int):=(q_le ha ha).trans (Int.mul_le_mul_right ha)
      by_cases c:m ≤ ((l[i] * k - all).natAbs:Int)
      · rw [if_pos (decide_eq_true (hc.2 c))]
        refine hJ _ ⟨hi,((l[i] * k - all).natAbs:Int),rfl,by omega,by omega,fun x hx=>?_,.inr ⟨_,List.getElem_mem hi,rfl⟩⟩ (by simp only; omega)
        rcases tk x hx with hx | rfl
        · have:=a5 x hx; omega
        · omega
      · rw [if_neg (by rw [decide_eq_true_eq,hc]; exact c)]
        refine hJ _ ⟨hi,m,a2,a3,a4,fun x hx=>?_,a6⟩ (by simp only; omega)
        rcases tk x hx with hx | rfl
        · exact a5 x hx
        · omega
    · rw [List.take_of_length_le (by omega)] at a5
      exact ⟨_,rfl,(u1,u2,u3,u4,u5,u6,u7,u8),(v1,v2,v3,v4,v5,v6,v7,v8),m,rfl,a2,a3,a4,a5,a6⟩
def withinRest (r:TRoll) (p:List Int) (k:Int) (a2:TPart) (w:TShare):Option Bool:=
  (balance_Spread_p FU r p k).bind fun y318=>(wardmotelaw22_of_p FU (2:Int) (1:Int)).bind fun y332=>(share_Mul_p FU y332 w).bind fun y333=>(if y318.2 = 0 then (if y333.2 = 0 then (wardmotelaw22_atMost_p FU y318.1 y333.1).bind fun y346=>(if y346 = true then (wardmotelaw22_of_p FU (0:Int) (1:Int)).bind fun y348=>(wardmotelaw22_of_p FU (0:Int) (1:Int)).bind fun y358=>(balance_Within_p FU r p k y358).bind fun y359=>(wardmotelaw22_truth_1_p FU y359.1 y359.2 (decide (w = y348))).bind fun y363=>(if y363 = true then (wardmoteref22_Part_Unit_p FU a2).bind fun y365=>(wardmotelaw22_atMost_p FU w y365).bind fun y366=>(wardmoteref22_Part_Unit_p FU a2).bind fun y376=>(balance_Within_p FU r p k y376).bind fun y377=>(wardmotelaw22_truth_1_p FU y377.1 y377.2 y366).bind fun y381=>(if y381 = true then (balance_Within_p FU r p k w).bind fun y392=>(wardmotelaw22_truth_1_p FU y392.1 y392.2 true).bind fun y396=>some y396 else some false) else some false) else some false) else some false) else some false)
theorem part_ok (a:TPart):∃ n d:Int,wardmoteref22_Part_Unit_p FU a = some (Sh (Rat.divInt n d))∧(0 ≤ n∧n ≤ 256)∧(0 < d∧d ≤ 256):=by
  have hd:=a.fD.toNat_lt
  have key:∀ z:Int,0 ≤ z → ∃ n d:Int,((remI z ((a.fD.toNat + 2:Nat):Int)).bind fun s32=>(wardmoteref22_Of_p FU s32 ((1 + a.fD.toNat:Nat):Int)).bind fun y34=>some y34) = some (Sh (Rat.divInt n d))∧(0 ≤ n∧n ≤ 256)∧(0 < d∧d ≤ 256):=fun z hz=>by
    have m0:=Int.emod_nonneg z (b:=((a.fD.toNat + 2:Nat):Int)) (by omega)
    have m1:=Int.emod_lt_of_pos z (b:=((a.fD.toNat + 2:Nat):Int)) (by omega)
    refine ⟨z % ((a.fD.toNat + 2:Nat):Int),((1 + a.fD.toNat:Nat):Int),?_,by omega,by omega⟩
    rw [remI_ok (by omega),obind,Int.tmod_eq_emod_of_nonneg hz,refOf_ok FU _ _ (by unfold Sm; omega) (by unfold Sm; omega) (by omega) m0 FU_big,obind]
  unfold wardmoteref22_Part_Unit_p jn
  simp only
  split
  · exact key _ (by omega)
  · exact key _ (by omega)
theorem wi_zero {k mn mx:Int} (tn td:Int) (h1:mn = 0) (h2:mx = 0):Wi 0 k mn mx tn td:=by
  subst h1 h2
  unfold Wi
  simp
theorem wi_iff {all k mn mx M tn td:Int} (hd:0 < td) (h:∀ x,x = mn ∨ x = mx → ((x * k - all).natAbs:Int) ≤ M) (hM:M = ((mn * k - all).natAbs:Int) ∨ M = ((mx * k - all).natAbs:Int)) (h3:mn * k ≤ all) (h4:all ≤ mx * k):Wi all k mn mx tn td ↔ M * td ≤ tn * all:=by
  have h1:=h mn (.inl rfl)
  have h2:=h mx (.inr rfl)
  have e1:mn * (td * k) = (mn * k) * td:=by grind
  have e2:mx * (td * k) = (mx * k) * td:=by grind
  have e3:(td - tn) * all = all * td - tn * all:=by grind
  have e4:(td + tn) * all = all * td + tn * all:=by grind
  unfold Wi
  rw [e1,e2,e3,e4]
  have g1:=Int.mul_le_mul_of_nonneg_right (show all - mn * k ≤ M by omega) (Int.le_of_lt hd)
  have g2:=Int.mul_le_mul_of_nonneg_right (show mx * k - all ≤ M by omega) (Int.le_of_lt hd)
  rw [Int.sub_mul] at g1 g2
  constructor
  · rintro ⟨w1,w2⟩
    have:M = all - mn * k ∨ M = mx * k - all:=by omega
    rcases this with e | e
    · rw [e,Int.sub_mul]; omega
    · rw [e,Int.sub_mul]; omega
  · intro w
    exact ⟨by omega,by omega⟩
theorem sum_bounds {l:List Int} {mn mx:Int} (h1:∀ x ∈ l,mn ≤ x) (h2:∀ x ∈ l,x ≤ mx):mn * l.length ≤ l.sum∧l.sum ≤ mx * l.length:=by
  induction l with
  | nil=>simp
  | cons a l ih=>
    have a1:=h1 a (List.mem_cons_self ..)
    have a2:=h2 a (List.mem_cons_self ..)
    obtain ⟨i1,i2⟩:=ih (fun x hx=>h1 x (List.mem_cons_of_mem _ hx)) fun x hx=>h2 x (List.mem_cons_of_mem _ hx)
    simp only [List.sum_cons,List.length_cons,Int.natCast_add,Int.mul_add]
    omega
theorem balanceWithin_ex (a0:TDraft) (a1:TDraft26) (a2:TPart):∃ n,wardmotelaw22_BalanceWithin_p n a0 a1 a2 = some true:=by
  refine ⟨FU,?_⟩
  have hF:=FU_lt
  obtain ⟨p,k,e1,p1,p2,pk,k1,k8⟩:=loose_ok FU a0 (by omega)
  obtain ⟨r,us,e2,u1,hr⟩:=roll_ok FU a1 p.length p1 p2 (by omega)
  obtain ⟨l,et,eT,l1,l2,l3⟩:=Totals_ok r us hr p k k1 k8 pk u1.symm
  have etl:l = tlO us p k:=by
    have:=totalsC_ok r us hr p k k1 k8 pk u1.symm
    rw [et] at this
    exact Except.ok.inj (Option.some.inj this)
  subst etl
  have hb:=tot_bound hr us.length
  rw [List.take_length] at hb
  have hm:=(le_sum l2).2
  rw [l3] at hm
  have hne:tlO us p k ≠ []:=fun e=>by have:=congrArg List.length e; rw [tl_len,List.length_nil] at this; omega
  obtain ⟨mx,x1,x2⟩:=max_of _ hne
  obtain ⟨mn,n1,n2⟩:=min_of _ hne
  obtain ⟨tn,td,ep,t0,t1⟩:=part_ok a2
  have W:=fun tn td t0 t1=>Within_ok r us hr p k k1 k8 pk u1.symm mx mn ⟨x1,x2⟩ ⟨n1,n2⟩ tn td t0 t1
  have hmn:0 ≤ mn:=l2 mn n1
  have hmx:mx ≤ tot us:=hm mx x1
  have hmm:mn ≤ mx:=n2 mx x1
  have sb:=sum_bounds n2 x2
  rw [l1,l3] at sb
  unfold wardmotelaw22_BalanceWithin_p
  rw [works_ok,obind,if_pos rfl,e1,obind,e2,obind]
  simp only
  rw [Off_ok r us hr p k k1 k8 _ et l1 (fun x hx=>⟨l2 x hx,by have:=hm x hx; omega⟩) fun _=>hm]
  by_cases ha:tot us = 0
  · rw [if_pos ha,obind]
    simp only
    rw [if_neg (by decide)]
    rw [ep]
    simp only [if_true,obind]
    rw [W tn td (by omega) (by omega),obind,ha,decide_eq_true (wi_zero tn td (by omega) (by omega))]
    rfl
  · have hall:0 < tot us:=by omega
    rw [if_neg ha,obind]
    simp only [if_true]
    rw [lof_ok _ _ (by decide) (by decide) (by decide),obind]
    obtain ⟨u,v,M,e3,e4,m0,m1,m2,m3⟩:=most_loop (tlO us p k) (tot us) k k1 k8 hall (by omega) (fun x hx=>⟨l2 x hx,hm x hx⟩) (by omega)
    rw [e3]
    show withinRest r p k a2 ⟨u,v⟩ = some true
    rw [e4]
    have hM:M = ((mn * k - tot us).natAbs:Int) ∨ M = ((mx * k - tot us).natAbs:Int):=by
      have q1:=m2 mn n1
      have q2:=m2 mx x1
      rcases m3 with rfl | ⟨x,hx,rfl⟩
      · exact .inl (by omega)
      · have y1:=Int.mul_le_mul_of_nonneg_right (n2 x hx) (show 0 ≤ k by omega)
        have y2:=Int.mul_le_mul_of_nonneg_right (x2 x hx) (show 0 ≤ k by omega)
        omega
    have wi:∀ tn td:Int,0 < td → (Wi (tot us) k mn mx tn td ↔ M * td ≤ tn * tot us):=fun tn td hd=>wi_iff hd (fun x hx=>by rcases hx with rfl | rfl; exact m2 _ n1; exact m2 _ x1) hM sb.1 sb.2
    have sm:SmQ (Rat.divInt M (tot us)):=smq ha (by omega) (by omega)
    have sz:SmQ (Rat.divInt 0 1):=smq (by decide) (by decide) (by decide)
    have sp:SmQ (Rat.divInt tn td):=smq (by omega) (by omega) (by omega)
    have mk:=mul_b (a:=mx - mn) (b:=k) (A:=2295) (B:=8) (by omega) (by omega)
    have ss:SmQ (Rat.divInt ((mx - mn) * k) (tot us)):=smq ha (by omega) (by omega)
    have s2:SmQ (Rat.divInt (2 * M) (1 * tot us)):=smq (by omega) (by omega) (by omega)
    have q1:=m2 mn n1
    have q2:=m2 mx x1
    unfold withinRest
    rw [Spread_ok r us hr p k k1 k8 pk u1.symm mx mn ⟨x1,x2⟩ ⟨n1,n2⟩,if_neg ha,obind,lof_ok 2 1 (by decide) (by decide) (by decide),obind,share_mul_ok FU _ _ (smq (by decide) (by decide) (by decide)) sm FU_big,Rat.divInt_mul_divInt,obind]
    simp only [if_true]
    rw [atMost_ok _ _ ss s2,obind,if_pos (decide_eq_true ((q_le hall (by omega)).2 (by
      rw [Int.one_mul]
      refine Int.mul_le_mul_of_nonneg_right ?_ (by omega)
      rw [Int.sub_mul]; omega)))]
    rw [lof_ok 0 1 (by decide) (by decide) (by decide)]
    simp only [obind]
    rw [W 0 1 (by omega) (by omega),obind]
    unfold wardmotelaw22_truth_1_p
    simp only [if_true]
    have t1e:(decide (Wi (tot us) k mn mx 0 1) == decide (Sh (Rat.divInt M (tot us)) = Sh (Rat.divInt 0 1))) = true:=by
      rw [beq_iff_eq,decide_eq_decide,wi 0 1 (by decide),Int.zero_mul,Int.mul_one]
      constructor
      · intro h
        rw [show M = 0 by omega,q_zero _ ha]
      · intro h
        have:=(q_eq hall (by decide)).1 (Sh_inj sm sz h)
        omega
    rw [t1e]
    simp only [if_true,decide_true,obind]
    rw [ep,obind,atMost_ok _ _ sm sp]
    simp only [obind]
    rw [W tn td (by omega) (by omega),obind]
    have t2e:(decide (Wi (tot us) k mn mx tn td) == decide (Rat.divInt M (tot us) ≤ Rat.divInt tn td)) = true:=by
      rw [beq_iff_eq,decide_eq_decide,wi tn td t1.1,q_le hall t1.1]
    simp only [t2e,if_true,decide_true]
    rw [W M (tot us) (by omega) (by omega),obind,decide_eq_true ((wi M (tot us) hall).2 (Int.le_refl _))]
    rfl
end Go.Proofs.YtmhgoecnjleagaaGreatDoor
