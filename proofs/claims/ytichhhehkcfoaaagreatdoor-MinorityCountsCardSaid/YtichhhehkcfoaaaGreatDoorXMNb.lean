/- Plain laws: the parts of a group in districts, shares, majorities. No program in sight but the printed functions. -/
import Derived.Test.YtichhhehkcfoaaaGreatDoorXMNa
namespace Go.Proofs.YtichhhehkcfoaaaGreatDoor
open Go
def gu (us:List TUnit) (g:Nat):List TUnit:=us.map fun u=>{ u with fA:=u.fj[g]?.getD 0 }
theorem gu_take (us:List TUnit) (g i:Nat):(gu us g).take i = gu (us.take i) g:=by unfold gu; rw [List.map_take]
theorem gu_len (us:List TUnit) (g:Nat):(gu us g).length = us.length:=by unfold gu; rw [List.length_map]
theorem gu_get (us:List TUnit) (g:Nat) {i:Nat} (h:i < us.length):((gu us g)[i]'(by rw [gu_len]; exact h)).fA = us[i].fj[g]?.getD 0:=by unfold gu; rw [List.getElem_map]
theorem peo_gu {us:List TUnit} {g:Nat} (h:∀ u ∈ us,0 ≤ u.fj[g]?.getD 0∧u.fj[g]?.getD 0 ≤ u.fA) (p:List Int) (d:Int):0 ≤ peo (gu us g) p d∧peo (gu us g) p d ≤ peo us p d:=by
  induction us generalizing p with
  | nil=>cases p <;> simp [gu,peo]
  | cons u us ih=>
    cases p with
    | nil=>simp [gu,peo]
    | cons x p=>
      have h1:=h u (List.mem_cons_self ..)
      have h2:=ih (fun y hy=>h y (List.mem_cons_of_mem _ hy)) p
      unfold gu at h2 ⊢
      simp only [List.map_cons,peo]
      split <;> omega
structure GrpOk (r:TRoll) (us:List TUnit) (g:Nat):Prop where
  at_:(g:Int) < r.fj
  unit:∀ u ∈ us,0 ≤ u.fj[g]?.getD 0∧u.fj[g]?.getD 0 ≤ u.fA
  get:∀ u ∈ us,u.fj[g]? = some (u.fj[g]?.getD 0)
theorem grp_ok {r:TRoll} {us:List TUnit} (h:RollOk r us) {g:Nat} (hg:(g:Int) < r.fj):GrpOk r us g:=by
  have key:∀ u ∈ us,∃ h:g < u.fj.length,0 ≤ u.fj[g]∧u.fj[g] ≤ u.fA:=fun u hu=>by
    obtain ⟨i,hi,rfl⟩:=List.getElem_of_mem hu
    have h1:=(h.land i hi).2.2.2.1
    have h2:g < us[i].fj.length:=by omega
    exact ⟨h2,h1.2 _ (List.getElem_mem h2)⟩
  refine ⟨hg,fun u hu=>?_,fun u hu=>?_⟩
  · obtain ⟨h1,h2⟩:=key u hu
    rw [List.getElem?_eq_getElem h1]; exact h2
  · obtain ⟨h1,_⟩:=key u hu
    rw [List.getElem?_eq_getElem h1]; rfl
def gp (f:Nat → Int) (a:Nat → Int) (k:Int):List Tpart:=(List.range k.toNat).map fun d:Nat=>⟨f d,a d⟩
theorem gp_len (f a:Nat → Int) (k:Int):(gp f a k).length = k.toNat:=by simp [gp]
theorem gp_get (f a:Nat → Int) (k:Int) {d:Nat} (h:d < k.toNat):(gp f a k)[d]? = some ⟨f d,a d⟩:=by
  unfold gp
  rw [List.getElem?_map,List.getElem?_range h]; rfl
theorem gp_set (f a f' a' : Nat → Int) (k:Int) {i:Nat} (h:∀ d,d ≠ i → f' d = f d∧a' d = a d):(gp f a k).set i ⟨f' i,a' i⟩ = gp f' a' k:=by
  apply List.ext_getElem?
  intro d
  by_cases hd:d < k.toNat
  · rw [gp_get f' a' k hd]
    by_cases e:i = d
    · subst e; rw [List.getElem?_set_self (by rw [gp_len]; exact hd)]
    · rw [List.getElem?_set_ne e,gp_get f a k hd,(h d (Ne.symm e)).1,(h d (Ne.symm e)).2]
  · rw [List.getElem?_eq_none (by rw [List.length_set,gp_len]; omega),List.getElem?_eq_none (by rw [gp_len]; omega)]
theorem grouped_ok (r:TRoll) (us:List TUnit) (hr:RollOk r us) (p:List Int) (k:Int) (hk:1 ≤ k) (hk8:k ≤ 8) (h:PlanOk p k) (hl:p.length = us.length) (g:Nat) (hg:GrpOk r us g) :
    minority_grouped_p FU r p k g = some (.ok (gp (fun d=>peo (gu us g) p d) (fun d=>peo us p d) k)):=by
  have hF:=FU_lt
  have hlen:=hr.len
  have hsz:=hr.size
  have l2:=loop_ok (B:=minority_grouped_l2 FU (tlO us p k)) (fun s:Nat × List Tpart=>(tlO us p k).length - s.1) (fun s=>s.1 ≤ k.toNat∧s.2 = gp (fun _=>0) (fun d=>if d < s.1 then peo us p d else 0) k) (fun y=>y = gp (fun _=>0) (fun d=>peo us p d) k) ?_ FU (0,List.replicate k.toNat ⟨0,0⟩) ⟨Nat.zero_le _,?_⟩ (by simp only; rw [tl_len]; omega)
  · have l1:=loop_ok (B:=minority_grouped_l1 FU p r g) (fun s:Nat × List Tpart=>p.length - s.1) (fun s=>s.1 ≤ p.length∧s.2 = gp (fun d=>peo (gu (us.take s.1) g) p d) (fun d=>peo us p d) k) (fun y=>y = gp (fun d=>peo (gu us g) p d) (fun d=>peo us p d) k) ?_ FU (0,gp (fun _=>0) (fun d=>peo us p d) k) ⟨Nat.zero_le _,?_⟩ (by simp only; omega)
    · obtain ⟨y2,e2,rfl⟩:=l2
      obtain ⟨y1,e1,rfl⟩:=l1
      have hat:=hg.at_
      unfold minority_grouped_p minority_must_list_int_p exc
      rw [totalsP_ok r us hr p k hk hk8 h hl,obind]
      simp only [if_true,obind]
      rw [if_neg (by omega),if_neg (by omega),show mk k (⟨0,0⟩:Tpart) = some (List.replicate k.toNat ⟨0,0⟩) from if_pos ⟨by omega,by omega⟩,obind,e2,obind,e1,obind]
    · rintro ⟨i,xs⟩ J ⟨a1,a2⟩ hJ
      simp only at a1 a2 hJ
      unfold minority_grouped_l1
      simp only
      split
      · rename_i hi
        have hiu:i < us.length:=by omega
        have hx:=h.1 p[i] (List.getElem_mem _)
        have hur:r.fu[i]? = some us[i]:=by
          rw [List.getElem?_eq_getElem (by omega)]
          rcases hr.unit (show i < r.fu.length by omega) with ⟨h2,e⟩ | ⟨h2,e⟩
          · rw [e]
          · omega
        have hgu:=hg.unit us[i] (List.getElem_mem hiu)
        have hgg:=hg.get us[i] (List.getElem_mem hiu)
        have hb:=hr.ppl us.length p p[i]
        rw [List.take_length] at hb
        have hb1:=hr.ppl i p p[i]
        have hpi:=hr.people us[i] (List.getElem_mem hiu)
        have hbi:=peo_gu (us:=us.take i) (g:=g) (fun u hu=>hg.unit u (List.mem_of_mem_take hu)) p p[i]
        have hxk:p[i].toNat < k.toNat:=by omega
        have hidx:idx xs p[i] = some ⟨peo (gu (us.take i) g) p p[i],peo us p p[i]⟩:=by
          unfold idx
          rw [if_pos hx.1,a2,gp_get _ _ _ hxk]
          simp only [show ((p[i].toNat:Nat):Int) = p[i] by omega]
        have hig:idx us[i].fj (g:Int) = some (us[i].fj[g]?.getD 0):=by
          unfold idx
          rw [if_pos (by omega),Int.toNat_natCast,hgg]; rfl
        rw [List.getElem?_eq_getElem hi,obind,hidx,obind,hur,obind,hig,obind,chkI (by simp only; omega) (by simp only; omega),obind,put_ok _ (by rw [a2,gp_len]; exact hxk),obind]
        refine hJ _ ⟨hi,?_⟩ (by simp only; omega)
        simp only
        have hst:=fun d:Int=>peo_take (us:=gu us g) (p:=p) (i:=i) (by rw [gu_len]; exact hiu) hi d
        simp only [gu_take,gu_get us g hiu] at hst
        rw [a2]
        have:=gp_set (fun d=>peo (gu (us.take i) g) p d) (fun d=>peo us p d) (fun d=>peo (gu (us.take (i + 1)) g) p d) (fun d=>peo us p d) k (i:=p[i].toNat) (fun d hd=>⟨by rw [hst,if_neg (by omega)]; omega,rfl⟩)
        rw [← this]
        congr 2
        · rw [hst,if_pos (by omega),show ((p[i].toNat:Nat):Int) = p[i] by omega]
        · simp only [show ((p[i].toNat:Nat):Int) = p[i] by omega]
      · refine ⟨_,rfl,?_⟩
        rw [a2,List.take_of_length_le (by omega)]
    · simp only [List.take_zero]
      unfold gp
      congr 1
  · rintro ⟨i,xs⟩ J ⟨a1,a2⟩ hJ
    simp only at a1 a2 hJ
    unfold minority_grouped_l2
    simp only
    split
    · rename_i hi
      have hik:i < k.toNat:=by rw [tl_len] at hi; exact hi
      rw [List.getElem?_eq_getElem hi,obind,a2,gp_get _ _ _ hik,obind,put_ok _ (by rw [gp_len]; exact hik),obind]
      refine hJ _ ⟨hik,?_⟩ (by simp only; omega)
      simp only [tl_get]
      have:=gp_set (fun _=>0) (fun d=>if d < i then peo us p d else 0) (fun _=>0) (fun d=>if d < i + 1 then peo us p d else 0) k (i:=i) (fun d hd=>⟨rfl,by
        by_cases h1:d < i
        · rw [if_pos h1,if_pos (by omega)]
        · rw [if_neg h1,if_neg (by omega)]⟩)
      rw [← this]
      congr 2
      rw [if_pos (by omega)]
    · refine ⟨_,rfl,?_⟩
      rw [tl_len] at *
      rw [a2]
      unfold gp
      apply List.map_congr_left
      intro d hd
      have:=List.mem_range.1 hd
      simp only
      rw [if_pos (by omega)]
  · apply List.ext_getElem?
    intro d
    by_cases hd:d < k.toNat
    · rw [gp_get _ _ _ hd,List.getElem?_replicate,if_pos hd]
      simp
    · rw [List.getElem?_eq_none (by simpa using hd),List.getElem?_eq_none (by rw [gp_len]; omega)]
def shr (g a:Int):Rat:=if a = 0 then Rat.divInt 0 1 else Rat.divInt g a
theorem mof_ok (a b:Int) (h0:b ≠ 0) (ha:a.natAbs < 2147483648) (hb:b.natAbs < 2147483648):minority_of_p FU a b = some (.ok (Sh (Rat.divInt a b))):=by
  unfold minority_of_p
  rw [share_of_ok FU a b (by unfold Sm; omega) (by unfold Sm; omega) h0 FU_big,obind]
  rfl
theorem pshare_ok (x:Tpart) (h:0 ≤ x.fF∧x.fF ≤ x.fall∧x.fall ≤ 2295):minority_part_share_p FU x = some (.ok (Sh (shr x.fF x.fall))):=by
  unfold minority_part_share_p shr
  split
  · rw [mof_ok 0 1 (by decide) (by decide) (by decide),obind]; rfl
  · rename_i h0
    rw [mof_ok _ _ h0 (by omega) (by omega),obind]; rfl
theorem shr_sm {g a:Int} (h:0 ≤ g∧g ≤ a∧a ≤ 2295):SmQ (shr g a):=by
  unfold shr
  split
  · exact smq (by decide) (by decide) (by decide)
  · rename_i h0; exact smq h0 (by omega) (by omega)
theorem shr_01 {g a:Int} (h:0 ≤ g∧g ≤ a∧a ≤ 2295):Rat.divInt 0 1 ≤ shr g a∧shr g a ≤ Rat.divInt 1 1:=by
  unfold shr
  split
  · exact ⟨(q_le (by decide) (by decide)).2 (by decide),(q_le (by decide) (by decide)).2 (by decide)⟩
  · rename_i h0
    exact ⟨(q_le (by decide) (by omega)).2 (by omega),(q_le (by omega) (by decide)).2 (by omega)⟩
theorem shr_mul {g a:Int} (h:0 ≤ g∧g ≤ a∧a ≤ 2295):shr g a * Rat.divInt a 1 = Rat.divInt g 1:=by
  unfold shr
  split
  · rename_i h0
    subst h0
    rw [Rat.divInt_mul_divInt,show g = 0 by omega]
    rfl
  · rename_i h0
    rw [Rat.divInt_mul_divInt,Int.mul_one,← Int.one_mul a,← Int.mul_assoc,Int.mul_one,Rat.divInt_mul_right (by omega:a ≠ 0)]
def PartsOk (l:List Tpart):Prop:=∀ x ∈ l,0 ≤ x.fF∧x.fF ≤ x.fall∧x.fall ≤ 2295
theorem gp_parts {r:TRoll} {us:List TUnit} (hr:RollOk r us) {g:Nat} (hg:GrpOk r us g) (p:List Int) (k:Int):PartsOk (gp (fun d=>peo (gu us g) p d) (fun d=>peo us p d) k):=fun x hx=>by
  obtain ⟨d,_,rfl⟩:=List.mem_map.1 hx
  have h1:=peo_gu hg.unit p d
  have h2:=hr.ppl us.length p d
  rw [List.take_length] at h2
  exact ⟨h1.1,h1.2,h2.2⟩
def shs (l:List Tpart):List TShare:=l.map fun x=>Sh (shr x.fF x.fall)
theorem shares_loop (l:List Tpart) (h:PartsOk l) (hl:l.length ≤ 1000):loopF (minority_Shares_1_l1 FU l) FU (0,[]) = some (.inr (shs l)):=by
  have hF:=FU_lt
  have hh:=loop_ok (B:=minority_Shares_1_l1 FU l) (fun s:Nat × List TShare=>l.length - s.1) (fun s=>s.1 ≤ l.length∧s.2 = shs (l.take s.1)) (fun y=>y = .inr (shs l)) ?_ FU (0,[]) ⟨Nat.zero_le _,by simp [shs]⟩ (by simp only; omega)
  · obtain ⟨y,e,rfl⟩:=hh; exact e
  · rintro ⟨i,xs⟩ J ⟨a1,a2⟩ hJ
    simp only at a1 a2 hJ
    unfold minority_Shares_1_l1 exc
    simp only
    split
    · rename_i hi
      rw [List.getElem?_eq_getElem hi,obind,pshare_ok _ (h _ (List.getElem_mem hi)),obind]
      simp only
      rw [appS _ _ (by rw [a2]; unfold shs; simp only [List.length_map,List.length_take,List.length_cons,List.length_nil]; omega),obind]
      refine hJ _ ⟨hi,?_⟩ (by simp only; omega)
      simp only
      rw [a2,List.take_succ_eq_append_getElem hi]
      unfold shs
      rw [List.map_append]; rfl
    · exact ⟨_,rfl,by rw [a2,List.take_of_length_le (by omega)]⟩
theorem major_loop (l:List Tpart) (h:PartsOk l) (hl:l.length ≤ 1000) (t:Rat) (ht:SmQ t):∃ xs,loopF (minority_Majority_1_l1 FU l (Sh t)) FU (0,[]) = some (.inr xs)∧xs.Pairwise (· < ·)∧xs.length ≤ l.length∧∀ j,j ∈ xs ↔ ∃ (d:Nat) (hd:d < l.length),j = d∧¬ shr l[d].fF l[d].fall ≤ t:=by
  have hF:=FU_lt
  have hh:=loop_ok (B:=minority_Majority_1_l1 FU l (Sh t)) (fun s:Nat × List Int=>l.length - s.1) (fun s=>s.1 ≤ l.length∧s.2.Pairwise (· < ·)∧s.2.length ≤ s.1∧∀ j,j ∈ s.2 ↔ ∃ (d:Nat) (hd:d < l.length),d < s.1∧j = d∧¬ shr l[d].fF l[d].fall ≤ t)
    (fun y=>∃ xs,y = .inr xs∧xs.Pairwise (· < ·)∧xs.length ≤ l.length∧∀ j,j ∈ xs ↔ ∃ (d:Nat) (hd:d < l.length),j = d∧¬ shr l[d].fF l[d].fall ≤ t) ?_ FU (0,[]) ⟨Nat.zero_le _,by simp,by simp,by simp⟩ (by simp only; omega)
  · obtain ⟨y,e,xs,rfl,h1⟩:=hh; exact ⟨xs,e,h1⟩
  · rintro ⟨i,xs⟩ J ⟨a1,a2,a3,a4⟩ hJ
    simp only at a1 a2 a3 a4 hJ
    unfold minority_Majority_1_l1
    simp only
    split
    · rename_i hi
      have hp:=h _ (List.getElem_mem hi)
      have e:minority_Majority_1_1_p FU l[i] (Sh t) = some (.ok (decide (¬ shr l[i].fF l[i].fall ≤ t))):=by
        unfold minority_Majority_1_1_p minority_must_int_p exc
        rw [pshare_ok _ hp,obind]
        simp only
        rw [share_cmp_ok _ _ (shr_sm hp) ht,obind]
        simp only [if_true,obind]
        refine congrArg (fun b:Bool=>some (Except.ok b)) (decide_eq_decide.2 ?_)
        rw [← sign_le]; omega
      rw [List.getElem?_eq_getElem hi,obind,e,obind]
      unfold exc
      simp only
      by_cases c:shr l[i].fF l[i].fall ≤ t
      · rw [decide_eq_false (by simpa using c),if_neg (by decide)]
        refine hJ _ ⟨hi,a2,by simp only; omega,fun j=>(a4 j).trans ⟨fun ⟨d,hd,h1,h2⟩=>⟨d,hd,by simp only; omega,h2⟩,fun ⟨d,hd,h1,h2,h3⟩=>?_⟩⟩ (by simp only; omega)
        simp only at h1
        by_cases hdi:d = i
        · subst hdi; exact absurd c h3
        · exact ⟨d,hd,by omega,h2,h3⟩
      · rw [decide_eq_true c,if_pos rfl,appS _ _ (by simp only [List.length_cons,List.length_nil]; omega),obind]
        refine hJ _ ⟨hi,?_,by simp only [List.length_append,List.length_cons,List.length_nil]; omega,fun j=>?_⟩ (by simp only; omega)
        · simp only
          rw [List.pairwise_append]
          refine ⟨a2,by simp,fun x hx y hy=>?_⟩
          obtain ⟨d,_,h1,rfl,_⟩:=(a4 x).1 hx
          rw [List.mem_singleton.1 hy]; omega
        · simp only
          rw [List.mem_append,a4 j,List.mem_singleton]
          constructor
          · rintro (⟨d,hd,h1,h2⟩ | rfl)
            · exact ⟨d,hd,by omega,h2⟩
            · exact ⟨i,hi,by omega,rfl,c⟩
          · rintro ⟨d,hd,h1,h2,h3⟩
            by_cases hdi:d = i
            · subst hdi; exact .inr h2
            · exact .inl ⟨d,hd,by omega,h2,h3⟩
    · have hil:i = l.length:=by omega
      exact ⟨_,rfl,xs,rfl,a2,by omega,fun j=>(a4 j).trans ⟨fun ⟨d,hd,_,h2⟩=>⟨d,hd,h2⟩,fun ⟨d,hd,h2⟩=>⟨d,hd,by omega,h2⟩⟩⟩
section
variable {r:TRoll} {us:List TUnit} (hr:RollOk r us) {p:List Int} {k:Int} (hk:1 ≤ k) (hk8:k ≤ 8) (h:PlanOk p k) (hl:p.length = us.length) {g:Nat} (hg:GrpOk r us g)
include hr hk hk8 h hl hg
theorem Shares_ok:minority_Shares_p FU r p k g = some (shs (gp (fun d=>peo (gu us g) p d) (fun d=>peo us p d) k),0):=by
  unfold minority_Shares_p minority_Shares_1_p
  rw [grouped_ok r us hr p k hk hk8 h hl g hg,obind]
  unfold exc
  simp only
  rw [shares_loop _ (gp_parts hr hg p k) (by rw [gp_len]; omega)]
  rfl
theorem Majority_ok (t:Rat) (ht:SmQ t):∃ xs,minority_Majority_p FU r p k g (Sh t) = some (xs,0)∧xs.Pairwise (· < ·)∧xs.length ≤ 8∧∀ j,j ∈ xs ↔ ∃ d:Nat,d < k.toNat∧j = d∧¬ shr (peo (gu us g) p d) (peo us p d) ≤ t:=by
  obtain ⟨xs,e,x1,x2,x3⟩:=major_loop (gp (fun d=>peo (gu us g) p d) (fun d=>peo us p d) k) (gp_parts hr hg p k) (by rw [gp_len]; omega) t ht
  rw [gp_len] at x2
  refine ⟨xs,?_,x1,by omega,fun j=>(x3 j).trans ⟨fun ⟨d,hd,h1,h2⟩=>⟨d,by rw [gp_len] at hd; exact hd,h1,?_⟩,fun ⟨d,hd,h1,h2⟩=>⟨d,by rw [gp_len]; exact hd,h1,?_⟩⟩⟩
  · unfold minority_Majority_p minority_Majority_1_p
    rw [grouped_ok r us hr p k hk hk8 h hl g hg,obind]
    unfold exc
    simp only
    rw [check_ok FU t ht.n ht.d FU_big,obind,if_pos rfl,e]
    rfl
  · simpa [gp] using h2
  · simpa [gp] using h2
end
end Go.Proofs.YtichhhehkcfoaaaGreatDoor
