/- Plain laws: plans that do not fit; the spread; lists compared. No program in sight but the printed functions. -/
import Derived.Test.YtmhgoecnjleagaaGreatDoorZNTa
namespace Go.Proofs.YtmhgoecnjleagaaGreatDoor
open Go
theorem clone_self {α:Type} [DecidableEq (List α)] (xs:List α) (h:xs.length ≤ 1000000):nilCase xs (some []) ((app [] xs).bind fun x=>some x) = some xs:=by
  rw [appS [] xs (by simpa using h),obind,List.nil_append]
  unfold nilCase
  cases xs with
  | nil=>simp
  | cons a l=>rfl
theorem cloneP_ok (xs:List Int) (h:xs.length ≤ 1000000):slices_Clone_api_Plan_int_p FU xs = some xs:=clone_self xs h
theorem cloneI_ok (xs:List Int) (h:xs.length ≤ 1000000):slices_Clone_int_int_p FU xs = some xs:=clone_self xs h
theorem eq_loop {α:Type} [DecidableEq α] {a b:List α} (hl:a.length = b.length) {B:(Nat → Option (Bool ⊕ Unit)) → Nat → Option (Bool ⊕ Unit)} (hB:∀ J i,B J i = if i < a.length then (a[i]?).bind fun x=>(b[i]?).bind fun y=>if x = y then J (i + 1) else some (.inl false) else some (.inr ())) {n:Nat} (hn:a.length < n) :
    thn (loopF B n 0) (fun _=>some true) = some (decide (a = b)):=by
  have hh:=loop_ok (B:=B) (fun i:Nat=>a.length - i) (fun i=>i ≤ a.length∧a.take i = b.take i) (fun y=>y = .inr ()∧a = b ∨ y = .inl false∧a ≠ b) ?_ n 0 ⟨Nat.zero_le _,by simp⟩ (by omega)
  · obtain ⟨y,e,hy⟩:=hh
    rw [e]
    rcases hy with ⟨rfl,hy⟩ | ⟨rfl,hy⟩
    · simp [thn,hy]
    · simp [thn,hy]
  · intro i J ⟨h1,h2⟩ hJ
    rw [hB]
    split
    · rename_i hi
      rw [List.getElem?_eq_getElem hi,obind,List.getElem?_eq_getElem (by omega),obind]
      split
      · rename_i he
        refine hJ (i + 1) ⟨hi,?_⟩ (by omega)
        rw [List.take_succ_eq_append_getElem hi,List.take_succ_eq_append_getElem (by omega),h2,he]
      · rename_i he
        exact ⟨_,rfl,.inr ⟨rfl,fun e=>he (by subst e; rfl)⟩⟩
    · refine ⟨_,rfl,.inl ⟨rfl,?_⟩⟩
      rwa [List.take_of_length_le (by omega),List.take_of_length_le (by omega)] at h2
theorem equal_ok (a b:List Int) (h:a.length ≤ 1000):slices_Equal_int_int_p FU a b = some (decide (a = b)):=by
  have hF:=FU_lt
  unfold slices_Equal_int_int_p
  split
  · rename_i hl; exact eq_loop hl (fun J i=>by rfl) (by omega)
  · rename_i hl; rw [decide_eq_false fun e=>hl (by rw [e])]
theorem contains_ok (xs:List Int) (f:Int) (h:xs.length ≤ 1000):slices_Contains_api_Plan_int_p FU xs f = some (decide (f ∈ xs)):=by
  have hF:=FU_lt
  have hh:=loop_ok (B:=slices_Index_api_Plan_int_l1 FU xs f) (fun i:Nat=>xs.length - i) (fun i=>i ≤ xs.length∧f ∉ xs.take i) (fun y=>y = .inr ()∧f ∉ xs ∨ ∃ j:Nat,y = .inl (j:Int)∧f ∈ xs) ?_ FU 0 ⟨Nat.zero_le _,by simp⟩ (by omega)
  · obtain ⟨y,e,hy⟩:=hh
    unfold slices_Contains_api_Plan_int_p slices_Index_api_Plan_int_p
    rw [e]
    rcases hy with ⟨rfl,hy⟩ | ⟨j,rfl,hy⟩
    · rw [decide_eq_false hy]; rfl
    · rw [decide_eq_true hy]; simp [thn]
  · intro i J ⟨h1,h2⟩ hJ
    unfold slices_Index_api_Plan_int_l1
    simp only
    split
    · rename_i hi
      rw [List.getElem?_eq_getElem hi,obind]
      split
      · rename_i he; exact ⟨_,rfl,.inr ⟨i,rfl,by rw [he]; exact List.getElem_mem _⟩⟩
      · rename_i he
        refine hJ (i + 1) ⟨hi,?_⟩ (by omega)
        rw [List.take_succ_eq_append_getElem hi,List.mem_append,List.mem_singleton]
        rintro (h3 | h3)
        · exact h2 h3
        · exact he h3
    · exact ⟨_,rfl,.inl ⟨rfl,by rwa [List.take_of_length_le (by omega)] at h2⟩⟩
theorem used_any (r:TRoll) (p:List Int) (k:Int) (h:∀ x ∈ p,0 ≤ x∧x < k) (hl:p.length ≤ 9):∃ D,loopF (balance_count_check_l1 FU p ⟨r,k⟩) FU (0,[]) = some (.inr D)∧(D.map Prod.fst).Nodup∧∀ x,x ∈ D.map Prod.fst ↔ x ∈ p:=by
  have hF:=FU_lt
  have hh:=loop_ok (B:=balance_count_check_l1 FU p ⟨r,k⟩) (fun s:Nat × List (Int × Bool)=>p.length - s.1) (fun s=>s.1 ≤ p.length∧(s.2.map Prod.fst).Nodup∧∀ x,x ∈ s.2.map Prod.fst ↔ x ∈ p.take s.1)
    (fun y=>∃ D,y = .inr D∧(D.map Prod.fst).Nodup∧∀ x,x ∈ D.map Prod.fst ↔ x ∈ p) ?_ FU (0,[]) ⟨by simp,by simp,by simp⟩ (by simp only; omega)
  · obtain ⟨y,e,D,rfl,hD⟩:=hh; exact ⟨D,e,hD⟩
  · rintro ⟨i,D⟩ J ⟨a1,a2,a3⟩ hJ
    simp only at a1 a2 a3 hJ
    unfold balance_count_check_l1
    simp only
    split
    · rename_i hi
      have hx:=h p[i] (List.getElem_mem _)
      rw [List.getElem?_eq_getElem hi,obind,if_neg (by omega),decide_eq_false (by omega),fail_no,obind]
      unfold exc
      simp only
      refine hJ _ ⟨hi,?_,fun x=>?_⟩ (by simp only; omega)
      · simp only
        rw [mset_keys]
        split
        · exact a2
        · rename_i h5
          rw [List.nodup_append]
          exact ⟨a2,by simp,fun a ha b hb=>by rw [List.mem_singleton.1 hb]; exact fun e=>h5 (e ▸ ha)⟩
      · simp only
        rw [mset_keys,← List.take_append_getElem hi,List.mem_append,← a3 x,List.mem_singleton]
        split
        · rename_i h5
          constructor
          · exact .inl
          · rintro (h6 | rfl)
            · exact h6
            · exact h5
        · rw [List.mem_append,List.mem_singleton]
    · refine ⟨_,rfl,D,rfl,a2,?_⟩
      rwa [List.take_of_length_le (by omega)] at a3
theorem used2_any (r:TRoll) (p:List Int) (k:Int) (h:∀ x ∈ p,0 ≤ x∧x < k) (hl:p.length ≤ 9):∃ D,loopF (balance_count_check_l2 FU p ⟨r,k⟩) FU (0,[]) = some (.inr D)∧(D.map Prod.fst).Nodup∧∀ x,x ∈ D.map Prod.fst ↔ x ∈ p:=used_any r p k h hl
theorem few_len {l:List Int} {k d:Int} (hn:l.Nodup) (h:∀ x ∈ l,0 ≤ x∧x < k) (hd:0 ≤ d∧d < k) (hm:d ∉ l):(l.length:Int) ≠ k:=by
  have h1:(d :: l).Nodup:=List.nodup_cons.2 ⟨hm,hn⟩
  have h3:=h1.length_le_of_subset (l₂:=(List.range k.toNat).map fun i:Nat=>(i:Int)) fun x hx=>List.mem_map.2 ⟨x.toNat,by
    rcases List.mem_cons.1 hx with rfl | hx
    · exact ⟨List.mem_range.2 (by omega),by omega⟩
    · have:=h x hx; exact ⟨List.mem_range.2 (by omega),by omega⟩⟩
  rw [List.length_map,List.length_range,List.length_cons] at h3
  omega
theorem check_no (r:TRoll) (us:List TUnit) (hr:RollOk r us) (p:List Int) (k:Int) (h:∀ x ∈ p,0 ≤ x∧x < k) (d:Int) (hd:0 ≤ d∧d < k) (hm:d ∉ p) (hl:p.length = us.length):balance_count_check_p FU ⟨r,k⟩ p = some (.error ⟨220⟩):=by
  have hF:=FU_lt
  have hs:=hr.size
  have hlen:=hr.len
  obtain ⟨D,e1,n1,m1⟩:=used_any r p k h (by omega)
  have d1:=few_len n1 (fun x hx=>h x ((m1 x).1 hx)) hd fun hx=>hm ((m1 d).1 hx)
  obtain ⟨D2,e2,n2,m2⟩:=used2_any r p k h (by omega)
  have d2:=few_len n2 (fun x hx=>h x ((m2 x).1 hx)) hd fun hx=>hm ((m2 d).1 hx)
  have hh:=loop_ok (B:=balance_count_check_l3 FU ⟨r,k⟩ p) (fun s:Nat × Int=>r.fUnits.length - s.1) (fun s=>s.1 ≤ r.fUnits.length∧s.2 = s.1∧s.1 ≤ us.length) (fun x=>x = .inl (.error ⟨220⟩) ∨ x = .inr (us.length:Int)) ?_ FU (0,0) ⟨by simp,by simp,by simp⟩ (by simp only; omega)
  · obtain ⟨x,e,hx⟩:=hh
    unfold balance_count_check_p
    rw [e]
    rcases hx with rfl | rfl
    · rfl
    · unfold thn
      simp only
      rw [decide_eq_true (show ((p.length:Nat):Int) = us.length by omega)]
      simp only [Bool.not_true]
      rw [fail_no,obind]
      unfold exc
      simp only
      rw [e2]
      simp only
      rw [List.length_map] at d2
      rw [decide_eq_false d2]
      rfl
  · rintro ⟨i,z⟩ J ⟨a1,a2,a4⟩ hJ
    simp only at a1 a2 a4 hJ
    unfold balance_count_check_l3
    simp only
    split
    · rename_i hi
      rw [List.getElem?_eq_getElem hi,obind]
      rcases hr.unit hi with ⟨h2,e3⟩ | ⟨h2,e3⟩
      · rw [e3,if_neg (by rw [(hr.land i h2).2.1]; decide),chkI (by omega) (by omega),obind]
        exact hJ _ ⟨by simp only; omega,by simp only; omega,h2⟩ (by simp only; omega)
      · rw [e3,if_pos (show (sea r.fGroups r.fParties r.fLevels).fWater = true from rfl)]
        refine ⟨.inl (.error ⟨220⟩),?_,.inl rfl⟩
        rw [decide_eq_true (show ((p.length:Nat):Int) = z by omega)]
        simp only [Bool.not_true]
        rw [fail_no,obind]
        unfold exc
        simp only
        rw [e1]
        unfold thn
        simp only
        rw [List.length_map] at d1
        rw [decide_eq_false d1]
        rfl
    · exact ⟨_,rfl,.inr (by rw [a2,show i = us.length by omega])⟩
theorem totals_no (r:TRoll) (us:List TUnit) (hr:RollOk r us) (p:List Int) (k:Int) (hk:1 ≤ k) (hk8:k ≤ 8) (h:∀ x ∈ p,0 ≤ x∧x < k) (d:Int) (hd:0 ≤ d∧d < k) (hm:d ∉ p) (hl:p.length = us.length):balance_Totals_p FU r p k = some ([],220):=by
  unfold balance_Totals_p balance_Totals_1_p
  rw [counted_ok r us hr k hk hk8,obind]
  unfold exc
  simp only
  unfold balance_count_totals_p
  rw [check_no r us hr p k h d hd hm hl,obind]
  rfl
theorem great_ok (a:Int) (l:List Int) (hl:l.length ≤ 1000):∃ y,balance_greatest_p FU a l = some y∧(y = a ∨ y ∈ l)∧a ≤ y∧∀ x ∈ l,x ≤ y:=by
  have hF:=FU_lt
  have hh:=loop_ok (B:=balance_greatest_l1 FU l) (fun s:Int × Nat=>l.length - s.2) (fun s=>s.2 ≤ l.length∧(s.1 = a ∨ s.1 ∈ l)∧a ≤ s.1∧∀ x ∈ l.take s.2,x ≤ s.1) (fun y=>(y = a ∨ y ∈ l)∧a ≤ y∧∀ x ∈ l,x ≤ y) ?_ FU (a,0) ⟨by simp,.inl rfl,by simp,by simp⟩ (by simp only; omega)
  · obtain ⟨y,e,hy⟩:=hh
    unfold balance_greatest_p
    rw [e,obind]
    exact ⟨y,rfl,hy⟩
  · rintro ⟨z,i⟩ J ⟨a1,a2,a3,a4⟩ hJ
    simp only at a1 a2 a3 a4 hJ
    unfold balance_greatest_l1
    simp only
    split
    · rename_i hi
      rw [List.getElem?_eq_getElem hi,obind]
      refine hJ _ ⟨hi,?_,by simp only; omega,fun x hx=>?_⟩ (by simp only; omega)
      · simp only
        by_cases hm:z ≤ l[i]
        · rw [Int.max_eq_right hm]; exact .inr (List.getElem_mem _)
        · rw [Int.max_eq_left (by omega)]; exact a2
      · simp only at hx ⊢
        rw [List.take_succ_eq_append_getElem hi,List.mem_append,List.mem_singleton] at hx
        rcases hx with hx | rfl
        · have:=a4 x hx; omega
        · omega
    · rw [List.take_of_length_le (by omega)] at a4
      exact ⟨_,rfl,a2,a3,a4⟩
theorem least_ok (a:Int) (l:List Int) (hl:l.length ≤ 1000):∃ y,balance_least_p FU a l = some y∧(y = a ∨ y ∈ l)∧y ≤ a∧∀ x ∈ l,y ≤ x:=by
  have hF:=FU_lt
  have hh:=loop_ok (B:=balance_least_l1 FU l) (fun s:Int × Nat=>l.length - s.2) (fun s=>s.2 ≤ l.length∧(s.1 = a ∨ s.1 ∈ l)∧s.1 ≤ a∧∀ x ∈ l.take s.2,s.1 ≤ x) (fun y=>(y = a ∨ y ∈ l)∧y ≤ a∧∀ x ∈ l,y ≤ x) ?_ FU (a,0) ⟨by simp,.inl rfl,by simp,by simp⟩ (by simp only; omega)
  · obtain ⟨y,e,hy⟩:=hh
    unfold balance_least_p
    rw [e,obind]
    exact ⟨y,rfl,hy⟩
  · rintro ⟨z,i⟩ J ⟨a1,a2,a3,a4⟩ hJ
    simp only at a1 a2 a3 a4 hJ
    unfold balance_least_l1
    simp only
    split
    · rename_i hi
      rw [List.getElem?_eq_getElem hi,obind]
      refine hJ _ ⟨hi,?_,by simp only; omega,fun x hx=>?_⟩ (by simp only; omega)
      · simp only
        by_cases hm:z ≤ l[i]
        · rw [Int.min_eq_left hm]; exact a2
        · rw [Int.min_eq_right (by omega)]; exact .inr (List.getElem_mem _)
      · simp only at hx ⊢
        rw [List.take_succ_eq_append_getElem hi,List.mem_append,List.mem_singleton] at hx
        rcases hx with hx | rfl
        · have:=a4 x hx; omega
        · omega
    · rw [List.take_of_length_le (by omega)] at a4
      exact ⟨_,rfl,a2,a3,a4⟩
theorem q_over (d all k:Int) (hk:k ≠ 0):Rat.divInt d 1 / Rat.divInt all k = Rat.divInt (d * k) all:=by
  rw [Rat.div_def,Rat.inv_divInt,Rat.divInt_mul_divInt,Int.one_mul]
def noShare:TShare:=⟨(0,0,0,0,0,0,0,0),(0,0,0,0,0,0,0,0)⟩
theorem tl_bound {r:TRoll} {us:List TUnit} (hr:RollOk r us) (p:List Int) (k:Int):∀ x ∈ tlO us p k,0 ≤ x∧x ≤ 2295:=fun x hx=>by
  obtain ⟨d,_,rfl⟩:=List.mem_map.1 hx
  have:=hr.ppl us.length p d
  rwa [List.take_length] at this
theorem Spread_ok (r:TRoll) (us:List TUnit) (hr:RollOk r us) (p:List Int) (k:Int) (hk:1 ≤ k) (hk8:k ≤ 8) (h:PlanOk p k) (hl:p.length = us.length) (mx mn:Int) (h1:mx ∈ tlO us p k∧∀ x ∈ tlO us p k,x ≤ mx) (h2:mn ∈ tlO us p k∧∀ x ∈ tlO us p k,mn ≤ x) :
    balance_Spread_p FU r p k = if tot us = 0 then some (noShare,7) else some (Sh (Rat.divInt ((mx - mn) * k) (tot us)),0):=by
  have hb:=tot_bound hr us.length
  rw [List.take_length] at hb
  have b1:=tl_bound hr p k mx h1.1
  have b2:=tl_bound hr p k mn h2.1
  have h0:0 < (tlO us p k).length:=by rw [tl_len]; omega
  unfold balance_Spread_p balance_Spread_1_p
  rw [counted_ok r us hr k hk hk8,obind]
  unfold exc
  simp only
  rw [totalsC_ok r us hr p k hk hk8 h hl,obind]
  simp only
  rw [people_ok r us hr k,obind]
  by_cases ha:tot us = 0
  · rw [if_pos ha,decide_eq_true ha]
    rfl
  · obtain ⟨y1,e1,m1,g1,l1⟩:=great_ok (tlO us p k)[0] (tlO us p k) (by rw [tl_len]; omega)
    obtain ⟨y2,e2,m2,g2,l2⟩:=least_ok (tlO us p k)[0] (tlO us p k) (by rw [tl_len]; omega)
    have c1:y1 = mx:=by
      have:=l1 mx h1.1
      have:=h1.2 y1 (m1.elim (fun e=>e ▸ List.getElem_mem _) id)
      omega
    have c2:y2 = mn:=by
      have:=l2 mn h2.1
      have:=h2.2 y2 (m2.elim (fun e=>e ▸ List.getElem_mem _) id)
      omega
    have:=h2.2 mx h1.1
    have m:=mulb (k:=k) (x:=mx - mn) (by omega) hk8 (by omega) (by omega)
    rw [Int.mul_comm] at m
    rw [if_neg ha,decide_eq_false ha,fail_no,obind]
    simp only
    rw [List.getElem?_eq_getElem h0,obind,e1,obind,e2,obind,c1,c2,chkI (by omega) (by omega),obind,bof_ok _ _ (by decide) (by omega) (by decide),obind]
    simp only
    rw [bof_ok _ _ (by omega) (by omega) (by omega),obind]
    simp only
    rw [share_div_ok FU _ _ (smq (by decide) (by omega) (by decide)) (smq (by omega) (by omega) (by omega)) (q_ne (by omega) ha) FU_big,obind,q_over _ _ _ (by omega)]
    rfl
end Go.Proofs.YtmhgoecnjleagaaGreatDoor
