/- Plain laws: plans that do not fit; the spread; lists compared. No program in sight but the printed functions. -/
import Derived.Test.YtmhgoecnjleagaaGreatDoorXWTa
namespace Go.Proofs.YtmhgoecnjleagaaGreatDoor
open Go
theorem great_ok (a:Int) (l:List Int) (hl:l.length ≤ 1000):∃ y,balance_greatest_p FU a l = some y∧(y = a ∨ y ∈ l)∧a ≤ y∧∀ x ∈ l,x ≤ y:=by
  have hF:=FU_lt
  have hh:=loop_ok (B:=balance_greatest_l1 FU l) (fun s:Int × Nat=>l.length - s.2) (fun s=>s.2 ≤ l.length∧(s.1 = a ∨ s.1 ∈ l)∧a ≤ s.1∧∀ x ∈ l.take s.2,x ≤ s.1) (fun y=>(y = a ∨ y ∈ l)∧a ≤ y∧∀ x ∈ l,x ≤ y) ?_ FU (a,0) ⟨by simp,.inl rfl,by simp,by simp⟩ (by simp only; omega)
  · obtain ⟨y,e,hy⟩:=hh
    unfold balance_greatest_p
    rw [e,obind]
    exact ⟨y,rfl,hy⟩
  · rintro ⟨z,i⟩ J ⟨a1,a2,a3,a4⟩ hJ
    simp only at a1 a2 a3 a4 hJ
    unfold balance_greatest_l1
    simp only
    split
    · rename_i hi
      rw [List.getElem?_eq_getElem hi,obind]
      refine hJ _ ⟨hi,?_,by simp only; omega,fun x hx=>?_⟩ (by simp only; omega)
      · simp only
        by_cases hm:z ≤ l[i]
        · rw [Int.max_eq_right hm]; exact .inr (List.getElem_mem _)
        · rw [Int.max_eq_left (by omega)]; exact a2
      · simp only at hx ⊢
        rw [List.take_succ_eq_append_getElem hi,List.mem_append,List.mem_singleton] at hx
        rcases hx with hx | rfl
        · have:=a4 x hx; omega
        · omega
    · rw [List.take_of_length_le (by omega)] at a4
      exact ⟨_,rfl,a2,a3,a4⟩
theorem least_ok (a:Int) (l:List Int) (hl:l.length ≤ 1000):∃ y,balance_least_p FU a l = some y∧(y = a ∨ y ∈ l)∧y ≤ a∧∀ x ∈ l,y ≤ x:=by
  have hF:=FU_lt
  have hh:=loop_ok (B:=balance_least_l1 FU l) (fun s:Int × Nat=>l.length - s.2) (fun s=>s.2 ≤ l.length∧(s.1 = a ∨ s.1 ∈ l)∧s.1 ≤ a∧∀ x ∈ l.take s.2,s.1 ≤ x) (fun y=>(y = a ∨ y ∈ l)∧y ≤ a∧∀ x ∈ l,y ≤ x) ?_ FU (a,0) ⟨by simp,.inl rfl,by simp,by simp⟩ (by simp only; omega)
  · obtain ⟨y,e,hy⟩:=hh
    unfold balance_least_p
    rw [e,obind]
    exact ⟨y,rfl,hy⟩
  · rintro ⟨z,i⟩ J ⟨a1,a2,a3,a4⟩ hJ
    simp only at a1 a2 a3 a4 hJ
    unfold balance_least_l1
    simp only
    split
    · rename_i hi
      rw [List.getElem?_eq_getElem hi,obind]
      refine hJ _ ⟨hi,?_,by simp only; omega,fun x hx=>?_⟩ (by simp only; omega)
      · simp only
        by_cases hm:z ≤ l[i]
        · rw [Int.min_eq_left hm]; exact a2
        · rw [Int.min_eq_right (by omega)]; exact .inr (List.getElem_mem _)
      · simp only at hx ⊢
        rw [List.take_succ_eq_append_getElem hi,List.mem_append,List.mem_singleton] at hx
        rcases hx with hx | rfl
        · have:=a4 x hx; omega
        · omega
    · rw [List.take_of_length_le (by omega)] at a4
      exact ⟨_,rfl,a2,a3,a4⟩
theorem q_over (d all k:Int) (hk:k ≠ 0):Rat.divInt d 1 / Rat.divInt all k = Rat.divInt (d * k) all:=by
  rw [Rat.div_def,Rat.inv_divInt,Rat.divInt_mul_divInt,Int.one_mul]
def noShare:TShare:=⟨(0,0,0,0,0,0,0,0),(0,0,0,0,0,0,0,0)⟩
theorem tl_bound {r:TRoll} {us:List TUnit} (hr:RollOk r us) (p:List Int) (k:Int):∀ x ∈ tlO us p k,0 ≤ x∧x ≤ 2295:=fun x hx=>by
  obtain ⟨d,_,rfl⟩:=List.mem_map.1 hx
  have:=hr.ppl us.length p d
  rwa [List.take_length] at this
theorem Spread_ok (r:TRoll) (us:List TUnit) (hr:RollOk r us) (p:List Int) (k:Int) (hk:1 ≤ k) (hk8:k ≤ 8) (h:PlanOk p k) (hl:p.length = us.length) (mx mn:Int) (h1:mx ∈ tlO us p k∧∀ x ∈ tlO us p k,x ≤ mx) (h2:mn ∈ tlO us p k∧∀ x ∈ tlO us p k,mn ≤ x) :
    balance_Spread_p FU r p k = if tot us = 0 then some (noShare,7) else some (Sh (Rat.divInt ((mx - mn) * k) (tot us)),0):=by
  have hb:=tot_bound hr us.length
  rw [List.take_length] at hb
  have b1:=tl_bound hr p k mx h1.1
  have b2:=tl_bound hr p k mn h2.1
  have h0:0 < (tlO us p k).length:=by rw [tl_len]; omega
  unfold balance_Spread_p balance_Spread_1_p
  rw [counted_ok r us hr k hk hk8,obind]
  unfold exc
  simp only
  rw [totalsC_ok r us hr p k hk hk8 h hl,obind]
  simp only
  rw [people_ok r us hr k,obind]
  by_cases ha:tot us = 0
  · rw [if_pos ha,decide_eq_true ha]
    rfl
  · obtain ⟨y1,e1,m1,g1,l1⟩:=great_ok (tlO us p k)[0] (tlO us p k) (by rw [tl_len]; omega)
    obtain ⟨y2,e2,m2,g2,l2⟩:=least_ok (tlO us p k)[0] (tlO us p k) (by rw [tl_len]; omega)
    have c1:y1 = mx:=by
      have:=l1 mx h1.1
      have:=h1.2 y1 (m1.elim (fun e=>e ▸ List.getElem_mem _) id)
      omega
    have c2:y2 = mn:=by
      have:=l2 mn h2.1
      have:=h2.2 y2 (m2.elim (fun e=>e ▸ List.getElem_mem _) id)
      omega
    have:=h2.2 mx h1.1
    have m:=mulb (k:=k) (x:=mx - mn) (by omega) hk8 (by omega) (by omega)
    rw [Int.mul_comm] at m
    rw [if_neg ha,decide_eq_false ha,fail_no,obind]
    simp only
    rw [List.getElem?_eq_getElem h0,obind,e1,obind,e2,obind,c1,c2,chkI (by omega) (by omega),obind,bof_ok _ _ (by decide) (by omega) (by decide),obind]
    simp only
    rw [bof_ok _ _ (by omega) (by omega) (by omega),obind]
    simp only
    rw [share_div_ok FU _ _ (smq (by decide) (by omega) (by decide)) (smq (by omega) (by omega) (by omega)) (q_ne (by omega) ha) FU_big,obind,q_over _ _ _ (by omega)]
    rfl
theorem max_of (l:List Int) (h:l ≠ []):∃ m ∈ l,∀ x ∈ l,x ≤ m:=by
  induction l with
  | nil=>exact absurd rfl h
  | cons a l ih=>
    by_cases h0:l = []
    · subst h0; exact ⟨a,by simp,by simp⟩
    · obtain ⟨m,hm,h1⟩:=ih h0
      by_cases ha:a ≤ m
      · exact ⟨m,List.mem_cons_of_mem _ hm,fun x hx=>(List.mem_cons.1 hx).elim (fun e=>e ▸ ha) (h1 x)⟩
      · exact ⟨a,List.mem_cons_self ..,fun x hx=>(List.mem_cons.1 hx).elim (fun e=>by omega) fun h2=>by have:=h1 x h2; omega⟩
theorem min_of (l:List Int) (h:l ≠ []):∃ m ∈ l,∀ x ∈ l,m ≤ x:=by
  induction l with
  | nil=>exact absurd rfl h
  | cons a l ih=>
    by_cases h0:l = []
    · subst h0; exact ⟨a,by simp,by simp⟩
    · obtain ⟨m,hm,h1⟩:=ih h0
      by_cases ha:m ≤ a
      · exact ⟨m,List.mem_cons_of_mem _ hm,fun x hx=>(List.mem_cons.1 hx).elim (fun e=>e ▸ ha) (h1 x)⟩
      · exact ⟨a,List.mem_cons_self ..,fun x hx=>(List.mem_cons.1 hx).elim (fun e=>by omega) fun h2=>by have:=h1 x h2; omega⟩
end Go.Proofs.YtmhgoecnjleagaaGreatDoor
