/- Plain laws: the drafted plan. No program in sight but the printed functions. -/
import Derived.Test.YtfccehcnajelgaaGreatDoorRDWe
namespace Go.Proofs.YtfccehcnajelgaaGreatDoor
open Go
theorem remI_ok {x y:Int} (h:y ≠ 0):remI x y = some (x.tmod y):=if_neg h
theorem appS {α:Type} (xs ys:List α) (h:xs.length + ys.length ≤ 1000000):app xs ys = some (xs ++ ys):=if_pos (Nat.le_trans h (by decide))
theorem label_ok (n:Nat) (d:TDraft48) (i:Int) (h:0 ≤ i):∃ y,wardmoteref21_Draft_label_p n d i = some y∧0 ≤ y∧y < 256:=by
  unfold wardmoteref21_Draft_label_p
  split
  · rw [idx_ok h (by omega),obind]
    have:=(d.fLabels[i.toNat]'(by omega)).toNat_lt
    exact ⟨_,rfl,by omega,by omega⟩
  · exact ⟨_,rfl,by omega,by omega⟩
theorem labels_ok (n:Nat) (d:TDraft48) (hn:20 < n):∃ l,loopF (wardmoteref21_Draft_Loose_l2 n d) n (0,[]) = some l∧1 ≤ l.length∧l.length ≤ 9∧∀ x ∈ l,0 ≤ x∧x < 8:=by
  have hu:(d.fN % 9).toNat < 9:=by rw [UInt8.toNat_mod]; exact Nat.mod_lt _ (by decide)
  have hk:(d.fK % 8).toNat < 8:=by rw [UInt8.toNat_mod]; exact Nat.mod_lt _ (by decide)
  have h:=loop_ok (B:=wardmoteref21_Draft_Loose_l2 n d) (fun s:Int × List Int=>10 - s.1.toNat) (fun s=>0 ≤ s.1∧s.1 ≤ (1 + (d.fN % 9).toNat:Nat)∧s.2.length = s.1.toNat∧∀ x ∈ s.2,0 ≤ x∧x < 8)
    (fun l=>1 ≤ l.length∧l.length ≤ 9∧∀ x ∈ l,0 ≤ x∧x < 8) ?_ n (0,[]) ⟨by simp,by omega,by simp,by simp⟩ (by simp only; omega)
  · obtain ⟨l,e,h⟩:=h; exact ⟨l,e,h⟩
  · rintro ⟨z,xs⟩ J ⟨h1,h2,h3,h4⟩ hJ
    simp only at h1 h2 h3 h4 hJ
    unfold wardmoteref21_Draft_Loose_l2 wardmoteref21_Draft_Units_p
    simp only [obind]
    split
    · rename_i h5
      obtain ⟨y,e,y0,y1⟩:=label_ok n d z h1
      rw [e,obind,remI_ok (by omega),obind,appS _ _ (by simp only [List.length_cons,List.length_nil]; omega),obind,chkI (by omega) (by omega),obind]
      refine hJ _ ⟨by simp only; omega,by simp only; omega,by simp only [List.length_append,List.length_cons,List.length_nil]; omega,fun x hx=>?_⟩ (by simp only; omega)
      rcases List.mem_append.1 hx with hx | hx
      · exact h4 x hx
      · rw [List.mem_singleton.1 hx,Int.tmod_eq_emod_of_nonneg y0]
        have a1:=Int.emod_nonneg y (b:=((1 + (d.fK % 8).toNat:Nat):Int)) (by omega)
        have a2:=Int.emod_lt_of_pos y (b:=((1 + (d.fK % 8).toNat:Nat):Int)) (by omega)
        omega
    · rename_i h5
      exact ⟨_,rfl,by omega,by omega,h4⟩
theorem labels_in (n:Nat) (l:List Int) (h1:1 ≤ l.length) (h2:l.length ≤ 9) (h:∀ x ∈ l,0 ≤ x∧x < 8) (hn:20 < n):wardmoteref21_Labels_p n l 8 = some true:=by
  have hh:=loop_ok (B:=wardmoteref21_Labels_l1 n l 8) (fun i:Nat=>l.length - i) (fun i=>i ≤ l.length) (fun r=>r = .inr ()) ?_ n 0 (Nat.zero_le _) (by omega)
  · obtain ⟨r,e,rfl⟩:=hh
    unfold wardmoteref21_Labels_p
    rw [e]
    show (if 1 ≤ l.length then some (decide (l.length ≤ 64)) else some false) = _
    rw [if_pos h1,decide_eq_true (by omega)]
  · intro i J hi hJ
    unfold wardmoteref21_Labels_l1
    simp only
    split
    · rename_i h0
      have:=h l[i] (List.getElem_mem _)
      rw [List.getElem?_eq_getElem h0,obind,if_neg (by omega),if_neg (by omega)]
      exact hJ (i + 1) h0 (by omega)
    · exact ⟨_,rfl,rfl⟩
def PlanOk (p:List Int) (k:Int):Prop:=(∀ x ∈ p,0 ≤ x∧x < k)∧∀ d,0 ≤ d → d < k → d ∈ p
theorem canon_ok (n:Nat) (l:List Int) (h1:1 ≤ l.length) (h2:l.length ≤ 9) (h:∀ x ∈ l,0 ≤ x∧x < 8) (hn:20 < n):∃ p z,wardmoteref21_Canon_p n l = some (p,0)∧p.length = l.length∧PlanOk p z∧z ≤ 8:=by
  have hh:=loop_ok (B:=wardmoteref21_Canon_l1 n l) (fun s:Int × Nat × List Int × List Int=>l.length - s.2.1)
    (fun s=>s.2.1 ≤ l.length∧s.2.2.1.length = s.2.1∧s.2.2.2.length = 8∧0 ≤ s.1∧s.1 + s.2.2.2.count (-1) = 8∧(∀ v ∈ s.2.2.2,v = -1 ∨ 0 ≤ v∧v < s.1)∧PlanOk s.2.2.1 s.1)
    (fun p=>∃ z,p.length = l.length∧PlanOk p z∧z ≤ 8) ?_ n (0,0,[],[-1,-1,-1,-1,-1,-1,-1,-1]) ⟨by simp,rfl,rfl,by simp,by decide,by simp,by simp,fun d h3 h4=>by simp only at h4; omega⟩ (by simp only; omega)
  · obtain ⟨p,e,z,h3,h4,h5⟩:=hh
    refine ⟨p,z,?_,h3,h4,h5⟩
    unfold wardmoteref21_Canon_p
    rw [labels_in n l h1 h2 h hn,obind,if_pos rfl,e,obind]
  · rintro ⟨z,i,xs,m⟩ J ⟨a1,a2,a3,a4,a5,a6,a7,a8⟩ hJ
    simp only at a1 a2 a3 a4 a5 a6 a7 a8 hJ
    unfold wardmoteref21_Canon_l1
    simp only
    split
    · rename_i hi
      have hx:=h l[i] (List.getElem_mem _)
      have hm:l[i].toNat < m.length:=by omega
      rw [List.getElem?_eq_getElem hi,obind,idx_ok hx.1 hm,obind]
      unfold jn
      simp only
      have hv:=a6 m[l[i].toNat] (List.getElem_mem _)
      by_cases hneg:m[l[i].toNat] < 0
      · have hv1:m[l[i].toNat] = -1:=by omega
        have hc:0 < m.count (-1):=by rw [← hv1]; exact List.count_pos_iff.2 (List.getElem_mem _)
        rw [if_pos hneg,put_ok _ hm,obind,chkI (by omega) (by omega),obind,idx_ok hx.1 (by simpa using hm),obind,List.getElem_set_self,appS _ _ (by simp only [List.length_cons,List.length_nil]; omega),obind]
        refine hJ _ ⟨by simp only; omega,by simp only [List.length_append,List.length_cons,List.length_nil]; omega,by simpa using a3,by simp only; omega,?_,?_,?_,?_⟩ (by simp only; omega)
        · simp only
          rw [List.count_set hm,hv1]
          have:((z == (-1:Int)) = false):=by rw [beq_eq_false_iff_ne]; omega
          simp only [this]
          simp only [beq_self_eq_true,if_true]
          simp
          omega
        · intro v hv2
          rcases List.mem_or_eq_of_mem_set hv2 with hv2 | rfl
          · rcases a6 v hv2 with h5 | h5
            · exact .inl h5
            · exact .inr ⟨h5.1,by simp only; omega⟩
          · exact .inr ⟨a4,by simp only; omega⟩
        · intro x hx2
          simp only at hx2 ⊢
          rcases List.mem_append.1 hx2 with hx2 | hx2
          · have:=a7 x hx2; omega
          · rw [List.mem_singleton.1 hx2]; omega
        · intro d d0 d1
          simp only at d1 ⊢
          by_cases hd:d = z
          · subst hd; exact List.mem_append_right _ (List.mem_singleton.2 rfl)
          · exact List.mem_append_left _ (a8 d d0 (by omega))
      · rw [if_neg hneg,idx_ok hx.1 hm,obind,appS _ _ (by simp only [List.length_cons,List.length_nil]; omega),obind]
        refine hJ _ ⟨by simp only; omega,by simp only [List.length_append,List.length_cons,List.length_nil]; omega,a3,a4,a5,a6,?_,?_⟩ (by simp only; omega)
        · intro x hx2
          simp only at hx2 ⊢
          rcases List.mem_append.1 hx2 with hx2 | hx2
          · exact a7 x hx2
          · rw [List.mem_singleton.1 hx2]; omega
        · intro d d0 d1
          exact List.mem_append_left _ (a8 d d0 d1)
    · exact ⟨_,rfl,z,by omega,⟨a7,a8⟩,by omega⟩
theorem loose_ok (n:Nat) (d:TDraft48) (hn:20 < n):∃ p k,wardmoteref21_Draft_Loose_p n d = some (p,k)∧1 ≤ p.length∧p.length ≤ 9∧PlanOk p k∧1 ≤ k∧k ≤ 8:=by
  obtain ⟨l,e1,l1,l2,l3⟩:=labels_ok n d hn
  obtain ⟨p,z,e2,p1,p2,p3⟩:=canon_ok n l l1 l2 l3 hn
  have hh:=loop_ok (B:=wardmoteref21_Draft_Loose_l1 n (p,0)) (fun s:Int × Nat=>p.length - s.2) (fun s=>s.2 ≤ p.length∧0 ≤ s.1∧s.1 ≤ 8∧(∀ j (h:j < p.length),j < s.2 → p[j] + 1 ≤ s.1)∧(s.1 = 0∧s.2 = 0 ∨ s.1 - 1 ∈ p))
    (fun k=>1 ≤ k∧k ≤ 8∧(∀ x ∈ p,x < k)∧k - 1 ∈ p) ?_ n (0,0) ⟨by simp,by simp,by simp,fun j _ h=>by simp at h,.inl ⟨rfl,rfl⟩⟩ (by simp only; omega)
  · obtain ⟨k,e3,k1,k2,k3,k4⟩:=hh
    refine ⟨p,k,?_,by omega,by omega,⟨fun x hx=>⟨(p2.1 x hx).1,k3 x hx⟩,fun d d0 d1=>p2.2 d d0 (by have:=(p2.1 _ k4).2; omega)⟩,k1,k2⟩
    unfold wardmoteref21_Draft_Loose_p
    rw [e1,obind,e2,obind,e3,obind]
  · rintro ⟨z', i⟩ J ⟨a1,a2,a3,a4,a5⟩ hJ
    simp only at a1 a2 a3 a4 a5 hJ
    unfold wardmoteref21_Draft_Loose_l1
    simp only
    split
    · rename_i hi
      have hx:=p2.1 p[i] (List.getElem_mem _)
      rw [List.getElem?_eq_getElem hi,obind,chkI (by omega) (by omega),obind]
      refine hJ _ ⟨hi,by simp only; omega,by simp only; omega,fun j hj h4=>?_,?_⟩ (by simp only; omega)
      · simp only at h4 ⊢
        by_cases hj2:j = i
        · subst hj2; omega
        · have:=a4 j hj (by omega); omega
      · right
        simp only
        by_cases hm:z' ≤ p[i] + 1
        · rw [Int.max_eq_right hm,show p[i] + 1 - 1 = p[i] by omega]; exact List.getElem_mem _
        · rw [Int.max_eq_left (by omega)]
          rcases a5 with ⟨h5,h6⟩ | h5
          · omega
          · exact h5
    · rename_i hi
      rcases a5 with ⟨h5,h6⟩ | h5
      · omega
      · refine ⟨_,rfl,by have:=(p2.1 _ h5).1; omega,a3,fun x hx=>?_,h5⟩
        obtain ⟨j,hj,rfl⟩:=List.getElem_of_mem hx
        have:=a4 j hj (by omega); omega
end Go.Proofs.YtfccehcnajelgaaGreatDoor
