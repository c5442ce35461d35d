/- Plain laws: drafted lists of communities, and what is told of them. No program in sight but the printed functions. -/
import Derived.Test.YtfccehcnajelgaaGreatDoorRDIg
namespace Go.Proofs.YtfccehcnajelgaaGreatDoor
open Go
set_option maxRecDepth 8000
theorem shl_ne13:∀ k,k < 13 → shlU (1:UInt64) k ≠ 0:=by decide
theorem cname27 (x:UInt8):sadd ⟨#[99]⟩ (bstr ([x]:List UInt8)) = some ⟨#[99,x]⟩:=rfl
def DC (m i:Nat) (c:TInterest):Prop:=c.fp = ⟨#[99,u8ofI ((97 + i:Nat):Int)]⟩∧(0 ≤ c.fy∧c.fy ≤ 9)∧c.fo ≠ 0∧c.fo.toNat < 2 ^ m
theorem list_full (d:TDraft) (m:Nat) (h1:1 ≤ m) (hm:m < 13):∃ l,wardmoteref27_Draft_List_p FU d m = some l∧l.length ≤ 6∧∀ i (h:i < l.length),DC m i l[i]:=by
  have hF:=FU_lt
  have hh:=loop_ok (B:=wardmoteref27_Draft_List_l1 FU d m) (fun s:Nat × List TInterest=>6 - s.1) (fun s=>s.1 ≤ 6∧s.2.length = s.1∧∀ i (h:i < s.2.length),DC m i s.2[i]) (fun l=>l.length ≤ 6∧∀ i (h:i < l.length),DC m i l[i]) ?_ FU (0,[]) ⟨Nat.zero_le _,rfl,fun i h=>by cases h⟩ (by simp only; omega)
  · obtain ⟨l,e,hl⟩:=hh
    unfold wardmoteref27_Draft_List_p jn
    rw [e]
    exact ⟨l,rfl,hl⟩
  · rintro ⟨i,xs⟩ J ⟨a1,a2,a3⟩ hJ
    simp only at a1 a2 a3 hJ
    unfold wardmoteref27_Draft_List_l1
    simp only
    have fin:xs.length ≤ 6∧∀ i (h:i < xs.length),DC m i xs[i]:=⟨by omega,a3⟩
    by_cases h1:i < d.fL.length
    · rw [if_pos h1]
      by_cases h2:i < 6
      · have next:∀ c:TInterest,DC m i c → ∃ r,J (i + 1,xs ++ [c]) = some r∧r.length ≤ 6∧∀ i (h:i < r.length),DC m i r[i]:=fun c hc=>
          hJ (i + 1,xs ++ [c]) ⟨h2,by simp only [List.length_append,List.length_cons,List.length_nil]; omega,fun j hj=>by
            simp only at hj ⊢
            by_cases hji:j < xs.length
            · rw [List.getElem_append_left hji]; exact a3 j hji
            · have:j = i:=by simp only [List.length_append,List.length_cons,List.length_nil] at hj; omega
              subst this
              rw [List.getElem_append_right (by omega)]
              simp only [List.getElem_singleton]
              exact hc⟩ (by simp only; omega)
        have hn:natOf (m:Int) = some m:=by unfold natOf; rw [if_pos (by omega),Int.toNat_natCast]
        have hw:∀ x:Nat,(0:Int) ≤ ((x % 10:Nat):Int)∧((x % 10:Nat):Int) ≤ 9:=fun x=>by omega
        rw [if_pos h2,List.getElem?_eq_getElem h1,obind,hn,obind]
        unfold remW
        rw [if_neg (shl_ne13 m hm),obind,cname27,obind,obind]
        split
        · rw [appS _ _ (by simp only [List.length_cons,List.length_nil]; omega),obind]
          refine next _ ⟨rfl,hw _,(show (1:UInt64) ≠ 0 by decide),?_⟩
          exact Nat.one_lt_two_pow (by omega)
        · rename_i h0
          rw [appS _ _ (by simp only [List.length_cons,List.length_nil]; omega),obind]
          refine next _ ⟨rfl,hw _,h0,?_⟩
          rw [UInt64.toNat_mod,shlU_one (by omega)]
          exact Nat.mod_lt _ (Nat.two_pow_pos m)
      · rw [if_neg h2]
        exact ⟨_,rfl,fin⟩
    · rw [if_neg h1]
      exact ⟨_,rfl,fin⟩
theorem cn_inj:∀ i,i < 6 → ∀ j,j < 6 → u8ofI ((97 + i:Nat):Int) = u8ofI ((97 + j:Nat):Int) → i = j:=by decide
theorem cn_let:∀ i,i < 6 → 32 ≤ (u8ofI ((97 + i:Nat):Int)).toNat∧(u8ofI ((97 + i:Nat):Int)).toNat ≤ 126:=by decide
theorem drafted_iv {m:Nat} {l:List TInterest} (hl:l.length ≤ 6) (h:∀ i (h:i < l.length),DC m i l[i]):IV (m:Int) l:=by
  refine ⟨fun i hi=>?_,fun i hi j hj e=>?_⟩
  · obtain ⟨d1,d2,d3,d4⟩:=h i hi
    refine ⟨⟨?_,?_,?_⟩,d2.1,by omega,d3,?_⟩
    · rw [d1]
      intro k hk
      have hk2:k < 2:=hk
      have:=cn_let i (by omega)
      match k,hk2 with
      | 0,_=>exact ⟨show 32 ≤ (99:UInt8).toNat by decide,show (99:UInt8).toNat ≤ 126 by decide⟩
      | 1,_=>exact this
    · rw [d1]; show 1 ≤ 2; decide
    · rw [d1]; show 2 ≤ 24; decide
    · have:=bln_small d4; omega
  · have e1:=(h j (by omega)).1
    have e2:=(h i hi).1
    rw [e1,e2] at e
    have e3:u8ofI ((97 + j:Nat):Int) = u8ofI ((97 + i:Nat):Int):=by
      have:=congrArg (fun b:ByteArray=>b.data[1]?) e
      simpa using this
    have:=cn_inj j (by omega) i (by omega) e3
    omega
theorem dc_bits {m i:Nat} {c:TInterest} (h:DC m i c) (j:Nat) (hb:bit c.fo j = true):j < m:=fits_iff.1 h.2.2.2 j hb
/-! ### What is told of each -/
structure VLs (r:TRoll) (p:List Int) (k:Nat) (l:List TInterest):Prop where
  b:balance_Check_p FU r p k = some 0
  c:interest_Check_p FU (p.length:Int) l = some 0
  n:l.length ≤ 20
  v:∀ c ∈ l,VC r p k c
def kp (p:List Int) (k:Nat) (c:TInterest):Bool:=decide ((prt c.fo p k).length = 1)
section
variable {r:TRoll} {p:List Int} {k:Nat} {l:List TInterest} (h:VLs r p k l)
include h
theorem parts27:interest_Parts_p FU l r p k = some (l.map fun c=>prt c.fo p k,0):=by
  have hF:=FU_lt
  have hn:=h.n
  unfold interest_Parts_p interest_need_p
  rw [h.b,obind,if_pos rfl,obind,exok,h.c,obind,if_pos rfl,obind,exok]
  have hh:=loop_ok (B:=interest_Parts_l1 FU l r p k) (fun s:Nat × List (List UInt64)=>l.length - s.1) (fun s=>s.1 ≤ l.length∧s.2 = (l.take s.1).map fun c=>prt c.fo p k) (fun y=>y = l.map fun c=>prt c.fo p k) ?_ FU (0,[]) ⟨Nat.zero_le _,rfl⟩ (by simp only; omega)
  · obtain ⟨y,e,rfl⟩:=hh
    rw [e,obind]
  · rintro ⟨i,xs⟩ J ⟨a1,a2⟩ hJ
    simp only at a1 a2 hJ
    subst a2
    unfold interest_Parts_l1
    simp only
    by_cases hi:i < l.length
    · have v:=h.v _ (List.getElem_mem hi)
      have next:=hJ (i + 1,(l.take (i + 1)).map fun c=>prt c.fo p k) ⟨hi,rfl⟩ (by simp only; omega)
      rw [List.take_succ_eq_append_getElem hi,List.map_append] at next
      rw [if_pos hi,List.getElem?_eq_getElem hi,obind,vparts27_ok r p k _ v.k8 v.pk v.ub,obind,appS _ _ (by simp only [List.length_map,List.length_take,List.length_cons,List.length_nil]; omega),obind]
      exact next
    · rw [if_neg hi]
      exact ⟨_,rfl,by rw [List.take_of_length_le (by omega)]⟩
theorem kept27:interest_Kept_p FU l r p k = some (l.map (kp p k),0):=by
  have hF:=FU_lt
  have hn:=h.n
  unfold interest_Kept_p interest_need_p
  rw [h.b,obind,if_pos rfl,obind,exok,h.c,obind,if_pos rfl,obind,exok]
  have hh:=loop_ok (B:=interest_Kept_l1 FU l r p k) (fun s:Nat × List Bool=>l.length - s.1) (fun s=>s.1 ≤ l.length∧s.2 = (l.take s.1).map (kp p k)) (fun y=>y = l.map (kp p k)) ?_ FU (0,[]) ⟨Nat.zero_le _,rfl⟩ (by simp only; omega)
  · obtain ⟨y,e,rfl⟩:=hh
    rw [e,obind]
  · rintro ⟨i,xs⟩ J ⟨a1,a2⟩ hJ
    simp only at a1 a2 hJ
    subst a2
    unfold interest_Kept_l1 interest_view_kept_p
    simp only
    by_cases hi:i < l.length
    · have v:=h.v _ (List.getElem_mem hi)
      have next:=hJ (i + 1,(l.take (i + 1)).map (kp p k)) ⟨hi,rfl⟩ (by simp only; omega)
      rw [List.take_succ_eq_append_getElem hi,List.map_append] at next
      rw [if_pos hi,List.getElem?_eq_getElem hi,obind,vparts27_ok r p k _ v.k8 v.pk v.ub,obind,obind,appS _ _ (by simp only [List.length_map,List.length_take,List.length_cons,List.length_nil]; omega),obind]
      exact next
    · rw [if_neg hi]
      exact ⟨_,rfl,by rw [List.take_of_length_le (by omega)]⟩
def lsh (r:TRoll) (p:List Int) (k:Nat) (c:TInterest):Rat:=Rat.divInt (mostL (wt r c.fo) (prt c.fo p k)) (ws (wt r c.fo) c.fo)
theorem largest27:interest_Largest_p FU l r p k = some (l.map fun c=>Sg (lsh r p k c),0):=by
  have hF:=FU_lt
  have hn:=h.n
  unfold interest_Largest_p interest_need_p
  rw [h.b,obind,if_pos rfl,obind,exok,h.c,obind,if_pos rfl,obind,exok]
  have hh:=loop_ok (B:=interest_Largest_l1 FU l r p k) (fun s:Nat × List TShare=>l.length - s.1) (fun s=>s.1 ≤ l.length∧s.2 = (l.take s.1).map fun c=>Sg (lsh r p k c)) (fun y=>y = .inr (l.map fun c=>Sg (lsh r p k c))) ?_ FU (0,[]) ⟨Nat.zero_le _,rfl⟩ (by simp only; omega)
  · obtain ⟨y,e,rfl⟩:=hh
    rw [e,thnI]
  · rintro ⟨i,xs⟩ J ⟨a1,a2⟩ hJ
    simp only at a1 a2 hJ
    subst a2
    unfold interest_Largest_l1
    simp only
    by_cases hi:i < l.length
    · have v:=h.v _ (List.getElem_mem hi)
      have next:=hJ (i + 1,(l.take (i + 1)).map fun c=>Sg (lsh r p k c)) ⟨hi,rfl⟩ (by simp only; omega)
      rw [List.take_succ_eq_append_getElem hi,List.map_append] at next
      rw [if_pos hi,List.getElem?_eq_getElem hi,obind,vlargest_ok v,obind,exok,appS _ _ (by simp only [List.length_map,List.length_take,List.length_cons,List.length_nil]; omega),obind]
      exact next
    · rw [if_neg hi]
      exact ⟨_,rfl,by rw [List.take_of_length_le (by omega)]⟩
end
end Go.Proofs.YtfccehcnajelgaaGreatDoor
