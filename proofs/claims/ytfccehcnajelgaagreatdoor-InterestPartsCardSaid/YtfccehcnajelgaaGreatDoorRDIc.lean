/- Plain laws: lists of communities, checked by both. No program in sight but the printed functions. -/
import Derived.Test.YtfccehcnajelgaaGreatDoorRDIb
namespace Go.Proofs.YtfccehcnajelgaaGreatDoor
open Go
set_option maxRecDepth 8000
theorem thnI {α β:Type} (x:β) (K:β → Option α):thn (some (Sum.inr x)) K = K x:=rfl
def NmB (s:ByteArray):Prop:=∀ (i:Nat) (h:i < s.data.size),32 ≤ s.data[i].toNat∧s.data[i].toNat ≤ 126
theorem sidx_ok {s:ByteArray} {i:Nat} (h:i < s.data.size):sidx s (i:Int) = some s.data[i]:=by
  unfold sidx
  rw [if_pos (by omega),Int.toNat_natCast,Array.getElem?_eq_getElem h]
theorem right_loop (c:TInterest) (hs:c.fp.size ≤ 1000):∃ y,loopF (interest_right_l1 FU c) FU 0 = some y∧(y = .inr ()∧NmB c.fp ∨ y = .inl false∧¬ NmB c.fp):=by
  have hF:=FU_lt
  have hsz:c.fp.size = c.fp.data.size:=rfl
  refine loop_ok (B:=interest_right_l1 FU c) (fun z:Int=>c.fp.size - z.toNat) (fun z=>0 ≤ z∧z ≤ c.fp.size∧∀ (i:Nat) (h:i < c.fp.data.size),(i:Int) < z → 32 ≤ c.fp.data[i].toNat∧c.fp.data[i].toNat ≤ 126) _ ?_ FU 0 ⟨by omega,by omega,fun i _ h=>by omega⟩ (by omega)
  rintro z J ⟨z0,z1,z2⟩ hJ
  obtain ⟨i,rfl⟩:∃ i:Nat,z = (i:Int):=⟨z.toNat,by omega⟩
  unfold interest_right_l1
  simp only
  by_cases hi:(i:Int) < c.fp.size
  · have hi2:i < c.fp.data.size:=by omega
    rw [if_pos (by omega),sidx_ok hi2,obind]
    by_cases c1:c.fp.data[i].toNat < 32
    · rw [if_pos c1]; exact ⟨_,rfl,.inr ⟨rfl,fun h=>by have:=h i hi2; omega⟩⟩
    · rw [if_neg c1,obind]
      by_cases c2:126 < c.fp.data[i].toNat
      · rw [if_pos c2]; exact ⟨_,rfl,.inr ⟨rfl,fun h=>by have:=h i hi2; omega⟩⟩
      · rw [if_neg c2,chkI (by omega) (by omega),obind]
        refine hJ _ ⟨by omega,by omega,fun j hj hjz=>?_⟩ (by omega)
        by_cases e:j = i
        · subst e; omega
        · exact z2 j hj (by omega)
  · rw [if_neg (by omega)]
    exact ⟨_,rfl,.inl ⟨rfl,fun j hj=>z2 j hj (by omega)⟩⟩
def CV (n:Int) (c:TInterest):Prop:=(NmB c.fp∧1 ≤ c.fp.size∧c.fp.size ≤ 24)∧0 ≤ c.fy∧c.fy ≤ 1000∧c.fo ≠ 0∧(bln c.fo.toNat:Int) ≤ n
theorem empty_iff (s:ByteArray):s = ⟨#[]⟩ ↔ s.size = 0:=by
  constructor
  · rintro rfl; rfl
  · intro h
    cases s with
    | mk d=>exact congrArg ByteArray.mk (Array.eq_empty_of_size_eq_zero h)
open Classical in
theorem right_okI (n:Int) (c:TInterest) (hs:c.fp.size ≤ 1000):interest_right_p FU c n = some (decide (CV n c)):=by
  obtain ⟨y,e,hy⟩:=right_loop c hs
  unfold interest_right_p
  rw [e]
  rcases hy with ⟨rfl,h⟩ | ⟨rfl,h⟩
  · show (if c.fp = ⟨#[]⟩ then some false else _) = _
    by_cases h1:c.fp = ⟨#[]⟩
    · rw [if_pos h1,decide_eq_false fun hc=>by have:=(empty_iff _).1 h1; have:=hc.1.2.1; omega]
    have h1' : 1 ≤ c.fp.size:=Nat.pos_of_ne_zero fun e=>h1 ((empty_iff _).2 e)
    rw [if_neg h1]
    by_cases h2:c.fp.size ≤ 24
    · rw [if_pos h2]
      by_cases h3:0 ≤ c.fy
      · rw [if_pos h3]
        by_cases h4:c.fy ≤ 1000
        · rw [if_pos h4]
          by_cases h5:c.fo = 0
          · rw [if_pos h5,decide_eq_false fun hc=>hc.2.2.2.1 h5]
          · rw [if_neg h5,len64_ok,obind]
            exact congrArg some (decide_eq_decide.2 ⟨fun h6=>⟨⟨h,h1', h2⟩,h3,h4,h5,h6⟩,fun hc=>hc.2.2.2.2⟩)
        · rw [if_neg h4,decide_eq_false fun hc=>h4 hc.2.2.1]
      · rw [if_neg h3,decide_eq_false fun hc=>h3 hc.2.1]
    · rw [if_neg h2,decide_eq_false fun hc=>h2 hc.1.2.2]
  · show some false = _
    rw [decide_eq_false fun hc=>h hc.1.1]
structure IV (n:Int) (l:List TInterest):Prop where
  u:∀ i (h:i < l.length),CV n l[i]
  d:∀ i (h:i < l.length) j (h' : j < i),l[j].fp ≠ l[i].fp
open Classical in
theorem checkI_eq (n:Int) (l:List TInterest) (hs:∀ c ∈ l,c.fp.size ≤ 1000):interest_Check_p FU n l = some (if n < 1 then 2 else if 64 < n then 2 else if 20 < l.length then 3 else if IV n l then 0 else 270):=by
  have hF:=FU_lt
  unfold interest_Check_p
  by_cases c1:n < 1
  · rw [if_pos c1,if_pos c1]
  by_cases c2:64 < n
  · rw [if_neg c1,if_neg c1,if_pos c2,if_pos c2]
  by_cases c3:20 < l.length
  · rw [if_neg c1,if_neg c1,if_neg c2,if_neg c2,if_pos c3,if_pos c3]
  rw [if_neg c1,if_neg c1,if_neg c2,if_neg c2,if_neg c3,if_neg c3]
  have hh:=loop_ok (B:=interest_Check_l1 FU l n) (fun s:Nat × List (ByteArray × Bool)=>l.length - s.1)
    (fun s=>s.1 ≤ l.length∧(∀ x,mgetD s.2 x false = true ↔ ∃ j,∃ hj:j < l.length,j < s.1∧l[j].fp = x)∧(∀ i (h:i < l.length),i < s.1 → CV n l[i])∧(∀ i (h:i < l.length) j (h' : j < i),i < s.1 → l[j].fp ≠ l[i].fp))
    (fun y=>y = .inr ()∧IV n l ∨ y = .inl 270∧¬ IV n l) ?_ FU (0,[]) ⟨Nat.zero_le _,fun x=>⟨fun hx=>by simp [mgetD,mget] at hx,fun ⟨j,_,hj,_⟩=>by simp at hj⟩,fun i _ hi=>by simp at hi,fun i _ j _ hi=>by simp at hi⟩ (by simp only; omega)
  · obtain ⟨y,e,hy⟩:=hh
    rw [e]
    rcases hy with ⟨rfl,hv⟩ | ⟨rfl,hv⟩
    · rw [if_pos hv]; rfl
    · rw [if_neg hv]; rfl
  · rintro ⟨i,D⟩ J ⟨a1,a2,a3,a4⟩ hJ
    simp only at a1 a2 a3 a4 hJ
    unfold interest_Check_l1
    simp only
    by_cases hi:i < l.length
    · rw [if_pos hi,List.getElem?_eq_getElem hi,obind]
      by_cases hd:mgetD D l[i].fp false = true
      · rw [if_pos hd]
        obtain ⟨j,hj,hji,e⟩:=(a2 _).1 hd
        exact ⟨_,rfl,.inr ⟨rfl,fun hc=>hc.d i hi j hji e⟩⟩
      · rw [if_neg hd,right_okI n _ (hs _ (List.getElem_mem _)),obind]
        by_cases hv:CV n l[i]
        · rw [if_pos (decide_eq_true hv)]
          refine hJ _ ⟨hi,fun x=>?_,fun k hk hki=>?_,fun k hk j hj hki=>?_⟩ (by simp only; omega)
          · simp only
            unfold mgetD
            rw [mget_mset]
            by_cases e:x = l[i].fp
            · rw [if_pos e]
              exact ⟨fun _=>⟨i,hi,by omega,e.symm⟩,fun _=>rfl⟩
            · rw [if_neg e]
              have:=a2 x
              unfold mgetD at this
              rw [this]
              exact ⟨fun ⟨j,h1,h2,h3⟩=>⟨j,h1,by omega,h3⟩,fun ⟨j,h1,h2,h3⟩=>⟨j,h1,by
                have:j ≠ i:=fun e2=>by subst e2; exact e h3.symm
                omega,h3⟩⟩
          · by_cases e:k = i
            · subst e; exact hv
            · exact a3 k hk (by simp only at hki; omega)
          · by_cases e:k = i
            · subst e
              exact fun e2=>hd ((a2 _).2 ⟨j,by omega,hj,e2⟩)
            · exact a4 k hk j hj (by simp only at hki; omega)
        · rw [if_neg (by simpa using hv)]
          exact ⟨_,rfl,.inr ⟨rfl,fun hc=>hv (hc.u i hi)⟩⟩
    · rw [if_neg hi]
      exact ⟨_,rfl,.inl ⟨rfl,fun k hk=>a3 k hk (by omega),fun k hk j hj=>a4 k hk j hj (by omega)⟩⟩
end Go.Proofs.YtfccehcnajelgaaGreatDoor
