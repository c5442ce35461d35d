/- Plain laws: plans and rolls are checked alike. No program in sight but the printed functions. -/
import Derived.Test.YtcijnmkodpfpgaaGreatDoorZSEa
namespace Go.Proofs.YtcijnmkodpfpgaaGreatDoor
open Go
theorem clone_self {α:Type} [DecidableEq (List α)] (xs:List α) (h:xs.length ≤ 1000000):nilCase xs (some []) ((app [] xs).bind fun x=>some x) = some xs:=by
  rw [appS [] xs (by simpa using h),obind,List.nil_append]
  unfold nilCase
  cases xs with
  | nil=>simp
  | cons a l=>rfl
theorem cloneP_ok (xs:List Int) (h:xs.length ≤ 1000000):slices_Clone_api_Plan_int_p FU xs = some xs:=clone_self xs h
theorem cloneI_ok (xs:List Int) (h:xs.length ≤ 1000000):slices_Clone_int_int_p FU xs = some xs:=clone_self xs h
theorem all_loop {α β:Type} {l:List α} (P:α → Prop) [DecidablePred P] (e:β) {B:(Nat → Option (β ⊕ Unit)) → Nat → Option (β ⊕ Unit)} (hB:∀ J i,B J i = if h:i < l.length then (if P l[i] then J (i + 1) else some (.inl e)) else some (.inr ())) {n:Nat} (hn:l.length < n) :
    loopF B n 0 = if ∀ x ∈ l,P x then some (.inr ()) else some (.inl e):=by
  have key:∀ m i,l.length - i < m → loopF B m i = if ∀ x ∈ l.drop i,P x then some (.inr ()) else some (.inl e):=by
    intro m
    induction m with
    | zero=>intro i h; omega
    | succ m ih=>
      intro i h
      rw [loopF_succ,hB]
      by_cases hi:i < l.length
      · rw [dif_pos hi]
        have hd:=List.drop_eq_getElem_cons hi
        by_cases hp:P l[i]
        · have:(∀ x ∈ l.drop i,P x) ↔ ∀ x ∈ l.drop (i + 1),P x:=by
            rw [hd]
            exact ⟨fun h2 x hx=>h2 x (List.mem_cons_of_mem _ hx),fun h2 x hx=>(List.mem_cons.1 hx).elim (fun e=>e ▸ hp) (h2 x)⟩
          rw [if_pos hp,ih (i + 1) (by omega)]
          simp only [this]
        · rw [if_neg hp,if_neg fun h2=>hp (h2 _ (by rw [hd]; exact List.mem_cons_self ..))]
      · rw [dif_neg hi,List.drop_eq_nil_of_le (by omega)]; simp
  have:=key n 0 (by omega)
  simpa using this
theorem labelsP_ok (p:List Int) (k:Int) (h:p.length ≤ 9) (h1:1 ≤ p.length):plan_labels_p FU p k = some (decide (∀ x ∈ p,0 ≤ x∧x < k)):=by
  have hF:=FU_lt
  unfold plan_labels_p
  rw [all_loop (l:=p) (fun x=>0 ≤ x∧x < k) false (fun J i=>?_) (by omega)]
  · split
    · rename_i hx
      unfold thn
      simp only
      try rw [if_pos (by omega)]
      rw [decide_eq_true hx,decide_eq_true (by omega)]
    · rename_i hx
      unfold thn
      simp only
      rw [decide_eq_false hx]
  · unfold plan_labels_l1
    simp only
    by_cases hi:i < p.length
    · rw [if_pos hi,dif_pos hi,List.getElem?_eq_getElem hi,obind]
      by_cases h0:p[i] < 0
      · rw [if_pos h0,if_neg (by omega)]
      · rw [if_neg h0]
        by_cases h2:k ≤ p[i]
        · rw [if_pos h2,if_neg (by omega)]
        · rw [if_neg h2,if_pos (by omega)]
    · rw [if_neg hi,dif_neg hi]
theorem labelsR_ok (p:List Int) (k:Int) (h:p.length ≤ 9) (h1:1 ≤ p.length):wardmoteref21_Labels_p FU p k = some (decide (∀ x ∈ p,0 ≤ x∧x < k)):=by
  have hF:=FU_lt
  unfold wardmoteref21_Labels_p
  rw [all_loop (l:=p) (fun x=>0 ≤ x∧x < k) false (fun J i=>?_) (by omega)]
  · split
    · rename_i hx
      unfold thn
      simp only
      try rw [if_pos (by omega)]
      rw [decide_eq_true hx,decide_eq_true (by omega)]
    · rename_i hx
      unfold thn
      simp only
      rw [decide_eq_false hx]
  · unfold wardmoteref21_Labels_l1
    simp only
    by_cases hi:i < p.length
    · rw [if_pos hi,dif_pos hi,List.getElem?_eq_getElem hi,obind]
      by_cases h0:p[i] < 0
      · rw [if_pos h0,if_neg (by omega)]
      · rw [if_neg h0]
        by_cases h2:k ≤ p[i]
        · rw [if_pos h2,if_neg (by omega)]
        · rw [if_neg h2,if_pos (by omega)]
    · rw [if_neg hi,dif_neg hi]
theorem shl1_ne:∀ i < 9,shlU (1:UInt64) i ≠ 0:=by decide
theorem masks_ok (p:List Int) (k:Int) (h:p.length ≤ 9) (k1:1 ≤ k) (k8:k ≤ 8) (hp:∀ x ∈ p,0 ≤ x∧x < k):∃ ms,loopF (plan_parts_l2 FU p) FU (0,List.replicate k.toNat 0) = some ms∧ms.length = k.toNat∧∀ d (hd:d < ms.length),ms[d] ≠ 0 ↔ (d:Int) ∈ p:=by
  have hF:=FU_lt
  refine loop_ok (B:=plan_parts_l2 FU p) (fun s:Nat × List UInt64=>p.length - s.1) (fun s=>s.1 ≤ p.length∧s.2.length = k.toNat∧∀ d (hd:d < s.2.length),s.2[d] ≠ 0 ↔ (d:Int) ∈ p.take s.1) _ ?_ FU (0,List.replicate k.toNat 0) ⟨by simp,by simp,fun d hd=>by simp⟩ (by simp only; omega)
  rintro ⟨i,ms⟩ J ⟨a1,a2,a3⟩ hJ
  simp only at a1 a2 a3 hJ
  unfold plan_parts_l2
  simp only
  split
  · rename_i hi
    have hx:=hp p[i] (List.getElem_mem _)
    have hm:p[i].toNat < ms.length:=by omega
    rw [List.getElem?_eq_getElem hi,obind,idx_ok hx.1 hm,obind,put_ok _ hm,obind]
    refine hJ _ ⟨hi,by simpa using a2,fun d hd=>?_⟩ (by simp only; omega)
    simp only [List.length_set] at hd ⊢
    rw [List.take_succ_eq_append_getElem hi,List.mem_append,List.mem_singleton]
    by_cases e:p[i].toNat = d
    · subst e
      rw [List.getElem_set_self]
      constructor
      · intro _; right; omega
      · intro _ h0
        exact shl1_ne i (by omega) (UInt64.or_eq_zero_iff.1 h0).2
    · rw [List.getElem_set_ne e,a3 d hd]
      constructor
      · exact .inl
      · rintro (h1 | h1)
        · exact h1
        · omega
  · rename_i hi
    exact ⟨_,rfl,a2,by rwa [List.take_of_length_le (by omega)] at a3⟩
theorem parts_ok (p:List Int) (k:Int) (h:p.length ≤ 9) (k1:1 ≤ k) (k8:k ≤ 8) (hp:∀ x ∈ p,0 ≤ x∧x < k):∃ y,plan_parts_p FU p k = some y∧(y.2 = true ↔ ∀ d,0 ≤ d → d < k → d ∈ p):=by
  have hF:=FU_lt
  obtain ⟨ms,e,l1,l2⟩:=masks_ok p k h k1 k8 hp
  have hh:=loop_ok (B:=plan_parts_l1 FU k ms) (fun z:Int=>k.toNat - z.toNat) (fun z=>0 ≤ z∧z ≤ k∧∀ d,0 ≤ d → d < z → d ∈ p) (fun y=>(y = .inr ()∧∀ d,0 ≤ d → d < k → d ∈ p) ∨ ∃ q,y = .inl (q,false)∧¬ ∀ d,0 ≤ d → d < k → d ∈ p) ?_ FU 0 ⟨by omega,by omega,fun d h1 h2=>by omega⟩ (by omega)
  · obtain ⟨y,e2,hy⟩:=hh
    unfold plan_parts_p
    rw [show mk k (0:UInt64) = some (List.replicate k.toNat 0) from if_pos ⟨by omega,by omega⟩,obind,e,obind,e2]
    rcases hy with ⟨rfl,hy⟩ | ⟨q,rfl,hy⟩
    · exact ⟨_,rfl,by simpa using hy⟩
    · exact ⟨_,rfl,by simpa using hy⟩
  · intro z J ⟨a1,a2,a3⟩ hJ
    unfold plan_parts_l1
    simp only
    split
    · rename_i hz
      have hm:z.toNat < ms.length:=by omega
      have hl:=l2 z.toNat hm
      rw [show ((z.toNat:Nat):Int) = z by omega] at hl
      rw [idx_ok a1 hm,obind]
      by_cases h0:ms[z.toNat] = 0
      · rw [if_pos h0]
        refine ⟨_,rfl,.inr ⟨_,rfl,fun hall=>?_⟩⟩
        exact (hl.2 (hall z a1 hz)) h0
      · rw [if_neg h0,chkI (by omega) (by omega),obind]
        refine hJ _ ⟨by omega,by omega,fun d d0 d1=>?_⟩ (by omega)
        by_cases hd:d = z
        · rw [hd]; exact hl.1 h0
        · exact a3 d d0 (by omega)
    · exact ⟨_,rfl,.inl ⟨rfl,fun d d0 d1=>a3 d d0 (by omega)⟩⟩
theorem mask_ok (p:List Int) (d:Int) (h:p.length ≤ 9):∃ u,wardmoteref21_Mask_p FU p d = some u∧(u = 0 ↔ d ∉ p):=by
  have hF:=FU_lt
  have hh:=loop_ok (B:=wardmoteref21_Mask_l1 FU p d) (fun s:UInt64 × Nat=>p.length - s.2) (fun s=>s.2 ≤ p.length∧(s.1 = 0 ↔ d ∉ p.take s.2)) (fun u=>u = 0 ↔ d ∉ p) ?_ FU (0,0) ⟨by simp,by simp⟩ (by simp only; omega)
  · obtain ⟨u,e,hu⟩:=hh
    refine ⟨u,?_,hu⟩
    unfold wardmoteref21_Mask_p
    rw [e,obind]
  · rintro ⟨u,i⟩ J ⟨a1,a2⟩ hJ
    simp only at a1 a2 hJ
    unfold wardmoteref21_Mask_l1
    simp only
    split
    · rename_i hi
      rw [List.getElem?_eq_getElem hi,obind]
      by_cases hd:p[i] = d
      · rw [if_pos hd]
        refine hJ _ ⟨hi,?_⟩ (by simp only; omega)
        simp only
        rw [List.take_succ_eq_append_getElem hi]
        constructor
        · intro h0; exact absurd (UInt64.or_eq_zero_iff.1 h0).2 (shl1_ne i (by omega))
        · intro h0; exact absurd (List.mem_append_right _ (List.mem_singleton.2 hd.symm)) h0
      · rw [if_neg hd]
        refine hJ _ ⟨hi,?_⟩ (by simp only; omega)
        simp only
        rw [List.take_succ_eq_append_getElem hi,a2]
        simp only [List.mem_append,List.mem_singleton]
        constructor
        · rintro h0 (h1 | h1)
          · exact h0 h1
          · exact hd h1.symm
        · intro h0 h1; exact h0 (.inl h1)
    · exact ⟨_,rfl,by rwa [List.take_of_length_le (by omega)] at a2⟩
theorem allR_ok (p:List Int) (k:Int) (h:p.length ≤ 9) (k1:1 ≤ k) (k8:k ≤ 8):∃ q,wardmoteref21_all_p FU p k = some q∧(q = true ↔ ∀ d,0 ≤ d → d < k → d ∈ p):=by
  have hF:=FU_lt
  have hh:=loop_ok (B:=wardmoteref21_all_l1 FU k p) (fun z:Int=>k.toNat - z.toNat) (fun z=>0 ≤ z∧z ≤ k∧∀ d,0 ≤ d → d < z → d ∈ p) (fun y=>(y = .inr ()∧∀ d,0 ≤ d → d < k → d ∈ p) ∨ y = .inl false∧¬ ∀ d,0 ≤ d → d < k → d ∈ p) ?_ FU 0 ⟨by omega,by omega,fun d h1 h2=>by omega⟩ (by omega)
  · obtain ⟨y,e2,hy⟩:=hh
    unfold wardmoteref21_all_p
    rw [e2]
    rcases hy with ⟨rfl,hy⟩ | ⟨rfl,hy⟩
    · exact ⟨_,rfl,by simpa using hy⟩
    · exact ⟨_,rfl,by simpa using hy⟩
  · intro z J ⟨a1,a2,a3⟩ hJ
    unfold wardmoteref21_all_l1
    simp only
    split
    · rename_i hz
      obtain ⟨u,e,hu⟩:=mask_ok p z h
      rw [e,obind]
      by_cases h0:u = 0
      · rw [if_pos h0]
        exact ⟨_,rfl,.inr ⟨rfl,fun hall=>hu.1 h0 (hall z a1 hz)⟩⟩
      · rw [if_neg h0,chkI (by omega) (by omega),obind]
        refine hJ _ ⟨by omega,by omega,fun d d0 d1=>?_⟩ (by omega)
        by_cases hd:d = z
        · rw [hd]; exact Classical.byContradiction fun hn=>h0 (hu.2 hn)
        · exact a3 d d0 (by omega)
    · exact ⟨_,rfl,.inl ⟨rfl,fun d d0 d1=>a3 d d0 (by omega)⟩⟩
open Classical in
noncomputable def chkP (n:Nat) (p:List Int) (k:Int):Int:=if 1 ≤ k∧k ≤ 8 then if Fits n p k then 0 else 210 else 2
theorem planP_ok (g:TGraph) (n:Nat) (hg:graph_Check_p FU g = some 0) (hn:g.fN = n) (h1:1 ≤ n) (h9:n ≤ 9) (p:List Int) (k:Int):plan_Check_p FU g p k = some (chkP n p k):=by
  unfold plan_Check_p chkP
  rw [hg,obind,if_pos rfl]
  by_cases ka:k < 1
  · rw [if_pos ka,if_neg (by omega)]
  · rw [if_neg ka]
    by_cases kb:8 < k
    · rw [if_pos kb,if_neg (by omega)]
    · rw [if_neg kb,if_pos (show 1 ≤ k∧k ≤ 8 by omega)]
      by_cases hl:p.length = n
      · rw [if_pos (by omega),labelsP_ok p k (by omega) (by omega),obind]
        by_cases hx:∀ x ∈ p,0 ≤ x∧x < k
        · rw [if_pos (decide_eq_true hx)]
          obtain ⟨y,e,hy⟩:=parts_ok p k (by omega) (by omega) (by omega) hx
          rw [e,obind]
          by_cases hq:y.2 = true
          · rw [if_pos hq,if_pos ⟨hl,hx,hy.1 hq⟩]
          · rw [if_neg hq,if_neg fun hf=>hq (hy.2 hf.2.2)]
        · rw [if_neg (by simpa using hx),if_neg fun hf=>hx hf.2.1]
      · rw [if_neg (by omega),if_neg fun hf=>hl hf.1]
theorem planR_ok (g:TGraph) (n:Nat) (hg:wardmoteref18_Check_p FU g = some 0) (hn:g.fN = n) (h1:1 ≤ n) (h9:n ≤ 9) (p:List Int) (k:Int):wardmoteref21_Check_p FU g p k = some (chkP n p k):=by
  unfold wardmoteref21_Check_p chkP
  rw [hg,obind,if_pos rfl]
  by_cases ka:k < 1
  · rw [if_pos ka,if_neg (by omega)]
  · rw [if_neg ka]
    by_cases kb:8 < k
    · rw [if_pos kb,if_neg (by omega)]
    · rw [if_neg kb,if_pos (show 1 ≤ k∧k ≤ 8 by omega)]
      by_cases hl:p.length = n
      · rw [if_pos (by omega),labelsR_ok p k (by omega) (by omega),obind]
        by_cases hx:∀ x ∈ p,0 ≤ x∧x < k
        · rw [if_pos (decide_eq_true hx)]
          obtain ⟨q,e,hy⟩:=allR_ok p k (by omega) (by omega) (by omega)
          rw [e,obind]
          by_cases hq:q = true
          · rw [if_pos hq,if_pos ⟨hl,hx,hy.1 hq⟩]
          · rw [if_neg hq,if_neg fun hf=>hq (hy.2 hf.2.2)]
        · rw [if_neg (by simpa using hx),if_neg fun hf=>hx hf.2.1]
      · rw [if_neg (by omega),if_neg fun hf=>hl hf.1]
end Go.Proofs.YtcijnmkodpfpgaaGreatDoor
