/- Plain laws: the largest share of a community. No program in sight but the printed functions. -/
import Derived.Test.YtfccehcnajelgaaGreatDoorRDIe
namespace Go.Proofs.YtfccehcnajelgaaGreatDoor
open Go
set_option maxRecDepth 8000
theorem exok {ε α β:Type} (x:α) (f:α → Option β) (g:ε → Option β):exc (.ok x) f g = f x:=rfl
theorem iof {a b:Int} (h0:b ≠ 0) (ha:Sm a) (hb:Sm b):interest_of_p FU a b = some (.ok (Sg (Rat.divInt a b))):=by
  unfold interest_of_p interest_must_api_Share_p
  rw [sof h0 ha hb]; rfl
def mostL (w:Nat → Int) (l:List UInt64):Int:=l.foldl (fun z m=>max z (ws w m)) 0
theorem fold_max (w:Nat → Int):∀ (l:List UInt64) (z:Int),z ≤ l.foldl (fun z m=>max z (ws w m)) z∧(∀ m ∈ l,ws w m ≤ l.foldl (fun z m=>max z (ws w m)) z)∧(l.foldl (fun z m=>max z (ws w m)) z = z ∨ ∃ m ∈ l,l.foldl (fun z m=>max z (ws w m)) z = ws w m)
  | [],z=>⟨Int.le_refl _,(fun m hm=>by cases hm),.inl rfl⟩
  | m :: l,z=>by
    obtain ⟨h1,h2,h3⟩:=fold_max w l (max z (ws w m))
    rw [List.foldl_cons]
    refine ⟨by omega,fun x hx=>?_,?_⟩
    · rcases List.mem_cons.1 hx with rfl | hx
      · omega
      · exact h2 x hx
    · rcases h3 with h3 | ⟨x,hx,h3⟩
      · by_cases hz:ws w m ≤ z
        · exact .inl (by rw [h3]; omega)
        · exact .inr ⟨m,List.mem_cons_self ..,by rw [h3]; omega⟩
      · exact .inr ⟨x,List.mem_cons_of_mem _ hx,h3⟩
theorem mostL_snoc (w:Nat → Int) (l:List UInt64) (m:UInt64):mostL w (l ++ [m]) = max (mostL w l) (ws w m):=by
  unfold mostL; rw [List.foldl_append]; rfl
def wt (r:TRoll) (u:UInt64):Nat → Int:=if ws (ppo r) u = 0 then fun _=>1 else ppo r
structure VC (r:TRoll) (p:List Int) (k:Nat) (c:TInterest):Prop where
  k8:k ≤ 8
  pk:∀ x ∈ p,0 ≤ x∧x < (k:Int)
  ub:∀ i,bit c.fo i = true → i < p.length
  n:p.length ≤ r.fo.length
  h:∀ u ∈ r.fo,0 ≤ u.fE∧u.fE ≤ 1000000000
  z:c.fo ≠ 0
theorem prt_mem {u:UInt64} {p:List Int} {k:Nat} {m:UInt64} (h:m ∈ prt u p k):m ≠ 0∧∃ d,d < k∧m = pm u p (d:Int):=by
  unfold prt at h
  obtain ⟨h1,h2⟩:=List.mem_filter.1 h
  obtain ⟨d,hd,rfl⟩:=List.mem_map.1 h1
  exact ⟨by simpa using h2,d,List.mem_range.1 hd,rfl⟩
theorem prt_sub {u:UInt64} {p:List Int} {k:Nat} {m:UInt64} (h:m ∈ prt u p k) {i:Nat} (hb:bit m i = true):bit u i = true:=by
  obtain ⟨_,d,_,rfl⟩:=prt_mem h
  rw [bit_pm,Bool.and_eq_true] at hb
  exact hb.1
section
variable {r:TRoll} {p:List Int} {k:Nat} {c:TInterest} (v:VC r p k c)
include v
theorem ppo_ok (i:Nat):0 ≤ ppo r i∧ppo r i ≤ 1000000000:=by
  unfold ppo
  by_cases hi:i < r.fo.length
  · rw [List.getElem?_eq_getElem hi]; exact v.h _ (List.getElem_mem hi)
  · rw [List.getElem?_eq_none (by omega)]; exact ⟨Int.le_refl _,by decide⟩
theorem wt_ok (i:Nat):0 ≤ wt r c.fo i∧wt r c.fo i ≤ 1000000000:=by
  unfold wt
  split
  · exact ⟨show (0:Int) ≤ 1 by decide,show (1:Int) ≤ 1000000000 by decide⟩
  · exact ppo_ok v i
theorem wt_pos:0 < ws (wt r c.fo) c.fo:=by
  unfold wt
  by_cases h:ws (ppo r) c.fo = 0
  · rw [if_pos h]
    obtain ⟨i,hi⟩:=ne_zero_bit v.z
    have key:∀ l:List Nat,(l.map fun _=>(1:Int)).sum = l.length:=fun l=>by
      induction l with
      | nil=>rfl
      | cons i l ih=>rw [List.map_cons,List.sum_cons,ih,List.length_cons]; omega
    unfold ws
    rw [key]
    have:=List.length_pos_of_mem (mem_bitsL.2 hi)
    omega
  · rw [if_neg h]
    have:=ws_nn (w:=ppo r) (u:=c.fo) fun i _=>(ppo_ok v i).1
    omega
theorem wt_bound (m:UInt64):0 ≤ ws (wt r c.fo) m∧ws (wt r c.fo) m ≤ 64000000000:=by
  refine ⟨ws_nn fun i _=>(wt_ok v i).1,?_⟩
  have:=ws_le (w:=wt r c.fo) (u:=m) (B:=1000000000) (by decide) fun i _=>(wt_ok v i).2
  omega
theorem most_bound (l:List UInt64):0 ≤ mostL (wt r c.fo) l∧mostL (wt r c.fo) l ≤ 64000000000:=by
  obtain ⟨h1,_,h3⟩:=fold_max (wt r c.fo) l 0
  refine ⟨h1,?_⟩
  unfold mostL
  rcases h3 with h3 | ⟨m,_,h3⟩
  · rw [h3]; decide
  · rw [h3]; exact (wt_bound v m).2
theorem vlargest_ok:interest_view_largest_p FU ⟨r,p,(k:Int)⟩ c = some (.ok (Sg (Rat.divInt (mostL (wt r c.fo) (prt c.fo p k)) (ws (wt r c.fo) c.fo)))):=by
  have hF:=FU_lt
  have hb:=most_bound v (prt c.fo p k)
  have hw:=wt_bound v c.fo
  have hp:=wt_pos v
  have hun:∀ i,bit c.fo i = true → i < r.fo.length:=fun i hi=>Nat.lt_of_lt_of_le (v.ub i hi) v.n
  unfold interest_view_largest_p
  have hpl:(prt c.fo p k).length ≤ 8:=by
    unfold prt
    refine Nat.le_trans (List.length_filter_le ..) ?_
    rw [List.length_map,List.length_range]; exact v.k8
  rw [people27_ok r p k c.fo v.h hun,obind,vparts27_ok r p k c v.k8 v.pk v.ub]
  have hsub:∀ m ∈ prt c.fo p k,∀ i,bit m i = true → i < r.fo.length:=fun m hm i hi=>hun i (prt_sub hm hi)
  unfold wt at *
  by_cases h0:ws (ppo r) c.fo = 0
  · rw [if_pos h0] at hb hw hp
    rw [if_pos h0,if_pos h0,obind]
    generalize prt c.fo p k = P at *
    have hh:=loop_ok (B:=interest_view_largest_l1 FU P) (fun s:Int × Nat=>P.length - s.2) (fun s=>s.2 ≤ P.length∧s.1 = mostL (fun _=>1) (P.take s.2)) (fun y=>y = mostL (fun _=>1) P) ?_ FU (0,0) ⟨Nat.zero_le _,rfl⟩ (by simp only; omega)
    · obtain ⟨y,e,rfl⟩:=hh
      rw [e,obind,ones27,obind,iof (by omega) (by unfold Sm; omega) (by unfold Sm; omega),obind,exok]
    · rintro ⟨z,i⟩ J ⟨a1,a2⟩ hJ
      simp only at a1 a2 hJ
      subst a2
      unfold interest_view_largest_l1
      simp only
      by_cases hi:i < P.length
      · have next:=hJ (mostL (fun _=>1) (P.take (i + 1)),i + 1) ⟨hi,rfl⟩ (by simp only; omega)
        rw [List.take_succ_eq_append_getElem hi,mostL_snoc] at next
        rw [if_pos hi,List.getElem?_eq_getElem hi,obind,ones27,obind]
        exact next
      · rw [if_neg hi]
        exact ⟨_,rfl,by rw [List.take_of_length_le (by omega)]⟩
  · rw [if_neg h0] at hb hw hp
    rw [if_neg h0,if_neg h0,obind]
    generalize prt c.fo p k = P at *
    have hh:=loop_ok (B:=interest_view_largest_l2 FU P ⟨r,p,(k:Int)⟩) (fun s:Int × Nat=>P.length - s.2) (fun s=>s.2 ≤ P.length∧s.1 = mostL (ppo r) (P.take s.2)) (fun y=>y = mostL (ppo r) P) ?_ FU (0,0) ⟨Nat.zero_le _,rfl⟩ (by simp only; omega)
    · obtain ⟨y,e,rfl⟩:=hh
      rw [e,obind,obind,iof (by omega) (by unfold Sm; omega) (by unfold Sm; omega),obind,exok]
    · rintro ⟨z,i⟩ J ⟨a1,a2⟩ hJ
      simp only at a1 a2 hJ
      subst a2
      unfold interest_view_largest_l2
      simp only
      by_cases hi:i < P.length
      · have next:=hJ (mostL (ppo r) (P.take (i + 1)),i + 1) ⟨hi,rfl⟩ (by simp only; omega)
        rw [List.take_succ_eq_append_getElem hi,mostL_snoc] at next
        rw [if_pos hi,List.getElem?_eq_getElem hi,obind,people27_ok r p k _ v.h (hsub _ (List.getElem_mem hi)),obind]
        exact next
      · rw [if_neg hi]
        exact ⟨_,rfl,by rw [List.take_of_length_le (by omega)]⟩
theorem most_le:mostL (wt r c.fo) (prt c.fo p k) ≤ ws (wt r c.fo) c.fo∧ws (wt r c.fo) c.fo ≤ (prt c.fo p k).length * mostL (wt r c.fo) (prt c.fo p k):=by
  obtain ⟨h1,h2,h3⟩:=fold_max (wt r c.fo) (prt c.fo p k) 0
  have hs:=prt_sum (wt r c.fo) c.fo p k v.pk v.ub
  have hnn:∀ m,0 ≤ ws (wt r c.fo) m:=fun m=>(wt_bound v m).1
  have key:∀ l:List UInt64,0 ≤ (l.map (ws (wt r c.fo))).sum∧∀ m ∈ l,ws (wt r c.fo) m ≤ (l.map (ws (wt r c.fo))).sum:=fun l=>by
    induction l with
    | nil=>exact ⟨Int.le_refl _,(fun m hm=>by cases hm)⟩
    | cons x l ih=>
      have:=hnn x
      rw [List.map_cons,List.sum_cons]
      refine ⟨by omega,fun m hm=>?_⟩
      rcases List.mem_cons.1 hm with rfl | hm
      · omega
      · have:=ih.2 m hm; omega
  have key2:∀ (l:List UInt64) (M:Int),(∀ m ∈ l,ws (wt r c.fo) m ≤ M) → (l.map (ws (wt r c.fo))).sum ≤ l.length * M:=fun l M=>by
    induction l with
    | nil=>intro _; simp
    | cons x l ih=>
      intro h
      have h1:=h x (List.mem_cons_self ..)
      have h2:=ih fun m hm=>h m (List.mem_cons_of_mem _ hm)
      rw [List.map_cons,List.sum_cons,List.length_cons,Int.natCast_add,Int.add_mul]
      omega
  unfold mostL
  rw [← hs]
  refine ⟨?_,key2 _ _ h2⟩
  rcases h3 with h3 | ⟨m,hm,h3⟩
  · rw [h3]; exact (key _).1
  · rw [h3]; exact (key _).2 m hm
end
end Go.Proofs.YtfccehcnajelgaaGreatDoor
