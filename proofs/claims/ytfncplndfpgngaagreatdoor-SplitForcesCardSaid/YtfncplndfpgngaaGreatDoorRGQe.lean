/- Plain law: SplitForces. No program in sight but the printed functions. -/
import Derived.Test.YtfncplndfpgngaaGreatDoorRGQd
namespace Go.Proofs.YtfncplndfpgngaaGreatDoor
open Go
set_option maxRecDepth 8000
def sw (D:List T3):List T3:=D.map fun t=>(t.2.2,t.2.1,t.1)
theorem ppl_snoc (D:List T3) (t:T3) (k:Int):ppl (D ++ [t]) k = if t.1 = k then ppl D k + t.2.1 else ppl D k:=by
  have h:=congrArg Tparent.fx (par_snoc D t k)
  by_cases e:t.1 = k
  · rw [if_pos e] at h ⊢; exact h
  · rw [if_neg e] at h ⊢; exact h
theorem totals2_ok {r:TRoll} {us:List TUnit} (hr:RollOk r us) {p:List Int} {k:Int} (hk:1 ≤ k) (hk8:k ≤ 8) (h:PlanOk p k) (hl:p.length = us.length):balance_Totals_p FU r p k = some (((List.range k.toNat).map fun i:Nat=>(i:Int)).map (ppl (sw (dat us 0 p))),0):=by
  have hF:=FU_lt
  have hs:=hr.size
  have hlen:=hr.len
  have hpl:=pl_of (us:=us) hk8 h hl
  have hdl:=dat_len (at_:=0) hpl
  have hne:p ≠ []:=fun e=>by rw [e] at hl; simp at hl; omega
  have hpp:=hr.people
  have hip:∀ {i:Nat},i < us.length → i < p.length:=fun h=>by rw [hl]; exact h
  have hda0:∀ i (hi:i < us.length),(sw (dat us 0 p))[i]? = some (p[i]'(hip hi),us[i].fo,(us[i].fv[0]?).getD 0):=fun i hi=>by
    have hsl:(sw (dat us 0 p)).length = us.length:=by unfold sw; rw [List.length_map,hdl]
    rw [List.getElem?_eq_getElem (by omega)]
    simp only [sw,List.getElem_map]
    rw [dat_at hpl hi]
    simp only [pl0,if_neg hne]
  have hsl:(sw (dat us 0 p)).length = us.length:=by unfold sw; rw [List.length_map,hdl]
  generalize sw (dat us 0 p) = D at *
  have hda:∀ i (hi:i < us.length),D[i]'(by omega) = (p[i]'(by omega),us[i].fo,(us[i].fv[0]?).getD 0):=fun i hi=>by
    have:=hda0 i hi
    rw [List.getElem?_eq_getElem (by omega)] at this
    exact Option.some.inj this
  have hdp:∀ t ∈ D,0 ≤ t.2.1∧t.2.1 ≤ 255:=fun t ht=>by
    obtain ⟨i,hi,rfl⟩:=List.getElem_of_mem ht
    rw [hda i (by omega)]
    exact hpp _ (List.getElem_mem _)
  have hh:=loop_ok (B:=balance_count_totals_l1 FU ⟨r,k⟩ p) (fun s:Nat × List Int=>r.fl.length - s.1) (fun s=>s.1 ≤ r.fl.length∧s.2 = ((List.range k.toNat).map fun i:Nat=>(i:Int)).map (ppl (D.take s.1)))
    (fun y=>y = .inl (.ok (((List.range k.toNat).map fun i:Nat=>(i:Int)).map (ppl D))) ∨ y = .inr (((List.range k.toNat).map fun i:Nat=>(i:Int)).map (ppl D))) ?_ FU (0,List.replicate k.toNat 0) ⟨by simp,?_⟩ (by simp only; omega)
  · obtain ⟨y,e,hy⟩:=hh
    unfold balance_Totals_p balance_Totals_1_p balance_count_totals_p
    rw [counted_ok r us hr k hk hk8,obind]
    unfold exc
    simp only
    rw [check_plan r us hr p k hk h hl,obind]
    simp only
    rw [show mk k (0:Int) = some (List.replicate k.toNat 0) from if_pos ⟨by omega,by omega⟩,obind,e]
    rcases hy with rfl | rfl <;> rfl
  · rintro ⟨i,xs⟩ J ⟨a1,a2⟩ hJ
    simp only at a1 a2 hJ
    subst a2
    unfold balance_count_totals_l1
    simp only
    split
    · rename_i hi
      rw [List.getElem?_eq_getElem hi,obind]
      rcases hr.unit hi with ⟨h2,e3⟩ | ⟨h2,e3⟩
      · have hx:=h.1 (p[i]'(by omega)) (List.getElem_mem _)
        have hu:=(hr.land i h2).2.2.1
        have hb:=ppl_bound (D:=D.take i) (B:=255) (fun t ht=>hdp t (List.mem_of_mem_take ht)) (by decide) (p[i]'(by omega))
        have hbl:(D.take i).length ≤ 9:=by rw [List.length_take]; omega
        have hDi:i < D.length:=by omega
        have htk:D.take (i + 1) = D.take i ++ [D[i]]:=List.take_succ_eq_append_getElem hDi
        rw [e3,if_neg (by rw [(hr.land i h2).2.1]; decide),List.getElem?_eq_getElem (by omega),obind,idx_ok hx.1 (by rw [List.length_map,List.length_map,List.length_range]; omega),obind]
        have eg:(((List.range k.toNat).map fun i:Nat=>(i:Int)).map (ppl (D.take i)))[(p[i]'(by omega)).toNat]'(by rw [List.length_map,List.length_map,List.length_range]; omega) = ppl (D.take i) (p[i]'(by omega)):=by
          simp only [List.getElem_map,List.getElem_range]
          rw [show (((p[i]'(by omega)).toNat:Nat):Int) = p[i]'(by omega) by omega]
        rw [eg,chkI (by omega) (by omega),obind,put_ok _ (by rw [List.length_map,List.length_map,List.length_range]; omega),obind]
        refine hJ _ ⟨by simp only; omega,?_⟩ (by simp only; omega)
        simp only
        apply List.ext_getElem
        · simp
        · intro j hj1 hj2
          simp only [List.getElem_set,List.getElem_map,List.getElem_range]
          rw [htk,ppl_snoc,hda i h2]
          simp only
          by_cases he:(p[i]'(by omega)).toNat = j
          · rw [if_pos he,if_pos (by omega)]
            rw [show ((j:Nat):Int) = p[i]'(by omega) by omega]
          · rw [if_neg he,if_neg (by omega)]
      · rw [e3,if_pos (show (sea r.fe r.fc r.fh).fm = true from rfl)]
        exact ⟨_,rfl,.inl (by rw [List.take_of_length_le (by omega)])⟩
    · exact ⟨_,rfl,.inr (by rw [List.take_of_length_le (by omega)])⟩
  · simp only
    apply List.ext_getElem
    · simp
    · intro j hj1 hj2
      simp [ppl]
theorem max_ok (x:Int) (l:List Int) (hl:l.length ≤ 1000):∃ m,slices_Max_int_int_p FU (x :: l) = some m∧∀ y ∈ x :: l,y ≤ m:=by
  have hF:=FU_lt
  have hh:=loop_ok (B:=slices_Max_int_int_l1 FU (x :: l)) (fun s:Int × Nat=>(x :: l).length - s.2) (fun s=>s.2 ≤ (x :: l).length∧∀ y ∈ (x :: l).take s.2,y ≤ s.1) (fun m=>∀ y ∈ x :: l,y ≤ m) ?_ FU (x,1) ⟨by simp,by simp⟩ (by simp only [List.length_cons]; omega)
  · obtain ⟨m,e,hm⟩:=hh
    refine ⟨m,?_,hm⟩
    unfold slices_Max_int_int_p
    rw [if_neg (by rw [List.length_cons]; omega),List.getElem?_cons_zero,obind,e,obind]
  · rintro ⟨z,i⟩ J ⟨a1,a2⟩ hJ
    simp only at a1 a2 hJ
    unfold slices_Max_int_int_l1
    simp only
    split
    · rename_i hi
      rw [List.getElem?_eq_getElem hi,obind]
      refine hJ _ ⟨hi,fun y hy=>?_⟩ (by simp only; omega)
      simp only at hy ⊢
      rw [List.take_succ_eq_append_getElem hi,List.mem_append,List.mem_singleton] at hy
      rcases hy with hy | rfl
      · exact Int.le_trans (a2 y hy) (Int.le_max_left ..)
      · exact Int.le_max_right ..
    · rename_i hi
      rw [List.take_of_length_le (by omega)] at a2
      exact ⟨_,rfl,a2⟩
theorem filt_sum_le {D:List T3} (h:∀ t ∈ D,0 ≤ t.2.1) (P Q:T3 → Bool) (hPQ:∀ t ∈ D,P t = true → Q t = true):((D.filter P).map (·.2.1)).sum ≤ ((D.filter Q).map (·.2.1)).sum:=by
  induction D with
  | nil=>simp
  | cons t D ih=>
    have h1:=ih (fun x hx=>h x (List.mem_cons_of_mem _ hx)) fun x hx=>hPQ x (List.mem_cons_of_mem _ hx)
    have h2:=h t (List.mem_cons_self ..)
    have h3:=hPQ t (List.mem_cons_self ..)
    by_cases hp:P t = true
    · rw [List.filter_cons_of_pos hp,List.filter_cons_of_pos (h3 hp),List.map_cons,List.map_cons,List.sum_cons,List.sum_cons]; omega
    · rw [List.filter_cons_of_neg hp]
      by_cases hq:Q t = true
      · rw [List.filter_cons_of_pos hq,List.map_cons,List.sum_cons]; omega
      · rw [List.filter_cons_of_neg hq]; exact h1
theorem ppl_all {D:List T3} (h:∀ t ∈ D,0 ≤ t.2.1) (k:Int):ppl D k ≤ (D.map (·.2.1)).sum:=by
  have:=filt_sum_le h (fun t=>decide (t.1 = k)) (fun _=>true) fun _ _ _=>rfl
  rwa [filt_true] at this
theorem sw_ppl (D:List T3) (d:Int):ppl (sw D) d = ((D.filter fun t=>decide (t.2.2 = d)).map (·.2.1)).sum:=by
  unfold ppl sw
  rw [List.filter_map,List.map_map]; rfl
theorem one_le {D:List T3} (h:∀ t ∈ D,0 ≤ t.2.1) (hd:∀ t ∈ D,0 ≤ t.2.2∧t.2.2 < 8) {x:Int} (h1:pcs D x = 1):∃ d:Nat,(∃ t ∈ D,t.2.2 = (d:Int))∧ppl D x ≤ ppl (sw D) d:=by
  unfold pcs at h1
  obtain ⟨d,e⟩:=List.length_eq_one_iff.1 h1
  have hm:∀ i,i ∈ dsd D x ↔ i = d:=fun i=>by rw [e,List.mem_singleton]
  obtain ⟨_,t,ht,_,h3⟩:=dsd_mem.1 ((hm d).2 rfl)
  refine ⟨d,⟨t,ht,h3⟩,?_⟩
  rw [sw_ppl]
  refine filt_sum_le h _ _ fun s hs hp=>?_
  have hp:=of_decide_eq_true hp
  have:=(hm s.2.2.toNat).1 (dsd_mem.2 ⟨by have:=hd s hs; omega,s,hs,hp,by have:=hd s hs; omega⟩)
  exact decide_eq_true (by have:=hd s hs; omega)
theorem is_ok (l w:List Int) (h:l = w) (hl:l.length ≤ 1000):wardmotelaw23_is_1_p FU l 0 w = some true:=by
  subst h
  unfold wardmotelaw23_is_1_p
  rw [equal_ok l l hl,obind,decide_eq_true rfl,if_pos rfl]
  rfl
theorem sum_loopF (l:List Int) (e:Int) (h:∀ x ∈ l,0 ≤ x) (hs:l.sum ≤ 1000000000000) (hl:l.length ≤ 1000):loopF (wardmotelaw23_SplitForces_l1 FU (l,e)) FU (0,0) = some l.sum:=by
  have hF:=FU_lt
  have hh:=loop_ok (B:=wardmotelaw23_SplitForces_l1 FU (l,e)) (fun s:Int × Nat=>l.length - s.2) (fun s=>s.2 ≤ l.length∧s.1 = (l.take s.2).sum) (fun z=>z = l.sum) ?_ FU (0,0) ⟨Nat.zero_le _,by simp⟩ (by simp only; omega)
  · obtain ⟨z,e,rfl⟩:=hh; exact e
  · rintro ⟨z,i⟩ J ⟨h1,h2⟩ hJ
    simp only at h1 h2 hJ
    subst h2
    unfold wardmotelaw23_SplitForces_l1
    simp only
    split
    · rename_i hi
      have b1:=take_sum_le h i
      have b2:=take_sum_le h (i + 1)
      have e1:(l.take (i + 1)).sum = (l.take i).sum + l[i]:=by rw [List.take_succ_eq_append_getElem hi,List.sum_append]; simp
      rw [List.getElem?_eq_getElem hi,obind,chkI (by omega) (by omega),obind]
      exact hJ _ ⟨hi,by simp only; omega⟩ (by simp only; omega)
    · exact ⟨_,rfl,by rw [List.take_of_length_le (by omega)]⟩
theorem forces_ok (a0:TDraft) (a1:TDraft26):wardmotelaw23_SplitForces_p FU a0 a1 = some true:=by
  have hF:=FU_lt
  obtain ⟨p,k,e1,p1,p2,hp,k1,k2⟩:=loose_ok FU a0 (by omega)
  obtain ⟨r,us,e2,hus,hr,hG,hP,hL⟩:=full_ok FU a1 p.length (by omega) (by omega) (by omega)
  have hpl:p.length = us.length:=hus.symm
  have h:=lr_of hr (at_:=0) (by omega)
  have hq:=pl_of (us:=us) k2 hp hpl
  have hc:=check_okS hr k1 k2 hp hpl
  have hne:p ≠ []:=fun e=>by rw [e] at p1; simp at p1
  have q1:=totals2_ok hr k1 k2 hp hpl
  have q2:=forced_res h
  have q3:=parents_res h
  have q5:=keeps_res h hq hc
  have hdm:=dat_mem h hq
  have hki:=keys_in h hq
  have hsum:=dat_ppl (at_:=0) hq
  rw [ks_dat (.inl rfl) hq] at q3
  rw [ks_dat (.inl rfl) hq,show ppl (dat us 0 []) = ppl (dat us 0 p) from funext fun x=>ppl_dat (.inl rfl) hq x] at q2
  simp only [Int.natCast_zero] at q2 q3 q5
  have hlab:∀ t ∈ dat us 0 p,0 ≤ t.2.2∧t.2.2 < k:=fun t ht=>by
    obtain ⟨i,hi,rfl⟩:=List.getElem_of_mem ht
    have hi' : i < us.length:=by rwa [dat_len hq] at hi
    rw [dat_at hq hi']
    simp only [pl0,if_neg hne]
    exact hp.1 _ (List.getElem_mem _)
  generalize dat us 0 p = D at *
  have hnd:=ks_nodup D
  have hlen:=ks_len D
  have hb:=tot_bound hr us.length
  rw [List.take_of_length_le (Nat.le_refl _)] at hb
  have hd8:=fun t ht=>(hdm t ht).2.2
  have hp0:∀ t ∈ D,0 ≤ t.2.1:=fun t ht=>(hdm t ht).2.1.1
  have hsp:(((List.range k.toNat).map fun i:Nat=>(i:Int)).map (ppl (sw D))).sum = tot us:=by
    rw [sum_ppl (D:=sw D)]
    · rw [← hsum]; unfold sw; rw [List.map_map]; rfl
    · unfold List.Nodup
      exact List.Pairwise.map _ (fun a b hab=>by omega) List.nodup_range
    · intro t ht
      obtain ⟨s,hs,rfl⟩:=List.mem_map.1 ht
      have:=hlab s hs
      exact List.mem_map.2 ⟨s.2.2.toNat,List.mem_range.2 (by omega),by simp only; omega⟩
  have hn0:∀ x ∈ ((List.range k.toNat).map fun i:Nat=>(i:Int)).map (ppl (sw D)),0 ≤ x:=fun x hx=>by
    obtain ⟨d,_,rfl⟩:=List.mem_map.1 hx
    exact (ppl_bound (D:=sw D) (B:=1000000000) (fun t ht=>by
      obtain ⟨s,hs,rfl⟩:=List.mem_map.1 ht
      exact (hdm s hs).2.1) (by decide) d).1
  have hTl:(((List.range k.toNat).map fun i:Nat=>(i:Int)).map (ppl (sw D))).length = k.toNat:=by simp
  have hTm:∀ d:Nat,(d:Int) < k → ppl (sw D) (d:Int) ∈ ((List.range k.toNat).map fun i:Nat=>(i:Int)).map (ppl (sw D)):=fun d hd=>List.mem_map.2 ⟨_,List.mem_map.2 ⟨d,List.mem_range.2 (by omega),rfl⟩,rfl⟩
  generalize ((List.range k.toNat).map fun i:Nat=>(i:Int)).map (ppl (sw D)) = T at *
  obtain ⟨x0,T', rfl⟩:∃ x0 T', T = x0 :: T' :=by
    cases T with
    | nil=>simp at hTl; omega
    | cons x l=>exact ⟨x,l,rfl⟩
  obtain ⟨m,em,hm⟩:=max_ok x0 T' (by rw [List.length_cons] at hTl; omega)
  unfold wardmotelaw23_SplitForces_p
  rw [works23,obind,if_pos rfl,e1,obind]
  simp only
  rw [e2,obind,q1,obind]
  simp only [if_true]
  rw [if_neg (by rw [List.length_cons]; omega),em,obind,q2,obind]
  simp only [if_true]
  have hfl:((ks D).filter fun x=>decide (m < ppl D x)).length ≤ 64:=Nat.le_trans (List.length_filter_le ..) hlen
  have hfm:∀ x ∈ (ks D).filter fun x=>decide (m < ppl D x),x ∈ ks D∧m < ppl D x:=fun x hx=>⟨(List.mem_filter.1 hx).1,of_decide_eq_true (List.mem_filter.1 hx).2⟩
  generalize (ks D).filter (fun x=>decide (m < ppl D x)) = F at *
  have hh:=loop_ok (B:=wardmotelaw23_SplitForces_l2 FU (F,0) r (p,k)) (fun i:Nat=>F.length - i) (fun i=>i ≤ F.length) (fun y=>y = .inr ()) ?_ FU 0 (Nat.zero_le _) (by omega)
  · obtain ⟨y,e,rfl⟩:=hh
    rw [e]
    unfold thn
    simp only
    rw [sum_loopF (x0 :: T') 0 hn0 (by rw [hsp]; omega) (by omega),obind,hsp,q3,obind]
    simp only [if_true]
    rw [q2,obind]
    simp only
    rw [is_ok _ _ (List.filter_eq_self.2 fun x _=>decide_eq_true (by have:=(ppl_bound (D:=D) (B:=1000000000) (fun t ht=>(hdm t ht).2.1) (by decide) x).1; omega)) (Nat.le_trans (List.length_filter_le ..) (by omega)),obind,if_pos rfl,q2,obind]
    simp only
    rw [is_ok _ [] (List.filter_eq_nil_iff.2 fun x _=>by
      have:=ppl_all hp0 x
      rw [hsum] at this
      simp only [decide_eq_true_eq]; omega) (Nat.le_trans (List.length_filter_le ..) (by omega)),obind]
  · intro i J hi hJ
    unfold wardmotelaw23_SplitForces_l2
    simp only
    by_cases hi2:i < F.length
    · obtain ⟨f1,f2⟩:=hfm F[i] (List.getElem_mem _)
      rw [if_pos hi2,List.getElem?_eq_getElem hi2,obind,q5,if_pos f1,obind]
      simp only
      rw [truth_ok _ false (decide_eq_false fun h1=>?_),obind,if_pos rfl]
      · exact hJ _ hi2 (by omega)
      · obtain ⟨d,⟨t,ht,h3⟩,h4⟩:=one_le hp0 hd8 h1
        have:=hlab t ht
        have:=hm _ (hTm d (by omega))
        omega
    · rw [if_neg hi2]; exact ⟨_,rfl,rfl⟩
theorem splitForces_ex (a0:TDraft) (a1:TDraft26):∃ n,wardmotelaw23_SplitForces_p n a0 a1 = some true:=⟨FU,forces_ok a0 a1⟩
end Go.Proofs.YtfncplndfpgngaaGreatDoor
