/- Plain law: SplitMerges. No program in sight but the printed functions. -/
import Derived.Test.YtfncplndfpgngaaGreatDoorQGQc
namespace Go.Proofs.YtfncplndfpgngaaGreatDoor
open Go
set_option maxRecDepth 8000
theorem equal_ok (a b:List Int) (hl:a.length ≤ 1000):slices_Equal_int_int_p FU a b = some (decide (a = b)):=by
  have hF:=FU_lt
  unfold slices_Equal_int_int_p
  by_cases h:a.length = b.length
  · rw [if_pos h]
    have hh:=loop_ok (B:=slices_Equal_int_int_l1 FU a b) (fun i:Nat=>a.length - i) (fun i=>i ≤ a.length∧a.take i = b.take i) (fun y=>if a = b then y = .inr () else y = .inl false) ?_ FU 0 ⟨Nat.zero_le _,rfl⟩ (by omega)
    · obtain ⟨y,e,hy⟩:=hh
      rw [e]
      split at hy
      · rename_i he; rw [hy,decide_eq_true he]; rfl
      · rename_i he; rw [hy,decide_eq_false he]; rfl
    · rintro i J ⟨a1,a2⟩ hJ
      unfold slices_Equal_int_int_l1
      simp only
      by_cases hi:i < a.length
      · rw [if_pos hi,List.getElem?_eq_getElem hi,obind,List.getElem?_eq_getElem (by omega),obind]
        by_cases he:a[i] = b[i]'(by omega)
        · rw [if_pos he]
          refine hJ _ ⟨hi,?_⟩ (by omega)
          rw [List.take_succ_eq_append_getElem hi,List.take_succ_eq_append_getElem (by omega),a2,he]
        · rw [if_neg he]
          refine ⟨_,rfl,?_⟩
          rw [if_neg fun e=>he (by simp only [e])]
      · rw [if_neg hi]
        rw [List.take_of_length_le (by omega),List.take_of_length_le (by omega)] at a2
        exact ⟨_,rfl,by rw [if_pos a2]⟩
  · rw [if_neg h,decide_eq_false fun e=>h (by rw [e])]
theorem clone_ok (a:List Int) (h:a ≠ []) (hl:a.length ≤ 1000):slices_Clone_api_Plan_int_p FU a = some a:=by
  unfold slices_Clone_api_Plan_int_p
  rw [nilCase_eq fun e=>absurd e h,appS _ _ (by simp only [List.length_nil]; omega),obind,List.nil_append]
theorem mapget (g:Int → Int) (p:List Int) (i:Nat) (hi:i < p.length):((p.take i).map g ++ p.drop i)[i]? = some p[i]:=by
  have ht:((p.take i).map g).length = i:=by rw [List.length_map,List.length_take]; omega
  rw [List.getElem?_append_right (by omega),ht,Nat.sub_self,List.getElem?_drop,Nat.add_zero,List.getElem?_eq_getElem hi]
theorem mapset (g:Int → Int) (p:List Int) (i:Nat) (hi:i < p.length) (v:Int):((p.take i).map g ++ p.drop i).set i v = (p.take i).map g ++ v :: p.drop (i + 1):=by
  have ht:((p.take i).map g).length = i:=by rw [List.length_map,List.length_take]; omega
  rw [List.set_append_right _ _ (by omega),ht,Nat.sub_self,List.drop_eq_getElem_cons hi,List.set_cons_zero]
theorem maplen (g:Int → Int) (p:List Int) (i:Nat):((p.take i).map g ++ p.drop i).length = p.length:=by
  rw [List.length_append,List.length_map,List.length_take,List.length_drop]; omega
theorem mapsucc (g:Int → Int) (p:List Int) (i:Nat) (hi:i < p.length):(p.take i).map g ++ g p[i] :: p.drop (i + 1) = (p.take (i + 1)).map g ++ p.drop (i + 1):=by
  rw [List.take_succ_eq_append_getElem hi,List.map_append,List.append_assoc]; rfl
def mrg (k a b y:Int):Int:=if a = b then y else if (if y = a then b else y) = k - 1 then a else if y = a then b else y
theorem merges_loop (p:List Int) (k a b:Int) (hp:∀ x ∈ p,0 ≤ x∧x < k) (hk:1 ≤ k∧k ≤ 8) (hl:p.length ≤ 9):loopF (wardmotelaw23_SplitMerges_l2 FU (p,k) a b) FU (0,p,p) = some (p.map fun y=>k - 1 - y,p.map (mrg k a b)):=by
  have hF:=FU_lt
  have hh:=loop_ok (B:=wardmotelaw23_SplitMerges_l2 FU (p,k) a b) (fun s:Nat × List Int × List Int=>p.length - s.1)
    (fun s=>s.1 ≤ p.length∧s.2.2 = (p.take s.1).map (fun y=>k - 1 - y) ++ p.drop s.1∧s.2.1 = (p.take s.1).map (mrg k a b) ++ p.drop s.1) (fun y=>y = (p.map fun y=>k - 1 - y,p.map (mrg k a b))) ?_ FU (0,p,p) ⟨Nat.zero_le _,by simp,by simp⟩ (by simp only; omega)
  · obtain ⟨y,e,rfl⟩:=hh; exact e
  · rintro ⟨i,m,t⟩ J ⟨a1,a2,a3⟩ hJ
    simp only at a1 a2 a3 hJ
    subst a2 a3
    unfold wardmotelaw23_SplitMerges_l2 jn
    simp only
    by_cases hi:i < p.length
    · have hx:=hp p[i] (List.getElem_mem _)
      have next:=hJ (i + 1,(p.take (i + 1)).map (mrg k a b) ++ p.drop (i + 1),(p.take (i + 1)).map (fun y=>k - 1 - y) ++ p.drop (i + 1)) ⟨hi,rfl,rfl⟩ (by simp only; omega)
      rw [← mapsucc _ p i hi,← mapsucc _ p i hi] at next
      rw [if_pos hi,List.getElem?_eq_getElem hi,obind,chkI (by omega) (by omega),obind,chkI (by omega) (by omega),obind,mapget _ p i hi,obind,put_ok _ (by rw [maplen]; exact hi),obind,mapset _ p i hi]
      by_cases h1:p[i] = a
      · rw [if_pos h1,mapget _ p i hi,obind,put_ok _ (by rw [maplen]; exact hi),obind,mapset _ p i hi]
        by_cases h2:a = b
        · rw [if_pos h2]
          have:mrg k a b p[i] = b:=by unfold mrg; rw [if_pos h2,h1,h2]
          rw [this] at next
          exact next
        · have ht:((p.take i).map (mrg k a b)).length = i:=by rw [List.length_map,List.length_take]; omega
          rw [if_neg h2,List.getElem?_append_right (by omega),ht,Nat.sub_self,List.getElem?_cons_zero,obind,obind]
          by_cases h3:b = k - 1
          · rw [if_pos h3,put_ok _ (by rw [List.length_append,ht,List.length_cons]; omega),obind,List.set_append_right _ _ (by omega),ht,Nat.sub_self,List.set_cons_zero]
            have:mrg k a b p[i] = a:=by unfold mrg; rw [if_neg h2,if_pos h1,if_pos h3]
            rw [this] at next
            exact next
          · rw [if_neg h3]
            have:mrg k a b p[i] = b:=by unfold mrg; rw [if_neg h2,if_pos h1,if_neg h3]
            rw [this] at next
            exact next
      · rw [if_neg h1]
        by_cases h2:a = b
        · rw [if_pos h2]
          have:mrg k a b p[i] = p[i]:=by unfold mrg; rw [if_pos h2]
          rw [this] at next
          rw [← List.drop_eq_getElem_cons hi] at next
          exact next
        · rw [if_neg h2,mapget _ p i hi,obind,obind]
          by_cases h3:p[i] = k - 1
          · rw [if_pos h3,put_ok _ (by rw [maplen]; exact hi),obind,mapset _ p i hi]
            have:mrg k a b p[i] = a:=by unfold mrg; rw [if_neg h2,if_neg h1,if_pos h3]
            rw [this] at next
            exact next
          · rw [if_neg h3]
            have:mrg k a b p[i] = p[i]:=by unfold mrg; rw [if_neg h2,if_neg h1,if_neg h3]
            rw [this] at next
            rw [← List.drop_eq_getElem_cons hi] at next
            exact next
    · rw [if_neg hi]
      rw [List.take_of_length_le (by omega),List.drop_of_length_le (by omega)]
      simp only [List.append_nil]
      exact ⟨_,rfl,rfl⟩
theorem mrg_in {k a b y:Int} (ha:0 ≤ a∧a < k) (hb:0 ≤ b∧b < k) (hy:0 ≤ y∧y < k):0 ≤ mrg k a b y∧mrg k a b y < (if a = b then k else k - 1):=by
  unfold mrg
  by_cases h1:a = b
  · rw [if_pos h1,if_pos h1]; exact hy
  · rw [if_neg h1,if_neg h1]
    by_cases h2:y = a
    · rw [if_pos h2]
      split <;> omega
    · rw [if_neg h2]
      split <;> omega
theorem mrg_onto {k a b d:Int} (ha:0 ≤ a∧a < k) (_hb:0 ≤ b∧b < k) (h0:0 ≤ d) (hd:d < (if a = b then k else k - 1)):∃ y,0 ≤ y∧y < k∧mrg k a b y = d:=by
  by_cases h1:a = b
  · rw [if_pos h1] at hd
    exact ⟨d,h0,hd,by unfold mrg; rw [if_pos h1]⟩
  · rw [if_neg h1] at hd
    unfold mrg
    simp only [if_neg h1]
    by_cases h2:d = a
    · by_cases h3:b = k - 1
      · exact ⟨a,ha.1,ha.2,by rw [if_pos rfl,if_pos h3]; omega⟩
      · have h5:¬ k - 1 = a:=by omega
        exact ⟨k - 1,by omega,by omega,by simp only [if_neg h5,if_true]; omega⟩
    · exact ⟨d,h0,by omega,by rw [if_neg h2,if_neg (by omega)]⟩
theorem mrg_inj {k a b x y:Int} (ha:0 ≤ a∧a < k) (_hb:0 ≤ b∧b < k) (_hx:0 ≤ x∧x < k) (_hy:0 ≤ y∧y < k) (hxa:x ≠ a) (hya:y ≠ a) (h:mrg k a b x = mrg k a b y):x = y:=by
  unfold mrg at h
  by_cases h1:a = b
  · rw [if_pos h1,if_pos h1] at h; exact h
  · rw [if_neg h1,if_neg h1,if_neg hxa,if_neg hya] at h
    by_cases h2:x = k - 1
    · rw [if_pos h2] at h
      by_cases h3:y = k - 1
      · omega
      · rw [if_neg h3] at h; omega
    · rw [if_neg h2] at h
      by_cases h3:y = k - 1
      · rw [if_pos h3] at h; omega
      · rw [if_neg h3] at h; exact h
/-! ### Other labels -/
def rel (g:Int → Int) (D:List T3):List T3:=D.map fun t=>(t.1,t.2.1,g t.2.2)
theorem dat_map {us:List TUnit} {at_:Nat} {p:List Int} (hp:p ≠ []) (g:Int → Int):dat us at_ (p.map g) = rel g (dat us at_ p):=by
  unfold dat rel pl0
  rw [if_neg (by simpa using hp),if_neg hp,List.zipWith_map_right,List.map_zipWith]
theorem rel_keys (g:Int → Int) (D:List T3):keys (rel g D) = keys D:=by
  unfold keys rel; rw [List.map_map]; rfl
theorem rel_ks (g:Int → Int) (D:List T3):ks (rel g D) = ks D:=by unfold ks; rw [rel_keys]
theorem rel_mem {g:Int → Int} {D:List T3} {k:Int} {i:Nat}:i ∈ dsd (rel g D) k ↔ i < 8∧∃ t ∈ D,t.1 = k∧g t.2.2 = (i:Int):=by
  rw [dsd_mem]
  refine and_congr_right fun _=>?_
  unfold rel
  constructor
  · rintro ⟨t,ht,h1,h2⟩
    obtain ⟨s,hs,rfl⟩:=List.mem_map.1 ht
    exact ⟨s,hs,h1,h2⟩
  · rintro ⟨t,ht,h1,h2⟩
    exact ⟨_,List.mem_map.2 ⟨t,ht,rfl⟩,h1,h2⟩
theorem rel_le {g:Int → Int} {D:List T3} (h:∀ t ∈ D,0 ≤ t.2.2∧t.2.2 < 8) (x:Int):pcs (rel g D) x ≤ pcs D x:=by
  have:(dsd (rel g D) x).length ≤ ((dsd D x).map fun i:Nat=>(g (i:Int)).toNat).length:=(dsd_nodup _ _).length_le_of_subset fun i hi=>by
    obtain ⟨_,t,ht,h1,h2⟩:=rel_mem.1 hi
    have:=h t ht
    refine List.mem_map.2 ⟨t.2.2.toNat,dsd_mem.2 ⟨by omega,t,ht,h1,by omega⟩,?_⟩
    rw [show ((t.2.2.toNat:Nat):Int) = t.2.2 by omega,h2]; rfl
  rwa [List.length_map] at this
theorem rel_ge {g:Int → Int} {D:List T3} (_h:∀ t ∈ D,0 ≤ t.2.2∧t.2.2 < 8) (hg:∀ t ∈ D,0 ≤ g t.2.2∧g t.2.2 < 8) (x:Int) (l:List Nat) (hl:l.Nodup) (hs:∀ i ∈ l,i ∈ dsd D x) (hi:∀ i ∈ l,∀ j ∈ l,g (i:Int) = g (j:Int) → i = j):l.length ≤ pcs (rel g D) x:=by
  have hn:(l.map fun i:Nat=>(g (i:Int)).toNat).Nodup:=by
    unfold List.Nodup
    rw [List.pairwise_map]
    refine List.Pairwise.imp_of_mem (fun {a b} ha hb hab e=>?_) hl
    obtain ⟨_,t,ht,_,h2⟩:=dsd_mem.1 (hs a ha)
    obtain ⟨_,s,hs', _,h3⟩:=dsd_mem.1 (hs b hb)
    have g1:=hg t ht
    have g2:=hg s hs'
    rw [h2] at g1
    rw [h3] at g2
    exact hab (hi a ha b hb (by omega))
  have:=hn.length_le_of_subset (l₂:=dsd (rel g D) x) fun y hy=>by
    obtain ⟨i,hi', rfl⟩:=List.mem_map.1 hy
    obtain ⟨_,t,ht,h1,h2⟩:=dsd_mem.1 (hs i hi')
    have g1:=hg t ht
    rw [h2] at g1
    exact rel_mem.2 ⟨by omega,t,ht,h1,by rw [h2]; omega⟩
  rwa [List.length_map] at this
theorem merges_ok (a0:TDraft) (a1:TDraft26) (a2 a3:UInt8):wardmotelaw23_SplitMerges_p FU a0 a1 a2 a3 = some true:=by
  have hF:=FU_lt
  obtain ⟨p,k,e1,p1,p2,hp,k1,k2⟩:=loose_ok FU a0 (by omega)
  obtain ⟨r,us,e2,hus,hr,hG,hP,hL⟩:=full_ok FU a1 p.length (by omega) (by omega) (by omega)
  have hpl:p.length = us.length:=hus.symm
  have hne:p ≠ []:=fun e=>by rw [e] at p1; simp at p1
  have h:=lr_of hr (at_:=0) (by omega)
  have hq:=pl_of (us:=us) k2 hp hpl
  have q1:=pieces_res h hq (check_okS hr k1 k2 hp hpl)
  have hdm:=dat_mem h hq
  have hA:((a2.toNat:Nat):Int).tmod k = ((a2.toNat:Nat):Int) % k:=Int.tmod_eq_emod_of_nonneg (by omega)
  have hB:((a3.toNat:Nat):Int).tmod k = ((a3.toNat:Nat):Int) % k:=Int.tmod_eq_emod_of_nonneg (by omega)
  have ha:0 ≤ ((a2.toNat:Nat):Int) % k∧((a2.toNat:Nat):Int) % k < k:=⟨Int.emod_nonneg _ (by omega),Int.emod_lt_of_pos _ (by omega)⟩
  have hb:0 ≤ ((a3.toNat:Nat):Int) % k∧((a3.toNat:Nat):Int) % k < k:=⟨Int.emod_nonneg _ (by omega),Int.emod_lt_of_pos _ (by omega)⟩
  generalize ((a2.toNat:Nat):Int) % k = a at *
  generalize ((a3.toNat:Nat):Int) % k = b at *
  -- renamed
  have hp2:PlanOk (p.map fun y=>k - 1 - y) k:=⟨fun x hx=>by
    obtain ⟨y,hy,rfl⟩:=List.mem_map.1 hx
    have:=hp.1 y hy; omega,fun d d0 d1=>List.mem_map.2 ⟨k - 1 - d,hp.2 _ (by omega) (by omega),by omega⟩⟩
  have hq2:=pl_of (us:=us) k2 hp2 (by rw [List.length_map]; exact hpl)
  have q2:=pieces_res h hq2 (check_okS hr k1 k2 hp2 (by rw [List.length_map]; exact hpl))
  rw [dat_map hne] at q2
  -- merged
  obtain ⟨k', hk'⟩:∃ k', k' = if a = b then k else k - 1:=⟨_,rfl⟩
  have hk1:1 ≤ k' ∧k' ≤ k:=by rw [hk']; split <;> omega
  have hp3:PlanOk (p.map (mrg k a b)) k' :=⟨fun x hx=>by
    obtain ⟨y,hy,rfl⟩:=List.mem_map.1 hx
    rw [hk']; exact mrg_in ha hb (hp.1 y hy),fun d d0 d1=>by
    obtain ⟨y,y0,y1,y2⟩:=mrg_onto ha hb d0 (by rw [← hk']; exact d1)
    exact List.mem_map.2 ⟨y,hp.2 y y0 y1,y2⟩⟩
  have hq3:=pl_of (us:=us) (by omega) hp3 (by rw [List.length_map]; exact hpl)
  have q3:=pieces_res h hq3 (check_okS hr hk1.1 (by omega) hp3 (by rw [List.length_map]; exact hpl))
  have hdm3:=dat_mem h hq3
  have hdm2:=dat_mem h hq2
  rw [dat_map hne] at q3 hdm3 hdm2
  -- one district
  have hz:PlanOk (List.replicate p.length (0:Int)) 1:=⟨fun x hx=>by rw [(List.mem_replicate.1 hx).2]; omega,fun d d0 d1=>List.mem_replicate.2 ⟨by omega,by omega⟩⟩
  have hq4:=pl_of (us:=us) (by omega) hz (by rw [List.length_replicate]; exact hpl)
  have q4:=splits_res h hq4 (check_okS hr (by omega) (by omega) hz (by rw [List.length_replicate]; exact hpl))
  rw [ks_dat hq4 hq] at q4
  have hdm4:=dat_mem h hq4
  have hlab:∀ t ∈ dat us 0 p,0 ≤ t.2.2∧t.2.2 < k:=fun t ht=>by
    obtain ⟨i,hi,rfl⟩:=List.getElem_of_mem ht
    have hi' : i < us.length:=by rwa [dat_len hq] at hi
    rw [dat_at hq hi']
    simp only [pl0,if_neg hne]
    exact hp.1 _ (List.getElem_mem _)
  have hkz:∀ x,x ∈ keys (dat us 0 p) → pcs (dat us 0 (List.replicate p.length (0:Int))) x = 1:=fun x hx=>by
    have hx' : x ∈ keys (dat us 0 (List.replicate p.length (0:Int))):=by rw [keys_dat hq4]; rw [keys_dat hq] at hx; exact hx
    have l1:=pcs_pos (fun t ht=>(hdm4 t ht).2.2) hx'
    have l2:(dsd (dat us 0 (List.replicate p.length (0:Int))) x).length ≤ [0].length:=(dsd_nodup _ _).length_le_of_subset fun i hi=>by
      obtain ⟨_,t,ht,_,h2⟩:=dsd_mem.1 hi
      obtain ⟨j,hj,rfl⟩:=List.getElem_of_mem ht
      have hj' : j < us.length:=by rwa [dat_len hq4] at hj
      rw [dat_at hq4 hj'] at h2
      have hne4:List.replicate p.length (0:Int) ≠ []:=fun e=>by have:=congrArg List.length e; rw [List.length_replicate] at this; exact absurd this (by simp only [List.length_nil]; omega)
      simp only [pl0,if_neg hne4,List.getElem_replicate] at h2
      rw [List.mem_singleton]; omega
    have:(dsd (dat us 0 (List.replicate p.length (0:Int))) x).length ≤ 1:=l2
    unfold pcs at l1 ⊢
    omega
  generalize dat us 0 (List.replicate p.length (0:Int)) = D4 at *
  generalize dat us 0 p = D at *
  rw [rel_ks] at q2 q3
  have hlen:=ks_len D
  have hd8:=fun t ht=>(hdm t ht).2.2
  have f2:∀ x,pcs (rel (fun y=>k - 1 - y) D) x = pcs D x:=fun x=>by
    refine Nat.le_antisymm (rel_le hd8 x) (rel_ge hd8 (fun t ht=>?_) x (dsd D x) (dsd_nodup _ _) (fun _ hi=>hi) fun i _ j _ e=>by omega)
    have:=hlab t ht; omega
  have f3:∀ x,pcs (rel (mrg k a b) D) x ≤ pcs D x∧pcs D x ≤ pcs (rel (mrg k a b) D) x + 1:=fun x=>by
    refine ⟨rel_le hd8 x,?_⟩
    have hge:=rel_ge (g:=mrg k a b) hd8 (fun t ht=>by have:=mrg_in (k:=k) ha hb (hlab t ht); split at this <;> omega) x ((dsd D x).erase a.toNat) ((dsd_nodup _ _).erase _) (fun i hi=>List.mem_of_mem_erase hi) fun i hi j hj e=>by
      have i1:=(List.Nodup.mem_erase_iff (dsd_nodup _ _)).1 hi
      have j1:=(List.Nodup.mem_erase_iff (dsd_nodup _ _)).1 hj
      obtain ⟨_,t,ht,_,t2⟩:=dsd_mem.1 i1.2
      obtain ⟨_,s,hs,_,s2⟩:=dsd_mem.1 j1.2
      have l1:=hlab t ht
      have l2:=hlab s hs
      have:=mrg_inj ha hb (x:=(i:Int)) (y:=(j:Int)) (by omega) (by omega) (fun e=>i1.1 (by omega)) (fun e=>j1.1 (by omega)) e
      omega
    have he:(dsd D x).length ≤ ((dsd D x).erase a.toNat).length + 1:=by rw [List.length_erase]; split <;> omega
    unfold pcs at hge ⊢
    omega
  simp only [Int.natCast_zero] at q1 q2 q3 q4
  unfold wardmotelaw23_SplitMerges_p
  rw [works23,obind,if_pos rfl,e1,obind]
  simp only
  rw [e2,obind,q1,obind,clone_ok p hne (by omega),obind,obind,remI_ok (by omega),obind,remI_ok (by omega),obind,hA,hB,merges_loop p k a b hp.1 ⟨k1,k2⟩ p2,obind]
  simp only
  rw [q2,obind]
  have hks:((ks D).map fun x=>(pcs (rel (fun y=>k - 1 - y) D) x:Int)) = (ks D).map fun x=>(pcs D x:Int):=List.map_congr_left fun x _=>by rw [f2 x]
  rw [hks]
  have key:∀ kk,kk = k' → ((split_Pieces_p FU r (p.map (mrg k a b)) kk (0:Int)).bind fun y514=>jn (fun q541=>(if q541 = true then some false else thn (loopF (wardmotelaw23_SplitMerges_l1 FU y514 ((ks D).map fun x=>(pcs D x:Int),0)) FU 0) (fun _=>(mk ((p.length:Nat):Int) (0:Int)).bind fun xs1239=>(split_Splits_p FU r xs1239 (1:Int) (0:Int)).bind fun y1853=>(wardmotelaw23_count_1_p FU y1853.1 y1853.2 (0:Int) (((((ks D).map fun x=>(pcs D x:Int))).length:Nat):Int)).bind fun y1856=>some y1856))) (fun J545=>(if (0:Int) = (0:Int) then (if (0:Int) = (0:Int) then (if y514.2 = (0:Int) then (slices_Equal_int_int_p FU ((ks D).map fun x=>(pcs D x:Int)) ((ks D).map fun x=>(pcs D x:Int))).bind fun y1869=>(if y1869 = true then J545 (!(decide (y514.1.length = ((ks D).map fun x=>(pcs D x:Int)).length))) else J545 true) else J545 true) else J545 true) else J545 true))) = some true:=by
    rintro kk rfl
    rw [q3,obind]
    unfold jn
    simp only [if_true,List.length_map,decide_true,Bool.not_true]
    rw [equal_ok _ _ (by rw [List.length_map]; omega),obind,decide_eq_true rfl,if_pos rfl,if_neg (by decide)]
    have hh:=loop_ok (B:=wardmotelaw23_SplitMerges_l1 FU ((ks D).map fun x=>(pcs (rel (mrg k a b) D) x:Int),0) ((ks D).map fun x=>(pcs D x:Int),0)) (fun i:Nat=>(ks D).length - i) (fun i=>i ≤ (ks D).length) (fun y=>y = .inr ()) ?_ FU 0 (Nat.zero_le _) (by omega)
    · obtain ⟨y,e,rfl⟩:=hh
      rw [e]
      unfold thn
      simp only
      rw [mk_ok _ _ (by omega),obind,q4,obind]
      have hs1:((ks D).filter fun x=>decide (1 < pcs D4 x)) = []:=by
        rw [List.filter_eq_nil_iff]
        intro x hx
        rw [hkz x (ks_mem.1 hx).2]; decide
      have hs2:((ks D).map fun x=>(pcs D4 x:Int)) = (ks D).map fun _=>(1:Int):=List.map_congr_left fun x hx=>by rw [hkz x (ks_mem.1 hx).2]; rfl
      have hs3:∀ l:List Int,(l.map fun _=>(1:Int)).sum = (l.length:Int):=fun l=>by
        induction l with
        | nil=>rfl
        | cons x l ih=>rw [List.map_cons,List.sum_cons,ih,List.length_cons]; omega
      rw [hs1,hs2,hs3]
      unfold wardmotelaw23_count_1_p
      simp
    · intro i J hi hJ
      unfold wardmotelaw23_SplitMerges_l1
      simp only [List.length_map]
      by_cases hi2:i < (ks D).length
      · have f:=f3 (ks D)[i]
        have g:=pcs_pos (fun t ht=>(hdm3 t ht).2.2) (k:=(ks D)[i]) (by rw [rel_keys]; exact (ks_mem.1 (List.getElem_mem hi2)).2)
        rw [if_pos hi2,List.getElem?_eq_getElem (by simpa using hi2),obind,List.getElem_map,List.getElem?_eq_getElem (by simpa using hi2),obind,List.getElem_map,if_neg (by omega),chkI (by have:=pcs_le D (ks D)[i]; omega) (by have:=pcs_le D (ks D)[i]; omega),obind,if_neg (by omega),if_neg (by omega)]
        exact hJ _ hi2 (by omega)
      · rw [if_neg hi2]; exact ⟨_,rfl,rfl⟩
  unfold jn
  dsimp only
  by_cases hab:a = b
  · rw [if_pos hab]
    exact key k (by rw [hk', if_pos hab])
  · rw [if_neg hab,chkI (by omega) (by omega),obind]
    exact key (k - 1) (by rw [hk', if_neg hab])
theorem splitMerges_ex (a0:TDraft) (a1:TDraft26) (a2:UInt8) (a3:UInt8):∃ n,wardmotelaw23_SplitMerges_p n a0 a1 a2 a3 = some true:=⟨FU,merges_ok a0 a1 a2 a3⟩
end Go.Proofs.YtfncplndfpgngaaGreatDoor
