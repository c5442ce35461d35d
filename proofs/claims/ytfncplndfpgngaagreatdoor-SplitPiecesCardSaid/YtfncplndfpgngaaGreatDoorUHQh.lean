/- Plain laws: both checks of a plan say the same; the land. No program in sight but the printed functions. -/
import Derived.Test.YtfncplndfpgngaaGreatDoorUHQg
import Derived.Test.YtfncplndfpgngaaGreatDoorUHSd
namespace Go.Proofs.YtfncplndfpgngaaGreatDoor
open Go
set_option maxRecDepth 8000
structure Lnd (r:TRoll) (us:List TUnit):Prop where
  all:∃ ws,r.fm = us ++ ws∧∀ u ∈ ws,u.fo = true
  w:∀ u ∈ us,u.fo = false
theorem lnd_of {r:TRoll} (h:RV r):∃ us,Lnd r us∧1 ≤ us.length:=by
  have key:∀ (l:List TUnit),(∀ i (h:i < l.length) j (h' : j < i),l[j].fo = true → l[i].fo = true) → ∃ us ws,l = us ++ ws∧(∀ u ∈ us,u.fo = false)∧(∀ u ∈ ws,u.fo = true)∧((∀ h:0 < l.length,l[0].fo = false) → 0 < l.length → 1 ≤ us.length):=by
    intro l
    induction l with
    | nil=>intro _; exact ⟨[],[],rfl,by simp,by simp,fun _ h=>by simp at h⟩
    | cons u l ih=>
      intro hl
      rcases hu:u.fo with _ | _
      · obtain ⟨us,ws,e,h1,h2,_⟩:=ih fun i hi j hj=>hl (i + 1) (by simpa using hi) (j + 1) (by omega)
        refine ⟨u :: us,ws,by rw [e]; rfl,fun v hv=>?_,h2,fun _ _=>by simp⟩
        rcases List.mem_cons.1 hv with rfl | hv
        · exact hu
        · exact h1 v hv
      · refine ⟨[],u :: l,rfl,by simp,fun v hv=>?_,fun h0 _=>?_⟩
        · obtain ⟨i,hi,rfl⟩:=List.getElem_of_mem hv
          cases i with
          | zero=>exact hu
          | succ i=>exact hl (i + 1) hi 0 (by omega) hu
        · have:=h0 (by simp)
          simp only [List.getElem_cons_zero] at this
          rw [hu] at this; cases this
  obtain ⟨us,ws,e,h1,h2,h3⟩:=key r.fm h.w
  exact ⟨us,⟨⟨ws,e,h2⟩,h1⟩,h3 h.z h.n.1⟩
theorem Lnd.at {r:TRoll} {us:List TUnit} (h:Lnd r us) {i:Nat} (hi:i < r.fm.length):(∃ h2:i < us.length,r.fm[i] = us[i]∧r.fm[i].fo = false) ∨ us.length ≤ i∧r.fm[i].fo = true:=by
  obtain ⟨ws,e,hw⟩:=h.all
  have hz:r.fm.length = us.length + ws.length:=by rw [e,List.length_append]
  by_cases h2:i < us.length
  · have e0:r.fm[i] = us[i]:=by simp only [e]; exact List.getElem_append_left h2
    exact .inl ⟨h2,e0,by rw [e0]; exact h.w _ (List.getElem_mem _)⟩
  · refine .inr ⟨by omega,hw _ ?_⟩
    have:r.fm[i] = ws[i - us.length]'(by omega):=by simp only [e]; exact List.getElem_append_right (by omega)
    rw [this]; exact List.getElem_mem _
theorem Lnd.le {r:TRoll} {us:List TUnit} (h:Lnd r us):us.length ≤ r.fm.length:=by
  obtain ⟨ws,e,_⟩:=h.all
  rw [e,List.length_append]; omega
theorem lands_eq {r:TRoll} {us:List TUnit} (h:Lnd r us) (hn:r.fm.length ≤ 1000):wardmoteref16_Lands_p FU r = some (us.length:Int):=by
  have hF:=FU_lt
  have hle:=h.le
  have hh:=loop_ok (B:=wardmoteref16_Lands_l1 FU r) (fun i:Nat=>r.fm.length - i) (fun i=>i ≤ us.length) (fun y=>y = us.length) ?_ FU 0 (Nat.zero_le _) (by omega)
  · obtain ⟨y,e,rfl⟩:=hh
    unfold wardmoteref16_Lands_p jn
    simp only
    rw [e,obind]
  · intro i J hi hJ
    unfold wardmoteref16_Lands_l1
    simp only
    by_cases h0:i < r.fm.length
    · rw [if_pos h0,List.getElem?_eq_getElem h0,obind]
      rcases h.at h0 with ⟨h2,_,hw⟩ | ⟨h2,hw⟩
      · rw [if_neg (by rw [hw]; decide)]
        exact hJ (i + 1) h2 (by omega)
      · rw [if_pos hw]
        exact ⟨_,rfl,by omega⟩
    · rw [if_neg h0]
      exact ⟨_,rfl,by omega⟩
def Fits (p:List Int) (n:Nat) (k:Int):Prop:=p.length = n∧PlanOk p k
theorem fail_no' (e:Int):balance_fail_p FU false e = some (.ok ()):=rfl
theorem fail_yes:balance_fail_p FU true 220 = some (.error ⟨220⟩):=rfl
theorem full_of_len {l:List Int} {k:Int} (hk:0 ≤ k) (hn:l.Nodup) (h:∀ x ∈ l,0 ≤ x∧x < k) (hl:(l.length:Int) = k):∀ d,0 ≤ d → d < k → d ∈ l:=fun d d0 d1=>by
  refine Classical.byContradiction fun hd=>?_
  have h2:((List.range k.toNat).map fun i:Nat=>(i:Int)).Nodup:=by
    unfold List.Nodup
    exact List.Pairwise.map _ (fun a b hab=>by omega) List.nodup_range
  have h3:(d :: l).length ≤ ((List.range k.toNat).map fun i:Nat=>(i:Int)).length:=(List.nodup_cons.2 ⟨hd,hn⟩).length_le_of_subset fun x hx=>by
    have hx2:0 ≤ x∧x < k:=by
      rcases List.mem_cons.1 hx with rfl | hx
      · exact ⟨d0,d1⟩
      · exact h x hx
    exact List.mem_map.2 ⟨x.toNat,List.mem_range.2 (by omega),by omega⟩
  rw [List.length_cons,List.length_map,List.length_range] at h3
  omega
theorem used_eq (r:TRoll) (p:List Int) (k:Int) (hl:p.length ≤ 1000):∃ y,loopF (balance_count_check_l1 FU p ⟨r,k⟩) FU (0,[]) = some y∧((∃ D:List (Int × Bool),y = .inr D∧(∀ x ∈ p,0 ≤ x∧x < k)∧(D.map Prod.fst).Nodup∧∀ x,x ∈ D.map Prod.fst ↔ x ∈ p) ∨ y = .inl (.error ⟨220⟩)∧¬ ∀ x ∈ p,0 ≤ x∧x < k):=by
  have hF:=FU_lt
  refine loop_ok (B:=balance_count_check_l1 FU p ⟨r,k⟩) (fun s:Nat × List (Int × Bool)=>p.length - s.1) (fun s=>s.1 ≤ p.length∧(∀ x ∈ p.take s.1,0 ≤ x∧x < k)∧(s.2.map Prod.fst).Nodup∧∀ x,x ∈ s.2.map Prod.fst ↔ x ∈ p.take s.1) _ ?_ FU (0,[]) ⟨by simp,by simp,by simp,by simp⟩ (by simp only; omega)
  rintro ⟨i,D⟩ J ⟨a1,a0,a2,a3⟩ hJ
  simp only at a0 a1 a2 a3 hJ
  unfold balance_count_check_l1
  simp only
  by_cases hi:i < p.length
  · rw [if_pos hi,List.getElem?_eq_getElem hi,obind]
    by_cases hx:0 ≤ p[i]∧p[i] < k
    · rw [if_neg (by omega),decide_eq_false (by omega),fail_no', obind]
      unfold exc
      simp only
      refine hJ _ ⟨hi,fun x hx2=>?_,?_,fun x=>?_⟩ (by simp only; omega)
      · simp only at hx2
        rw [List.take_succ_eq_append_getElem hi,List.mem_append,List.mem_singleton] at hx2
        rcases hx2 with hx2 | rfl
        · exact a0 x hx2
        · exact hx
      · simp only
        rw [mset_keys]
        split
        · exact a2
        · rename_i h5
          rw [List.nodup_append]
          exact ⟨a2,by simp,fun a ha b hb=>by rw [List.mem_singleton.1 hb]; exact fun e=>h5 (e ▸ ha)⟩
      · simp only
        rw [mset_keys,← List.take_append_getElem hi,List.mem_append,← a3 x,List.mem_singleton]
        split
        · rename_i h5
          constructor
          · exact .inl
          · rintro (h6 | rfl)
            · exact h6
            · exact h5
        · rw [List.mem_append,List.mem_singleton]
    · have hbad:¬ ∀ x ∈ p,0 ≤ x∧x < k:=fun h=>hx (h _ (List.getElem_mem _))
      by_cases h1:p[i] < 0
      · rw [if_pos h1,fail_yes,obind]
        exact ⟨_,rfl,.inr ⟨rfl,hbad⟩⟩
      · rw [if_neg h1,decide_eq_true (by omega),fail_yes,obind]
        exact ⟨_,rfl,.inr ⟨rfl,hbad⟩⟩
  · rw [if_neg hi]
    rw [List.take_of_length_le (by omega)] at a0 a3
    exact ⟨_,rfl,.inl ⟨D,rfl,a0,a2,a3⟩⟩
open Classical in
theorem labels_eq (r:TRoll) (p:List Int) (k:Int) (hk:1 ≤ k) (hl:p.length ≤ 1000):(thn (loopF (balance_count_check_l1 FU p ⟨r,k⟩) FU (0,[])) (fun D443=>(balance_fail_p FU (!(decide (((D443.length:Nat):Int) = k))) (220:Int)).bind fun y497=>exc y497 (fun _=>some (Except.ok ())) (fun e498=>some (.error e498)))) = some (if PlanOk p k then .ok () else .error ⟨220⟩):=by
  obtain ⟨y,e,hy⟩:=used_eq r p k hl
  rw [e]
  rcases hy with ⟨D,rfl,h1,h2,h3⟩ | ⟨rfl,h1⟩
  · unfold thn
    simp only
    by_cases hD:(D.length:Int) = k
    · rw [decide_eq_true hD]
      have hp:PlanOk p k:=⟨h1,fun d d0 d1=>(h3 d).1 (full_of_len (by omega) h2 (fun x hx=>h1 x ((h3 x).1 hx)) (by rw [List.length_map]; exact hD) d d0 d1)⟩
      rw [if_pos hp]; rfl
    · rw [decide_eq_false hD]
      have hp:¬ PlanOk p k:=fun hp=>hD (by
        have:=range_len (l:=D.map Prod.fst) (k:=k) (by omega) h2 fun x=>by
          rw [h3 x]; exact ⟨fun hx=>hp.1 x hx,fun hx=>hp.2 x hx.1 hx.2⟩
        rwa [List.length_map] at this)
      rw [if_neg hp]; rfl
  · have hp:¬ PlanOk p k:=fun hp=>h1 hp.1
    rw [if_neg hp]; rfl
open Classical in
theorem check_eq {r:TRoll} {us:List TUnit} (h:Lnd r us) (hn:r.fm.length ≤ 1000) (p:List Int) (k:Int) (hk:1 ≤ k) (hl:p.length ≤ 1000):balance_count_check_p FU ⟨r,k⟩ p = some (if Fits p us.length k then .ok () else .error ⟨220⟩):=by
  have hF:=FU_lt
  have hle:=h.le
  have lab:=labels_eq r p k hk hl
  have tailOk:∀ z:Int,z = us.length → ((balance_fail_p FU (!(decide (((p.length:Nat):Int) = z))) (220:Int)).bind fun y182=>exc y182 (fun _=>thn (loopF (balance_count_check_l1 FU p ⟨r,k⟩) FU (0,([]:List (Int × Bool)))) (fun D265=>(balance_fail_p FU (!(decide (((D265.length:Nat):Int) = k))) (220:Int)).bind fun y319=>exc y319 (fun _=>some (Except.ok ())) (fun e320=>some (.error e320)))) (fun e183=>some (.error e183))) = some (if Fits p us.length k then .ok () else .error ⟨220⟩):=by
    rintro z rfl
    by_cases hz:((p.length:Nat):Int) = us.length
    · rw [decide_eq_true hz]
      simp only [Bool.not_true]
      rw [fail_no', obind]
      unfold exc
      simp only
      refine lab.trans ?_
      by_cases hp:PlanOk p k
      · rw [if_pos hp,if_pos ⟨by omega,hp⟩]
      · rw [if_neg hp,if_neg fun hf:Fits p us.length k=>hp hf.2]
    · rw [decide_eq_false hz,if_neg fun hf:Fits p us.length k=>hz (by rw [hf.1])]
      rfl
  have hh:=loop_ok (B:=balance_count_check_l3 FU ⟨r,k⟩ p) (fun s:Nat × Int=>r.fm.length - s.1) (fun s=>s.1 ≤ us.length∧s.2 = s.1) (fun y=>y = .inl (if Fits p us.length k then .ok () else .error ⟨220⟩) ∨ y = .inr (us.length:Int)) ?_ FU (0,0) ⟨by simp,by simp⟩ (by simp only; omega)
  · obtain ⟨y,e,hy⟩:=hh
    unfold balance_count_check_p
    rw [e]
    rcases hy with rfl | rfl
    · rfl
    · exact tailOk _ rfl
  · rintro ⟨i,z⟩ J ⟨a1,a2⟩ hJ
    simp only at a1 a2 hJ
    subst a2
    unfold balance_count_check_l3
    simp only
    by_cases hi:i < r.fm.length
    · rw [if_pos hi,List.getElem?_eq_getElem hi,obind]
      rcases h.at hi with ⟨h2,_,hw⟩ | ⟨h2,hw⟩
      · rw [if_neg (by rw [hw]; decide),chkI (by omega) (by omega),obind]
        exact hJ _ ⟨by simp only; omega,by simp only; omega⟩ (by simp only; omega)
      · rw [if_pos hw]
        refine ⟨.inl (if Fits p us.length k then .ok () else .error ⟨220⟩),?_,.inl rfl⟩
        exact congrArg (Option.map _) (tailOk (i:Int) (by omega))
    · rw [if_neg hi]
      exact ⟨_,rfl,.inr (by rw [show i = us.length by omega])⟩
open Classical in
theorem balCheck_eq {r:TRoll} (hS:∀ u ∈ r.fm,Sm4 u) (p:List Int) (k:Int) (hk:1 ≤ k) (hk8:k ≤ 8) (hl:p.length ≤ 1000) (us:List TUnit) (hL:RV r → Lnd r us):balance_Check_p FU r p k = some (if RV r then if Fits p us.length k then 0 else 220 else 161):=by
  unfold balance_Check_p balance_Check_1_p balance_counted_p
  rw [checkroll_eq r hS,obind]
  by_cases hv:RV r
  · have hn:=hv.n
    rw [if_pos hv,if_pos hv]
    unfold balance_need_p
    rw [if_pos rfl,obind]
    unfold exc
    simp only
    rw [if_neg (by omega),decide_eq_false (by omega),fail_no', obind]
    simp only
    rw [obind]
    simp only
    rw [check_eq (hL hv) (by omega) p k hk hl]
    by_cases hf:Fits p us.length k
    · rw [if_pos hf,if_pos hf]; rfl
    · rw [if_neg hf,if_neg hf]; rfl
  · rw [if_neg hv,if_neg hv]
    rfl
open Classical in
theorem fits_eq (p:List Int) (n:Nat) (k:Int) (hk:1 ≤ k) (hk8:k ≤ 8) (hn:n ≤ 1000):wardmoteref22_fits_p FU p (n:Int) k = some (decide (Fits p n k)):=by
  have hF:=FU_lt
  unfold wardmoteref22_fits_p
  by_cases hl:((p.length:Nat):Int) = n
  · rw [if_pos hl,show mk k false = some (List.replicate k.toNat false) from if_pos ⟨by omega,by omega⟩,obind]
    have hh:=loop_ok (B:=wardmoteref22_fits_l2 FU n p k) (fun s:Int × List Bool=>n - s.1.toNat) (fun s=>0 ≤ s.1∧s.1 ≤ n∧s.2.length = k.toNat∧(∀ x ∈ p.take s.1.toNat,0 ≤ x∧x < k)∧∀ d (hd:d < s.2.length),s.2[d] = true ↔ (d:Int) ∈ p.take s.1.toNat)
      (fun y=>(∃ xs:List Bool,y = .inr xs∧xs.length = k.toNat∧(∀ x ∈ p,0 ≤ x∧x < k)∧∀ d (hd:d < xs.length),xs[d] = true ↔ (d:Int) ∈ p) ∨ y = .inl false∧¬ ∀ x ∈ p,0 ≤ x∧x < k) ?_ FU (0,List.replicate k.toNat false) ⟨by simp,by simp,by simp,by simp,by simp⟩ (by simp only; omega)
    · obtain ⟨y,e,hy⟩:=hh
      rw [e]
      rcases hy with ⟨xs,rfl,x1,x2,x3⟩ | ⟨rfl,hb⟩
      · have hh2:=loop_ok (B:=wardmoteref22_fits_l1 FU k xs) (fun z:Int=>9 - z.toNat) (fun z=>0 ≤ z∧z ≤ k∧∀ d,0 ≤ d → d < z → d ∈ p) (fun y=>y = .inr ()∧PlanOk p k ∨ y = .inl false∧¬ PlanOk p k) ?_ FU 0 ⟨by omega,by omega,fun d h1 h2=>by omega⟩ (by omega)
        · obtain ⟨y,e2,hy⟩:=hh2
          unfold thn
          simp only
          rw [e2]
          rcases hy with ⟨rfl,hp⟩ | ⟨rfl,hp⟩
          · rw [decide_eq_true (show Fits p n k from ⟨by omega,hp⟩)]
          · rw [decide_eq_false fun hf:Fits p n k=>hp hf.2]
        · rintro z J ⟨z0,z1,z2⟩ hJ
          unfold wardmoteref22_fits_l1
          simp only
          by_cases hz:z < k
          · have hzx:z.toNat < xs.length:=by omega
            have hiff:=x3 z.toNat hzx
            rw [show ((z.toNat:Nat):Int) = z by omega] at hiff
            rw [if_pos hz,idx_ok z0 hzx,obind]
            by_cases hb:xs[z.toNat] = true
            · rw [if_pos hb,chkI (by omega) (by omega),obind]
              refine hJ _ ⟨by omega,by omega,fun d d0 d1=>?_⟩ (by omega)
              by_cases e:d = z
              · rw [e]; exact hiff.1 hb
              · exact z2 d d0 (by omega)
            · rw [if_neg hb]
              exact ⟨_,rfl,.inr ⟨rfl,fun hp=>hb (hiff.2 (hp.2 z z0 hz))⟩⟩
          · rw [if_neg hz]
            exact ⟨_,rfl,.inl ⟨rfl,x2,fun d d0 d1=>z2 d d0 (by omega)⟩⟩
      · rw [decide_eq_false fun hf:Fits p n k=>hb hf.2.1]; rfl
    · rintro ⟨z,xs⟩ J ⟨z0,z1,a1,a2,a3⟩ hJ
      simp only at z0 z1 a1 a2 a3 hJ
      obtain ⟨i,rfl⟩:∃ i:Nat,z = (i:Int):=⟨z.toNat,by omega⟩
      simp only [Int.toNat_natCast] at a2 a3 hJ
      unfold wardmoteref22_fits_l2
      simp only
      by_cases hi:(i:Int) < n
      · have hip:i < p.length:=by omega
        rw [if_pos hi,idx_ok (by omega) (by rw [Int.toNat_natCast]; exact hip),obind]
        simp only [Int.toNat_natCast]
        by_cases hx:0 ≤ p[i]∧p[i] < k
        · have hpx:p[i].toNat < xs.length:=by omega
          rw [if_neg (by omega),if_neg (by omega),idx_ok hx.1 hpx,obind,put_ok _ hpx,obind,chkI (by omega) (by omega),obind]
          refine hJ _ ⟨by simp only; omega,by simp only; omega,by simpa using a1,?_,?_⟩ (by simp only; omega)
          · simp only
            rw [show ((i:Int) + 1).toNat = i + 1 by omega,List.take_succ_eq_append_getElem hip]
            intro x hx2
            rw [List.mem_append,List.mem_singleton] at hx2
            rcases hx2 with hx2 | rfl
            · exact a2 x hx2
            · exact hx
          · simp only
            rw [show ((i:Int) + 1).toNat = i + 1 by omega,List.take_succ_eq_append_getElem hip]
            intro d hd
            rw [List.length_set] at hd
            rw [List.getElem_set,List.mem_append,List.mem_singleton]
            by_cases e:p[i].toNat = d
            · rw [if_pos e]; exact ⟨fun _=>.inr (by omega),fun _=>rfl⟩
            · rw [if_neg e,a3 d hd]
              exact ⟨.inl,fun h=>h.elim id fun h=>absurd h (by omega)⟩
        · have hbad:¬ ∀ x ∈ p,0 ≤ x∧x < k:=fun h=>hx (h _ (List.getElem_mem _))
          by_cases h1:p[i] < 0
          · rw [if_pos h1]; exact ⟨_,rfl,.inr ⟨rfl,hbad⟩⟩
          · rw [if_neg h1,if_pos (by omega)]; exact ⟨_,rfl,.inr ⟨rfl,hbad⟩⟩
      · rw [if_neg hi]
        rw [List.take_of_length_le (by omega)] at a2 a3
        exact ⟨_,rfl,.inl ⟨xs,rfl,a1,a2,a3⟩⟩
  · rw [if_neg hl,decide_eq_false fun hf:Fits p n k=>hl (by rw [hf.1])]
open Classical in
theorem refCheck_eq {r:TRoll} (hS:∀ u ∈ r.fm,Sm4 u) (p:List Int) (k:Int) (hk:1 ≤ k) (hk8:k ≤ 8) (us:List TUnit) (hL:RV r → Lnd r us):wardmoteref22_Check_p FU r p k = some (if RV r then if Fits p us.length k then 0 else 220 else 161):=by
  unfold wardmoteref22_Check_p wardmoteref22_counted_p
  rw [checkrollR_eq r hS,obind]
  by_cases hv:RV r
  · have hn:=hv.n
    have hle:=(hL hv).le
    rw [if_pos hv,if_pos hv,if_pos rfl,if_neg (by omega),if_neg (by omega),obind,if_pos rfl]
    unfold wardmoteref22_Land_p wardmoteref16_Land_p
    rw [checkrollR_eq r hS,if_pos hv,obind,if_pos rfl,lands_eq (hL hv) (by omega),obind,obind,obind,fits_eq p us.length k hk hk8 (by omega),obind]
    by_cases hf:Fits p us.length k
    · rw [if_pos (decide_eq_true hf),if_pos hf]
    · rw [if_neg (by simpa using hf),if_neg hf]
  · rw [if_neg hv,if_neg hv,if_neg (by decide),obind,if_neg (by decide)]
theorem land_eq {r:TRoll} (hS:∀ u ∈ r.fm,Sm4 u) (hv:RV r) {us:List TUnit} (hL:Lnd r us):wardmoteref22_Land_p FU r = some (us.length:Int):=by
  have hn:=hv.n
  unfold wardmoteref22_Land_p wardmoteref16_Land_p
  rw [checkrollR_eq r hS,if_pos hv,obind,if_pos rfl,lands_eq hL (by omega),obind,obind]
end Go.Proofs.YtfncplndfpgngaaGreatDoor
