/- Plain law: SplitNests. No program in sight but the printed functions. -/
import Derived.Test.YtfncplndfpgngaaGreatDoorSGQe
namespace Go.Proofs.YtfncplndfpgngaaGreatDoor
open Go
set_option maxRecDepth 8000
def key (a:Nat) (u:TUnit):Int:=(u.fw[a]?).getD 0
def Nst (us:List TUnit) (a b:Nat):Prop:=∀ u ∈ us,∀ v ∈ us,key a u = key a v → key b u = key b v
theorem nested_ok {r:TRoll} {us:List TUnit} {a b:Nat} (h:LR r us a) (h' : LR r us b):∃ q:Bool,split_Nested_p FU r a b = some (q,0)∧(q = true ↔ Nst us a b):=by
  have hF:=FU_lt
  have hN:=h.n
  obtain ⟨ws,hr,hw⟩:=h.all
  have hz:r.fm.length = us.length + ws.length:=by rw [hr,List.length_append]
  have hh:=loop_ok (B:=split_Nested_l1 FU (⟨r,a⟩,0) b) (fun s:Nat × List (Int × Int)=>r.fm.length - s.1)
    (fun s=>s.1 ≤ r.fm.length∧(∀ j (hj:j < us.length),j < s.1 → mget s.2 (key a us[j]) = some (key b us[j]))∧∀ x,mget s.2 x ≠ none → ∃ j,∃ hj:j < us.length,j < s.1∧key a us[j] = x)
    (fun y=>y = .inr ()∧Nst us a b ∨ y = .inl (false,0)∧¬ Nst us a b) ?_ FU (0,[]) ⟨Nat.zero_le _,fun j _ hj=>by simp at hj,fun x hx=>absurd rfl hx⟩ (by simp only; omega)
  · obtain ⟨y,e,hy⟩:=hh
    unfold split_Nested_p
    rw [seen_ok h,obind]
    unfold jn
    simp only [if_true]
    rw [seen_ok h', obind]
    simp only [if_true]
    rw [e]
    rcases hy with ⟨rfl,hq⟩ | ⟨rfl,hq⟩
    · exact ⟨true,rfl,by simpa using hq⟩
    · exact ⟨false,rfl,by simpa using hq⟩
  · rintro ⟨i,M⟩ J ⟨a1,a2,a3⟩ hJ
    simp only at a1 a2 a3 hJ
    unfold split_Nested_l1
    simp only
    split
    · rename_i hi
      rw [List.getElem?_eq_getElem hi,obind]
      by_cases h2:i < us.length
      · have e0:r.fm[i] = us[i]:=by simp only [hr]; exact List.getElem_append_left h2
        have q1:=h.q us[i] (List.getElem_mem _)
        have q2:=h'.q us[i] (List.getElem_mem _)
        have k1:key a us[i] = us[i].fw[a]'q1.1:=by unfold key; rw [List.getElem?_eq_getElem q1.1]; rfl
        have k2:key b us[i] = us[i].fw[b]'q2.1:=by unfold key; rw [List.getElem?_eq_getElem q2.1]; rfl
        rw [e0,if_neg (by rw [h.w us[i] (List.getElem_mem _)]; decide),idx_ok (by omega) (by rw [Int.toNat_natCast]; exact q1.1),obind,idx_ok (by omega) (by rw [Int.toNat_natCast]; exact q2.1),obind]
        simp only [Int.toNat_natCast]
        rw [← k1,← k2]
        have next:(mget M (key a us[i]) = none ∨ mget M (key a us[i]) = some (key b us[i])) → ∃ y,J (i + 1,mset M (key a us[i]) (key b us[i])) = some y∧(y = .inr ()∧Nst us a b ∨ y = .inl (false,0)∧¬ Nst us a b):=fun hm=>by
          refine hJ _ ⟨hi,fun j hj hji=>?_,fun x hx=>?_⟩ (by simp only; omega)
          · simp only at hji ⊢
            rw [mget_mset]
            by_cases e:j = i
            · subst e; rw [if_pos rfl]
            · have hold:=a2 j hj (by omega)
              by_cases e2:key a us[j] = key a us[i]
              · rw [if_pos e2]
                rw [e2] at hold
                rcases hm with hm | hm
                · rw [hm] at hold; cases hold
                · rw [hm] at hold; exact hold
              · rw [if_neg e2]; exact hold
          · simp only at hx ⊢
            rw [mget_mset] at hx
            by_cases e:x = key a us[i]
            · exact ⟨i,h2,by omega,e.symm⟩
            · rw [if_neg e] at hx
              obtain ⟨j,hj,hji,e3⟩:=a3 x hx
              exact ⟨j,hj,by omega,e3⟩
        rcases hm:mget M (key a us[i]) with _ | y
        · rw [if_neg (by simp)]
          exact next (.inl hm)
        · rw [if_pos (show (some y).isSome = true from rfl)]
          have hmD:mgetD M (key a us[i]) 0 = y:=by unfold mgetD; rw [hm]; rfl
          rw [hmD]
          by_cases e:y = key b us[i]
          · rw [if_pos e]
            exact next (.inr (by rw [hm,e]))
          · rw [if_neg e]
            refine ⟨_,rfl,.inr ⟨rfl,fun hn=>e ?_⟩⟩
            obtain ⟨j,hj,hji,e3⟩:=a3 (key a us[i]) (by rw [hm]; simp)
            have h4:=a2 j hj hji
            rw [e3,hm] at h4
            rw [Option.some.inj h4]
            exact hn _ (List.getElem_mem _) _ (List.getElem_mem _) e3
      · have e0:r.fm[i] ∈ ws:=by
          have:r.fm[i] = ws[i - us.length]'(by omega):=by simp only [hr]; exact List.getElem_append_right (by omega)
          rw [this]; exact List.getElem_mem _
        rw [if_pos (hw _ e0)]
        refine hJ _ ⟨hi,fun j hj _=>a2 j hj (by omega),fun x hx=>?_⟩ (by simp only; omega)
        obtain ⟨j,hj,hji,e3⟩:=a3 x hx
        exact ⟨j,hj,by simp only; omega,e3⟩
    · rename_i hi
      refine ⟨_,rfl,.inl ⟨rfl,fun u hu v hv e=>?_⟩⟩
      obtain ⟨j,hj,rfl⟩:=List.getElem_of_mem hu
      obtain ⟨k,hk,rfl⟩:=List.getElem_of_mem hv
      have h1:=a2 j hj (by omega)
      have h2:=a2 k hk (by omega)
      rw [e,h2] at h1
      exact (Option.some.inj h1).symm
def tell (m:Int) (u:TUnit):TUnit:=if u.fo = true then u else ⟨u.ft,u.fp,u.fe,u.fC,[key 0 u,(key 0 u).tmod m],u.fo⟩
theorem tell_loop (r:TRoll) (us:List TUnit) (hr:RollOk r us) (hL:r.fh = 2) (b:UInt8):loopF (wardmotelaw23_SplitNests_l4 FU r b) FU (0,r.fm) = some (r.fm.map (tell ((1 + (b % (3:UInt8)).toNat:Nat):Int))):=by
  have hF:=FU_lt
  have hs:=hr.size
  have hl:=hr.len
  generalize hm:((1 + (b % (3:UInt8)).toNat:Nat):Int) = m
  have hm0:m ≠ 0:=by omega
  have hh:=loop_ok (B:=wardmotelaw23_SplitNests_l4 FU r b) (fun s:Nat × List TUnit=>r.fm.length - s.1) (fun s=>s.1 ≤ r.fm.length∧s.2 = (r.fm.take s.1).map (tell m) ++ r.fm.drop s.1) (fun y=>y = r.fm.map (tell m)) ?_ FU (0,r.fm) ⟨Nat.zero_le _,by simp⟩ (by simp only; omega)
  · obtain ⟨y,e,rfl⟩:=hh; exact e
  · rintro ⟨i,xs⟩ J ⟨h1,h2⟩ hJ
    simp only at h1 h2 hJ
    subst h2
    unfold wardmotelaw23_SplitNests_l4 jn
    simp only
    split
    · rename_i hi
      have ht:((r.fm.take i).map (tell m)).length = i:=by rw [List.length_map,List.length_take]; omega
      have hg:((r.fm.take i).map (tell m) ++ r.fm.drop i)[i]? = some r.fm[i]:=by
        rw [List.getElem?_append_right (by omega),ht,Nat.sub_self,List.getElem?_drop,Nat.add_zero,List.getElem?_eq_getElem hi]
      have hlen:((r.fm.take i).map (tell m) ++ r.fm.drop i).length = r.fm.length:=by rw [List.length_append,ht,List.length_drop]; omega
      have hsucc:(r.fm.take i).map (tell m) ++ tell m r.fm[i] :: r.fm.drop (i + 1) = (r.fm.take (i + 1)).map (tell m) ++ r.fm.drop (i + 1):=by
        rw [List.take_succ_eq_append_getElem hi,List.map_append,List.append_assoc]; rfl
      have next:=hJ (i + 1,(r.fm.take (i + 1)).map (tell m) ++ r.fm.drop (i + 1)) ⟨hi,rfl⟩ (by simp only; omega)
      rw [← hsucc] at next
      rw [hg,obind]
      rcases hr.unit hi with ⟨h2,e2⟩ | ⟨h2,e2⟩
      · have hu:=(hr.land i h2).2
        have hw:r.fm[i].fo = false:=by rw [e2]; exact hu.1
        have hq:0 < r.fm[i].fw.length:=by rw [e2]; have:=hu.2.2.2.2.1; omega
        rw [if_neg (by rw [hw]; decide),List.getElem?_eq_getElem hq,obind,hm,remI_ok hm0,obind,put_ok _ (by rw [hlen]; exact hi),obind,List.set_append_right _ _ (by omega),ht,Nat.sub_self,List.drop_eq_getElem_cons hi,List.set_cons_zero]
        have et:tell m r.fm[i] = ⟨r.fm[i].ft,r.fm[i].fp,r.fm[i].fe,r.fm[i].fC,[r.fm[i].fw[0],(r.fm[i].fw[0]).tmod m],r.fm[i].fo⟩:=by
          unfold tell key
          rw [if_neg (by rw [hw]; decide),List.getElem?_eq_getElem hq,Option.getD_some]
        rw [et] at next
        exact next
      · have hw:r.fm[i].fo = true:=by rw [e2]; rfl
        rw [if_pos hw]
        have et:tell m r.fm[i] = r.fm[i]:=by unfold tell; rw [if_pos hw]
        rw [et,← List.drop_eq_getElem_cons hi] at next
        exact next
    · exact ⟨_,rfl,by rw [List.take_of_length_le (by omega),List.drop_of_length_le (by omega),List.append_nil]⟩
theorem tell_roll {r:TRoll} {us:List TUnit} (hr:RollOk r us) (hL:r.fh = 2) {m:Int} (hm:1 ≤ m) (hm3:m ≤ 3):RollOk ⟨r.fe,r.fc,r.fh,r.fm.map (tell m)⟩ (us.map (tell m)):=by
  refine ⟨hr.g,hr.p,hr.l,by rw [List.length_map]; exact hr.len,fun i hi=>?_,?_⟩
  · rw [List.length_map] at hi
    obtain ⟨n1,w1,p1,g1,v1,q1⟩:=hr.land i hi
    have hq:0 < us[i].fw.length:=by have:=q1.1; omega
    have et:tell m us[i] = ⟨us[i].ft,us[i].fp,us[i].fe,us[i].fC,[us[i].fw[0],(us[i].fw[0]).tmod m],us[i].fo⟩:=by
      unfold tell key
      rw [if_neg (by rw [w1]; decide),List.getElem?_eq_getElem hq,Option.getD_some]
    rw [List.getElem_map,et]
    have hx:=q1.2 us[i].fw[0] (List.getElem_mem _)
    refine ⟨n1,w1,p1,g1,v1,?_,fun x hx2=>?_⟩
    · simp only [List.length_cons,List.length_nil]; omega
    · simp only [List.mem_cons,List.not_mem_nil,or_false] at hx2
      rcases hx2 with rfl | rfl
      · exact hx
      · rw [Int.tmod_eq_emod_of_nonneg hx.1]
        have h1:=Int.emod_nonneg us[i].fw[0] (b:=m) (by omega)
        have h2:=Int.emod_lt_of_pos us[i].fw[0] (b:=m) (by omega)
        omega
  · rcases hr.all with e | e
    · left; simp only [e]
    · right
      simp only [e,List.map_append,List.map_cons,List.map_nil]
      rfl
theorem nodup_inj {l:List Int} (hn:l.Nodup) {i j:Nat} (hi:i < l.length) (hj:j < l.length) (h:l[i] = l[j]):i = j:=by
  rcases Nat.lt_trichotomy i j with h1 | h1 | h1
  · exact absurd h (List.pairwise_iff_getElem.1 hn i j hi hj h1)
  · exact h1
  · exact absurd h.symm (List.pairwise_iff_getElem.1 hn j i hj hi h1)
def ix:List Int → Int → Nat
  | [],_=>0
  | y :: l,x=>if x = y then 0 else ix l x + 1
theorem ix_get {x:Int}:∀ {l:List Int},x ∈ l → ∃ h:ix l x < l.length,l[ix l x] = x
  | y :: l,h=>by
    by_cases e:x = y
    · subst e; exact ⟨by simp [ix],by simp [ix]⟩
    · obtain ⟨h1,h2⟩:=ix_get (l:=l) ((List.mem_cons.1 h).resolve_left e)
      refine ⟨by simp only [ix,e,if_false,List.length_cons]; omega,?_⟩
      simp only [ix,e,if_false,List.getElem_cons_succ]
      exact h2
theorem index_ok (l:List Int) (x:Int) (hx:x ∈ l) (hn:l.Nodup) (hl:l.length ≤ 1000):slices_Index_int_int_p FU l x = some (ix l x:Int):=by
  have hF:=FU_lt
  obtain ⟨g1,g2⟩:=ix_get hx
  have hh:=loop_ok (B:=slices_Index_int_int_l1 FU l x) (fun i:Nat=>l.length - i) (fun i=>i ≤ ix l x) (fun y=>y = .inl (ix l x:Int)) ?_ FU 0 (Nat.zero_le _) (by omega)
  · obtain ⟨y,e,rfl⟩:=hh
    unfold slices_Index_int_int_p
    rw [e]; rfl
  · intro i J hi hJ
    unfold slices_Index_int_int_l1
    simp only
    rw [if_pos (by omega),List.getElem?_eq_getElem (by omega),obind]
    by_cases e:i = ix l x
    · subst e
      rw [if_pos g2.symm]
      exact ⟨_,rfl,rfl⟩
    · rw [if_neg fun h=>e ?_]
      · exact hJ _ (by omega) (by omega)
      · exact nodup_inj hn _ _ (h.symm.trans g2.symm)
theorem one_splits {r:TRoll} {us:List TUnit} {at_:Nat} (h:LR r us at_) {p:List Int} {k:Int} (hp:PL us p) (hc:balance_Check_p FU r p k = some 0) (h1:∀ x ∈ ks (dat us at_ p),pcs (dat us at_ p) x = 1):split_Splits_p FU r p k at_ = some (⟨0,((ks (dat us at_ p)).length:Nat)⟩,0):=by
  rw [splits_res h hp hc]
  have hs1:((ks (dat us at_ p)).filter fun x=>decide (1 < pcs (dat us at_ p) x)) = []:=by
    rw [List.filter_eq_nil_iff]
    intro x hx
    rw [h1 x hx]; decide
  have hs2:((ks (dat us at_ p)).map fun x=>(pcs (dat us at_ p) x:Int)) = (ks (dat us at_ p)).map fun _=>(1:Int):=List.map_congr_left fun x hx=>by rw [h1 x hx]; rfl
  have hs3:∀ l:List Int,(l.map fun _=>(1:Int)).sum = (l.length:Int):=fun l=>by
    induction l with
    | nil=>rfl
    | cons x l ih=>rw [List.map_cons,List.sum_cons,ih,List.length_cons]; omega
  rw [hs1,hs2,hs3]
  rfl
theorem pcs_one {D:List T3} (hd:∀ t ∈ D,0 ≤ t.2.2∧t.2.2 < 8) {x:Int} (hx:x ∈ keys D) (d:Nat) (h:∀ t ∈ D,t.1 = x → t.2.2 = (d:Int)):pcs D x = 1:=by
  have l1:=pcs_pos hd hx
  have l2:(dsd D x).length ≤ [d].length:=(dsd_nodup _ _).length_le_of_subset fun i hi=>by
    obtain ⟨_,t,ht,h1,h2⟩:=dsd_mem.1 hi
    have:=h t ht h1
    rw [List.mem_singleton]; omega
  have:(dsd D x).length ≤ 1:=l2
  unfold pcs at l1 ⊢
  omega
theorem dat_get {us:List TUnit} {at_:Nat} {p:List Int} (hp:PL us p) {t:T3} (ht:t ∈ dat us at_ p):∃ i,∃ hi:i < us.length,t = (key at_ us[i],us[i].fp,(pl0 us p)[i]'(by rw [pl0_len hp]; exact hi)):=by
  obtain ⟨i,hi,rfl⟩:=List.getElem_of_mem ht
  have hi' : i < us.length:=by rwa [dat_len hp] at hi
  exact ⟨i,hi', dat_at hp hi'⟩
theorem dat_has {us:List TUnit} {at_:Nat} {p:List Int} (hp:PL us p) {i:Nat} (hi:i < us.length):(key at_ us[i],us[i].fp,(pl0 us p)[i]'(by rw [pl0_len hp]; exact hi)) ∈ dat us at_ p:=by
  have:=dat_at (at_:=at_) hp hi
  unfold key
  rw [← this]
  exact List.getElem_mem _
theorem key_mem {us:List TUnit} {at_:Nat} {p:List Int} (hp:PL us p) {x:Int}:x ∈ keys (dat us at_ p) ↔ ∃ u ∈ us,key at_ u = x:=by
  rw [keys_dat hp,List.mem_map]
  rfl
theorem fine_loop (K:List Int) (f:Int → Nat) (hf:∀ x,f x ≤ 8) (hK:∀ x ∈ K,0 ≤ x) (hl:K.length ≤ 64) (b:UInt8) (c e e' : Int):loopF (wardmotelaw23_SplitNests_l1 FU (K,e) b c (K.map fun x=>(f x:Int),e')) FU (0,0) = some (((K.filter fun x=>decide (x % ((1 + (b % (3:UInt8)).toNat:Nat):Int) = c)).map fun x=>(f x:Int)).sum):=by
  have hF:=FU_lt
  generalize hm:((1 + (b % (3:UInt8)).toNat:Nat):Int) = m
  have hm0:m ≠ 0:=by omega
  have bd:∀ i,0 ≤ ((((K.take i).filter fun x=>decide (x % m = c)).map fun x=>(f x:Int)).sum)∧((((K.take i).filter fun x=>decide (x % m = c)).map fun x=>(f x:Int)).sum) ≤ 8 * 64:=fun i=>by
    have key:∀ l:List Int,0 ≤ (l.map fun x=>(f x:Int)).sum∧(l.map fun x=>(f x:Int)).sum ≤ 8 * l.length:=fun l=>by
      induction l with
      | nil=>simp
      | cons x l ih=>have:=hf x; rw [List.map_cons,List.sum_cons,List.length_cons]; omega
    have h1:=key ((K.take i).filter fun x=>decide (x % m = c))
    have h2:((K.take i).filter fun x=>decide (x % m = c)).length ≤ 64:=Nat.le_trans (List.length_filter_le ..) (by rw [List.length_take]; omega)
    omega
  have hh:=loop_ok (B:=wardmotelaw23_SplitNests_l1 FU (K,e) b c (K.map fun x=>(f x:Int),e')) (fun s:Int × Nat=>K.length - s.2) (fun s=>s.2 ≤ K.length∧s.1 = (((K.take s.2).filter fun x=>decide (x % m = c)).map fun x=>(f x:Int)).sum) (fun z=>z = ((K.filter fun x=>decide (x % m = c)).map fun x=>(f x:Int)).sum) ?_ FU (0,0) ⟨Nat.zero_le _,by simp⟩ (by simp only; omega)
  · obtain ⟨z,e,rfl⟩:=hh; exact e
  · rintro ⟨z,i⟩ J ⟨h1,h2⟩ hJ
    simp only at h1 h2 hJ
    subst h2
    unfold wardmotelaw23_SplitNests_l1 jn
    simp only
    split
    · rename_i hi
      have hx:=hK K[i] (List.getElem_mem _)
      have next:=hJ ((((K.take (i + 1)).filter fun x=>decide (x % m = c)).map fun x=>(f x:Int)).sum,i + 1) ⟨hi,rfl⟩ (by simp only; omega)
      have b1:=bd i
      have b2:=hf K[i]
      rw [List.take_succ_eq_append_getElem hi,List.filter_append,List.map_append,List.sum_append] at next
      rw [List.getElem?_eq_getElem hi,obind,hm,remI_ok hm0,obind,Int.tmod_eq_emod_of_nonneg hx]
      by_cases hc:K[i] % m = c
      · rw [if_pos hc,List.getElem?_eq_getElem (by rw [List.length_map]; exact hi),obind,List.getElem_map,chkI (by omega) (by omega),obind]
        rw [List.filter_cons_of_pos (by simpa using hc),List.filter_nil,List.map_cons,List.map_nil,List.sum_cons,List.sum_nil,Int.add_zero] at next
        exact next
      · rw [if_neg hc]
        rw [List.filter_cons_of_neg (by simpa using hc),List.filter_nil,List.map_nil,List.sum_nil,Int.add_zero] at next
        exact next
    · exact ⟨_,rfl,by rw [List.take_of_length_le (by omega)]⟩
theorem sum_cast (l:List Int) (f:Int → List Nat):(((l.flatMap f).length:Nat):Int) = (l.map fun x=>((f x).length:Int)).sum:=by
  induction l with
  | nil=>rfl
  | cons x l ih=>rw [List.flatMap_cons,List.length_append,List.map_cons,List.sum_cons,← ih]; omega
theorem own_loop (K:List Int) (e:Int) (us U:List TUnit) (hU:∃ ws,U = us ++ ws) (hK:K.Nodup) (hKl:K.length ≤ 64) (hl:us.length ≤ 9) (h1:∀ u ∈ us,1 < u.fw.length) (h:∀ u ∈ us,key 1 u ∈ K) (xs0:List Int) (hx0:xs0.length = us.length):loopF (wardmotelaw23_SplitNests_l2 FU xs0 U (K,e)) FU (0,xs0) = some (us.map fun u=>(ix K (key 1 u):Int)):=by
  have hF:=FU_lt
  obtain ⟨ws,hU⟩:=hU
  have hlU:us.length ≤ U.length:=by rw [hU,List.length_append]; omega
  have hh:=loop_ok (B:=wardmotelaw23_SplitNests_l2 FU xs0 U (K,e)) (fun s:Nat × List Int=>us.length - s.1) (fun s=>s.1 ≤ us.length∧s.2 = (us.take s.1).map (fun u=>(ix K (key 1 u):Int)) ++ xs0.drop s.1) (fun y=>y = us.map fun u=>(ix K (key 1 u):Int)) ?_ FU (0,xs0) ⟨Nat.zero_le _,by simp⟩ (by simp only; omega)
  · obtain ⟨y,e,rfl⟩:=hh; exact e
  · rintro ⟨i,xs⟩ J ⟨a1,a2⟩ hJ
    simp only at a1 a2 hJ
    subst a2
    unfold wardmotelaw23_SplitNests_l2
    simp only
    by_cases hi:i < us.length
    · have e0:U[i]'(by omega) = us[i]:=by simp only [hU]; exact List.getElem_append_left hi
      have hp:=h1 us[i] (List.getElem_mem _)
      have hk:=h us[i] (List.getElem_mem _)
      have ek:key 1 us[i] = us[i].fw[1]:=by unfold key; rw [List.getElem?_eq_getElem hp]; rfl
      have ht:((us.take i).map fun u=>(ix K (key 1 u):Int)).length = i:=by rw [List.length_map,List.length_take]; omega
      rw [if_pos (by omega),List.getElem?_eq_getElem (by omega),obind,e0,List.getElem?_eq_getElem hp,obind,← ek,index_ok K _ hk hK (by omega),obind,List.getElem?_append_right (by omega),ht,Nat.sub_self,List.getElem?_drop,Nat.add_zero,List.getElem?_eq_getElem (by omega),obind,put_ok _ (by rw [List.length_append,ht,List.length_drop]; omega),obind,List.set_append_right _ _ (by omega),ht,Nat.sub_self,List.drop_eq_getElem_cons (by omega),List.set_cons_zero]
      refine hJ _ ⟨hi,?_⟩ (by simp only; omega)
      simp only
      rw [List.take_succ_eq_append_getElem hi,List.map_append,List.append_assoc]; rfl
    · rw [if_neg (by omega)]
      exact ⟨_,rfl,by rw [List.take_of_length_le (by omega),List.drop_of_length_le (by omega),List.append_nil]⟩
theorem nests_ok (a0:TDraft) (a1:TDraft26) (b:UInt8):wardmotelaw23_SplitNests_p FU a0 a1 b = some true:=by
  have hF:=FU_lt
  have hb:(b % (3:UInt8)).toNat < 3:=by rw [UInt8.toNat_mod]; exact Nat.mod_lt _ (by decide)
  obtain ⟨p,k,e1,p1,p2,hp,k1,k2⟩:=loose_ok FU a0 (by omega)
  obtain ⟨r,us0,e2,hus,hr0,hG,hP,hL⟩:=full_ok FU a1 p.length (by omega) (by omega) (by omega)
  have htl:=tell_loop r us0 hr0 hL b
  have fl:=fine_loop
  have hr:=tell_roll hr0 hL (m:=((1 + (b % (3:UInt8)).toNat:Nat):Int)) (by omega) (by omega)
  have hkey:∀ u ∈ us0.map (tell ((1 + (b % (3:UInt8)).toNat:Nat):Int)),key 1 u = key 0 u % ((1 + (b % (3:UInt8)).toNat:Nat):Int)∧0 ≤ key 0 u∧1 < u.fw.length:=fun u hu=>by
    obtain ⟨v,hv,rfl⟩:=List.mem_map.1 hu
    obtain ⟨i,hi,rfl⟩:=List.getElem_of_mem hv
    obtain ⟨n1,w1,_,_,_,q1⟩:=hr0.land i hi
    have hq:0 < us0[i].fw.length:=by have:=q1.1; omega
    have hx:=q1.2 us0[i].fw[0] (List.getElem_mem _)
    have ek:key 0 us0[i] = us0[i].fw[0]:=by unfold key; rw [List.getElem?_eq_getElem hq]; rfl
    have et:tell ((1 + (b % (3:UInt8)).toNat:Nat):Int) us0[i] = ⟨us0[i].ft,us0[i].fp,us0[i].fe,us0[i].fC,[key 0 us0[i],(key 0 us0[i]).tmod ((1 + (b % (3:UInt8)).toNat:Nat):Int)],us0[i].fo⟩:=by
      unfold tell; rw [if_neg (by rw [w1]; decide)]
    rw [et]
    refine ⟨?_,?_,by simp⟩
    · show (key 0 us0[i]).tmod _ = key 0 us0[i] % _
      exact Int.tmod_eq_emod_of_nonneg (by omega)
    · show 0 ≤ key 0 us0[i]
      omega
  have hpl0:p.length = (us0.map (tell ((1 + (b % (3:UInt8)).toNat:Nat):Int))).length:=by rw [List.length_map]; exact hus.symm
  have hUw:∃ ws,r.fm.map (tell ((1 + (b % (3:UInt8)).toNat:Nat):Int)) = us0.map (tell ((1 + (b % (3:UInt8)).toNat:Nat):Int)) ++ ws:=by
    rcases hr0.all with e | e
    · exact ⟨[],by rw [e,List.append_nil]⟩
    · exact ⟨_,by rw [e,List.map_append]⟩
  have hm0:1 ≤ ((1 + (b % (3:UInt8)).toNat:Nat):Int)∧((1 + (b % (3:UInt8)).toNat:Nat):Int) ≤ 3:=by omega
  unfold wardmotelaw23_SplitNests_p
  rw [works23,obind,if_pos rfl,e1,obind]
  simp only
  rw [e2,obind,htl,obind]
  generalize r.fm.map (tell ((1 + (b % (3:UInt8)).toNat:Nat):Int)) = U at *
  generalize us0.map (tell ((1 + (b % (3:UInt8)).toNat:Nat):Int)) = us at *
  clear htl hr0 e2 hus
  have h0:=lr_of hr (at_:=0) (by simp only; omega)
  have h1:=lr_of hr (at_:=1) (by simp only; omega)
  have hq:=pl_of (us:=us) k2 hp hpl0
  have hc:=check_okS hr k1 k2 hp hpl0
  have hl9:=hr.len
  obtain ⟨n1,en1,hn1⟩:=nested_ok h0 h0
  obtain ⟨n2,en2,hn2⟩:=nested_ok h0 h1
  have t1:n1 = true:=hn1.2 fun u _ v _ e=>e
  have t2:n2 = true:=hn2.2 fun u hu v hv e=>by rw [(hkey u hu).1,(hkey v hv).1,e]
  subst t1 t2
  have q1:=pieces_res h0 hq hc
  have q2:=parents_res h0
  have q3:=pieces_res h1 hq hc
  have q4:=parents_res h1
  rw [ks_dat (.inl rfl) hq] at q2 q4
  simp only [Int.natCast_zero,Int.natCast_one] at en1 en2 q1 q2 q3 q4
  have hdm0:=dat_mem h0 hq
  have hdm1:=dat_mem h1 hq
  -- the coarse parents
  have hK1m:∀ x,x ∈ ks (dat us 1 p) ↔ ∃ u ∈ us,key 1 u = x:=fun x=>by
    rw [ks_mem,key_mem hq]
    constructor
    · exact fun h=>h.2
    · exact fun h=>⟨keys_in h1 hq x ((key_mem hq).2 h),h⟩
  have hK0m:∀ x,x ∈ ks (dat us 0 p) ↔ ∃ u ∈ us,key 0 u = x:=fun x=>by
    rw [ks_mem,key_mem hq]
    constructor
    · exact fun h=>h.2
    · exact fun h=>⟨keys_in h0 hq x ((key_mem hq).2 h),h⟩
  have hK1n:=ks_nodup (dat us 1 p)
  have hK1l:(ks (dat us 1 p)).length ≤ [(0:Int),1,2].length:=hK1n.length_le_of_subset fun x hx=>by
    obtain ⟨u,hu,rfl⟩:=(hK1m x).1 hx
    obtain ⟨k1,k2,_⟩:=hkey u hu
    rw [k1]
    have a1:=Int.emod_nonneg (key 0 u) (b:=((1 + (b % (3:UInt8)).toNat:Nat):Int)) (by omega)
    have a2:=Int.emod_lt_of_pos (key 0 u) (b:=((1 + (b % (3:UInt8)).toNat:Nat):Int)) (by omega)
    simp only [List.mem_cons,List.not_mem_nil,or_false]
    generalize key 0 u % ((1 + (b % (3:UInt8)).toNat:Nat):Int) = z at *
    omega
  have hK1l:(ks (dat us 1 p)).length ≤ 3:=hK1l
  have hK1p:1 ≤ (ks (dat us 1 p)).length:=List.length_pos_of_mem ((hK1m _).2 ⟨us[0],List.getElem_mem _,rfl⟩)
  have hlen:=ks_len (dat us 0 p)
  have hfine:∀ c,(pcs (dat us 1 p) c:Int) ≤ (((ks (dat us 0 p)).filter fun x=>decide (x % ((1 + (b % (3:UInt8)).toNat:Nat):Int) = c)).map fun x=>(pcs (dat us 0 p) x:Int)).sum:=fun c=>by
    have h3:(dsd (dat us 1 p) c).length ≤ (((ks (dat us 0 p)).filter fun x=>decide (x % ((1 + (b % (3:UInt8)).toNat:Nat):Int) = c)).flatMap (dsd (dat us 0 p))).length:=(dsd_nodup _ _).length_le_of_subset fun i hi=>by
      obtain ⟨i8,t,ht,t1,t2⟩:=dsd_mem.1 hi
      obtain ⟨j,hj,rfl⟩:=dat_get hq ht
      simp only at t1 t2
      have hkj:=hkey us[j] (List.getElem_mem _)
      refine List.mem_flatMap.2 ⟨key 0 us[j],List.mem_filter.2 ⟨(hK0m _).2 ⟨_,List.getElem_mem _,rfl⟩,decide_eq_true (by rw [← hkj.1]; exact t1)⟩,dsd_mem.2 ⟨i8,_,dat_has hq hj,rfl,t2⟩⟩
    have h4:=sum_cast ((ks (dat us 0 p)).filter fun x=>decide (x % ((1 + (b % (3:UInt8)).toNat:Nat):Int) = c)) (dsd (dat us 0 p))
    unfold pcs
    omega
  -- districts that are the coarse parents
  have hop:PlanOk (us.map fun u=>(ix (ks (dat us 1 p)) (key 1 u):Int)) ((ks (dat us 1 p)).length:Nat):=⟨fun x hx=>by
    obtain ⟨u,hu,rfl⟩:=List.mem_map.1 hx
    obtain ⟨g1,_⟩:=ix_get ((hK1m _).2 ⟨u,hu,rfl⟩)
    omega,fun d d0 d1=>by
    obtain ⟨u,hu,eu⟩:=(hK1m ((ks (dat us 1 p))[d.toNat]'(by omega))).1 (List.getElem_mem _)
    refine List.mem_map.2 ⟨u,hu,?_⟩
    obtain ⟨g1,g2⟩:=ix_get ((hK1m _).2 ⟨u,hu,rfl⟩)
    have:=nodup_inj hK1n _ _ (g2.trans eu)
    omega⟩
  have hol:(us.map fun u=>(ix (ks (dat us 1 p)) (key 1 u):Int)).length = us.length:=by rw [List.length_map]
  have hoq:=pl_of (us:=us) (by omega) hop hol
  have hoc:=check_okS hr (by omega) (by omega) hop hol
  have hone:(us.map fun u=>(ix (ks (dat us 1 p)) (key 1 u):Int)) ≠ []:=fun e=>by have:=congrArg List.length e; rw [hol,List.length_nil] at this; omega
  have o1:=one_splits h1 hoq hoc fun x hx=>by
    refine pcs_one (fun t ht=>(dat_mem h1 hoq t ht).2.2) (ks_mem.1 hx).2 (ix (ks (dat us 1 p)) x) fun t ht e=>?_
    obtain ⟨j,hj,rfl⟩:=dat_get hoq ht
    simp only at e
    simp only [pl0,if_neg hone,List.getElem_map]
    rw [e]
  have o0:=one_splits h0 hoq hoc fun x hx=>by
    refine pcs_one (fun t ht=>(dat_mem h0 hoq t ht).2.2) (ks_mem.1 hx).2 (ix (ks (dat us 1 p)) (x % ((1 + (b % (3:UInt8)).toNat:Nat):Int))) fun t ht e=>?_
    obtain ⟨j,hj,rfl⟩:=dat_get hoq ht
    simp only at e
    simp only [pl0,if_neg hone,List.getElem_map]
    rw [(hkey us[j] (List.getElem_mem _)).1,e]
  rw [ks_dat hoq hq] at o1 o0
  simp only [Int.natCast_zero,Int.natCast_one] at o1 o0
  have ol:=own_loop (ks (dat us 1 p)) 0 us U hUw hK1n (by omega) (by omega) (fun u hu=>(hkey u hu).2.2) (fun u hu=>(hK1m _).2 ⟨u,hu,rfl⟩)
  generalize us.map (fun u=>(ix (ks (dat us 1 p)) (key 1 u):Int)) = own at *
  have hpos:∀ x ∈ ks (dat us 0 p),0 ≤ x:=fun x hx=>(ks_mem.1 hx).1.1
  have f0:=fl (ks (dat us 0 p)) (pcs (dat us 0 p)) (pcs_le _) hpos hlen b
  have c1:∀ n:Nat,wardmotelaw23_count_1_p FU ⟨0,(n:Int)⟩ 0 0 (n:Int) = some true:=fun n=>by unfold wardmotelaw23_count_1_p; simp
  rw [en1,obind,truth_ok true true rfl,obind,if_pos rfl,en2,obind,truth_ok true true rfl,obind,if_pos rfl,q1,obind,q2,obind,q3,obind,q4,obind]
  unfold jn
  simp only [if_true,List.length_map,decide_true,Bool.not_true]
  rw [if_neg (by decide)]
  have hh:=loop_ok (B:=wardmotelaw23_SplitNests_l3 FU (ks (dat us 1 p),0) (ks (dat us 0 p),0) b ((ks (dat us 0 p)).map fun k=>(pcs (dat us 0 p) k:Int),0) ((ks (dat us 1 p)).map fun k=>(pcs (dat us 1 p) k:Int),0)) (fun i:Nat=>(ks (dat us 1 p)).length - i) (fun i=>i ≤ (ks (dat us 1 p)).length) (fun y=>y = .inr ()) ?_ FU 0 (Nat.zero_le _) (by omega)
  · obtain ⟨y,e,rfl⟩:=hh
    rw [e]
    unfold thn
    simp only
    rw [mk_ok _ _ (by omega),obind,ol _ (by rw [List.length_replicate]; exact hpl0),obind,o1,obind]
    simp only
    rw [c1,obind,if_pos rfl,o0,obind]
    simp only
    rw [c1,obind]
  · intro i J hi hJ
    unfold wardmotelaw23_SplitNests_l3
    simp only
    by_cases hi2:i < (ks (dat us 1 p)).length
    · have hf:=hfine (ks (dat us 1 p))[i]
      rw [if_pos hi2,List.getElem?_eq_getElem hi2,obind,f0,obind,List.getElem?_eq_getElem (by rw [List.length_map]; exact hi2),obind,List.getElem_map,if_neg (by omega)]
      exact hJ _ hi2 (by omega)
    · rw [if_neg hi2]; exact ⟨_,rfl,rfl⟩
theorem splitNests_ex (a0:TDraft) (a1:TDraft26) (a2:UInt8):∃ n,wardmotelaw23_SplitNests_p n a0 a1 a2 = some true:=⟨FU,nests_ok a0 a1 a2⟩
end Go.Proofs.YtfncplndfpgngaaGreatDoor
