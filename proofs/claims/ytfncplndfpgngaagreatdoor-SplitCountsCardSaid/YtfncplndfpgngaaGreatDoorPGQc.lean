/- Plain laws: drafted rolls and plans under layer 23; SplitCounts. No program in sight but the printed functions. -/
import Derived.Test.YtfncplndfpgngaaGreatDoorPGQb
namespace Go.Proofs.YtfncplndfpgngaaGreatDoor
open Go
set_option maxRecDepth 8000
theorem full_ok (n:Nat) (d:TDraft26) (m:Nat) (h1:1 ≤ m) (h2:m ≤ 9) (hn:200 < n):∃ r us,wardmoteref22_Draft_Full_p n d m = some r∧us.length = m∧RollOk r us∧r.fe = 2∧r.fc = 3∧r.fh = 2:=by
  obtain ⟨r,us,e,h,h', a,b,c⟩:=roll_all n ⟨2,3,2,d.fm,d.fE⟩ m h1 h2 hn
  refine ⟨r,us,?_,h,h', a,b,c⟩
  unfold wardmoteref22_Draft_Full_p
  rw [e,obind]
theorem lr_of {r:TRoll} {us:List TUnit} (h:RollOk r us) {at_:Nat} (ha:(at_:Int) < r.fh):LR r us at_:=by
  have hu:∀ u ∈ us,UnitOk r.fe r.fc r.fh u:=fun u hu=>by
    obtain ⟨i,hi,rfl⟩:=List.getElem_of_mem hu
    exact (h.land i hi).2
  have hs:=h.size
  have hl:=h.len
  refine ⟨checkroll_ok r us h,?_,fun u hm=>(hu u hm).1,by omega,by omega,ha,fun u hm=>?_,fun u hm=>⟨?_,(hu u hm).2.2.2.2.2⟩⟩
  · rcases h.all with e | e
    · exact ⟨[],by rw [e,List.append_nil],fun u hu=>by cases hu⟩
    · exact ⟨_,e,fun u hu=>by rw [List.mem_singleton.1 hu]; rfl⟩
  · have:=(hu u hm).2.1; omega
  · have:=(hu u hm).2.2.2.2.1; omega
theorem check_okS {r:TRoll} {us:List TUnit} (hr:RollOk r us) {p:List Int} {k:Int} (hk:1 ≤ k) (hk8:k ≤ 8) (h:PlanOk p k) (hl:p.length = us.length):balance_Check_p FU r p k = some 0:=by
  unfold balance_Check_p balance_Check_1_p
  rw [counted_ok r us hr k hk hk8,obind]
  unfold exc
  simp only
  rw [check_plan r us hr p k hk h hl]
  rfl
theorem pl_of {us:List TUnit} {p:List Int} {k:Int} (hk8:k ≤ 8) (h:PlanOk p k) (hl:p.length = us.length):PL us p:=.inr ⟨hl,fun x hx=>by have:=h.1 x hx; omega⟩
theorem works23:wardmotelaw23_works_p FU = some true:=by kernel_rfl
/-! ### Sums over the parents -/
theorem sum_ind {K:List Int} (hn:K.Nodup) (x y:Int):(K.map fun k=>if x = k then y else 0).sum = if x ∈ K then y else 0:=by
  induction K with
  | nil=>rfl
  | cons k K ih=>
    obtain ⟨h1,h2⟩:=List.nodup_cons.1 hn
    rw [List.map_cons,List.sum_cons,ih h2]
    by_cases e:x = k
    · subst e; rw [if_pos rfl,if_neg h1,if_pos (List.mem_cons_self ..)]; omega
    · rw [if_neg e]
      simp only [List.mem_cons,e,false_or]
      omega
theorem sum_addm {α:Type} (f g:α → Int):∀ l:List α,(l.map fun x=>f x + g x).sum = (l.map f).sum + (l.map g).sum
  | []=>rfl
  | x :: l=>by simp only [List.map_cons,List.sum_cons,sum_addm f g l]; omega
theorem ppl_cons (t:T3) (D:List T3) (k:Int):ppl (t :: D) k = (if t.1 = k then t.2.1 else 0) + ppl D k:=by
  unfold ppl
  by_cases h:t.1 = k
  · rw [List.filter_cons_of_pos (by simpa using h),if_pos h,List.map_cons,List.sum_cons]
  · rw [List.filter_cons_of_neg (by simpa using h),if_neg h]; omega
theorem sum_ppl {K:List Int} (hn:K.Nodup):∀ {D:List T3},(∀ t ∈ D,t.1 ∈ K) → (K.map (ppl D)).sum = (D.map (·.2.1)).sum
  | [],_=>by
    have:∀ K:List Int,(K.map (ppl [])).sum = 0:=fun K=>by
      induction K with
      | nil=>rfl
      | cons k K ih=>rw [List.map_cons,List.sum_cons,ih]; rfl
    rw [this]; rfl
  | t :: D,h=>by
    have e:ppl (t :: D) = fun k=>(if t.1 = k then t.2.1 else 0) + ppl D k:=funext fun k=>ppl_cons t D k
    rw [e,sum_addm,sum_ind hn,if_pos (h t (List.mem_cons_self ..)),sum_ppl hn fun x hx=>h x (List.mem_cons_of_mem _ hx),List.map_cons,List.sum_cons]
theorem dat_ppl {us:List TUnit} {at_:Nat} {p:List Int} (hp:PL us p):((dat us at_ p).map (·.2.1)).sum = tot us:=by
  unfold dat tot
  rw [List.map_zipWith]
  have:=pl0_len hp
  generalize pl0 us p = q at *
  clear hp
  induction us generalizing q with
  | nil=>simp
  | cons u us ih=>
    cases q with
    | nil=>simp at this
    | cons d q=>
      simp only [List.zipWith_cons_cons,List.map_cons,List.sum_cons]
      rw [ih q (by simpa using this)]
theorem pcs_pos {D:List T3} (h:∀ t ∈ D,0 ≤ t.2.2∧t.2.2 < 8) {k:Int} (hk:k ∈ keys D):1 ≤ pcs D k:=by
  obtain ⟨t,ht,rfl⟩:=List.mem_map.1 hk
  have h1:=h t ht
  refine List.length_pos_of_mem (a:=t.2.2.toNat) ?_
  unfold dsd
  rw [List.mem_filter]
  refine ⟨List.mem_range.2 (by omega),List.any_eq_true.2 ⟨t,ht,?_⟩⟩
  simp only [decide_true,Bool.true_and,decide_eq_true_eq]
  omega
theorem sum_nonneg:∀ {l:List Int},(∀ x ∈ l,0 ≤ x) → 0 ≤ l.sum
  | [],_=>by simp
  | x :: l,h=>by
    have:=sum_nonneg (l:=l) fun y hy=>h y (List.mem_cons_of_mem _ hy)
    have:=h x (List.mem_cons_self ..)
    rw [List.sum_cons]; omega
theorem take_sum_le {l:List Int} (h:∀ x ∈ l,0 ≤ x) (i:Nat):0 ≤ (l.take i).sum∧(l.take i).sum ≤ l.sum:=by
  have h1:=sum_nonneg (l:=l.take i) fun x hx=>h x (List.mem_of_mem_take hx)
  have h2:=sum_nonneg (l:=l.drop i) fun x hx=>h x (List.mem_of_mem_drop hx)
  have h3:l.sum = (l.take i).sum + (l.drop i).sum:=by rw [← List.sum_append,List.take_append_drop]
  omega
theorem splits_ge (K:List Int) (f:Int → Nat) (h:∀ k ∈ K,1 ≤ f k):(K.length:Int) + ((K.filter fun k=>decide (1 < f k)).length:Int) ≤ (K.map fun k=>(f k:Int)).sum:=by
  induction K with
  | nil=>simp
  | cons k K ih=>
    have h1:=ih fun x hx=>h x (List.mem_cons_of_mem _ hx)
    have h2:=h k (List.mem_cons_self ..)
    rw [List.map_cons,List.sum_cons,List.length_cons]
    by_cases hk:1 < f k
    · rw [List.filter_cons_of_pos (by simpa using hk),List.length_cons]; omega
    · rw [List.filter_cons_of_neg (by simpa using hk)]; omega
theorem people_loop (r:TRoll) (us:List TUnit) (hr:RollOk r us) (z:Int) (hz:0 ≤ z∧z ≤ 1000000000000):loopF (wardmotelaw23_SplitCounts_l1 FU r) FU (z,0) = some (z - tot us):=by
  have hF:=FU_lt
  have hs:=hr.size
  have hl:=hr.len
  have hh:=loop_ok (B:=wardmotelaw23_SplitCounts_l1 FU r) (fun s:Int × Nat=>r.fl.length - s.2) (fun s=>s.2 ≤ r.fl.length∧s.1 = z - tot (us.take s.2)) (fun y=>y = z - tot us) ?_ FU (z,0) ⟨Nat.zero_le _,by simp [tot]⟩ (by simp only; omega)
  · obtain ⟨y,e,rfl⟩:=hh; exact e
  · rintro ⟨y,i⟩ J ⟨a1,a2⟩ hJ
    simp only at a1 a2 hJ
    subst a2
    unfold wardmotelaw23_SplitCounts_l1
    simp only
    have hb:=tot_bound hr i
    have hb2:=tot_bound hr (i + 1)
    split
    · rename_i hi
      rw [List.getElem?_eq_getElem hi,obind]
      rcases hr.unit hi with ⟨h2,e2⟩ | ⟨h2,e2⟩
      · have hu:=(hr.land i h2).2.2.1
        rw [e2,chkI (by omega) (by omega),obind]
        refine hJ _ ⟨hi,?_⟩ (by simp only; omega)
        simp only
        rw [tot_take h2]; omega
      · rw [e2,show (sea r.fe r.fc r.fh).fo = 0 from rfl,chkI (by omega) (by omega),obind]
        refine hJ _ ⟨hi,?_⟩ (by simp only; omega)
        simp only
        rw [List.take_of_length_le (by omega),List.take_of_length_le (by omega)]; omega
    · exact ⟨_,rfl,by rw [List.take_of_length_le (by omega)]⟩
theorem truth_ok (b c:Bool) (h:b = c):wardmotelaw23_truth_1_p FU b 0 c = some true:=by
  subst h
  unfold wardmotelaw23_truth_1_p
  simp
theorem counts_ok (a0:TDraft) (a1:TDraft26) (a2:UInt8):wardmotelaw23_SplitCounts_p FU a0 a1 a2 = some true:=by
  have hF:=FU_lt
  have ha:(a2 % (2:UInt8)).toNat < 2:=by rw [UInt8.toNat_mod]; exact Nat.mod_lt _ (by decide)
  obtain ⟨p,k,e1,p1,p2,hp,k1,k2⟩:=loose_ok FU a0 (by omega)
  obtain ⟨r,us,e2,hus,hr,hG,hP,hL⟩:=full_ok FU a1 p.length (by omega) (by omega) (by omega)
  have hpl:p.length = us.length:=hus.symm
  have h:=lr_of hr (at_:=(a2 % (2:UInt8)).toNat) (by omega)
  have hq:=pl_of (us:=us) k2 hp hpl
  have hc:=check_okS hr k1 k2 hp hpl
  have q1:=pieces_res h hq hc
  have q2:=parents_res h
  have q3:=people_res h
  have q4:=splits_res h hq hc
  have q5:=keeps_res h hq hc
  have hdm:=dat_mem h hq
  have hki:=keys_in h hq
  have hsum:=dat_ppl (at_:=(a2 % (2:UInt8)).toNat) hq
  rw [ks_dat (.inl rfl) hq] at q2 q3
  rw [show ppl (dat us (a2 % (2:UInt8)).toNat []) = ppl (dat us (a2 % (2:UInt8)).toNat p) from funext fun x=>ppl_dat (.inl rfl) hq x] at q3
  generalize dat us (a2 % (2:UInt8)).toNat p = D at *
  have hlt:=ks_lt D
  have hnd:=ks_nodup D
  have hlen:=ks_len D
  have hpp:∀ x ∈ ks D,1 ≤ pcs D x:=fun x hx=>pcs_pos (fun t ht=>(hdm t ht).2.2) (ks_mem.1 hx).2
  have hge:=splits_ge (ks D) (pcs D) hpp
  have hsp:((ks D).map (ppl D)).sum = tot us:=by
    rw [← hsum]
    exact sum_ppl hnd fun t ht=>ks_mem.2 ⟨hki _ (List.mem_map.2 ⟨t,ht,rfl⟩),List.mem_map.2 ⟨t,ht,rfl⟩⟩
  have hb:=tot_bound hr us.length
  rw [List.take_of_length_le (Nat.le_refl _)] at hb
  have hpn:∀ x ∈ (ks D).map (ppl D),0 ≤ x:=fun x hx=>by
    obtain ⟨y,_,rfl⟩:=List.mem_map.1 hx
    exact (ppl_bound (D:=D) (B:=1000000000) (fun t ht=>(hdm t ht).2.1) (by decide) y).1
  have hfl:((ks D).filter fun k=>decide (1 < pcs D k)).length ≤ 64:=Nat.le_trans (List.length_filter_le ..) hlen
  unfold wardmotelaw23_SplitCounts_p
  rw [works23,obind,if_pos rfl,e1,obind]
  simp only
  rw [e2,obind,q1,obind,q2,obind,q3,obind,q4,obind]
  generalize hS:((ks D).map fun k=>(pcs D k:Int)).sum = S at *
  generalize hN:((ks D).filter fun k=>decide (1 < pcs D k)).length = N at *
  unfold jn
  simp only [if_true]
  rw [if_pos (by rw [List.length_map]),if_pos (by rw [List.length_map]),chkI (by omega) (by omega),obind,decide_eq_false (by omega),if_neg (by decide)]
  have hh:=loop_ok (B:=wardmotelaw23_SplitCounts_l2 FU ((ks D).map fun k=>(pcs D k:Int),0) ((ks D).map (ppl D),0) (ks D,0) r (p,k) a2) (fun s:Int × Int × Nat=>(ks D).length - s.2.2)
    (fun s=>s.2.2 ≤ (ks D).length∧s.1 = (((ks D).map (ppl D)).take s.2.2).sum∧s.2.1 = ((((ks D).take s.2.2).filter fun k=>decide (1 < pcs D k)).length:Nat))
    (fun y=>y = .inr (tot us,(N:Int))) ?_ FU (0,0,0) ⟨Nat.zero_le _,by simp,by simp⟩ (by simp only; omega)
  · obtain ⟨y,e,rfl⟩:=hh
    rw [e]
    unfold thn
    simp only
    rw [people_loop r us hr _ (by omega),obind,if_pos (by omega)]
    simp
  · rintro ⟨z,c,i⟩ J ⟨b1,b2,b3⟩ hJ
    simp only at b1 b2 b3 hJ
    subst b2 b3
    unfold wardmotelaw23_SplitCounts_l2 jn
    simp only [List.length_map]
    by_cases hi:i < (ks D).length
    · have hx:=ks_mem.1 (List.getElem_mem hi)
      have hbt:=take_sum_le hpn i
      have hbt2:=take_sum_le hpn (i + 1)
      have hsn:(((ks D).map (ppl D)).take (i + 1)).sum = (((ks D).map (ppl D)).take i).sum + ppl D (ks D)[i]:=by
        rw [List.take_succ_eq_append_getElem (by simpa using hi),List.sum_append,List.getElem_map]; simp
      have hfb:(((ks D).take i).filter fun k=>decide (1 < pcs D k)).length ≤ 64:=Nat.le_trans (List.length_filter_le ..) (by rw [List.length_take]; omega)
      rw [if_pos hi,List.getElem?_eq_getElem (by simpa using hi),obind,List.getElem_map,List.getElem?_eq_getElem (by simpa using hi),obind,List.getElem_map,chkI (by omega) (by omega),obind]
      have next:∃ y,J ((((ks D).map (ppl D)).take i).sum + ppl D (ks D)[i],((((ks D).take (i + 1)).filter fun k=>decide (1 < pcs D k)).length:Nat),i + 1) = some y∧y = .inr (tot us,(N:Int)):=hJ _ ⟨hi,by simp only; omega,rfl⟩ (by simp only; omega)
      have hkp:=q5 (ks D)[i]
      rw [if_pos (List.getElem_mem hi)] at hkp
      have hpn' : ∀ c', (if 0 < i then ((ks D)[i]?).bind fun x382=>((ks D)[i - 1]?).bind fun x393=>(if x382 ≤ x393 then some (.inl false) else (split_Keeps_p FU r p k (((a2 % (2:UInt8)).toNat:Nat):Int) x382).bind fun y412=>(wardmotelaw23_truth_1_p FU y412.1 y412.2 (decide ((pcs D (ks D)[i]:Int) = 1))).bind fun y417=>(if y417 = true then J ((((ks D).map (ppl D)).take i).sum + ppl D (ks D)[i],c', i + 1) else some (.inl false))) else ((ks D)[i]?).bind fun x422=>(split_Keeps_p FU r p k (((a2 % (2:UInt8)).toNat:Nat):Int) x422).bind fun y442=>(wardmotelaw23_truth_1_p FU y442.1 y442.2 (decide ((pcs D (ks D)[i]:Int) = 1))).bind fun y447=>(if y447 = true then J ((((ks D).map (ppl D)).take i).sum + ppl D (ks D)[i],c', i + 1) else some (.inl false))) = J ((((ks D).map (ppl D)).take i).sum + ppl D (ks D)[i],c', i + 1):=by
        intro c'
        have ht:=truth_ok (decide (pcs D (ks D)[i] = 1)) (decide ((pcs D (ks D)[i]:Int) = 1)) (decide_eq_decide.2 (by omega))
        by_cases h0:0 < i
        · have hl2:(ks D)[i - 1] < (ks D)[i]:=List.pairwise_iff_getElem.1 hlt (i - 1) i (by omega) hi (by omega)
          rw [if_pos h0,List.getElem?_eq_getElem hi,obind,List.getElem?_eq_getElem (by omega),obind,if_neg (by omega),hkp,obind,ht,obind,if_pos rfl]
        · rw [if_neg h0,List.getElem?_eq_getElem hi,obind,hkp,obind,ht,obind,if_pos rfl]
      simp only [hpn']
      rw [List.take_succ_eq_append_getElem hi,List.filter_append] at next
      by_cases h1:1 < pcs D (ks D)[i]
      · rw [if_pos (by omega),chkI (by omega) (by omega),obind]
        rw [List.filter_cons_of_pos (by simpa using h1),List.filter_nil,List.length_append,List.length_singleton] at next
        exact next
      · rw [if_neg (by omega)]
        rw [List.filter_cons_of_neg (by simpa using h1),List.filter_nil,List.append_nil] at next
        exact next
    · rw [if_neg hi]
      refine ⟨_,rfl,?_⟩
      rw [List.take_of_length_le (by rw [List.length_map]; omega),List.take_of_length_le (by omega),hsp,hN]
theorem splitCounts_ex (a0:TDraft) (a1:TDraft26) (a2:UInt8):∃ n,wardmotelaw23_SplitCounts_p n a0 a1 a2 = some true:=⟨FU,counts_ok a0 a1 a2⟩
end Go.Proofs.YtfncplndfpgngaaGreatDoor
