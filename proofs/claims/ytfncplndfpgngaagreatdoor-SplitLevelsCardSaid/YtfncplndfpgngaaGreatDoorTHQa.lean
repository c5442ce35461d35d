/- Plain laws: the parents of a level: gathered, and sorted. No program in sight but the printed functions. -/
import Derived.Test.YtfncplndfpgngaaGreatDoorTHSd
namespace Go.Proofs.YtfncplndfpgngaaGreatDoor
open Go
set_option maxRecDepth 8000
theorem FU_3:FU = 18446744073709551997 + 1 + 1 + 1:=rfl
theorem len_all:(List.range 20).all (fun l=>(math_bits_Len_p FU (u64of ((l:Nat):Int))).isSome) = true:=by kernel_rfl
theorem len_ok (l:Nat) (h:l < 20):∃ y,math_bits_Len_p FU (u64of ((l:Nat):Int)) = some y:=Option.isSome_iff_exists.1 (List.all_eq_true.1 len_all l (List.mem_range.2 h))
theorem count_swap {α:Type} [DecidableEq α] (xs:List α) (i j:Nat) (hi:i < xs.length) (hj:j < xs.length) (hij:i ≠ j):((xs.set i xs[j]).set j xs[i]).Perm xs:=by
  rw [List.perm_iff_count]
  intro a
  rw [List.count_set (by simpa using hj),List.count_set hi,List.getElem_set_ne hij]
  have h1:xs[i] = a → 0 < xs.count a:=fun h=>List.count_pos_iff.2 (h ▸ List.getElem_mem hi)
  simp only [beq_iff_eq]
  by_cases c1:xs[i] = a
  · have:=h1 c1
    by_cases c2:xs[j] = a
    · rw [if_pos c1,if_pos c2]; omega
    · rw [if_pos c1,if_neg c2]; omega
  · by_cases c2:xs[j] = a
    · rw [if_neg c1,if_pos c2]; omega
    · rw [if_neg c1,if_neg c2]; omega
def NmOk (xs:List Tparent):Prop:=∀ x ∈ xs,0 ≤ x.fA∧x.fA ≤ 63
theorem less_par {xs:List Tparent} (h:NmOk xs) {a b:Tparent} (ha:a ∈ xs) (hb:b ∈ xs):split_view_parents_1_p FU a b = some (a.fA - b.fA):=by
  have:=h a ha; have:=h b hb
  unfold split_view_parents_1_p
  rw [chkI (by omega) (by omega),obind]
theorem insert_ok (xs:List Tparent) (z:Nat) (hz:z < xs.length) (hl:xs.length ≤ 100) (hn:NmOk xs) (hs:∀ a b,(hab:a < b) → (hb:b < z) → (xs[a]'(by omega)).fA ≤ (xs[b]'(by omega)).fA) :
    ∃ ys,loopF (split_view_parents_l1 FU 0) FU ((z:Int),xs) = some ys∧ys.Perm xs∧∃ hlen:ys.length = xs.length,∀ a b,(hab:a < b) → (hb:b ≤ z) → (ys[a]'(by omega)).fA ≤ (ys[b]'(by omega)).fA:=by
  have hF:=FU_lt
  refine loop_ok (B:=split_view_parents_l1 FU 0) (fun s:Int × List Tparent=>s.1.toNat) (fun s=>0 ≤ s.1∧s.1 ≤ z∧s.2.Perm xs∧∃ hlen:s.2.length = xs.length,∀ a b,(hab:a < b) → (hb:b ≤ z) → (b:Int) ≠ s.1 → (s.2[a]'(by omega)).fA ≤ (s.2[b]'(by omega)).fA) _ ?_ FU ((z:Int),xs) ⟨by simp only; omega,by simp,.refl _,rfl,fun a b hab hb hne=>hs a b hab (by simp only at hne; omega)⟩ (by simp only; omega)
  rintro ⟨j,ys⟩ J ⟨a1,a2,a3,a4,a5⟩ hJ
  simp only at a1 a2 a3 a4 a5 hJ
  have hny:NmOk ys:=fun x hx=>hn x (a3.mem_iff.1 hx)
  unfold split_view_parents_l1
  simp only
  split
  · rename_i h0
    obtain ⟨k,rfl⟩:∃ k:Nat,j = ((k + 1:Nat):Int):=⟨j.toNat - 1,by omega⟩
    have hk:k + 1 < ys.length:=by omega
    have hk0:k < ys.length:=by omega
    have e1:(((k + 1:Nat):Int)).toNat = k + 1:=by omega
    have e2:(((k + 1:Nat):Int) - 1) = (k:Int):=by omega
    rw [idx_ok (by omega) (by rw [e1]; exact hk),obind,chkI (by omega) (by omega),obind,e2,idx_ok (by omega) (by rw [Int.toNat_natCast]; exact hk0),obind,less_par hny (List.getElem_mem _) (List.getElem_mem _),obind]
    simp only [e1,Int.toNat_natCast]
    by_cases hlt:ys[k + 1].fA - ys[k].fA < 0
    · rw [if_pos hlt,obind,obind,idx_ok (by omega) (by rw [Int.toNat_natCast]; exact hk0),obind]
      simp only [Int.toNat_natCast]
      rw [put_ok _ hk,obind,idx_ok (by omega) (by simpa using hk0),obind,put_ok _ (by simpa using hk0),obind,obind]
      refine hJ _ ⟨by simp only; omega,by simp only; omega,(count_swap ys (k + 1) k hk hk0 (by omega)).trans a3,by simpa using a4,fun a b hab hb hne=>?_⟩ (by simp only; omega)
      simp only at hne
      have hbn:b ≠ k:=fun e=>hne (by rw [e])
      simp only [List.getElem_set]
      have key:(if k = b then ys[k + 1] else if k + 1 = b then ys[k] else ys[b]'(by omega)) = if k + 1 = b then ys[k] else ys[b]'(by omega):=if_neg (Ne.symm hbn)
      rw [key]
      by_cases hb1:k + 1 = b
      · subst hb1
        rw [if_pos rfl]
        by_cases ha:k = a
        · subst ha; rw [if_pos rfl]; omega
        · rw [if_neg ha,if_neg (by omega)]; exact a5 a k (by omega) (by omega) (by omega)
      · rw [if_neg hb1]
        by_cases ha:k = a
        · subst ha; rw [if_pos rfl]; exact a5 (k + 1) b (by omega) hb (by omega)
        · rw [if_neg ha]
          by_cases ha2:k + 1 = a
          · subst ha2; rw [if_pos rfl]; exact a5 k b (by omega) hb (by omega)
          · rw [if_neg ha2]; exact a5 a b hab hb (by omega)
    · rw [if_neg hlt]
      refine ⟨ys,rfl,a3,a4,fun a b hab hb=>?_⟩
      by_cases hbk:b = k + 1
      · subst hbk
        by_cases ha:a = k
        · subst ha; omega
        · have:=a5 a k (by omega) (by omega) (by omega); omega
      · exact a5 a b hab hb (by omega)
  · rename_i h0
    refine ⟨ys,rfl,a3,a4,fun a b hab hb=>a5 a b hab hb (by omega)⟩
theorem sort_ok (xs:List Tparent) (h:xs.length ≤ 12) (hn:NmOk xs):∃ ys,(math_bits_Len_p FU (u64of ((xs.length:Nat):Int))).bind (fun y=>loopF (split_view_parents_l3 FU xs) FU (0,xs.length,y,true,true)) = some ys∧ys.Perm xs∧ys.Pairwise (fun a b=>a.fA ≤ b.fA):=by
  have hF:=FU_lt
  obtain ⟨y,e⟩:=len_ok xs.length (by omega)
  have hh:=loop_ok (B:=split_view_parents_l2 FU xs.length 0) (fun s:Int × List Tparent=>13 - s.1.toNat) (fun s=>1 ≤ s.1∧s.2.Perm xs∧∃ hlen:s.2.length = xs.length,∀ a b,(hab:a < b) → (hb:b < xs.length) → (b:Int) < s.1 → (s.2[a]'(by omega)).fA ≤ (s.2[b]'(by omega)).fA)
    (fun ys=>ys.Perm xs∧ys.Pairwise (fun a b=>a.fA ≤ b.fA)) ?_ FU (1,xs) ⟨by simp,.refl _,rfl,fun a b hab hb hc=>by simp only at hc; omega⟩ (by simp only; omega)
  · obtain ⟨ys,e2,hy⟩:=hh
    refine ⟨ys,?_,hy⟩
    rw [e,obind,FU_3,loopF_succ,← FU_3]
    unfold split_view_parents_l3
    simp only
    rw [chkI (by omega) (by omega),obind,if_pos (by omega),chkI (by omega) (by omega),obind]
    simp only [Int.natCast_zero,Int.zero_add]
    rw [e2,obind]
  · rintro ⟨z,ys⟩ J ⟨a1,a2,a3,a4⟩ hJ
    simp only at a1 a2 a3 a4 hJ
    unfold split_view_parents_l2 jn
    simp only
    split
    · rename_i hz
      obtain ⟨k,rfl⟩:∃ k:Nat,z = (k:Int):=⟨z.toNat,by omega⟩
      obtain ⟨zs,e3,z1,z2,z3⟩:=insert_ok ys k (by omega) (by omega) (fun x hx=>hn x (a2.mem_iff.1 hx)) fun a b hab hb=>a4 a b hab (by omega) (by omega)
      rw [e3,obind,chkI (by omega) (by omega),obind]
      exact hJ _ ⟨by simp only; omega,z1.trans a2,z2.trans a3,fun a b hab hb hc=>z3 a b hab (by simp only at hc; omega)⟩ (by simp only; omega)
    · refine ⟨ys,rfl,a2,?_⟩
      rw [List.pairwise_iff_getElem]
      intro a b ha hb hab
      exact a4 a b hab (by omega) (by omega)
theorem picks_perm {ε:Type}:∀ {l:List ε} {e:ε} {r:List ε},(e,r) ∈ picks l → (e :: r).Perm l
  | x :: xs,e,r,h=>by
    rcases List.mem_cons.1 h with h | h
    · cases h; exact .refl _
    · obtain ⟨⟨e', r'⟩,h1,h2⟩:=List.mem_map.1 h
      cases h2
      exact (List.Perm.swap x e' r').trans (.cons x (picks_perm h1))
theorem picks_ne {ε:Type} {x:ε} {l:List ε}:picks (x :: l) ≠ []:=by simp [picks]
theorem collect_ok (X:List Tparent → Option (List Tparent)) (r:List Tparent) (ps:List Tparent) (hX:∀ xs,xs.Perm ps → X xs = some r) (hk:ps.length ≤ 100):∀ (n:Nat) (rest:List (Int × Tparent)) (xs:List Tparent),rest.length ≤ n → (xs ++ rest.map Prod.snd).Perm ps → mloop X (split_view_parents_b762 FU) n rest xs = some r
  | n,[],xs,_,h=>by
    rw [List.map_nil,List.append_nil] at h
    unfold mloop
    exact hX xs h
  | n + 1,e :: rest,xs,hn,h=>by
    unfold mloop
    refine allSame_of (fun h0=>picks_ne (List.map_eq_nil_iff.1 h0)) fun y hy=>?_
    obtain ⟨⟨e', r'⟩,h1,rfl⟩:=List.mem_map.1 hy
    have hp:=picks_perm h1
    have hlen:=hp.length_eq
    have hlk:=h.length_eq
    simp only [List.length_append,List.length_map,List.length_cons] at hlk hlen
    unfold split_view_parents_b762
    simp only
    rw [appS _ _ (by simp only [List.length_cons,List.length_nil]; omega),obind]
    refine collect_ok X r ps hX hk n r' _ (by simp only [List.length_cons] at hn; omega) (List.Perm.trans ?_ h)
    rw [List.append_assoc]
    exact List.Perm.append_left xs ((hp.map Prod.snd))
/-! ### What is known of the parents -/
abbrev T3:Type:=Int × Int × Int
def ppl (D:List T3) (k:Int):Int:=((D.filter fun t=>decide (t.1 = k)).map (·.2.1)).sum
def dst (D:List T3) (k:Int):UInt8:=(D.filter fun t=>decide (t.1 = k)).foldl (fun a t=>a ||| shl8 1 t.2.2.toNat) 0
def par (D:List T3) (k:Int):Tparent:=⟨k,ppl D k,dst D k⟩
def keys (D:List T3):List Int:=D.map (·.1)
def ks (D:List T3):List Int:=((List.range 64).map fun i:Nat=>(i:Int)).filter fun x=>decide (x ∈ keys D)
theorem par_snoc (D:List T3) (t:T3) (k:Int):par (D ++ [t]) k = if t.1 = k then ⟨k,ppl D k + t.2.1,dst D k ||| shl8 1 t.2.2.toNat⟩ else par D k:=by
  unfold par ppl dst
  rw [List.filter_append]
  by_cases h:t.1 = k
  · rw [if_pos h,List.filter_cons_of_pos (by simpa using h),List.filter_nil,List.map_append,List.sum_append,List.foldl_append]
    simp
  · rw [if_neg h,List.filter_cons_of_neg (by simpa using h),List.filter_nil,List.append_nil]
theorem par_new {D:List T3} {k:Int} (h:k ∉ keys D):ppl D k = 0∧dst D k = 0:=by
  have e:(D.filter fun t=>decide (t.1 = k)) = []:=by
    rw [List.filter_eq_nil_iff]
    intro t ht
    simp only [decide_eq_true_eq]
    exact fun e=>h (List.mem_map.2 ⟨t,ht,e⟩)
  unfold ppl dst
  rw [e]
  exact ⟨rfl,rfl⟩
theorem ppl_bound {D:List T3} {B:Int} (h:∀ t ∈ D,0 ≤ t.2.1∧t.2.1 ≤ B) (_h0:0 ≤ B) (k:Int):0 ≤ ppl D k∧ppl D k ≤ B * D.length:=by
  unfold ppl
  induction D with
  | nil=>simp
  | cons t D ih=>
    have h1:=h t (List.mem_cons_self ..)
    have h2:=ih fun x hx=>h x (List.mem_cons_of_mem _ hx)
    rw [List.length_cons,Int.natCast_add,Int.mul_add]
    by_cases hk:t.1 = k
    · rw [List.filter_cons_of_pos (by simpa using hk),List.map_cons,List.sum_cons]; omega
    · rw [List.filter_cons_of_neg (by simpa using hk)]; omega
theorem mget_map {ν:Type} (f:Int → ν) (k:Int):∀ K:List Int,mget (K.map fun x=>(x,f x)) k = if k ∈ K then some (f k) else none
  | []=>rfl
  | x :: K=>by
    rw [List.map_cons,mget]
    by_cases h:k = x
    · subst h; simp
    · simp only [h,if_false,mget_map f k K,List.mem_cons,false_or]
theorem mset_map {ν:Type} (f g:Int → ν) (k:Int) (h:∀ x,x ≠ k → g x = f x):∀ {K:List Int},K.Nodup → mset (K.map fun x=>(x,f x)) k (g k) = (if k ∈ K then K else K ++ [k]).map fun x=>(x,g x)
  | [],_=>rfl
  | x :: K,hn=>by
    obtain ⟨hx,hn⟩:=List.nodup_cons.1 hn
    rw [List.map_cons,mset]
    by_cases e:k = x
    · subst e
      simp only [if_true,List.mem_cons,true_or,List.map_cons]
      refine congrArg _ (List.map_congr_left fun y hy=>?_)
      rw [h y fun e=>hx (e ▸ hy)]
    · simp only [e,if_false,mset_map f g k h hn,List.mem_cons,false_or]
      split <;> simp [h x (Ne.symm e)]
structure LR (r:TRoll) (us:List TUnit) (at_:Nat):Prop where
  c:units_CheckRoll_p FU r = some 0
  all:∃ ws,r.fm = us ++ ws∧∀ u ∈ ws,u.fo = true
  w:∀ u ∈ us,u.fo = false
  l:us.length ≤ 100
  d:∀ K:List Int,K.Nodup → (∀ x ∈ K,∃ u ∈ us,(u.fw[at_]?).getD 0 = x) → K.length ≤ 12
  n:r.fm.length ≤ 100
  lv:(at_:Int) < r.fh
  p:∀ u ∈ us,0 ≤ u.fp∧u.fp ≤ 1000000000
  q:∀ u ∈ us,at_ < u.fw.length∧∀ x ∈ u.fw,0 ≤ x∧x ≤ 63
def PL (us:List TUnit) (p:List Int):Prop:=p = [] ∨ p.length = us.length∧∀ x ∈ p,0 ≤ x∧x < 8
def pl0 (us:List TUnit) (p:List Int):List Int:=if p = [] then List.replicate us.length 0 else p
def dat (us:List TUnit) (at_:Nat) (p:List Int):List T3:=List.zipWith (fun u d=>((u.fw[at_]?).getD 0,u.fp,d)) us (pl0 us p)
theorem pl0_len {us:List TUnit} {p:List Int} (h:PL us p):(pl0 us p).length = us.length:=by
  unfold pl0
  split
  · simp
  · rename_i h0; rcases h with h | h
    · exact absurd h h0
    · exact h.1
theorem pl0_in {us:List TUnit} {p:List Int} (h:PL us p):∀ x ∈ pl0 us p,0 ≤ x∧x < 8:=by
  unfold pl0
  split
  · intro x hx; rw [(List.mem_replicate.1 hx).2]; omega
  · rename_i h0; rcases h with h | h
    · exact absurd h h0
    · exact h.2
theorem dat_len {us:List TUnit} {p:List Int} {at_:Nat} (h:PL us p):(dat us at_ p).length = us.length:=by
  unfold dat; rw [List.length_zipWith,pl0_len h,Nat.min_self]
theorem dat_at {us:List TUnit} {p:List Int} {at_:Nat} (h:PL us p) {i:Nat} (hi:i < us.length):(dat us at_ p)[i]'(by rw [dat_len h]; exact hi) = ((us[i].fw[at_]?).getD 0,us[i].fp,(pl0 us p)[i]'(by rw [pl0_len h]; exact hi)):=by
  unfold dat; rw [List.getElem_zipWith]
section
variable {r:TRoll} {us:List TUnit} {at_:Nat} {p:List Int} (h:LR r us at_) (hp:PL us p)
include h hp
theorem dat_mem:∀ t ∈ dat us at_ p,(0 ≤ t.1∧t.1 ≤ 63)∧(0 ≤ t.2.1∧t.2.1 ≤ 1000000000)∧0 ≤ t.2.2∧t.2.2 < 8:=by
  intro t ht
  obtain ⟨i,hi,rfl⟩:=List.getElem_of_mem ht
  have hi' : i < us.length:=by rwa [dat_len hp] at hi
  rw [dat_at hp hi']
  have h1:=h.q us[i] (List.getElem_mem _)
  refine ⟨?_,h.p us[i] (List.getElem_mem _),pl0_in hp _ (List.getElem_mem _)⟩
  simp only
  rw [List.getElem?_eq_getElem h1.1]
  exact h1.2 _ (List.getElem_mem _)
theorem keys_in:∀ x ∈ keys (dat us at_ p),0 ≤ x∧x ≤ 63:=fun x hx=>by
  obtain ⟨t,ht,rfl⟩:=List.mem_map.1 hx
  exact (dat_mem h hp t ht).1
omit h hp in
theorem ks_mem {D:List T3} {x:Int}:x ∈ ks D ↔ (0 ≤ x∧x ≤ 63)∧x ∈ keys D:=by
  unfold ks
  rw [List.mem_filter,decide_eq_true_eq]
  refine and_congr_left fun _=>?_
  rw [List.mem_map]
  constructor
  · rintro ⟨i,hi,rfl⟩; have:=List.mem_range.1 hi; omega
  · exact fun hx=>⟨x.toNat,List.mem_range.2 (by omega),by omega⟩
omit h hp in
theorem ks_lt (D:List T3):(ks D).Pairwise (· < ·):=by
  unfold ks
  refine List.Pairwise.filter _ (List.Pairwise.map _ (fun a b hab=>?_) List.pairwise_lt_range)
  omega
omit h hp in
theorem ks_nodup (D:List T3):(ks D).Nodup:=(ks_lt D).imp fun h=>by omega
theorem vparents_ok:split_view_parents_p FU ⟨r,at_⟩ p = some ((ks (dat us at_ p)).map (par (dat us at_ p))):=by
  have hF:=FU_lt
  have hdl:=dat_len (at_:=at_) hp
  have hdm:=dat_mem h hp
  have hki:=keys_in h hp
  have hus:=h.l
  obtain ⟨ws,hr,hw⟩:=h.all
  have hN:=h.n
  have hz:r.fm.length = us.length + ws.length:=by rw [hr,List.length_append]
  generalize hD:dat us at_ p = D at *
  have hh:=loop_ok (B:=split_view_parents_l4 FU ⟨r,at_⟩ p) (fun s:Nat × List (Int × Tparent)=>r.fm.length - s.1)
    (fun s=>s.1 ≤ r.fm.length∧∃ K:List Int,s.2 = (K.map fun k=>(k,par (D.take s.1) k))∧K.Nodup∧(∀ x,x ∈ K ↔ x ∈ keys (D.take s.1))∧K.length ≤ s.1)
    (fun M=>∃ K:List Int,M = (K.map fun k=>(k,par D k))∧K.Nodup∧(∀ x,x ∈ K ↔ x ∈ keys D)) ?_ FU (0,[]) ⟨Nat.zero_le _,[],rfl,List.nodup_nil,by simp [keys],Nat.le_refl _⟩ (by simp only; omega)
  · obtain ⟨M,e,K,rfl,k1,k2⟩:=hh
    have hp2:K.Perm (ks D):=by
      rw [List.perm_ext_iff_of_nodup k1 (ks_nodup D)]
      intro x
      rw [k2 x,ks_mem]
      exact ⟨fun hx=>⟨hki x hx,hx⟩,fun hx=>hx.2⟩
    have hlen:K.length ≤ 12:=h.d K k1 fun x hx=>by
      obtain ⟨t,ht,rfl⟩:=List.mem_map.1 ((k2 x).1 hx)
      obtain ⟨i,hi,rfl⟩:=List.getElem_of_mem ht
      have hi' : i < us.length:=by omega
      refine ⟨us[i],List.getElem_mem _,?_⟩
      have:=dat_at (at_:=at_) hp hi'
      simp only [hD] at this
      rw [this]
    unfold split_view_parents_p
    rw [e,obind]
    refine collect_ok _ _ (K.map (par D)) (fun xs hx=>?_) (by rw [List.length_map]; omega) FU _ [] (by rw [List.length_map]; omega) (by rw [List.nil_append,List.map_map]; exact List.Perm.refl _)
    have hnm:NmOk xs:=fun y hy=>by
      obtain ⟨k,hk,rfl⟩:=List.mem_map.1 (hx.mem_iff.1 hy)
      exact hki k ((k2 k).1 hk)
    obtain ⟨ys,e3,q1,q2⟩:=sort_ok xs (by rw [hx.length_eq,List.length_map]; exact hlen) hnm
    try simp only
    rw [e3]
    refine congrArg some (List.Perm.eq_of_pairwise (fun a b ha hb h1 h2=>?_) q2 ?_ ((q1.trans hx).trans (hp2.map _)))
    · obtain ⟨i,_,rfl⟩:=List.mem_map.1 (hx.mem_iff.1 (q1.mem_iff.1 ha))
      obtain ⟨j,_,rfl⟩:=List.mem_map.1 hb
      have:i = j:=Int.le_antisymm h1 h2
      rw [this]
    · exact List.Pairwise.map _ (fun a b hab=>Int.le_of_lt hab) (ks_lt D)
  · rintro ⟨i,M⟩ J ⟨a1,K,a2,a3,a4,a5⟩ hJ
    simp only at a1 a2 a3 a4 a5 hJ
    subst a2
    unfold split_view_parents_l4
    simp only
    split
    · rename_i hi
      rw [List.getElem?_eq_getElem hi,obind]
      by_cases h2:i < us.length
      · have e0:r.fm[i] = us[i]:=by simp only [hr]; exact List.getElem_append_left h2
        have hw1:=h.w us[i] (List.getElem_mem _)
        have hq:=h.q us[i] (List.getElem_mem _)
        have hpp:=h.p us[i] (List.getElem_mem _)
        have hDi:i < D.length:=by omega
        have et:D[i] = ((us[i].fw[at_]?).getD 0,us[i].fp,(pl0 us p)[i]'(by rw [pl0_len hp]; exact h2)):=by
          have:=dat_at (at_:=at_) hp h2; simp only [← hD]; exact this
        rw [e0,if_neg (by rw [hw1]; decide),idx_ok (by omega) (by rw [Int.toNat_natCast]; exact hq.1),obind]
        simp only [Int.toNat_natCast]
        rw [List.getElem?_eq_getElem hq.1,Option.getD_some] at et
        generalize us[i].fw[at_] = k0 at *
        have htk:D.take (i + 1) = D.take i ++ [D[i]]:=List.take_succ_eq_append_getElem hDi
        have hb:=ppl_bound (D:=D.take i) (B:=1000000000) (fun t ht=>(hdm t (List.mem_of_mem_take ht)).2.1) (by decide) k0
        have hbl:(D.take i).length ≤ 100:=by rw [List.length_take]; omega
        have hm9:=hdm D[i] (List.getElem_mem _)
        rw [et] at hm9
        simp only at hm9
        -- the district
        have hd:∀ (J' : Int → Option (List (Int × Tparent))),(if 0 < p.length then (p[i]?).bind fun x571=>J' x571 else J' 0) = J' ((pl0 us p)[i]'(by rw [pl0_len hp]; exact h2)):=by
          intro J'
          rcases hp with rfl | ⟨hp1,hp2⟩
          · simp [pl0]
          · have hne:p ≠ []:=fun e=>by rw [e] at hp1; simp at hp1; omega
            have:pl0 us p = p:=if_neg hne
            rw [if_pos (by omega),List.getElem?_eq_getElem (by omega),obind]
            simp only [this]
        generalize hdd:(pl0 us p)[i]'(by rw [pl0_len hp]; exact h2) = dd at *
        have hnat:natOf dd = some dd.toNat:=if_pos hm9.2.2.1
        have next:∀ M', M' = mset (K.map fun k=>(k,par (D.take i) k)) k0 (par (D.take (i + 1)) k0) → ∃ x,J (i + 1,M') = some x∧∃ K:List Int,x = (K.map fun k=>(k,par D k))∧K.Nodup∧(∀ x,x ∈ K ↔ x ∈ keys D):=by
          rintro M' rfl
          refine hJ _ ⟨hi,if k0 ∈ K then K else K ++ [k0],?_,?_,fun x=>?_,?_⟩ (by simp only; omega)
          · simp only
            exact mset_map _ _ k0 (fun x hx=>by rw [htk,par_snoc,et,if_neg (Ne.symm hx)]) a3
          · split
            · exact a3
            · rename_i h5
              rw [List.nodup_append]
              exact ⟨a3,by simp,fun a ha b hb=>by rw [List.mem_singleton.1 hb]; exact fun e=>h5 (e ▸ ha)⟩
          · simp only
            rw [htk]
            unfold keys
            rw [List.map_append,List.mem_append,et]
            have:=a4 x
            unfold keys at this
            rw [← this,List.map_cons,List.map_nil,List.mem_singleton]
            simp only
            split
            · rename_i h5
              constructor
              · exact .inl
              · rintro (h6 | rfl)
                · exact h6
                · exact h5
            · rw [List.mem_append,List.mem_singleton]
          · simp only
            split
            · omega
            · rw [List.length_append,List.length_singleton]; omega
        rw [mget_map]
        by_cases hm:k0 ∈ K
        · rw [if_pos hm]
          unfold pcase jn
          simp only
          rw [hd]
          rw [chkI (by unfold par; simp only; omega) (by unfold par; simp only; omega),obind,hnat,obind]
          refine next _ ?_
          rw [htk,par_snoc,et,if_pos rfl]
          rfl
        · rw [if_neg hm]
          unfold pcase jn
          simp only
          rw [hd]
          obtain ⟨n1,n2⟩:=par_new (D:=D.take i) (k:=k0) fun hx=>hm ((a4 k0).2 hx)
          rw [chkI (by omega) (by omega),obind,hnat,obind]
          refine next _ ?_
          rw [htk,par_snoc,et,if_pos rfl,n1,n2]
      · have e0:r.fm[i] ∈ ws:=by
          have:r.fm[i] = ws[i - us.length]'(by omega):=by simp only [hr]; exact List.getElem_append_right (by omega)
          rw [this]; exact List.getElem_mem _
        rw [if_pos (hw _ e0)]
        refine hJ _ ⟨hi,K,?_,a3,?_,by simp only; omega⟩ (by simp only; omega)
        · simp only
          rw [List.take_of_length_le (by omega),List.take_of_length_le (by omega)]
        · simp only
          rw [List.take_of_length_le (by omega)] at a4 ⊢
          exact a4
    · rename_i hi
      refine ⟨_,rfl,K,?_,a3,?_⟩
      · rw [List.take_of_length_le (by omega)]
      · rwa [List.take_of_length_le (by omega)] at a4
end
end Go.Proofs.YtfncplndfpgngaaGreatDoor
