/- Plain laws: totals, the ideal, deviations and the spread, of the program and of the reference. No program in sight but the printed functions. -/
import Derived.Test.YtgejkdheojkfiaaGreatDoorPARg
namespace Go.Proofs.YtgejkdheojkfiaaGreatDoor
open Go
set_option maxRecDepth 8000
theorem FU_big:(18446744073709551616:Nat) < FU:=by decide
theorem of_sg {a b:Int} (ha:Sm a) (hb:Sm b) (h0:b ≠ 0):cW_p FU a b = some (Sg (Rat.divInt a b),0):=by
 have hd:=div_le (a:=a) h0
 rw [share_of_ok FU a b ha hb h0 FU_big,Sh_Sg (by unfold Sm at *; omega) (by unfold Sm at *; omega)]
theorem bof_sg {a b:Int} (ha:Sm a) (hb:Sm b) (h0:b ≠ 0):aO_p FU a b = some (.ok (Sg (Rat.divInt a b))):=by
 unfold aO_p
 rw [of_sg ha hb h0,obind]
 rfl
theorem fqd {a b:Int} (h0:b ≠ 0) (ha:a.natAbs < 1152921504606846976) (hb:b.natAbs < 1152921504606846976):FQ (Rat.divInt a b):=
 (Bt.of (i:=60) (j:=60) h0 ha hb).fq (by decide) (by decide)
theorem q_sub (x all k:Int) (hk:k ≠ 0):Rat.divInt x 1 - Rat.divInt all k = Rat.divInt (x * k - all) k:=by
 rw [Rat.sub_eq_add_neg,Rat.neg_divInt,Rat.divInt_add_divInt _ _ (by decide) hk]
 congr 1 <;> omega
theorem q_ne {all k:Int} (hk:k ≠ 0) (ha:all ≠ 0):Rat.divInt all k ≠ 0:=fun e=>by
 have e2:Rat.divInt all k = Rat.divInt 0 1:=e
 rw [Rat.divInt_eq_divInt_iff hk (by decide)] at e2
 omega
theorem q_div (y all k:Int) (hk:k ≠ 0):Rat.divInt y k / Rat.divInt all k = Rat.divInt y all:=by
 rw [Rat.div_def,Rat.inv_divInt,Rat.divInt_mul_divInt,Int.mul_comm k all,Rat.divInt_mul_right hk]
theorem q_div1 (y all k:Int):Rat.divInt y 1 / Rat.divInt all k = Rat.divInt (y * k) all:=by
 rw [Rat.div_def,Rat.inv_divInt,Rat.divInt_mul_divInt,Int.one_mul]
open Classical in
theorem counted_eq {r:Tc} (hS:∀ u ∈ r.fo,Sm4 u) (k:Int):am_p FU r k = some (if RV r then (if 1 <= k/\k <= 8 then .ok ⟨r,k⟩ else .error ⟨2⟩) else .error ⟨161⟩):=by
 unfold am_p
 rw [checkroll_eq r hS,obind]
 by_cases hv:RV r
 ·rw [if_pos hv,if_pos hv]
  unfold co_p
  rw [if_pos rfl,obind]
  unfold exc
  simp only
  by_cases h1:k < 1
  ·rw [if_pos h1,fail_arg,obind,if_neg (by omega)]
  ·rw [if_neg h1]
   by_cases h2:8 < k
   ·rw [decide_eq_true h2,fail_arg,obind,if_neg (by omega)]
   ·rw [decide_eq_false h2,fail_no', obind,if_pos (by omega)]
 ·rw [if_neg hv,if_neg hv]
  rfl
open Classical in
theorem countedR_eq {r:Tc} (hS:∀ u ∈ r.fo,Sm4 u) (k:Int):aV_p FU r k = some (if RV r then (if 1 <= k/\k <= 8 then 0 else 2) else 161):=by
 unfold aV_p
 rw [checkrollR_eq r hS,obind]
 by_cases hv:RV r
 ·rw [if_pos hv,if_pos hv,if_pos rfl]
  by_cases h1:k < 1
  ·rw [if_pos h1,if_neg (by omega)]
  ·rw [if_neg h1]
   by_cases h2:8 < k
   ·rw [if_pos h2,if_neg (by omega)]
   ·rw [if_neg h2,if_pos (by omega)]
 ·rw [if_neg hv,if_neg hv,if_neg (by decide)]
def pe (us:List Tb):Nat -> Int
 | 0=>0
 | i + 1=>pe us i + (us[i]?.map (·.fv)).getD 0
theorem pe_succ {us:List Tb} {i:Nat} (h:i < us.length):pe us (i + 1) = pe us i + us[i].fv:=by
 show pe us i + (us[i]?.map (·.fv)).getD 0 = _
 rw [List.getElem?_eq_getElem h]; rfl
structure Lp (r:Tc) (us:List Tb):Prop where
 l:Lnd r us
 n:r.fo.length <= 64
 p:∀ u ∈ us,0 <= u.fv/\u.fv <= 1000000000
theorem Lp.of {r:Tc} {us:List Tb} (hv:RV r) (h:Lnd r us):Lp r us:=by
 refine ⟨h,hv.n.2,fun u hu=>?_⟩
 obtain ⟨ws,e,_⟩:=h.all
 obtain ⟨i,hi,rfl⟩:=List.getElem_of_mem hu
 have hi2:i < r.fo.length:=by rw [e,List.length_append]; omega
 have h1:=hv.u i hi2
 have e0:r.fo[i] = us[i]:=by simp only [e]; exact List.getElem_append_left hi
 rw [e0] at h1
 refine ⟨h1.1,Int.le_trans h1.2.1 ?_⟩
 split <;> omega
theorem Lp.m {r:Tc} {us:List Tb} (h:Lp r us):us.length <= 64:=Nat.le_trans h.l.le h.n
theorem pe_bound {r:Tc} {us:List Tb} (h:Lp r us):∀ i:Nat,0 <= pe us i/\pe us i <= (i:Int) * 1000000000
 | 0=>⟨Int.le_refl _,by simp [pe]⟩
 | i + 1=>by
  have ih:=pe_bound h i
  by_cases hi:i < us.length
  ·have h2:=h.p us[i] (List.getElem_mem hi)
   rw [pe_succ hi]; omega
  ·show 0 <= pe us i + (us[i]?.map (·.fv)).getD 0/\pe us i + (us[i]?.map (·.fv)).getD 0 <= _
   rw [List.getElem?_eq_none (by omega)]
   simp only [Option.map_none,Option.getD_none]; omega
theorem pe_all {r:Tc} {us:List Tb} (h:Lp r us):0 <= pe us us.length/\pe us us.length <= 64000000000:=by
 have h1:=pe_bound h us.length; have h2:=h.m; omega
theorem people_eq {r:Tc} {us:List Tb} (h:Lp r us) (k:Int):au_p FU ⟨r,k⟩ = some (pe us us.length):=by
 have hF:=FU_lt
 have hn:=h.n
 have hle:=h.l.le
 have hh:=loop_ok (B:=au_l1 FU ⟨r,k⟩) (fun s:Nat × Int=>r.fo.length - s.1) (fun s=>s.1 <= us.length/\s.2 = pe us s.1) (fun y=>y = .inl (pe us us.length) ∨ y = .inr (pe us us.length)) ?_ FU (0,0) ⟨Nat.zero_le _,rfl⟩ (by simp only; omega)
 ·obtain ⟨y,e,hy⟩:=hh
  unfold au_p
  rw [e]
  rcases hy with rfl | rfl <;> rfl
 ·rintro ⟨i,z⟩ J ⟨a1,a2⟩ hJ
  simp only at a1 a2 hJ
  subst a2
  unfold au_l1
  simp only
  by_cases hi:i < r.fo.length
  ·rw [if_pos hi,List.getElem?_eq_getElem hi,obind]
   rcases h.l.at hi with ⟨h2,e0,hw⟩ | ⟨h2,hw⟩
   ·have h3:=pe_bound h i; have h4:=pe_bound h (i + 1); have h5:=pe_succ h2
    rw [if_neg (by rw [hw]; decide),e0,<- h5,chkI (by omega) (by omega),obind]
    exact hJ _ ⟨by simp only; omega,rfl⟩ (by simp only; omega)
   ·rw [if_pos hw]
    exact ⟨_,rfl,.inl (by rw [show i = us.length by omega])⟩
  ·rw [if_neg hi]
   exact ⟨_,rfl,.inr (by rw [show i = us.length by omega])⟩
theorem peopleR_eq {r:Tc} {us:List Tb} (hS:∀ u ∈ r.fo,Sm4 u) (hv:RV r) (h:Lp r us):ay_p FU r = some (pe us us.length):=by
 have hF:=FU_lt
 have hm:=h.m
 have hle:=h.l.le
 have hh:=loop_ok (B:=ay_l1 FU r) (fun s:Int × Int=>64 - s.2.toNat) (fun s=>0 <= s.2/\s.2 <= us.length/\s.1 = pe us s.2.toNat) (fun y=>y = pe us us.length) ?_ FU (0,0) ⟨by simp,by simp,rfl⟩ (by simp only; omega)
 ·obtain ⟨y,e,rfl⟩:=hh
  unfold ay_p
  rw [e]; rfl
 ·rintro ⟨z,j⟩ J ⟨a0,a1,a2⟩ hJ
  simp only at a0 a1 a2 hJ
  obtain ⟨i,rfl⟩:∃ i:Nat,j = (i:Int):=⟨j.toNat,by omega⟩
  simp only [Int.toNat_natCast] at a2 hJ
  subst a2
  unfold ay_l1
  simp only
  rw [land_eq hS hv h.l,obind]
  by_cases hi:(i:Int) < us.length
  ·have hi2:i < us.length:=by omega
   have hi3:i < r.fo.length:=by omega
   have h3:=pe_bound h i; have h4:=pe_bound h (i + 1); have h5:=pe_succ hi2
   have e0:r.fo[i] = us[i]:=by
    rcases h.l.at hi3 with ⟨_,e0,_⟩ | ⟨h6,_⟩
    ·exact e0
    ·omega
   rw [if_pos hi,idxK hi3,obind,e0,<- h5,chkI (by omega) (by omega),obind,chkI (by omega) (by omega),obind]
   exact hJ _ ⟨by simp only; omega,by simp only; omega,by simp only; rw [show ((i:Int) + 1).toNat = i + 1 by omega]⟩ (by simp only; omega)
  ·rw [if_neg hi]
   exact ⟨_,rfl,by rw [show i = us.length by omega]⟩
def tt (us:List Tb) (p:List Int) (k:Int):Nat -> List Int
 | 0=>List.replicate k.toNat 0
 | i + 1=>(tt us p k i).set (p[i]?.getD 0).toNat ((tt us p k i)[(p[i]?.getD 0).toNat]?.getD 0 + (us[i]?.map (·.fv)).getD 0)
theorem tt_len (us:List Tb) (p:List Int) (k:Int):∀ i,(tt us p k i).length = k.toNat
 | 0=>by simp [tt]
 | i + 1=>by show ((tt us p k i).set _ _).length = _; rw [List.length_set]; exact tt_len us p k i
theorem tt_succ {us:List Tb} {p:List Int} {k:Int} {i:Nat} (h1:i < us.length) (h2:i < p.length) (h3:p[i].toNat < (tt us p k i).length):tt us p k (i + 1) = (tt us p k i).set p[i].toNat ((tt us p k i)[p[i].toNat] + us[i].fv):=by
 show (tt us p k i).set (p[i]?.getD 0).toNat ((tt us p k i)[(p[i]?.getD 0).toNat]?.getD 0 + (us[i]?.map (·.fv)).getD 0) = _
 rw [List.getElem?_eq_getElem h1,List.getElem?_eq_getElem h2]
 simp only [Option.getD_some,Option.map_some]
 rw [List.getElem?_eq_getElem h3]; rfl
theorem tt_bound {r:Tc} {us:List Tb} (h:Lp r us) (p:List Int) (k:Int):∀ i ≤ us.length,∀ x ∈ tt us p k i,0 <= x/\x <= pe us i
 | 0,_,x,hx=>by rw [List.eq_of_mem_replicate hx]; exact ⟨Int.le_refl _,Int.le_refl _⟩
 | i + 1,hi,x,hx=>by
  have ih:=tt_bound h p k i (by omega)
  have h2:=h.p us[i] (List.getElem_mem _)
  have h3:=pe_bound h i
  rw [pe_succ (by omega)]
  rcases List.mem_or_eq_of_mem_set hx with hx | hx
  ·have:=ih x hx; omega
  ·rw [hx,List.getElem?_eq_getElem (show i < us.length by omega)]
   simp only [Option.map_some,Option.getD_some]
   by_cases h4:(p[i]?.getD 0).toNat < (tt us p k i).length
   ·rw [List.getElem?_eq_getElem h4]
    have:=ih _ (List.getElem_mem h4)
    simp only [Option.getD_some]; omega
   ·rw [List.getElem?_eq_none (by omega)]
    simp only [Option.getD_none]; omega
open Classical in
theorem totals_eq {r:Tc} {us:List Tb} (h:Lp r us) (p:List Int) (k:Int) (hk:1 <= k) (hk8:k <= 8) (hl:p.length <= 1000):ak_p FU ⟨r,k⟩ p = some (if Fits p us.length k then .ok (tt us p k us.length) else .error ⟨220⟩):=by
 have hF:=FU_lt
 have hn:=h.n
 have hle:=h.l.le
 unfold ak_p
 rw [check_eq h.l (by omega) p k hk hl,obind]
 by_cases hf:Fits p us.length k
 ·rw [if_pos hf,if_pos hf]
  unfold exc
  simp only
  rw [show mk k (0:Int) = some (List.replicate k.toNat 0) from if_pos ⟨by omega,by omega⟩,obind]
  have hh:=loop_ok (B:=ak_l1 FU ⟨r,k⟩ p) (fun s:Nat × List Int=>r.fo.length - s.1) (fun s=>s.1 <= us.length/\s.2 = tt us p k s.1) (fun y=>y = .inl (.ok (tt us p k us.length)) ∨ y = .inr (tt us p k us.length)) ?_ FU (0,List.replicate k.toNat 0) ⟨Nat.zero_le _,rfl⟩ (by simp only; omega)
  ·obtain ⟨y,e,hy⟩:=hh
   rw [e]
   rcases hy with rfl | rfl <;> rfl
  ·rintro ⟨i,xs⟩ J ⟨a1,a2⟩ hJ
   simp only at a1 a2 hJ
   subst a2
   unfold ak_l1
   simp only
   by_cases hi:i < r.fo.length
   ·rw [if_pos hi,List.getElem?_eq_getElem hi,obind]
    rcases h.l.at hi with ⟨h2,e0,hw⟩ | ⟨h2,hw⟩
    ·have hip:i < p.length:=by have:=hf.1; omega
     have hx:=hf.2.1 p[i] (List.getElem_mem hip)
     have hlen:=tt_len us p k i
     have h3:p[i].toNat < (tt us p k i).length:=by omega
     have hb:=tt_bound h p k i (by omega) _ (List.getElem_mem h3)
     have h4:=pe_bound h i
     have h5:=h.p us[i] (List.getElem_mem h2)
     rw [if_neg (by rw [hw]; decide),List.getElem?_eq_getElem hip,obind,idx_ok hx.1 h3,obind,e0,chkI (by omega) (by omega),obind,put_ok _ h3,obind,<- tt_succ h2 hip h3]
     exact hJ _ ⟨h2,rfl⟩ (by simp only; omega)
    ·rw [if_pos hw]
     exact ⟨_,rfl,.inl (by rw [show i = us.length by omega])⟩
   ·rw [if_neg hi]
    exact ⟨_,rfl,.inr (by rw [show i = us.length by omega])⟩
 ·rw [if_neg hf,if_neg hf]; rfl
open Classical in
theorem refTotals_eq {r:Tc} {us:List Tb} (hS:∀ u ∈ r.fo,Sm4 u) (hv:RV r) (h:Lp r us) (p:List Int) (k:Int) (hk:1 <= k) (hk8:k <= 8) (hl:p.length <= 1000):ap_p FU r p k = some (if Fits p us.length k then (tt us p k us.length,0) else ([],220)):=by
 have hF:=FU_lt
 have hn:=h.n
 have hle:=h.l.le
 unfold ap_p
 rw [refCheck_eq hS p k hk hk8 us (fun _=>h.l),if_pos hv,obind]
 by_cases hf:Fits p us.length k
 ·rw [if_pos hf,if_pos hf,if_pos rfl,show mk k (0:Int) = some (List.replicate k.toNat 0) from if_pos ⟨by omega,by omega⟩,obind]
  have hpl:=hf.1
  have hh:=loop_ok (B:=ap_l1 FU p r) (fun s:Nat × List Int=>p.length - s.1) (fun s=>s.1 <= p.length/\s.2 = tt us p k s.1) (fun y=>y = tt us p k us.length) ?_ FU (0,List.replicate k.toNat 0) ⟨Nat.zero_le _,rfl⟩ (by simp only; omega)
  ·obtain ⟨y,e,rfl⟩:=hh
   rw [e]; rfl
  ·rintro ⟨i,xs⟩ J ⟨a1,a2⟩ hJ
   simp only at a1 a2 hJ
   subst a2
   unfold ap_l1
   simp only
   by_cases hip:i < p.length
   ·have h2:i < us.length:=by omega
    have hi:i < r.fo.length:=by omega
    have hx:=hf.2.1 p[i] (List.getElem_mem hip)
    have hlen:=tt_len us p k i
    have h3:p[i].toNat < (tt us p k i).length:=by omega
    have hb:=tt_bound h p k i (by omega) _ (List.getElem_mem h3)
    have h4:=pe_bound h i
    have h5:=h.p us[i] (List.getElem_mem h2)
    have e0:r.fo[i] = us[i]:=by
     rcases h.l.at hi with ⟨_,e0,_⟩ | ⟨h6,_⟩
     ·exact e0
     ·omega
    rw [if_pos hip,List.getElem?_eq_getElem hip,obind,idx_ok hx.1 h3,obind,List.getElem?_eq_getElem hi,obind,e0,chkI (by omega) (by omega),obind,put_ok _ h3,obind,<- tt_succ h2 hip h3]
    exact hJ _ ⟨hip,rfl⟩ (by simp only; omega)
   ·rw [if_neg hip]
    exact ⟨_,rfl,by rw [show i = us.length by omega]⟩
 ·rw [if_neg hf,if_neg hf,if_neg (by decide)]
def offs (all k:Int) (l:List Int):List Ta:=l.map fun x=>Sg (Rat.divInt (x * k - all) all)
structure Ns (l:List Int) (all k:Int):Prop where
 k1:1 <= k
 k8:k <= 8
 a1:0 < all
 a2:all <= 64000000000
 n:(l.length:Int) = k
 b:∀ x ∈ l,0 <= x/\x <= all
theorem Ns.mul {l:List Int} {all k:Int} (h:Ns l all k) {x:Int} (hx:0 <= x/\x <= all):0 <= x * k/\x * k <= 512000000000:=by
 have h1:=h.k1; have h2:=h.k8; have h3:=h.a2
 refine ⟨Int.mul_nonneg hx.1 (by omega),?_⟩
 have h4:=Int.mul_le_mul (show x <= 64000000000 by omega) h2 (by omega:(0:Int) <= k) (by omega)
 omega
theorem off_eq {l:List Int} {all k:Int} (h:Ns l all k):loopF (bq_l1 FU l (Sg (Rat.divInt all k))) FU (0,[]) = some (.inr (offs all k l)):=by
 have hF:=FU_lt
 have h1:=h.k1; have h2:=h.k8; have h3:=h.a1; have h4:=h.a2; have h5:=h.n
 have hh:=loop_ok (B:=bq_l1 FU l (Sg (Rat.divInt all k))) (fun s:Nat × List Ta=>l.length - s.1) (fun s=>s.1 <= l.length/\s.2 = offs all k (l.take s.1)) (fun y=>y = .inr (offs all k l)) ?_ FU (0,[]) ⟨by simp,by simp [offs]⟩ (by simp only; omega)
 ·obtain ⟨y,e,rfl⟩:=hh; exact e
 ·rintro ⟨i,xs⟩ J ⟨a1,a2⟩ hJ
  simp only at a1 a2 hJ
  unfold bq_l1
  simp only
  split
  ·rename_i hi
   have hx:=h.b l[i] (List.getElem_mem _)
   have hm:=h.mul hx
   have f0:FQ (Rat.divInt all k):=fqd (by omega) (by omega) (by omega)
   have f1:FQ (Rat.divInt l[i] 1 - Rat.divInt all k):=by rw [q_sub _ _ _ (by omega)]; exact fqd (by omega) (by omega) (by omega)
   have e2:(Rat.divInt l[i] 1 - Rat.divInt all k) / Rat.divInt all k = Rat.divInt (l[i] * k - all) all:=by rw [q_sub _ _ _ (by omega),q_div _ _ _ (by omega)]
   have f2:FQ ((Rat.divInt l[i] 1 - Rat.divInt all k) / Rat.divInt all k):=by rw [e2]; exact fqd (by omega) (by omega) (by omega)
   rw [List.getElem?_eq_getElem hi,obind,bof_sg (by unfold Sm; omega) (by unfold Sm; omega) (by decide),obind]
   unfold exc
   simp only
   rw [sub_q (fqd (by decide) (by omega) (by decide)) f0 f1 FU_big,obind]
   unfold aa_p
   simp only [if_true,obind]
   rw [div_q f1 f0 (q_ne (by omega) (by omega)) f2 FU_big,obind]
   simp only [if_true,obind]
   rw [e2,appS _ _ (by rw [a2]; unfold offs; simp only [List.length_map,List.length_take,List.length_cons,List.length_nil]; omega),obind]
   refine hJ _ ⟨hi,?_⟩ (by simp only; omega)
   simp only
   rw [a2,<- List.take_append_getElem hi]
   unfold offs
   rw [List.map_append]
   rfl
  ·refine ⟨_,rfl,?_⟩
   rw [a2,List.take_of_length_le (by omega)]
theorem offR_eq {l:List Int} {all k:Int} (h:Ns l all k) (e:Int):loopF (aP_l1 FU k (l,e) all) FU (0,[]) = some (offs all k l):=by
 have hF:=FU_lt
 have h1:=h.k1; have h2:=h.k8; have h3:=h.a1; have h4:=h.a2; have h5:=h.n
 have hh:=loop_ok (B:=aP_l1 FU k (l,e) all) (fun s:Int × List Ta=>9 - s.1.toNat) (fun s=>0 <= s.1/\s.1 <= k/\s.2 = offs all k (l.take s.1.toNat)) (fun y=>y = offs all k l) ?_ FU (0,[]) ⟨by simp,by simp only; omega,by simp [offs]⟩ (by simp only; omega)
 ·obtain ⟨y,e,rfl⟩:=hh; exact e
 ·rintro ⟨z,xs⟩ J ⟨a0,a1,a2⟩ hJ
  simp only at a0 a1 a2 hJ
  obtain ⟨i,rfl⟩:∃ i:Nat,z = (i:Int):=⟨z.toNat,by omega⟩
  simp only [Int.toNat_natCast] at a2 hJ
  unfold aP_l1
  simp only
  by_cases hi:(i:Int) < k
  ·have hi2:i < l.length:=by omega
   have hx:=h.b l[i] (List.getElem_mem _)
   have hm:=h.mul hx
   rw [if_pos hi,idxK hi2,obind,chkI (by omega) (by omega),obind,chkI (by omega) (by omega),obind,refOfG FU _ _ (by unfold Sm; omega) (by unfold Sm; omega) (by omega) FU_big,obind,appS _ _ (by rw [a2]; unfold offs; simp only [List.length_map,List.length_take,List.length_cons,List.length_nil]; omega),obind,chkI (by omega) (by omega),obind]
   refine hJ _ ⟨by simp only; omega,by simp only; omega,?_⟩ (by simp only; omega)
   simp only
   rw [a2,show ((i:Int) + 1).toNat = i + 1 by omega,<- List.take_append_getElem hi2]
   unfold offs
   rw [List.map_append]
   rfl
  ·rw [if_neg hi]
   refine ⟨_,rfl,?_⟩
   rw [a2,List.take_of_length_le (by omega)]
theorem least_eq (a:Int) (l:List Int) (hl:l.length <= 1000):bK_p FU a l = some (l.foldl min a):=by
 have hF:=FU_lt
 have hh:=loop_ok (B:=bK_l1 FU l) (fun s:Int × Nat=>l.length - s.2) (fun s=>s.2 <= l.length/\s.1 = (l.take s.2).foldl min a) (fun y=>y = l.foldl min a) ?_ FU (a,0) ⟨by simp,by simp⟩ (by simp only; omega)
 ·obtain ⟨y,e,rfl⟩:=hh
  unfold bK_p
  rw [e]; rfl
 ·rintro ⟨z,i⟩ J ⟨a1,a2⟩ hJ
  simp only at a1 a2 hJ
  unfold bK_l1
  simp only
  by_cases hi:i < l.length
  ·rw [if_pos hi,List.getElem?_eq_getElem hi,obind]
   refine hJ _ ⟨hi,?_⟩ (by simp only; omega)
   simp only
   rw [a2,<- List.take_append_getElem hi,List.foldl_append]; rfl
  ·rw [if_neg hi]
   exact ⟨_,rfl,by rw [a2,List.take_of_length_le (by omega)]⟩
theorem greatest_eq (a:Int) (l:List Int) (hl:l.length <= 1000):bf_p FU a l = some (l.foldl max a):=by
 have hF:=FU_lt
 have hh:=loop_ok (B:=bf_l1 FU l) (fun s:Int × Nat=>l.length - s.2) (fun s=>s.2 <= l.length/\s.1 = (l.take s.2).foldl max a) (fun y=>y = l.foldl max a) ?_ FU (a,0) ⟨by simp,by simp⟩ (by simp only; omega)
 ·obtain ⟨y,e,rfl⟩:=hh
  unfold bf_p
  rw [e]; rfl
 ·rintro ⟨z,i⟩ J ⟨a1,a2⟩ hJ
  simp only at a1 a2 hJ
  unfold bf_l1
  simp only
  by_cases hi:i < l.length
  ·rw [if_pos hi,List.getElem?_eq_getElem hi,obind]
   refine hJ _ ⟨hi,?_⟩ (by simp only; omega)
   simp only
   rw [a2,<- List.take_append_getElem hi,List.foldl_append]; rfl
  ·rw [if_neg hi]
   exact ⟨_,rfl,by rw [a2,List.take_of_length_le (by omega)]⟩
theorem fold_in {all:Int}:∀ (l:List Int) (a:Int),(0 <= a/\a <= all) -> (∀ x ∈ l,0 <= x/\x <= all) -> (0 <= l.foldl min a/\l.foldl min a <= a)/\(a <= l.foldl max a/\l.foldl max a <= all)
 | [],a,h,_=>⟨⟨h.1,Int.le_refl _⟩,Int.le_refl _,h.2⟩
 | x :: l,a,h,hx=>by
  have h1:=hx x (List.mem_cons_self ..)
  have h2:=(fold_in l (min a x) (by omega) fun y hy=>hx y (List.mem_cons_of_mem _ hy)).1
  have h3:=(fold_in l (max a x) (by omega) fun y hy=>hx y (List.mem_cons_of_mem _ hy)).2
  simp only [List.foldl_cons]
  omega
theorem spreadR_loop {l:List Int} {k:Int} (e:Int) (h1:1 <= k) (h8:k <= 8) (hn:(l.length:Int) = k) (h0:0 < l.length):loopF (az_l1 FU k (l,e)) FU (l[0],l[0],1) = some (l.foldl max l[0],l.foldl min l[0]):=by
 have hF:=FU_lt
 have ht:l.take 1 = [l[0]]:=by
  have:=List.take_append_getElem h0
  simpa using this.symm
 have hh:=loop_ok (B:=az_l1 FU k (l,e)) (fun s:Int × Int × Int=>9 - s.2.2.toNat) (fun s=>1 <= s.2.2/\s.2.2 <= k/\s.1 = (l.take s.2.2.toNat).foldl min l[0]/\s.2.1 = (l.take s.2.2.toNat).foldl max l[0]) (fun y=>y = (l.foldl max l[0],l.foldl min l[0])) ?_ FU (l[0],l[0],1) ⟨by simp,by simp only; omega,?_,?_⟩ (by simp only; omega)
 ·obtain ⟨y,e,rfl⟩:=hh; exact e
 ·rintro ⟨z1,z2,z⟩ J ⟨a0,a1,a2,a3⟩ hJ
  simp only at a0 a1 a2 a3 hJ
  obtain ⟨i,rfl⟩:∃ i:Nat,z = (i:Int):=⟨z.toNat,by omega⟩
  simp only [Int.toNat_natCast] at a2 a3 hJ
  unfold az_l1
  simp only
  by_cases hi:(i:Int) < k
  ·have hi2:i < l.length:=by omega
   rw [if_pos hi,idxK hi2,obind,chkI (by omega) (by omega),obind]
   refine hJ _ ⟨by simp only; omega,by simp only; omega,?_,?_⟩ (by simp only; omega)
   ·simp only
    rw [a2,show ((i:Int) + 1).toNat = i + 1 by omega,<- List.take_append_getElem hi2,List.foldl_append]; rfl
   ·simp only
    rw [a3,show ((i:Int) + 1).toNat = i + 1 by omega,<- List.take_append_getElem hi2,List.foldl_append]; rfl
  ·rw [if_neg hi]
   refine ⟨_,rfl,?_⟩
   rw [a2,a3,List.take_of_length_le (by omega)]
 ·show l[0] = (l.take 1).foldl min l[0]
  rw [ht]; show l[0] = min l[0] l[0]; omega
 ·show l[0] = (l.take 1).foldl max l[0]
  rw [ht]; show l[0] = max l[0] l[0]; omega
end Go.Proofs.YtgejkdheojkfiaaGreatDoor
/- Plain laws: BalanceCounts. No program in sight but the printed functions. -/
namespace Go.Proofs.YtgejkdheojkfiaaGreatDoor
open Go
set_option maxRecDepth 8000
theorem exE {ε α β:Type} (x:ε) (f:α -> Option β) (g:ε -> Option β):exc (.error x) f g = g x:=rfl
theorem exO {ε α β:Type} (x:α) (f:α -> Option β) (g:ε -> Option β):exc (.ok x) f g = f x:=rfl
structure Five (r:Tc) (p:List Int) (k:Int):Prop where
 qt:∃ y,bB_p FU r p k = some y/\ap_p FU r p k = some y/\y.1.length <= 1000
 qi:∃ y,ck_p FU r k = some y/\bE_p FU r k = some y
 qc:∃ y,cy_p FU r p k = some y/\ba_p FU r p k = some y
 qo:∃ y,cv_p FU r p k = some y/\aP_p FU r p k = some y/\y.1.length <= 1000
 qs:∃ y,bT_p FU r p k = some y/\az_p FU r p k = some y
theorem five_bad {r:Tc} {p:List Int} {k e:Int} (he:e ≠ 0) (h:am_p FU r k = some (.error ⟨e⟩)) (hr:aV_p FU r k = some e):Five r p k:=by
 have hc:ba_p FU r p k = some e:=by unfold ba_p; rw [hr,obind,if_neg he]
 have ht:ap_p FU r p k = some ([],e):=by unfold ap_p; rw [hc,obind,if_neg he]
 refine ⟨⟨([],e),?_,ht,Nat.zero_le _⟩,⟨(noS,e),?_,?_⟩,⟨e,?_,hc⟩,⟨([],e),?_,?_,Nat.zero_le _⟩,⟨(noS,e),?_,?_⟩⟩
 ·unfold bB_p bU_p; rw [h,obind,exE,obind,exE]
 ·unfold ck_p cu_p; rw [h,obind,exE,obind,exE]; rfl
 ·unfold bE_p; rw [hr,obind,if_neg he]; rfl
 ·unfold cy_p cw_p; rw [h,obind,exE,obind,exE]
 ·unfold cv_p bq_p; rw [h,obind,exE,obind,exE]
 ·unfold aP_p; rw [ht,obind,if_neg he]
 ·unfold bT_p bV_p; rw [h,obind,exE,obind,exE]; rfl
 ·unfold az_p; rw [ht,obind,if_neg he]; rfl
open Classical in
theorem five_ok {r:Tc} {p:List Int} (k:Int) (hr:Dn r) (hp:p.length <= 10):Five r p k:=by
 have hS:=hr.s
 have c1:=counted_eq hS k
 have c2:=countedR_eq hS k
 by_cases hv:RV r
 ·rw [if_pos hv] at c1 c2
  by_cases hk:1 <= k/\k <= 8
  ·rw [if_pos hk] at c1 c2
   obtain ⟨us,hL,_⟩:=lnd_of hv
   have h:=Lp.of hv hL
   have ha:=pe_all h
   obtain ⟨all,hall⟩:∃ all,all = pe us us.length:=⟨_,rfl⟩
   have t1:=totals_eq h p k hk.1 hk.2 (by omega)
   have t2:=refTotals_eq hS hv h p k hk.1 hk.2 (by omega)
   have p1:=people_eq h k
   have p2:=peopleR_eq hS hv h
   have b1:=balCheck_eq hS p k hk.1 hk.2 (by omega) us fun _=>hL
   have b2:=refCheck_eq hS p k hk.1 hk.2 us fun _=>hL
   rw [if_pos hv] at b1 b2
   rw [<- hall] at p1 p2 ha
   have qi:∃ y,ck_p FU r k = some y/\bE_p FU r k = some y:=by
    refine ⟨(Sg (Rat.divInt all k),0),?_,?_⟩
    ·unfold ck_p cu_p
     rw [c1,obind,exO,p1,obind,bof_sg (by unfold Sm; omega) (by unfold Sm; omega) (by omega),obind,exO,obind,exO]
    ·unfold bE_p
     rw [c2,obind,if_pos rfl,p2,obind,refOfG FU _ _ (by unfold Sm; omega) (by unfold Sm; omega) (by omega) FU_big,obind]
   by_cases hf:Fits p us.length k
   ·rw [if_pos hf] at t1 t2 b1 b2
    have hlen:=tt_len us p k us.length
    by_cases h0:all = 0
    ·have f7:ae_p FU (decide (all = 0)) 7 = some (.error ⟨7⟩):=by rw [decide_eq_true h0]; rfl
     refine ⟨⟨_,?_,t2,by simp only; omega⟩,qi,⟨_,b1,b2⟩,⟨([],7),?_,?_,Nat.zero_le _⟩,⟨(noS,7),?_,?_⟩⟩
     ·unfold bB_p bU_p; rw [c1,obind,exO,t1,obind,exO,obind,exO]
     ·unfold cv_p bq_p; rw [c1,obind,exO,t1,obind,exO,p1,obind,f7,obind,exE,obind,exE]
     ·unfold aP_p; rw [t2,obind,if_pos rfl,p2,obind,if_pos h0]
     ·unfold bT_p bV_p; rw [c1,obind,exO,t1,obind,exO,p1,obind,f7,obind,exE,obind,exE]; rfl
     ·unfold az_p; rw [t2,obind,if_pos rfl,p2,obind,if_pos h0]; rfl
    ·have f7:ae_p FU (decide (all = 0)) 7 = some (.ok ()):=by rw [decide_eq_false h0]; rfl
     have hN:Ns (tt us p k us.length) all k:=⟨hk.1,hk.2,by omega,by omega,by omega,fun x hx=>by rw [hall]; exact tt_bound h p k _ (Nat.le_refl _) x hx⟩
     obtain ⟨l,hl⟩:∃ l,l = tt us p k us.length:=⟨_,rfl⟩
     rw [<- hl] at t1 t2 hN hlen
     have hl0:0 < l.length:=by omega
     have hx0:=hN.b l[0] (List.getElem_mem hl0)
     have hfo:=fold_in l l[0] hx0 hN.b
     have hb:aO_p FU all k = some (.ok (Sg (Rat.divInt all k))):=bof_sg (by unfold Sm; omega) (by unfold Sm; omega) (by omega)
     refine ⟨⟨_,?_,t2,by simp only; omega⟩,qi,⟨_,b1,b2⟩,⟨(offs all k l,0),?_,?_,by simp only [offs,List.length_map]; omega⟩,⟨(Sg (Rat.divInt ((l.foldl max l[0] - l.foldl min l[0]) * k) all),0),?_,?_⟩⟩
     ·unfold bB_p bU_p; rw [c1,obind,exO,t1,obind,exO,obind,exO]
     ·unfold cv_p bq_p
      rw [c1,obind,exO,t1,obind,exO,p1,obind,f7,obind,exO,hb,obind,exO,off_eq hN]
      rfl
     ·unfold aP_p
      rw [t2,obind,if_pos rfl,p2,obind,if_neg h0,offR_eq hN]
      rfl
     ·have hm:=hN.mul (x:=l.foldl max l[0] - l.foldl min l[0]) (by omega)
      have f0:FQ (Rat.divInt all k):=fqd (by omega) (by omega) (by omega)
      have e2:=q_div1 (l.foldl max l[0] - l.foldl min l[0]) all k
      have f2:FQ (Rat.divInt (l.foldl max l[0] - l.foldl min l[0]) 1 / Rat.divInt all k):=by rw [e2]; exact fqd h0 (by omega) (by omega)
      unfold bT_p bV_p
      rw [c1,obind,exO,t1,obind,exO,p1,obind,f7,obind,exO,List.getElem?_eq_getElem hl0,obind,greatest_eq _ _ (by omega),obind,least_eq _ _ (by omega),obind,chkI (by omega) (by omega),obind,
       bof_sg (by unfold Sm; omega) (by unfold Sm; omega) (by decide),obind,exO,hb,obind,exO,div_q (fqd (by decide) (by omega) (by decide)) f0 (q_ne (by omega) h0) f2 FU_big,obind]
      unfold aa_p
      simp only [if_true,obind]
      rw [exO,obind,exO,e2]
     ·have hm:=hN.mul (x:=l.foldl max l[0] - l.foldl min l[0]) (by omega)
      unfold az_p
      rw [t2,obind,if_pos rfl,p2,obind,if_neg h0]
      simp only
      rw [List.getElem?_eq_getElem hl0,obind,spreadR_loop 0 hk.1 hk.2 (by omega) hl0,obind]
      simp only
      rw [chkI (by omega) (by omega),obind,chkI (by omega) (by omega),obind,refOfG FU _ _ (by unfold Sm; omega) (by unfold Sm; omega) h0 FU_big,obind]
   ·rw [if_neg hf] at t1 t2 b1 b2
    refine ⟨⟨([],220),?_,t2,Nat.zero_le _⟩,qi,⟨_,b1,b2⟩,⟨([],220),?_,?_,Nat.zero_le _⟩,⟨(noS,220),?_,?_⟩⟩
    ·unfold bB_p bU_p; rw [c1,obind,exO,t1,obind,exE,obind,exE]
    ·unfold cv_p bq_p; rw [c1,obind,exO,t1,obind,exE,obind,exE]
    ·unfold aP_p; rw [t2,obind,if_neg (by decide)]
    ·unfold bT_p bV_p; rw [c1,obind,exO,t1,obind,exE,obind,exE]; rfl
    ·unfold az_p; rw [t2,obind,if_neg (by decide)]; rfl
  ·rw [if_neg hk] at c1 c2
   exact five_bad (by decide) c1 c2
 ·rw [if_neg hv] at c1 c2
  exact five_bad (by decide) c1 c2
theorem eqII (a:List Int) (hl:a.length <= 1000):aJ_p FU a a = some true:=by
 have hF:=FU_lt
 unfold aJ_p
 rw [if_pos rfl]
 have hh:=loop_ok (B:=aJ_l1 FU a a) (fun i:Nat=>a.length - i) (fun _=>True) (fun y=>y = .inr ()) ?_ FU 0 trivial (by omega)
 ·obtain ⟨y,e,rfl⟩:=hh
  rw [e]; rfl
 ·intro i J _ hJ
  unfold aJ_l1
  simp only
  by_cases hi:i < a.length
  ·rw [if_pos hi,List.getElem?_eq_getElem hi,obind,obind,if_pos rfl]
   exact hJ _ trivial (by omega)
  ·rw [if_neg hi]; exact ⟨_,rfl,rfl⟩
theorem sameL (a:List Ta) (hl:a.length <= 1000):aN_p FU a a = some true:=by
 have hF:=FU_lt
 unfold aN_p
 rw [if_pos rfl]
 have hh:=loop_ok (B:=aN_l1 FU a a) (fun i:Nat=>a.length - i) (fun _=>True) (fun y=>y = .inr ()) ?_ FU 0 trivial (by omega)
 ·obtain ⟨y,e,rfl⟩:=hh
  rw [e]; rfl
 ·intro i J _ hJ
  unfold aN_l1
  simp only
  by_cases hi:i < a.length
  ·rw [if_pos hi,List.getElem?_eq_getElem hi,obind,obind,if_pos rfl]
   exact hJ _ trivial (by omega)
  ·rw [if_neg hi]; exact ⟨_,rfl,rfl⟩
theorem empty_dn:Dn ⟨0,0,0,[]⟩:=⟨by simp,fun u hu=>by cases hu⟩
theorem samples_ok (a0:Tj) (a1:Ti) (a2 a3:Tl) (a4:Int):∃ l,bZ_p FU a0 a1 a2 a3 a4 = some l/\l.length = 5/\∀ s ∈ l,Dn s.fr/\s.fp.length <= 10:=by
 have hF:=FU_lt
 obtain ⟨p,k,e0,p1,p2,hp,k1,k2⟩:=loose_ok FU a0 (by omega)
 obtain ⟨r,e1,hr,_⟩:=draft_ok a1 p.length (by omega)
 obtain ⟨r', e4,hr'⟩:=bend_ok a3 hr
 obtain ⟨p', e5,hp'⟩:=bendP a2 p1 p2
 unfold bZ_p
 rw [e0,obind]
 simp only
 rw [e1,obind,e5,obind,e4,obind]
 refine ⟨_,rfl,rfl,fun s hs=>?_⟩
 simp only [List.mem_cons,List.not_mem_nil,or_false] at hs
 rcases hs with rfl | rfl | rfl | rfl | rfl
 ·exact ⟨hr.dn,by simp only; omega⟩
 ·exact ⟨hr.dn,hp'⟩
 ·exact ⟨hr', by simp only; omega⟩
 ·exact ⟨hr.dn,by simp only; omega⟩
 ·exact ⟨empty_dn,by simp⟩
theorem works_ok:cr_p FU = some true:=by kernel_rfl
theorem balanceCounts_ok (a0:Tj) (a1:Ti) (a2 a3:Tl) (a4:Int):ax_p FU a0 a1 a2 a3 a4 = some true:=by
 have hF:=FU_lt
 obtain ⟨l,e,hl,hs⟩:=samples_ok a0 a1 a2 a3 a4
 unfold ax_p
 rw [works_ok,obind,if_pos rfl,e,obind]
 have hh:=loop_ok (B:=ax_l1 FU l) (fun i:Nat=>l.length - i) (fun _=>True) (fun z=>z = .inr ()) ?_ FU 0 trivial (by omega)
 ·obtain ⟨z,e,rfl⟩:=hh
  rw [e]; rfl
 ·intro i J _ hJ
  unfold ax_l1
  simp only
  by_cases hi:i < l.length
  ·obtain ⟨h1,h2⟩:=hs l[i] (List.getElem_mem hi)
   have h:=five_ok l[i].fk h1 h2
   obtain ⟨y1,b1,b2,b3⟩:=h.qt
   obtain ⟨y2,c1,c2⟩:=h.qi
   obtain ⟨y3,d1,d2⟩:=h.qc
   obtain ⟨y4,f1,f2,f3⟩:=h.qo
   obtain ⟨y5,g1,g2⟩:=h.qs
   rw [if_pos hi,List.getElem?_eq_getElem hi,obind,b1,obind,b2,obind,c1,obind,c2,obind]
   unfold jn
   simp only
   rw [d1,obind,d2,obind,if_pos rfl,eqII _ b3,obind,if_pos rfl,if_pos trivial,if_pos trivial,if_neg (by decide),f1,obind,f2,obind,g1,obind,g2,obind,sameL _ f3,obind,if_pos rfl,if_pos rfl,if_pos rfl,if_pos rfl]
   exact hJ _ trivial (by omega)
  ·rw [if_neg hi]; exact ⟨_,rfl,rfl⟩
theorem balanceCounts_ex (a0:Tj) (a1:Ti) (a2 a3:Tl) (a4:Int):∃ n,ax_p n a0 a1 a2 a3 a4 = some true:=⟨FU,balanceCounts_ok a0 a1 a2 a3 a4⟩
end Go.Proofs.YtgejkdheojkfiaaGreatDoor
