/- Plain laws: totals, the ideal, deviations and the spread, of the program and of the reference. No program in sight but the printed functions. -/
import Derived.Test.YtdolpanbfpjnmaaGreatDoorPSRg
namespace Go.Proofs.YtdolpanbfpjnmaaGreatDoor
open Go
set_option maxRecDepth 8000
theorem aY:(18446744073709551616:Nat) < FU:=by decide
theorem of_sg {a b:Int} (ha:Sm a) (hb:Sm b) (h0:b ≠ 0):dG_p FU a b = some (Sg (Rat.divInt a b),0):=by
 have hd:=lh (a:=a) h0
 rw [ki FU a b ha hb h0 aY,Sh_Sg (by unfold Sm at *; omega) (by unfold Sm at *; omega)]
theorem fqd {a b:Int} (h0:b ≠ 0) (ha:a.natAbs < 1152921504606846976) (hb:b.natAbs < 1152921504606846976):FQ (Rat.divInt a b):=
 (Bt.of (i:=60) (j:=60) h0 ha hb).fq (by decide) (by decide)
open Classical in
theorem kJ {r:Td} (hS:∀ u ∈ r.fu,Sm4 u) (k:Int):cC_p FU r k = some (if RV r then (if 1 <= k/\k <= 8 then .ok ⟨r,k⟩ else .error ⟨2⟩) else .error ⟨161⟩):=by
 unfold cC_p
 rw [iP r hS,aa]
 by_cases hv:RV r
 ·rw [if_pos hv,if_pos hv]
  unfold dh_p
  rw [if_pos rfl,aa]
  unfold exc
  simp only
  by_cases h1:k < 1
  ·rw [if_pos h1,kj,aa,if_neg (by omega)]
  ·rw [if_neg h1]
   by_cases h2:8 < k
   ·rw [decide_eq_true h2,kj,aa,if_neg (by omega)]
   ·rw [decide_eq_false h2,gZ, aa,if_pos (by omega)]
 ·rw [if_neg hv,if_neg hv]
  rfl
open Classical in
theorem kx {r:Td} (hS:∀ u ∈ r.fu,Sm4 u) (k:Int):bH_p FU r k = some (if RV r then (if 1 <= k/\k <= 8 then 0 else 2) else 161):=by
 unfold bH_p
 rw [cp r hS,aa]
 by_cases hv:RV r
 ·rw [if_pos hv,if_pos hv,if_pos rfl]
  by_cases h1:k < 1
  ·rw [if_pos h1,if_neg (by omega)]
  ·rw [if_neg h1]
   by_cases h2:8 < k
   ·rw [if_pos h2,if_neg (by omega)]
   ·rw [if_neg h2,if_pos (by omega)]
 ·rw [if_neg hv,if_neg hv,if_neg (by decide)]
def pe (us:List Tb):Nat -> Int
 | 0=>0
 | i + 1=>pe us i + (us[i]?.map (·.fA)).getD 0
theorem lP {us:List Tb} {i:Nat} (h:i < us.length):pe us (i + 1) = pe us i + us[i].fA:=by
 show pe us i + (us[i]?.map (·.fA)).getD 0 = _
 rw [geE h]; rfl
structure Lp (r:Td) (us:List Tb):Prop where
 l:Lnd r us
 n:r.fu.length <= 64
 p:∀ u ∈ us,0 <= u.fA/\u.fA <= 1000000000
theorem Lp.of {r:Td} {us:List Tb} (hv:RV r) (h:Lnd r us):Lp r us:=by
 refine ⟨h,hv.n.2,fun u hu=>?_⟩
 obtain ⟨ws,e,_⟩:=h.all
 obtain ⟨i,hi,rfl⟩:=List.getElem_of_mem hu
 have hi2:i < r.fu.length:=by rw [e,List.length_append]; omega
 have h1:=hv.u i hi2
 have e0:r.fu[i] = us[i]:=by simp only [e]; exact List.getElem_append_left hi
 rw [e0] at h1
 refine ⟨h1.1,Int.le_trans h1.2.1 ?_⟩
 split <;> omega
theorem Lp.m {r:Td} {us:List Tb} (h:Lp r us):us.length <= 64:=Nat.le_trans h.l.le h.n
theorem cw {r:Td} {us:List Tb} (h:Lp r us):∀ i:Nat,0 <= pe us i/\pe us i <= (i:Int) * 1000000000
 | 0=>⟨Int.le_refl _,by simp [pe]⟩
 | i + 1=>by
  have ih:=cw h i
  by_cases hi:i < us.length
  ·have h2:=h.p us[i] (List.getElem_mem hi)
   rw [lP hi]; omega
  ·show 0 <= pe us i + (us[i]?.map (·.fA)).getD 0/\pe us i + (us[i]?.map (·.fA)).getD 0 <= _
   rw [List.getElem?_eq_none (by omega)]
   simp only [Option.map_none,Option.getD_none]; omega
theorem pe_all {r:Td} {us:List Tb} (h:Lp r us):0 <= pe us us.length/\pe us us.length <= 64000000000:=by
 have h1:=cw h us.length; have h2:=h.m; omega
def tt (us:List Tb) (p:List Int) (k:Int):Nat -> List Int
 | 0=>List.replicate k.toNat 0
 | i + 1=>(tt us p k i).set (p[i]?.getD 0).toNat ((tt us p k i)[(p[i]?.getD 0).toNat]?.getD 0 + (us[i]?.map (·.fA)).getD 0)
theorem gx (us:List Tb) (p:List Int) (k:Int):∀ i,(tt us p k i).length = k.toNat
 | 0=>by simp [tt]
 | i + 1=>by show ((tt us p k i).set _ _).length = _; rw [List.length_set]; exact gx us p k i
theorem lz {us:List Tb} {p:List Int} {k:Int} {i:Nat} (h1:i < us.length) (h2:i < p.length) (h3:p[i].toNat < (tt us p k i).length):tt us p k (i + 1) = (tt us p k i).set p[i].toNat ((tt us p k i)[p[i].toNat] + us[i].fA):=by
 show (tt us p k i).set (p[i]?.getD 0).toNat ((tt us p k i)[(p[i]?.getD 0).toNat]?.getD 0 + (us[i]?.map (·.fA)).getD 0) = _
 rw [geE h1,geE h2]
 simp only [Option.getD_some,Option.map_some]
 rw [geE h3]; rfl
theorem cZ {r:Td} {us:List Tb} (h:Lp r us) (p:List Int) (k:Int):∀ i ≤ us.length,∀ x ∈ tt us p k i,0 <= x/\x <= pe us i
 | 0,_,x,hx=>by rw [List.eq_of_mem_replicate hx]; exact ⟨Int.le_refl _,Int.le_refl _⟩
 | i + 1,hi,x,hx=>by
  have ih:=cZ h p k i (by omega)
  have h2:=h.p us[i] (List.getElem_mem _)
  have h3:=cw h i
  rw [lP (by omega)]
  rcases List.mem_or_eq_of_mem_set hx with hx | hx
  ·have:=ih x hx; omega
  ·rw [hx,geE (show i < us.length by omega)]
   simp only [Option.map_some,Option.getD_some]
   by_cases h4:(p[i]?.getD 0).toNat < (tt us p k i).length
   ·rw [geE h4]
    have:=ih _ (List.getElem_mem h4)
    simp only [Option.getD_some]; omega
   ·rw [List.getElem?_eq_none (by omega)]
    simp only [Option.getD_none]; omega
open Classical in
theorem mG {r:Td} {us:List Tb} (h:Lp r us) (p:List Int) (k:Int) (hk:1 <= k) (hk8:k <= 8) (hl:p.length <= 1000):aW_p FU ⟨r,k⟩ p = some (if cS p us.length k then .ok (tt us p k us.length) else .error ⟨220⟩):=by
 have hF:=aZ
 have hn:=h.n
 have hle:=h.l.le
 unfold aW_p
 rw [nI h.l (by omega) p k hk hl,aa]
 by_cases hf:cS p us.length k
 ·rw [if_pos hf,if_pos hf]
  unfold exc
  simp only
  rw [show mk k (0:Int) = some (List.replicate k.toNat 0) from if_pos ⟨by omega,by omega⟩,aa]
  have hh:=ap (B:=aW_l1 FU ⟨r,k⟩ p) (fun s:Nat × List Int=>r.fu.length - s.1) (fun s=>s.1 <= us.length/\s.2 = tt us p k s.1) (fun y=>y = .inl (.ok (tt us p k us.length)) ∨ y = .inr (tt us p k us.length)) ?_ FU (0,List.replicate k.toNat 0) ⟨Nat.zero_le _,rfl⟩ (by simp only; omega)
  ·obtain ⟨y,e,hy⟩:=hh
   rw [e]
   rcases hy with rfl | rfl <;> rfl
  ·rintro ⟨i,xs⟩ J ⟨a1,a2⟩ hJ
   simp only at a1 a2 hJ
   subst a2
   unfold aW_l1
   simp only
   by_cases hi:i < r.fu.length
   ·rw [if_pos hi,geE hi,aa]
    rcases h.l.at hi with ⟨h2,e0,hw⟩ | ⟨h2,hw⟩
    ·have hip:i < p.length:=by have:=hf.1; omega
     have hx:=hf.2.1 p[i] (List.getElem_mem hip)
     have hlen:=gx us p k i
     have h3:p[i].toNat < (tt us p k i).length:=by omega
     have hb:=cZ h p k i (by omega) _ (List.getElem_mem h3)
     have h4:=cw h i
     have h5:=h.p us[i] (List.getElem_mem h2)
     rw [if_neg (by rw [hw]; decide),geE hip,aa,aN hx.1 h3,aa,e0,aD (by omega) (by omega),aa,aR _ h3,aa,<- lz h2 hip h3]
     exact hJ _ ⟨h2,rfl⟩ (by simp only; omega)
    ·rw [if_pos hw]
     exact ⟨_,rfl,.inl (by rw [show i = us.length by omega])⟩
   ·rw [if_neg hi]
    exact ⟨_,rfl,.inr (by rw [show i = us.length by omega])⟩
 ·rw [if_neg hf,if_neg hf]; rfl
open Classical in
theorem iU {r:Td} {us:List Tb} (hS:∀ u ∈ r.fu,Sm4 u) (hv:RV r) (h:Lp r us) (p:List Int) (k:Int) (hk:1 <= k) (hk8:k <= 8) (hl:p.length <= 1000):aT_p FU r p k = some (if cS p us.length k then (tt us p k us.length,0) else ([],220)):=by
 have hF:=aZ
 have hn:=h.n
 have hle:=h.l.le
 unfold aT_p
 rw [jR hS p k hk hk8 us (fun _=>h.l),if_pos hv,aa]
 by_cases hf:cS p us.length k
 ·rw [if_pos hf,if_pos hf,if_pos rfl,show mk k (0:Int) = some (List.replicate k.toNat 0) from if_pos ⟨by omega,by omega⟩,aa]
  have hpl:=hf.1
  have hh:=ap (B:=aT_l1 FU p r) (fun s:Nat × List Int=>p.length - s.1) (fun s=>s.1 <= p.length/\s.2 = tt us p k s.1) (fun y=>y = tt us p k us.length) ?_ FU (0,List.replicate k.toNat 0) ⟨Nat.zero_le _,rfl⟩ (by simp only; omega)
  ·obtain ⟨y,e,rfl⟩:=hh
   rw [e]; rfl
  ·rintro ⟨i,xs⟩ J ⟨a1,a2⟩ hJ
   simp only at a1 a2 hJ
   subst a2
   unfold aT_l1
   simp only
   by_cases hip:i < p.length
   ·have h2:i < us.length:=by omega
    have hi:i < r.fu.length:=by omega
    have hx:=hf.2.1 p[i] (List.getElem_mem hip)
    have hlen:=gx us p k i
    have h3:p[i].toNat < (tt us p k i).length:=by omega
    have hb:=cZ h p k i (by omega) _ (List.getElem_mem h3)
    have h4:=cw h i
    have h5:=h.p us[i] (List.getElem_mem h2)
    have e0:r.fu[i] = us[i]:=by
     rcases h.l.at hi with ⟨_,e0,_⟩ | ⟨h6,_⟩
     ·exact e0
     ·omega
    rw [if_pos hip,geE hip,aa,aN hx.1 h3,aa,geE hi,aa,e0,aD (by omega) (by omega),aa,aR _ h3,aa,<- lz h2 hip h3]
    exact hJ _ ⟨hip,rfl⟩ (by simp only; omega)
   ·rw [if_neg hip]
    exact ⟨_,rfl,by rw [show i = us.length by omega]⟩
 ·rw [if_neg hf,if_neg hf,if_neg (by decide)]
structure Ns (l:List Int) (all k:Int):Prop where
 k1:1 <= k
 k8:k <= 8
 a1:0 < all
 a2:all <= 64000000000
 n:(l.length:Int) = k
 b:∀ x ∈ l,0 <= x/\x <= all
end Go.Proofs.YtdolpanbfpjnmaaGreatDoor
namespace Go.Proofs.YtdolpanbfpjnmaaGreatDoor
open Go
set_option maxRecDepth 8000
theorem exE {ε α β:Type} (x:ε) (f:α -> Option β) (g:ε -> Option β):exc (.error x) f g = g x:=rfl
theorem exO {ε α β:Type} (x:α) (f:α -> Option β) (g:ε -> Option β):exc (.ok x) f g = f x:=rfl
theorem nk (t:T8):∃ z,Fw z/\t = Wg z:=by
 have h1:=oF t
 have h2:=cN
 by_cases h:val (wv t) < HB
 ·refine ⟨(val (wv t):Int),⟨by omega,by omega⟩,fY ?_⟩
  rw [Int.emod_eq_of_lt (by omega) (by omega)]
 ·refine ⟨(val (wv t):Int) - FB,⟨by omega,by omega⟩,fY ?_⟩
  rw [Int.sub_emod_right,Int.emod_eq_of_lt (by omega) (by omega)]
theorem gcd_fit {x y:Int} (hy:Fw y) (h0:0 < y):Fit 8 ((Nat.gcd x.natAbs y.natAbs:Nat):Int):=by
 refine Nat.lt_of_le_of_lt ?_ hy.fit
 rw [Int.natAbs_natCast]
 exact Nat.gcd_le_right _ (by omega)
theorem checkXY (x y:Int) (hx:Fw x) (hy:Fw y):cH_p FU ⟨Wg x,Wg y⟩ = some (if 0 < y/\Nat.gcd x.natAbs y.natAbs = 1 then 0 else 20):=by
 have hF:=aY
 have hr:aJ_p FU ⟨Wg x,Wg y⟩ = some ⟨L x,L y⟩:=by
  unfold aJ_p
  simp only
  rw [gk FU _ hx (by omega),aa,gk FU _ hy (by omega),aa]
 unfold cH_p
 rw [lZ FU 1 (by unfold Sm; decide) (by omega),aa,hr,aa]
 simp only
 rw [dJ,aa]
 by_cases h0:0 < y
 ·rw [Int.sign_eq_one_of_pos h0,if_neg (by decide),jh FU 8 _ _ hx.fit hy.fit (by decide) hF,aa]
  unfold cB_p
  rw [ez FU 8 _ _ (gcd_fit hy h0) (by unfold Fit; decide) (by omega) (by decide),aa,dJ,aa]
  by_cases hg:Nat.gcd x.natAbs y.natAbs = 1
  ·rw [aa,if_pos (show (((Nat.gcd x.natAbs y.natAbs:Nat):Int) - 1).sign = 0 from by rw [hg]; rfl),if_pos ⟨h0,hg⟩]
  ·have:(((Nat.gcd x.natAbs y.natAbs:Nat):Int) - 1).sign ≠ 0:=fun e=>by
    have:=Int.sign_eq_zero_iff_zero.1 e; omega
   rw [if_neg fun h=>hg h.2,aa,if_neg this]
 ·have hs:y.sign <= 0:=by
   rcases Int.lt_trichotomy y 0 with h | h | h
   ·rw [Int.sign_eq_neg_one_of_neg h]; decide
   ·rw [h]; decide
   ·omega
  rw [if_pos hs,if_neg fun h=>h0 h.1]
theorem ko (s:Ta):(∃ q,FQ q/\s = Sg q) ∨ (cH_p FU s = some 20/\ah_p FU s = some false):=by
 obtain ⟨a,b⟩:=s
 obtain ⟨x,hx,rfl⟩:=nk a
 obtain ⟨y,hy,rfl⟩:=nk b
 have c1:=checkXY x y hx hy
 have c2:=iH FU x y hx hy aY
 by_cases h:0 < y/\Nat.gcd x.natAbs y.natAbs = 1
 ·refine .inl ?_
  obtain ⟨m,rfl⟩:∃ m:Nat,y = (m:Int):=⟨y.toNat,by omega⟩
  have hn:(Rat.mk' x m (by omega) h.2).num = x:=rfl
  exact ⟨Rat.mk' x m (by omega) h.2,⟨hx,hy⟩,rfl⟩
 ·rw [if_neg h] at c1
  rw [decide_eq_false h] at c2
  exact .inr ⟨c1,c2⟩
theorem orderG (l:Nat) (hl:l < 1000) (a b:Int) (ha:FtR l a) (hb:FtR l b):cy_p FU (R8 a) (R8 b) = some (a - b).sign:=by
 have hF:=aY
 have hm:=ha.add hb.neg
 unfold cy_p cj_p
 rw [gU FU b (by have:=hb.len; omega) (by omega),aa,gR FU l a (-b) ha hb.neg (by omega) (by omega),aa,aa,<- Int.sub_eq_add_neg]
 by_cases h:a - b < 0
 ·rw [if_pos (show (R8 (a - b)).fe = true from decide_eq_true h),Int.sign_eq_neg_one_of_neg h]
 ·rw [if_neg (show ¬ (R8 (a - b)).fe = true from by simpa [R8] using h)]
  by_cases h0:a - b = 0
  ·rw [h0,if_neg (show ¬ 0 < (R8 0).fD.length from by show ¬ 0 < (rd 0).length; rw [rd0]; decide)]; rfl
  ·rw [if_pos (show 0 < (R8 (a - b)).fD.length from jp.2 (by omega)),Int.sign_eq_one_of_pos (by omega)]
theorem cmpR {a b:Rat} (ha:FQ a) (hb:FQ b):cQ_p FU (Sg a) (Sg b) = some ((a.num * b.den - b.num * a.den).sign,0):=by
 have hn:=aY
 unfold cQ_p cV_p
 rw [aT FU a ha hn,aa,if_pos rfl,aT FU b hb hn,aa,if_pos rfl,bE FU a ha (by omega),aa,bE FU b hb (by omega),aa]
 unfold RR
 simp only
 rw [bh FU 16 16 _ _ ha.1.r hb.2.r (by omega) (by decide),aa,bh FU 16 16 _ _ hb.1.r ha.2.r (by omega) (by decide),aa,orderG 32 (by decide) _ _ (ha.1.r.mul hb.2.r) (hb.1.r.mul ha.2.r),aa,aa]
theorem cmpG {a b:Rat} (ha:FQ a) (hb:FQ b):dQ_p FU (Sg a) (Sg b) = some ((a.num * b.den - b.num * a.den).sign,0):=by
 have hF:=aY
 unfold dQ_p
 rw [eK FU a b ha hb aY,aa,if_pos rfl,cr FU a ha (by omega),aa,cr FU b hb (by omega),aa]
 unfold cr_p Rt
 rw [bG FU 8 8 _ _ ha.n hb.d (by omega) (by omega),aa,bG FU 8 8 _ _ hb.n ha.d (by omega) (by omega),aa]
 unfold cB_p
 rw [ez FU 16 _ _ (ha.n.mul hb.d) (hb.n.mul ha.d) (by omega) (by omega),aa,dJ]
 rfl
theorem checkS {q:Rat} (h:FQ q):cH_p FU (Sg q) = some 0:=ng FU q h aY
theorem checkR' {q:Rat} (h:FQ q):bS_p FU (Sg q) = some 0:=by
 unfold bS_p
 rw [aT FU q h aY,aa,if_pos rfl]
theorem md {s:Ta} (h:ah_p FU s = some false):bS_p FU s = some 20:=by
 unfold bS_p
 rw [h,aa,if_neg (by decide)]
/-! ### Without a sign -/
def gd (a:Rat):Rat:=if -a <= a then a else -a
theorem nG (a:Rat):(gd a).num = (a.num.natAbs:Int)/\(gd a).den = a.den:=by
 unfold gd
 have hd:=a.den_pos
 by_cases h:-a <= a
 ·rw [if_pos h]
  refine ⟨?_,rfl⟩
  rw [Rat.le_iff,Rat.neg_num,Rat.neg_den] at h
  have:0 <= a.num:=by
   refine Classical.byContradiction fun hc=>?_
   have:=Int.mul_lt_mul_of_pos_right (show a.num < -a.num by omega) (show (0:Int) < a.den by omega)
   omega
  omega
 ·rw [if_neg h,Rat.neg_num,Rat.neg_den]
  refine ⟨?_,rfl⟩
  rw [Rat.le_iff,Rat.neg_num,Rat.neg_den] at h
  have:a.num < 0:=by
   refine Classical.byContradiction fun hc=>h ?_
   exact Int.mul_le_mul_of_nonneg_right (by omega) (by omega)
  omega
theorem qabs_fq {a:Rat} (h:FQ a) (h' : FQ (-a)):FQ (gd a):=by
 unfold gd; split
 ·exact h
 ·exact h'
theorem lH (a b:Rat):(a.num * b.den - b.num * a.den).sign <= 0 ↔ a <= b:=by
 rw [Rat.le_iff,Int.sign_nonpos_iff]
 omega
theorem absG {a:Rat} (ha:FQ a) (h' : FQ (-a)):dP_p FU (Sg a) = some (Sg (gd a),0):=by
 have hF:=aY
 have hr:=ha.rf
 unfold dP_p
 rw [eK FU a a ha ha aY,aa,if_pos rfl,cr FU a ha (by omega),aa,aa]
 unfold dI_p
 rw [dH FU 8 a hr (by decide) hF,aa]
 unfold cR_p
 rw [dH FU 8 a hr (by decide) hF,aa,dH FU 8 (-a) hr.neg (by decide) hF,aa,Rat.neg_neg]
 have hc:cr_p FU (Rt (-a)) (Rt a) = some (((-a).num * a.den - a.num * (-a).den).sign):=by
  unfold cr_p Rt
  rw [bG FU 8 8 _ _ h'.n ha.d (by omega) (by omega),aa,bG FU 8 8 _ _ ha.n h'.d (by omega) (by omega),aa]
  unfold cB_p
  rw [ez FU 16 _ _ (h'.n.mul ha.d) (ha.n.mul h'.d) (by omega) (by omega),aa,dJ]
  rfl
 unfold cY_p
 rw [hc,aa]
 unfold gd
 by_cases h:-a <= a
 ·rw [if_pos ((lH _ _).2 h),if_pos h,aa,dH FU 8 (-a) hr.neg (by decide) hF,aa,aa,aa,Rat.neg_neg,gB FU a (by omega),if_pos ha,aa]
 ·rw [if_neg fun h2=>h ((lH _ _).1 h2),if_neg h,aa,dH FU 8 a hr (by decide) hF,aa,aa,aa,gB FU (-a) (by omega),if_pos h', aa]
theorem absR {a:Rat} (ha:FQ a) (h' : FQ (-a)):cN_p FU (Sg a) = some (Sg (gd a),0):=by
 have hn:=aY
 have hq:=qabs_fq ha h'
 obtain ⟨n1,n2⟩:=nG a
 unfold cN_p
 rw [aT FU a ha hn,aa,if_pos rfl,bE FU a ha (by omega),aa]
 have e:(⟨⟨false,(RR a).fN.fD⟩,(RR a).fD⟩:Tf) = RR (gd a):=by
  unfold RR R8
  simp only
  rw [n1,n2]
  simp
 rw [e,cA FU 33 _ (hq.1.r.mono (by decide)) (hq.2.r.mono (by decide)) (by decide) (by omega),if_pos hq,aa]
open Classical in
theorem refSubG (a b:Rat) (ha:FQ a) (hb:FQ b):cM_p FU (Sg a) (Sg b) = some (if FQ (a - b) then (Sg (a - b),0) else (noS,6)):=by
 have hn:=aY
 have d0:(a.den:Int) * b.den ≠ 0:=Int.mul_ne_zero FQ.ndnz FQ.ndnz
 have e:a - b = Rat.divInt (a.num * b.den + -b.num * a.den) (a.den * b.den):=by
  conv=>lhs; rw [<- Rat.num_divInt_den a,<- Rat.num_divInt_den b,Rat.sub_eq_add_neg,Rat.neg_divInt]
  exact Rat.divInt_add_divInt _ _ FQ.ndnz FQ.ndnz
 have x1:=ha.1.r.mul hb.2.r
 have x2:=hb.1.r.neg.mul ha.2.r
 have x3:=ha.2.r.mul hb.2.r
 obtain ⟨f1,f2,f3⟩:=jt FU 33 _ _ d0 (x1.add x2) (x3.mono (by decide)) (by decide) hn
 rw [<- e] at f1 f2 f3
 unfold cM_p cU_p de_p
 rw [aT FU a ha hn,aa,if_pos rfl,aT FU b hb hn,aa,if_pos rfl,bE FU a ha (by omega),aa,bE FU b hb (by omega),aa]
 unfold RR at f1 ⊢
 simp only
 rw [gU FU _ (by have:=hb.1.r.len; omega) (by omega),aa,aa]
 unfold bP_p
 simp only
 rw [bh FU 16 16 _ _ ha.1.r hb.2.r (by omega) (by decide),aa,bh FU 16 16 _ _ hb.1.r.neg ha.2.r (by omega) (by decide),aa,gR FU 32 _ _ x1 x2 (by omega) (by decide),aa,bh FU 16 16 _ _ ha.2.r hb.2.r (by omega) (by decide),aa,f1,aa,aa]
 have:=cA FU 33 _ f2 f3 (by decide) (by omega)
 unfold RR at this
 rw [aa,this,aa]
theorem unit_ok (a:To):∃ s,bW_p FU a = some s:=by
 have h1:=a.fD.toNat_lt
 have h2:=Int16.le_toInt a.fN
 have h3:=Int16.toInt_lt a.fN
 have key:∀ z:Int,0 <= z -> z < 40000 -> ∃ s,((bQ z ((a.fD.toNat + 2:Nat):Int)).bind fun s32=>(cg_p FU s32 ((1 + a.fD.toNat:Nat):Int)).bind fun y34=>some y34) = some s:=fun z z0 z1=>by
  have e1:=Int.emod_lt_of_pos z (b:=((a.fD.toNat + 2:Nat):Int)) (by omega)
  have e2:=Int.emod_nonneg z (b:=((a.fD.toNat + 2:Nat):Int)) (by omega)
  rw [bF (by omega),aa,Int.tmod_eq_emod_of_nonneg z0,nB FU _ _ (by unfold Sm; omega) (by unfold Sm; omega) (by omega) aY,aa]
  exact ⟨_,rfl⟩
 unfold bW_p jn
 simp only
 by_cases h0:a.fN.toInt < 0
 ·rw [if_pos h0]; exact key _ (by omega) (by omega)
 ·rw [if_neg h0]; exact key _ (by omega) (by omega)
end Go.Proofs.YtdolpanbfpjnmaaGreatDoor
namespace Go.Proofs.YtdolpanbfpjnmaaGreatDoor
open Go
set_option maxRecDepth 8000
theorem mV {a b:Int} (ha:Sm a) (hb:Sm b) (h0:b ≠ 0):al_p FU a b = some (.ok (Sg (Rat.divInt a b))):=by
 unfold al_p
 rw [of_sg ha hb h0,aa]
 rfl
theorem mJ {a b:Int} (ha:Sm a) (hb:Sm b) (h0:b ≠ 0):aZ_p FU a b = some (Sg (Rat.divInt a b)):=by
 unfold aZ_p
 rw [nB FU _ _ ha hb h0 aY,aa]
def gp (g:Nat) (u:Tb):Int:=u.fj[g]?.getD 0
def gt (us:List Tb) (p:List Int) (k:Int) (g:Nat):Nat -> List Int
 | 0=>List.replicate k.toNat 0
 | i + 1=>(gt us p k g i).set (p[i]?.getD 0).toNat ((gt us p k g i)[(p[i]?.getD 0).toNat]?.getD 0 + (us[i]?.map (gp g)).getD 0)
theorem kR (us:List Tb) (p:List Int) (k:Int) (g:Nat):∀ i,(gt us p k g i).length = k.toNat
 | 0=>by simp [gt]
 | i + 1=>by show ((gt us p k g i).set _ _).length = _; rw [List.length_set]; exact kR us p k g i
theorem lw {us:List Tb} {p:List Int} {k:Int} {g i:Nat} (h1:i < us.length) (h2:i < p.length):gt us p k g (i + 1) = (gt us p k g i).set p[i].toNat ((gt us p k g i)[p[i].toNat]?.getD 0 + gp g us[i]):=by
 show (gt us p k g i).set (p[i]?.getD 0).toNat ((gt us p k g i)[(p[i]?.getD 0).toNat]?.getD 0 + (us[i]?.map (gp g)).getD 0) = _
 rw [geE h1,geE h2]
 simp only [Option.getD_some,Option.map_some]
theorem gh (l:List Int) (j d:Nat) (x:Int):(l.set j x)[d]?.getD 0 = if j = d/\d < l.length then x else l[d]?.getD 0:=by
 rw [List.getElem?_set]
 by_cases hj:j = d
 ·subst hj
  rw [if_pos rfl]
  by_cases hl:j < l.length
  ·rw [if_pos hl,if_pos ⟨rfl,hl⟩]; rfl
  ·rw [if_neg hl,if_neg (fun h=>hl h.2),List.getElem?_eq_none (by omega)]
 ·rw [if_neg hj,if_neg (fun h=>hj h.1)]
theorem gF {us:List Tb} {g:Nat} (hg:∀ u ∈ us,0 <= gp g u/\gp g u <= u.fA) (p:List Int) (k:Int):∀ i ≤ us.length,∀ d:Nat,0 <= (gt us p k g i)[d]?.getD 0/\(gt us p k g i)[d]?.getD 0 <= (tt us p k i)[d]?.getD 0
 | 0,_,d=>by
  have:((List.replicate k.toNat (0:Int))[d]?).getD 0 = 0:=by
   rw [List.getElem?_replicate]; split <;> rfl
  show 0 <= ((List.replicate k.toNat (0:Int))[d]?).getD 0/\((List.replicate k.toNat (0:Int))[d]?).getD 0 <= ((List.replicate k.toNat (0:Int))[d]?).getD 0
  rw [this]; omega
 | i + 1,hi,d=>by
  have ih:=gF hg p k i (by omega)
  have h2:=hg us[i] (List.getElem_mem _)
  show 0 <= ((gt us p k g i).set _ _)[d]?.getD 0/\((gt us p k g i).set _ _)[d]?.getD 0 <= ((tt us p k i).set _ _)[d]?.getD 0
  rw [gh,gh,kR,gx,geE (show i < us.length by omega)]
  simp only [Option.map_some,Option.getD_some]
  have h3:=ih (p[i]?.getD 0).toNat
  have h4:=ih d
  split <;> omega
theorem ji {r:Td} {us:List Tb} (hv:RV r) (h:Lnd r us) {i:Nat} (hi:i < us.length):∃ h2:i < r.fu.length,r.fu[i] = us[i]/\UV r us[i]:=by
 obtain ⟨ws,e,_⟩:=h.all
 have hi2:i < r.fu.length:=by rw [e,List.length_append]; omega
 have h1:=hv.u i hi2
 have e0:r.fu[i] = us[i]:=by simp only [e]; exact List.getElem_append_left hi
 rw [e0] at h1
 exact ⟨hi2,e0,h1⟩
theorem gS {r:Td} {us:List Tb} (hv:RV r) (h:Lnd r us) {g:Nat} (hg:(g:Int) < r.fj) {i:Nat} (hi:i < us.length):∃ h2:g < us[i].fj.length,us[i].fj[g] = gp g us[i]/\0 <= gp g us[i]/\gp g us[i] <= us[i].fA:=by
 obtain ⟨_,_,h1⟩:=ji hv h hi
 obtain ⟨w1,w2⟩:=h1.2.2.1
 have h2:g < us[i].fj.length:=by omega
 have e:us[i].fj[g] = gp g us[i]:=by unfold gp; rw [geE h2]; rfl
 exact ⟨h2,e,e ▸ w2 _ (List.getElem_mem h2)⟩
theorem mU {r:Td} {us:List Tb} (hv:RV r) (h:Lnd r us) {g:Nat} (hg:(g:Int) < r.fj):∀ u ∈ us,0 <= gp g u/\gp g u <= u.fA:=fun u hu=>by
 obtain ⟨i,hi,rfl⟩:=List.getElem_of_mem hu
 exact (gS hv h hg hi).2.2
def Side (n:Nat) (xs:List Tj) (G T:List Int):Prop:=xs.length = n/\∀ d:Nat,d < n -> xs[d]? = some ⟨G[d]?.getD 0,T[d]?.getD 0⟩
theorem Side.set {n:Nat} {xs:List Tj} {G T G' T' : List Int} (h:Side n xs G T) (j:Nat) (hj:j < n) (x:Tj) (hx:x = ⟨G'[j]?.getD 0,T'[j]?.getD 0⟩) (ho:∀ d:Nat,d ≠ j -> d < n -> G'[d]?.getD 0 = G[d]?.getD 0/\T'[d]?.getD 0 = T[d]?.getD 0):Side n (xs.set j x) G' T' :=by
 refine ⟨by rw [List.length_set]; exact h.1,fun d hd=>?_⟩
 rw [List.getElem?_set]
 by_cases hjd:j = d
 ·subst hjd; rw [if_pos rfl,if_pos (by rw [h.1]; exact hd),hx]
 ·rw [if_neg hjd,h.2 d hd,(ho d (fun e=>hjd e.symm) hd).1,(ho d (fun e=>hjd e.symm) hd).2]
def dO (G T:List Int):List Tj:=List.zipWith Tj.mk G T
theorem Side.eq {n:Nat} {xs:List Tj} {G T:List Int} (h:Side n xs G T) (hG:G.length = n) (hT:T.length = n):xs = dO G T:=by
 apply List.ext_getElem?
 intro d
 unfold dO
 rw [List.getElem?_zipWith]
 by_cases hd:d < n
 ·rw [h.2 d hd,geE (show d < G.length by omega),geE (show d < T.length by omega)]; rfl
 ·rw [List.getElem?_eq_none (by rw [h.1]; omega),List.getElem?_eq_none (show G.length <= d by omega)]
structure Nums (gs ts:List Int) (k:Int):Prop where
 k1:1 <= k
 k8:k <= 8
 g:(gs.length:Int) = k
 t:(ts.length:Int) = k
 b:∀ (d:Nat) (h1:d < gs.length) (h2:d < ts.length),0 <= gs[d]/\gs[d] <= ts[d]/\ts[d] <= 64000000000
def Grp (r:Td) (p:List Int) (k g:Int):Prop:=
 (∃ gs ts,ap_p FU r p k g = some (.ok (dO gs ts))/\aw_p FU r p k g = some (gs,ts,0)/\Nums gs ts k) ∨
 (∃ e,e ≠ 0/\ap_p FU r p k g = some (.error ⟨e⟩)/\aw_p FU r p k g = some ([],[],e))
theorem lM {r:Td} {p:List Int} {k g e:Int} (he:e ≠ 0) (h:cA_p FU r p k = some ([],e)) (hr:aT_p FU r p k = some ([],e)):Grp r p k g:=by
 refine .inr ⟨e,he,?_,?_⟩
 ·unfold ap_p bt_p
  rw [h,aa,if_neg he,aa,exE]
 ·unfold aw_p
  rw [hr,aa,if_neg he]
open Classical in
theorem grp_ok {r:Td} {p:List Int} (k g:Int) (hr:Dn r) (hp:p.length <= 10):Grp r p k g:=by
 have hF:=aZ
 have hS:=hr.s
 have c1:=kJ hS k
 have c2:=kx hS k
 have bad:∀ e:Int,e ≠ 0 -> cC_p FU r k = some (.error ⟨e⟩) -> bH_p FU r k = some e -> Grp r p k g:=fun e he h1 h2=>by
  refine lM (e:=e) he ?_ ?_
  ·unfold cA_p ct_p; rw [h1,aa,exE,aa,exE]
  ·unfold aT_p ci_p; rw [h2,aa,if_neg he,aa,if_neg he]
 by_cases hv:RV r
 ·rw [if_pos hv] at c1 c2
  by_cases hk:1 <= k/\k <= 8
  ·rw [if_pos hk] at c1 c2
   obtain ⟨us,hL,_⟩:=lnd_of hv
   have h:=Lp.of hv hL
   have hm:=h.m
   have t1:=mG h p k hk.1 hk.2 (by omega)
   have t2:=iU hS hv h p k hk.1 hk.2 (by omega)
   by_cases hf:cS p us.length k
   ·rw [if_pos hf] at t1 t2
    have t3:cA_p FU r p k = some (tt us p k us.length,0):=by
     unfold cA_p ct_p; rw [c1,aa,exO,t1,aa,exO,aa,exO]
    have tl:=gx us p k us.length
    by_cases hg0:g < 0
    ·refine .inr ⟨2,by decide,?_,?_⟩
     ·unfold ap_p bt_p
      rw [t3,aa,if_pos rfl,aa,exO,if_pos hg0]
     ·unfold aw_p
      rw [t2,aa,if_pos rfl,if_pos hg0]
    ·by_cases hg1:r.fj <= g
     ·refine .inr ⟨2,by decide,?_,?_⟩
      ·unfold ap_p bt_p
       rw [t3,aa,if_pos rfl,aa,exO,if_neg hg0,if_pos hg1]
      ·unfold aw_p
       rw [t2,aa,if_pos rfl,if_neg hg0,if_pos hg1]
     ·obtain ⟨j,rfl⟩:∃ j:Nat,g = (j:Int):=⟨g.toNat,by omega⟩
      have hgi:=mU hv hL (show (j:Int) < r.fj by omega)
      have hpl:=hf.1
      have gl:=kR us p k j
      have hb:∀ i ≤ us.length,∀ d:Nat,0 <= (gt us p k j i)[d]?.getD 0/\(gt us p k j i)[d]?.getD 0 <= 64000000000:=fun i hi d=>by
       have h1:=gF hgi p k i hi d
       refine ⟨h1.1,Int.le_trans h1.2 ?_⟩
       by_cases hd:d < (tt us p k i).length
       ·rw [geE hd]
        have h2:=(cZ h p k i hi _ (List.getElem_mem hd)).2
        have h3:=cw h i
        simp only [Option.getD_some]
        omega
       ·rw [List.getElem?_eq_none (by omega)]; decide
      refine .inl ⟨gt us p k j us.length,tt us p k us.length,?_,?_,⟨hk.1,hk.2,by rw [gl]; omega,by rw [tl]; omega,fun d h1 h2=>?_⟩⟩
      ·unfold ap_p bt_p
       rw [t3,aa,if_pos rfl,aa,exO,if_neg hg0,if_neg hg1,show mk k (⟨0,0⟩:Tj) = some (List.replicate k.toNat ⟨0,0⟩) from if_pos ⟨by omega,by omega⟩,aa]
       have hh:=ap (B:=ap_l2 FU (tt us p k us.length)) (fun s:Nat × List Tj=>(tt us p k us.length).length - s.1) (fun s=>s.1 <= k.toNat/\Side k.toNat s.2 [] ((tt us p k us.length).take s.1)) (fun y=>Side k.toNat y [] (tt us p k us.length)) ?_ FU (0,List.replicate k.toNat ⟨0,0⟩) ⟨Nat.zero_le _,by simp,fun d hd=>by rw [List.getElem?_replicate,if_pos hd]; simp⟩ (by simp only; omega)
       ·obtain ⟨xs,e,hx⟩:=hh
        rw [e,aa]
        have hh:=ap (B:=ap_l1 FU p r (j:Int)) (fun s:Nat × List Tj=>p.length - s.1) (fun s=>s.1 <= p.length/\Side k.toNat s.2 (gt us p k j s.1) (tt us p k us.length)) (fun y=>Side k.toNat y (gt us p k j us.length) (tt us p k us.length)) ?_ FU (0,xs) ⟨Nat.zero_le _,hx.1,fun d hd=>by
         rw [hx.2 d hd]
         show _ = some (⟨((List.replicate k.toNat (0:Int))[d]?).getD 0,_⟩:Tj)
         rw [List.getElem?_replicate,if_pos hd]; simp⟩ (by simp only; omega)
        ·obtain ⟨ys,e,hy⟩:=hh
         rw [e,aa,hy.eq (gl _) tl]
        ·rintro ⟨i,ys⟩ J ⟨a1,a2⟩ hJ
         simp only at a1 a2 hJ
         unfold ap_l1
         simp only
         by_cases hip:i < p.length
         ·have h2:i < us.length:=by omega
          have hx:=hf.2.1 p[i] (List.getElem_mem hip)
          have h3:p[i].toNat < k.toNat:=by omega
          obtain ⟨u1,u2,_⟩:=ji hv hL h2
          obtain ⟨g1,g2,g3,g4⟩:=gS hv hL (show (j:Int) < r.fj by omega) h2
          have hpp:=(h.p _ (List.getElem_mem h2)).2
          have hbb:=hb i (by omega) p[i].toNat
          have hyl:=a2.1
          have hys:ys[p[i].toNat]? = some (⟨(gt us p k j i)[p[i].toNat]?.getD 0,(tt us p k us.length)[p[i].toNat]?.getD 0⟩:Tj):=a2.2 _ h3
          have hidx:idx ys p[i] = ys[p[i].toNat]?:=by unfold idx; rw [if_pos hx.1]
          rw [if_pos hip,geE hip,aa,hidx,hys,aa,geE u1,aa,u2,im g1,aa,g2]
          simp only
          rw [aD (by omega) (by omega),aa,aR _ (by omega),aa]
          refine hJ _ ⟨hip,?_⟩ (by simp only; omega)
          simp only
          rw [lw h2 hip]
          refine a2.set _ h3 _ ?_ fun d hd hdk=>⟨?_,rfl⟩
          ·rw [gh,if_pos ⟨rfl,by rw [gl]; exact h3⟩]
          ·rw [gh,if_neg fun hc=>hd hc.1.symm]
         ·rw [if_neg hip]
          refine ⟨ys,rfl,?_⟩
          rw [show us.length = i by omega]
          rw [show us.length = i by omega] at a2
          exact a2
       ·rintro ⟨i,xs⟩ J ⟨a1,a2⟩ hJ
        simp only at a1 a2 hJ
        unfold ap_l2
        simp only
        by_cases hi:i < (tt us p k us.length).length
        ·have hxi:=a2.2 i (by omega)
         have hxl:=a2.1
         rw [if_pos hi,geE hi,aa,hxi,aa,aR _ (by omega),aa]
         refine hJ _ ⟨by simp only; omega,?_⟩ (by simp only; omega)
         simp only
         refine a2.set i (by omega) _ ?_ fun d hd hdk=>⟨rfl,?_⟩
         ·rw [List.getElem?_take_of_lt (by omega),geE hi]; rfl
         ·rcases Nat.lt_or_ge d i with hlt | hge
          ·rw [List.getElem?_take_of_lt (by omega),List.getElem?_take_of_lt hlt]
          ·rw [List.getElem?_eq_none (by rw [List.length_take]; omega),List.getElem?_eq_none (by rw [List.length_take]; omega)]
        ·rw [if_neg hi]
         rw [List.take_of_length_le (by omega)] at a2
         exact ⟨xs,rfl,a2⟩
      ·unfold aw_p
       rw [t2,aa,if_pos rfl,if_neg hg0,if_neg hg1,show mk k (0:Int) = some (List.replicate k.toNat 0) from if_pos ⟨by omega,by omega⟩,aa]
       have hh:=ap (B:=aw_l1 FU p r (j:Int)) (fun s:Nat × List Int=>p.length - s.1) (fun s=>s.1 <= p.length/\s.2 = gt us p k j s.1) (fun y=>y = gt us p k j us.length) ?_ FU (0,List.replicate k.toNat 0) ⟨Nat.zero_le _,rfl⟩ (by simp only; omega)
       ·obtain ⟨y,e,rfl⟩:=hh
        rw [e]; rfl
       ·rintro ⟨i,ys⟩ J ⟨a1,a2⟩ hJ
        simp only at a1 a2 hJ
        subst a2
        unfold aw_l1
        simp only
        by_cases hip:i < p.length
        ·have h2:i < us.length:=by omega
         have hx:=hf.2.1 p[i] (List.getElem_mem hip)
         have h3:p[i].toNat < (gt us p k j i).length:=by rw [gl]; omega
         obtain ⟨u1,u2,_⟩:=ji hv hL h2
         obtain ⟨g1,g2,g3,g4⟩:=gS hv hL (show (j:Int) < r.fj by omega) h2
         have hpp:=(h.p _ (List.getElem_mem h2)).2
         have hbb:=hb i (by omega) p[i].toNat
         rw [geE h3] at hbb
         simp only [Option.getD_some] at hbb
         rw [if_pos hip,geE hip,aa,aN hx.1 h3,aa,geE u1,aa,u2,im g1,aa,g2,aD (by omega) (by omega),aa,aR _ h3,aa]
         refine hJ _ ⟨hip,?_⟩ (by simp only; omega)
         simp only
         rw [lw h2 hip,geE h3]
         rfl
        ·rw [if_neg hip]
         exact ⟨_,rfl,by rw [show i = us.length by omega]⟩
      ·have h1' :=gF hgi p k us.length (Nat.le_refl _) d
       rw [geE h1,geE h2] at h1'
       simp only [Option.getD_some] at h1'
       have h2' :=(cZ h p k us.length (Nat.le_refl _) _ (List.getElem_mem h2)).2
       have h3:=pe_all h
       omega
   ·rw [if_neg hf] at t1 t2
    refine lM (e:=220) (by decide) ?_ t2
    unfold cA_p ct_p; rw [c1,aa,exO,t1,aa,exE,aa,exE]
  ·rw [if_neg hk] at c1 c2
   exact bad 2 (by decide) c1 c2
 ·rw [if_neg hv] at c1 c2
  exact bad 161 (by decide) c1 c2
end Go.Proofs.YtdolpanbfpjnmaaGreatDoor
namespace Go.Proofs.YtdolpanbfpjnmaaGreatDoor
open Go
set_option maxRecDepth 8000
def shv (a b:Int):Rat:=if b = 0 then Rat.divInt 0 1 else Rat.divInt a b
def shs (gs ts:List Int):List Ta:=List.zipWith (fun a b=>Sg (shv a b)) gs ts
theorem np {a b:Int} (h:0 <= a/\a <= b/\b <= 64000000000):FQ (shv a b):=by
 unfold shv
 split
 ·exact fqd (by decide) (by decide) (by decide)
 ·exact fqd (by omega) (by omega) (by omega)
theorem gD {a b:Int} (h:0 <= a/\a <= b/\b <= 64000000000):bA_p FU ⟨a,b⟩ = some (.ok (Sg (shv a b))):=by
 unfold bA_p shv
 simp only
 by_cases hb:b = 0
 ·rw [if_pos hb,if_pos hb,mV (by unfold Sm; decide) (by unfold Sm; decide) (by decide),aa,exO]
 ·rw [if_neg hb,if_neg hb,mV (by unfold Sm; omega) (by unfold Sm; omega) hb,aa,exO]
theorem eO {gs ts:List Int} {k:Int} (h:Nums gs ts k):(dO gs ts).length = gs.length:=by
 have h1:=h.g; have h2:=h.t
 unfold dO
 rw [List.length_zipWith]; omega
theorem co {gs ts:List Int} {k:Int} (h:Nums gs ts k) {i:Nat} (hi:i < gs.length):∃ h2:i < ts.length,(dO gs ts)[i]? = some ⟨gs[i],ts[i]⟩/\0 <= gs[i]/\gs[i] <= ts[i]/\ts[i] <= 64000000000:=by
 have h1:=h.g; have h2:=h.t
 have h3:i < ts.length:=by omega
 refine ⟨h3,?_,h.b i hi h3⟩
 unfold dO
 rw [List.getElem?_zipWith,geE hi,geE h3]
theorem gu {gs ts:List Int} {k:Int} (h:Nums gs ts k):(shs gs ts).length = gs.length:=by
 have h1:=h.g; have h2:=h.t
 unfold shs
 rw [List.length_zipWith]; omega
theorem kG {gs ts:List Int} {k:Int} (h:Nums gs ts k) {i:Nat} (hi:i < gs.length) (h2:i < ts.length):(shs gs ts)[i]? = some (Sg (shv gs[i] ts[i])):=by
 unfold shs
 rw [List.getElem?_zipWith,geE hi,geE h2]
theorem jO {α:Type} {l:List α} {i:Nat} {x:α} (h:l[i]? = some x):l.take (i + 1) = l.take i ++ [x]:=by
 obtain ⟨hi,rfl⟩:=List.getElem?_eq_some_iff.1 h
 exact List.take_succ_eq_append_getElem hi
theorem sharesP {gs ts:List Int} {k:Int} (h:Nums gs ts k):am (bj_l1 FU (dO gs ts)) FU (0,[]) = some (.inr (shs gs ts)):=by
 have hF:=aZ
 have h8:=h.k8; have hg:=h.g
 have hl:=eO h
 have hs:=gu h
 have hh:=ap (B:=bj_l1 FU (dO gs ts)) (fun s:Nat × List Ta=>gs.length - s.1) (fun s=>s.1 <= gs.length/\s.2 = (shs gs ts).take s.1) (fun y=>y = .inr (shs gs ts)) ?_ FU (0,[]) ⟨Nat.zero_le _,by simp⟩ (by simp only; omega)
 ·obtain ⟨y,e,rfl⟩:=hh; exact e
 ·rintro ⟨i,xs⟩ J ⟨a1,a2⟩ hJ
  simp only at a1 a2 hJ
  subst a2
  unfold bj_l1
  simp only
  by_cases hi:i < gs.length
  ·obtain ⟨h2,e1,b1⟩:=co h hi
   rw [if_pos (by omega),e1,aa,gD b1,aa,exO,bD _ _ (by simp only [List.length_take,leC,leN]; omega),aa,<- jO (kG h hi h2)]
   exact hJ _ ⟨hi,rfl⟩ (by simp only; omega)
  ·rw [if_neg (by omega),List.take_of_length_le (by omega)]
   exact ⟨_,rfl,rfl⟩
theorem lu {gs ts:List Int} {k:Int} (h:Nums gs ts k):am (aA_l1 FU k (gs,ts,0)) FU (0,[]) = some (shs gs ts):=by
 have hF:=aZ
 have h8:=h.k8; have hg:=h.g
 have hs:=gu h
 have hh:=ap (B:=aA_l1 FU k (gs,ts,0)) (fun s:Int × List Ta=>gs.length - s.1.toNat) (fun s=>∃ i:Nat,s.1 = (i:Int)/\i <= gs.length/\s.2 = (shs gs ts).take i) (fun y=>y = shs gs ts) ?_ FU (0,[]) ⟨0,rfl,Nat.zero_le _,by simp⟩ (by simp only; omega)
 ·obtain ⟨y,e,rfl⟩:=hh; exact e
 ·rintro ⟨z,xs⟩ J ⟨i,a0,a1,a2⟩ hJ
  simp only at a0 a1 a2 hJ
  subst a0 a2
  unfold aA_l1 jn
  simp only
  by_cases hi:i < gs.length
  ·obtain ⟨h2,_,b1⟩:=co h hi
   have hnx:((i:Int) + 1) = ((i + 1:Nat):Int):=by omega
   have fin:∀ s:Ta,s = Sg (shv gs[i] ts[i]) -> ∃ r,((app ((shs gs ts).take i) ([s]:List Ta)).bind fun xs320=>(chk ((i:Int) + 1)).bind fun s330=>J (s330,xs320)) = some r/\r = shs gs ts:=fun s e=>by
    rw [e,bD _ _ (by simp only [List.length_take,leC,leN]; omega),aa,<- jO (kG h hi h2),aD (by omega) (by omega),aa]
    exact hJ _ ⟨i + 1,hnx,hi,rfl⟩ (by simp only; omega)
   rw [if_pos (by omega),mJ (by unfold Sm; decide) (by unfold Sm; decide) (by decide),aa,im h2,aa]
   by_cases hb:0 < ts[i]
   ·rw [if_pos hb,im hi,aa,mJ (by unfold Sm; omega) (by unfold Sm; omega) (by omega),aa]
    exact fin _ (by unfold shv; rw [if_neg (by omega)])
   ·rw [if_neg hb]
    exact fin _ (by unfold shv; rw [if_pos (by omega)])
  ·rw [if_neg (by omega),List.take_of_length_le (by omega)]
   exact ⟨_,rfl,rfl⟩
theorem jX {r:Td} {p:List Int} {k g:Int} (h:Grp r p k g):∃ y,bT_p FU r p k g = some y/\aA_p FU r p k g = some y/\y.1.length <= 1000:=by
 rcases h with ⟨gs,ts,e1,e2,h⟩ | ⟨e,he,e1,e2⟩
 ·have h8:=h.k8; have hg:=h.g
  have hs:=gu h
  refine ⟨(shs gs ts,0),?_,?_,by simp only; omega⟩
  ·unfold bT_p bj_p
   rw [e1,aa,exO,sharesP h]
   unfold thn
   simp only
   rw [aa,exO]
  ·unfold aA_p
   rw [e2,aa,if_pos rfl,lu h,aa]
 ·refine ⟨([],e),?_,?_,Nat.zero_le _⟩
  ·unfold bT_p bj_p
   rw [e1,aa,exE,aa,exE]
  ·unfold aA_p
   rw [e2,aa,if_neg he]
def sgn (gs ts:List Int) (q:Rat) (d:Nat):Int:=((shv (gs[d]?.getD 0) (ts[d]?.getD 0)).num * q.den - q.num * (shv (gs[d]?.getD 0) (ts[d]?.getD 0)).den).sign
def maj (gs ts:List Int) (q:Rat) (n:Nat):List Int:=((List.range n).filter fun d=>decide (0 < sgn gs ts q d)).map fun d:Nat=>(d:Int)
theorem iR (gs ts:List Int) (q:Rat) (n:Nat):(maj gs ts q n).length <= n:=by
 unfold maj
 rw [List.length_map]
 exact Nat.le_trans (List.length_filter_le _ _) (by simp)
theorem lv {gs ts:List Int} {q:Rat} {n:Nat} (h:0 < sgn gs ts q n):maj gs ts q (n + 1) = maj gs ts q n ++ [(n:Int)]:=by
 unfold maj
 rw [List.range_succ,List.filter_append,List.filter_cons_of_pos (by simpa using h)]
 simp
theorem mX {gs ts:List Int} {q:Rat} {n:Nat} (h:¬ 0 < sgn gs ts q n):maj gs ts q (n + 1) = maj gs ts q n:=by
 unfold maj
 rw [List.range_succ,List.filter_append,List.filter_cons_of_neg (by simpa using h)]
 simp
theorem majP {gs ts:List Int} {k:Int} (h:Nums gs ts k) {q:Rat} (hq:FQ q):am (aR_l1 FU (dO gs ts) (Sg q)) FU (0,[]) = some (.inr (maj gs ts q gs.length)):=by
 have hF:=aZ
 have h8:=h.k8; have hg:=h.g
 have hl:=eO h
 have hh:=ap (B:=aR_l1 FU (dO gs ts) (Sg q)) (fun s:Nat × List Int=>gs.length - s.1) (fun s=>s.1 <= gs.length/\s.2 = maj gs ts q s.1) (fun y=>y = .inr (maj gs ts q gs.length)) ?_ FU (0,[]) ⟨Nat.zero_le _,rfl⟩ (by simp only; omega)
 ·obtain ⟨y,e,rfl⟩:=hh; exact e
 ·rintro ⟨i,xs⟩ J ⟨a1,a2⟩ hJ
  simp only at a1 a2 hJ
  subst a2
  have hml:=iR gs ts q i
  unfold aR_l1 ck_p cK_p
  simp only
  by_cases hi:i < gs.length
  ·obtain ⟨h2,e1,b1⟩:=co h hi
   have hs:sgn gs ts q i = ((shv gs[i] ts[i]).num * q.den - q.num * (shv gs[i] ts[i]).den).sign:=by
    unfold sgn; rw [geE hi,geE h2]; rfl
   rw [if_pos (by omega),e1,aa,gD b1,aa,exO,cmpG (np b1) hq,aa,if_pos rfl,aa,exO,aa,exO,<- hs]
   by_cases hc:0 < sgn gs ts q i
   ·rw [if_pos (decide_eq_true hc),bD _ _ (by simp only [leC,leN]; omega),aa,<- lv hc]
    exact hJ _ ⟨hi,rfl⟩ (by simp only; omega)
   ·rw [if_neg (by simpa using hc),<- mX hc]
    exact hJ _ ⟨hi,rfl⟩ (by simp only; omega)
  ·rw [if_neg (by omega)]
   exact ⟨_,rfl,by rw [show i = gs.length by omega]⟩
theorem majR {gs ts:List Int} {k:Int} (h:Nums gs ts k) {q:Rat} (hq:FQ q):am (aH_l1 FU k (shs gs ts,0) (Sg q)) FU (0,[]) = some (maj gs ts q gs.length):=by
 have hF:=aZ
 have h8:=h.k8; have hg:=h.g
 have hsl:=gu h
 have hh:=ap (B:=aH_l1 FU k (shs gs ts,0) (Sg q)) (fun s:Int × List Int=>gs.length - s.1.toNat) (fun s=>∃ i:Nat,s.1 = (i:Int)/\i <= gs.length/\s.2 = maj gs ts q i) (fun y=>y = maj gs ts q gs.length) ?_ FU (0,[]) ⟨0,rfl,Nat.zero_le _,rfl⟩ (by simp only; omega)
 ·obtain ⟨y,e,rfl⟩:=hh; exact e
 ·rintro ⟨z,xs⟩ J ⟨i,a0,a1,a2⟩ hJ
  simp only at a0 a1 a2 hJ
  subst a0 a2
  have hml:=iR gs ts q i
  unfold aH_l1
  simp only
  by_cases hi:i < gs.length
  ·obtain ⟨h2,_,b1⟩:=co h hi
   have hs:sgn gs ts q i = ((shv gs[i] ts[i]).num * q.den - q.num * (shv gs[i] ts[i]).den).sign:=by
    unfold sgn; rw [geE hi,geE h2]; rfl
   have hnx:((i:Int) + 1) = ((i + 1:Nat):Int):=by omega
   rw [if_pos (by omega),idx_nat,kG h hi h2,aa,cmpR (np b1) hq,aa,<- hs,aD (by omega) (by omega)]
   by_cases hc:0 < sgn gs ts q i
   ·rw [if_pos hc,bD _ _ (by simp only [leC,leN]; omega),aa,aa,<- lv hc]
    exact hJ _ ⟨i + 1,hnx,hi,rfl⟩ (by simp only; omega)
   ·rw [if_neg hc,aa,<- mX hc]
    exact hJ _ ⟨i + 1,hnx,hi,rfl⟩ (by simp only; omega)
  ·rw [if_neg (by omega)]
   exact ⟨_,rfl,by rw [show i = gs.length by omega]⟩
theorem kA {r:Td} {p:List Int} {k g:Int} (h:Grp r p k g) (s:Ta):∃ y,bN_p FU r p k g s = some y/\aH_p FU r p k g s = some y/\y.1.length <= 1000:=by
 rcases h with ⟨gs,ts,e1,e2,h⟩ | ⟨e,he,e1,e2⟩
 ·have h8:=h.k8; have hg:=h.g
  have hs:aA_p FU r p k g = some (shs gs ts,0):=by
   unfold aA_p
   rw [e2,aa,if_pos rfl,lu h,aa]
  rcases ko s with ⟨q,hq,rfl⟩ | ⟨c1,c2⟩
  ·have hml:=iR gs ts q gs.length
   refine ⟨(maj gs ts q gs.length,0),?_,?_,by simp only; omega⟩
   ·unfold bN_p aR_p
    rw [e1,aa,exO,checkS hq,aa,if_pos rfl,majP h hq]
    unfold thn
    simp only
    rw [aa,exO]
   ·unfold aH_p
    rw [hs,aa,if_pos rfl,checkR' hq,aa,if_pos rfl,majR h hq,aa]
  ·refine ⟨([],20),?_,?_,Nat.zero_le _⟩
   ·unfold bN_p aR_p
    rw [e1,aa,exO,c1,aa,if_neg (by decide),aa,exE]
   ·unfold aH_p
    rw [hs,aa,if_pos rfl,md c2,aa,if_neg (by decide)]
 ·refine ⟨([],e),?_,?_,Nat.zero_le _⟩
  ·unfold bN_p aR_p
   rw [e1,aa,exE,aa,exE]
  ·unfold aH_p aA_p
   rw [e2,aa,if_neg he,aa,if_neg he]
end Go.Proofs.YtdolpanbfpjnmaaGreatDoor
namespace Go.Proofs.YtdolpanbfpjnmaaGreatDoor
open Go
set_option maxRecDepth 8000
theorem q_le {a b c d:Int} (hb:0 < b) (hd:0 < d):Rat.divInt a b <= Rat.divInt c d ↔ a * d <= c * b:=by
 have e1:=jd (a:=a) (b:=b) (by omega)
 have e2:=jd (a:=c) (b:=d) (by omega)
 have p1:=(Rat.divInt a b).den_pos
 have p2:=(Rat.divInt c d).den_pos
 rw [Rat.le_iff]
 generalize (Rat.divInt a b).num = x at *
 generalize (Rat.divInt c d).num = y at *
 generalize (Rat.divInt a b).den = u at *
 generalize (Rat.divInt c d).den = v at *
 have hbd:0 < b * d:=Int.mul_pos hb hd
 have huv:0 < (u:Int) * v:=Int.mul_pos (by omega) (by omega)
 have h1:x * v * (b * d) = a * d * (u * v):=by
  have:x * v * (b * d) = x * b * (v * d):=by grind
  rw [this,e1]; grind
 have h2:y * u * (b * d) = c * b * (u * v):=by
  have:y * u * (b * d) = y * d * (u * b):=by grind
  rw [this,e2]; grind
 rw [<- Int.mul_le_mul_right (b:=x * v) hbd,h1,h2]
 exact Int.mul_le_mul_right huv
theorem oB (n d:Int) (hd:0 < d):gd (Rat.divInt n d) = Rat.divInt (n.natAbs:Int) d:=by
 unfold gd
 rw [Rat.neg_divInt]
 by_cases h:0 <= n
 ·rw [if_pos ((q_le hd hd).2 (Int.mul_le_mul_of_nonneg_right (by omega) (by omega)))]
  congr 1; omega
 ·rw [if_neg fun hc=>?_]
  ·congr 1; omega
  ·have:=Int.le_of_mul_le_mul_right ((q_le hd hd).1 hc) hd
   omega
theorem q_subD (a b c d:Int) (hb:b ≠ 0) (hd:d ≠ 0):Rat.divInt a b - Rat.divInt c d = Rat.divInt (a * d - c * b) (b * d):=by
 rw [Rat.sub_eq_add_neg,Rat.neg_divInt,Rat.divInt_add_divInt _ _ hb hd,Int.neg_mul,<- Int.sub_eq_add_neg]
theorem q_addS (a b d:Int) (hd:d ≠ 0):Rat.divInt a d + Rat.divInt b d = Rat.divInt (a + b) d:=by
 rw [Rat.divInt_add_divInt _ _ hd hd,<- Int.add_mul,Rat.divInt_mul_right hd]
theorem eA (l:List Int) {i:Nat} (h:i < l.length):(l.take (i + 1)).sum = (l.take i).sum + l[i]:=by
 rw [List.take_succ_eq_append_getElem h,List.sum_append]; simp
theorem jr {m:Int} (hm:0 <= m):∀ l:List Int,(∀ x ∈ l,0 <= x/\x <= m) -> 0 <= l.sum/\l.sum <= (l.length:Int) * m
 | [],_=>⟨Int.le_refl _,by simp⟩
 | x :: l,h=>by
  have h1:=h x (List.mem_cons_self ..)
  have h2:=jr hm l fun y hy=>h y (List.mem_cons_of_mem _ hy)
  rw [List.sum_cons,leC]
  have:((l.length + 1:Nat):Int) * m = (l.length:Int) * m + m:=by rw [Int.natCast_add,Int.add_mul]; simp
  omega
theorem nh:∀ {a b:List Int},a.length = b.length -> (∀ (d:Nat) (h1:d < a.length) (h2:d < b.length),a[d] <= b[d]) -> a.sum <= b.sum
 | [],[],_,_=>Int.le_refl _
 | x :: a,y :: b,hl,h=>by
  have h1:=h 0 (by simp) (by simp)
  have h2:=nh (a:=a) (b:=b) (by simpa using hl) fun d h1 h2=>h (d + 1) (by simpa using h1) (by simpa using h2)
  rw [List.sum_cons,List.sum_cons]
  simp only [List.getElem_cons_zero] at h1
  omega
theorem Nums.sums {gs ts:List Int} {k:Int} (h:Nums gs ts k):0 <= gs.sum/\gs.sum <= ts.sum/\ts.sum <= 512000000000:=by
 have h8:=h.k8; have hg:=h.g; have ht:=h.t
 have b1:=jr (m:=64000000000) (by decide) gs fun x hx=>by
  obtain ⟨i,hi,rfl⟩:=List.getElem_of_mem hx
  have:=h.b i hi (by omega); omega
 have b2:=jr (m:=64000000000) (by decide) ts fun x hx=>by
  obtain ⟨i,hi,rfl⟩:=List.getElem_of_mem hx
  have:=h.b i (by omega) hi; omega
 have b3:=nh (a:=gs) (b:=ts) (by omega) fun d h1 h2=>(h.b d h1 h2).2.1
 omega
theorem dl {l:List Int} (hl:l.length <= 8) (h:∀ x ∈ l,0 <= x/\x <= 64000000000) (i:Nat):0 <= (l.take i).sum/\(l.take i).sum <= 512000000000:=by
 have b:=jr (m:=64000000000) (by decide) (l.take i) fun x hx=>h x (List.mem_of_mem_take hx)
 have:(l.take i).length <= 8:=by rw [List.length_take]; omega
 omega
theorem Nums.inG {gs ts:List Int} {k:Int} (h:Nums gs ts k):∀ x ∈ gs,0 <= x/\x <= 64000000000:=fun x hx=>by
 have hg:=h.g; have ht:=h.t
 obtain ⟨i,hi,rfl⟩:=List.getElem_of_mem hx
 have:=h.b i hi (by omega); omega
theorem Nums.inT {gs ts:List Int} {k:Int} (h:Nums gs ts k):∀ x ∈ ts,0 <= x/\x <= 64000000000:=fun x hx=>by
 have hg:=h.g; have ht:=h.t
 obtain ⟨i,hi,rfl⟩:=List.getElem_of_mem hx
 have:=h.b i (by omega) hi; omega
theorem nX {gs ts:List Int} {k:Int} (h:Nums gs ts k):am (aG_l2 FU (dO gs ts)) FU (0,0,0) = some (gs.sum,ts.sum):=by
 have hF:=aZ
 have h8:=h.k8; have hg:=h.g; have ht:=h.t
 have hl:=eO h
 have hh:=ap (B:=aG_l2 FU (dO gs ts)) (fun s:Nat × Int × Int=>gs.length - s.1) (fun s=>s.1 <= gs.length/\s.2.1 = (gs.take s.1).sum/\s.2.2 = (ts.take s.1).sum) (fun y=>y = (gs.sum,ts.sum)) ?_ FU (0,0,0) ⟨Nat.zero_le _,by simp,by simp⟩ (by simp only; omega)
 ·obtain ⟨y,e,rfl⟩:=hh; exact e
 ·rintro ⟨i,za,zb⟩ J ⟨a1,a2,a3⟩ hJ
  simp only at a1 a2 a3 hJ
  subst a2 a3
  unfold aG_l2
  simp only
  by_cases hi:i < gs.length
  ·obtain ⟨h2,e1,b1⟩:=co h hi
   have s1:=dl (by omega) h.inG (i + 1)
   have s2:=dl (by omega) h.inT (i + 1)
   have t1:=eA gs hi
   have t2:=eA ts h2
   rw [if_pos (by omega),e1,aa]
   simp only
   rw [<- t1,<- t2,aD (by omega) (by omega),aa,aD (by omega) (by omega),aa]
   exact hJ _ ⟨hi,rfl,rfl⟩ (by simp only; omega)
  ·rw [if_neg (by omega),List.take_of_length_le (by omega),List.take_of_length_le (by omega)]
   exact ⟨_,rfl,rfl⟩
theorem nQ {gs ts:List Int} {k:Int} (h:Nums gs ts k):am (au_l2 FU k (gs,ts,0)) FU (0,0,0) = some (gs.sum,ts.sum - gs.sum):=by
 have hF:=aZ
 have h8:=h.k8; have hg:=h.g; have ht:=h.t
 have hh:=ap (B:=au_l2 FU k (gs,ts,0)) (fun s:Int × Int × Int=>gs.length - s.2.2.toNat) (fun s=>∃ i:Nat,s.2.2 = (i:Int)/\i <= gs.length/\s.1 = (gs.take i).sum/\s.2.1 = (ts.take i).sum - (gs.take i).sum) (fun y=>y = (gs.sum,ts.sum - gs.sum)) ?_ FU (0,0,0) ⟨0,rfl,Nat.zero_le _,by simp,by simp⟩ (by simp only; omega)
 ·obtain ⟨y,e,rfl⟩:=hh; exact e
 ·rintro ⟨za,zb,z⟩ J ⟨i,a0,a1,a2,a3⟩ hJ
  simp only at a0 a1 a2 a3 hJ
  subst a0 a2 a3
  unfold au_l2
  simp only
  by_cases hi:i < gs.length
  ·obtain ⟨h2,_,b1⟩:=co h hi
   have s1:=dl (by omega) h.inG (i + 1)
   have s2:=dl (by omega) h.inT (i + 1)
   have s3:=dl (by omega) h.inG i
   have s4:=dl (by omega) h.inT i
   have t1:=eA gs hi
   have t2:=eA ts h2
   rw [if_pos (by omega),im hi,aa,aD (by omega) (by omega),aa,im h2,aa,aD (by omega) (by omega),aa,aD (by omega) (by omega),aa,aD (by omega) (by omega),aa]
   exact hJ _ ⟨i + 1,by simp,hi,t1.symm,by simp only; omega⟩ (by simp only; omega)
  ·rw [if_neg (by omega),List.take_of_length_le (by omega),List.take_of_length_le (by omega)]
   exact ⟨_,rfl,rfl⟩
def off (gs ts:List Int) (A R:Int) (d:Nat):Int:=((gs[d]?.getD 0 * R - (ts[d]?.getD 0 - gs[d]?.getD 0) * A).natAbs:Int)
def gK (gs ts:List Int) (A R:Int):Nat -> Int
 | 0=>0
 | i + 1=>gK gs ts A R i + off gs ts A R i
structure Big (gs ts:List Int) (k A R:Int):Prop where
 h:Nums gs ts k
 a0:0 < A
 a1:A <= 512000000000
 r0:0 < R
 r1:R <= 512000000000
theorem ll {x y m n:Int} (hx:0 <= x/\x <= m) (hy:0 <= y/\y <= n):0 <= x * y/\x * y <= m * n:=
 ⟨Int.mul_nonneg hx.1 hy.1,Int.le_trans (Int.mul_le_mul_of_nonneg_left hy.2 hx.1) (Int.mul_le_mul_of_nonneg_right hx.2 (by omega))⟩
theorem lm {gs ts:List Int} {k A R:Int} (b:Big gs ts k A R) {d:Nat} (hd:d < gs.length):0 <= off gs ts A R d/\off gs ts A R d <= 32768000000000000000000:=by
 have hg:=b.h.g; have ht:=b.h.t
 have h2:d < ts.length:=by omega
 have hb:=b.h.b d hd h2
 have m1:=ll (x:=gs[d]) (y:=R) (m:=64000000000) (n:=512000000000) (by omega) ⟨by have:=b.r0; omega,b.r1⟩
 have m2:=ll (x:=ts[d] - gs[d]) (y:=A) (m:=64000000000) (n:=512000000000) (by omega) ⟨by have:=b.a0; omega,b.a1⟩
 unfold off
 rw [geE hd,geE h2]
 simp only [Option.getD_some]
 omega
theorem jm {gs ts:List Int} {k A R:Int} (b:Big gs ts k A R):∀ i ≤ gs.length,0 <= gK gs ts A R i/\gK gs ts A R i <= (i:Int) * 32768000000000000000000
 | 0,_=>⟨Int.le_refl _,by simp [gK]⟩
 | i + 1,hi=>by
  have h1:=jm b i (by omega)
  have h2:=lm b (d:=i) (by omega)
  show 0 <= gK gs ts A R i + off gs ts A R i/\gK gs ts A R i + off gs ts A R i <= ((i + 1:Nat):Int) * 32768000000000000000000
  omega
theorem Big.ar {gs ts:List Int} {k A R:Int} (b:Big gs ts k A R):0 < A * R/\A * R <= 262144000000000000000000:=by
 have m:=ll (x:=A) (y:=R) (m:=512000000000) (n:=512000000000) ⟨by have:=b.a0; omega,b.a1⟩ ⟨by have:=b.r0; omega,b.r1⟩
 exact ⟨Int.mul_pos b.a0 b.r0,m.2⟩
theorem oG {a b:Int} (h0:b ≠ 0) (ha:a.natAbs < 1208925819614629174706176) (hb:b.natAbs < 1208925819614629174706176):FQ (Rat.divInt a b):=
 (Bt.of (i:=80) (j:=80) h0 ha hb).fq (by decide) (by decide)
theorem lr {gs ts:List Int} {k A R:Int} (b:Big gs ts k A R) {i:Nat} (hi:i < gs.length) (h2:i < ts.length) :
  FQ (Rat.divInt gs[i] A)/\FQ (Rat.divInt (ts[i] - gs[i]) R)/\FQ (Rat.divInt gs[i] A - Rat.divInt (ts[i] - gs[i]) R)/\FQ (-(Rat.divInt gs[i] A - Rat.divInt (ts[i] - gs[i]) R))/\gd (Rat.divInt gs[i] A - Rat.divInt (ts[i] - gs[i]) R) = Rat.divInt (off gs ts A R i) (A * R)/\FQ (Rat.divInt (off gs ts A R i) (A * R)):=by
 have ha0:=b.a0; have ha1:=b.a1; have hr0:=b.r0; have hr1:=b.r1
 have hb:=b.h.b i hi h2
 have har:=b.ar
 have ho:=lm b hi
 have eo:off gs ts A R i = ((gs[i] * R - (ts[i] - gs[i]) * A).natAbs:Int):=by
  unfold off
  rw [geE hi,geE h2]
  simp only [Option.getD_some]
 have es:=q_subD gs[i] A (ts[i] - gs[i]) R (by omega) (by omega)
 have f1:FQ (Rat.divInt gs[i] A - Rat.divInt (ts[i] - gs[i]) R):=by rw [es]; exact oG (by omega) (by omega) (by omega)
 have f2:FQ (-(Rat.divInt gs[i] A - Rat.divInt (ts[i] - gs[i]) R)):=by rw [es,Rat.neg_divInt]; exact oG (by omega) (by omega) (by omega)
 refine ⟨fqd (by omega) (by omega) (by omega),fqd (by omega) (by omega) (by omega),f1,f2,?_,oG (by omega) (by omega) (by omega)⟩
 rw [es,oB _ _ har.1,eo]
def iq (gs ts:List Int) (A R:Int) (n:Nat):List Ta:=(List.range n).map fun d=>Sg (Rat.divInt (off gs ts A R d) (A * R))
theorem kl (gs ts:List Int) (A R:Int) (n:Nat):(iq gs ts A R n).length = n:=by unfold iq; simp
theorem offP {gs ts:List Int} {k A T:Int} (b:Big gs ts k A (T - A)) (_hT:T <= 512000000000):am (aG_l1 FU (dO gs ts) A T) FU (0,[]) = some (iq gs ts A (T - A) gs.length):=by
 have hF:=aZ
 have h:=b.h
 have h8:=h.k8; have hg:=h.g; have ht:=h.t
 have hl:=eO h
 have ha0:=b.a0; have hr0:=b.r0; have hr1:=b.r1; have ha1:=b.a1
 have hh:=ap (B:=aG_l1 FU (dO gs ts) A T) (fun s:Nat × List Ta=>gs.length - s.1) (fun s=>s.1 <= gs.length/\s.2 = iq gs ts A (T - A) s.1) (fun y=>y = iq gs ts A (T - A) gs.length) ?_ FU (0,[]) ⟨Nat.zero_le _,rfl⟩ (by simp only; omega)
 ·obtain ⟨y,e,rfl⟩:=hh; exact e
 ·rintro ⟨i,xs⟩ J ⟨a1,a2⟩ hJ
  simp only at a1 a2 hJ
  subst a2
  have hol:=kl gs ts A (T - A) i
  unfold aG_l1 cD_p ae_p
  simp only
  by_cases hi:i < gs.length
  ·obtain ⟨h2,e1,b1⟩:=co h hi
   obtain ⟨f1,f2,f3,f4,e5,f5⟩:=lr b hi h2
   rw [if_pos (by omega),e1,aa]
   simp only
   rw [mV (by unfold Sm; omega) (by unfold Sm; omega) (by omega),aa,exO,aD (by omega) (by omega),aa,aD (by omega) (by omega),aa,mV (by unfold Sm; omega) (by unfold Sm; omega) (by omega),aa,exO,sub_q f1 f2 f3 aY,aa,if_pos rfl,aa,exO,aa,exO,absG f3 f4,aa,if_pos rfl,aa,exO,bD _ _ (by simp only [leC,leN]; omega),aa,e5]
   refine hJ _ ⟨hi,?_⟩ (by simp only; omega)
   simp only
   unfold iq
   rw [List.range_succ,List.map_append]
   rfl
  ·rw [if_neg (by omega)]
   exact ⟨_,rfl,by rw [show i = gs.length by omega]⟩
theorem half_fq {n d:Int} (h0:d ≠ 0) (hn:n.natAbs < 1208925819614629174706176) (hd:d.natAbs < 1208925819614629174706176):FQ (Rat.divInt n d / Rat.divInt 2 1):=
 ((Bt.of (i:=80) (j:=80) h0 hn hd).div (Bt.of (i:=2) (j:=1) (by decide) (by decide) (by decide)) (by decide)).fq (by decide) (by decide)
def wds (s:Ta):UInt64 × UInt64 × UInt64 × UInt64 × UInt64 × UInt64 × UInt64 × UInt64 × T8:=(s.fN.1,s.fN.2.1,s.fN.2.2.1,s.fN.2.2.2.1,s.fN.2.2.2.2.1,s.fN.2.2.2.2.2.1,s.fN.2.2.2.2.2.2.1,s.fN.2.2.2.2.2.2.2,s.fD.1,s.fD.2.1,s.fD.2.2.1,s.fD.2.2.2.1,s.fD.2.2.2.2.1,s.fD.2.2.2.2.2.1,s.fD.2.2.2.2.2.2.1,s.fD.2.2.2.2.2.2.2)
def qo (gs ts:List Int) (A R:Int) (i:Nat):Rat:=Rat.divInt (gK gs ts A R i) (A * R)
theorem qo0 {gs ts:List Int} {k A R:Int} (b:Big gs ts k A R):Rat.divInt 0 1 = qo gs ts A R 0:=by
 have har:=b.ar
 show Rat.divInt 0 1 = Rat.divInt 0 (A * R)
 rw [Rat.divInt_eq_divInt_iff (by decide) (by omega)]; omega
theorem jM {gs ts:List Int} {k A R:Int} (b:Big gs ts k A R) {i:Nat} (hi:i <= gs.length):FQ (qo gs ts A R i):=by
 have har:=b.ar; have ho:=jm b i hi; have h8:=b.h.k8; have hg:=b.h.g
 exact oG (by omega) (by omega) (by omega)
theorem kP {gs ts:List Int} {k A R:Int} (b:Big gs ts k A R) (i:Nat):qo gs ts A R i + Rat.divInt (off gs ts A R i) (A * R) = qo gs ts A R (i + 1):=q_addS _ _ _ (by have:=b.ar; omega)
theorem sumP {gs ts:List Int} {k A R:Int} (b:Big gs ts k A R):cw_p FU (iq gs ts A R gs.length) = some (.ok (Sg (qo gs ts A R gs.length))):=by
 have hF:=aZ
 have h8:=b.h.k8; have hg:=b.h.g
 have hol:=kl gs ts A R gs.length
 have har:=b.ar
 unfold cw_p
 rw [mV (by unfold Sm; decide) (by unfold Sm; decide) (by decide),aa,exO,qo0 b]
 have hh:=ap (B:=cw_l1 FU (iq gs ts A R gs.length)) (fun s=>gs.length - s.1) (fun s=>s.1 <= gs.length/\s.2 = wds (Sg (qo gs ts A R s.1))) (fun y=>y = .inr (wds (Sg (qo gs ts A R gs.length)))) ?_ FU (0,wds (Sg (qo gs ts A R 0))) ⟨Nat.zero_le _,rfl⟩ (by simp only; omega)
 ·obtain ⟨y,e,rfl⟩:=hh
  unfold wds at e
  rw [e]; rfl
 ·rintro ⟨i,w⟩ J ⟨a1,a2⟩ hJ
  simp only at a1 a2 hJ
  subst a2
  unfold wds cw_l1 bR_p ae_p
  simp only
  by_cases hi:i < gs.length
  ·have hoi:=lm b hi
   have hx:(iq gs ts A R gs.length)[i]? = some (Sg (Rat.divInt (off gs ts A R i) (A * R))):=by
    unfold iq
    rw [List.getElem?_map,List.getElem?_range hi]; rfl
   rw [if_pos (by omega),hx,aa,add_q (jM b a1) (oG (by omega) (by omega) (by omega)) (by rw [kP b]; exact jM b hi) aY,aa,if_pos rfl,aa,exO,aa,exO,kP b]
   exact hJ _ ⟨hi,rfl⟩ (by simp only; omega)
  ·rw [if_neg (by omega)]
   have:i = gs.length:=by omega
   subst this
   exact ⟨_,rfl,rfl⟩
theorem sumR {gs ts:List Int} {k A R:Int} (b:Big gs ts k A R):am (au_l1 FU k (gs,ts,0) A R) FU (0,wds (Sg (qo gs ts A R 0))) = some (wds (Sg (qo gs ts A R gs.length))):=by
 have hF:=aZ
 have h:=b.h
 have h8:=h.k8; have hg:=h.g; have ht:=h.t
 have ha0:=b.a0; have hr0:=b.r0; have hr1:=b.r1; have ha1:=b.a1
 have hh:=ap (B:=au_l1 FU k (gs,ts,0) A R) (fun s=>gs.length - s.1.toNat) (fun s=>∃ i:Nat,s.1 = (i:Int)/\i <= gs.length/\s.2 = wds (Sg (qo gs ts A R i))) (fun y=>y = wds (Sg (qo gs ts A R gs.length))) ?_ FU (0,wds (Sg (qo gs ts A R 0))) ⟨0,rfl,Nat.zero_le _,rfl⟩ (by simp only; omega)
 ·obtain ⟨y,e,rfl⟩:=hh
  exact e
 ·rintro ⟨z,w⟩ J ⟨i,a0,a1,a2⟩ hJ
  simp only at a0 a1 a2 hJ
  subst a0 a2
  unfold wds au_l1
  simp only
  by_cases hi:i < gs.length
  ·obtain ⟨h2,_,b1⟩:=co h hi
   obtain ⟨f1,f2,f3,f4,e5,f5⟩:=lr b hi h2
   rw [if_pos (by omega),im hi,aa,mJ (by unfold Sm; omega) (by unfold Sm; omega) (by omega),aa,im h2,aa,aD (by omega) (by omega),aa,mJ (by unfold Sm; omega) (by unfold Sm; omega) (by omega),aa,refSubG _ _ f1 f2,if_pos f3,aa,absR f3 f4,aa,e5,mc FU _ _ (jM b a1) f5 aY,kP b,if_pos (jM b hi),aa,aD (by omega) (by omega),aa]
   exact hJ _ ⟨i + 1,by simp,hi,rfl⟩ (by simp only; omega)
  ·rw [if_neg (by omega)]
   have:i = gs.length:=by omega
   subst this
   exact ⟨_,rfl,rfl⟩
theorem lc {r:Td} {p:List Int} {k g:Int} (h:Grp r p k g):∃ y,ce_p FU r p k g = some y/\au_p FU r p k g = some y:=by
 rcases h with ⟨gs,ts,e1,e2,h⟩ | ⟨e,he,e1,e2⟩
 ·obtain ⟨s0,s1,s2⟩:=h.sums
  by_cases hA:gs.sum = 0
  ·refine ⟨(noS,7),?_,?_⟩
   ·unfold ce_p aG_p
    rw [e1,aa,exO,nX h,aa]
    simp only
    rw [if_pos hA,aa,exE]; rfl
   ·unfold au_p
    rw [e2,aa,if_pos rfl,nQ h,aa]
    simp only
    rw [if_pos hA]; rfl
  ·by_cases hR:gs.sum = ts.sum
   ·refine ⟨(noS,7),?_,?_⟩
    ·unfold ce_p aG_p
     rw [e1,aa,exO,nX h,aa]
     simp only
     rw [if_neg hA,if_pos hR,aa,exE]; rfl
    ·unfold au_p
     rw [e2,aa,if_pos rfl,nQ h,aa]
     simp only
     rw [if_neg hA,if_pos (by omega)]; rfl
   ·have b:Big gs ts k gs.sum (ts.sum - gs.sum):=⟨h,by omega,by omega,by omega,by omega⟩
    have hg:=h.g; have h8:=h.k8
    have har:=b.ar
    have ho:=jm b gs.length (Nat.le_refl _)
    have fS:=jM b (Nat.le_refl _)
    have f2:FQ (Rat.divInt 2 1):=fqd (by decide) (by decide) (by decide)
    have fH:FQ (qo gs ts gs.sum (ts.sum - gs.sum) gs.length / Rat.divInt 2 1):=half_fq (by omega) (by omega) (by omega)
    have n2:Rat.divInt 2 1 ≠ 0:=by decide
    refine ⟨(Sg (qo gs ts gs.sum (ts.sum - gs.sum) gs.length / Rat.divInt 2 1),0),?_,?_⟩
    ·unfold ce_p aG_p co_p ae_p
     rw [e1,aa,exO,nX h,aa]
     simp only
     rw [if_neg hA,if_neg hR,offP b s2,aa,sumP b,aa,exO,mV (by unfold Sm; decide) (by unfold Sm; decide) (by decide),aa,exO,div_q fS f2 n2 fH aY,aa,if_pos rfl,aa,exO,aa,exO,aa,exO]
    ·have t1:=sumR b
     rw [<- qo0 b] at t1
     unfold wds at t1
     unfold au_p
     rw [e2,aa,if_pos rfl,nQ h,aa]
     simp only
     rw [if_neg hA,if_neg (by omega),mJ (by unfold Sm; decide) (by unfold Sm; decide) (by decide),aa,t1,aa]
     simp only
     rw [mJ (by unfold Sm; decide) (by unfold Sm; decide) (by decide),aa,mu FU _ _ fS f2 n2 aY,if_pos fH,aa]
 ·refine ⟨(noS,e),?_,?_⟩
  ·unfold ce_p aG_p
   rw [e1,aa,exE,aa,exE]; rfl
  ·unfold au_p
   rw [e2,aa,if_neg he]; rfl
end Go.Proofs.YtdolpanbfpjnmaaGreatDoor
namespace Go.Proofs.YtdolpanbfpjnmaaGreatDoor
open Go
set_option maxRecDepth 8000
theorem fullD (d:Ti) (m:Nat) (h2:m <= 12):∃ r,bO_p FU d m = some r/\D0 r:=by
 obtain ⟨r,e,h,_⟩:=jK ⟨2,3,2,d.fv,d.fNums⟩ m h2
 unfold bO_p
 rw [e,aa]
 exact ⟨r,rfl,h⟩
theorem eqII (a:List Int) (hl:a.length <= 1000):aS_p FU a a = some true:=by
 have hF:=aZ
 unfold aS_p
 rw [if_pos rfl]
 have hh:=ap (B:=aS_l1 FU a a) (fun i:Nat=>a.length - i) (fun _=>True) (fun y=>y = .inr ()) ?_ FU 0 trivial (by omega)
 ·obtain ⟨y,e,rfl⟩:=hh
  rw [e]; rfl
 ·intro i J _ hJ
  unfold aS_l1
  simp only
  by_cases hi:i < a.length
  ·rw [if_pos hi,geE hi,aa,aa,if_pos rfl]
   exact hJ _ trivial (by omega)
  ·rw [if_neg hi]; exact ⟨_,rfl,rfl⟩
theorem eqSS (a:List Ta) (hl:a.length <= 1000):ai_p FU a a = some true:=by
 have hF:=aZ
 unfold ai_p
 rw [if_pos rfl]
 have hh:=ap (B:=ai_l1 FU a a) (fun i:Nat=>a.length - i) (fun _=>True) (fun y=>y = .inr ()) ?_ FU 0 trivial (by omega)
 ·obtain ⟨y,e,rfl⟩:=hh
  rw [e]; rfl
 ·intro i J _ hJ
  unfold ai_l1
  simp only
  by_cases hi:i < a.length
  ·rw [if_pos hi,geE hi,aa,aa,if_pos rfl]
   exact hJ _ trivial (by omega)
  ·rw [if_neg hi]; exact ⟨_,rfl,rfl⟩
theorem ny:Dn ⟨0,0,0,[]⟩:=⟨by simp,fun u hu=>by cases hu⟩
theorem nJ:cS_p FU = some true:=by kernel_rfl
theorem og (s a5:Ta) (z:T48) (y42:List Int × Int) (g:Int) (h:Grp z.fr z.fp y42.2 g):am (ab_l1 FU s a5 z y42 g) FU 0 = some (.inr ()):=by
 have hF:=aZ
 have hh:=ap (B:=ab_l1 FU s a5 z y42 g) (fun i:Nat=>2 - i) (fun _=>True) (fun y=>y = .inr ()) ?_ FU 0 trivial (by omega)
 ·obtain ⟨y,e,rfl⟩:=hh; exact e
 ·intro i J _ hJ
  unfold ab_l1
  simp only
  by_cases hi:i < 2
  ·obtain ⟨y,y1,y2,y3⟩:=kA h (([s,a5]:List Ta)[i]'hi)
   rw [if_pos hi,geE (show i < ([s,a5]:List Ta).length from hi),aa,y1,aa,y2,aa,eqII _ y3,aa,if_pos rfl,if_pos rfl]
   exact hJ _ trivial (by omega)
  ·rw [if_neg hi]; exact ⟨_,rfl,rfl⟩
theorem ew (a0:Tk) (a1:Ti) (a2 a3:Tm) (a4:To) (a5:Ta):ab_p FU a0 a1 a2 a3 a4 a5 = some true:=by
 have hF:=aZ
 obtain ⟨p,k,e0,p1,p2,hp,k1,k2⟩:=oc FU a0 (by omega)
 obtain ⟨r,e1,hr⟩:=fullD a1 p.length (by omega)
 obtain ⟨r2,e2,hr2,_⟩:=jK a1 p.length (by omega)
 obtain ⟨r', e4,hr'⟩:=bend_ok a3 hr
 obtain ⟨p', e5,hp'⟩:=bendP a2 p1 p2
 obtain ⟨s,e6⟩:=unit_ok a4
 unfold ab_p
 rw [nJ,aa,if_pos rfl,e0,aa]
 simp only
 rw [e1,aa,e2,aa,e4,aa,e5,aa]
 have hall:∀ z ∈ ([(⟨r,p⟩:T48),⟨r2,p⟩,⟨r', p⟩,⟨r,p'⟩,⟨⟨0,0,0,[]⟩,[]⟩]:List T48),Dn z.fr/\z.fp.length <= 10:=fun z hz=>by
  simp only [List.mem_cons,List.not_mem_nil,or_false] at hz
  rcases hz with rfl | rfl | rfl | rfl | rfl
  ·exact ⟨hr.dn,by simp only; omega⟩
  ·exact ⟨hr2.dn,by simp only; omega⟩
  ·exact ⟨hr', by simp only; omega⟩
  ·exact ⟨hr.dn,hp'⟩
  ·exact ⟨ny,by simp⟩
 have hh:=ap (B:=ab_l3 FU r (p,k) r2 r' p' a3 a4 a5) (fun i:Nat=>5 - i) (fun _=>True) (fun y=>y = .inr ()) ?_ FU 0 trivial (by omega)
 ·obtain ⟨y,e,rfl⟩:=hh
  rw [e]; rfl
 ·intro i J _ hJ
  unfold ab_l3
  simp only
  by_cases hi:i < 5
  ·have hl:i < ([(⟨r,p⟩:T48),⟨r2,p⟩,⟨r', p⟩,⟨r,p'⟩,⟨⟨0,0,0,[]⟩,[]⟩]:List T48).length:=hi
   obtain ⟨z1,z2⟩:=hall _ (List.getElem_mem hl)
   rw [if_pos hi,geE hl,aa]
   generalize ([(⟨r,p⟩:T48),⟨r2,p⟩,⟨r', p⟩,⟨r,p'⟩,⟨⟨0,0,0,[]⟩,[]⟩]:List T48)[i] = z at *
   have hh:=ap (B:=ab_l2 FU a3 z (p,k) a4 a5) (fun i:Nat=>3 - i) (fun _=>True) (fun y=>y = .inr ()) ?_ FU 0 trivial (by omega)
   ·obtain ⟨y,e,rfl⟩:=hh
    rw [e]
    exact hJ _ trivial (by omega)
   ·intro j J2 _ hJ2
    unfold ab_l2
    simp only
    by_cases hj:j < 3
    ·have hl2:j < ([0,1,a3.fN]:List Int).length:=hj
     have hG:=grp_ok k ([0,1,a3.fN]:List Int)[j] z1 z2
     obtain ⟨y,y1,y2,y3⟩:=jX hG
     obtain ⟨w,w1,w2⟩:=lc hG
     rw [if_pos hj,geE hl2,aa,y1,aa,y2,aa,w1,aa,w2,aa,eqSS _ y3,aa,if_pos rfl,if_pos rfl,if_pos rfl,if_pos rfl,e6,aa,og s a5 z (p,k) _ hG]
     exact hJ2 _ trivial (by omega)
    ·rw [if_neg hj]; exact ⟨_,rfl,rfl⟩
  ·rw [if_neg hi]; exact ⟨_,rfl,rfl⟩
theorem dZ (a0:Tk) (a1:Ti) (a2 a3:Tm) (a4:To) (a5:Ta):∃ n,ab_p n a0 a1 a2 a3 a4 a5 = some true:=⟨FU,ew a0 a1 a2 a3 a4 a5⟩
end Go.Proofs.YtdolpanbfpjnmaaGreatDoor
