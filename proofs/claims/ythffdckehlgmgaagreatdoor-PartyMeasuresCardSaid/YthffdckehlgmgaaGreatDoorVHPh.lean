/- Plain laws: totals, the ideal, deviations and the spread, of the program and of the reference. No program in sight but the printed functions. -/
import Derived.Test.YthffdckehlgmgaaGreatDoorVHRg
namespace Go.Proofs.YthffdckehlgmgaaGreatDoor
open Go
set_option maxRecDepth 8000
theorem bU:(18446744073709551616:Nat) < FU:=by decide
theorem of_sg {a b:Int} (ha:Sm a) (hb:Sm b) (h0:b ≠ 0):dO_p FU a b = some (Sg (Rat.divInt a b),0):=by
 have hd:=kH (a:=a) h0
 rw [kh FU a b ha hb h0 bU,Sh_Sg (by unfold Sm at *; omega) (by unfold Sm at *; omega)]
theorem fqd {a b:Int} (h0:b ≠ 0) (ha:a.natAbs < 1152921504606846976) (hb:b.natAbs < 1152921504606846976):FQ (Rat.divInt a b):=
 (Bt.of (i:=60) (j:=60) h0 ha hb).fq (by decide) (by decide)
def pe (us:List Tc):Nat -> Int
 | 0=>0
 | i + 1=>pe us i + (us[i]?.map (·.fw)).getD 0
structure Lp (r:Te) (us:List Tc):Prop where
 l:Lnd r us
 n:r.ft.length <= 64
 p:∀ u ∈ us,0 <= u.fw/\u.fw <= 1000000000
def tt (us:List Tc) (p:List Int) (k:Int):Nat -> List Int
 | 0=>List.replicate k.toNat 0
 | i + 1=>(tt us p k i).set (p[i]?.getD 0).toNat ((tt us p k i)[(p[i]?.getD 0).toNat]?.getD 0 + (us[i]?.map (·.fw)).getD 0)
structure Ns (l:List Int) (all k:Int):Prop where
 k1:1 <= k
 k8:k <= 8
 a1:0 < all
 a2:all <= 64000000000
 n:(l.length:Int) = k
 b:∀ x ∈ l,0 <= x/\x <= all
set_option maxRecDepth 8000
theorem orderG (l:Nat) (hl:l < 1000) (a b:Int) (ha:FtR l a) (hb:FtR l b):cy_p FU (R8 a) (R8 b) = some (a - b).sign:=by
 have hF:=bU
 have hm:=ha.add hb.neg
 unfold cy_p cg_p
 rw [gt FU b (by have:=hb.len; omega) (by omega),aa,gW FU l a (-b) ha hb.neg (by omega) (by omega),aa,aa,<- Int.sub_eq_add_neg]
 by_cases h:a - b < 0
 ·rw [if_pos (show (R8 (a - b)).fe = true from decide_eq_true h),Int.sign_eq_neg_one_of_neg h]
 ·rw [if_neg (show ¬ (R8 (a - b)).fe = true from by simpa [R8] using h)]
  by_cases h0:a - b = 0
  ·rw [h0,if_neg (show ¬ 0 < (R8 0).fD.length from by show ¬ 0 < (rd 0).length; rw [rd0]; decide)]; rfl
  ·rw [if_pos (show 0 < (R8 (a - b)).fD.length from iT.2 (by omega)),Int.sign_eq_one_of_pos (by omega)]
theorem cmpR {a b:Rat} (ha:FQ a) (hb:FQ b):cM_p FU (Sg a) (Sg b) = some ((a.num * b.den - b.num * a.den).sign,0):=by
 have hn:=bU
 unfold cM_p cT_p
 rw [aZ FU a ha hn,aa,if_pos I,aZ FU b hb hn,aa,if_pos I,bQ FU a ha (by omega),aa,bQ FU b hb (by omega),aa]
 unfold RR
 simp only
 rw [bb FU 16 16 _ _ ha.1.r hb.2.r (by omega) (by decide),aa,bb FU 16 16 _ _ hb.1.r ha.2.r (by omega) (by decide),aa,orderG 32 (by decide) _ _ (ha.1.r.mul hb.2.r) (hb.1.r.mul ha.2.r),aa,aa]
theorem cmpG {a b:Rat} (ha:FQ a) (hb:FQ b):dL_p FU (Sg a) (Sg b) = some ((a.num * b.den - b.num * a.den).sign,0):=by
 have hF:=bU
 unfold dL_p
 rw [gb FU a b ha hb bU,aa,if_pos I,cK FU a ha (by omega),aa,cK FU b hb (by omega),aa]
 unfold dC_p Rt
 rw [cm FU 8 8 _ _ ha.n hb.d (by omega) (by omega),aa,cm FU 8 8 _ _ hb.n ha.d (by omega) (by omega),aa]
 unfold df_p
 rw [jx FU 16 _ _ (ha.n.mul hb.d) (hb.n.mul ha.d) (by omega) (by omega),aa,iJ]
 rfl
open Classical in
theorem refSubG (a b:Rat) (ha:FQ a) (hb:FQ b):cN_p FU (Sg a) (Sg b) = some (if FQ (a - b) then (Sg (a - b),0) else (noS,6)):=by
 have hn:=bU
 have d0:(a.den:Int) * b.den ≠ 0:=Int.mul_ne_zero FQ.ndnz FQ.ndnz
 have e:a - b = Rat.divInt (a.num * b.den + -b.num * a.den) (a.den * b.den):=by
  conv=>lhs; rw [<- Rat.num_divInt_den a,<- Rat.num_divInt_den b,Rat.sub_eq_add_neg,Rat.neg_divInt]
  exact Rat.divInt_add_divInt _ _ FQ.ndnz FQ.ndnz
 have x1:=ha.1.r.mul hb.2.r
 have x2:=hb.1.r.neg.mul ha.2.r
 have x3:=ha.2.r.mul hb.2.r
 obtain ⟨f1,f2,f3⟩:=iV FU 33 _ _ d0 (x1.add x2) (x3.mono (by decide)) (by decide) hn
 rw [<- e] at f1 f2 f3
 unfold cN_p cU_p cZ_p
 rw [aZ FU a ha hn,aa,if_pos I,aZ FU b hb hn,aa,if_pos I,bQ FU a ha (by omega),aa,bQ FU b hb (by omega),aa]
 unfold RR at f1 ⊢
 simp only
 rw [gt FU _ (by have:=hb.1.r.len; omega) (by omega),aa,aa]
 unfold bM_p
 simp only
 rw [bb FU 16 16 _ _ ha.1.r hb.2.r (by omega) (by decide),aa,bb FU 16 16 _ _ hb.1.r.neg ha.2.r (by omega) (by decide),aa,gW FU 32 _ _ x1 x2 (by omega) (by decide),aa,bb FU 16 16 _ _ ha.2.r hb.2.r (by omega) (by decide),aa,f1,aa,aa]
 have:=dG FU 33 _ f2 f3 (by decide) (by omega)
 unfold RR at this
 rw [aa,this,aa]
set_option maxRecDepth 8000
theorem exE {ε α β:Type} (x:ε) (f:α -> Oa β) (g:ε -> Oa β):exc (.error x) f g = g x:=rfl
theorem exO {ε α β:Type} (x:α) (f:α -> Oa β) (g:ε -> Oa β):exc (.ok x) f g = f x:=rfl
theorem jh {r:Te} {us:List Tc} (hv:RV r) (h:Lnd r us) {i:Nat} (hi:i < us.length):∃ h2:i < r.ft.length,r.ft[i] = us[i]/\UV r us[i]:=by
 obtain ⟨ws,e,_⟩:=h.all
 have hi2:i < r.ft.length:=by rw [e,List.length_append]; omega
 have h1:=hv.u i hi2
 have e0:r.ft[i] = us[i]:=by simp only [e]; exact List.getElem_append_left hi
 rw [e0] at h1
 exact ⟨hi2,e0,h1⟩
theorem gp {α:Type} {l:List α} {i:Nat} {x:α} (h:l[i]? = some x):l.take (i + 1) = l.take i ++ [x]:=by
 obtain ⟨hi,rfl⟩:=List.getElem?_eq_some_iff.1 h
 exact List.take_succ_eq_append_getElem hi
def Vu (P:Nat) (u:Tc):Prop:=u.fE.length = P/\∀ x ∈ u.fE,0 <= x/\x <= 1000000000
theorem vu_of {r:Te} {u:Tc} {P:Nat} (hP:r.fc = P) (h:UV r u):Vu P u:=by
 obtain ⟨w1,w2⟩:=h.2.2.2.1
 exact ⟨by omega,fun x hx=>by have:=w2 x hx; split at this <;> omega⟩
def fM (a b:List Int):List Int:=List.zipWith (· + ·) a b
theorem oo {a b:List Int} {P:Nat} (h1:a.length = P) (h2:b.length = P):(fM a b).length = P:=by unfold fM; rw [List.length_zipWith]; omega
def vd (us:List Tc) (p:List Int) (P:Nat) (d:Int):Nat -> List Int
 | 0=>List.replicate P 0
 | i + 1=>if p[i]? = some d then fM (vd us p P d i) ((us[i]?.map (·.fE)).getD []) else vd us p P d i
theorem kJ {us:List Tc} {p:List Int} {P i:Nat} {d:Int} (h1:i < us.length) (h:p[i]? = some d):vd us p P d (i + 1) = fM (vd us p P d i) us[i].fE:=by
 show (if p[i]? = some d then fM (vd us p P d i) ((us[i]?.map (·.fE)).getD []) else vd us p P d i) = _
 rw [if_pos h,geE h1]; rfl
theorem mY {us:List Tc} {p:List Int} {P i:Nat} {d:Int} (h:p[i]? ≠ some d):vd us p P d (i + 1) = vd us p P d i:=by
 show (if p[i]? = some d then fM (vd us p P d i) ((us[i]?.map (·.fE)).getD []) else vd us p P d i) = _
 rw [if_neg h]
theorem ju {us:List Tc} {P:Nat} (hU:∀ u ∈ us,Vu P u) (p:List Int) (d:Int):∀ i ≤ us.length,(vd us p P d i).length = P/\∀ x ∈ vd us p P d i,0 <= x/\x <= (i:Int) * 1000000000
 | 0,_=>⟨by simp [vd],fun x hx=>by rw [List.eq_of_mem_replicate hx]; omega⟩
 | i + 1,hi=>by
  obtain ⟨l1,l2⟩:=ju hU p d i (by omega)
  have hu:=hU us[i] (List.getElem_mem _)
  by_cases h:p[i]? = some d
  ·rw [kJ (by omega) h]
   refine ⟨oo l1 hu.1,fun x hx=>?_⟩
   obtain ⟨j,hj,rfl⟩:=List.getElem_of_mem hx
   unfold fM at hj ⊢
   rw [List.length_zipWith] at hj
   rw [List.getElem_zipWith]
   have h1:=l2 _ (List.getElem_mem (show j < (vd us p P d i).length by omega))
   have h2:=hu.2 _ (List.getElem_mem (show j < us[i].fE.length by omega))
   omega
  ·rw [mY h]
   exact ⟨l1,fun x hx=>by have:=l2 x hx; omega⟩
def vts (us:List Tc) (p:List Int) (P k i:Nat):List (List Int):=(List.range k).map fun d:Nat=>vd us p P (d:Int) i
theorem cv (us:List Tc) (p:List Int) (P k i:Nat):(vts us p P k i).length = k:=by unfold vts; simp
theorem eY (us:List Tc) (p:List Int) (P:Nat) {k d:Nat} (i:Nat) (h:d < k):(vts us p P k i)[d]? = some (vd us p P (d:Int) i):=by
 unfold vts
 rw [List.getElem?_map,List.getElem?_range h]; rfl
def Part (a b row:List Int) (j:Nat):Prop:=row.length = a.length/\∀ c:Nat,c < a.length -> row[c]? = some ((a[c]?.getD 0) + if c < j then b[c]?.getD 0 else 0)
theorem Part.done {a b row:List Int} (h:Part a b row b.length) (hl:a.length = b.length):row = fM a b:=by
 apply List.ext_getElem?
 intro c
 unfold fM
 rw [List.getElem?_zipWith]
 by_cases hc:c < a.length
 ·rw [h.2 c hc,if_pos (by omega),geE hc,geE (show c < b.length by omega)]; rfl
 ·rw [List.getElem?_eq_none (by rw [h.1]; omega),List.getElem?_eq_none (show a.length <= c by omega)]
theorem Part.zero (a b:List Int):Part a b a 0:=⟨rfl,fun c hc=>by rw [if_neg (by omega),geE hc]; simp⟩
theorem Part.step {a b row:List Int} {j:Nat} (h:Part a b row j) (hj:j < a.length) (hb:j < b.length):Part a b (row.set j (a[j] + b[j])) (j + 1):=by
 refine ⟨by rw [List.length_set]; exact h.1,fun c hc=>?_⟩
 rw [List.getElem?_set]
 by_cases hjc:j = c
 ·subst hjc
  rw [if_pos I,if_pos (by rw [h.1]; exact hj),if_pos (by omega),geE hj,geE hb]; rfl
 ·rw [if_neg hjc,h.2 c hc]
  by_cases hlt:c < j
  ·rw [if_pos hlt,if_pos (by omega)]
  ·rw [if_neg hlt,if_neg (by omega)]
theorem Part.at {a b row:List Int} {j:Nat} (h:Part a b row j) (hj:j < a.length):row[j]? = some a[j]:=by
 rw [h.2 j hj,if_neg (by omega),geE hj]; simp
structure Cn (r:Te) (us:List Tc) (p:List Int) (k P:Nat):Prop where
 v:RV r
 l:Lnd r us
 f:dh p us.length (k:Int)
 k1:1 <= k
 k8:k <= 8
 P:r.fc = P
theorem Cn.vu {r:Te} {us:List Tc} {p:List Int} {k P:Nat} (h:Cn r us p k P):∀ u ∈ us,Vu P u:=fun u hu=>by
 obtain ⟨i,hi,rfl⟩:=List.getElem_of_mem hu
 obtain ⟨_,_,h1⟩:=jh h.v h.l hi
 exact vu_of h.P h1
theorem Cn.m {r:Te} {us:List Tc} {p:List Int} {k P:Nat} (h:Cn r us p k P):us.length <= 64:=Nat.le_trans h.l.le h.v.n.2
theorem Cn.p12 {r:Te} {us:List Tc} {p:List Int} {k P:Nat} (h:Cn r us p k P):P <= 12:=by have:=h.v.p; have:=h.P; omega
theorem Cn.at {r:Te} {us:List Tc} {p:List Int} {k P:Nat} (h:Cn r us p k P) {i:Nat} (hi:i < p.length):∃ d:Nat,p[i] = (d:Int)/\d < k/\i < us.length:=by
 have hx:=h.f.2.1 p[i] (List.getElem_mem hi)
 have:=h.f.1
 exact ⟨p[i].toNat,by omega,by omega,by omega⟩
theorem row_ok {r:Te} {us:List Tc} {p:List Int} {k P:Nat} (h:Cn r us p k P) {i d:Nat} (hi:i < us.length) (hd:d < k) (xs:List (List Int)) (hx:xs.length = k) (hrow:xs[d]? = some (vd us p P (d:Int) i)) :
  aj (aw_l1 FU us[i] (d:Int)) FU (0,xs) = some (xs.set d (fM (vd us p P (d:Int) i) us[i].fE)):=by
 have hF:=aR
 have hu:=h.vu us[i] (List.getElem_mem hi)
 have hm:=h.m; have hp:=h.p12
 obtain ⟨v1,v2⟩:=ju h.vu p (d:Int) i (by omega)
 have hh:=ap (B:=aw_l1 FU us[i] (d:Int)) (fun s:Nat × List (List Int)=>P - s.1) (fun s=>s.1 <= P/\∃ row,s.2 = xs.set d row/\Part (vd us p P (d:Int) i) us[i].fE row s.1) (fun y=>y = xs.set d (fM (vd us p P (d:Int) i) us[i].fE)) ?_ FU (0,xs) ⟨Nat.zero_le _,vd us p P (d:Int) i,?_,.zero _ _⟩ (by simp only; omega)
 ·obtain ⟨y,e,rfl⟩:=hh; exact e
 ·rintro ⟨j,ys⟩ J ⟨a1,row,a2,a3⟩ hJ
  simp only at a1 a2 a3 hJ
  subst a2
  unfold aw_l1
  simp only
  by_cases hj:j < P
  ·have j1:j < us[i].fE.length:=by rw [hu.1]; exact hj
   have j2:j < (vd us p P (d:Int) i).length:=by omega
   have b1:=hu.2 _ (List.getElem_mem j1)
   have b2:=v2 _ (List.getElem_mem j2)
   have hr:=a3.at j2
   have hrl:=a3.1
   rw [if_pos j1,geE j1,aa,bC,List.getElem?_set,if_pos I,if_pos (by omega),aa,hr,aa,az (by omega) (by omega),aa,aP _ (by omega),aa,Int.toNat_natCast,List.set_set]
   exact hJ _ ⟨hj,_,rfl,a3.step j2 j1⟩ (by simp only; omega)
  ·rw [if_neg (by rw [hu.1]; exact hj)]
   have:j = us[i].fE.length:=by have:=hu.1; omega
   subst this
   exact ⟨_,rfl,by rw [a3.done (by rw [v1,hu.1])]⟩
 ·apply List.ext_getElem?
  intro c
  rw [List.getElem?_set]
  by_cases hc:d = c
  ·subst hc; rw [if_pos rfl,if_pos (by omega),hrow]
  ·rw [if_neg hc]
theorem np {r:Te} {us:List Tc} {p:List Int} {k P:Nat} (_h:Cn r us p k P) {i d:Nat} (hip:i < p.length) (hi:i < us.length) (hd:d < k) (e:p[i] = (d:Int)):vts us p P k (i + 1) = (vts us p P k i).set d (fM (vd us p P (d:Int) i) us[i].fE):=by
 apply List.ext_getElem?
 intro c
 rw [List.getElem?_set]
 have hpi:p[i]? = some (d:Int):=by rw [geE hip,e]
 by_cases hc:d = c
 ·subst hc
  rw [if_pos I,if_pos (by rw [cv]; exact hd),eY _ _ _ _ hd,kJ hi hpi]
 ·rw [if_neg hc]
  by_cases hck:c < k
  ·rw [eY _ _ _ _ hck,eY _ _ _ _ hck,mY (by rw [hpi]; intro hx; have:=Option.some.inj hx; omega)]
  ·rw [List.getElem?_eq_none (by rw [cv]; omega),List.getElem?_eq_none (by rw [cv]; omega)]
theorem mZ {r:Te} {us:List Tc} {p:List Int} {k P:Nat} (h:Cn r us p k P):aw_p FU ⟨r,p,(k:Int)⟩ = some (vts us p P k us.length):=by
 have hF:=aR
 have h8:=h.k8; have hm:=h.m; have hp:=h.p12; have hpl:=h.f.1
 unfold aw_p
 rw [show mk (k:Int) ([]:List Int) = some (List.replicate k []) from if_pos ⟨by omega,by omega⟩,aa]
 have hh:=ap (B:=aw_l3 FU (List.replicate k []) ⟨r,p,(k:Int)⟩) (fun s:Nat × List (List Int)=>k - s.1) (fun s=>s.1 <= k/\s.2.length = k/\∀ d:Nat,d < s.1 -> s.2[d]? = some (List.replicate P 0)) (fun y=>y = vts us p P k 0) ?_ FU (0,List.replicate k []) ⟨Nat.zero_le _,by simp,fun d hd=>by omega⟩ (by simp only; omega)
 ·obtain ⟨y,e,rfl⟩:=hh
  rw [e,aa]
  have hh:=ap (B:=aw_l2 FU ⟨r,p,(k:Int)⟩) (fun s:Nat × List (List Int)=>p.length - s.1) (fun s=>s.1 <= p.length/\s.2 = vts us p P k s.1) (fun y=>y = vts us p P k us.length) ?_ FU (0,vts us p P k 0) ⟨Nat.zero_le _,rfl⟩ (by simp only; omega)
  ·obtain ⟨y,e,rfl⟩:=hh
   rw [e]; rfl
  ·rintro ⟨i,xs⟩ J ⟨a1,a2⟩ hJ
   simp only at a1 a2 hJ
   subst a2
   unfold aw_l2
   simp only
   by_cases hip:i < p.length
   ·obtain ⟨d,e,hd,hi⟩:=h.at hip
    obtain ⟨u1,u2,_⟩:=jh h.v h.l hi
    rw [if_pos hip,geE hip,aa,geE u1,aa,u2,e,row_ok h hi hd _ (cv ..) (eY _ _ _ _ hd),aa,<- np h hip hi hd e]
    exact hJ _ ⟨hip,rfl⟩ (by simp only; omega)
   ·rw [if_neg hip]
    exact ⟨_,rfl,by rw [show i = us.length by omega]⟩
 ·rintro ⟨i,xs⟩ J ⟨a1,a2,a3⟩ hJ
  simp only at a1 a2 a3 hJ
  unfold aw_l3
  simp only
  by_cases hi:i < k
  ·rw [if_pos (by simpa using hi),h.P,cu _ _ (by omega),aa,geE (by omega),aa]
   refine hJ _ ⟨hi,by simp only [List.length_set]; exact a2,fun d hd=>?_⟩ (by simp only; omega)
   simp only at hd ⊢
   rw [List.getElem?_set]
   by_cases hid:i = d
   ·subst hid; rw [if_pos rfl,if_pos (by omega)]
   ·rw [if_neg hid]; exact a3 d (by omega)
  ·rw [if_neg (by simpa using hi)]
   refine ⟨xs,I,?_⟩
   apply List.ext_getElem?
   intro d
   by_cases hd:d < k
   ·rw [a3 d (by omega),eY _ _ _ _ hd]; rfl
   ·rw [List.getElem?_eq_none (by omega),List.getElem?_eq_none (by rw [cv]; omega)]
theorem rowR_ok {r:Te} {us:List Tc} {p:List Int} {k P:Nat} (h:Cn r us p k P) {i d:Nat} (hip:i < p.length) (hd:d < k) :
  aj (ac_l1 FU r p i (d:Int)) FU (0,vd us p P (d:Int) i) = some (vd us p P (d:Int) (i + 1)):=by
 have hF:=aR
 have hm:=h.m; have hp:=h.p12
 obtain ⟨e,he,hek,hi⟩:=h.at hip
 obtain ⟨u1,u2,_⟩:=jh h.v h.l hi
 have hu:=h.vu us[i] (List.getElem_mem hi)
 obtain ⟨v1,v2⟩:=ju h.vu p (d:Int) i (by omega)
 by_cases hde:e = d
 ·subst hde
  have hpi:p[i]? = some (e:Int):=by rw [geE hip,he]
  rw [kJ hi hpi]
  have hh:=ap (B:=ac_l1 FU r p i (e:Int)) (fun s:Int × List Int=>P - s.1.toNat) (fun s=>∃ j:Nat,s.1 = (j:Int)/\j <= P/\Part (vd us p P (e:Int) i) us[i].fE s.2 j) (fun y=>y = fM (vd us p P (e:Int) i) us[i].fE) ?_ FU (0,vd us p P (e:Int) i) ⟨0,rfl,Nat.zero_le _,.zero _ _⟩ (by simp only; omega)
  ·obtain ⟨y,e,rfl⟩:=hh; exact e
  ·rintro ⟨z,row⟩ J ⟨j,a0,a1,a3⟩ hJ
   simp only at a0 a1 a3 hJ
   subst a0
   unfold ac_l1
   simp only
   rw [h.P]
   by_cases hj:j < P
   ·have j1:j < us[i].fE.length:=by rw [hu.1]; exact hj
    have j2:j < (vd us p P (e:Int) i).length:=by omega
    have b1:=hu.2 _ (List.getElem_mem j1)
    have b2:=v2 _ (List.getElem_mem j2)
    have hrl:=a3.1
    rw [if_pos (by omega),hpi,aa,if_pos I,bC,a3.at j2,aa,geE u1,aa,u2,kn j1,aa,az (by omega) (by omega),aa,Int.toNat_natCast,aP _ (by omega),aa,az (by omega) (by omega),aa]
    exact hJ _ ⟨j + 1,by simp,hj,a3.step j2 j1⟩ (by simp only; omega)
   ·rw [if_neg (by omega)]
    have:j = us[i].fE.length:=by have:=hu.1; omega
    subst this
    exact ⟨_,rfl,a3.done (by rw [v1,hu.1])⟩
 ·have hpi:p[i]? = some (e:Int):=by rw [geE hip,he]
  rw [mY (by rw [hpi]; intro hx; have:=Option.some.inj hx; omega)]
  obtain ⟨m,hm⟩:∃ m,FU = m + 1:=⟨FU - 1,by omega⟩
  have:aj (ac_l1 FU r p i (d:Int)) FU (0,vd us p P (d:Int) i) = ac_l1 FU r p i (d:Int) (aj (ac_l1 FU r p i (d:Int)) m) (0,vd us p P (d:Int) i):=by
   conv=>lhs; rw [hm,bD]
   rw [<- hm]
  rw [this]
  unfold ac_l1
  simp only
  by_cases h0:(0:Int) < r.fc
  ·rw [if_pos h0,hpi,aa,if_neg (by omega)]
  ·rw [if_neg h0]
theorem ko {r:Te} {us:List Tc} {p:List Int} {k P:Nat} (hS:∀ u ∈ r.ft,Sm4 u) (h:Cn r us p k P):ac_p FU r p (k:Int) = some (vts us p P k us.length,0):=by
 have hF:=aR
 have h1:=h.k1; have h8:=h.k8; have hm:=h.m; have hp:=h.p12; have hpl:=h.f.1
 unfold ac_p
 rw [cT hS p k (by omega) (by omega) us (fun _=>h.l),if_pos h.v,if_pos h.f,aa,if_pos I]
 have hh:=ap (B:=ac_l3 FU (k:Int) r p) (fun s:Int × List (List Int)=>k - s.1.toNat) (fun s=>∃ d:Nat,s.1 = (d:Int)/\d <= k/\s.2 = (vts us p P k us.length).take d) (fun y=>y = vts us p P k us.length) ?_ FU (0,[]) ⟨0,rfl,Nat.zero_le _,by simp⟩ (by simp only; omega)
 ·obtain ⟨y,e,rfl⟩:=hh
  rw [e]; rfl
 ·rintro ⟨z,xs⟩ J ⟨d,a0,a1,a2⟩ hJ
  simp only at a0 a1 a2 hJ
  subst a0 a2
  unfold ac_l3
  simp only
  by_cases hd:d < k
  ·rw [if_pos (by omega),h.P,cu _ _ (by omega),aa]
   have hh:=ap (B:=ac_l2 FU p r (d:Int)) (fun s:Nat × List Int=>p.length - s.1) (fun s=>s.1 <= p.length/\s.2 = vd us p P (d:Int) s.1) (fun y=>y = vd us p P (d:Int) us.length) ?_ FU (0,List.replicate P 0) ⟨Nat.zero_le _,rfl⟩ (by simp only; omega)
   ·obtain ⟨y,e,rfl⟩:=hh
    have hl:=cv us p P k us.length
    rw [e,aa,bg _ _ (by simp only [List.length_take,leC,leN]; omega),aa,az (by omega) (by omega),aa,<- gp (eY us p P us.length hd)]
    exact hJ _ ⟨d + 1,by simp,hd,rfl⟩ (by simp only; omega)
   ·rintro ⟨i,ys⟩ J2 ⟨b1,b2⟩ hJ2
    simp only at b1 b2 hJ2
    subst b2
    unfold ac_l2 jn
    simp only
    by_cases hip:i < p.length
    ·rw [if_pos hip,rowR_ok h hip hd,aa]
     exact hJ2 _ ⟨hip,rfl⟩ (by simp only; omega)
    ·rw [if_neg hip]
     exact ⟨_,rfl,by rw [show i = us.length by omega]⟩
  ·rw [if_neg (by omega),List.take_of_length_le (by rw [cv]; omega)]
   exact ⟨_,I,I⟩
def Vt (r:Te) (p:List Int) (k:Nat):Prop:=
 (∃ us P,Cn r us p k P/\cm_p FU r p (k:Int) = some (.ok ⟨r,p,(k:Int)⟩)/\ac_p FU r p (k:Int) = some (vts us p P k us.length,0)) ∨
 (∃ e,e ≠ 0/\cm_p FU r p (k:Int) = some (.error ⟨e⟩)/\ac_p FU r p (k:Int) = some ([],e))
open Classical in
theorem vt_ok {r:Te} {p:List Int} (k:Nat) (h1:1 <= k) (h8:k <= 8) (hr:Dn r) (hp:p.length <= 10):Vt r p k:=by
 have hS:=hr.s
 have bad:∀ e:Int,e ≠ 0 -> dw_p FU r p (k:Int) = some e -> ce_p FU r p (k:Int) = some e -> Vt r p k:=fun e he b1 b2=>by
  refine .inr ⟨e,he,?_,?_⟩
  ·unfold cm_p dm_p
   rw [b1,aa,if_neg he,aa,exE]
  ·unfold ac_p
   rw [b2,aa,if_neg he]
 by_cases hv:RV r
 ·obtain ⟨us,hL,_⟩:=lnd_of hv
  have b1:=fU hS p k (by omega) (by omega) (by omega) us fun _=>hL
  have b2:=cT hS p k (by omega) (by omega) us fun _=>hL
  rw [if_pos hv] at b1 b2
  by_cases hf:dh p us.length k
  ·rw [if_pos hf] at b1 b2
   have hP:=hv.p
   have hC:Cn r us p k r.fc.toNat:=⟨hv,hL,hf,h1,h8,by omega⟩
   refine .inl ⟨us,_,hC,?_,ko hS hC⟩
   unfold cm_p dm_p
   rw [b1,aa,if_pos I,aa,exO]
  ·rw [if_neg hf] at b1 b2
   exact bad 220 (by decide) b1 b2
 ·have b1:=fU hS p k (by omega) (by omega) (by omega) [] fun h=>absurd h hv
  have b2:=cT hS p k (by omega) (by omega) [] fun h=>absurd h hv
  rw [if_neg hv] at b1 b2
  exact bad 161 (by decide) b1 b2
def at0 (l:List Int) (x:Nat):Int:=l[x]?.getD 0
theorem lH {l:List Int} {x:Nat} (h:x < l.length):at0 l x = l[x]:=by unfold at0; rw [geE h]; rfl
def Tb (k P:Nat) (vs:List (List Int)):Prop:=vs.length = k/\∀ v ∈ vs,v.length = P
theorem Cn.tb {r:Te} {us:List Tc} {p:List Int} {k P:Nat} (h:Cn r us p k P):Tb k P (vts us p P k us.length):=by
 refine ⟨cv ..,fun v hv=>?_⟩
 unfold vts at hv
 obtain ⟨d,_,rfl⟩:=List.mem_map.1 hv
 exact (ju h.vu p (d:Int) us.length (Nat.le_refl _)).1
set_option maxRecDepth 8000
theorem kO {a b:Int} (ha:Sm a) (hb:Sm b) (h0:b ≠ 0):bT_p FU a b = some (.ok (Sg (Rat.divInt a b))):=by
 unfold bT_p
 rw [of_sg ha hb h0,aa]
 rfl
theorem kT {a b:Int} (ha:Sm a) (hb:Sm b) (h0:b ≠ 0):aI_p FU a b = some (Sg (Rat.divInt a b)):=refOfG FU _ _ ha hb h0 bU
structure Vs (k P:Nat) (vs:List (List Int)):Prop where
 t:Tb k P vs
 k8:k <= 8
 p12:P <= 12
 b:∀ v ∈ vs,∀ x ∈ v,0 <= x/\x <= 64000000000
theorem Cn.vs {r:Te} {us:List Tc} {p:List Int} {k P:Nat} (h:Cn r us p k P):Vs k P (vts us p P k us.length):=by
 refine ⟨h.tb,h.k8,h.p12,fun v hv x hx=>?_⟩
 unfold vts at hv
 obtain ⟨d,_,rfl⟩:=List.mem_map.1 hv
 have h1:=(ju h.vu p (d:Int) us.length (Nat.le_refl _)).2 x hx
 have h2:=h.m
 omega
theorem Vs.at {k P:Nat} {vs:List (List Int)} (h:Vs k P vs) {i a:Nat} (hi:i < vs.length) (ha:a < P):∃ h2:a < vs[i].length,vs[i][a] = at0 vs[i] a/\0 <= at0 vs[i] a/\at0 vs[i] a <= 64000000000:=by
 have h1:=h.t.2 _ (List.getElem_mem hi)
 have h2:a < vs[i].length:=by omega
 have h3:=h.b _ (List.getElem_mem hi) _ (List.getElem_mem h2)
 exact ⟨h2,(lH h2).symm,by rw [lH h2]; exact h3⟩
def dl (a b:Nat) (vs:List (List Int)):List (Int × Int):=(vs.map fun v=>(at0 v a,at0 v b)).filter fun e=>!(decide (e.1 = 0/\e.2 = 0))
theorem kG (a b:Nat) (vs:List (List Int)):(dl a b vs).length <= vs.length:=by
 unfold dl
 exact Nat.le_trans (List.length_filter_le _ _) (by simp)
theorem lv (a b:Nat) (vs:List (List Int)) {i:Nat} (hi:i < vs.length):dl a b (vs.take (i + 1)) = if at0 vs[i] a = 0/\at0 vs[i] b = 0 then dl a b (vs.take i) else dl a b (vs.take i) ++ [(at0 vs[i] a,at0 vs[i] b)]:=by
 unfold dl
 rw [List.take_succ_eq_append_getElem hi,List.map_append,List.filter_append]
 by_cases h:at0 vs[i] a = 0/\at0 vs[i] b = 0
 ·rw [if_pos h,List.map_cons,List.filter_cons_of_neg (by simp [h])]; simp
 ·rw [if_neg h,List.map_cons,List.filter_cons_of_pos (by rw [Bool.not_eq_true']; exact decide_eq_false h)]; simp
structure Dl (D:List (Int × Int)):Prop where
 n:D.length <= 8
 b:∀ e ∈ D,(0 <= e.1/\e.1 <= 64000000000)/\(0 <= e.2/\e.2 <= 64000000000)/\0 < e.1 + e.2
theorem dl_in {k P:Nat} {vs:List (List Int)} (h:Vs k P vs) {a b:Nat} (ha:a < P) (hb:b < P):Dl (dl a b vs):=by
 refine ⟨Nat.le_trans (kG a b vs) (by rw [h.t.1]; exact h.k8),fun e he=>?_⟩
 unfold dl at he
 obtain ⟨h1,h2⟩:=List.mem_filter.1 he
 obtain ⟨v,hv,rfl⟩:=List.mem_map.1 h1
 obtain ⟨i,hi,rfl⟩:=List.getElem_of_mem hv
 obtain ⟨_,_,a1,a2⟩:=h.at hi ha
 obtain ⟨_,_,b1,b2⟩:=h.at hi hb
 simp only [Bool.not_eq_true', decide_eq_false_iff_not] at h2
 simp only
 omega
theorem duelsP {k P:Nat} {vs:List (List Int)} (h:Vs k P vs) {a b:Nat} (ha:a < P) (hb:b < P):aj (ba_l1 FU vs (a:Int) (b:Int)) FU (0,[]) = some (dl a b vs):=by
 have hF:=aR
 have hl:=h.t.1; have h8:=h.k8
 have hh:=ap (B:=ba_l1 FU vs (a:Int) (b:Int)) (fun s:Nat × List (Int × Int)=>vs.length - s.1) (fun s=>s.1 <= vs.length/\s.2 = dl a b (vs.take s.1)) (fun y=>y = dl a b vs) ?_ FU (0,[]) ⟨Nat.zero_le _,by simp [dl]⟩ (by simp only; omega)
 ·obtain ⟨y,e,rfl⟩:=hh; exact e
 ·rintro ⟨i,xs⟩ J ⟨a1,a2⟩ hJ
  simp only at a1 a2 hJ
  subst a2
  unfold ba_l1 jn
  simp only
  by_cases hi:i < vs.length
  ·obtain ⟨u1,u2,_,_⟩:=h.at hi ha
   obtain ⟨v1,v2,_,_⟩:=h.at hi hb
   have hn:=lv a b vs hi
   have hdl:=kG a b (vs.take i)
   rw [List.length_take] at hdl
   rw [if_pos hi,geE hi,aa,kn u1,aa,kn v1,aa,u2,v2]
   by_cases hc:at0 vs[i] a = 0/\at0 vs[i] b = 0
   ·rw [if_pos hc] at hn ⊢
    exact hJ _ ⟨hi,hn.symm⟩ (by simp only; omega)
   ·rw [if_neg hc] at hn ⊢
    rw [bg _ _ (by simp only [leC,leN]; omega),aa]
    exact hJ _ ⟨hi,hn.symm⟩ (by simp only; omega)
  ·rw [if_neg hi,List.take_of_length_le (by omega)]
   exact ⟨_,I,I⟩
theorem twoR {k P:Nat} {vs:List (List Int)} (h:Vs k P vs) {a b:Nat} (ha:a < P) (hb:b < P):aj (ap_l1 FU (k:Int) (vs,0) (a:Int) (b:Int)) FU (0,[]) = some (dl a b vs):=by
 have hF:=aR
 have hl:=h.t.1; have h8:=h.k8
 have hh:=ap (B:=ap_l1 FU (k:Int) (vs,0) (a:Int) (b:Int)) (fun s:Int × List (Int × Int)=>vs.length - s.1.toNat) (fun s=>∃ i:Nat,s.1 = (i:Int)/\i <= vs.length/\s.2 = dl a b (vs.take i)) (fun y=>y = dl a b vs) ?_ FU (0,[]) ⟨0,rfl,Nat.zero_le _,by simp [dl]⟩ (by simp only; omega)
 ·obtain ⟨y,e,rfl⟩:=hh; exact e
 ·rintro ⟨z,xs⟩ J ⟨i,a0,a1,a2⟩ hJ
  simp only at a0 a1 a2 hJ
  subst a0 a2
  unfold ap_l1 jn
  simp only
  by_cases hi:i < vs.length
  ·obtain ⟨u1,u2,u3,u4⟩:=h.at hi ha
   obtain ⟨v1,v2,v3,v4⟩:=h.at hi hb
   have hn:=lv a b vs hi
   have hdl:=kG a b (vs.take i)
   rw [List.length_take] at hdl
   rw [if_pos (by omega),kn hi,aa,kn u1,aa,kn v1,aa,u2,v2,az (by omega) (by omega),aa,az (x:=(i:Int) + 1) (by omega) (by omega)]
   by_cases hc:at0 vs[i] a = 0/\at0 vs[i] b = 0
   ·rw [if_pos hc] at hn
    rw [if_neg (by omega),aa]
    exact hJ _ ⟨i + 1,by simp,hi,hn.symm⟩ (by simp only; omega)
   ·rw [if_neg hc] at hn
    rw [if_pos (by omega),bg _ _ (by simp only [leC,leN]; omega),aa,aa]
    exact hJ _ ⟨i + 1,by simp,hi,hn.symm⟩ (by simp only; omega)
  ·rw [if_neg (by omega),List.take_of_length_le (by omega)]
   exact ⟨_,I,I⟩
theorem ip (e:Int) (he:e ≠ 0):br_p FU true e = some (.error ⟨e⟩):=by
 unfold br_p dm_p
 rw [if_pos I,if_neg he,aa,exE]
theorem mX (e:Int):br_p FU false e = some (.ok ()):=by
 unfold br_p
 rw [if_neg (by decide)]
def Ab (P:Nat) (a b:Int):Prop:=0 <= a/\a < P/\0 <= b/\b < P/\a ≠ b
def Dx (r:Te) (p:List Int) (k:Nat) (a b:Int):Prop:=
 (∃ D,Dl D/\0 < D.length/\ba_p FU r p (k:Int) a b = some (.ok D)/\ap_p FU r p (k:Int) a b = some (D,0)) ∨
 (∃ e,e ≠ 0/\ba_p FU r p (k:Int) a b = some (.error ⟨e⟩)/\ap_p FU r p (k:Int) a b = some ([],e))
theorem duels_p {r:Te} {us:List Tc} {p:List Int} {k P:Nat} (h:Cn r us p k P) (ho:cm_p FU r p (k:Int) = some (.ok ⟨r,p,(k:Int)⟩)) {a b:Nat} (ha:a < P) (hb:b < P) (hab:a ≠ b) :
  ba_p FU r p (k:Int) (a:Int) (b:Int) = some (if (dl a b (vts us p P k us.length)).length = 0 then .error ⟨7⟩ else .ok (dl a b (vts us p P k us.length))):=by
 unfold ba_p jn
 rw [ho,aa,exO]
 simp only
 rw [if_neg (by omega),h.P,if_neg (by omega),if_neg (by omega),if_neg (by omega),decide_eq_false (by omega),mX,aa,exO,mZ h,aa,duelsP h.vs ha hb,aa]
 by_cases h0:(dl a b (vts us p P k us.length)).length = 0
 ·rw [decide_eq_true h0,ip 7 (by decide),aa,exE,if_pos h0]
 ·rw [decide_eq_false h0,mX,aa,exO,if_neg h0]
theorem du_ok {r:Te} {p:List Int} {k:Nat} (h:Vt r p k) (a b:Int):Dx r p k a b:=by
 rcases h with ⟨us,P,h,e1,e2⟩ | ⟨e,he,e1,e2⟩
 ·by_cases hab:Ab P a b
  ·obtain ⟨x1,x2,x3,x4,x5⟩:=hab
   obtain ⟨a,rfl⟩:∃ i:Nat,a = (i:Int):=⟨a.toNat,by omega⟩
   obtain ⟨b,rfl⟩:∃ i:Nat,b = (i:Int):=⟨b.toNat,by omega⟩
   have ha:a < P:=by omega
   have hb:b < P:=by omega
   have d1:=duels_p h e1 ha hb (by omega)
   have d2:ap_p FU r p (k:Int) (a:Int) (b:Int) = some (if (dl a b (vts us p P k us.length)).length = 0 then ([],7) else (dl a b (vts us p P k us.length),0)):=by
    unfold ap_p jn
    rw [e2,aa]
    simp only
    rw [if_pos trivial,if_neg (by omega),h.P,if_neg (by omega),if_neg (by omega),if_neg (by omega),decide_eq_false (by omega),if_neg (by decide),twoR h.vs ha hb,aa]
    split <;> rfl
   by_cases h0:(dl a b (vts us p P k us.length)).length = 0
   ·rw [if_pos h0] at d1 d2
    exact .inr ⟨7,by decide,d1,d2⟩
   ·rw [if_neg h0] at d1 d2
    exact .inl ⟨_,dl_in h.vs ha hb,by omega,d1,d2⟩
  ·refine .inr ⟨2,by decide,?_,?_⟩
   ·unfold ba_p jn
    rw [e1,aa,exO]
    simp only
    rw [h.P]
    by_cases c1:a < 0
    ·rw [if_pos c1,ip 2 (by decide),aa,exE]
    rw [if_neg c1]
    by_cases c2:(P:Int) <= a
    ·rw [if_pos c2,ip 2 (by decide),aa,exE]
    rw [if_neg c2]
    by_cases c3:b < 0
    ·rw [if_pos c3,ip 2 (by decide),aa,exE]
    rw [if_neg c3]
    by_cases c4:(P:Int) <= b
    ·rw [if_pos c4,ip 2 (by decide),aa,exE]
    rw [if_neg c4]
    by_cases c5:a = b
    ·rw [decide_eq_true c5,ip 2 (by decide),aa,exE]
    ·exact absurd ⟨by omega,by omega,by omega,by omega,c5⟩ hab
   ·unfold ap_p jn
    rw [e2,aa]
    simp only
    rw [if_pos trivial,h.P]
    by_cases c1:a < 0
    ·rw [if_pos c1,if_pos trivial]
    rw [if_neg c1]
    by_cases c2:(P:Int) <= a
    ·rw [if_pos c2,if_pos trivial]
    rw [if_neg c2]
    by_cases c3:b < 0
    ·rw [if_pos c3,if_pos trivial]
    rw [if_neg c3]
    by_cases c4:(P:Int) <= b
    ·rw [if_pos c4,if_pos trivial]
    rw [if_neg c4]
    by_cases c5:a = b
    ·rw [decide_eq_true c5,if_pos I]
    ·exact absurd ⟨by omega,by omega,by omega,by omega,c5⟩ hab
 ·refine .inr ⟨e,he,?_,?_⟩
  ·unfold ba_p
   rw [e1,aa,exE]
  ·unfold ap_p
   rw [e2,aa,if_neg he]
/-! ### The efficiency gap -/
def gn (D:List (Int × Int)):Nat -> Int × Int
 | 0=>(0,0)
 | i + 1=>match D[i]? with
  | some e=>((gn D i).1 + 2 * (e.1 - e.2) - (if e.2 < e.1 then e.1 + e.2 else if e.1 < e.2 then -(e.1 + e.2) else 0),(gn D i).2 + (e.1 + e.2))
  | none=>gn D i
theorem iQ {D:List (Int × Int)} {i:Nat} (h:i < D.length):gn D (i + 1) = ((gn D i).1 + 2 * (D[i].1 - D[i].2) - (if D[i].2 < D[i].1 then D[i].1 + D[i].2 else if D[i].1 < D[i].2 then -(D[i].1 + D[i].2) else 0),(gn D i).2 + (D[i].1 + D[i].2)):=by
 show (match D[i]? with
  | some e=>((gn D i).1 + 2 * (e.1 - e.2) - (if e.2 < e.1 then e.1 + e.2 else if e.1 < e.2 then -(e.1 + e.2) else 0),(gn D i).2 + (e.1 + e.2))
  | none=>gn D i) = _
 rw [geE h]
theorem jP {D:List (Int × Int)} (h:Dl D):∀ i ≤ D.length,(-(i:Int) * 400000000000 <= (gn D i).1/\(gn D i).1 <= (i:Int) * 400000000000)/\((i:Int) <= (gn D i).2/\(gn D i).2 <= (i:Int) * 128000000000)
 | 0,_=>by simp [gn]
 | i + 1,hi=>by
  have ih:=jP h i (by omega)
  have hb:=h.b D[i] (List.getElem_mem _)
  rw [iQ (by omega)]
  simp only
  split
  ·omega
  ·split <;> omega
theorem gapP {D:List (Int × Int)} (h:Dl D):aj (cz_l1 FU D) FU (0,0,0) = some ((gn D D.length).2,(gn D D.length).1):=by
 have hF:=aR
 have h8:=h.n
 have hh:=ap (B:=cz_l1 FU D) (fun s:Int × Int × Nat=>D.length - s.2.2) (fun s=>s.2.2 <= D.length/\s.1 = (gn D s.2.2).1/\s.2.1 = (gn D s.2.2).2) (fun y=>y = ((gn D D.length).2,(gn D D.length).1)) ?_ FU (0,0,0) ⟨Nat.zero_le _,rfl,rfl⟩ (by simp only; omega)
 ·obtain ⟨y,e,rfl⟩:=hh; exact e
 ·rintro ⟨z,y,i⟩ J ⟨a1,a2,a3⟩ hJ
  simp only at a1 a2 a3 hJ
  subst a2 a3
  unfold cz_l1 jn bQ_p
  simp only
  by_cases hi:i < D.length
  ·have hb:=h.b _ (List.getElem_mem hi)
   have hg:=jP h i a1
   have hn:=iQ hi
   rw [if_pos hi,geE hi,aa,az (by omega) (by omega),aa,az (by omega) (by omega),aa,az (by omega) (by omega),aa,az (x:=D[i].1 + D[i].2) (by omega) (by omega),aa]
   simp only [aa]
   by_cases c1:D[i].2 < D[i].1
   ·rw [if_pos c1] at hn ⊢
    rw [az (by omega) (by omega),aa,az (by omega) (by omega),aa]
    exact hJ _ ⟨hi,by simp only; rw [hn],by simp only; rw [hn]⟩ (by simp only; omega)
   ·rw [if_neg c1] at hn ⊢
    by_cases c2:D[i].1 < D[i].2
    ·rw [if_pos c2] at hn ⊢
     rw [az (by omega) (by omega),aa,az (by omega) (by omega),aa]
     exact hJ _ ⟨hi,by simp only; rw [hn]; simp only; omega,by simp only; rw [hn]⟩ (by simp only; omega)
    ·rw [if_neg c2] at hn ⊢
     rw [az (by omega) (by omega),aa]
     exact hJ _ ⟨hi,by simp only; rw [hn]; simp only; omega,by simp only; rw [hn]⟩ (by simp only; omega)
  ·rw [if_neg hi]
   exact ⟨_,rfl,by rw [show i = D.length by omega]⟩
theorem jV {x y:Int} (hx:0 <= x/\x <= 64000000000) (hy:0 <= y/\y <= 64000000000):bv_p FU x y = some (if y < x then x - y else 2 * x):=by
 unfold bv_p
 by_cases h:y < x
 ·rw [if_pos h,if_pos h,az (by omega) (by omega),aa,az (by omega) (by omega),aa,az (by omega) (by omega),aa]
  congr 1; omega
 ·rw [if_neg h,if_neg h,az (by omega) (by omega),aa]
theorem gapR {D:List (Int × Int)} (h:Dl D):aj (aV_l1 FU (D,0)) FU (0,0,0) = some ((gn D D.length).2,(gn D D.length).1):=by
 have hF:=aR
 have h8:=h.n
 have hh:=ap (B:=aV_l1 FU (D,0)) (fun s:Int × Int × Nat=>D.length - s.2.2) (fun s=>s.2.2 <= D.length/\s.1 = (gn D s.2.2).1/\s.2.1 = (gn D s.2.2).2) (fun y=>y = ((gn D D.length).2,(gn D D.length).1)) ?_ FU (0,0,0) ⟨Nat.zero_le _,rfl,rfl⟩ (by simp only; omega)
 ·obtain ⟨y,e,rfl⟩:=hh; exact e
 ·rintro ⟨z,y,i⟩ J ⟨a1,a2,a3⟩ hJ
  simp only at a1 a2 a3 hJ
  subst a2 a3
  unfold aV_l1
  simp only
  by_cases hi:i < D.length
  ·obtain ⟨b1,b2,b3⟩:=h.b _ (List.getElem_mem hi)
   have hg:=jP h i a1
   have hn:=iQ hi
   have t1:∃ t,bv_p FU D[i].1 D[i].2 = some t/\∃ s,bv_p FU D[i].2 D[i].1 = some s/\0 <= t/\t <= 128000000000/\0 <= s/\s <= 128000000000/\t - s = 2 * (D[i].1 - D[i].2) - (if D[i].2 < D[i].1 then D[i].1 + D[i].2 else if D[i].1 < D[i].2 then -(D[i].1 + D[i].2) else 0):=by
    refine ⟨_,jV b1 b2,_,jV b2 b1,?_⟩
    by_cases c1:D[i].2 < D[i].1
    ·rw [if_pos c1,if_pos c1,if_neg (by omega)]; omega
    ·rw [if_neg c1,if_neg c1]
     by_cases c2:D[i].1 < D[i].2
     ·rw [if_pos c2,if_pos c2]; omega
     ·rw [if_neg c2,if_neg c2]; omega
   obtain ⟨t,t1,s,s1,t2,t3,s2,s3,e⟩:=t1
   rw [if_pos hi,geE hi,aa,t1,aa,az (by omega) (by omega),aa,s1,aa,az (by omega) (by omega),aa,az (by omega) (by omega),aa,az (by omega) (by omega),aa]
   exact hJ _ ⟨hi,by simp only; rw [hn]; simp only; omega,by simp only; rw [hn]; simp only; omega⟩ (by simp only; omega)
  ·rw [if_neg hi]
   exact ⟨_,rfl,by rw [show i = D.length by omega]⟩
theorem gap_of {r:Te} {p:List Int} {k:Nat} {a b:Int} {D:List (Int × Int)} (hD:Dl D) (h0:0 < D.length) (e:ba_p FU r p (k:Int) a b = some (.ok D)):cQ_p FU r p (k:Int) a b = some (Sg (Rat.divInt (gn D D.length).1 (2 * (gn D D.length).2)),0):=by
 have hg:=jP hD D.length (Nat.le_refl _)
 have h8:=hD.n
 unfold cQ_p cz_p
 rw [e,aa,exO,gapP hD,aa]
 simp only
 rw [az (by omega) (by omega),aa,kO (by unfold Sm; omega) (by unfold Sm; omega) (by omega),aa,exO,aa,exO]
theorem oz {r:Te} {p:List Int} {k:Nat} {a b:Int} (h:Dx r p k a b):∃ y,cQ_p FU r p (k:Int) a b = some y/\aV_p FU r p (k:Int) a b = some y:=by
 rcases h with ⟨D,hD,h0,e1,e2⟩ | ⟨e,he,e1,e2⟩
 ·have hg:=jP hD D.length (Nat.le_refl _)
  have h8:=hD.n
  refine ⟨_,gap_of hD h0 e1,?_⟩
  unfold aV_p
  rw [e2,aa,if_pos I,gapR hD,aa]
  simp only
  rw [az (by omega) (by omega),aa,kT (by unfold Sm; omega) (by unfold Sm; omega) (by omega),aa]
 ·refine ⟨(noS,e),?_,?_⟩
  ·unfold cQ_p cz_p
   rw [e1,aa,exE,aa,exE]; rfl
  ·unfold aV_p
   rw [e2,aa,if_neg he]; rfl
set_option maxRecDepth 8000
theorem thnR {α β:Type} (x:α) (K:α -> Oa β):thn (some (.inr x:β ⊕ α)) K = K x:=rfl
theorem sgn_neg (z:Int):z.sign < 0 ↔ z < 0:=by
 rcases Int.lt_trichotomy z 0 with h | h | h
 ·rw [Int.sign_eq_neg_one_of_neg h]; omega
 ·rw [h]; decide
 ·rw [Int.sign_eq_one_of_pos h]; omega
def sc (a b:Rat):Int:=(a.num * b.den - b.num * a.den).sign
theorem fL (a b:Rat):sc a b < 0 ↔ ¬ b <= a:=by
 unfold sc
 rw [sgn_neg,Rat.le_iff]
 omega
theorem kc (a b:Rat):-1 <= sc a b/\sc a b <= 1:=by
 unfold sc
 rcases Int.lt_trichotomy (a.num * b.den - b.num * a.den) 0 with h | h | h
 ·rw [Int.sign_eq_neg_one_of_neg h]; decide
 ·rw [h]; decide
 ·rw [Int.sign_eq_one_of_pos h]; decide
theorem cmp_p {a b:Rat} (ha:FQ a) (hb:FQ b):dh_p FU (Sg a) (Sg b) = some (.ok (sc a b)):=by
 unfold dh_p cr_p
 rw [cmpG ha hb,aa,if_pos I,aa,exO]
 rfl
theorem cmp_r {a b:Rat} (ha:FQ a) (hb:FQ b):co_p FU (Sg a) (Sg b) = some (sc a b):=by
 unfold co_p
 rw [cmpR ha hb,aa]
 rfl
def ne (q:List Rat) (n:Nat):Prop:=∀ (i j:Nat) a b,i < j -> j < n -> q[i]? = some a -> q[j]? = some b -> a <= b
theorem down_ok (q0:List Rat) (hq:∀ x ∈ q0,FQ x) (z:Nat) (hz:z < q0.length) (h12:q0.length <= 12) (hs:ne q0 z) :
  ∃ q:List Rat,aj (ah_l1 FU 0) FU ((z:Int),q0.map Sg) = some (.inr (q.map Sg))/\q.length = q0.length/\q.Perm q0/\ne q (z + 1):=by
 have hF:=aR
 have hh:=ap (B:=ah_l1 FU 0) (fun s=>s.1.toNat) (fun s=>∃ (k:Nat) (q:List Rat),s.1 = (k:Int)/\s.2 = q.map Sg/\k <= z/\q.length = q0.length/\q.Perm q0/\(∀ (i j:Nat) a b,i < j -> j < z + 1 -> i ≠ k -> j ≠ k -> q[i]? = some a -> q[j]? = some b -> a <= b)/\(∀ (j:Nat) a b,k < j -> j < z + 1 -> q[k]? = some a -> q[j]? = some b -> a <= b))
  (fun y=>∃ q:List Rat,y = .inr (q.map Sg)/\q.length = q0.length/\q.Perm q0/\ne q (z + 1)) ?_ FU ((z:Int),q0.map Sg) ⟨z,q0,rfl,rfl,Nat.le_refl _,rfl,List.Perm.refl _,fun i j a b h1 h2 h3 h4 h5 h6=>hs i j a b h1 (by omega) h5 h6,fun j a b h1 h2=>by omega⟩ (by simp only [Int.toNat_natCast]; omega)
 ·obtain ⟨y,e,q,rfl,h1⟩:=hh; exact ⟨q,e,h1⟩
 ·rintro ⟨jz,xs⟩ J ⟨k,q,e1,e2,hk,hl,hp,h1,h2⟩ hJ
  simp only at e1 e2 hJ
  subst e1 e2
  unfold ah_l1
  simp only
  have whole:(∀ a b,0 < k -> q[k - 1]? = some a -> q[k]? = some b -> a <= b) -> ne q (z + 1):=fun hkk i j a b hij hj ha hb=>by
   by_cases hik:i = k
   ·subst hik; exact h2 j a b hij hj ha hb
   ·by_cases hjk:j = k
    ·subst hjk
     by_cases hi1:i = j - 1
     ·subst hi1; exact hkk a b (by omega) ha hb
     ·have hm:q[j - 1]? = some (q[j - 1]'(by omega)):=geE _
      exact Rat.le_trans (h1 i (j - 1) a _ (by omega) (by omega) hik (by omega) ha hm) (hkk _ b (by omega) hm hb)
    ·exact h1 i j a b hij hj hik hjk ha hb
  by_cases h0:(((0:Nat):Int)) < (k:Int)
  ·have hkl:k < q.length:=by omega
   have hk1:k - 1 < q.length:=by omega
   have f1:=hq _ (hp.mem_iff.1 (List.getElem_mem hkl))
   have f2:=hq _ (hp.mem_iff.1 (List.getElem_mem hk1))
   have g1:(q.map Sg)[k]? = some (Sg q[k]):=by rw [List.getElem?_map,geE hkl]; rfl
   have g2:(q.map Sg)[k - 1]? = some (Sg q[k - 1]):=by rw [List.getElem?_map,geE hk1]; rfl
   have ek:(k:Int) - 1 = ((k - 1:Nat):Int):=by omega
   rw [if_pos h0,bC,g1,aa,az (by omega) (by omega),aa,ek,bC,g2,aa,cmp_p f1 f2,aa,exO]
   by_cases hlt:sc q[k] q[k - 1] < 0
   ·have hs1:((q.map Sg).set k (Sg q[k - 1])) = (q.set k q[k - 1]).map Sg:=List.map_set.symm
    have hs2:(((q.set k q[k - 1]).map Sg).set (k - 1) (Sg q[k])) = ((q.set k q[k - 1]).set (k - 1) q[k]).map Sg:=List.map_set.symm
    rw [if_pos hlt,aa,aa,bC,g2,aa,Int.toNat_natCast,aP _ (by rw [List.length_map]; omega),aa,hs1,bC,List.getElem?_map,geE (show k - 1 < (q.set k q[k - 1]).length by rw [List.length_set]; omega),Option.map_some,aa,Int.toNat_natCast,aP _ (by rw [List.length_map,List.length_set]; omega),aa,hs2,aa]
    have get:∀ (i:Nat),((q.set k q[k - 1]).set (k - 1) q[k])[i]? = if i = k - 1 then some q[k] else if i = k then some q[k - 1] else q[i]?:=fun i=>by
     rw [List.getElem?_set,List.getElem?_set]
     by_cases hp1:k - 1 = i
     ·rw [if_pos hp1,if_pos (show i = k - 1 from hp1.symm),if_pos (by rw [List.length_set]; omega)]
     ·rw [if_neg hp1,if_neg (show ¬ i = k - 1 from fun e=>hp1 e.symm)]
      by_cases hp2:k = i
      ·rw [if_pos hp2,if_pos (show i = k from hp2.symm),if_pos (by omega)]
      ·rw [if_neg hp2,if_neg (show ¬ i = k from fun e=>hp2 e.symm)]
    have hgk:q[k]? = some q[k]:=geE hkl
    have hgk1:q[k - 1]? = some q[k - 1]:=geE hk1
    refine hJ _ ⟨k - 1,_,rfl,rfl,by omega,by simp only [List.length_set]; exact hl,?_,fun i j a b hij hj hi1 hj1 ha hb=>?_,fun j a b hij hj ha hb=>?_⟩ (by simp only [Int.toNat_natCast]; omega)
    ·exact (List.set_set_perm (by omega) (by omega)).trans hp
    ·rw [get,if_neg hi1] at ha
     rw [get,if_neg hj1] at hb
     by_cases hik:i = k
     ·rw [if_pos hik] at ha
      rw [if_neg (by omega)] at hb
      cases ha
      exact h1 (k - 1) j _ b (by omega) hj (by omega) (by omega) hgk1 hb
     ·rw [if_neg hik] at ha
      by_cases hjk:j = k
      ·rw [if_pos hjk] at hb
       cases hb
       exact h1 i (k - 1) a _ (by omega) (by omega) hik (by omega) ha hgk1
      ·rw [if_neg hjk] at hb
       exact h1 i j a b hij hj hik hjk ha hb
    ·rw [get,if_pos I] at ha
     cases ha
     rw [get,if_neg (by omega)] at hb
     by_cases hjk:j = k
     ·rw [if_pos hjk] at hb
      cases hb
      have:=(fL _ _).1 hlt
      exact (Rat.le_total).resolve_left this
     ·rw [if_neg hjk] at hb
      exact h2 j _ b (by omega) hj hgk hb
   ·rw [if_neg hlt]
    refine ⟨_,I,q,I,hl,hp,whole fun a b _ ha hb=>?_⟩
    rw [geE (by omega)] at ha hb
    cases ha; cases hb
    exact Classical.byContradiction fun hc=>hlt ((fL _ _).2 hc)
  ·rw [if_neg h0]
   exact ⟨_,I,q,I,hl,hp,whole fun a b h=>by omega⟩
theorem sort_ok (q0:List Rat) (hq:∀ x ∈ q0,FQ x) (h12:q0.length <= 12):∃ q:List Rat,aj (ah_l2 FU q0.length 0) FU (1,q0.map Sg) = some (.inr (q.map Sg))/\q.Perm q0/\q.Pairwise (· <= ·):=by
 have hF:=aR
 have hh:=ap (B:=ah_l2 FU q0.length 0) (fun s=>13 - s.1.toNat) (fun s=>∃ (k:Nat) (q:List Rat),s.1 = (k:Int)/\s.2 = q.map Sg/\1 <= k/\(k <= q0.length ∨ k = 1)/\q.length = q0.length/\q.Perm q0/\ne q k)
  (fun y=>∃ q:List Rat,y = .inr (q.map Sg)/\q.Perm q0/\q.Pairwise (· <= ·)) ?_ FU (1,q0.map Sg) ⟨1,q0,rfl,rfl,by omega,.inr rfl,rfl,List.Perm.refl _,fun i j a b h1 h2=>by omega⟩ (by simp only; omega)
 ·obtain ⟨y,e,q,rfl,h1⟩:=hh; exact ⟨q,e,h1⟩
 ·rintro ⟨jz,xs⟩ J ⟨k,q,e1,e2,k1,hk,hl,hp,h2⟩ hJ
  simp only at e1 e2 hJ
  subst e1 e2
  unfold ah_l2 jn
  simp only
  by_cases hlt:(k:Int) < ((q0.length:Nat):Int)
  ·obtain ⟨q', y1,y2,y3,y4⟩:=down_ok q (fun x hx=>hq x (hp.mem_iff.1 hx)) k (by omega) (by omega) h2
   have nx:=hJ (((k + 1:Nat):Int),q'.map Sg) ⟨k + 1,q', rfl,rfl,by omega,.inl (by omega),by omega,y3.trans hp,y4⟩ (by simp only [Int.toNat_natCast]; omega)
   rw [if_pos hlt,y1,thnR,az (by omega) (by omega),aa]
   exact nx
  ·rw [if_neg hlt]
   refine ⟨_,I,q,I,hp,List.pairwise_iff_getElem.2 fun i j hi hj hij=>?_⟩
   exact h2 i j _ _ hij (by omega) (geE hi) (geE hj)
def qe (e:Int × Int):Rat:=Rat.divInt e.1 (e.1 + e.2)
def qs (D:List (Int × Int)):List Rat:=D.map qe
theorem qe_bt {D:List (Int × Int)} (h:Dl D) {e:Int × Int} (he:e ∈ D):Bt 36 37 (qe e):=by
 have:=h.b e he
 exact Bt.of (by omega) (by omega) (by omega)
theorem qs_bt {D:List (Int × Int)} (h:Dl D):∀ x ∈ qs D,Bt 36 37 x:=fun x hx=>by
 obtain ⟨e,he,rfl⟩:=List.mem_map.1 hx
 exact qe_bt h he
theorem qs_fq {D:List (Int × Int)} (h:Dl D):∀ x ∈ qs D,FQ x:=fun x hx=>(qs_bt h x hx).fq (by decide) (by decide)
theorem listP {D:List (Int × Int)} (h:Dl D):aj (ah_l4 FU D) FU (0,[]) = some (.inr ((qs D).map Sg)):=by
 have hF:=aR
 have h8:=h.n
 have hh:=ap (B:=ah_l4 FU D) (fun s:Nat × List Ta=>D.length - s.1) (fun s=>s.1 <= D.length/\s.2 = ((qs D).map Sg).take s.1) (fun y=>y = .inr ((qs D).map Sg)) ?_ FU (0,[]) ⟨Nat.zero_le _,by simp⟩ (by simp only; omega)
 ·obtain ⟨y,e,rfl⟩:=hh; exact e
 ·rintro ⟨i,xs⟩ J ⟨a1,a2⟩ hJ
  simp only at a1 a2 hJ
  subst a2
  unfold ah_l4 cW_p bQ_p
  simp only
  by_cases hi:i < D.length
  ·have hb:=h.b _ (List.getElem_mem hi)
   have hx:((qs D).map Sg)[i]? = some (Sg (qe D[i])):=by unfold qs; rw [List.getElem?_map,List.getElem?_map,geE hi]; rfl
   rw [if_pos hi,geE hi,aa,az (by omega) (by omega),aa,aa,kO (by unfold Sm; omega) (by unfold Sm; omega) (by omega),aa,exO,aa,exO,bg _ _ (by simp only [List.length_take,leC,leN]; omega),aa]
   exact hJ _ ⟨hi,(gp hx).symm⟩ (by simp only; omega)
  ·rw [if_neg hi,List.take_of_length_le (by unfold qs; rw [List.length_map,List.length_map]; omega)]
   exact ⟨_,I,I⟩
theorem lens64 (k:Nat):∃ y,dF_p FU (ac ((k:Nat):Int)) = some y:=by
 unfold dF_p
 rw [jO]; exact ⟨_,rfl⟩
theorem mq {r:Te} {p:List Int} {k:Nat} {a b:Int} {D:List (Int × Int)} (hD:Dl D) (e:ba_p FU r p (k:Int) a b = some (.ok D)):∃ q:List Rat,ah_p FU r p (k:Int) a b = some (.ok (q.map Sg))/\q.Perm (qs D)/\q.Pairwise (· <= ·):=by
 have h8:=hD.n
 have hql:(qs D).length = D.length:=by unfold qs; simp
 obtain ⟨q,q1,q2,q3⟩:=sort_ok (qs D) (qs_fq hD) (by omega)
 obtain ⟨y,y1⟩:=lens64 ((qs D).map Sg).length
 refine ⟨q,?_,q2,q3⟩
 unfold ah_p
 rw [e,aa,exO,listP hD]
 unfold thn
 simp only
 rw [y1,aa]
 obtain ⟨m,hm⟩:∃ m,FU = m + 1:=⟨FU - 1,by have:=aR; omega⟩
 have:aj (ah_l3 FU ((qs D).map Sg)) FU (0,((qs D).map Sg).length,y,true,true) = ah_l3 FU ((qs D).map Sg) (aj (ah_l3 FU ((qs D).map Sg)) m) (0,((qs D).map Sg).length,y,true,true):=by
  conv=>lhs; arg 2; rw [hm]
  rfl
 rw [this]
 unfold ah_l3
 simp only
 rw [az (by rw [List.length_map]; omega) (by rw [List.length_map]; omega),aa,if_pos (by rw [List.length_map]; omega),az (by omega) (by omega),aa,show (((0:Nat):Int) + 1) = 1 from I,List.length_map,q1]
 rfl
/-! ### The reference puts each share into its place -/
theorem insR {q:List Rat} {x:Rat} (hq:∀ y ∈ q,FQ y) (hx:FQ x) (hl:q.length <= 8) (hs:q.Pairwise (· <= ·)):∃ i:Nat,aj (ae_l1 FU (q.map Sg) (Sg x)) FU 0 = some i/\i <= q.length/\(q.take i ++ [x] ++ q.drop i).Pairwise (· <= ·):=by
 have hF:=aR
 have hh:=ap (B:=ae_l1 FU (q.map Sg) (Sg x)) (fun i:Nat=>q.length - i) (fun i=>i <= q.length/\∀ y ∈ q.take i,y <= x) (fun i=>i <= q.length/\(∀ y ∈ q.take i,y <= x)/\∀ h:i < q.length,x <= q[i]) ?_ FU 0 ⟨Nat.zero_le _,by simp⟩ (by omega)
 ·obtain ⟨i,e,h1,h2,h3⟩:=hh
  refine ⟨i,e,h1,?_⟩
  have hd:∀ y ∈ q.drop i,x <= y:=fun y hy=>by
   by_cases hi:i < q.length
   ·have hdr:q.drop i = q[i] :: q.drop (i + 1):=List.drop_eq_getElem_cons hi
    have hp:=hs.sublist (List.drop_sublist i q)
    rw [hdr] at hy hp
    rcases List.mem_cons.1 hy with rfl | hy
    ·exact h3 hi
    ·exact Rat.le_trans (h3 hi) ((List.pairwise_cons.1 hp).1 y hy)
   ·rw [List.drop_eq_nil_of_le (by omega)] at hy; cases hy
  refine List.pairwise_append.2 ⟨List.pairwise_append.2 ⟨hs.sublist (List.take_sublist i q),by simp,fun a ha b hb=>by rw [List.mem_singleton.1 hb]; exact h2 a ha⟩,hs.sublist (List.drop_sublist i q),fun a ha b hb=>?_⟩
  rcases List.mem_append.1 ha with ha | ha
  ·exact Rat.le_trans (h2 a ha) (hd b hb)
  ·rw [List.mem_singleton.1 ha]; exact hd b hb
 ·rintro i J ⟨a1,a2⟩ hJ
  unfold ae_l1
  simp only
  rw [List.length_map]
  by_cases hi:i < q.length
  ·rw [if_pos hi,List.getElem?_map,geE hi,Option.map_some,aa,cmp_r (hq _ (List.getElem_mem hi)) hx,aa]
   by_cases hc:sc q[i] x < 0
   ·rw [if_pos hc]
    refine hJ _ ⟨hi,fun y hy=>?_⟩ (by omega)
    rw [List.take_succ_eq_append_getElem hi] at hy
    rcases List.mem_append.1 hy with hy | hy
    ·exact a2 y hy
    ·rw [List.mem_singleton.1 hy]; exact (Rat.le_total).resolve_left ((fL _ _).1 hc)
   ·rw [if_neg hc]
    exact ⟨i,I,a1,a2,fun _=>Classical.byContradiction fun h=>hc ((fL _ _).2 h)⟩
  ·rw [if_neg hi]
   exact ⟨i,I,a1,a2,fun h=>absurd h hi⟩
theorem cutT {α:Type} (xs:List α) (i:Nat) (hi:i <= xs.length):cut xs ((i:Nat):Int) (xs.length:Int) = some (xs.drop i):=by
 unfold cut
 rw [if_pos ⟨by omega,by omega,by omega⟩]
 simp
theorem sharesR {D:List (Int × Int)} (h:Dl D):∃ q:List Rat,ae_p FU D = some (q.map Sg)/\q.Perm (qs D)/\q.Pairwise (· <= ·):=by
 have hF:=aR
 have h8:=h.n
 have hh:=ap (B:=ae_l2 FU D) (fun s:Nat × List Ta=>D.length - s.1) (fun s=>s.1 <= D.length/\∃ q:List Rat,s.2 = q.map Sg/\q.Perm ((qs D).take s.1)/\q.Pairwise (· <= ·)) (fun y=>∃ q:List Rat,y = q.map Sg/\q.Perm (qs D)/\q.Pairwise (· <= ·)) ?_ FU (0,[]) ⟨Nat.zero_le _,[],rfl,by simp,List.Pairwise.nil⟩ (by simp only; omega)
 ·obtain ⟨y,e,q,rfl,h1,h2⟩:=hh
  unfold ae_p
  rw [e,aa]
  exact ⟨q,I,h1,h2⟩
 ·rintro ⟨i,xs⟩ J ⟨a1,q,a2,a3,a4⟩ hJ
  simp only at a1 a2 a3 hJ
  subst a2
  unfold ae_l2 jn
  simp only
  have hql:(qs D).length = D.length:=by unfold qs; simp
  have hl:=a3.length_eq
  rw [List.length_take] at hl
  by_cases hi:i < D.length
  ·have hb:=h.b _ (List.getElem_mem hi)
   have hin:∀ y ∈ q,FQ y:=fun y hy=>qs_fq h y (List.mem_of_mem_take (a3.mem_iff.1 hy))
   have hx:FQ (qe D[i]):=(qe_bt h (List.getElem_mem hi)).fq (by decide) (by decide)
   have hqi:(qs D)[i]? = some (qe D[i]):=by unfold qs; rw [List.getElem?_map,geE hi]; rfl
   obtain ⟨j,j1,j2,j3⟩:=insR hin hx (by omega) a4
   have e3:(q.map Sg).take j ++ [Sg (qe D[i])] ++ (q.map Sg).drop j = (q.take j ++ [qe D[i]] ++ q.drop j).map Sg:=by
    rw [List.map_append,List.map_append,List.map_take,List.map_drop]; rfl
   rw [if_pos hi,geE hi,aa,az (by omega) (by omega),aa,kT (by unfold Sm; omega) (by unfold Sm; omega) (by omega),aa,show Rat.divInt D[i].1 (D[i].1 + D[i].2) = qe D[i] from I]
   rw [j1,aa,jt (by rw [List.length_map]; omega),aa,cutT _ _ (by rw [List.length_map]; omega),aa,bg _ _ (by simp only [List.length_take,List.length_map,leN]; omega),aa,List.nil_append,bg _ _ (by simp only [List.length_take,List.length_map,leC,leN]; omega),aa,bg _ _ (by simp only [List.length_append,List.length_take,List.length_drop,List.length_map,leC,leN]; omega),aa,e3]
   refine hJ _ ⟨hi,_,rfl,?_,j3⟩ (by simp only; omega)
   simp only
   rw [gp hqi]
   have p1:(q.take j ++ [qe D[i]] ++ q.drop j).Perm (q ++ [qe D[i]]):=by
    have:(q.take j ++ [qe D[i]] ++ q.drop j).Perm (q.take j ++ q.drop j ++ [qe D[i]]):=by
     rw [List.append_assoc,List.append_assoc]
     exact List.Perm.append_left _ List.perm_append_comm
    rwa [List.take_append_drop] at this
   exact p1.trans (a3.append_right _)
  ·rw [if_neg hi]
   refine ⟨_,I,q,I,?_,a4⟩
   rwa [List.take_of_length_le (by omega)] at a3
theorem kx {r:Te} {p:List Int} {k:Nat} {a b:Int} {D:List (Int × Int)} (hD:Dl D) (e:ba_p FU r p (k:Int) a b = some (.ok D)):∃ q:List Rat,ah_p FU r p (k:Int) a b = some (.ok (q.map Sg))/\ae_p FU D = some (q.map Sg)/\q.Perm (qs D)/\q.Pairwise (· <= ·):=by
 obtain ⟨q,q1,q2,q3⟩:=mq hD e
 obtain ⟨q', p1,p2,p3⟩:=sharesR hD
 have:q' = q:=List.Perm.eq_of_pairwise (fun a b _ _ h1 h2=>Rat.le_antisymm h1 h2) p3 q3 (p2.trans q2.symm)
 subst this
 exact ⟨q', q1,p1,q2,q3⟩
set_option maxRecDepth 8000
def wds (s:Ta):Ua × Ua × Ua × Ua × Ua × Ua × Ua × Ua × T8:=(s.fN.1,s.fN.2.1,s.fN.2.2.1,s.fN.2.2.2.1,s.fN.2.2.2.2.1,s.fN.2.2.2.2.2.1,s.fN.2.2.2.2.2.2.1,s.fN.2.2.2.2.2.2.2,s.fD.1,s.fD.2.1,s.fD.2.2.1,s.fD.2.2.2.1,s.fD.2.2.2.2.1,s.fD.2.2.2.2.2.1,s.fD.2.2.2.2.2.2.1,s.fD.2.2.2.2.2.2.2)
def sq (l:List Rat):Nat -> Rat
 | 0=>Rat.divInt 0 1
 | i + 1=>sq l i + (l[i]?.getD 0)
def mn (l:List Rat):Rat:=sq l l.length / Rat.divInt l.length 1
structure Sl (l:List Rat):Prop where
 n0:0 < l.length
 n8:l.length <= 8
 b:∀ x ∈ l,Bt 36 37 x
theorem Sl.fq {l:List Rat} (h:Sl l):∀ x ∈ l,FQ x:=fun x hx=>(h.b x hx).fq (by decide) (by decide)
theorem jm {l:List Rat} {i:Nat} (hi:i < l.length):sq l (i + 1) = sq l i + l[i]:=by
 show sq l i + (l[i]?.getD 0) = _
 rw [geE hi]; rfl
theorem nW {l:List Rat} (h:Sl l):∀ i ≤ l.length,Bt (39 * i + 1) (37 * i + 1) (sq l i)
 | 0,_=>Bt.of (by decide) (by decide) (by decide)
 | i + 1,hi=>by
  rw [jm (by omega)]
  have:=Bt.add (i:=39 * (i + 1) + 1) (nW h i (by omega)) (h.b l[i] (List.getElem_mem _)) (by omega) (by omega)
  exact this.mono (Nat.le_refl _) (by omega)
theorem iH {l:List Rat} (h:Sl l) {i:Nat} (hi:i <= l.length):FQ (sq l i):=(nW h i hi).fq (by have:=h.n8; omega) (by have:=h.n8; omega)
theorem n_ne {n:Nat} (h0:0 < n):Rat.divInt (n:Int) 1 ≠ 0:=fun e=>by
 have e2:Rat.divInt (n:Int) 1 = Rat.divInt 0 1:=e
 rw [Rat.divInt_eq_divInt_iff (by decide) (by decide)] at e2
 omega
theorem lD {l:List Rat} (h:Sl l):Bt (39 * l.length + 2) (37 * l.length + 5) (mn l):=by
 have h8:=h.n8; have h0:=h.n0
 exact Bt.div (i2:=4) (j2:=1) (nW h l.length (Nat.le_refl _)) (Bt.of (by decide) (by show _ < 16; omega) (by decide)) (n_ne h0)
theorem eb {l:List Rat} (h:Sl l):FQ (mn l):=(lD h).fq (by have:=h.n8; omega) (by have:=h.n8; omega)
theorem nH {l:List Rat} (h:Sl l):bU_p FU (l.map Sg) = some (.ok (Sg (mn l))):=by
 have hF:=aR
 have h8:=h.n8; have h0:=h.n0
 unfold bU_p
 rw [kO (by unfold Sm; decide) (by unfold Sm; decide) (by decide),aa,exO]
 have hh:=ap (B:=bU_l1 FU (l.map Sg)) (fun s=>l.length - s.1) (fun s=>s.1 <= l.length/\s.2 = wds (Sg (sq l s.1))) (fun y=>y = .inr (wds (Sg (sq l l.length)))) ?_ FU (0,wds (Sg (sq l 0))) ⟨Nat.zero_le _,rfl⟩ (by simp only; omega)
 ·obtain ⟨y,e,rfl⟩:=hh
  unfold wds at e
  rw [show sq l 0 = Rat.divInt 0 1 from I] at e
  rw [e,thnR]
  simp only
  rw [List.length_map,kO (by unfold Sm; omega) (by unfold Sm; decide) (by decide),aa,exO,div_q (iH h (Nat.le_refl _)) (fqd (by decide) (by omega) (by decide)) (n_ne h0) (eb h) bU,aa]
  unfold aB_p
  rw [if_pos I,aa,exO]
  rfl
 ·rintro ⟨i,w⟩ J ⟨a1,a2⟩ hJ
  simp only at a1 a2 hJ
  subst a2
  unfold wds bU_l1 dP_p aB_p
  simp only
  rw [List.length_map]
  by_cases hi:i < l.length
  ·have hx:(l.map Sg)[i]? = some (Sg l[i]):=by rw [List.getElem?_map,geE hi]; rfl
   have hn:=jm hi
   rw [if_pos hi,hx,aa,add_q (iH h a1) (h.fq _ (List.getElem_mem hi)) (by rw [<- hn]; exact iH h hi) bU,aa,if_pos I,aa,exO,aa,exO,<- hn]
   exact hJ _ ⟨hi,rfl⟩ (by simp only; omega)
  ·rw [if_neg hi]
   have:i = l.length:=by omega
   subst this
   exact ⟨_,I,I⟩
theorem overR {q:Rat} {n:Nat} (hq:FQ q) (h0:0 < n) (h8:n <= 8) (hf:FQ (q / Rat.divInt (n:Int) 1)):cb_p FU (Sg q) (n:Int) = some (Sg (q / Rat.divInt (n:Int) 1)):=by
 unfold cb_p
 rw [kT (by unfold Sm; omega) (by unfold Sm; decide) (by decide),aa,ml FU _ _ hq (fqd (by decide) (by omega) (by decide)) (n_ne h0) bU,if_pos hf,aa]
theorem addR {a b:Rat} (ha:FQ a) (hb:FQ b) (h:FQ (a + b)):bI_p FU (Sg a) (Sg b) = some (Sg (a + b)):=by
 unfold bI_p
 rw [mA FU _ _ ha hb bU,if_pos h,aa]
theorem subR {a b:Rat} (ha:FQ a) (hb:FQ b) (h:FQ (a - b)):bq_p FU (Sg a) (Sg b) = some (Sg (a - b)):=by
 unfold bq_p
 rw [refSubG _ _ ha hb,if_pos h,aa]
theorem mU {a b:Rat} (ha:FQ a) (hb:FQ b) (h:FQ (a - b)):cE_p FU (Sg a) (Sg b) = some (.ok (Sg (a - b))):=by
 unfold cE_p aB_p
 rw [sub_q ha hb h bU,aa,if_pos I,aa,exO]
theorem meanR {l:List Rat} (h:Sl l):aW_p FU (l.map Sg) = some (Sg (mn l)):=by
 have hF:=aR
 have h8:=h.n8; have h0:=h.n0
 unfold aW_p
 rw [kT (by unfold Sm; decide) (by unfold Sm; decide) (by decide),aa]
 have hh:=ap (B:=aW_l1 FU (l.map Sg)) (fun s=>l.length - s.1) (fun s=>s.1 <= l.length/\s.2 = wds (Sg (sq l s.1))) (fun y=>y = wds (Sg (sq l l.length))) ?_ FU (0,wds (Sg (sq l 0))) ⟨Nat.zero_le _,rfl⟩ (by simp only; omega)
 ·obtain ⟨y,e,rfl⟩:=hh
  unfold wds at e
  rw [show sq l 0 = Rat.divInt 0 1 from I] at e
  rw [e,aa]
  simp only
  rw [List.length_map,overR (iH h (Nat.le_refl _)) h0 h8 (eb h),aa]
  rfl
 ·rintro ⟨i,w⟩ J ⟨a1,a2⟩ hJ
  simp only at a1 a2 hJ
  subst a2
  unfold wds aW_l1
  simp only
  rw [List.length_map]
  by_cases hi:i < l.length
  ·have hx:(l.map Sg)[i]? = some (Sg l[i]):=by rw [List.getElem?_map,geE hi]; rfl
   have hn:=jm hi
   rw [if_pos hi,hx,aa,addR (iH h a1) (h.fq _ (List.getElem_mem hi)) (by rw [<- hn]; exact iH h hi),aa,<- hn]
   exact hJ _ ⟨hi,rfl⟩ (by simp only; omega)
  ·rw [if_neg hi]
   have:i = l.length:=by omega
   subst this
   exact ⟨_,I,I⟩
theorem q00:Rat.divInt 0 1 = 0:=rfl
theorem mn2 (a b:Rat):mn [a,b] = (a + b) / Rat.divInt ((2:Nat):Int) 1:=by
 show (Rat.divInt 0 1 + a + b) / _ = _
 rw [q00,Rat.zero_add]
 rfl
theorem sl_of {D:List (Int × Int)} (hD:Dl D) (h0:0 < D.length) {q:List Rat} (hp:q.Perm (qs D)):Sl q:=by
 have hl:=hp.length_eq
 have hql:(qs D).length = D.length:=by unfold qs; simp
 have h8:=hD.n
 exact ⟨by omega,by omega,fun x hx=>qs_bt hD x (hp.mem_iff.1 hx)⟩
def md (q:List Rat):Rat:=mn q - mn [q[(q.length - 1) / 2]?.getD 0,q[q.length / 2]?.getD 0]
theorem eL {q:List Rat} (h:Sl q) {i j:Nat} (hi:i < q.length) (hj:j < q.length):Sl [q[i],q[j]]:=
 ⟨by simp,by simp,fun x hx=>by
  simp only [List.mem_cons,List.not_mem_nil,or_false] at hx
  rcases hx with rfl | rfl
  ·exact h.b _ (List.getElem_mem hi)
  ·exact h.b _ (List.getElem_mem hj)⟩
theorem md_fq {q:List Rat} (h:Sl q) {i j:Nat} (hi:i < q.length) (hj:j < q.length):FQ (mn q - mn [q[i],q[j]]):=by
 have h8:=h.n8
 have b1:=(lD h).mono (i' :=314) (j' :=301) (by omega) (by omega)
 have b2:=lD (eL h hi hj)
 have:=Bt.sub (i:=394) b1 b2 (by simp) (by simp)
 exact this.fq (by decide) (by simp)
theorem lL {q:List Rat} (h:Sl q):∃ _h1:(q.length - 1) / 2 < q.length,cj (((q.length:Nat):Int) - 1) 2 = some (((q.length - 1) / 2:Nat):Int):=by
 have h0:=h.n0; have h8:=h.n8
 refine ⟨by omega,?_⟩
 have e:(((q.length:Nat):Int) - 1).tdiv 2 = (((q.length - 1) / 2:Nat):Int):=by
  rw [Int.tdiv_eq_ediv_of_nonneg (by omega)]; omega
 rw [lT (by decide) (by omega) (by omega),e]
theorem mh {r:Te} {p:List Int} {k:Nat} {a b:Int} {q:List Rat} (h:Sl q) (e:ah_p FU r p (k:Int) a b = some (.ok (q.map Sg))):cJ_p FU r p (k:Int) a b = some (Sg (md q),0):=by
 have h0:=h.n0; have h8:=h.n8
 obtain ⟨h1,q1⟩:=lL h
 have h2:q.length / 2 < q.length:=by omega
 have hm:=nH (eL h h1 h2)
 have hmd:md q = mn q - mn [q[(q.length - 1) / 2],q[q.length / 2]]:=by
  unfold md; rw [geE h1,geE h2]; rfl
 unfold cJ_p di_p
 rw [e,aa,exO,nH h,aa,exO,List.length_map,q1,aa,bC,List.getElem?_map,geE h1,Option.map_some,aa,List.getElem?_map,geE h2,Option.map_some,aa]
 rw [show ([Sg q[(q.length - 1) / 2],Sg q[q.length / 2]]:List Ta) = [q[(q.length - 1) / 2],q[q.length / 2]].map Sg from I,hm,aa,exO,mU (eb h) (eb (eL h h1 h2)) (md_fq h h1 h2),aa,exO,aa,exO,hmd]
theorem nt {q:List Rat} (h:Sl q) {i j:Nat} (hi:i < q.length) (hj:j < q.length):FQ (q[i] + q[j])/\FQ ((q[i] + q[j]) / Rat.divInt ((2:Nat):Int) 1):=by
 have b1:=h.b _ (List.getElem_mem hi)
 have b2:=h.b _ (List.getElem_mem hj)
 have b3:=Bt.add (i:=74) b1 b2 (by decide) (by decide)
 refine ⟨b3.fq (by decide) (by decide),?_⟩
 rw [<- mn2]
 exact eb (eL h hi hj)
theorem medianR {r:Te} {p:List Int} {k:Nat} {a b:Int} {D:List (Int × Int)} {q:List Rat} (h:Sl q) (e2:ap_p FU r p (k:Int) a b = some (D,0)) (e3:ae_p FU D = some (q.map Sg)):bJ_p FU r p (k:Int) a b = some (Sg (md q),0):=by
 have h0:=h.n0; have h8:=h.n8
 obtain ⟨h1,q1⟩:=lL h
 have h2:q.length / 2 < q.length:=by omega
 obtain ⟨f1,f2⟩:=nt h h1 h2
 have hmd:md q = mn q - mn [q[(q.length - 1) / 2],q[q.length / 2]]:=by
  unfold md; rw [geE h1,geE h2]; rfl
 have hov:=overR f1 (n:=2) (by decide) (by decide) f2
 rw [show (((2:Nat):Int)) = 2 from I] at hov
 unfold bJ_p
 rw [e2,aa,if_pos I,e3,aa,meanR h,aa,List.length_map,q1,aa,bC,List.getElem?_map,geE h1,Option.map_some,aa,List.getElem?_map,geE h2,Option.map_some,aa,addR (h.fq _ (List.getElem_mem h1)) (h.fq _ (List.getElem_mem h2)) f1,aa,hov,aa]
 have hm2:(q[(q.length - 1) / 2] + q[q.length / 2]) / Rat.divInt 2 1 = mn [q[(q.length - 1) / 2],q[q.length / 2]]:=(mn2 _ _).symm
 rw [hm2,subR (eb h) (eb (eL h h1 h2)) (md_fq h h1 h2),aa,hmd]
/-! ### Bias -/
def won (q:List Rat) (m:Rat):Nat -> Int
 | 0=>0
 | i + 1=>won q m i + (1 + sc (q[i]?.getD 0) m)
theorem ku {q:List Rat} {m:Rat} {i:Nat} (hi:i < q.length):won q m (i + 1) = won q m i + (1 + sc q[i] m):=by
 show won q m i + (1 + sc (q[i]?.getD 0) m) = _
 rw [geE hi]; rfl
theorem eW (q:List Rat) (m:Rat):∀ i,0 <= won q m i/\won q m i <= 2 * (i:Int)
 | 0=>⟨Int.le_refl _,by simp [won]⟩
 | i + 1=>by
  have h:=eW q m i
  have h2:=kc (q[i]?.getD 0) m
  show 0 <= won q m i + (1 + sc (q[i]?.getD 0) m)/\won q m i + (1 + sc (q[i]?.getD 0) m) <= _
  omega
theorem wonP {q:List Rat} (h:Sl q) {m:Rat} (hm:FQ m):aj (cn_l1 FU (q.map Sg) (Sg m)) FU (0,0) = some (.inr (won q m q.length)):=by
 have hF:=aR
 have h8:=h.n8
 have hh:=ap (B:=cn_l1 FU (q.map Sg) (Sg m)) (fun s:Int × Nat=>q.length - s.2) (fun s=>s.2 <= q.length/\s.1 = won q m s.2) (fun y=>y = .inr (won q m q.length)) ?_ FU (0,0) ⟨Nat.zero_le _,rfl⟩ (by simp only; omega)
 ·obtain ⟨y,e,rfl⟩:=hh; exact e
 ·rintro ⟨z,i⟩ J ⟨a1,a2⟩ hJ
  simp only at a1 a2 hJ
  subst a2
  unfold cn_l1 cr_p
  simp only
  rw [List.length_map]
  by_cases hi:i < q.length
  ·have hx:(q.map Sg)[i]? = some (Sg q[i]):=by rw [List.getElem?_map,geE hi]; rfl
   have hw:=eW q m i
   have hs:=kc q[i] m
   have hn:=ku (m:=m) hi
   have hc:dL_p FU (Sg q[i]) (Sg m) = some (sc q[i] m,0):=cmpG (h.fq _ (List.getElem_mem hi)) hm
   rw [if_pos hi,hx,aa,hc,aa,if_pos I,aa,exO,az (by omega) (by omega),aa,az (by omega) (by omega),aa,<- hn]
   exact hJ _ ⟨hi,rfl⟩ (by simp only; omega)
  ·rw [if_neg hi]
   have:i = q.length:=by omega
   subst this
   exact ⟨_,I,I⟩
theorem sc_eq {a b c d:Rat} (h1:a <= b ↔ c <= d) (h2:b <= a ↔ d <= c):sc a b = sc c d:=by
 have a1:=fL a b; have a2:=fL c d
 have b1:=kc a b; have b2:=kc c d
 have c1:sc a b <= 0 ↔ a <= b:=by unfold sc; rw [Rat.le_iff,Int.sign_nonpos_iff]; omega
 have c2:sc c d <= 0 ↔ c <= d:=by unfold sc; rw [Rat.le_iff,Int.sign_nonpos_iff]; omega
 by_cases x1:b <= a
 ·by_cases x2:a <= b
  ·have:=h1.1 x2; have:=h2.1 x1
   have e1:=c1.2 x2; have e2:=c2.2 (h1.1 x2)
   have e3:¬ sc a b < 0:=fun hh=>a1.1 hh x1
   have e4:¬ sc c d < 0:=fun hh=>a2.1 hh (h2.1 x1)
   omega
  ·have e1:¬ sc a b <= 0:=fun hh=>x2 (c1.1 hh)
   have e2:¬ sc c d <= 0:=fun hh=>x2 (h1.2 (c2.1 hh))
   omega
 ·have e1:=a1.2 x1
  have e2:=a2.2 fun hh=>x1 (h2.2 hh)
  omega
theorem sc_move (x m h:Rat):sc (x + (h - m)) h = sc x m:=by
 have e:h = m + (h - m):=by rw [Rat.sub_eq_add_neg,Rat.add_comm,Rat.add_assoc,Rat.neg_add_cancel,Rat.add_zero]
 have k1:x + (h - m) <= h ↔ x <= m:=by
  conv=>lhs; rhs; rw [e]
  exact Rat.add_le_add_right
 have k2:h <= x + (h - m) ↔ m <= x:=by
  conv=>lhs; lhs; rw [e]
  exact Rat.add_le_add_right
 exact sc_eq k1 k2
theorem iq:FQ (Rat.divInt 1 2):=fqd (by decide) (by decide) (by decide)
theorem jZ {q:List Rat} (h:Sl q):Bt 317 303 (Rat.divInt 1 2 - mn q):=by
 have h8:=h.n8
 have b1:Bt 1 2 (Rat.divInt 1 2):=Bt.of (by decide) (by decide) (by decide)
 exact Bt.sub b1 ((lD h).mono (i' :=314) (j' :=301) (by omega) (by omega)) (by decide) (by decide)
theorem wonR {q:List Rat} (h:Sl q):aj (aR_l1 FU (q.map Sg) (Sg (Rat.divInt 1 2 - mn q)) (Sg (Rat.divInt 1 2))) FU (0,0) = some (won q (mn q) q.length):=by
 have hF:=aR
 have h8:=h.n8
 have hsw:=jZ h
 have hh:=ap (B:=aR_l1 FU (q.map Sg) (Sg (Rat.divInt 1 2 - mn q)) (Sg (Rat.divInt 1 2))) (fun s:Int × Nat=>q.length - s.2) (fun s=>s.2 <= q.length/\s.1 = won q (mn q) s.2) (fun y=>y = won q (mn q) q.length) ?_ FU (0,0) ⟨Nat.zero_le _,rfl⟩ (by simp only; omega)
 ·obtain ⟨y,e,rfl⟩:=hh; exact e
 ·rintro ⟨z,i⟩ J ⟨a1,a2⟩ hJ
  simp only at a1 a2 hJ
  subst a2
  unfold aR_l1
  simp only
  rw [List.length_map]
  by_cases hi:i < q.length
  ·have hx:(q.map Sg)[i]? = some (Sg q[i]):=by rw [List.getElem?_map,geE hi]; rfl
   have hw:=eW q (mn q) i
   have hs:=kc q[i] (mn q)
   have hn:=ku (m:=mn q) hi
   have hadd:FQ (q[i] + (Rat.divInt 1 2 - mn q)):=(Bt.add (i:=355) (h.b _ (List.getElem_mem hi)) hsw (by decide) (by decide)).fq (by decide) (by decide)
   rw [if_pos hi,az (by omega) (by omega),aa,hx,aa,addR (h.fq _ (List.getElem_mem hi)) (hsw.fq (by decide) (by decide)) hadd,aa,cmp_r hadd iq,aa,sc_move,az (by omega) (by omega),aa,Int.add_assoc,<- hn]
   exact hJ _ ⟨hi,rfl⟩ (by simp only; omega)
  ·rw [if_neg hi]
   have:i = q.length:=by omega
   subst this
   exact ⟨_,I,I⟩
def bs (q:List Rat):Rat:=Rat.divInt (won q (mn q) q.length) (2 * ((q.length:Nat):Int)) - Rat.divInt 1 2
theorem bs_fq {q:List Rat} (h:Sl q):FQ (Rat.divInt (won q (mn q) q.length) (2 * ((q.length:Nat):Int)))/\FQ (bs q):=by
 have h0:=h.n0; have h8:=h.n8
 have hw:=eW q (mn q) q.length
 have b1:Bt 5 5 (Rat.divInt (won q (mn q) q.length) (2 * ((q.length:Nat):Int))):=Bt.of (by omega) (by show _ < 32; omega) (by show _ < 32; omega)
 have b2:Bt 1 2 (Rat.divInt 1 2):=Bt.of (by decide) (by decide) (by decide)
 exact ⟨b1.fq (by decide) (by decide),(Bt.sub (i:=8) b1 b2 (by decide) (by decide)).fq (by decide) (by decide)⟩
theorem bias_of {r:Te} {p:List Int} {k:Nat} {a b:Int} {q:List Rat} (h:Sl q) (e:ah_p FU r p (k:Int) a b = some (.ok (q.map Sg))):dA_p FU r p (k:Int) a b = some (Sg (bs q),0):=by
 have h0:=h.n0; have h8:=h.n8
 have hw:=eW q (mn q) q.length
 obtain ⟨f1,f2⟩:=bs_fq h
 unfold dA_p cn_p
 rw [e,aa,exO,nH h,aa,exO,wonP h (eb h),thnR]
 rw [List.length_map,az (by omega) (by omega),aa,kO (by unfold Sm; omega) (by unfold Sm; omega) (by omega),aa,exO,kO (by unfold Sm; decide) (by unfold Sm; decide) (by decide),aa,exO,mU f1 iq f2,aa,exO,aa,exO]
 rfl
theorem biasR {r:Te} {p:List Int} {k:Nat} {a b:Int} {D:List (Int × Int)} {q:List Rat} (h:Sl q) (e2:ap_p FU r p (k:Int) a b = some (D,0)) (e3:ae_p FU D = some (q.map Sg)):aR_p FU r p (k:Int) a b = some (Sg (bs q),0):=by
 have h0:=h.n0; have h8:=h.n8
 have hw:=eW q (mn q) q.length
 obtain ⟨f1,f2⟩:=bs_fq h
 unfold aR_p
 rw [e2,aa,if_pos I,e3,aa,kT (by unfold Sm; decide) (by unfold Sm; decide) (by decide),aa,meanR h,aa,subR iq (eb h) ((jZ h).fq (by decide) (by decide)),aa,wonR h,aa,List.length_map,az (by omega) (by omega),aa,kT (by unfold Sm; omega) (by unfold Sm; omega) (by omega),aa,subR f1 iq f2,aa]
 rfl
set_option maxRecDepth 8000
theorem rev_ok (xs0:List Ta) (h0:0 < xs0.length) (h8:xs0.length <= 8):aj (aS_l2 FU) FU (0,((xs0.length:Nat):Int) - 1,xs0) = some xs0.reverse:=by
 have hF:=aR
 have hh:=ap (B:=aS_l2 FU) (fun s:Int × Int × List Ta=>(s.2.1 + 1).toNat) (fun s=>∃ i:Nat,s.1 = (i:Int)/\s.2.1 = ((xs0.length:Nat):Int) - 1 - (i:Int)/\2 * i <= xs0.length + 1/\s.2.2.length = xs0.length/\∀ c:Nat,c < xs0.length -> s.2.2[c]? = if c < i ∨ xs0.length - 1 < c + i then xs0[xs0.length - 1 - c]? else xs0[c]?) (fun y=>y = xs0.reverse) ?_ FU (0,((xs0.length:Nat):Int) - 1,xs0) ⟨0,rfl,by simp,by omega,rfl,fun c hc=>by rw [if_neg (by omega)]⟩ (by simp only; omega)
 ·obtain ⟨y,e,rfl⟩:=hh; exact e
 ·rintro ⟨z,w,xs⟩ J ⟨i,a0,a1,a2,a3,a4⟩ hJ
  simp only at a0 a1 a3 a4 hJ
  subst a0 a1
  unfold aS_l2
  simp only
  by_cases hlt:(i:Int) < ((xs0.length:Nat):Int) - 1 - (i:Int)
  ·have ej:((xs0.length:Nat):Int) - 1 - (i:Int) = ((xs0.length - 1 - i:Nat):Int):=by omega
   have hi:i < xs0.length:=by omega
   have hj:xs0.length - 1 - i < xs0.length:=by omega
   have g1:=a4 i hi
   have g2:=a4 (xs0.length - 1 - i) hj
   rw [if_neg (by omega),geE hi] at g1
   rw [if_neg (by omega),geE hj] at g2
   rw [if_pos hlt,ej,bC,g2,aa,bC,g1,aa,Int.toNat_natCast,aP _ (by omega),aa,bC,geE (by rw [List.length_set]; omega),aa,Int.toNat_natCast,aP _ (by rw [List.length_set]; omega),aa,az (by omega) (by omega),aa,az (by omega) (by omega),aa]
   refine hJ _ ⟨i + 1,by simp,by simp only; omega,by omega,by simp only [List.length_set]; exact a3,fun c hc=>?_⟩ (by simp only; omega)
   simp only
   rw [List.getElem?_set,List.length_set]
   by_cases c1:xs0.length - 1 - i = c
   ·subst c1
    rw [if_pos I,if_pos (by omega),if_pos (by omega),show xs0.length - 1 - (xs0.length - 1 - i) = i by omega,geE hi]
   ·rw [if_neg c1,List.getElem?_set]
    by_cases c2:i = c
    ·subst c2
     rw [if_pos I,if_pos (by omega),if_pos (by omega),geE hj]
    ·rw [if_neg c2,a4 c hc]
     by_cases c3:c < i ∨ xs0.length - 1 < c + i
     ·rw [if_pos c3,if_pos (by omega)]
     ·rw [if_neg c3,if_neg (by omega)]
  ·rw [if_neg hlt]
   refine ⟨xs,I,?_⟩
   apply List.ext_getElem?
   intro c
   by_cases hc:c < xs0.length
   ·rw [a4 c hc,List.getElem?_reverse hc]
    split
    ·rfl
    ·congr 1; omega
   ·rw [List.getElem?_eq_none (by omega),List.getElem?_eq_none (by rw [List.length_reverse]; omega)]
def stp (out:List Td) (t:Ta) (n:Int):List Td:=
 let s:=out[out.length - 1]?.getD ⟨noS,0,0⟩
 if 0 < out.length/\s.fB = t then out.set (out.length - 1) ⟨s.fB,n,s.fH + 1⟩ else out ++ [⟨t,n,1⟩]
def sAt (R:List Rat) (i:Nat):Ta:=Sg (Rat.divInt 1 2 - (R[i]?.getD 0))
def sw (R:List Rat):Nat -> List Td
 | 0=>[]
 | i + 1=>stp (sw R i) (sAt R i) ((i:Int) + 1)
def SwI (out:List Td) (i:Nat):Prop:=out.length <= i/\(∀ s ∈ out,1 <= s.fH/\s.fH <= (i:Int))/\∀ s,out[out.length - 1]? = some s -> 0 < out.length -> s.fF = (i:Int)
theorem iO {out:List Td} {t:Ta} {n:Int} (h0:0 < out.length) (e:out[out.length - 1].fB = t):stp out t n = out.set (out.length - 1) ⟨out[out.length - 1].fB,n,out[out.length - 1].fH + 1⟩:=by
 unfold stp
 rw [geE (show out.length - 1 < out.length by omega)]
 simp only [Option.getD_some]
 rw [if_pos ⟨h0,e⟩]
theorem gS {out:List Td} {t:Ta} {n:Int} (h:∀ h0:0 < out.length,out[out.length - 1].fB ≠ t):stp out t n = out ++ [⟨t,n,1⟩]:=by
 unfold stp
 simp only
 rw [if_neg]
 rintro ⟨h0,e⟩
 rw [geE (show out.length - 1 < out.length by omega)] at e
 exact h h0 e
theorem stp_in {out:List Td} {i:Nat} (h:SwI out i) (t:Ta):SwI (stp out t ((i:Int) + 1)) (i + 1):=by
 obtain ⟨h1,h2,h3⟩:=h
 by_cases hc:∃ h0:0 < out.length,out[out.length - 1].fB = t
 ·obtain ⟨h0,e⟩:=hc
  rw [iO h0 e]
  have ho:=h2 _ (List.getElem_mem (show out.length - 1 < out.length by omega))
  refine ⟨by rw [List.length_set]; omega,fun s hs=>?_,fun s hs _=>?_⟩
  ·rcases List.mem_or_eq_of_mem_set hs with hs | rfl
   ·have:=h2 s hs; omega
   ·simp only; omega
  ·rw [List.length_set,List.getElem?_set,if_pos I,if_pos (by omega)] at hs
   cases hs
   simp
 ·rw [gS fun h0 e=>hc ⟨h0,e⟩]
  refine ⟨by simp only [List.length_append,leC,leN]; omega,fun s hs=>?_,fun s hs _=>?_⟩
  ·rcases List.mem_append.1 hs with hs | hs
   ·have:=h2 s hs; omega
   ·rw [List.mem_singleton.1 hs]; simp only; omega
  ·simp at hs
   rw [<- hs]; simp
theorem lF (R:List Rat):∀ i,SwI (sw R i) i
 | 0=>⟨Nat.le_refl _,(fun s hs=>by cases hs),fun s hs h=>absurd h (by simp [sw])⟩
 | i + 1=>stp_in (lF R i) _
theorem at_fq {q:List Rat} (h:Sl q) {x:Rat} (hx:x ∈ q):FQ (Rat.divInt 1 2 - x):=
 (Bt.sub (i:=40) (Bt.of (i:=1) (j:=2) (by decide) (by decide) (by decide)) (h.b x hx) (by decide) (by decide)).fq (by decide) (by decide)
theorem swP {R:List Rat} (h:Sl R):aj (aS_l1 FU (R.map Sg)) FU (0,[]) = some (.inr (sw R R.length)):=by
 have hF:=aR
 have h8:=h.n8
 have hh:=ap (B:=aS_l1 FU (R.map Sg)) (fun s:Nat × List Td=>R.length - s.1) (fun s=>s.1 <= R.length/\s.2 = sw R s.1) (fun y=>y = .inr (sw R R.length)) ?_ FU (0,[]) ⟨Nat.zero_le _,rfl⟩ (by simp only; omega)
 ·obtain ⟨y,e,rfl⟩:=hh; exact e
 ·rintro ⟨i,xs⟩ J ⟨a1,a2⟩ hJ
  simp only at a1 a2 hJ
  unfold aS_l1
  simp only
  rw [List.length_map]
  by_cases hi:i < R.length
  ·have hx:(R.map Sg)[i]? = some (Sg R[i]):=by rw [List.getElem?_map,geE hi]; rfl
   have es:sAt R i = Sg (Rat.divInt 1 2 - R[i]):=by unfold sAt; rw [geE hi]; rfl
   obtain ⟨s1,s2,s3⟩:=lF R i
   rw [<- a2] at s1 s2 s3
   have hstep:sw R (i + 1) = stp xs (sAt R i) ((i:Int) + 1):=by rw [a2]; rfl
   have ei:((i + 1:Nat):Int) = (i:Int) + 1:=by omega
   rw [if_pos hi,hx,aa,kO (by unfold Sm; decide) (by unfold Sm; decide) (by decide),aa,exO,mU iq (h.fq _ (List.getElem_mem hi)) (at_fq h (List.getElem_mem hi)),aa,exO,<- es,ei]
   by_cases h0:0 < xs.length
   ·have hl:xs.length - 1 < xs.length:=by omega
    have ht:=s2 _ (List.getElem_mem hl)
    rw [if_pos h0,geE hl,aa]
    by_cases he:xs[xs.length - 1].fB = sAt R i
    ·rw [if_pos he,az (by omega) (by omega),aa,aP _ hl,aa,List.getElem?_set,if_pos I,if_pos hl,aa,aP _ (by rw [List.length_set]; exact hl),aa,List.set_set]
     exact hJ _ ⟨hi,by simp only; rw [hstep,iO h0 he]⟩ (by simp only; omega)
    ·rw [if_neg he,bg _ _ (by simp only [leC,leN]; omega),aa]
     exact hJ _ ⟨hi,by simp only; rw [hstep,gS fun _=>he]⟩ (by simp only; omega)
   ·rw [if_neg h0,bg _ _ (by simp only [leC,leN]; omega),aa]
    exact hJ _ ⟨hi,by simp only; rw [hstep,gS fun hh=>absurd hh h0]⟩ (by simp only; omega)
  ·rw [if_neg hi]
   exact ⟨_,rfl,by rw [a2,show i = R.length by omega]⟩
theorem swR {q:List Rat} (h:Sl q):aj (aL_l1 FU (q.map Sg)) FU (((q.length:Nat):Int) - 1,[]) = some (sw q.reverse q.length):=by
 have hF:=aR
 have h8:=h.n8; have h0:=h.n0
 have hh:=ap (B:=aL_l1 FU (q.map Sg)) (fun s:Int × List Td=>(s.1 + 1).toNat) (fun s=>∃ i:Nat,s.1 = ((q.length:Nat):Int) - 1 - (i:Int)/\i <= q.length/\s.2 = sw q.reverse i) (fun y=>y = sw q.reverse q.length) ?_ FU (((q.length:Nat):Int) - 1,[]) ⟨0,by simp,Nat.zero_le _,rfl⟩ (by simp only; omega)
 ·obtain ⟨y,e,rfl⟩:=hh; exact e
 ·rintro ⟨z,xs⟩ J ⟨i,a0,a1,a2⟩ hJ
  simp only at a0 a2 hJ
  subst a0
  unfold aL_l1
  simp only
  rw [List.length_map]
  by_cases hi:i < q.length
  ·have hz:q.length - 1 - i < q.length:=by omega
   have ez:((q.length:Nat):Int) - 1 - (i:Int) = ((q.length - 1 - i:Nat):Int):=by omega
   have hx:(q.map Sg)[q.length - 1 - i]? = some (Sg q[q.length - 1 - i]):=by rw [List.getElem?_map,geE hz]; rfl
   have es:sAt q.reverse i = Sg (Rat.divInt 1 2 - q[q.length - 1 - i]):=by unfold sAt; rw [List.getElem?_reverse hi,geE hz]; rfl
   obtain ⟨s1,s2,s3⟩:=lF q.reverse i
   rw [<- a2] at s1 s2 s3
   have hstep:sw q.reverse (i + 1) = stp xs (sAt q.reverse i) ((i:Int) + 1):=by rw [a2]; rfl
   have en:((q.length:Nat):Int) - ((q.length - 1 - i:Nat):Int) = (i:Int) + 1:=by omega
   have next:((q.length - 1 - i:Nat):Int) - 1 = ((q.length:Nat):Int) - 1 - ((i + 1:Nat):Int):=by omega
   rw [if_pos (by omega),kT (by unfold Sm; decide) (by unfold Sm; decide) (by decide),aa,ez,bC,hx,aa,subR iq (h.fq _ (List.getElem_mem hz)) (at_fq h (List.getElem_mem hz)),aa,<- es,en,az (x:=(i:Int) + 1) (by omega) (by omega),az (x:=((q.length - 1 - i:Nat):Int) - 1) (by omega) (by omega),next]
   by_cases h0:0 < xs.length
   ·have hl:xs.length - 1 < xs.length:=by omega
    have ht:=s2 _ (List.getElem_mem hl)
    have hse:=s3 _ (geE hl) h0
    rw [if_pos h0,geE hl,aa]
    by_cases he:xs[xs.length - 1].fB = sAt q.reverse i
    ·rw [if_pos he,hse,az (by omega) (by omega),aa,aP _ hl,aa,List.getElem?_set,if_pos I,if_pos hl,aa,az (x:=xs[xs.length - 1].fH + 1) (by omega) (by omega),aa,aP _ (by rw [List.length_set]; exact hl),aa,List.set_set,aa]
     exact hJ _ ⟨i + 1,rfl,hi,by simp only; rw [hstep,iO h0 he]⟩ (by simp only; omega)
    ·rw [if_neg he,aa,bg _ _ (by simp only [leC,leN]; omega),aa,aa]
     exact hJ _ ⟨i + 1,rfl,hi,by simp only; rw [hstep,gS fun _=>he]⟩ (by simp only; omega)
   ·rw [if_neg h0,aa,bg _ _ (by simp only [leC,leN]; omega),aa,aa]
    exact hJ _ ⟨i + 1,rfl,hi,by simp only; rw [hstep,gS fun hh=>absurd hh h0]⟩ (by simp only; omega)
  ·rw [if_neg (by omega)]
   exact ⟨_,rfl,by rw [a2,show i = q.length by omega]⟩
theorem Sl.rev {q:List Rat} (h:Sl q):Sl q.reverse:=⟨by rw [List.length_reverse]; exact h.n0,by rw [List.length_reverse]; exact h.n8,fun x hx=>h.b x (List.mem_reverse.1 hx)⟩
theorem mm {r:Te} {p:List Int} {k:Nat} {a b:Int} {q:List Rat} (h:Sl q) (e:ah_p FU r p (k:Int) a b = some (.ok (q.map Sg))):cK_p FU r p (k:Int) a b = some (sw q.reverse q.length,0):=by
 have h0:=h.n0; have h8:=h.n8
 unfold cK_p aS_p
 rw [e,aa,exO,rev_ok _ (by rw [List.length_map]; exact h0) (by rw [List.length_map]; exact h8),aa,<- List.map_reverse,swP h.rev,thnR,aa,exO,List.length_reverse]
theorem swingsR {r:Te} {p:List Int} {k:Nat} {a b:Int} {D:List (Int × Int)} {q:List Rat} (h:Sl q) (e2:ap_p FU r p (k:Int) a b = some (D,0)) (e3:ae_p FU D = some (q.map Sg)):aL_p FU r p (k:Int) a b = some (sw q.reverse q.length,0):=by
 unfold aL_p
 rw [e2,aa,if_pos I,e3,aa,List.length_map,swR h,aa]
set_option maxRecDepth 8000
theorem fullD (d:Tl) (m:Nat) (h2:m <= 12):∃ r,bL_p FU d m = some r/\D0 r:=by
 obtain ⟨r,e,h,_⟩:=ky ⟨2,3,2,d.fu,d.fNums⟩ m h2
 unfold bL_p
 rw [e,aa]
 exact ⟨r,I,h⟩
theorem eqWW (a:List Td) (hl:a.length <= 1000):ai_p FU a a = some true:=by
 have hF:=aR
 unfold ai_p
 rw [if_pos I]
 have hh:=ap (B:=ai_l1 FU a a) (fun i:Nat=>a.length - i) (fun _=>True) (fun y=>y = .inr ()) ?_ FU 0 trivial (by omega)
 ·obtain ⟨y,e,rfl⟩:=hh
  rw [e]; rfl
 ·intro i J _ hJ
  unfold ai_l1
  simp only
  by_cases hi:i < a.length
  ·rw [if_pos hi,geE hi,aa,aa,if_pos I]
   exact hJ _ trivial (by omega)
  ·rw [if_neg hi]; exact ⟨_,rfl,rfl⟩
theorem nc:Dn ⟨0,0,0,[]⟩:=⟨by simp,fun u hu=>by cases hu⟩
theorem ob:cR_p FU = some true:=by kernel_rfl
theorem kS (a0:Tm) (a1:Tl) (a2 a3:Tn):∃ (l:List Tk) (k:Nat),ck_p FU a0 a1 a2 a3 = some (l,(k:Int))/\l.length = 5/\1 <= k/\k <= 8/\∀ s ∈ l,Dn s.fr/\s.fp.length <= 10:=by
 have hF:=aR
 obtain ⟨p,k,e0,p1,p2,hp,k1,k2⟩:=nk FU a0 (by omega)
 obtain ⟨r,e1,hr⟩:=fullD a1 p.length (by omega)
 obtain ⟨r2,e2,hr2,_⟩:=ky a1 p.length (by omega)
 obtain ⟨r', e4,hr'⟩:=bend_ok a3 hr
 obtain ⟨p', e5,hp'⟩:=bendP a2 p1 p2
 obtain ⟨j,rfl⟩:∃ j:Nat,k = (j:Int):=⟨k.toNat,by omega⟩
 unfold ck_p
 rw [e0,aa]
 simp only
 rw [e1,aa,e2,aa,e4,aa,e5,aa]
 refine ⟨_,j,I,I,by omega,by omega,fun z hz=>?_⟩
 simp only [List.mem_cons,List.not_mem_nil,or_false] at hz
 rcases hz with rfl | rfl | rfl | rfl | rfl
 ·exact ⟨hr.dn,by simp only; omega⟩
 ·exact ⟨hr2.dn,by simp only; omega⟩
 ·exact ⟨hr', by simp only; omega⟩
 ·exact ⟨hr.dn,hp'⟩
 ·exact ⟨nc,by simp⟩
structure Four (r:Te) (p:List Int) (k:Nat) (a b:Int):Prop where
 g:∃ y,cQ_p FU r p (k:Int) a b = some y/\aV_p FU r p (k:Int) a b = some y
 m:∃ y,cJ_p FU r p (k:Int) a b = some y/\bJ_p FU r p (k:Int) a b = some y
 s:∃ y,cK_p FU r p (k:Int) a b = some y/\aL_p FU r p (k:Int) a b = some y/\y.1.length <= 1000
 b:∃ y,dA_p FU r p (k:Int) a b = some y/\aR_p FU r p (k:Int) a b = some y
theorem four_ok {r:Te} {p:List Int} {k:Nat} {a b:Int} (h:Dx r p k a b):Four r p k a b:=by
 have hg:=oz h
 rcases h with ⟨D,hD,h0,e1,e2⟩ | ⟨e,he,e1,e2⟩
 ·obtain ⟨q,q1,q2,q3,q4⟩:=kx hD e1
  have hS:=sl_of hD h0 q3
  have hl:=(lF q.reverse q.length).1
  have h8:=hS.n8
  exact ⟨hg,⟨_,mh hS q1,medianR hS e2 q2⟩,⟨_,mm hS q1,swingsR hS e2 q2,by simp only; omega⟩,⟨_,bias_of hS q1,biasR hS e2 q2⟩⟩
 ·have s1:ah_p FU r p (k:Int) a b = some (.error ⟨e⟩):=by
   unfold ah_p
   rw [e1,aa,exE]
  refine ⟨hg,⟨(noS,e),?_,?_⟩,⟨([],e),?_,?_,by simp⟩,⟨(noS,e),?_,?_⟩⟩
  ·unfold cJ_p di_p
   rw [s1,aa,exE,aa,exE]; rfl
  ·unfold bJ_p
   rw [e2,aa,if_neg he]; rfl
  ·unfold cK_p aS_p
   rw [s1,aa,exE,aa,exE]
  ·unfold aL_p
   rw [e2,aa,if_neg he]
  ·unfold dA_p cn_p
   rw [s1,aa,exE,aa,exE]; rfl
  ·unfold aR_p
   rw [e2,aa,if_neg he]; rfl
theorem eZ (a0:Tm) (a1:Tl) (a2 a3:Tn) (a4 a5:Int):aj_p FU a0 a1 a2 a3 a4 a5 = some true:=by
 have hF:=aR
 obtain ⟨l,k,e,hl,k1,k8,hs⟩:=kS a0 a1 a2 a3
 unfold aj_p
 rw [ob,aa,if_pos I,e,aa]
 have hh:=ap (B:=aj_l2 FU (l,(k:Int)) a4 a5) (fun i:Nat=>l.length - i) (fun _=>True) (fun z=>z = .inr ()) ?_ FU 0 trivial (by omega)
 ·obtain ⟨z,e,rfl⟩:=hh
  rw [e]; rfl
 ·intro i J _ hJ
  unfold aj_l2
  simp only
  by_cases hi:i < l.length
  ·obtain ⟨z1,z2⟩:=hs _ (List.getElem_mem hi)
   have hV:=vt_ok k k1 k8 z1 z2
   have nx:=hJ (i + 1) trivial (by omega)
   have hh:=ap (B:=aj_l1 FU a4 a5 l[i] (l,(k:Int))) (fun i:Nat=>3 - i) (fun _=>True) (fun z=>z = .inr ()) ?_ FU 0 trivial (by omega)
   ·obtain ⟨z,e,rfl⟩:=hh
    rw [if_pos hi,geE hi,aa,e]
    exact nx
   ·intro j J' _ hJ'
    unfold aj_l1
    simp only
    by_cases hj:j < 3
    ·obtain ⟨⟨u,v⟩,e⟩:∃ z,([((0:Int),(1:Int)),((2:Int),(1:Int)),(a4,a5)]:List (Int × Int))[j]? = some z:=⟨_,geE (by simpa using hj)⟩
     obtain ⟨⟨g,g1,g2⟩,⟨m,m1,m2⟩,⟨s,s1,s2,s3⟩,⟨b,b1,b2⟩⟩:=four_ok (du_ok hV u v)
     rw [if_pos hj,e,aa]
     simp only
     rw [g1,aa,g2,aa,m1,aa,m2,aa,if_pos I,if_pos I,if_pos I,if_pos I,s1,aa,s2,aa,b1,aa,b2,aa,eqWW _ s3,aa,if_pos I,if_pos I,if_pos I,if_pos I]
     exact hJ' (j + 1) trivial (by omega)
    ·rw [if_neg hj]; exact ⟨_,rfl,rfl⟩
  ·rw [if_neg hi]; exact ⟨_,rfl,rfl⟩
theorem fJ (a0:Tm) (a1:Tl) (a2 a3:Tn) (a4 a5:Int):∃ n,aj_p n a0 a1 a2 a3 a4 a5 = some true:=⟨FU,eZ a0 a1 a2 a3 a4 a5⟩
end Go.Proofs.YthffdckehlgmgaaGreatDoor
