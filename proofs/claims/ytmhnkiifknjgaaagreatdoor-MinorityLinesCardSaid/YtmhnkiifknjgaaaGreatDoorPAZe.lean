/- Plain laws: the sums of a line, the line and its fit: the program and the reference. No program in sight but the printed functions. -/
import Derived.Test.YtmhnkiifknjgaaaGreatDoorPAZc
namespace Go.Proofs.YtmhnkiifknjgaaaGreatDoor
open Go
set_option maxRecDepth 8000
theorem thnE {α β:Type} (x:α) (f:β -> Oa α):thn (some (.inl x)) f = some x:=rfl
theorem thnO {α β:Type} (x:β) (f:β -> Oa α):thn (some (.inr x)) f = f x:=rfl
section
variable {r:Te} {us:La Tb} {gi pi:Int}
open Classical in
theorem ask (hD:Dn r) (gi pi:Int):(∃ us,Lk r us gi pi/\bD_p FU r gi pi = some 0) ∨ ∃ e,e ≠ 0/\av_p FU r gi pi = some (.error ⟨e⟩)/\bD_p FU r gi pi = some e:=by
 unfold av_p bD_p
 rw [eE r hD.s,dM r hD.s,ab,ab]
 by_cases hv:RV r
 ·rw [if_pos hv,if_pos I,if_pos I]
  obtain ⟨us,hL,_⟩:=lnd_of hv
  by_cases c1:gi < 0
  ·rw [if_pos c1,if_pos c1]; exact .inr ⟨2,by decide,rfl,rfl⟩
  rw [if_neg c1,if_neg c1]
  by_cases c2:r.fl <= gi
  ·rw [if_pos c2,if_pos c2]; exact .inr ⟨2,by decide,rfl,rfl⟩
  rw [if_neg c2,if_neg c2]
  by_cases c3:pi < 0
  ·rw [if_pos c3,if_pos c3]; exact .inr ⟨2,by decide,rfl,rfl⟩
  rw [if_neg c3,if_neg c3]
  by_cases c4:r.fj <= pi
  ·rw [if_pos c4,if_pos c4]; exact .inr ⟨2,by decide,rfl,rfl⟩
  rw [if_neg c4,if_neg c4]
  exact .inl ⟨us,⟨hD.s,hv,hL,by omega,by omega⟩,I⟩
 ·rw [if_neg hv,if_neg (by decide),if_neg (by decide)]; exact .inr ⟨161,by decide,rfl,rfl⟩
def Vt (t:Tsums86):Prop:=Vd t.fw/\Vd t.fx/\Vd t.fy/\Vd t.fa/\Vd t.fb/\Vd t.fc/\Vd t.fd/\Vd t.fn
open Classical in
theorem fits (h:Lk r us gi pi):(∃ w x Y A B C D N,(0 <= w/\w <= 1000000000000)/\(0 <= x/\x <= 1000000000000)/\FQ Y/\FQ A/\FQ B/\FQ C/\FQ D/\FQ N/\D ≠ 0/\
   av_p FU r gi pi = some (.ok ⟨⟨w,x,Sg Y,Sg A,Sg B,Sg C⟩,Sg D,Sg N⟩)/\aj_p FU ⟨0⟩ r gi pi = some (⟨0⟩,⟨Sg (Rat.divInt w 1),Sg (Rat.divInt x 1),Sg Y,Sg A,Sg B,Sg C,Sg D,Sg N⟩)) ∨
  ∃ e,e ≠ 0/\av_p FU r gi pi = some (.error ⟨e⟩)/\∃ t,Vt t/\aj_p FU ⟨0⟩ r gi pi = some (⟨e⟩,t):=by
 have hF:=cD
 have hl:=h.v.n
 have hle:=h.l.le
 have hg:=h.g; have hp:=h.p
 have n1:(1:Int) ≠ 0:=by decide
 have s1:Sm 1:=smI (by omega)
 have h6:(6:Int) ≠ 0:=by decide
 have h7:(7:Int) ≠ 0:=by decide
 have hloop:=ld h us.length 0 FU FU I (Nat.zero_le _) (by omega) (by omega) 0 0 0 (Rat.divInt 0 1) (Rat.divInt 0 1) (Rat.divInt 0 1) (Rat.divInt 0 1) I (by unfold Bd; omega) FQ0 FQ0 FQ0 FQ0
 unfold av_p aj_p bQ_p jn
 rw [eE r h.s,if_pos h.v,ab,if_pos I,if_neg (by omega),if_neg (by omega),if_neg (by omega),if_neg (by omega),zero_p,ab,exO,iR,ab]
 simp only [decide_eq_true_eq,Bool.false_eq_true,if_false]
 rcases hloop with ⟨w,x,Y,A,B,C,hB,hY,hA,hBB,hC,e1,e2⟩ | ⟨e1,w,x,y,a,b,c,hB,hy,ha,hb,hc,e2⟩
 ·rw [e1,e2,thnO,ab]
  unfold Bd at hB
  have bw:0 <= w/\w <= 1000000000000:=by omega
  have bx:0 <= x/\x <= 1000000000000:=by omega
  have fw:FQ (Rat.divInt w 1):=fqI bw (by omega)
  have fx:FQ (Rat.divInt x 1):=fqI bx (by omega)
  simp only [gY (smI bw) s1 n1,gY (smI bx) s1 n1,eS (smI bw) s1 n1,eS (smI bx) s1 n1,ab,exO]
  have gW:∀ q,Rat.divInt w 1 = q -> FQ q:=fun q e=>e ▸ fw
  have gX:∀ q,Rat.divInt x 1 = q -> FQ q:=fun q e=>e ▸ fx
  generalize eW:Rat.divInt w 1 = W at *
  generalize eX:Rat.divInt x 1 = X at *
  have vW:=vd fw; have vX:=vd fx; have vY:=vd hY; have vA:=vd hA; have vB:=vd hBB; have vC:=vd hC
  by_cases k1:FQ (W * A)
  case neg=>
   right
   refine ⟨6,h6,by rw [(bY fw hA).2 k1,ab,exE,ab,exE],?_,?_,?_⟩
   rotate_left 2
   ·simp only [(bQ (e:=1) fw hA).2.1 k1,ab,aX vX vX h6,eK vd0 vd0 h6,h6,if_false,aX vW vB h6,aX vX vY h6]; rfl
   ·exact ⟨vW,vX,vY,vA,vB,vC,vd0,vd0⟩
  rw [(bY fw hA).1 k1,ab,exO,(bQ (e:=1) fw hA).1 k1,ab]
  simp only
  by_cases k2:FQ (X * X)
  case neg=>
   right
   refine ⟨6,h6,by rw [(bY fx fx).2 k2,ab,exE,ab,exE],?_,?_,?_⟩
   rotate_left 2
   ·simp only [(bQ (e:=1) fx fx).2.1 k2,ab,eK (vd k1) vd0 h6,h6,if_false,aX vW vB h6,aX vX vY h6,eK vd0 vd0 h6]; rfl
   ·exact ⟨vW,vX,vY,vA,vB,vC,vd0,vd0⟩
  rw [(bY fx fx).1 k2,ab,exO,(bQ (e:=1) fx fx).1 k2,ab]
  simp only
  by_cases k3:FQ (W * A - X * X)
  case neg=>
   right
   refine ⟨6,h6,by rw [(jF k1 k2).2 k3,ab,exE,ab,exE],?_,?_,?_⟩
   rotate_left 2
   ·simp only [(iM (e:=1) k1 k2).2.1 k3,ab,h6,if_false,aX vW vB h6,aX vX vY h6,eK vd0 vd0 h6]; rfl
   ·exact ⟨vW,vX,vY,vA,vB,vC,vd0,vd0⟩
  rw [(jF k1 k2).1 k3,ab,exO,ab,exO,(iM (e:=1) k1 k2).1 k3,ab]
  simp only [if_true]
  generalize W * A - X * X = D at *
  by_cases d0:Sg D = Sg (Rat.divInt 0 1)
  ·right
   refine ⟨7,h7,by rw [if_pos d0],?_,?_,?_⟩
   rotate_left 2
   ·rw [if_pos d0]
    simp only [ab,aX vW vB h7,aX vX vY h7,eK vd0 vd0 h7]; rfl
   ·exact ⟨vW,vX,vY,vA,vB,vC,vd k3,vd0⟩
  rw [if_neg d0,if_neg d0]
  have dn:D ≠ 0:=fun e=>d0 (by rw [e,eU])
  by_cases k4:FQ (W * B)
  case neg=>
   right
   refine ⟨6,h6,by rw [(bY fw hBB).2 k4,ab,exE,ab,exE],?_,?_,?_⟩
   rotate_left 2
   ·simp only [(bQ (e:=1) fw hBB).2.1 k4,ab,aX vX vY h6,eK vd0 vd0 h6]; rfl
   ·exact ⟨vW,vX,vY,vA,vB,vC,vd k3,vd0⟩
  rw [(bY fw hBB).1 k4,ab,exO,(bQ (e:=1) fw hBB).1 k4,ab]
  simp only
  by_cases k5:FQ (X * Y)
  case neg=>
   right
   refine ⟨6,h6,by rw [(bY fx hY).2 k5,ab,exE,ab,exE],?_,?_,?_⟩
   rotate_left 2
   ·simp only [(bQ (e:=1) fx hY).2.1 k5,ab,eK (vd k4) vd0 h6]; rfl
   ·exact ⟨vW,vX,vY,vA,vB,vC,vd k3,vd0⟩
  rw [(bY fx hY).1 k5,ab,exO,(bQ (e:=1) fx hY).1 k5,ab]
  simp only
  by_cases k6:FQ (W * B - X * Y)
  case neg=>
   right
   refine ⟨6,h6,by rw [(jF k4 k5).2 k6,ab,exE,ab,exE],?_,?_,?_⟩
   rotate_left 2
   ·simp only [(iM (e:=1) k4 k5).2.1 k6,ab]; rfl
   ·exact ⟨vW,vX,vY,vA,vB,vC,vd k3,vd0⟩
  rw [(jF k4 k5).1 k6,ab,exO,ab,exO,(iM (e:=1) k4 k5).1 k6,ab]
  exact .inl ⟨w,x,Y,A,B,C,D,_,bw,bx,hY,hA,hBB,hC,k3,k6,dn,rfl,by rw [eW,eX]⟩
 ·rw [e1,e2,thnE,ab]
  unfold Bd at hB
  have bw:0 <= w/\w <= 1000000000000:=by omega
  have bx:0 <= x/\x <= 1000000000000:=by omega
  have vW:=vd (fqI bw (show (0:Int) < 1/\(1:Int) <= 1000000000000 by omega))
  have vX:=vd (fqI bx (show (0:Int) < 1/\(1:Int) <= 1000000000000 by omega))
  right
  refine ⟨6,h6,I,?_,?_,?_⟩
  rotate_left 2
  ·simp only [eS (smI bw) s1 n1,eS (smI bx) s1 n1,ab,aX vW ha h6,aX vX vX h6,eK vd0 vd0 h6,h6,if_false,aX vW hb h6,aX vX hy h6]; rfl
  ·exact ⟨vW,vX,hy,ha,hb,hc,vd0,vd0⟩
end
set_option maxRecDepth 8000
section
variable {r:Te}
open Classical in
theorem lC (hD:Dn r) (gi pi:Int):∃ y,ck_p FU r gi pi = some y/\cq_p FU r gi pi = some y:=by
 have n1:(1:Int) ≠ 0:=by decide
 have s1:Sm 1:=smI (by omega)
 have h6:(6:Int) ≠ 0:=by decide
 have h7:(7:Int) ≠ 0:=by decide
 unfold ck_p cP_p cq_p
 rcases ask hD gi pi with ⟨us,h,ea⟩ | ⟨e,he,ef,ea⟩
 ·rw [ea,ab,if_pos I]
  rcases fits h with ⟨w,x,Y,A,B,C,D,N,bw,bx,hY,hA,hB,hC,hDq,hN,dn,ef,es⟩ | ⟨e,he,ef,t,⟨t1,t2,t3,t4,t5,t6,t7,t8⟩,es⟩
  ·have fw:FQ (Rat.divInt w 1):=fqI bw (by omega)
   have fx:FQ (Rat.divInt x 1):=fqI bx (by omega)
   simp only [ef,es,ab,exO,gY (smI bw) s1 n1,gY (smI bx) s1 n1]
   generalize Rat.divInt w 1 = W at *
   generalize Rat.divInt x 1 = X at *
   have vW:=vd fw; have vX:=vd fx; have vY:=vd hY
   by_cases k1:FQ (N / D)
   case neg=>
    simp only [(lS hN hDq dn).2 k1,(lv hN hDq dn).2 k1,ab,exE,aX vd0 vX h6,eK vY vd0 h6,dj _ _ h6,h6,if_false]
    exact ⟨_,I,I⟩
   simp only [(lS hN hDq dn).1 k1,(lv hN hDq dn).1 k1,ab,exO]
   by_cases k2:FQ (N / D * X)
   case neg=>
    simp only [(bY k1 fx).2 k2,(bQ (e:=1) k1 fx).2.1 k2,ab,exE,eK vY vd0 h6,dj _ _ h6,h6,if_false]
    exact ⟨_,I,I⟩
   simp only [(bY k1 fx).1 k2,(bQ (e:=1) k1 fx).1 k2,ab,exO]
   by_cases k3:FQ (Y - N / D * X)
   case neg=>
    simp only [(jF hY k2).2 k3,(iM (e:=1) hY k2).2.1 k3,ab,exE,dj _ _ h6,h6,if_false]
    exact ⟨_,I,I⟩
   simp only [(jF hY k2).1 k3,(iM (e:=1) hY k2).1 k3,ab,exO]
   by_cases w0:W = 0
   ·subst w0
    simp only [pDiv0 k3,rDiv0 k3,ab,exE,h7,if_false]
    exact ⟨_,I,I⟩
   by_cases k4:FQ ((Y - N / D * X) / W)
   case neg=>
    simp only [(lS k3 fw w0).2 k4,(lv k3 fw w0).2 k4,ab,exE,h6,if_false]
    exact ⟨_,I,I⟩
   simp only [(lS k3 fw w0).1 k4,(lv k3 fw w0).1 k4,ab,exO,if_true]
   exact ⟨_,I,I⟩
  ·simp only [ef,es,ab,exE,dj _ _ he,aX t8 t2 he,eK t3 vd0 he,he,if_false]
   exact ⟨_,I,I⟩
 ·simp only [ea,ef,ab,exE,he,if_false]
  exact ⟨_,I,I⟩
open Classical in
theorem mB (hD:Dn r) (gi pi:Int):∃ y,cU_p FU r gi pi = some y/\cA_p FU r gi pi = some y:=by
 have n1:(1:Int) ≠ 0:=by decide
 have s1:Sm 1:=smI (by omega)
 have h6:(6:Int) ≠ 0:=by decide
 have h7:(7:Int) ≠ 0:=by decide
 unfold cU_p dc_p cA_p jn
 simp only [decide_eq_true_eq,Bool.false_eq_true,if_false]
 rcases ask hD gi pi with ⟨us,h,ea⟩ | ⟨e,he,ef,ea⟩
 ·rw [ea,ab,if_pos I]
  rcases fits h with ⟨w,x,Y,A,B,C,D,N,bw,bx,hY,hA,hB,hC,hDq,hN,dn,ef,es⟩ | ⟨e,he,ef,t,⟨t1,t2,t3,t4,t5,t6,t7,t8⟩,es⟩
  ·have fw:FQ (Rat.divInt w 1):=fqI bw (by omega)
   simp only [ef,es,ab,exO,gY (smI bw) s1 n1]
   generalize Rat.divInt w 1 = W at *
   have vY:=vd hY; have vN:=vd hN; have vD:=vd hDq
   by_cases k1:FQ (W * C)
   case neg=>
    simp only [(bY fw hC).2 k1,(bQ (e:=1) fw hC).2.1 k1,ab,exE,aX vY vY h6,eK vd0 vd0 h6,aX vN vN h6,aX vD vd0 h6,dj _ _ h6,h6,if_false]
    exact ⟨_,I,I⟩
   simp only [(bY fw hC).1 k1,(bQ (e:=1) fw hC).1 k1,ab,exO]
   by_cases k2:FQ (Y * Y)
   case neg=>
    simp only [(bY hY hY).2 k2,(bQ (e:=1) hY hY).2.1 k2,ab,exE,eK (vd k1) vd0 h6,aX vN vN h6,aX vD vd0 h6,dj _ _ h6,h6,if_false]
    exact ⟨_,I,I⟩
   simp only [(bY hY hY).1 k2,(bQ (e:=1) hY hY).1 k2,ab,exO]
   by_cases k3:FQ (W * C - Y * Y)
   case neg=>
    simp only [(jF k1 k2).2 k3,(iM (e:=1) k1 k2).2.1 k3,ab,exE,aX vN vN h6,aX vD vd0 h6,dj _ _ h6,h6,if_false]
    exact ⟨_,I,I⟩
   simp only [(jF k1 k2).1 k3,(iM (e:=1) k1 k2).1 k3,zero_p,iR,ab,exO,if_true]
   generalize W * C - Y * Y = E at *
   have vE:=vd k3
   by_cases e0:Sg E = Sg (Rat.divInt 0 1)
   ·simp only [if_pos e0,ab,exE,aX vN vN h7,aX vD vE h7,dj _ _ h7,h7,if_false]
    exact ⟨_,I,I⟩
   simp only [if_neg e0]
   by_cases k4:FQ (N * N)
   case neg=>
    simp only [(bY hN hN).2 k4,(bQ (e:=1) hN hN).2.1 k4,ab,exE,aX vD vE h6,dj _ _ h6,h6,if_false]
    exact ⟨_,I,I⟩
   simp only [(bY hN hN).1 k4,(bQ (e:=1) hN hN).1 k4,ab,exO]
   by_cases k5:FQ (D * E)
   case neg=>
    simp only [(bY hDq k3).2 k5,(bQ (e:=1) hDq k3).2.1 k5,ab,exE,dj _ _ h6,h6,if_false]
    exact ⟨_,I,I⟩
   simp only [(bY hDq k3).1 k5,(bQ (e:=1) hDq k3).1 k5,ab,exO]
   generalize D * E = F at *
   by_cases w0:F = 0
   ·subst w0
    simp only [pDiv0 k4,rDiv0 k4,ab,exE,h7,if_false]
    exact ⟨_,I,I⟩
   by_cases k6:FQ (N * N / F)
   case neg=>
    simp only [(lS k4 k5 w0).2 k6,(lv k4 k5 w0).2 k6,ab,exE,h6,if_false]
    exact ⟨_,I,I⟩
   simp only [(lS k4 k5 w0).1 k6,(lv k4 k5 w0).1 k6,ab,exO,if_true]
   exact ⟨_,I,I⟩
  ·simp only [ef,es,ab,exE,aX t1 t6 he,aX t3 t3 he,eK vd0 vd0 he,he,if_false,aX t8 t8 he,aX t7 vd0 he,dj _ _ he]
   exact ⟨_,I,I⟩
 ·simp only [ea,ef,ab,exE,he,if_false]
  exact ⟨_,I,I⟩
end
theorem fullD (d:Tk) (m:Nat) (h2:m <= 12):∃ r,bn_p FU d m = some r/\D0 r:=by
 obtain ⟨r,e,h,_⟩:=jI ⟨2,3,2,d.fp,d.fNums⟩ m h2
 unfold bn_p
 rw [e,ab]
 exact ⟨r,I,h⟩
theorem mu:Dn ⟨0,0,0,[]⟩:=⟨by simp,fun u hu=>by cases hu⟩
theorem mW:cB_p FU = some true:=by kernel_rfl
theorem mO (r:Te) (hr:D0 r) (big:La UInt32):∃ xs,au (ai_l3 FU r big) FU (0,r.fv) = some xs/\Dn ⟨r.fl,r.fj,r.fm,xs⟩:=by
 have hF:=cD
 have hn:=hr.n
 have hh:=aw (B:=ai_l3 FU r big) (fun s:Nat × La Tb=>r.fv.length - s.1) (fun s=>s.2.length = r.fv.length/\∀ u ∈ s.2,Sm4 u) (fun t=>t.length = r.fv.length/\∀ u ∈ t,Sm4 u) ?_ FU (0,r.fv) ⟨rfl,hr.s⟩ (by simp only; omega)
 ·obtain ⟨xs,e,h1,h2⟩:=hh
  exact ⟨xs,e,⟨by simp only; omega,h2⟩⟩
 ·rintro ⟨i,xs⟩ J ⟨h1,h2⟩ hJ
  simp only at h1 h2 hJ
  unfold ai_l3 jn
  simp only
  by_cases c0:i < r.fv.length
  ·have hi:i < xs.length:=by omega
   have hu:=h2 _ (List.getElem_mem hi)
   rw [if_pos c0,geE hi,ab]
   by_cases c1:0 < big.length
   ·rw [if_pos c1]
    by_cases c2:xs[i].fp = true
    ·rw [if_pos c2]; exact hJ _ ⟨h1,h2⟩ (by simp only; omega)
    ·obtain ⟨j,hj,e⟩:=mU i big.length c1
     rw [if_neg c2,e,ab,idxK hj,ab,bh _ hi,ab,geE (by simpa using hi),ab,bh _ (by simpa using hi),ab,geE (by simpa using hi),ab,bh _ (by simpa using hi),ab]
     refine hJ _ ⟨by simp only [List.length_set]; exact h1,?_⟩ (by simp only; omega)
     simp only [List.set_set,List.getElem_set_self]
     intro u hm
     rcases List.mem_or_eq_of_mem_set hm with hm | rfl
     ·exact h2 u hm
     ·exact ⟨hu.n,by simp only [leC,leN]; omega,by simp only [leC,leN]; omega,hu.q⟩
   ·rw [if_neg c1]; exact hJ _ ⟨h1,h2⟩ (by simp only; omega)
  ·rw [if_neg c0]; exact ⟨_,rfl,h1,h2⟩
theorem mQ {s:Te} (hs:Dn s) (a4 a5:Int):au (ai_l1 FU a4 a5 s) FU 0 = some (.inr ()):=by
 have hF:=cD
 have hh:=aw (B:=ai_l1 FU a4 a5 s) (fun i:Nat=>3 - i) (fun _=>True) (fun y=>y = .inr ()) ?_ FU 0 trivial (by omega)
 ·obtain ⟨y,e,rfl⟩:=hh; exact e
 ·intro i J _ hJ
  unfold ai_l1
  simp only
  by_cases hi:i < 3
  ·have hl:i < ([((0:Int),(0:Int)),((1:Int),(2:Int)),(a4,a5)]:La (Int × Int)).length:=hi
   rw [if_pos hi,geE hl,ab]
   generalize ([((0:Int),(0:Int)),((1:Int),(2:Int)),(a4,a5)]:La (Int × Int))[i] = z
   obtain ⟨y,y1,y2⟩:=lC hs z.1 z.2
   obtain ⟨v,v1,v2⟩:=mB hs z.1 z.2
   rw [y1,ab,y2,ab,v1,ab,v2,ab,if_pos I,if_pos I,if_pos I,if_pos I,if_pos I]
   exact hJ _ trivial (by omega)
  ·rw [if_neg hi]; exact ⟨_,rfl,rfl⟩
theorem eO (a0:UInt8) (a1:Tk) (a2:TBend) (a3:La UInt32) (a4 a5:Int):ai_p FU a0 a1 a2 a3 a4 a5 = some true:=by
 have hF:=cD
 have h12:1 + (a0 % 12).toNat <= 12:=by rw [UInt8.toNat_mod]; have:=Nat.mod_lt a0.toNat (show 0 < (12:UInt8).toNat by decide); have e:(12:UInt8).toNat = 12:=rfl; omega
 obtain ⟨r,e1,hr⟩:=fullD a1 (1 + (a0 % 12).toNat) h12
 obtain ⟨xs,e2,hx⟩:=mO r hr a3
 obtain ⟨r', e4,hr'⟩:=bend_ok a2 hr
 obtain ⟨r2,e5,hr2,_⟩:=jI a1 4 (by omega)
 unfold ai_p
 rw [mW,ab,if_pos I,e1,ab,ab,e2,ab,e4,ab,show (4:Int) = ((4:Nat):Int) from I,e5,ab]
 have hall:∀ z ∈ ([r,⟨r.fl,r.fj,r.fm,xs⟩,r', r2,⟨0,0,0,[]⟩]:La Te),Dn z:=fun z hz=>by
  simp only [List.mem_cons,List.not_mem_nil,or_false] at hz
  rcases hz with rfl | rfl | rfl | rfl | rfl
  ·exact hr.dn
  ·exact hx
  ·exact hr'
  ·exact hr2.dn
  ·exact mu
 have hh:=aw (B:=ai_l2 FU r r xs r' r2 a4 a5) (fun i:Nat=>5 - i) (fun _=>True) (fun y=>y = .inr ()) ?_ FU 0 trivial (by omega)
 ·obtain ⟨y,e,rfl⟩:=hh
  rw [e]; rfl
 ·intro i J _ hJ
  unfold ai_l2
  simp only
  by_cases hi:i < 5
  ·have hl:i < ([r,⟨r.fl,r.fj,r.fm,xs⟩,r', r2,⟨0,0,0,[]⟩]:La Te).length:=hi
   have z1:=hall _ (List.getElem_mem hl)
   rw [if_pos hi,geE hl,ab,mQ z1 a4 a5,thnO]
   exact hJ _ trivial (by omega)
  ·rw [if_neg hi]; exact ⟨_,rfl,rfl⟩
theorem eY (a0:UInt8) (a1:Tk) (a2:TBend) (a3:La UInt32) (a4 a5:Int):∃ n,ai_p n a0 a1 a2 a3 a4 a5 = some true:=⟨FU,eO a0 a1 a2 a3 a4 a5⟩
end Go.Proofs.YtmhnkiifknjgaaaGreatDoor
