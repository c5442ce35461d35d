import Derived.Test.YtkimkkgicmipbaaGreatDoorProg
import Derived.Test.YtkimkkgicmipbaaGreatDoorVZr
namespace Go.Proofs.YtkimkkgicmipbaaGreatDoor
open Go Go.RowKit Tryz
set_option maxRecDepth 4000
set_option maxHeartbeats 4000000
abbrev Cl := Calls Tryz.prog
theorem bd (k:Nat) (h:cr Tryz.prog k=true:=by kernel_rfl):cr Tryz.prog k=true:=h

structure Th where
  fw:UInt8
  fh:UInt8
  fA:UInt16
  fC:Lb (UInt8×UInt8)
  deriving DecidableEq
instance:Rep Th:=Rep.via (β:=UInt8×UInt8×UInt16×(List (UInt8×UInt8))) fun x=>(x.fw,x.fh,x.fA,x.fC)
structure Tc where
  fN:Int
  fo:Lb (Int×Int)
  deriving DecidableEq
instance:Rep Tc:=Rep.via (β:=Int×(List (Int×Int))) fun x=>(x.fN,x.fo)
def tab0:Lb UInt8:=[0,1,56,2,57,49,28,3,61,58,42,50,38,29,17,4,62,47,59,36,45,43,51,22,53,39,33,30,24,18,12,5,63,55,48,27,60,41,37,16,46,35,44,21,52,32,23,11,54,26,40,15,34,20,31,10,25,14,19,9,13,8,7,6]
theorem jG {w:World} {L:Lb Nat} {cs:Lb Vc} {x:UInt8×UInt8} (h:Rep.R w L cs x):cs=[.int .u8 (x.1.toNat:Int),.int .u8 (x.2.toNat:Int)]:=by
  obtain ⟨c0,r0,rfl,h0,h⟩:=h
  have e0:c0=[.int .u8 (x.1.toNat:Int)]:=h0; subst e0
  have e1:r0=[.int .u8 (x.2.toNat:Int)]:=h; subst e1
  rfl
theorem dx {w:World} {L:Lb Nat} {cs:Lb Vc} {x:Int×Int} (h:Rep.R w L cs x):cs=[vI x.1,vI x.2]:=by
  obtain ⟨c0,r0,rfl,h0,h⟩:=h
  have e0:c0=[vI x.1]:=h0; subst e0
  have e1:r0=[vI x.2]:=h; subst e1
  rfl
theorem ez {w:World} {L:Lb Nat} (a0:Int) (a1:Int):Rep.R w L [vI a0,vI a1] ((a0,a1):Int×Int):=⟨[vI a0],[vI a1],rfl,rfl,rfl⟩
theorem kl:ElT Tryz.prog 30 59 (Rep.size (Int×Int)) 16 (.agg #[vI 0,vI 0]) [vI 0,vI 0]:=⟨underlying30,by kernel_rfl,rfl,rfl,rfl,rfl⟩
def aa_l1 (_n:Nat) (a0:Th) (q0:Int) (k0:Int) (p0:Int) (c0:Bool×Nat->Oa Bool):Bool×Nat->Oa Bool
  | (d0,b0)=>(if b0<a0.fC.length then (if b0<3 then (a0.fC[b0]?).bind fun s0=>(cD ((s0.1.toNat:Nat):Int) q0).bind fun g0=>(cD ((s0.2.toNat:Nat):Int) q0).bind fun j0=>(if d0=true then c0 (true,b0+1) else (if g0=k0 then (if j0=p0 then c0 (true,b0+1) else (if g0=p0 then c0 ((decide (j0=k0)),b0+1) else c0 (false,b0+1))) else (if g0=p0 then c0 ((decide (j0=k0)),b0+1) else c0 (false,b0+1)))) else some d0) else some d0)
def aa_l2 (_n:Nat) (a0:Th) (q0:Int) (k0:Int) (p0:Int) (c0:Bool×Nat->Oa Bool):Bool×Nat->Oa Bool
  | (d0,b0)=>(if b0<a0.fC.length then (if b0<3 then (a0.fC[b0]?).bind fun s0=>(cD ((s0.1.toNat:Nat):Int) q0).bind fun g0=>(cD ((s0.2.toNat:Nat):Int) q0).bind fun j0=>(if d0=true then c0 (true,b0+1) else (if g0=k0 then (if j0=p0 then c0 (true,b0+1) else (if g0=p0 then c0 ((decide (j0=k0)),b0+1) else c0 (false,b0+1))) else (if g0=p0 then c0 ((decide (j0=k0)),b0+1) else c0 (false,b0+1)))) else some d0) else some d0)
def aa_l3 (_n:Nat) (a0:Th) (q0:Int) (k0:Int) (p0:Int) (c0:Bool×Nat->Oa Bool):Bool×Nat->Oa Bool
  | (d0,b0)=>(if b0<a0.fC.length then (if b0<3 then (a0.fC[b0]?).bind fun s0=>(cD ((s0.1.toNat:Nat):Int) q0).bind fun g0=>(cD ((s0.2.toNat:Nat):Int) q0).bind fun j0=>(if d0=true then c0 (true,b0+1) else (if g0=k0 then (if j0=p0 then c0 (true,b0+1) else (if g0=p0 then c0 ((decide (j0=k0)),b0+1) else c0 (false,b0+1))) else (if g0=p0 then c0 ((decide (j0=k0)),b0+1) else c0 (false,b0+1)))) else some d0) else some d0)
def aa_l4 (_n:Nat) (a0:Th) (q0:Int) (k0:Int) (p0:Int) (c0:Bool×Nat->Oa Bool):Bool×Nat->Oa Bool
  | (d0,b0)=>(if b0<a0.fC.length then (if b0<3 then (a0.fC[b0]?).bind fun s0=>(cD ((s0.1.toNat:Nat):Int) q0).bind fun g0=>(cD ((s0.2.toNat:Nat):Int) q0).bind fun j0=>(if d0=true then c0 (true,b0+1) else (if g0=k0 then (if j0=p0 then c0 (true,b0+1) else (if g0=p0 then c0 ((decide (j0=k0)),b0+1) else c0 (false,b0+1))) else (if g0=p0 then c0 ((decide (j0=k0)),b0+1) else c0 (false,b0+1)))) else some d0) else some d0)
def aa_l5 (n:Nat) (j0:Int) (d0:Int) (a0:Th) (k0:Int×Int×(Lb (Int×Int))->Oa (Int×(Lb (Int×Int)))):Int×Int×(Lb (Int×Int))->Oa (Int×(Lb (Int×Int)))
  | (c0,b0,g0)=>(if b0<j0 then (chk (d0+((1+((a0.fw%(4:UInt8)).toNat):Nat):Int))).bind fun I0=>(if b0=I0 then (cD c0 2).bind fun J0=>(if J0=1 then (iv c0 2).bind fun K0=>(cD K0 16).bind fun M0=>jn (fun C0=>(chk (c0+1)).bind fun P0=>jn (fun D0=>jn (fun j1=>(chk (b0+1)).bind fun Q0=>k0 (P0,Q0,j1)) (fun t0=>(if D0=true then (app g0 ([(d0,b0)]:Lb (Int×Int))).bind fun k1=>t0 k1 else t0 g0))) (fun y0=>Option.bind (ah (aa_l1 n a0 j0 d0 b0) n (C0,0)) (y0))) (fun s0=>(if (((shr16 a0.fA ((ac M0).toNat))&&&(1:UInt16)).toNat)=1 then s0 false else s0 true)) else (chk (c0+1)).bind fun R0=>jn (fun E0=>jn (fun p1=>(chk (b0+1)).bind fun U0=>k0 (R0,U0,p1)) (fun u0=>(if E0=true then (app g0 ([(d0,b0)]:Lb (Int×Int))).bind fun q1=>u0 q1 else u0 g0))) (fun z0=>Option.bind (ah (aa_l2 n a0 j0 d0 b0) n (true,0)) (z0))) else (chk (d0+1)).bind fun V0=>(if b0=V0 then (cD b0 ((1+((a0.fw%(4:UInt8)).toNat):Nat):Int)).bind fun q0=>jn (fun (x1,F0)=>jn (fun G0=>jn (fun s1=>(chk (b0+1)).bind fun W0=>k0 (x1,W0,s1)) (fun v0=>(if G0=true then (app g0 ([(d0,b0)]:Lb (Int×Int))).bind fun t1=>v0 t1 else v0 g0))) (fun A0=>Option.bind (ah (aa_l3 n a0 j0 d0 b0) n (F0,0)) (A0))) (fun p0=>(if q0=0 then p0 (c0,(!(decide (q0=0)))) else (cD c0 2).bind fun X0=>(if X0=1 then (iv c0 2).bind fun Y0=>(cD Y0 16).bind fun Z0=>(if (((shr16 a0.fA ((ac Z0).toNat))&&&(1:UInt16)).toNat)=1 then (chk (c0+1)).bind fun b1=>p0 (b1,false) else (chk (c0+1)).bind fun c1=>p0 (c1,(!(decide (q0=0))))) else (chk (c0+1)).bind fun d1=>p0 (d1,(!(decide (q0=0))))))) else jn (fun H0=>jn (fun u1=>(chk (b0+1)).bind fun g1=>k0 (c0,g1,u1)) (fun x0=>(if H0=true then (app g0 ([(d0,b0)]:Lb (Int×Int))).bind fun v1=>x0 v1 else x0 g0))) (fun B0=>Option.bind (ah (aa_l4 n a0 j0 d0 b0) n (false,0)) (B0)))) else some (c0,g0))
def aa_l6 (n:Nat) (c0:Int) (a0:Th) (g0:Int×Int×(Lb (Int×Int))->Oa (Lb (Int×Int))):Int×Int×(Lb (Int×Int))->Oa (Lb (Int×Int))
  | (q0,b0,d0)=>(if b0<c0 then (chk (b0+1)).bind fun j0=>Option.bind (ah (aa_l5 n c0 b0 a0) n (q0,j0,d0)) (fun (s0,p0)=>(chk (b0+1)).bind fun k0=>g0 (s0,k0,p0)) else some d0)
def aa_p (n:Nat) (a0:Th):Oa Tc:=
  (chk (((1+((a0.fw%(4:UInt8)).toNat):Nat):Int)*((1+((a0.fh%(3:UInt8)).toNat):Nat):Int))).bind fun b0=>Option.bind (ah (aa_l6 n b0 a0) n (0,0,([]:Lb (Int×Int)))) (fun c0=>some (⟨b0,c0⟩:Tc))
theorem aa_c (n:Nat) {L w} (hL:hl L w) (a0:Th) {v0_3:Vc} (h0_3:Rep.R w L [v0_3] a0.fC)  {r:Tc} (h:aa_p n a0=some r) :
 Cl 12 #[.agg #[.int .u8 (a0.fw.toNat:Int),.int .u8 (a0.fh.toNat:Int),.int .u16 (a0.fA.toNat:Int),v0_3]] w (aj w fun w' u=>∃ v0_1:Vc,u=.agg #[vI r.fN,v0_1]/\Rep.R w' L [v0_1] r.fo):=by
 unfold aa_p at h
 refine AJ func12 I I I fun _ cs0 hb0=>Ae<|RG.bx (AI w) I I fun w11 g0 b6 M9=>RG.nl [vI 0,vN] b6 fun w16 j0 E2 P9=>Aa<|Ai<|du 12 fun P0 R0=>Rv 0 P0 I R0 (fun _=>Bv 0 I)<|Rx 1 3100 P0 I R0 (Ay I ((E2.memA .t1) 0 _ I))<|Rv 2 P0 I R0 (fun _=>FV.rem8 (a:=a0.fw) (b:=(4:UInt8)) I I (by decide)) ?_
 have c00:=(a0.fw%(4:UInt8)).toNat_lt
 refine Rv 3 P0 I R0 (fun _=>FV.convN (i:=(a0.fw%(4:UInt8)).toNat) underlying5 underlying3 I (by omega))<|Rv 4 P0 I R0 (fun _=>AW (i:=1) (j:=(a0.fw%(4:UInt8)).toNat) I I (by omega))<|Rv 5 P0 I R0 (fun _=>Bv 1 I)<|Rx 6 2944 P0 I R0 (Ay I ((E2.memA .t1) 1 _ I))<|Rv 7 P0 I R0 (fun _=>FV.rem8 (a:=a0.fh) (b:=(3:UInt8)) I I (by decide)) ?_
 have d00:=(a0.fh%(3:UInt8)).toNat_lt
 refine Rv 8 P0 I R0 (fun _=>FV.convN (i:=(a0.fh%(3:UInt8)).toNat) underlying5 underlying3 I (by omega))<|Rv 9 P0 I R0 (fun _=>AW (i:=1) (j:=(a0.fh%(3:UInt8)).toNat) I I (by omega))<|Rv 10 P0 I R0 (fun _=>Bi I)<|Rv 11 P0 I R0 (fun _=>Bi I)<|AQ (dk P0)<|Ae<|Ab I<|Ab I<|bk h fun d0 t7 h=>Ac (FV.mulc (i:=((1+((a0.fw%(4:UInt8)).toNat):Nat):Int)) (j:=((1+((a0.fh%(3:UInt8)).toNat):Nat):Int)) I I t7)<|Ac (Bj (vs:=[vI d0]) (u:=.agg #[vI d0,vN]) (e1 I) (fun p=>by kernel_rfl))<|RG.nl [vI 0,vN] E2 fun w26 k0 c6 Q9=>Bl [vI d0,vN] c6 .hd (aC I) fun w30 H3 R9=>Aa<|Ae<|Af I<|Aa<|Ai<|Ae<|Af I<|Aa<|Aq ?_
 have F2:=H3.nilRow 59 (Rep.size (Int×Int))
 have U9:=BW H3 59 (Rep.size (Int×Int))
 have I3:=F2.nilRow 59 (Rep.size (Int×Int))
 have W9:=AD (cs:=[]) (xs:=([]:Lb (Int×Int))) I3 L (AK _ _)
 obtain ⟨v00,Y6,W6⟩:=ai h
 refine MX.lf (α:=Int×Int×(Lb (Int×Int))×Vc×(Lb Vc)) (fun ⟨G1,b0,U0,Q0,q1⟩=>[(1,vP g0),(2,vP j0),(3,vI ((1+((a0.fw%(4:UInt8)).toNat):Nat):Int)),(5,vP k0),(6,vI G1),(7,vI b0)]) (fun ⟨G1,b0,U0,Q0,q1⟩=>[rr w 59 (Int×Int) vN (([]:Lb (Int×Int)).length) [],rr w 59 (Int×Int) Q0 U0.length q1,.cells k0 [vI d0,Q0] 32,.cells j0 [vI 0,vN] 32,.cells g0 [.int .u8 (a0.fw.toNat:Int),.int .u8 (a0.fh.toNat:Int),.int .u16 (a0.fA.toNat:Int),v0_3] 25]) (fun ⟨G1,b0,U0,Q0,q1⟩ F4=>Cells F4 (bl [rr w 59 (Int×Int) vN (([]:Lb (Int×Int)).length) [],rr w 59 (Int×Int) Q0 U0.length q1,.cells k0 [vI d0,Q0] 32,.cells j0 [vI 0,vN] 32,.cells g0 [.int .u8 (a0.fw.toNat:Int),.int .u8 (a0.fh.toNat:Int),.int .u16 (a0.fA.toNat:Int),v0_3] 25]++L) q1 U0) (fun ⟨G1,b0,U0,Q0,q1⟩=>(G1,b0,U0)) (0,0,([]:Lb (Int×Int)),vN,[]) Y6 I3 (Ar (AD (cs:=[]) (xs:=([]:Lb (Int×Int))) F2 L (AK _ _)) (BW F2 59 (Rep.size (Int×Int)))) ?_
 rintro Y8 ⟨G1,b0,U0,Q0,q1⟩ F4 Z5 W1 z6 d4 h
 unfold aa_l6 at h
 try dsimp only at h
 refine Ai<|Ae<|Ab I<|Bh 0 I<|AG I ((W1.memA .t2) 0 _ I)<|Ac (BR (i:=b0) (j:=d0) I I)<|Aa<|AO I h (fun M4 h=>?_) (fun M4 h=>?_)
 refine Am<|Ai<|Aq<|Ae<|Ab I<|bk h fun v8 u7 h=>Ac (Bu (i:=b0) (j:=1) I I u7)<|Af I<|Aa<|Aq ?_
 obtain ⟨x00,Z6,X6⟩:=ai h
 refine MX.lf (α:=Int×Int×(Lb (Int×Int))×Vc×(Lb Vc)) (fun ⟨C0,c0,v0,p0,x0⟩=>[(1,vP g0),(2,vP j0),(3,vI ((1+((a0.fw%(4:UInt8)).toNat):Nat):Int)),(5,vP k0),(6,vI C0),(7,vI b0),(8,vI c0)]) (fun ⟨C0,c0,v0,p0,x0⟩=>[rr w 59 (Int×Int) vN (([]:Lb (Int×Int)).length) [],rr w 59 (Int×Int) p0 v0.length x0,.cells k0 [vI d0,p0] 32,.cells j0 [vI 0,vN] 32,.cells g0 [.int .u8 (a0.fw.toNat:Int),.int .u8 (a0.fh.toNat:Int),.int .u16 (a0.fA.toNat:Int),v0_3] 25]) (fun ⟨C0,c0,v0,p0,x0⟩ G4=>Cells G4 (bl [rr w 59 (Int×Int) vN (([]:Lb (Int×Int)).length) [],rr w 59 (Int×Int) p0 v0.length x0,.cells k0 [vI d0,p0] 32,.cells j0 [vI 0,vN] 32,.cells g0 [.int .u8 (a0.fw.toNat:Int),.int .u8 (a0.fh.toNat:Int),.int .u16 (a0.fA.toNat:Int),v0_3] 25]++L) x0 v0) (fun ⟨C0,c0,v0,p0,x0⟩=>(C0,c0,v0)) (G1,v8,U0,Q0,q1) Z6 W1 d4 ?_
 rintro Z8 ⟨C0,c0,v0,p0,x0⟩ G4 p2 H0 X1 V0 h
 unfold aa_l5 at h
 try dsimp only at h
 refine Ai<|Ae<|Ab I<|Bh 0 I<|AG I ((H0.memA .t2) 0 _ I)<|Ac (BR (i:=c0) (j:=d0) I I)<|Aa<|AO I h (fun P4 h=>?_) (fun P4 h=>?_)
 refine Am<|Ai<|Aq<|Ae<|Ab I<|Ab I<|Ab I<|bk h fun x8 v7 h=>Ac (Bu (i:=b0) (j:=((1+((a0.fw%(4:UInt8)).toNat):Nat):Int)) I I v7)<|Ac (BT (i:=c0) (j:=x8) I I)<|Ab I<|BD (s:=46) I h (fun Q4 h=>?_) (fun Q4 h=>?_)
 refine Aj<|Aj<|Aj<|Aj<|Aj<|BU<|BU<|BU<|BU<|Aj<|Bm I I<|Af I<|Aa<|Ai<|Ae<|Ab I<|Aa<|Ba I<|Ai<|Ae<|Ab I<|bk h fun y8 x7 h=>Ac (FV.remc (i:=C0) (j:=2) I I x7)<|Ac (BT (i:=y8) (j:=1) I I)<|Ab I<|BD (s:=62) I h (fun R4 h=>?_) (fun R4 h=>?_)
 refine RG.fg 2 I<|Au (Ay I ((H0.memA .t4) 2 _ I))<|Au (Ah I)<|bk h fun z8 y7 h=>Au (FV.quoc (i:=C0) (j:=2) I I y7)<|bk h fun z2 z7 h=>Au (FV.remc (i:=z8) (j:=16) I I z7)<|Au (FV.convU (i:=z2) underlying3 underlying106 I)<|Au (FV.shr16 (a:=a0.fA) (j:=(ac z2).toNat) I I)<|Au (FV.and16 (a:=shr16 a0.fA ((ac z2).toNat)) (b:=(1:UInt16)) I I)<|Au (FV.eqlN (i:=((shr16 a0.fA ((ac z2).toNat))&&&(1:UInt16)).toNat) (j:=1) I I)<|Bm I I<|Aa<|MX.jo (α:=Bool) (fun M1=>[(1,vP g0),(2,vP j0),(3,vI ((1+((a0.fw%(4:UInt8)).toNat):Nat):Int)),(5,vP k0),(6,vI C0),(7,vI b0),(8,vI c0),(9,.bool M1)]) (fun M1=>[rr w 59 (Int×Int) vN (([]:Lb (Int×Int)).length) [],rr w 59 (Int×Int) p0 v0.length x0,.cells k0 [vI d0,p0] 32,.cells j0 [vI 0,vN] 32,.cells g0 [.int .u8 (a0.fw.toNat:Int),.int .u8 (a0.fh.toNat:Int),.int .u16 (a0.fA.toNat:Int),v0_3] 25]) (fun M1=>M1) H0 h ?_ ?_
 rintro M1 Y00 J3 U2 h
 try dsimp only at h
 refine Ak<|Ab I<|bk h fun A2 A7 h=>Ac (Bu (i:=C0) (j:=1) I I A7)<|Af I<|Aa<|Ai<|Ae<|Af I<|Aa<|Aq<|MX.xo (α:=Bool) 4 (fun Y1=>[(1,vP g0),(2,vP j0),(3,vI ((1+((a0.fw%(4:UInt8)).toNat):Nat):Int)),(5,vP k0),(6,vI A2),(7,vI b0),(8,vI c0),(9,.bool Y1)]) (fun Y1=>[rr w 59 (Int×Int) vN (([]:Lb (Int×Int)).length) [],rr w 59 (Int×Int) p0 v0.length x0,.cells k0 [vI d0,p0] 32,.cells j0 [vI 0,vN] 32,.cells g0 [.int .u8 (a0.fw.toNat:Int),.int .u8 (a0.fh.toNat:Int),.int .u16 (a0.fA.toNat:Int),v0_3] 25]) (fun Y1=>Y1) J3 I h ?_ ?_
 rintro Y1 Z00 s2 V2 h
 try dsimp only at h
 refine Ae<|Ab I<|Aa<|MX.jf (α:=(Lb (Int×Int))×Vc×(Lb Vc)) (fun ⟨b1,W0,s1⟩=>[(1,vP g0),(2,vP j0),(3,vI ((1+((a0.fw%(4:UInt8)).toNat):Nat):Int)),(5,vP k0),(6,vI A2),(7,vI b0),(8,vI c0)]) (fun ⟨b1,W0,s1⟩=>[rr w 59 (Int×Int) vN (([]:Lb (Int×Int)).length) [],rr w 59 (Int×Int) W0 b1.length s1,.cells k0 [vI d0,W0] 32,.cells j0 [vI 0,vN] 32,.cells g0 [.int .u8 (a0.fw.toNat:Int),.int .u8 (a0.fh.toNat:Int),.int .u16 (a0.fA.toNat:Int),v0_3] 25]) (fun ⟨b1,W0,s1⟩ H4=>Cells H4 (bl [rr w 59 (Int×Int) vN (([]:Lb (Int×Int)).length) [],rr w 59 (Int×Int) W0 b1.length s1,.cells k0 [vI d0,W0] 32,.cells j0 [vI 0,vN] 32,.cells g0 [.int .u8 (a0.fw.toNat:Int),.int .u8 (a0.fh.toNat:Int),.int .u16 (a0.fA.toNat:Int),v0_3] 25]++L) s1 b1) (fun ⟨b1,W0,s1⟩=>b1) s2 h ?_ ?_
 rintro ⟨b1,W0,s1⟩ H4 d6 A6 J6 h
 try dsimp only at h
 refine Ao<|Ak<|Ab I<|bk h fun A8 B7 h=>Ac (Bu (i:=c0) (j:=1) I I B7)<|Af I<|Aa<|p2 (A2,A8,b1,W0,s1) d6 (Tt X1 (Tt U2 (Tt V2 A6))) J6 h
 intro d9 A3 h
 try dsimp only at h
 refine MX.ifb I h (fun U4 h=>?_) (fun U4 h=>?_)
 refine Ak<|Bh 1 I<|AG I ((s2.memA .t2) 1 _ I)<|Ab I<|Ab I<|Ac (Bj (vs:=[vI b0,vI c0]) (u:=.agg #[vI b0,vI c0]) (e2 I I) (fun p=>by kernel_rfl))<|Av .plain I (AS (α:=Int×Int) (xs:=([(b0,c0)]:Lb (Int×Int))) (vs:=[.agg #[vI b0,vI c0]]) (ds' :=[vI b0,vI c0]) I s2 kl I (e1 I) (by kernel_rfl) I) fun G00 z9 G2 M3=>bk h fun M8 p8 h=>RG.doesL .plain I (AL (α:=Int×Int) (ys:=([(b0,c0)]:Lb (Int×Int))) p8 G2 (fun _ _=>.t2) kl I I (Ar V0 (Tt U2 (Tt V2 M3))) (Bx (α:=Int×Int) G2 .hd (AD (cs:=[vI b0,vI c0]) (xs:=(([(b0,c0)]:Lb (Int×Int)):Lb (Int×Int))) G2 L (AE (cs:=[vI b0,vI c0]) (ds:=[]) (ez b0 c0) (AK _ _))))) fun s3 H00 ⟨V5,H2,B6,K6⟩=>Bh 1 I<|RG.now .plain (BI (j:=1) (old:=[vI d0,p0]) (news:=[s3]) (new' :=[vI d0,s3]) H2 .t3 I I I (St.c1 (α:=Int×Int) H2 .t2) I I (o1 (St.o1 (α:=Int×Int) H2 .t2)) I) fun I00 g6 P3=>Aa ?_
 obtain ⟨j6,Q3⟩:=AX g6 .d1
 exact A3 (M8,s3,V5) j6 (Tt M3 (Tt B6 (Tt P3 Q3))) (Ar K6 (Tt P3 Q3)) h
 refine Am<|A3 (v0,p0,x0) s2 (By _ _) (Ar V0 (Tt U2 V2)) h
 intro c9 z3 h
 try dsimp only at h
 obtain ⟨y00,b7,q4⟩:=ai h
 refine MX.lo (α:=Bool×Nat) (fun ⟨C1,D0⟩=>[(1,vP g0),(2,vP j0),(3,vI ((1+((a0.fw%(4:UInt8)).toNat):Nat):Int)),(5,vP k0),(6,vI A2),(7,vI b0),(8,vI c0),(9,.bool C1),(10,vn D0)]) (fun ⟨C1,D0⟩=>[rr w 59 (Int×Int) vN (([]:Lb (Int×Int)).length) [],rr w 59 (Int×Int) p0 v0.length x0,.cells k0 [vI d0,p0] 32,.cells j0 [vI 0,vN] 32,.cells g0 [.int .u8 (a0.fw.toNat:Int),.int .u8 (a0.fh.toNat:Int),.int .u16 (a0.fA.toNat:Int),v0_3] 25]) (fun ⟨C1,D0⟩=>(C1,D0)) (M1,0) b7 J3 ?_
 rintro g9 ⟨C1,D0⟩ b01 H1 I0 y1 h
 unfold aa_l1 at h
 try dsimp only at h
 refine Ai<|Ae<|Ab I<|Bh 3 I<|AG I ((I0.memA .t4) 3 _ I) ?_
 have b3:=AH h0_3 I0
 have X9:=AY b3
 refine Ac (Bf (xs:=a0.fC) underlying23 I b3)<|Ac (Bp (i:=D0) (j:=a0.fC.length) I I)<|Ab I<|BD (s:=80) I h (fun V4 h=>?_) (fun V4 h=>?_)
 refine Au (Ah I)<|Au (Bp (i:=D0) (j:=3) I I)<|Bm I I<|Aa<|AO I h (fun W4 h=>?_) (fun W4 h=>?_)
 refine Am<|Ai<|Aq<|Ai<|du 22 fun q0 y0=>Rv 0 q0 I y0 (fun _=>Bv 3 I)<|Rx 1 3146360 q0 I y0 (Ay I ((I0.memA .t4) 3 _ I))<|Rv 2 q0 I y0 (fun _=>Ah I)<|bk h fun Q1 d8 h=>?_
 obtain ⟨U8,D9,g4,x4,H9,j7,B4⟩:=Bq b3 d8
 obtain rfl:=jG j7
 refine Rv 3 q0 I y0 (fun _=>AU 2 D0 I g4 I I x4)<|Rv 4 q0 I y0 (fun _=>AC (m:=1) (k:=0) (len:=2) I I I I (by omega))<|Rx 5 3146304 q0 I y0 (Ay I (B4 0 _ I)) ?_
 have g00:=Q1.1.toNat_lt
 refine Rv 6 q0 I y0 (fun _=>FV.convN (i:=Q1.1.toNat) underlying5 underlying3 I (by omega))<|Rv 7 q0 I y0 (fun _=>Bv 0 I)<|Rx 8 3146240 q0 I y0 (Ay I ((I0.memA .t2) 0 _ I))<|bk h fun j3 C7 h=>Rv 9 q0 I y0 (fun _=>FV.remc (i:=((Q1.1.toNat:Nat):Int)) (j:=d0) I I C7)<|Rv 10 q0 I y0 (fun _=>Bv 3 I)<|Rx 11 2744320 q0 I y0 (Ay I ((I0.memA .t4) 3 _ I))<|Rv 12 q0 I y0 (fun _=>Ah I)<|Rv 13 q0 I y0 (fun _=>AU 2 D0 I g4 I I x4)<|Rv 14 q0 I y0 (fun _=>AC (m:=1) (k:=1) (len:=2) I I I I (by omega))<|Rx 15 2686976 q0 I y0 (Ay I (B4 1 _ I)) ?_
 have j00:=Q1.2.toNat_lt
 refine Rv 16 q0 I y0 (fun _=>FV.convN (i:=Q1.2.toNat) underlying5 underlying3 I (by omega))<|Rv 17 q0 I y0 (fun _=>Bv 0 I)<|Rx 18 2621440 q0 I y0 (Ay I ((I0.memA .t2) 0 _ I))<|bk h fun d2 D7 h=>Rv 19 q0 I y0 (fun _=>FV.remc (i:=((Q1.2.toNat:Nat):Int)) (j:=d0) I I D7)<|Rv 20 q0 I y0 (fun _=>Bi I)<|Rv 21 q0 I y0 (fun _=>Bi I)<|AQ (dk q0)<|Ak<|Ab I<|Ab I<|RG.ifb (s:=107) I h (fun X4 h=>?_) (fun X4 h=>?_)
 refine Aj<|Aj<|Aj<|Aj<|BU<|BU<|BU<|Aj<|Bm I I<|Ab I<|Aj<|Aj<|Aj<|Aj<|BU<|BU<|BU<|Aj<|Bm I I<|Af I<|Aa<|Ao<|Ak<|Ab I<|Ac (AW (i:=D0) (j:=1) I I (by omega))<|Af I<|Aa<|H1 (true,D0+1) I0 y1 h
 refine Au (Ah I)<|Au (Ah I)<|Au (BT (i:=j3) (j:=b0) I I)<|Au (Ah I)<|BD (s:=111) I h (fun Y4 h=>?_) (fun Y4 h=>?_)
 refine Au (Ah I)<|Au (Ah I)<|Au (BT (i:=d2) (j:=c0) I I)<|Au (BJ I I)<|Bo I I<|Ab I<|BD (s:=117) I h (fun Z4 h=>?_) (fun Z4 h=>?_)
 refine Aj<|Aj<|Aj<|Aj<|BU<|BU<|BU<|Aj<|Bm I I<|Af I<|Aa<|Ao<|Ak<|Ab I<|Ac (AW (i:=D0) (j:=1) I I (by omega))<|Af I<|Aa<|H1 (true,D0+1) I0 y1 h
 refine Au (Ah I)<|Au (Ah I)<|Au (BT (i:=j3) (j:=c0) I I)<|Au (Ah I)<|BD (s:=121) I h (fun b5 h=>?_) (fun b5 h=>?_)
 refine Au (Ah I)<|Au (Ah I)<|Au (BT (i:=d2) (j:=b0) I I)<|Au (BJ I I)<|Bo I I<|Af I<|Aa<|Ao<|Ak<|Ab I<|Ac (AW (i:=D0) (j:=1) I I (by omega))<|Af I<|Aa<|H1 ((decide (d2=b0)),D0+1) I0 y1 h
 refine Aj<|Aj<|Aj<|Au (BS I I)<|Bo I I<|Af I<|Aa<|Ao<|Ak<|Ab I<|Ac (AW (i:=D0) (j:=1) I I (by omega))<|Af I<|Aa<|H1 (false,D0+1) I0 y1 h
 refine Aj<|Aj<|Aj<|Au (BS I I)<|Bo I I<|Ab I<|Au (Ah I)<|Au (Ah I)<|Au (BT (i:=j3) (j:=c0) I I)<|Au (Ah I)<|BD (s:=121) I h (fun c5 h=>?_) (fun c5 h=>?_)
 refine Au (Ah I)<|Au (Ah I)<|Au (BT (i:=d2) (j:=b0) I I)<|Au (BJ I I)<|Bo I I<|Af I<|Aa<|Ao<|Ak<|Ab I<|Ac (AW (i:=D0) (j:=1) I I (by omega))<|Af I<|Aa<|H1 ((decide (d2=b0)),D0+1) I0 y1 h
 refine Aj<|Aj<|Aj<|Au (BS I I)<|Bo I I<|Af I<|Aa<|Ao<|Ak<|Ab I<|Ac (AW (i:=D0) (j:=1) I I (by omega))<|Af I<|Aa<|H1 (false,D0+1) I0 y1 h
 refine AT I ?_
 have h:=q4 _ h
 try dsimp only at h
 exact z3 C1 I0 y1 h
 refine Aj<|Aj<|Bo I I<|Aa<|Bn I<|AT I ?_
 have h:=q4 _ h
 try dsimp only at h
 exact z3 C1 I0 y1 h
 intro b9 y3 h
 try dsimp only at h
 refine AO I h (fun d5 h=>?_) (fun d5 h=>?_)
 refine Ak<|Af I<|Aa<|y3 false H0 (By _ _) h
 refine Am<|y3 true H0 (By _ _) h
 refine Aj<|Aj<|Aj<|Aj<|Aj<|Aj<|Aj<|Aj<|Aj<|Bo I I<|Aa<|Bn I<|Am<|Ak<|Ab I<|bk h fun B2 E7 h=>Ac (Bu (i:=C0) (j:=1) I I E7)<|Af I<|Aa<|Ai<|Ae<|Af I<|Aa<|Aq<|MX.xo (α:=Bool) 4 (fun Z1=>[(1,vP g0),(2,vP j0),(3,vI ((1+((a0.fw%(4:UInt8)).toNat):Nat):Int)),(5,vP k0),(6,vI B2),(7,vI b0),(8,vI c0),(9,.bool Z1)]) (fun Z1=>[rr w 59 (Int×Int) vN (([]:Lb (Int×Int)).length) [],rr w 59 (Int×Int) p0 v0.length x0,.cells k0 [vI d0,p0] 32,.cells j0 [vI 0,vN] 32,.cells g0 [.int .u8 (a0.fw.toNat:Int),.int .u8 (a0.fh.toNat:Int),.int .u16 (a0.fA.toNat:Int),v0_3] 25]) (fun Z1=>Z1) H0 I h ?_ ?_
 rintro Z1 c01 u2 W2 h
 try dsimp only at h
 refine Ae<|Ab I<|Aa<|MX.jf (α:=(Lb (Int×Int))×Vc×(Lb Vc)) (fun ⟨g1,X0,u1⟩=>[(1,vP g0),(2,vP j0),(3,vI ((1+((a0.fw%(4:UInt8)).toNat):Nat):Int)),(5,vP k0),(6,vI B2),(7,vI b0),(8,vI c0)]) (fun ⟨g1,X0,u1⟩=>[rr w 59 (Int×Int) vN (([]:Lb (Int×Int)).length) [],rr w 59 (Int×Int) X0 g1.length u1,.cells k0 [vI d0,X0] 32,.cells j0 [vI 0,vN] 32,.cells g0 [.int .u8 (a0.fw.toNat:Int),.int .u8 (a0.fh.toNat:Int),.int .u16 (a0.fA.toNat:Int),v0_3] 25]) (fun ⟨g1,X0,u1⟩ I4=>Cells I4 (bl [rr w 59 (Int×Int) vN (([]:Lb (Int×Int)).length) [],rr w 59 (Int×Int) X0 g1.length u1,.cells k0 [vI d0,X0] 32,.cells j0 [vI 0,vN] 32,.cells g0 [.int .u8 (a0.fw.toNat:Int),.int .u8 (a0.fh.toNat:Int),.int .u16 (a0.fA.toNat:Int),v0_3] 25]++L) u1 g1) (fun ⟨g1,X0,u1⟩=>g1) u2 h ?_ ?_
 rintro ⟨g1,X0,u1⟩ I4 k6 C6 M6 h
 try dsimp only at h
 refine Ao<|Ak<|Ab I<|bk h fun B8 F7 h=>Ac (Bu (i:=c0) (j:=1) I I F7)<|Af I<|Aa<|p2 (B2,B8,g1,X0,u1) k6 (Tt X1 (Tt W2 C6)) M6 h
 intro k9 C3 h
 try dsimp only at h
 refine MX.ifb I h (fun g5 h=>?_) (fun g5 h=>?_)
 refine Ak<|Bh 1 I<|AG I ((u2.memA .t2) 1 _ I)<|Ab I<|Ab I<|Ac (Bj (vs:=[vI b0,vI c0]) (u:=.agg #[vI b0,vI c0]) (e2 I I) (fun p=>by kernel_rfl))<|Av .plain I (AS (α:=Int×Int) (xs:=([(b0,c0)]:Lb (Int×Int))) (vs:=[.agg #[vI b0,vI c0]]) (ds' :=[vI b0,vI c0]) I u2 kl I (e1 I) (by kernel_rfl) I) fun J00 A9 I2 R3=>bk h fun P8 q8 h=>RG.doesL .plain I (AL (α:=Int×Int) (ys:=([(b0,c0)]:Lb (Int×Int))) q8 I2 (fun _ _=>.t2) kl I I (Ar V0 (Tt W2 R3)) (Bx (α:=Int×Int) I2 .hd (AD (cs:=[vI b0,vI c0]) (xs:=(([(b0,c0)]:Lb (Int×Int)):Lb (Int×Int))) I2 L (AE (cs:=[vI b0,vI c0]) (ds:=[]) (ez b0 c0) (AK _ _))))) fun u3 K00 ⟨W5,J2,D6,P6⟩=>Bh 1 I<|RG.now .plain (BI (j:=1) (old:=[vI d0,p0]) (news:=[u3]) (new' :=[vI d0,u3]) J2 .t3 I I I (St.c1 (α:=Int×Int) J2 .t2) I I (o1 (St.o1 (α:=Int×Int) J2 .t2)) I) fun M00 p6 U3=>Aa ?_
 obtain ⟨q6,V3⟩:=AX p6 .d1
 exact C3 (P8,u3,W5) q6 (Tt R3 (Tt D6 (Tt U3 V3))) (Ar P6 (Tt U3 V3)) h
 refine Am<|C3 (v0,p0,x0) u2 (By _ _) (Ar V0 W2) h
 intro j9 B3 h
 try dsimp only at h
 obtain ⟨z00,c7,s4⟩:=ai h
 refine MX.lo (α:=Bool×Nat) (fun ⟨D1,E0⟩=>[(1,vP g0),(2,vP j0),(3,vI ((1+((a0.fw%(4:UInt8)).toNat):Nat):Int)),(5,vP k0),(6,vI B2),(7,vI b0),(8,vI c0),(9,.bool D1),(10,vn E0)]) (fun ⟨D1,E0⟩=>[rr w 59 (Int×Int) vN (([]:Lb (Int×Int)).length) [],rr w 59 (Int×Int) p0 v0.length x0,.cells k0 [vI d0,p0] 32,.cells j0 [vI 0,vN] 32,.cells g0 [.int .u8 (a0.fw.toNat:Int),.int .u8 (a0.fh.toNat:Int),.int .u16 (a0.fA.toNat:Int),v0_3] 25]) (fun ⟨D1,E0⟩=>(D1,E0)) (true,0) c7 H0 ?_
 rintro p9 ⟨D1,E0⟩ d01 I1 J0 z1 h
 unfold aa_l2 at h
 try dsimp only at h
 refine Ai<|Ae<|Ab I<|Bh 3 I<|AG I ((J0.memA .t4) 3 _ I) ?_
 have c3:=AH h0_3 J0
 have Y9:=AY c3
 refine Ac (Bf (xs:=a0.fC) underlying23 I c3)<|Ac (Bp (i:=E0) (j:=a0.fC.length) I I)<|Ab I<|BD (s:=80) I h (fun j5 h=>?_) (fun j5 h=>?_)
 refine Au (Ah I)<|Au (Bp (i:=E0) (j:=3) I I)<|Bm I I<|Aa<|AO I h (fun k5 h=>?_) (fun k5 h=>?_)
 refine Am<|Ai<|Aq<|Ai<|du 22 fun s0 z0=>Rv 0 s0 I z0 (fun _=>Bv 3 I)<|Rx 1 3146360 s0 I z0 (Ay I ((J0.memA .t4) 3 _ I))<|Rv 2 s0 I z0 (fun _=>Ah I)<|bk h fun R1 g8 h=>?_
 obtain ⟨V8,E9,j4,y4,I9,k7,C4⟩:=Bq c3 g8
 obtain rfl:=jG k7
 refine Rv 3 s0 I z0 (fun _=>AU 2 E0 I j4 I I y4)<|Rv 4 s0 I z0 (fun _=>AC (m:=1) (k:=0) (len:=2) I I I I (by omega))<|Rx 5 3146304 s0 I z0 (Ay I (C4 0 _ I)) ?_
 have k00:=R1.1.toNat_lt
 refine Rv 6 s0 I z0 (fun _=>FV.convN (i:=R1.1.toNat) underlying5 underlying3 I (by omega))<|Rv 7 s0 I z0 (fun _=>Bv 0 I)<|Rx 8 3146240 s0 I z0 (Ay I ((J0.memA .t2) 0 _ I))<|bk h fun k3 G7 h=>Rv 9 s0 I z0 (fun _=>FV.remc (i:=((R1.1.toNat:Nat):Int)) (j:=d0) I I G7)<|Rv 10 s0 I z0 (fun _=>Bv 3 I)<|Rx 11 2744320 s0 I z0 (Ay I ((J0.memA .t4) 3 _ I))<|Rv 12 s0 I z0 (fun _=>Ah I)<|Rv 13 s0 I z0 (fun _=>AU 2 E0 I j4 I I y4)<|Rv 14 s0 I z0 (fun _=>AC (m:=1) (k:=1) (len:=2) I I I I (by omega))<|Rx 15 2686976 s0 I z0 (Ay I (C4 1 _ I)) ?_
 have p00:=R1.2.toNat_lt
 refine Rv 16 s0 I z0 (fun _=>FV.convN (i:=R1.2.toNat) underlying5 underlying3 I (by omega))<|Rv 17 s0 I z0 (fun _=>Bv 0 I)<|Rx 18 2621440 s0 I z0 (Ay I ((J0.memA .t2) 0 _ I))<|bk h fun g2 H7 h=>Rv 19 s0 I z0 (fun _=>FV.remc (i:=((R1.2.toNat:Nat):Int)) (j:=d0) I I H7)<|Rv 20 s0 I z0 (fun _=>Bi I)<|Rv 21 s0 I z0 (fun _=>Bi I)<|AQ (dk s0)<|Ak<|Ab I<|Ab I<|RG.ifb (s:=107) I h (fun p5 h=>?_) (fun p5 h=>?_)
 refine Aj<|Aj<|Aj<|Aj<|BU<|BU<|BU<|Aj<|Bm I I<|Ab I<|Aj<|Aj<|Aj<|Aj<|BU<|BU<|BU<|Aj<|Bm I I<|Af I<|Aa<|Ao<|Ak<|Ab I<|Ac (AW (i:=E0) (j:=1) I I (by omega))<|Af I<|Aa<|I1 (true,E0+1) J0 z1 h
 refine Au (Ah I)<|Au (Ah I)<|Au (BT (i:=k3) (j:=b0) I I)<|Au (Ah I)<|BD (s:=111) I h (fun q5 h=>?_) (fun q5 h=>?_)
 refine Au (Ah I)<|Au (Ah I)<|Au (BT (i:=g2) (j:=c0) I I)<|Au (BJ I I)<|Bo I I<|Ab I<|BD (s:=117) I h (fun s5 h=>?_) (fun s5 h=>?_)
 refine Aj<|Aj<|Aj<|Aj<|BU<|BU<|BU<|Aj<|Bm I I<|Af I<|Aa<|Ao<|Ak<|Ab I<|Ac (AW (i:=E0) (j:=1) I I (by omega))<|Af I<|Aa<|I1 (true,E0+1) J0 z1 h
 refine Au (Ah I)<|Au (Ah I)<|Au (BT (i:=k3) (j:=c0) I I)<|Au (Ah I)<|BD (s:=121) I h (fun t5 h=>?_) (fun t5 h=>?_)
 refine Au (Ah I)<|Au (Ah I)<|Au (BT (i:=g2) (j:=b0) I I)<|Au (BJ I I)<|Bo I I<|Af I<|Aa<|Ao<|Ak<|Ab I<|Ac (AW (i:=E0) (j:=1) I I (by omega))<|Af I<|Aa<|I1 ((decide (g2=b0)),E0+1) J0 z1 h
 refine Aj<|Aj<|Aj<|Au (BS I I)<|Bo I I<|Af I<|Aa<|Ao<|Ak<|Ab I<|Ac (AW (i:=E0) (j:=1) I I (by omega))<|Af I<|Aa<|I1 (false,E0+1) J0 z1 h
 refine Aj<|Aj<|Aj<|Au (BS I I)<|Bo I I<|Ab I<|Au (Ah I)<|Au (Ah I)<|Au (BT (i:=k3) (j:=c0) I I)<|Au (Ah I)<|BD (s:=121) I h (fun u5 h=>?_) (fun u5 h=>?_)
 refine Au (Ah I)<|Au (Ah I)<|Au (BT (i:=g2) (j:=b0) I I)<|Au (BJ I I)<|Bo I I<|Af I<|Aa<|Ao<|Ak<|Ab I<|Ac (AW (i:=E0) (j:=1) I I (by omega))<|Af I<|Aa<|I1 ((decide (g2=b0)),E0+1) J0 z1 h
 refine Aj<|Aj<|Aj<|Au (BS I I)<|Bo I I<|Af I<|Aa<|Ao<|Ak<|Ab I<|Ac (AW (i:=E0) (j:=1) I I (by omega))<|Af I<|Aa<|I1 (false,E0+1) J0 z1 h
 refine AT I ?_
 have h:=s4 _ h
 try dsimp only at h
 exact B3 D1 J0 z1 h
 refine Aj<|Aj<|Bo I I<|Aa<|Bn I<|AT I ?_
 have h:=s4 _ h
 try dsimp only at h
 exact B3 D1 J0 z1 h
 refine Au (Ah I)<|Au (Ah I)<|bk h fun C8 I7 h=>Au (Bu (i:=b0) (j:=1) I I I7)<|Au (BT (i:=c0) (j:=C8) I I)<|Au (Ah I)<|BD (s:=51) I h (fun v5 h=>?_) (fun v5 h=>?_)
 refine Au (Ah I)<|Au (Ah I)<|bk h fun C2 J7 h=>Au (FV.remc (i:=c0) (j:=((1+((a0.fw%(4:UInt8)).toNat):Nat):Int)) I I J7)<|Au (FV.neq (i:=C2) (j:=0) I I)<|Au (BJ I I)<|Bo I I<|Af I<|Aa<|Ai<|Ae<|Ab I<|Aa<|MX.jo (α:=Int×Bool) (fun ⟨p1,P1⟩=>[(1,vP g0),(2,vP j0),(3,vI ((1+((a0.fw%(4:UInt8)).toNat):Nat):Int)),(5,vP k0),(6,vI p1),(7,vI b0),(8,vI c0),(9,.bool P1)]) (fun ⟨p1,P1⟩=>[rr w 59 (Int×Int) vN (([]:Lb (Int×Int)).length) [],rr w 59 (Int×Int) p0 v0.length x0,.cells k0 [vI d0,p0] 32,.cells j0 [vI 0,vN] 32,.cells g0 [.int .u8 (a0.fw.toNat:Int),.int .u8 (a0.fh.toNat:Int),.int .u16 (a0.fA.toNat:Int),v0_3] 25]) (fun ⟨p1,P1⟩=>(p1,P1)) H0 h ?_ ?_
 rintro ⟨p1,P1⟩ g01 K3 X2 h
 try dsimp only at h
 refine Ai<|Ae<|Af I<|Aa<|Aq<|MX.xo (α:=Bool) 4 (fun b2=>[(1,vP g0),(2,vP j0),(3,vI ((1+((a0.fw%(4:UInt8)).toNat):Nat):Int)),(5,vP k0),(6,vI p1),(7,vI b0),(8,vI c0),(9,.bool b2)]) (fun b2=>[rr w 59 (Int×Int) vN (([]:Lb (Int×Int)).length) [],rr w 59 (Int×Int) p0 v0.length x0,.cells k0 [vI d0,p0] 32,.cells j0 [vI 0,vN] 32,.cells g0 [.int .u8 (a0.fw.toNat:Int),.int .u8 (a0.fh.toNat:Int),.int .u16 (a0.fA.toNat:Int),v0_3] 25]) (fun b2=>b2) K3 I h ?_ ?_
 rintro b2 j01 v2 Y2 h
 try dsimp only at h
 refine Ae<|Ab I<|Aa<|MX.jf (α:=(Lb (Int×Int))×Vc×(Lb Vc)) (fun ⟨j1,Y0,v1⟩=>[(1,vP g0),(2,vP j0),(3,vI ((1+((a0.fw%(4:UInt8)).toNat):Nat):Int)),(5,vP k0),(6,vI p1),(7,vI b0),(8,vI c0)]) (fun ⟨j1,Y0,v1⟩=>[rr w 59 (Int×Int) vN (([]:Lb (Int×Int)).length) [],rr w 59 (Int×Int) Y0 j1.length v1,.cells k0 [vI d0,Y0] 32,.cells j0 [vI 0,vN] 32,.cells g0 [.int .u8 (a0.fw.toNat:Int),.int .u8 (a0.fh.toNat:Int),.int .u16 (a0.fA.toNat:Int),v0_3] 25]) (fun ⟨j1,Y0,v1⟩ J4=>Cells J4 (bl [rr w 59 (Int×Int) vN (([]:Lb (Int×Int)).length) [],rr w 59 (Int×Int) Y0 j1.length v1,.cells k0 [vI d0,Y0] 32,.cells j0 [vI 0,vN] 32,.cells g0 [.int .u8 (a0.fw.toNat:Int),.int .u8 (a0.fh.toNat:Int),.int .u16 (a0.fA.toNat:Int),v0_3] 25]++L) v1 j1) (fun ⟨j1,Y0,v1⟩=>j1) v2 h ?_ ?_
 rintro ⟨j1,Y0,v1⟩ J4 s6 E6 Q6 h
 try dsimp only at h
 refine Ao<|Ak<|Ab I<|bk h fun D8 K7 h=>Ac (Bu (i:=c0) (j:=1) I I K7)<|Af I<|Aa<|p2 (p1,D8,j1,Y0,v1) s6 (Tt X1 (Tt X2 (Tt Y2 E6))) Q6 h
 intro t9 E3 h
 try dsimp only at h
 refine MX.ifb I h (fun x5 h=>?_) (fun x5 h=>?_)
 refine Ak<|Bh 1 I<|AG I ((v2.memA .t2) 1 _ I)<|Ab I<|Ab I<|Ac (Bj (vs:=[vI b0,vI c0]) (u:=.agg #[vI b0,vI c0]) (e2 I I) (fun p=>by kernel_rfl))<|Av .plain I (AS (α:=Int×Int) (xs:=([(b0,c0)]:Lb (Int×Int))) (vs:=[.agg #[vI b0,vI c0]]) (ds' :=[vI b0,vI c0]) I v2 kl I (e1 I) (by kernel_rfl) I) fun P00 B9 K2 W3=>bk h fun Q8 s8 h=>RG.doesL .plain I (AL (α:=Int×Int) (ys:=([(b0,c0)]:Lb (Int×Int))) s8 K2 (fun _ _=>.t2) kl I I (Ar V0 (Tt X2 (Tt Y2 W3))) (Bx (α:=Int×Int) K2 .hd (AD (cs:=[vI b0,vI c0]) (xs:=(([(b0,c0)]:Lb (Int×Int)):Lb (Int×Int))) K2 L (AE (cs:=[vI b0,vI c0]) (ds:=[]) (ez b0 c0) (AK _ _))))) fun v3 Q00 ⟨X5,M2,F6,R6⟩=>Bh 1 I<|RG.now .plain (BI (j:=1) (old:=[vI d0,p0]) (news:=[v3]) (new' :=[vI d0,v3]) M2 .t3 I I I (St.c1 (α:=Int×Int) M2 .t2) I I (o1 (St.o1 (α:=Int×Int) M2 .t2)) I) fun R00 t6 X3=>Aa ?_
 obtain ⟨u6,Y3⟩:=AX t6 .d1
 exact E3 (Q8,v3,X5) u6 (Tt W3 (Tt F6 (Tt X3 Y3))) (Ar R6 (Tt X3 Y3)) h
 refine Am<|E3 (v0,p0,x0) v2 (By _ _) (Ar V0 (Tt X2 Y2)) h
 intro s9 D3 h
 try dsimp only at h
 obtain ⟨A00,d7,u4⟩:=ai h
 refine MX.lo (α:=Bool×Nat) (fun ⟨E1,F0⟩=>[(1,vP g0),(2,vP j0),(3,vI ((1+((a0.fw%(4:UInt8)).toNat):Nat):Int)),(5,vP k0),(6,vI p1),(7,vI b0),(8,vI c0),(9,.bool E1),(10,vn F0)]) (fun ⟨E1,F0⟩=>[rr w 59 (Int×Int) vN (([]:Lb (Int×Int)).length) [],rr w 59 (Int×Int) p0 v0.length x0,.cells k0 [vI d0,p0] 32,.cells j0 [vI 0,vN] 32,.cells g0 [.int .u8 (a0.fw.toNat:Int),.int .u8 (a0.fh.toNat:Int),.int .u16 (a0.fA.toNat:Int),v0_3] 25]) (fun ⟨E1,F0⟩=>(E1,F0)) (P1,0) d7 K3 ?_
 rintro u9 ⟨E1,F0⟩ k01 J1 K0 A1 h
 unfold aa_l3 at h
 try dsimp only at h
 refine Ai<|Ae<|Ab I<|Bh 3 I<|AG I ((K0.memA .t4) 3 _ I) ?_
 have d3:=AH h0_3 K0
 have Z9:=AY d3
 refine Ac (Bf (xs:=a0.fC) underlying23 I d3)<|Ac (Bp (i:=F0) (j:=a0.fC.length) I I)<|Ab I<|BD (s:=80) I h (fun y5 h=>?_) (fun y5 h=>?_)
 refine Au (Ah I)<|Au (Bp (i:=F0) (j:=3) I I)<|Bm I I<|Aa<|AO I h (fun z5 h=>?_) (fun z5 h=>?_)
 refine Am<|Ai<|Aq<|Ai<|du 22 fun t0 A0=>Rv 0 t0 I A0 (fun _=>Bv 3 I)<|Rx 1 3146360 t0 I A0 (Ay I ((K0.memA .t4) 3 _ I))<|Rv 2 t0 I A0 (fun _=>Ah I)<|bk h fun U1 j8 h=>?_
 obtain ⟨W8,F9,k4,z4,J9,p7,D4⟩:=Bq d3 j8
 obtain rfl:=jG p7
 refine Rv 3 t0 I A0 (fun _=>AU 2 F0 I k4 I I z4)<|Rv 4 t0 I A0 (fun _=>AC (m:=1) (k:=0) (len:=2) I I I I (by omega))<|Rx 5 3146304 t0 I A0 (Ay I (D4 0 _ I)) ?_
 have q00:=U1.1.toNat_lt
 refine Rv 6 t0 I A0 (fun _=>FV.convN (i:=U1.1.toNat) underlying5 underlying3 I (by omega))<|Rv 7 t0 I A0 (fun _=>Bv 0 I)<|Rx 8 3146240 t0 I A0 (Ay I ((K0.memA .t2) 0 _ I))<|bk h fun p3 M7 h=>Rv 9 t0 I A0 (fun _=>FV.remc (i:=((U1.1.toNat:Nat):Int)) (j:=d0) I I M7)<|Rv 10 t0 I A0 (fun _=>Bv 3 I)<|Rx 11 2744320 t0 I A0 (Ay I ((K0.memA .t4) 3 _ I))<|Rv 12 t0 I A0 (fun _=>Ah I)<|Rv 13 t0 I A0 (fun _=>AU 2 F0 I k4 I I z4)<|Rv 14 t0 I A0 (fun _=>AC (m:=1) (k:=1) (len:=2) I I I I (by omega))<|Rx 15 2686976 t0 I A0 (Ay I (D4 1 _ I)) ?_
 have s00:=U1.2.toNat_lt
 refine Rv 16 t0 I A0 (fun _=>FV.convN (i:=U1.2.toNat) underlying5 underlying3 I (by omega))<|Rv 17 t0 I A0 (fun _=>Bv 0 I)<|Rx 18 2621440 t0 I A0 (Ay I ((K0.memA .t2) 0 _ I))<|bk h fun j2 P7 h=>Rv 19 t0 I A0 (fun _=>FV.remc (i:=((U1.2.toNat:Nat):Int)) (j:=d0) I I P7)<|Rv 20 t0 I A0 (fun _=>Bi I)<|Rv 21 t0 I A0 (fun _=>Bi I)<|AQ (dk t0)<|Ak<|Ab I<|Ab I<|RG.ifb (s:=107) I h (fun A5 h=>?_) (fun A5 h=>?_)
 refine Aj<|Aj<|Aj<|Aj<|BU<|BU<|BU<|Aj<|Bm I I<|Ab I<|Aj<|Aj<|Aj<|Aj<|BU<|BU<|BU<|Aj<|Bm I I<|Af I<|Aa<|Ao<|Ak<|Ab I<|Ac (AW (i:=F0) (j:=1) I I (by omega))<|Af I<|Aa<|J1 (true,F0+1) K0 A1 h
 refine Au (Ah I)<|Au (Ah I)<|Au (BT (i:=p3) (j:=b0) I I)<|Au (Ah I)<|BD (s:=111) I h (fun B5 h=>?_) (fun B5 h=>?_)
 refine Au (Ah I)<|Au (Ah I)<|Au (BT (i:=j2) (j:=c0) I I)<|Au (BJ I I)<|Bo I I<|Ab I<|BD (s:=117) I h (fun C5 h=>?_) (fun C5 h=>?_)
 refine Aj<|Aj<|Aj<|Aj<|BU<|BU<|BU<|Aj<|Bm I I<|Af I<|Aa<|Ao<|Ak<|Ab I<|Ac (AW (i:=F0) (j:=1) I I (by omega))<|Af I<|Aa<|J1 (true,F0+1) K0 A1 h
 refine Au (Ah I)<|Au (Ah I)<|Au (BT (i:=p3) (j:=c0) I I)<|Au (Ah I)<|BD (s:=121) I h (fun D5 h=>?_) (fun D5 h=>?_)
 refine Au (Ah I)<|Au (Ah I)<|Au (BT (i:=j2) (j:=b0) I I)<|Au (BJ I I)<|Bo I I<|Af I<|Aa<|Ao<|Ak<|Ab I<|Ac (AW (i:=F0) (j:=1) I I (by omega))<|Af I<|Aa<|J1 ((decide (j2=b0)),F0+1) K0 A1 h
 refine Aj<|Aj<|Aj<|Au (BS I I)<|Bo I I<|Af I<|Aa<|Ao<|Ak<|Ab I<|Ac (AW (i:=F0) (j:=1) I I (by omega))<|Af I<|Aa<|J1 (false,F0+1) K0 A1 h
 refine Aj<|Aj<|Aj<|Au (BS I I)<|Bo I I<|Ab I<|Au (Ah I)<|Au (Ah I)<|Au (BT (i:=p3) (j:=c0) I I)<|Au (Ah I)<|BD (s:=121) I h (fun E5 h=>?_) (fun E5 h=>?_)
 refine Au (Ah I)<|Au (Ah I)<|Au (BT (i:=j2) (j:=b0) I I)<|Au (BJ I I)<|Bo I I<|Af I<|Aa<|Ao<|Ak<|Ab I<|Ac (AW (i:=F0) (j:=1) I I (by omega))<|Af I<|Aa<|J1 ((decide (j2=b0)),F0+1) K0 A1 h
 refine Aj<|Aj<|Aj<|Au (BS I I)<|Bo I I<|Af I<|Aa<|Ao<|Ak<|Ab I<|Ac (AW (i:=F0) (j:=1) I I (by omega))<|Af I<|Aa<|J1 (false,F0+1) K0 A1 h
 refine AT I ?_
 have h:=u4 _ h
 try dsimp only at h
 exact D3 E1 K0 A1 h
 refine Aj<|Aj<|Bo I I<|Aa<|Bn I<|AT I ?_
 have h:=u4 _ h
 try dsimp only at h
 exact D3 E1 K0 A1 h
 intro q9 q2 h
 try dsimp only at h
 refine MX.ifn I h (fun F5 h=>?_) (fun F5 h=>?_)
 refine Am<|q2 (C0,(!(decide (C2=0)))) H0 (By _ _) h
 refine Ai<|Ae<|Ab I<|bk h fun E8 Q7 h=>Ac (FV.remc (i:=C0) (j:=2) I I Q7)<|Ac (BT (i:=E8) (j:=1) I I)<|Ab I<|BD (s:=62) I h (fun G5 h=>?_) (fun G5 h=>?_)
 refine RG.fg 2 I<|Au (Ay I ((H0.memA .t4) 2 _ I))<|Au (Ah I)<|bk h fun F8 R7 h=>Au (FV.quoc (i:=C0) (j:=2) I I R7)<|bk h fun D2 U7 h=>Au (FV.remc (i:=F8) (j:=16) I I U7)<|Au (FV.convU (i:=D2) underlying3 underlying106 I)<|Au (FV.shr16 (a:=a0.fA) (j:=(ac D2).toNat) I I)<|Au (FV.and16 (a:=shr16 a0.fA ((ac D2).toNat)) (b:=(1:UInt16)) I I)<|Au (FV.eqlN (i:=((shr16 a0.fA ((ac D2).toNat))&&&(1:UInt16)).toNat) (j:=1) I I)<|Bm I I<|Aa<|AO I h (fun H5 h=>?_) (fun H5 h=>?_)
 refine Ak<|Af I<|Aa<|Ak<|Ab I<|bk h fun G8 V7 h=>Ac (Bu (i:=C0) (j:=1) I I V7)<|Af I<|Aa<|q2 (G8,false) H0 (By _ _) h
 refine Am<|Ak<|Ab I<|bk h fun H8 W7 h=>Ac (Bu (i:=C0) (j:=1) I I W7)<|Af I<|Aa<|q2 (H8,(!(decide (C2=0)))) H0 (By _ _) h
 refine Aj<|Aj<|Aj<|Aj<|Aj<|Aj<|Aj<|Aj<|Aj<|Bo I I<|Aa<|Bn I<|Am<|Ak<|Ab I<|bk h fun I8 X7 h=>Ac (Bu (i:=C0) (j:=1) I I X7)<|Af I<|Aa<|q2 (I8,(!(decide (C2=0)))) H0 (By _ _) h
 refine Aj<|Aj<|Aj<|Aj<|Au (BS I I)<|Bo I I<|Af I<|Aa<|Ai<|Ae<|Ab I<|Aa<|Bn I<|Am<|Ai<|Ae<|Af I<|Aa<|Aq<|MX.xo (α:=Bool) 4 (fun c2=>[(1,vP g0),(2,vP j0),(3,vI ((1+((a0.fw%(4:UInt8)).toNat):Nat):Int)),(5,vP k0),(6,vI C0),(7,vI b0),(8,vI c0),(9,.bool c2)]) (fun c2=>[rr w 59 (Int×Int) vN (([]:Lb (Int×Int)).length) [],rr w 59 (Int×Int) p0 v0.length x0,.cells k0 [vI d0,p0] 32,.cells j0 [vI 0,vN] 32,.cells g0 [.int .u8 (a0.fw.toNat:Int),.int .u8 (a0.fh.toNat:Int),.int .u16 (a0.fA.toNat:Int),v0_3] 25]) (fun c2=>c2) H0 I h ?_ ?_
 rintro c2 p01 x2 Z2 h
 try dsimp only at h
 refine Ae<|Ab I<|Aa<|MX.jf (α:=(Lb (Int×Int))×Vc×(Lb Vc)) (fun ⟨k1,Z0,x1⟩=>[(1,vP g0),(2,vP j0),(3,vI ((1+((a0.fw%(4:UInt8)).toNat):Nat):Int)),(5,vP k0),(6,vI C0),(7,vI b0),(8,vI c0)]) (fun ⟨k1,Z0,x1⟩=>[rr w 59 (Int×Int) vN (([]:Lb (Int×Int)).length) [],rr w 59 (Int×Int) Z0 k1.length x1,.cells k0 [vI d0,Z0] 32,.cells j0 [vI 0,vN] 32,.cells g0 [.int .u8 (a0.fw.toNat:Int),.int .u8 (a0.fh.toNat:Int),.int .u16 (a0.fA.toNat:Int),v0_3] 25]) (fun ⟨k1,Z0,x1⟩ K4=>Cells K4 (bl [rr w 59 (Int×Int) vN (([]:Lb (Int×Int)).length) [],rr w 59 (Int×Int) Z0 k1.length x1,.cells k0 [vI d0,Z0] 32,.cells j0 [vI 0,vN] 32,.cells g0 [.int .u8 (a0.fw.toNat:Int),.int .u8 (a0.fh.toNat:Int),.int .u16 (a0.fA.toNat:Int),v0_3] 25]++L) x1 k1) (fun ⟨k1,Z0,x1⟩=>k1) x2 h ?_ ?_
 rintro ⟨k1,Z0,x1⟩ K4 v6 G6 U6 h
 try dsimp only at h
 refine Ao<|Ak<|Ab I<|bk h fun J8 Y7 h=>Ac (Bu (i:=c0) (j:=1) I I Y7)<|Af I<|Aa<|p2 (C0,J8,k1,Z0,x1) v6 (Tt X1 (Tt Z2 G6)) U6 h
 intro x9 G3 h
 try dsimp only at h
 refine MX.ifb I h (fun I5 h=>?_) (fun I5 h=>?_)
 refine Ak<|Bh 1 I<|AG I ((x2.memA .t2) 1 _ I)<|Ab I<|Ab I<|Ac (Bj (vs:=[vI b0,vI c0]) (u:=.agg #[vI b0,vI c0]) (e2 I I) (fun p=>by kernel_rfl))<|Av .plain I (AS (α:=Int×Int) (xs:=([(b0,c0)]:Lb (Int×Int))) (vs:=[.agg #[vI b0,vI c0]]) (ds' :=[vI b0,vI c0]) I x2 kl I (e1 I) (by kernel_rfl) I) fun U00 C9 P2 Z3=>bk h fun R8 t8 h=>RG.doesL .plain I (AL (α:=Int×Int) (ys:=([(b0,c0)]:Lb (Int×Int))) t8 P2 (fun _ _=>.t2) kl I I (Ar V0 (Tt Z2 Z3)) (Bx (α:=Int×Int) P2 .hd (AD (cs:=[vI b0,vI c0]) (xs:=(([(b0,c0)]:Lb (Int×Int)):Lb (Int×Int))) P2 L (AE (cs:=[vI b0,vI c0]) (ds:=[]) (ez b0 c0) (AK _ _))))) fun x3 V00 ⟨Y5,Q2,H6,V6⟩=>Bh 1 I<|RG.now .plain (BI (j:=1) (old:=[vI d0,p0]) (news:=[x3]) (new' :=[vI d0,x3]) Q2 .t3 I I I (St.c1 (α:=Int×Int) Q2 .t2) I I (o1 (St.o1 (α:=Int×Int) Q2 .t2)) I) fun W00 x6 b4=>Aa ?_
 obtain ⟨y6,c4⟩:=AX x6 .d1
 exact G3 (R8,x3,Y5) y6 (Tt Z3 (Tt H6 (Tt b4 c4))) (Ar V6 (Tt b4 c4)) h
 refine Am<|G3 (v0,p0,x0) x2 (By _ _) (Ar V0 Z2) h
 intro v9 F3 h
 try dsimp only at h
 obtain ⟨B00,g7,v4⟩:=ai h
 refine MX.lo (α:=Bool×Nat) (fun ⟨F1,G0⟩=>[(1,vP g0),(2,vP j0),(3,vI ((1+((a0.fw%(4:UInt8)).toNat):Nat):Int)),(5,vP k0),(6,vI C0),(7,vI b0),(8,vI c0),(9,.bool F1),(10,vn G0)]) (fun ⟨F1,G0⟩=>[rr w 59 (Int×Int) vN (([]:Lb (Int×Int)).length) [],rr w 59 (Int×Int) p0 v0.length x0,.cells k0 [vI d0,p0] 32,.cells j0 [vI 0,vN] 32,.cells g0 [.int .u8 (a0.fw.toNat:Int),.int .u8 (a0.fh.toNat:Int),.int .u16 (a0.fA.toNat:Int),v0_3] 25]) (fun ⟨F1,G0⟩=>(F1,G0)) (false,0) g7 H0 ?_
 rintro y9 ⟨F1,G0⟩ q01 K1 M0 B1 h
 unfold aa_l4 at h
 try dsimp only at h
 refine Ai<|Ae<|Ab I<|Bh 3 I<|AG I ((M0.memA .t4) 3 _ I) ?_
 have g3:=AH h0_3 M0
 have b00:=AY g3
 refine Ac (Bf (xs:=a0.fC) underlying23 I g3)<|Ac (Bp (i:=G0) (j:=a0.fC.length) I I)<|Ab I<|BD (s:=80) I h (fun J5 h=>?_) (fun J5 h=>?_)
 refine Au (Ah I)<|Au (Bp (i:=G0) (j:=3) I I)<|Bm I I<|Aa<|AO I h (fun K5 h=>?_) (fun K5 h=>?_)
 refine Am<|Ai<|Aq<|Ai<|du 22 fun u0 B0=>Rv 0 u0 I B0 (fun _=>Bv 3 I)<|Rx 1 3146360 u0 I B0 (Ay I ((M0.memA .t4) 3 _ I))<|Rv 2 u0 I B0 (fun _=>Ah I)<|bk h fun V1 k8 h=>?_
 obtain ⟨X8,G9,p4,A4,K9,q7,E4⟩:=Bq g3 k8
 obtain rfl:=jG q7
 refine Rv 3 u0 I B0 (fun _=>AU 2 G0 I p4 I I A4)<|Rv 4 u0 I B0 (fun _=>AC (m:=1) (k:=0) (len:=2) I I I I (by omega))<|Rx 5 3146304 u0 I B0 (Ay I (E4 0 _ I)) ?_
 have t00:=V1.1.toNat_lt
 refine Rv 6 u0 I B0 (fun _=>FV.convN (i:=V1.1.toNat) underlying5 underlying3 I (by omega))<|Rv 7 u0 I B0 (fun _=>Bv 0 I)<|Rx 8 3146240 u0 I B0 (Ay I ((M0.memA .t2) 0 _ I))<|bk h fun q3 Z7 h=>Rv 9 u0 I B0 (fun _=>FV.remc (i:=((V1.1.toNat:Nat):Int)) (j:=d0) I I Z7)<|Rv 10 u0 I B0 (fun _=>Bv 3 I)<|Rx 11 2744320 u0 I B0 (Ay I ((M0.memA .t4) 3 _ I))<|Rv 12 u0 I B0 (fun _=>Ah I)<|Rv 13 u0 I B0 (fun _=>AU 2 G0 I p4 I I A4)<|Rv 14 u0 I B0 (fun _=>AC (m:=1) (k:=1) (len:=2) I I I I (by omega))<|Rx 15 2686976 u0 I B0 (Ay I (E4 1 _ I)) ?_
 have u00:=V1.2.toNat_lt
 refine Rv 16 u0 I B0 (fun _=>FV.convN (i:=V1.2.toNat) underlying5 underlying3 I (by omega))<|Rv 17 u0 I B0 (fun _=>Bv 0 I)<|Rx 18 2621440 u0 I B0 (Ay I ((M0.memA .t2) 0 _ I))<|bk h fun k2 b8 h=>Rv 19 u0 I B0 (fun _=>FV.remc (i:=((V1.2.toNat:Nat):Int)) (j:=d0) I I b8)<|Rv 20 u0 I B0 (fun _=>Bi I)<|Rv 21 u0 I B0 (fun _=>Bi I)<|AQ (dk u0)<|Ak<|Ab I<|Ab I<|RG.ifb (s:=107) I h (fun M5 h=>?_) (fun M5 h=>?_)
 refine Aj<|Aj<|Aj<|Aj<|BU<|BU<|BU<|Aj<|Bm I I<|Ab I<|Aj<|Aj<|Aj<|Aj<|BU<|BU<|BU<|Aj<|Bm I I<|Af I<|Aa<|Ao<|Ak<|Ab I<|Ac (AW (i:=G0) (j:=1) I I (by omega))<|Af I<|Aa<|K1 (true,G0+1) M0 B1 h
 refine Au (Ah I)<|Au (Ah I)<|Au (BT (i:=q3) (j:=b0) I I)<|Au (Ah I)<|BD (s:=111) I h (fun P5 h=>?_) (fun P5 h=>?_)
 refine Au (Ah I)<|Au (Ah I)<|Au (BT (i:=k2) (j:=c0) I I)<|Au (BJ I I)<|Bo I I<|Ab I<|BD (s:=117) I h (fun Q5 h=>?_) (fun Q5 h=>?_)
 refine Aj<|Aj<|Aj<|Aj<|BU<|BU<|BU<|Aj<|Bm I I<|Af I<|Aa<|Ao<|Ak<|Ab I<|Ac (AW (i:=G0) (j:=1) I I (by omega))<|Af I<|Aa<|K1 (true,G0+1) M0 B1 h
 refine Au (Ah I)<|Au (Ah I)<|Au (BT (i:=q3) (j:=c0) I I)<|Au (Ah I)<|BD (s:=121) I h (fun R5 h=>?_) (fun R5 h=>?_)
 refine Au (Ah I)<|Au (Ah I)<|Au (BT (i:=k2) (j:=b0) I I)<|Au (BJ I I)<|Bo I I<|Af I<|Aa<|Ao<|Ak<|Ab I<|Ac (AW (i:=G0) (j:=1) I I (by omega))<|Af I<|Aa<|K1 ((decide (k2=b0)),G0+1) M0 B1 h
 refine Aj<|Aj<|Aj<|Au (BS I I)<|Bo I I<|Af I<|Aa<|Ao<|Ak<|Ab I<|Ac (AW (i:=G0) (j:=1) I I (by omega))<|Af I<|Aa<|K1 (false,G0+1) M0 B1 h
 refine Aj<|Aj<|Aj<|Au (BS I I)<|Bo I I<|Ab I<|Au (Ah I)<|Au (Ah I)<|Au (BT (i:=q3) (j:=c0) I I)<|Au (Ah I)<|BD (s:=121) I h (fun U5 h=>?_) (fun U5 h=>?_)
 refine Au (Ah I)<|Au (Ah I)<|Au (BT (i:=k2) (j:=b0) I I)<|Au (BJ I I)<|Bo I I<|Af I<|Aa<|Ao<|Ak<|Ab I<|Ac (AW (i:=G0) (j:=1) I I (by omega))<|Af I<|Aa<|K1 ((decide (k2=b0)),G0+1) M0 B1 h
 refine Aj<|Aj<|Aj<|Au (BS I I)<|Bo I I<|Af I<|Aa<|Ao<|Ak<|Ab I<|Ac (AW (i:=G0) (j:=1) I I (by omega))<|Af I<|Aa<|K1 (false,G0+1) M0 B1 h
 refine AT I ?_
 have h:=v4 _ h
 try dsimp only at h
 exact F3 F1 M0 B1 h
 refine Aj<|Aj<|Bo I I<|Aa<|Bn I<|AT I ?_
 have h:=v4 _ h
 try dsimp only at h
 exact F3 F1 M0 B1 h
 refine AT I ?_
 have h:=X6 _ h
 try dsimp only at h
 refine Ao<|Ak<|Ab I<|bk h fun K8 c8 h=>Ac (Bu (i:=b0) (j:=1) I I c8)<|Af I<|Aa<|Z5 (C0,K8,v0,p0,x0) H0 (Tt z6 X1) V0 h
 refine AT I ?_
 have h:=W6 _ h
 try dsimp only at h
 refine Ae<|Ac (AP I (W1.memA .t2))<|Bl [vI d0,Q0] W1 .t3 (o2 I (St.o1 (α:=Int×Int) W1 .t1)) fun X00 R2 I6=>Aa<|Ap I ?_
 have y2:=BL R2 .t1
 have V9:=BM R2 .t1
 have s7:=BN (α:=Int×Int) (v:=Q0) (xs:=U0) y2 L (BA (α:=Int×Int) R2 .t1 (Ar d4 I6) hL)
 refine Aw hb0 func12 I (.cons (.many (cs:=[vI d0,Q0]) I I (y2.memA .t2)) .nil) I ?_
 cases h
 exact ⟨y2.ag,fun p q=>⟨Q0,I,y2.kd s7 q⟩⟩
def al_p (_n:Nat) (a0:Int):Oa Ua:=
  some (shlU (1:Ua) (ac a0).toNat)
theorem al_c (n:Nat) {L w} (_hL:hl L w) {a0:Int}  {r:Ua} (h:al_p n a0=some r) :
 Cl 13 #[vI a0] w (aj w fun _ u=>u=vU r):=by
 unfold al_p at h
 have hS0:=AI w
 refine AJ func13 I I I fun _ cs0 hb0=>Ae<|Af I<|Aa<|Ae<|Ab I<|Ac (FV.convU (i:=a0) underlying3 underlying106 I)<|Ac (FV.shlU (a:=(1:Ua)) (j:=(ac a0).toNat) I I)<|Af I<|Aa<|Ap I<|AV hb0 func13 I I ?_
 cases h
 exact hS0.gv
def ah_p (_n:Nat) (a0:Ua) (a1:Int):Oa Bool:=
  some (decide (((shrU a0 (ac a1).toNat)&&&(1:Ua))=(1:Ua)))
theorem ah_c (n:Nat) {L w} (_hL:hl L w) (a0:Ua) {a1:Int}  {r:Bool} (h:ah_p n a0 a1=some r) :
 Cl 56 #[vU a0,vI a1] w (aj w fun _ u=>u=.bool r):=by
 unfold ah_p at h
 have hS0:=AI w
 refine AJ func56 I I I fun _ cs0 hb0=>Ae<|Af I<|Aa<|Ae<|Ab I<|Ab I<|Ac (FV.convU (i:=a1) underlying3 underlying106 I)<|Ac (FV.shrU (a:=a0) (j:=(ac a1).toNat) I I)<|Ac (Br (a:=shrU a0 (ac a1).toNat) (b:=(1:Ua)) I I)<|Ac (FV.eqlU (a:=(shrU a0 (ac a1).toNat)&&&(1:Ua)) (b:=(1:Ua)) I I)<|Af I<|Aa<|Ap I<|AV hb0 func56 I I ?_
 cases h
 exact hS0.gv
def am_l1 (n:Nat) (a0:Tc) (a3:Int) (a1:Ua) (k0:Ua×Nat->Oa Ua):Ua×Nat->Oa Ua
  | (d0,g0)=>(if g0<a0.fo.length then (a0.fo[g0]?).bind fun b0=>jn (fun p0=>jn (fun q0=>k0 (q0,g0+1)) (fun j0=>(if p0=true then (al_p n b0.1).bind fun s0=>(al_p n b0.2).bind fun t0=>j0 ((d0|||s0)|||t0) else j0 d0))) (fun c0=>(if ((g0:Nat):Int)=a3 then c0 false else (ah_p n a1 b0.1).bind fun u0=>(if u0=true then (ah_p n a1 b0.2).bind fun v0=>(if v0=true then (ah_p n d0 b0.1).bind fun x0=>(if x0=true then c0 true else (ah_p n d0 b0.2).bind fun y0=>c0 y0) else c0 false) else c0 false))) else some d0)
def am_l2 (n:Nat) (a0:Tc) (a3:Int) (a1:Ua) (d0:Ua×Nat->Oa Ua):Ua×Nat->Oa Ua
  | (c0,b0)=>(if b0<a0.fo.length then Option.bind (ah (am_l1 n a0 a3 a1) n (c0,0)) (fun g0=>d0 (g0,b0+1)) else some c0)
def am_p (n:Nat) (a0:Tc) (a1:Ua) (a2:Int) (a3:Int):Oa Ua:=
  (al_p n a2).bind fun c0=>Option.bind (ah (am_l2 n a0 a3 a1) n (c0,0)) (fun b0=>some b0)
theorem am_c (n:Nat) {L w} (hL:hl L w) (a0:Tc) {v0_1:Vc} (h0_1:Rep.R w L [v0_1] a0.fo) (a1:Ua) {a2:Int} {a3:Int}  {r:Ua} (h:am_p n a0 a1 a2 a3=some r) :
 Cl 57 #[.agg #[vI a0.fN,v0_1],vU a1,vI a2,vI a3] w (aj w fun _ u=>u=vU r):=by
 unfold am_p at h
 refine AJ func57 I I I fun _ cs0 hb0=>Ae<|RG.bx (AI w) I I fun V1 p0 x0 P1=>Af I<|Aa<|Ae<|Ab I<|bk h fun J0 u1 h=>Bz (vU J0) (bd 13) I (e1 I) (fun p q=>al_c n (x0.hL0 hL q)  u1) I<|Af I<|Aa<|Ai<|Ae<|Bh 1 I<|AG I ((x0.memA .hd) 1 _ I) ?_
 have F0:=AH h0_1 x0
 have Q1:=AY F0
 refine Ac (Bf (xs:=a0.fo) underlying30 I F0)<|Ab I<|Aa<|Aq ?_
 obtain ⟨R1,k1,g1⟩:=ai h
 refine MX.lo (α:=Ua×Nat) (fun ⟨q0,k0⟩=>[(1,vU a1),(3,vI a3),(4,vP p0),(9,vU q0),(17,vn a0.fo.length),(18,vn k0)]) (fun ⟨q0,k0⟩=>[.cells p0 [vI a0.fN,v0_1] 32]) (fun ⟨q0,k0⟩=>(q0,k0)) (J0,0) k1 x0 ?_
 rintro G1 ⟨q0,k0⟩ W1 X0 B0 b1 h
 unfold am_l2 at h
 try dsimp only at h
 refine Ae<|Ac (Bp (i:=k0) (j:=a0.fo.length) I I)<|Aa<|Ai<|AO I h (fun M0 h=>?_) (fun M0 h=>?_)
 refine Am<|Ai<|Aq<|Ae<|Af I<|Aa<|Aq ?_
 obtain ⟨U1,p1,j1⟩:=ai h
 refine MX.lo (α:=Ua×Nat) (fun ⟨j0,g0⟩=>[(1,vU a1),(3,vI a3),(4,vP p0),(9,vU j0),(17,vn a0.fo.length),(18,vn k0),(10,vn g0)]) (fun ⟨j0,g0⟩=>[.cells p0 [vI a0.fN,v0_1] 32]) (fun ⟨j0,g0⟩=>(j0,g0)) (q0,0) p1 B0 ?_
 rintro H1 ⟨j0,g0⟩ X1 Y0 b0 C0 h
 unfold am_l1 at h
 try dsimp only at h
 refine Ai<|Ae<|Ab I<|Bh 1 I<|AG I ((b0.memA .hd) 1 _ I) ?_
 have G0:=AH h0_1 b0
 refine Ac (Bf (xs:=a0.fo) underlying30 I G0)<|Ac (Bp (i:=g0) (j:=a0.fo.length) I I)<|Aa<|AO I h (fun P0 h=>?_) (fun P0 h=>?_)
 refine Am<|Ai<|Aq<|Ai<|du 14 fun c0 d0=>Rv 0 c0 I d0 (fun _=>Bv 1 I)<|Rx 1 12344 c0 I d0 (Ay I ((b0.memA .hd) 1 _ I))<|Rv 2 c0 I d0 (fun _=>Ah I)<|bk h fun I0 s1 h=>?_
 obtain ⟨F1,K1,D0,E0,M1,q1,H0⟩:=Bq G0 s1
 obtain rfl:=dx q1
 refine Rv 3 c0 I d0 (fun _=>AU 2 g0 I D0 I I E0)<|Rv 4 c0 I d0 (fun _=>AC (m:=1) (k:=0) (len:=2) I I I I (by omega))<|Rx 5 12288 c0 I d0 (Ay I (H0 0 _ I))<|Rv 6 c0 I d0 (fun _=>Bv 1 I)<|Rx 7 11776 c0 I d0 (Ay I ((b0.memA .hd) 1 _ I))<|Rv 8 c0 I d0 (fun _=>Ah I)<|Rv 9 c0 I d0 (fun _=>AU 2 g0 I D0 I I E0)<|Rv 10 c0 I d0 (fun _=>AC (m:=1) (k:=1) (len:=2) I I I I (by omega))<|Rx 11 8192 c0 I d0 (Ay I (H0 1 _ I))<|Rv 12 c0 I d0 (fun _=>Bi I)<|Rv 13 c0 I d0 (fun _=>Bi I)<|AQ (dk c0)<|Ai<|MX.jo (α:=Bool) (fun v0=>[(1,vU a1),(3,vI a3),(4,vP p0),(9,vU j0),(17,vn a0.fo.length),(18,vn k0),(10,vn g0),(11,vI I0.1),(12,vI I0.2),(61,.bool v0)]) (fun v0=>[.cells p0 [vI a0.fN,v0_1] 32]) (fun v0=>v0) b0 h ?_ ?_
 rintro v0 Y1 u0 c1 h
 try dsimp only at h
 refine MX.jo (α:=Ua) (fun s0=>[(1,vU a1),(3,vI a3),(4,vP p0),(9,vU s0),(17,vn a0.fo.length),(18,vn k0),(10,vn g0)]) (fun s0=>[.cells p0 [vI a0.fN,v0_1] 32]) (fun s0=>s0) u0 h ?_ ?_
 rintro s0 Z1 Z0 d1 h
 try dsimp only at h
 refine Ao<|Ak<|Ab I<|Ac (AW (i:=g0) (j:=1) I I (by omega))<|Af I<|Aa<|Y0 (s0,g0+1) Z0 (Tt C0 (Tt c1 d1)) h
 intro J1 A0 h
 try dsimp only at h
 refine MX.ifb I h (fun Q0 h=>?_) (fun Q0 h=>?_)
 refine Ak<|Ab I<|Ab I<|bk h fun y0 v1 h=>Bz (vU y0) (bd 13) I (e1 I) (fun p q=>al_c n (u0.hL0 hL q)  v1) I<|Ac (FV.orU (a:=j0) (b:=y0) I I)<|Ab I<|bk h fun z0 x1 h=>Bz (vU z0) (bd 13) I (e1 I) (fun p q=>al_c n (u0.hL0 hL q)  x1) I<|Ac (FV.orU (a:=j0|||y0) (b:=z0) I I)<|Af I<|Aa<|A0 ((j0|||y0)|||z0) u0 (By _ _) h
 refine Am<|A0 j0 u0 (By _ _) h
 intro I1 t0 h
 try dsimp only at h
 refine Ak<|Ab I<|Ab I<|Ac (FV.neq (i:=((g0:Nat):Int)) (j:=a3) I I)<|Ab I<|RG.ifn (s:=42) I h (fun R0 h=>?_) (fun R0 h=>?_)
 refine Aj<|Aj<|Aj<|Bo I I<|Ab I<|Aj<|Aj<|Aj<|Bo I I<|Ab I<|Aj<|Aj<|Aj<|Aj<|BU<|BU<|BU<|Aj<|Bo I I<|Aa<|t0 false b0 (By _ _) h
 refine Au (Ah I)<|Au (Ah I)<|bk h fun C1 y1 h=>RG.callq' (v:=.bool C1) (fst:=[]) (cap:=[]) (.yes I I) (bd 56) I (e2 I I) (fun p q=>ah_c n (b0.hL0 hL q) a1 y1) I<|Bm I I<|Ab I<|RG.ifb (s:=47) I h (fun U0 h=>?_) (fun U0 h=>?_)
 refine Au (Ah I)<|Au (Ah I)<|bk h fun D1 z1 h=>RG.callq' (v:=.bool D1) (fst:=[]) (cap:=[]) (.yes I I) (bd 56) I (e2 I I) (fun p q=>ah_c n (b0.hL0 hL q) a1 z1) I<|Bm I I<|Ab I<|RG.ifb (s:=52) I h (fun V0 h=>?_) (fun V0 h=>?_)
 refine Au (Ah I)<|Au (Ah I)<|bk h fun E1 A1 h=>RG.callq' (v:=.bool E1) (fst:=[]) (cap:=[]) (.yes I I) (bd 56) I (e2 I I) (fun p q=>ah_c n (b0.hL0 hL q) j0 A1) I<|Au (Ah I)<|RG.ifb (s:=56) I h (fun W0 h=>?_) (fun W0 h=>?_)
 refine Aj<|Aj<|Aj<|Au (BJ I I)<|Bm I I<|Aa<|t0 true b0 (By _ _) h
 refine Au (Ah I)<|Au (Ah I)<|bk h fun K0 B1 h=>RG.callq' (v:=.bool K0) (fst:=[]) (cap:=[]) (.yes I I) (bd 56) I (e2 I I) (fun p q=>ah_c n (b0.hL0 hL q) j0 B1) I<|Au (BS I I)<|Bm I I<|Aa<|t0 K0 b0 (By _ _) h
 refine Aj<|Aj<|Aj<|Aj<|BU<|BU<|BU<|Aj<|Bo I I<|Aa<|t0 false b0 (By _ _) h
 refine Aj<|Aj<|Aj<|Bo I I<|Ab I<|Aj<|Aj<|Aj<|Aj<|BU<|BU<|BU<|Aj<|Bo I I<|Aa<|t0 false b0 (By _ _) h
 refine AT I ?_
 have h:=j1 _ h
 try dsimp only at h
 refine Ao<|Ak<|Ac (AW (i:=k0) (j:=1) I I (by omega))<|Ab I<|Aa<|X0 (j0,k0+1) b0 (Tt b1 C0) h
 refine AT I ?_
 have h:=g1 _ h
 try dsimp only at h
 refine Ae<|Ab I<|Af I<|Aa<|Ap I<|AV hb0 func57 I I ?_
 cases h
 exact B0.gv
theorem bT:ElT Tryz.prog 101 44 (Rep.size Ua) 8 (vW 0) [vW 0]:=⟨underlying101,by kernel_rfl,rfl,rfl,rfl,rfl⟩
def aP_l1 (n:Nat) (a0:Tc) (a1:Ua) (g0:Ua×Int×(Lb Ua)->Oa (Lb Ua)):Ua×Int×(Lb Ua)->Oa (Lb Ua)
  | (c0,b0,d0)=>(if b0<a0.fN then (ah_p n a1 b0).bind fun t0=>(if t0=true then (ah_p n c0 b0).bind fun u0=>(if u0=true then (chk (b0+1)).bind fun k0=>g0 (c0,k0,d0) else (am_p n a0 a1 b0 (-1:Int)).bind fun j0=>(app d0 ([j0]:Lb Ua)).bind fun s0=>(chk (b0+1)).bind fun p0=>g0 (c0|||j0,p0,s0)) else (chk (b0+1)).bind fun q0=>g0 (c0,q0,d0)) else some d0)
def aP_p (n:Nat) (a0:Tc) (a1:Ua):Oa (Lb Ua):=
  Option.bind (ah (aP_l1 n a0 a1) n (0,0,([]:Lb Ua))) (fun b0=>some b0)
theorem aP_c (n:Nat) {L w} (hL:hl L w) (a0:Tc) {v0_1:Vc} (h0_1:Rep.R w L [v0_1] a0.fo) (a1:Ua)  {r:Lb Ua} (h:aP_p n a0 a1=some r) :
 Cl 35 #[.agg #[vI a0.fN,v0_1],vU a1] w (aj w fun w' u=>∃ v0_0:Vc,u=v0_0/\Rep.R w' L [v0_0] r):=by
 unfold aP_p at h
 refine AJ func35 I I I fun _ cs0 hb0=>Ae<|RG.bx (AI w) I I fun C1 t0 z0 y1=>Af I<|Aa<|Ae<|Af I<|Aa<|Ae<|Af I<|Aa<|Ai<|Ae<|Af I<|Aa<|Aq ?_
 have A0:=z0.nilRow 44 (Rep.size Ua)
 have z1:=BW z0 44 (Rep.size Ua)
 obtain ⟨A1,Q0,P0⟩:=ai h
 refine MX.lf (α:=Ua×Int×(Lb Ua)×Vc×(Lb Vc)) (fun ⟨c0,p0,g0,d0,q0⟩=>[(1,vU a1),(2,vP t0),(5,d0),(6,vU c0),(7,vI p0)]) (fun ⟨c0,p0,g0,d0,q0⟩=>[rr w 44 Ua d0 g0.length q0,.cells t0 [vI a0.fN,v0_1] 32]) (fun ⟨c0,p0,g0,d0,q0⟩ D0=>Cells D0 (bl [rr w 44 Ua d0 g0.length q0,.cells t0 [vI a0.fN,v0_1] 32]++L) q0 g0) (fun ⟨c0,p0,g0,d0,q0⟩=>(c0,p0,g0)) (0,0,([]:Lb Ua),vN,[]) Q0 A0 (AD (cs:=[]) (xs:=([]:Lb Ua)) A0 L (AK _ _)) ?_
 rintro u1 ⟨c0,p0,g0,d0,q0⟩ D0 u0 b0 y0 s0 h
 unfold aP_l1 at h
 try dsimp only at h
 refine Ai<|Ae<|Ab I<|Bh 0 I<|AG I ((b0.memA .t1) 0 _ I)<|Ac (BR (i:=p0) (j:=a0.fN) I I)<|Aa<|AO I h (fun F0 h=>?_) (fun F0 h=>?_)
 refine Am<|Ai<|Aq<|Ae<|Ab I<|Ab I<|bk h fun q1 Z0 h=>Bz (.bool q1) (bd 56) I (e2 I I) (fun p q=>ah_c n (b0.hL0 hL q) a1 Z0) I<|Ab I<|RG.ifb (s:=18) I h (fun G0 h=>?_) (fun G0 h=>?_)
 refine Au (Ah I)<|Au (Ah I)<|bk h fun s1 b1 h=>RG.callq' (v:=.bool s1) (fst:=[]) (cap:=[]) (.yes I I) (bd 56) I (e2 I I) (fun p q=>ah_c n (b0.hL0 hL q) c0 b1) I<|Au (BV I)<|Bm I I<|Aa<|MX.ifnb I h (fun E0 h=>?_) (fun E0 h=>?_)
 refine Am<|Ao<|Ak<|Ab I<|bk h fun c1 U0 h=>Ac (Bu (i:=p0) (j:=1) I I U0)<|Af I<|Aa<|u0 (c0,c1,g0,d0,q0) b0 y0 s0 h
 refine Ae<|Ac (AP I (b0.memA .t1))<|Ab I<|Ab I<|bk h fun j0 Y0 h=>Bz (vU j0) (bd 57) I (e4 I I I I) (fun p q=>am_c n (b0.hL0 hL q) a0 (b0.k0 h0_1 q) a1 Y0) I<|Af I<|Aa<|Ae<|Ab I<|Ab I<|Av .plain I (jA j0 (vU j0) b0 bT (e1 I)) fun B1 v1 v0 B0=>bk h fun p1 X0 h=>RG.doesL .plain I (AL (α:=Ua) (ys:=([j0]:Lb Ua)) X0 v0 (fun _ _=>.t1) bT I I (Ar s0 B0) (Bx (α:=Ua) v0 .hd (jC j0 (vU j0) v0 L I))) fun k1 D1 ⟨H0,I0,K0,M0⟩=>Af I<|Aa<|Ak<|Ab I<|Ab I<|Ac (FV.orU (a:=c0) (b:=j0) I I)<|Af I<|Aa<|Ao<|Ak<|Ab I<|bk h fun g1 V0 h=>Ac (Bu (i:=p0) (j:=1) I I V0)<|Af I<|Aa ?_
 obtain ⟨J0,C0⟩:=AX I0 .d1
 exact u0 (c0|||j0,g1,p1,k1,H0) J0 (Tt y0 (Tt B0 (Tt K0 C0))) (Ar M0 C0) h
 refine Aj<|Aj<|Aj<|Aj<|Bo I I<|Aa<|Bn I<|Am<|Ao<|Ak<|Ab I<|bk h fun j1 W0 h=>Ac (Bu (i:=p0) (j:=1) I I W0)<|Af I<|Aa<|u0 (c0,j1,g0,d0,q0) b0 y0 s0 h
 refine AT I ?_
 have h:=P0 _ h
 try dsimp only at h
 refine Ae<|Ab I<|Af I<|Aa<|Ap I ?_
 have x0:=BL b0 .hd
 have x1:=BM b0 .hd
 have R0:=BN (α:=Ua) (v:=d0) (xs:=g0) x0 L (BA (α:=Ua) b0 .hd s0 hL)
 refine AV hb0 func35 I I ?_
 cases h
 exact ⟨x0.ag,fun p q=>⟨d0,I,x0.kd R0 q⟩⟩
def br_p (n:Nat) (a0:Tc) (a1:Ua):Oa Bool:=
  (aP_p n a0 a1).bind fun b0=>some (decide (b0.length=1))
theorem br_c (n:Nat) {L w} (hL:hl L w) (a0:Tc) {v0_1:Vc} (h0_1:Rep.R w L [v0_1] a0.fo) (a1:Ua)  {r:Bool} (h:br_p n a0 a1=some r) :
 Cl 14 #[.agg #[vI a0.fN,v0_1],vU a1] w (aj w fun _ u=>u=.bool r):=by
 unfold br_p at h
 refine AJ func14 I I I fun _ cs0 hb0=>Ae<|RG.bx (AI w) I I fun x0 p0 b0 q0=>Af I<|Aa<|Ae<|Ac (AP I (b0.memA .hd))<|Ab I<|bk h fun c0 k0 h=>jE (bd 35) I (e2 I I) (fun p q=>aP_c n (b0.hL hL q) a0 (b0.km h0_1 q) a1 k0) I fun y0 v0 j0 ⟨u0,hu_,d0⟩=>?_
 subst hu_
 obtain ⟨g0,s0⟩:=b0.agr j0
 have t0:=AY d0
 refine Ac (Bf (xs:=c0) underlying101 I d0)<|Ac (FV.eqlN (i:=c0.length) (j:=1) I I)<|Af I<|Aa<|Ap I<|AV hb0 func14 I I ?_
 cases h
 exact g0.gv
def aN_l1 (n:Nat) (a0:Ua) (d0:Int×Nat->Oa Int):Int×Nat->Oa Int
  | (c0,b0)=>(if b0<64 then (ah_p n a0 ((b0:Nat):Int)).bind fun j0=>(if j0=true then (chk (c0+1)).bind fun g0=>d0 (g0,b0+1) else d0 (c0,b0+1)) else some c0)
def aN_p (n:Nat) (a0:Ua):Oa Int:=
  Option.bind (ah (aN_l1 n a0) n (0,0)) (fun b0=>some b0)
theorem aN_c (n:Nat) {L w} (hL:hl L w) (a0:Ua)  {r:Int} (h:aN_p n a0=some r) :
 Cl 58 #[vU a0] w (aj w fun _ u=>u=vI r):=by
 unfold aN_p at h
 refine AJ func58 I I I fun _ cs0 hb0=>Ae<|Af I<|Aa<|Ae<|Af I<|Aa<|Ai<|Ae<|Af I<|Aa<|Aq ?_
 obtain ⟨z0,s0,q0⟩:=ai h
 refine MX.lo (α:=Int×Nat) (fun ⟨c0,b0⟩=>[(0,vU a0),(3,vI c0),(4,vn b0)]) (fun ⟨c0,b0⟩=>[]) (fun ⟨c0,b0⟩=>(c0,b0)) (0,0) s0 (AI w) ?_
 rintro y0 ⟨c0,b0⟩ A0 g0 d0 j0 h
 unfold aN_l1 at h
 try dsimp only at h
 refine Ai<|Ae<|Ab I<|Ac (Bp (i:=b0) (j:=64) I I)<|Aa<|AO I h (fun k0 h=>?_) (fun k0 h=>?_)
 refine Am<|Ai<|Aq<|Ae<|Ab I<|Ab I<|bk h fun x0 u0 h=>Bz (.bool x0) (bd 56) I (e2 I I) (fun p q=>ah_c n (d0.hL0 hL q) a0 u0) I<|Aa<|MX.ifb I h (fun p0 h=>?_) (fun p0 h=>?_)
 refine Ak<|Ab I<|bk h fun v0 t0 h=>Ac (Bu (i:=c0) (j:=1) I I t0)<|Af I<|Aa<|Ao<|Ak<|Ab I<|Ac (AW (i:=b0) (j:=1) I I (by omega))<|Af I<|Aa<|g0 (v0,b0+1) d0 j0 h
 refine Am<|Ao<|Ak<|Ab I<|Ac (AW (i:=b0) (j:=1) I I (by omega))<|Af I<|Aa<|g0 (c0,b0+1) d0 j0 h
 refine AT I ?_
 have h:=q0 _ h
 try dsimp only at h
 refine Ae<|Ab I<|Af I<|Aa<|Ap I<|AV hb0 func58 I I ?_
 cases h
 exact d0.gv
def bG_p (n:Nat) (a0:Tc) (a1:Ua) (a2:Int):Oa Bool:=
  (if 0<=a2 then (if a2<((a0.fo.length:Nat):Int) then (idx a0.fo a2).bind fun b0=>(ah_p n a1 b0.1).bind fun c0=>(if c0=true then (ah_p n a1 b0.2).bind fun d0=>some d0 else some false) else some false) else some false)
theorem bG_c (n:Nat) {L w} (hL:hl L w) (a0:Tc) {v0_1:Vc} (h0_1:Rep.R w L [v0_1] a0.fo) (a1:Ua) {a2:Int}  {r:Bool} (h:bG_p n a0 a1 a2=some r) :
 Cl 59 #[.agg #[vI a0.fN,v0_1],vU a1,vI a2] w (aj w fun _ u=>u=.bool r):=by
 unfold bG_p at h
 refine AJ func59 I I I fun _ cs0 hb0=>Ae<|RG.bx (AI w) I I fun H0 C0 b0 F0=>Af I<|Aa<|Ae<|Ab I<|Ac (FV.geq (i:=a2) (j:=0) I I)<|Ab I<|BD (s:=9) I h (fun p0 h=>?_) (fun p0 h=>?_)
 refine Au (Ah I)<|RG.fg 1 I<|Au (Ay I ((b0.memA .hd) 1 _ I)) ?_
 have c0:=AH h0_1 b0
 have G0:=AY c0
 refine Au (Bf (xs:=a0.fo) underlying30 I c0)<|Au (BR (i:=a2) (j:=((a0.fo.length:Nat):Int)) I I)<|Bm I I<|Ab I<|BD (s:=16) I h (fun q0 h=>?_) (fun q0 h=>?_)
 refine Au (Ah I)<|RG.fg 1 I<|Au (Ay I ((b0.memA .hd) 1 _ I))<|Au (Ah I)<|bk h fun I0 u0 h=>?_
 obtain ⟨g0,v0⟩:=ax u0
 obtain ⟨B0,D0,d0,j0,E0,t0,k0⟩:=Bq c0 v0
 obtain rfl:=dx t0
 refine Au (AU 2 (a2.toNat) I d0 I g0 j0)<|Au (AC (m:=1) (k:=0) (len:=2) I I I I (by omega))<|Au (Ay I (k0 0 _ I))<|bk h fun z0 x0 h=>RG.callq' (v:=.bool z0) (fst:=[]) (cap:=[]) (.yes I I) (bd 56) I (e2 I I) (fun p q=>ah_c n (b0.hL0 hL q) a1 x0) I<|Bm I I<|Ab I<|RG.ifb (s:=26) I h (fun s0 h=>?_) (fun s0 h=>?_)
 refine Au (Ah I)<|RG.fg 1 I<|Au (Ay I ((b0.memA .hd) 1 _ I))<|Au (Ah I)<|Au (AU 2 (a2.toNat) I d0 I g0 j0)<|Au (AC (m:=1) (k:=1) (len:=2) I I I I (by omega))<|Au (Ay I (k0 1 _ I))<|bk h fun A0 y0 h=>RG.callq' (v:=.bool A0) (fst:=[]) (cap:=[]) (.yes I I) (bd 56) I (e2 I I) (fun p q=>ah_c n (b0.hL0 hL q) a1 y0) I<|Bm I I<|Af I<|Aa<|Ap I<|AV hb0 func59 I I ?_
 cases h
 exact b0.gv
 refine Aj<|Aj<|Aj<|Aj<|Aj<|Aj<|Aj<|Aj<|Bo I I<|Af I<|Aa<|Ap I<|AV hb0 func59 I I ?_
 cases h
 exact b0.gv
 refine Aj<|Aj<|Aj<|Aj<|Aj<|Aj<|Aj<|Aj<|Bo I I<|Ab I<|Aj<|Aj<|Aj<|Aj<|Aj<|Aj<|Aj<|Aj<|Bo I I<|Af I<|Aa<|Ap I<|AV hb0 func59 I I ?_
 cases h
 exact b0.gv
 refine Aj<|Aj<|Aj<|Aj<|Aj<|Bo I I<|Ab I<|Aj<|Aj<|Aj<|Aj<|Aj<|Aj<|Aj<|Aj<|Bo I I<|Ab I<|Aj<|Aj<|Aj<|Aj<|Aj<|Aj<|Aj<|Aj<|Bo I I<|Af I<|Aa<|Ap I<|AV hb0 func59 I I ?_
 cases h
 exact b0.gv
def ak_l1 (n:Nat) (a1:Lb Int) (a0:Tc) (g0:Ua×Nat->Oa Ua):Ua×Nat->Oa Ua
  | (b0,d0)=>(if d0<a1.length then (a1[d0]?).bind fun p0=>(idx a0.fo p0).bind fun c0=>(ah_p n b0 c0.1).bind fun q0=>(if q0=true then (al_p n c0.1).bind fun s0=>(al_p n c0.2).bind fun t0=>g0 ((b0|||s0)|||t0,d0+1) else (ah_p n b0 c0.2).bind fun u0=>jn (fun k0=>g0 (k0,d0+1)) (fun j0=>(if u0=true then (al_p n c0.1).bind fun v0=>(al_p n c0.2).bind fun x0=>j0 ((b0|||v0)|||x0) else j0 b0))) else some b0)
def ak_l2 (n:Nat) (a1:Lb Int) (a0:Tc) (d0:Ua×Nat->Oa Ua):Ua×Nat->Oa Ua
  | (c0,b0)=>(if b0<64 then Option.bind (ah (ak_l1 n a1 a0) n (c0,0)) (fun g0=>d0 (g0,b0+1)) else some c0)
def ak_p (n:Nat) (a0:Tc) (a1:Lb Int) (a2:Int):Oa Ua:=
  (al_p n a2).bind fun c0=>Option.bind (ah (ak_l2 n a1 a0) n (c0,0)) (fun b0=>some b0)
theorem ak_c (n:Nat) {L w} (hL:hl L w) (a0:Tc) {v0_1:Vc} (h0_1:Rep.R w L [v0_1] a0.fo) {a1:Lb Int} {v1_0:Vc} (h1_0:Rep.R w L [v1_0] a1) {a2:Int}  {r:Ua} (h:ak_p n a0 a1 a2=some r) :
 Cl 60 #[.agg #[vI a0.fN,v0_1],v1_0,vI a2] w (aj w fun _ u=>u=vU r):=by
 unfold ak_p at h
 refine AJ func60 I I I fun _ cs0 hb0=>Ae<|RG.bx (AI w) I I fun X1 p0 D0 R1=>Af I<|Aa<|Ae<|Ab I<|bk h fun P0 x1 h=>Bz (vU P0) (bd 13) I (e1 I) (fun p q=>al_c n (D0.hL0 hL q)  x1) I<|Af I<|Aa<|Ai<|Ae<|Af I<|Aa<|Aq ?_
 obtain ⟨V1,j1,d1⟩:=ai h
 refine MX.lo (α:=Ua×Nat) (fun ⟨q0,k0⟩=>[(1,v1_0),(3,vP p0),(7,vU q0),(8,vn k0)]) (fun ⟨q0,k0⟩=>[.cells p0 [vI a0.fN,v0_1] 32]) (fun ⟨q0,k0⟩=>(q0,k0)) (P0,0) j1 D0 ?_
 rintro I1 ⟨q0,k0⟩ Y1 X0 E0 Z0 h
 unfold ak_l2 at h
 try dsimp only at h
 refine Ai<|Ae<|Ab I<|Ac (Bp (i:=k0) (j:=64) I I)<|Aa<|AO I h (fun Q0 h=>?_) (fun Q0 h=>?_)
 refine Am<|Ai<|Aq<|Ae<|Af I<|Aa<|Aq ?_
 obtain ⟨W1,k1,g1⟩:=ai h
 refine MX.lo (α:=Ua×Nat) (fun ⟨g0,j0⟩=>[(1,v1_0),(3,vP p0),(7,vU g0),(8,vn k0),(9,vn j0)]) (fun ⟨g0,j0⟩=>[.cells p0 [vI a0.fN,v0_1] 32]) (fun ⟨g0,j0⟩=>(g0,j0)) (q0,0) k1 E0 ?_
 rintro J1 ⟨g0,j0⟩ Z1 B0 d0 v0 h
 unfold ak_l1 at h
 try dsimp only at h
 refine Ai<|Ae<|Ab I<|Ab I ?_
 have x0:=AH h1_0 d0
 have U1:=AY x0
 refine Ac (Bf (xs:=a1) underlying33 I x0)<|Ac (Bp (i:=j0) (j:=a1.length) I I)<|Aa<|AO I h (fun R0 h=>?_) (fun R0 h=>?_)
 refine Am<|Ai<|Aq<|Ai<|du 20 fun b0 c0=>Rv 0 b0 I c0 (fun _=>Bv 1 I)<|Rx 1 786880 b0 I c0 (Ay I ((d0.memA .hd) 1 _ I))<|Rv 2 b0 I c0 (fun _=>Ah I)<|Rv 3 b0 I c0 (fun _=>Ah I)<|bk h fun y0 s1 h=>?_
 obtain ⟨G1,M1,F0,I0,W0,p1,K0⟩:=Bq x0 s1
 have c1:W0=[vI y0]:=p1; subst c1
 refine Rv 4 b0 I c0 (fun _=>AU 1 j0 I F0 I I I0)<|Rx 5 786880 b0 I c0 (Ay I (K0 0 _ I))<|bk h fun c2 u1 h=>?_
 obtain ⟨H0,v1⟩:=ax u1
 obtain ⟨H1,P1,G0,J0,Q1,q1,M0⟩:=Bq (AH h0_1 d0) v1
 obtain rfl:=dx q1
 refine Rv 6 b0 I c0 (fun _=>AU 2 (y0.toNat) I G0 I H0 J0)<|Rv 7 b0 I c0 (fun _=>AC (m:=1) (k:=0) (len:=2) I I I I (by omega))<|Rx 8 786432 b0 I c0 (Ay I (M0 0 _ I))<|Rv 9 b0 I c0 (fun _=>Bv 1 I)<|Rx 10 753664 b0 I c0 (Ay I ((d0.memA .hd) 1 _ I))<|Rv 11 b0 I c0 (fun _=>Ah I)<|Rv 12 b0 I c0 (fun _=>Ah I)<|Rv 13 b0 I c0 (fun _=>AU 1 j0 I F0 I I I0)<|Rx 14 753664 b0 I c0 (Ay I (K0 0 _ I))<|Rv 15 b0 I c0 (fun _=>AU 2 (y0.toNat) I G0 I H0 J0)<|Rv 16 b0 I c0 (fun _=>AC (m:=1) (k:=1) (len:=2) I I I I (by omega))<|Rx 17 524288 b0 I c0 (Ay I (M0 1 _ I))<|Rv 18 b0 I c0 (fun _=>Bi I)<|Rv 19 b0 I c0 (fun _=>Bi I)<|AQ (dk b0)<|Ae<|Ab I<|Ab I<|bk h fun E1 y1 h=>Bz (.bool E1) (bd 56) I (e2 I I) (fun p q=>ah_c n (d0.hL0 hL q) g0 y1) I<|Ab I<|RG.ifb (s:=45) I h (fun U0 h=>?_) (fun U0 h=>?_)
 refine Aj<|Aj<|Aj<|Bm I I<|Aa<|Ba I<|Ak<|Ab I<|Ab I<|bk h fun t0 z1 h=>Bz (vU t0) (bd 13) I (e1 I) (fun p q=>al_c n (d0.hL0 hL q)  z1) I<|Ac (FV.orU (a:=g0) (b:=t0) I I)<|Ab I<|bk h fun z0 A1 h=>Bz (vU z0) (bd 13) I (e1 I) (fun p q=>al_c n (d0.hL0 hL q)  A1) I<|Ac (FV.orU (a:=g0|||t0) (b:=z0) I I)<|Af I<|Aa<|Ao<|Ak<|Ab I<|Ac (AW (i:=j0) (j:=1) I I (by omega))<|Af I<|Aa<|B0 ((g0|||t0)|||z0,j0+1) d0 v0 h
 refine Au (Ah I)<|Au (Ah I)<|bk h fun F1 B1 h=>RG.callq' (v:=.bool F1) (fst:=[]) (cap:=[]) (.yes I I) (bd 56) I (e2 I I) (fun p q=>ah_c n (d0.hL0 hL q) g0 B1) I<|Bo I I<|Aa<|MX.jo (α:=Ua) (fun s0=>[(1,v1_0),(3,vP p0),(7,vU s0),(8,vn k0),(9,vn j0)]) (fun s0=>[.cells p0 [vI a0.fN,v0_1] 32]) (fun s0=>s0) d0 h ?_ ?_
 rintro s0 b2 Y0 b1 h
 try dsimp only at h
 refine Ao<|Ak<|Ab I<|Ac (AW (i:=j0) (j:=1) I I (by omega))<|Af I<|Aa<|B0 (s0,j0+1) Y0 (Tt v0 b1) h
 intro K1 C0 h
 try dsimp only at h
 refine MX.ifb I h (fun V0 h=>?_) (fun V0 h=>?_)
 refine Ak<|Ab I<|Ab I<|bk h fun u0 C1 h=>Bz (vU u0) (bd 13) I (e1 I) (fun p q=>al_c n (d0.hL0 hL q)  C1) I<|Ac (FV.orU (a:=g0) (b:=u0) I I)<|Ab I<|bk h fun A0 D1 h=>Bz (vU A0) (bd 13) I (e1 I) (fun p q=>al_c n (d0.hL0 hL q)  D1) I<|Ac (FV.orU (a:=g0|||u0) (b:=A0) I I)<|Af I<|Aa<|C0 ((g0|||u0)|||A0) d0 (By _ _) h
 refine Am<|C0 g0 d0 (By _ _) h
 refine AT I ?_
 have h:=g1 _ h
 try dsimp only at h
 refine Ao<|Ak<|Ab I<|Ac (AW (i:=k0) (j:=1) I I (by omega))<|Af I<|Aa<|X0 (g0,k0+1) d0 (Tt Z0 v0) h
 refine AT I ?_
 have h:=d1 _ h
 try dsimp only at h
 refine Ae<|Ab I<|Af I<|Aa<|Ap I<|AV hb0 func60 I I ?_
 cases h
 exact E0.gv

theorem aA:ElT Tryz.prog 33 3 (Rep.size Int) 8 (vI 0) [vI 0]:=⟨underlying33,by kernel_rfl,rfl,rfl,rfl,rfl⟩
theorem el60:ElT Tryz.prog 60 33 (Rep.size (Lb Int)) 24 vN [vN]:=⟨underlying60,by kernel_rfl,rfl,rfl,rfl,rfl⟩
def bf_l1 (rec:Tc->Ua->(Lb Int)->Oa (Lb (Lb Int))) (n:Nat) (a0:Tc) (a1:Ua) (a2:Lb Int) (d0:Int×(Lb (Lb Int))->Oa (Lb (Lb Int))):Int×(Lb (Lb Int))->Oa (Lb (Lb Int))
  | (b0,c0)=>(if b0<((a0.fo.length:Nat):Int) then (bG_p n a0 a1 b0).bind fun u0=>(if u0=true then (idx a0.fo b0).bind fun g0=>(ak_p n a0 a2 g0.1).bind fun v0=>(ah_p n v0 g0.2).bind fun x0=>(if x0=true then (chk (b0+1)).bind fun j0=>d0 (j0,c0) else (app ([]:Lb Int) a2).bind fun q0=>(app q0 ([b0]:Lb Int)).bind fun s0=>(rec a0 a1 s0).bind fun y0=>(app c0 y0).bind fun t0=>(chk (b0+1)).bind fun k0=>d0 (k0,t0)) else (chk (b0+1)).bind fun p0=>d0 (p0,c0)) else some c0)
def bg (n:Nat) (rec:Tc->Ua->(Lb Int)->Oa (Lb (Lb Int))) (a0:Tc) (a1:Ua) (a2:Lb Int):Oa (Lb (Lb Int)):=
  (aN_p n a1).bind fun p0=>(chk (p0-1)).bind fun c0=>(if ((a2.length:Nat):Int)=c0 then (app ([]:Lb Int) a2).bind fun j0=>some ([j0]:Lb (Lb Int)) else jn (fun q0=>Option.bind (ah (bf_l1 rec n a0 a1 a2) n (q0,([]:Lb (Lb Int)))) (fun k0=>some k0)) (fun b0=>(if 0<a2.length then (a2[a2.length-1]?).bind fun g0=>(chk (g0+1)).bind fun d0=>b0 d0 else b0 0)))
theorem eC (n:Nat) (rec:Tc->Ua->(Lb Int)->Oa (Lb (Lb Int))) (hrec:∀ (L:Lb Nat) (w:World) (_:∀ b∈L,b<w.heap.size) (a0:Tc) {v0_1:Vc} (_h0_1:Rep.R w L [v0_1] a0.fo) (a1:Ua) {a2:Lb Int} {v2_0:Vc} (_h2_0:Rep.R w L [v2_0] a2)  {r:Lb (Lb Int)} (_h:rec a0 a1 a2=some r),Calls Tryz.prog 36 #[.agg #[vI a0.fN,v0_1],vU a1,v2_0] w (aj w fun w' u=>∃ v0_0:Vc,u=v0_0/\Rep.R w' L [v0_0] r)) (L:Lb Nat) (w:World) (hL:∀ b∈L,b<w.heap.size) (a0:Tc) {v0_1:Vc} (h0_1:Rep.R w L [v0_1] a0.fo) (a1:Ua) {a2:Lb Int} {v2_0:Vc} (h2_0:Rep.R w L [v2_0] a2)  {r:Lb (Lb Int)} (h:bg n rec a0 a1 a2=some r) :
 Cl 36 #[.agg #[vI a0.fN,v0_1],vU a1,v2_0] w (aj w fun w' u=>∃ v0_0:Vc,u=v0_0/\Rep.R w' L [v0_0] r):=by
 unfold bg at h
 refine AJ func36 I I I fun _ cs0 hb0=>Ae<|RG.bx (AI w) I I fun E6 q1 y1 p6=>Af I<|Aa<|Ai<|Ae<|Ab I ?_
 have A1:=AH h2_0 y1
 have z6:=AY A1
 refine Ac (Bf (xs:=a2) underlying33 I A1)<|Ab I<|bk h fun u3 B5 h=>Bz (vI u3) (bd 58) I (e1 I) (fun w9 hw9=>aN_c n (y1.hL0 hL hw9) a1 B5) I<|bk h fun G5 k5 h=>Ac (FV.subc (i:=u3) (j:=1) I I k5)<|Ac (BT (i:=((a2.length:Nat):Int)) (j:=G5) I I)<|Aa<|AO I h (fun x3 h=>?_) (fun x3 h=>?_)
 refine Ae<|Av .plain I (jB Int y1 aA) fun F6 b6 I1 q6=>Ab I<|bk h fun F1 z5 h=>RG.doesL .plain I (AL (α:=Int) (ys:=a2) z5 I1 (fun _ _=>.hd) aA I I (jD Int I1 L) (BO (AH h2_0 I1))) fun B1 G6 ⟨j6,J1,s6,P4⟩=>?_
 have W1:=BL J1 .hd
 have t6:=BM J1 .hd
 have k3:=BN (α:=Int) (v:=B1) (xs:=F1) W1 L (BA (α:=Int) J1 .hd P4 hL)
 obtain ⟨V5,c6,u5,_⟩:=Rep.sl k3
 refine Av .plain I (AS (α:=Lb Int) (xs:=([F1]:Lb (Lb Int))) (vs:=[B1]) (ds' :=[B1]) I W1 el60 I (e1 I) (by rw [u5]; try kernel_rfl) I) fun H6 U1 C1 G4=>Af I<|Aa<|Ap I ?_
 have K1:=BL C1 .hd
 have u6:=BM C1 .hd
 have b5:=BN (α:=Lb Int) (v:=(vS U1 1)) (xs:=([F1]:Lb (Lb Int))) K1 L (BA (α:=Lb Int) C1 .hd (AD (cs:=[B1]) (xs:=(([F1]:Lb (Lb Int)):Lb (Lb Int))) C1 L (AE (cs:=[B1]) (ds:=[]) (AB k3 G4) (AK _ _))) hL)
 refine AV hb0 func36 I I ?_
 cases h
 exact ⟨K1.ag,fun w9 hw9=>⟨(vS U1 1),I,K1.kd b5 hw9⟩⟩
 refine Am<|Ae<|Af I<|Aa<|Ai<|Ae<|Ab I<|Ac (Bf (xs:=a2) underlying33 I A1)<|Ac (FV.gtrN (i:=a2.length) (j:=0) I I)<|Aa<|MX.jo (α:=Int) (fun z1=>[(1,vU a1),(2,v2_0),(3,vP q1),(7,vI z1)]) (fun z1=>[.cells q1 [vI a0.fN,v0_1] 32]) (fun z1=>z1) y1 h ?_ ?_
 rintro z1 K6 X1 v6 h
 try dsimp only at h
 refine Ae<|Af I<|Aa<|Ai<|Ae<|Ab I<|Af I<|Aa<|Aq ?_
 have Y1:=X1.nilRow 33 (Rep.size (Lb Int))
 have x6:=BW X1 33 (Rep.size (Lb Int))
 obtain ⟨B6,Z4,W4⟩:=ai h
 refine MX.lf (α:=Int×(Lb (Lb Int))×Vc×(Lb Vc)) (fun ⟨c0,b1,X0,c1⟩=>[(1,vU a1),(2,v2_0),(3,vP q1),(8,X0),(9,vI c0)]) (fun ⟨c0,b1,X0,c1⟩=>[rr w 33 (Lb Int) X0 b1.length c1,.cells q1 [vI a0.fN,v0_1] 32]) (fun ⟨c0,b1,X0,c1⟩ p3=>Cells p3 (bl [rr w 33 (Lb Int) X0 b1.length c1,.cells q1 [vI a0.fN,v0_1] 32]++L) c1 b1) (fun ⟨c0,b1,X0,c1⟩=>(c0,b1)) (z1,([]:Lb (Lb Int)),vN,[]) Z4 Y1 (AD (cs:=[]) (xs:=([]:Lb (Lb Int))) Y1 L (AK _ _)) ?_
 rintro Y5 ⟨c0,b1,X0,c1⟩ p3 H1 J0 Q1 E1 h
 unfold bf_l1 at h
 try dsimp only at h
 refine Ai<|Ae<|Ab I<|Bh 1 I<|AG I ((J0.memA .t1) 1 _ I) ?_
 have R1:=AH h0_1 J0
 have A6:=AY R1
 refine Ac (Bf (xs:=a0.fo) underlying30 I R1)<|Ac (BR (i:=c0) (j:=((a0.fo.length:Nat):Int)) I I)<|Aa<|AO I h (fun y3 h=>?_) (fun y3 h=>?_)
 refine Am<|Ai<|Aq<|Ai<|Ai<|du 23 fun K0 Q0=>Rx 0 8388600 K0 I Q0 (AP I (J0.memA .t1))<|Rv 1 K0 I Q0 (fun _=>Ah I)<|Rv 2 K0 I Q0 (fun _=>Ah I)<|bk h fun Q5 C5 h=>RD.cq 3 15 8388592 (.bool Q5) K0 I Q0 (bd 59) I (e3 I I I) (fun w9 hw9=>bG_c n (J0.hL0 hL hw9) a0 (J0.k0 h0_1 hw9) a1 C5) I<|Rv 4 K0 I Q0 (fun _=>BV I)<|Rv 5 K0 I Q0 (fun _=>Ah I)<|RD.ifnb (s:=43) I h (fun z3 h=>?_) (fun z3 h=>?_)
 refine RD.val (i:=6) (m' :=127) (W:=6307840) (tk K0) I Q0 (.yes I I) (AP I (J0.memA .t1)) I<|RD.vP 7 255 K0 I Q0 (.yes I I) (fun _=>Ah I) I<|RD.vP 8 511 K0 I Q0 (.yes I I) (fun _=>Bv 1 I) I<|RD.val (i:=9) (m' :=1023) (W:=6322176) (tk K0) I Q0 (.yes I I) (Ay I ((J0.memA .t1) 1 _ I)) I<|RD.vP 10 2047 K0 I Q0 (.yes I I) (fun _=>Ah I) I<|bk h fun M6 v5 h=>?_
 obtain ⟨c3,x5⟩:=ax v5
 obtain ⟨W5,d6,b3,d3,k6,c5,g3⟩:=Bq R1 x5
 obtain rfl:=dx c5
 refine RD.vP 11 4095 K0 I Q0 (.yes I I) (fun _=>AU 2 (c0.toNat) I b3 I c3 d3) I<|RD.vP 12 8191 K0 I Q0 (.yes I I) (fun _=>AC (m:=1) (k:=0) (len:=2) I I I I (by omega)) I<|RD.val (i:=13) (m' :=16383) (W:=6307840) (tk K0) I Q0 (.yes I I) (Ay I (g3 0 _ I)) I<|bk h fun v3 D5 h=>RD.callq (i:=14) (m' :=32767) (W:=6291456) (tk K0) I Q0 (v:=vU v3) (fst:=[]) (cap:=[]) (.yes I I) (bd 60) I (e3 I I I) (fun w9 hw9=>ak_c n (J0.hL0 hL hw9) a0 (J0.k0 h0_1 hw9) (J0.k0 h2_0 hw9) D5) I<|RD.vP 15 65535 K0 I Q0 (.yes I I) (fun _=>Bv 1 I) I<|RD.val (i:=16) (m' :=131071) (W:=8126464) (tk K0) I Q0 (.yes I I) (Ay I ((J0.memA .t1) 1 _ I)) I<|RD.vP 17 262143 K0 I Q0 (.yes I I) (fun _=>Ah I) I<|RD.vP 18 524287 K0 I Q0 (.yes I I) (fun _=>AU 2 (c0.toNat) I b3 I c3 d3) I<|RD.vP 19 1048575 K0 I Q0 (.yes I I) (fun _=>AC (m:=1) (k:=1) (len:=2) I I I I (by omega)) I<|RD.val (i:=20) (m' :=2097151) (W:=6291456) (tk K0) I Q0 (.yes I I) (Ay I (g3 1 _ I)) I<|bk h fun R5 E5 h=>RD.callq (i:=21) (m' :=4194303) (W:=4194304) (tk K0) I Q0 (v:=.bool R5) (fst:=[]) (cap:=[]) (.yes I I) (bd 56) I (e2 I I) (fun w9 hw9=>ah_c n (J0.hL0 hL hw9) v3 E5) I<|Rv 22 K0 I Q0 (fun _=>BS I I)<|AQ (dk K0)<|MX.ifb I h (fun A3 h=>?_) (fun A3 h=>?_)
 refine AT I<|Ak<|Ab I<|bk h fun H5 p5 h=>Ac (Bu (i:=c0) (j:=1) I I p5)<|Af I<|Aa<|H1 (H5,b1,X0,c1) J0 Q1 E1 h
 refine Am<|du 5 fun b0 j1=>Rv 0 b0 I j1 (fun _=>Ah I)<|Rv 2 b0 I j1 (fun _=>Ah I)<|Rv 4 b0 I j1 (fun _=>Ah I)<|bk h fun P6 M0 h=>bk h fun G1 E0 h=>RD.mf (α:=Vc×(Lb Vc)) (fun ⟨v1,x1⟩=>[(1,vU a1),(2,v2_0),(3,vP q1),(8,X0),(9,vI c0),(61,X0),(63,vU a1),(62,.agg #[vI a0.fN,v0_1]),(69,v1)]) (fun ⟨v1,x1⟩=>[rr w 3 Int v1 G1.length x1,rr w 33 (Lb Int) X0 b1.length c1,.cells q1 [vI a0.fN,v0_1] 32]) (fun ⟨v1,x1⟩ q3=>Cells q3 (bl [rr w 3 Int v1 G1.length x1,rr w 33 (Lb Int) X0 b1.length c1,.cells q1 [vI a0.fN,v0_1] 32]++L) x1 (G1:Lb Int)) J0 3 511 ?_ ?_
 rintro ⟨v1,x1⟩ q3 M1 H4 Q4
 try dsimp only
 have D1:=BL M1 .hd
 have I4:=BM M1 .hd
 refine bk h fun U5 F5 h=>BQ 9 1023 b0 I .plain (bd 36) I (e3 I I I) (fun w9 hw9=>hrec _ w9 (D1.hL hL hw9) a0 (D1.km h0_1 hw9) a1 (Ax (BN (α:=Int) (v:=v1) (xs:=G1) D1 L (BA (α:=Int) M1 .hd Q4 hL)) hw9) F5) I fun I6 D6 M4 ⟨C6,hu_,d5⟩=>?_
 subst hu_
 obtain ⟨E3,J4⟩:=D1.agr M4
 refine bk h fun P5 A5 h=>?_
 have j3:=Tt H4 (Tt I4 J4)
 refine Bb (i:=10) (rk b0) (AZ (m' :=2047) (sk b0) I I .plain I (AL (α:=Lb Int) (ys:=U5) A5 E3 (fun _ _=>.hd) el60 I I (Ar E1 j3) (BO d5)) (fun M5 J6 ⟨C3,F3,K4,R4⟩=>?_))
 refine Bb (i:=11) (rk b0) (Bg (m' :=4095) (sk b0) I .plain I (Bi I) ?_)
 refine AQ (dk b0)<|Ao<|Ak<|Ab I<|bk h fun I5 q5 h=>Ac (Bu (i:=c0) (j:=1) I I q5)<|Af I<|Aa<|H1 (I5,P5,M5,C3) F3 (Tt Q1 (Tt j3 K4)) R4 h
 intro D0
 refine Bc [1,3,6] (rk b0) ⟨?_,?_,?_,trivial⟩
 refine Bg (m' :=23) (sk b0) I .plain I (AP I (J0.memA .t1))<|Bc [3,6] (rk b0) ⟨?_,?_,trivial⟩
 refine BH (m' :=31) (sk b0) I .plain I (jB Int J0 aA) fun u1 s1 v0 y0=>?_
 have H0:=jD Int v0 L
 refine Bc [5,6] (rk b0) ⟨?_,?_,trivial⟩
 have z0:=AH h2_0 v0
 refine AZ (m' :=63) (sk b0) I I .plain I (AL (α:=Int) (ys:=a2) M0 v0 (fun _ _=>.hd) aA I I H0 (BO z0)) fun Y0 Z0 ⟨W0,A0,B0,C0⟩=>Bb (i:=6) (rk b0) (Bg (m' :=127) (sk b0) I .plain I (Ah I) ?_)
 refine RD.nu 7 255 b0 I .plain I (jA c0 (vI c0) A0 aA (e1 I)) fun R0 P0 d0 g0=>?_
 have x0:=jC c0 (vI c0) d0 L I
 have u0:=Ar C0 g0
 refine Bb (i:=8) (rk b0) (AZ (m' :=511) (sk b0) I I .plain I (AL (α:=Int) (ys:=([c0]:Lb Int)) E0 d0 (fun _ _=>.t1) aA I I u0 (Bx (α:=Int) d0 .hd x0)) (fun t0 G0 ⟨p0,j0,q0,s0⟩=>?_))
 obtain ⟨G3,Z1⟩:=AX j0 .d1
 exact D0 (t0,p0) G3 (Tt y0 (Tt B0 (Tt g0 (Tt q0 Z1)))) (Ar s0 Z1)
 refine Bg (m' :=95) (sk b0) I .plain I (Ah I)<|Bc [5,7] (rk b0) ⟨?_,?_,trivial⟩
 have z0:=AH h2_0 v0
 refine AZ (m' :=127) (sk b0) I I .plain I (AL (α:=Int) (ys:=a2) M0 v0 (fun _ _=>.hd) aA I I H0 (BO z0)) fun Y0 Z0 ⟨W0,A0,B0,C0⟩=>RD.nu 7 255 b0 I .plain I (jA c0 (vI c0) A0 aA (e1 I)) fun R0 P0 d0 g0=>?_
 have x0:=jC c0 (vI c0) d0 L I
 have u0:=Ar C0 g0
 refine Bb (i:=8) (rk b0) (AZ (m' :=511) (sk b0) I I .plain I (AL (α:=Int) (ys:=([c0]:Lb Int)) E0 d0 (fun _ _=>.t1) aA I I u0 (Bx (α:=Int) d0 .hd x0)) (fun t0 G0 ⟨p0,j0,q0,s0⟩=>?_))
 obtain ⟨H3,b2⟩:=AX j0 .d1
 exact D0 (t0,p0) H3 (Tt y0 (Tt B0 (Tt g0 (Tt q0 b2)))) (Ar s0 b2)
 refine BH (m' :=223) (sk b0) I .plain I (jA c0 (vI c0) v0 aA (e1 I)) fun R0 P0 d0 g0=>?_
 have x0:=jC c0 (vI c0) d0 L I
 have z0:=AH h2_0 d0
 have V0:=Ar H0 g0
 refine Bb (i:=5) (rk b0) (AZ (m' :=255) (sk b0) I I .plain I (AL (α:=Int) (ys:=a2) M0 d0 (fun _ _=>.t1) aA I I V0 (BO z0)) (fun k1 p1 ⟨g1,F0,I0,U0⟩=>?_))
 have u0:=Ar x0 I0
 refine Bb (i:=8) (rk b0) (AZ (m' :=511) (sk b0) I I .plain I (AL (α:=Int) (ys:=([c0]:Lb Int)) E0 F0 (fun _ _=>.t1) aA I I U0 (Bx (α:=Int) F0 .hd u0)) (fun t0 G0 ⟨p0,j0,q0,s0⟩=>?_))
 obtain ⟨I3,c2⟩:=AX j0 .d1
 exact D0 (t0,p0) I3 (Tt y0 (Tt g0 (Tt I0 (Tt q0 c2)))) (Ar s0 c2)
 refine Bg (m' :=87) (sk b0) I .plain I (Ah I)<|Bc [3,7] (rk b0) ⟨?_,?_,trivial⟩
 refine BH (m' :=95) (sk b0) I .plain I (jB Int J0 aA) fun u1 s1 v0 y0=>?_
 have H0:=jD Int v0 L
 refine Bc [5,7] (rk b0) ⟨?_,?_,trivial⟩
 have z0:=AH h2_0 v0
 refine AZ (m' :=127) (sk b0) I I .plain I (AL (α:=Int) (ys:=a2) M0 v0 (fun _ _=>.hd) aA I I H0 (BO z0)) fun Y0 Z0 ⟨W0,A0,B0,C0⟩=>RD.nu 7 255 b0 I .plain I (jA c0 (vI c0) A0 aA (e1 I)) fun R0 P0 d0 g0=>?_
 have x0:=jC c0 (vI c0) d0 L I
 have u0:=Ar C0 g0
 refine Bb (i:=8) (rk b0) (AZ (m' :=511) (sk b0) I I .plain I (AL (α:=Int) (ys:=([c0]:Lb Int)) E0 d0 (fun _ _=>.t1) aA I I u0 (Bx (α:=Int) d0 .hd x0)) (fun t0 G0 ⟨p0,j0,q0,s0⟩=>?_))
 obtain ⟨J3,d2⟩:=AX j0 .d1
 exact D0 (t0,p0) J3 (Tt y0 (Tt B0 (Tt g0 (Tt q0 d2)))) (Ar s0 d2)
 refine BH (m' :=223) (sk b0) I .plain I (jA c0 (vI c0) v0 aA (e1 I)) fun R0 P0 d0 g0=>?_
 have x0:=jC c0 (vI c0) d0 L I
 have z0:=AH h2_0 d0
 have V0:=Ar H0 g0
 refine Bb (i:=5) (rk b0) (AZ (m' :=255) (sk b0) I I .plain I (AL (α:=Int) (ys:=a2) M0 d0 (fun _ _=>.t1) aA I I V0 (BO z0)) (fun k1 p1 ⟨g1,F0,I0,U0⟩=>?_))
 have u0:=Ar x0 I0
 refine Bb (i:=8) (rk b0) (AZ (m' :=511) (sk b0) I I .plain I (AL (α:=Int) (ys:=([c0]:Lb Int)) E0 F0 (fun _ _=>.t1) aA I I U0 (Bx (α:=Int) F0 .hd u0)) (fun t0 G0 ⟨p0,j0,q0,s0⟩=>?_))
 obtain ⟨K3,g2⟩:=AX j0 .d1
 exact D0 (t0,p0) K3 (Tt y0 (Tt g0 (Tt I0 (Tt q0 g2)))) (Ar s0 g2)
 refine BH (m' :=215) (sk b0) I .plain I (jA c0 (vI c0) J0 aA (e1 I)) fun R0 P0 d0 g0=>?_
 have x0:=jC c0 (vI c0) d0 L I
 refine RD.nu 3 223 b0 I .plain I (jB Int d0 aA) fun u1 s1 v0 y0=>?_
 have H0:=jD Int v0 L
 have z0:=AH h2_0 v0
 refine Bb (i:=5) (rk b0) (AZ (m' :=255) (sk b0) I I .plain I (AL (α:=Int) (ys:=a2) M0 v0 (fun _ _=>.hd) aA I I H0 (BO z0)) (fun Y0 Z0 ⟨W0,A0,B0,C0⟩=>?_))
 have u0:=Ar x0 (Tt y0 B0)
 refine Bb (i:=8) (rk b0) (AZ (m' :=511) (sk b0) I I .plain I (AL (α:=Int) (ys:=([c0]:Lb Int)) E0 A0 (fun _ _=>.hd) aA I I C0 (Bx (α:=Int) A0 .t1 u0)) (fun t0 G0 ⟨p0,j0,q0,s0⟩=>?_))
 obtain ⟨M3,j2⟩:=AX j0 (.a0 .d1)
 exact D0 (t0,p0) M3 (Tt g0 (Tt y0 (Tt B0 (Tt q0 j2)))) (Ar s0 j2)
 refine BH (m' :=29) (sk b0) I .plain I (jB Int J0 aA) fun u1 s1 v0 y0=>?_
 have H0:=jD Int v0 L
 refine Bc [1,5,6] (rk b0) ⟨?_,?_,?_,trivial⟩
 refine Bg (m' :=31) (sk b0) I .plain I (AP I (v0.memA .t2))<|Bc [5,6] (rk b0) ⟨?_,?_,trivial⟩
 have z0:=AH h2_0 v0
 refine AZ (m' :=63) (sk b0) I I .plain I (AL (α:=Int) (ys:=a2) M0 v0 (fun _ _=>.hd) aA I I H0 (BO z0)) fun Y0 Z0 ⟨W0,A0,B0,C0⟩=>Bb (i:=6) (rk b0) (Bg (m' :=127) (sk b0) I .plain I (Ah I) ?_)
 refine RD.nu 7 255 b0 I .plain I (jA c0 (vI c0) A0 aA (e1 I)) fun R0 P0 d0 g0=>?_
 have x0:=jC c0 (vI c0) d0 L I
 have u0:=Ar C0 g0
 refine Bb (i:=8) (rk b0) (AZ (m' :=511) (sk b0) I I .plain I (AL (α:=Int) (ys:=([c0]:Lb Int)) E0 d0 (fun _ _=>.t1) aA I I u0 (Bx (α:=Int) d0 .hd x0)) (fun t0 G0 ⟨p0,j0,q0,s0⟩=>?_))
 obtain ⟨P3,k2⟩:=AX j0 .d1
 exact D0 (t0,p0) P3 (Tt y0 (Tt B0 (Tt g0 (Tt q0 k2)))) (Ar s0 k2)
 refine Bg (m' :=95) (sk b0) I .plain I (Ah I)<|Bc [5,7] (rk b0) ⟨?_,?_,trivial⟩
 have z0:=AH h2_0 v0
 refine AZ (m' :=127) (sk b0) I I .plain I (AL (α:=Int) (ys:=a2) M0 v0 (fun _ _=>.hd) aA I I H0 (BO z0)) fun Y0 Z0 ⟨W0,A0,B0,C0⟩=>RD.nu 7 255 b0 I .plain I (jA c0 (vI c0) A0 aA (e1 I)) fun R0 P0 d0 g0=>?_
 have x0:=jC c0 (vI c0) d0 L I
 have u0:=Ar C0 g0
 refine Bb (i:=8) (rk b0) (AZ (m' :=511) (sk b0) I I .plain I (AL (α:=Int) (ys:=([c0]:Lb Int)) E0 d0 (fun _ _=>.t1) aA I I u0 (Bx (α:=Int) d0 .hd x0)) (fun t0 G0 ⟨p0,j0,q0,s0⟩=>?_))
 obtain ⟨Q3,p2⟩:=AX j0 .d1
 exact D0 (t0,p0) Q3 (Tt y0 (Tt B0 (Tt g0 (Tt q0 p2)))) (Ar s0 p2)
 refine BH (m' :=223) (sk b0) I .plain I (jA c0 (vI c0) v0 aA (e1 I)) fun R0 P0 d0 g0=>?_
 have x0:=jC c0 (vI c0) d0 L I
 have z0:=AH h2_0 d0
 have V0:=Ar H0 g0
 refine Bb (i:=5) (rk b0) (AZ (m' :=255) (sk b0) I I .plain I (AL (α:=Int) (ys:=a2) M0 d0 (fun _ _=>.t1) aA I I V0 (BO z0)) (fun k1 p1 ⟨g1,F0,I0,U0⟩=>?_))
 have u0:=Ar x0 I0
 refine Bb (i:=8) (rk b0) (AZ (m' :=511) (sk b0) I I .plain I (AL (α:=Int) (ys:=([c0]:Lb Int)) E0 F0 (fun _ _=>.t1) aA I I U0 (Bx (α:=Int) F0 .hd u0)) (fun t0 G0 ⟨p0,j0,q0,s0⟩=>?_))
 obtain ⟨R3,q2⟩:=AX j0 .d1
 exact D0 (t0,p0) R3 (Tt y0 (Tt g0 (Tt I0 (Tt q0 q2)))) (Ar s0 q2)
 have z0:=AH h2_0 v0
 refine AZ (m' :=61) (sk b0) I I .plain I (AL (α:=Int) (ys:=a2) M0 v0 (fun _ _=>.hd) aA I I H0 (BO z0)) fun Y0 Z0 ⟨W0,A0,B0,C0⟩=>Bc [1,6] (rk b0) ⟨?_,?_,trivial⟩
 refine Bg (m' :=63) (sk b0) I .plain I (AP I (A0.memA .t2))<|Bb (i:=6) (rk b0) (Bg (m' :=127) (sk b0) I .plain I (Ah I) ?_)
 refine RD.nu 7 255 b0 I .plain I (jA c0 (vI c0) A0 aA (e1 I)) fun R0 P0 d0 g0=>?_
 have x0:=jC c0 (vI c0) d0 L I
 have u0:=Ar C0 g0
 refine Bb (i:=8) (rk b0) (AZ (m' :=511) (sk b0) I I .plain I (AL (α:=Int) (ys:=([c0]:Lb Int)) E0 d0 (fun _ _=>.t1) aA I I u0 (Bx (α:=Int) d0 .hd x0)) (fun t0 G0 ⟨p0,j0,q0,s0⟩=>?_))
 obtain ⟨U3,s2⟩:=AX j0 .d1
 exact D0 (t0,p0) U3 (Tt y0 (Tt B0 (Tt g0 (Tt q0 s2)))) (Ar s0 s2)
 refine Bg (m' :=125) (sk b0) I .plain I (Ah I)<|Bc [1,7] (rk b0) ⟨?_,?_,trivial⟩
 refine Bg (m' :=127) (sk b0) I .plain I (AP I (A0.memA .t2))<|RD.nu 7 255 b0 I .plain I (jA c0 (vI c0) A0 aA (e1 I)) fun R0 P0 d0 g0=>?_
 have x0:=jC c0 (vI c0) d0 L I
 have u0:=Ar C0 g0
 refine Bb (i:=8) (rk b0) (AZ (m' :=511) (sk b0) I I .plain I (AL (α:=Int) (ys:=([c0]:Lb Int)) E0 d0 (fun _ _=>.t1) aA I I u0 (Bx (α:=Int) d0 .hd x0)) (fun t0 G0 ⟨p0,j0,q0,s0⟩=>?_))
 obtain ⟨V3,u2⟩:=AX j0 .d1
 exact D0 (t0,p0) V3 (Tt y0 (Tt B0 (Tt g0 (Tt q0 u2)))) (Ar s0 u2)
 refine BH (m' :=253) (sk b0) I .plain I (jA c0 (vI c0) A0 aA (e1 I)) fun R0 P0 d0 g0=>?_
 have x0:=jC c0 (vI c0) d0 L I
 refine Bc [1,8] (rk b0) ⟨?_,?_,trivial⟩
 refine Bg (m' :=255) (sk b0) I .plain I (AP I (d0.memA .t3)) ?_
 have u0:=Ar C0 g0
 refine Bb (i:=8) (rk b0) (AZ (m' :=511) (sk b0) I I .plain I (AL (α:=Int) (ys:=([c0]:Lb Int)) E0 d0 (fun _ _=>.t1) aA I I u0 (Bx (α:=Int) d0 .hd x0)) (fun t0 G0 ⟨p0,j0,q0,s0⟩=>?_))
 obtain ⟨W3,v2⟩:=AX j0 .d1
 exact D0 (t0,p0) W3 (Tt y0 (Tt B0 (Tt g0 (Tt q0 v2)))) (Ar s0 v2)
 have u0:=Ar C0 g0
 refine AZ (m' :=509) (sk b0) I I .plain I (AL (α:=Int) (ys:=([c0]:Lb Int)) E0 d0 (fun _ _=>.t1) aA I I u0 (Bx (α:=Int) d0 .hd x0)) fun t0 G0 ⟨p0,j0,q0,s0⟩=>Rx 1 3584 b0 I j1 (AP I (j0.memA .t3)) ?_
 obtain ⟨X3,x2⟩:=AX j0 .d1
 exact D0 (t0,p0) X3 (Tt y0 (Tt B0 (Tt g0 (Tt q0 x2)))) (Ar s0 x2)
 refine Bg (m' :=93) (sk b0) I .plain I (Ah I)<|Bc [1,5,7] (rk b0) ⟨?_,?_,?_,trivial⟩
 refine Bg (m' :=95) (sk b0) I .plain I (AP I (v0.memA .t2))<|Bc [5,7] (rk b0) ⟨?_,?_,trivial⟩
 have z0:=AH h2_0 v0
 refine AZ (m' :=127) (sk b0) I I .plain I (AL (α:=Int) (ys:=a2) M0 v0 (fun _ _=>.hd) aA I I H0 (BO z0)) fun Y0 Z0 ⟨W0,A0,B0,C0⟩=>RD.nu 7 255 b0 I .plain I (jA c0 (vI c0) A0 aA (e1 I)) fun R0 P0 d0 g0=>?_
 have x0:=jC c0 (vI c0) d0 L I
 have u0:=Ar C0 g0
 refine Bb (i:=8) (rk b0) (AZ (m' :=511) (sk b0) I I .plain I (AL (α:=Int) (ys:=([c0]:Lb Int)) E0 d0 (fun _ _=>.t1) aA I I u0 (Bx (α:=Int) d0 .hd x0)) (fun t0 G0 ⟨p0,j0,q0,s0⟩=>?_))
 obtain ⟨Y3,y2⟩:=AX j0 .d1
 exact D0 (t0,p0) Y3 (Tt y0 (Tt B0 (Tt g0 (Tt q0 y2)))) (Ar s0 y2)
 refine BH (m' :=223) (sk b0) I .plain I (jA c0 (vI c0) v0 aA (e1 I)) fun R0 P0 d0 g0=>?_
 have x0:=jC c0 (vI c0) d0 L I
 have z0:=AH h2_0 d0
 have V0:=Ar H0 g0
 refine Bb (i:=5) (rk b0) (AZ (m' :=255) (sk b0) I I .plain I (AL (α:=Int) (ys:=a2) M0 d0 (fun _ _=>.t1) aA I I V0 (BO z0)) (fun k1 p1 ⟨g1,F0,I0,U0⟩=>?_))
 have u0:=Ar x0 I0
 refine Bb (i:=8) (rk b0) (AZ (m' :=511) (sk b0) I I .plain I (AL (α:=Int) (ys:=([c0]:Lb Int)) E0 F0 (fun _ _=>.t1) aA I I U0 (Bx (α:=Int) F0 .hd u0)) (fun t0 G0 ⟨p0,j0,q0,s0⟩=>?_))
 obtain ⟨Z3,z2⟩:=AX j0 .d1
 exact D0 (t0,p0) Z3 (Tt y0 (Tt g0 (Tt I0 (Tt q0 z2)))) (Ar s0 z2)
 have z0:=AH h2_0 v0
 refine AZ (m' :=125) (sk b0) I I .plain I (AL (α:=Int) (ys:=a2) M0 v0 (fun _ _=>.hd) aA I I H0 (BO z0)) fun Y0 Z0 ⟨W0,A0,B0,C0⟩=>Bc [1,7] (rk b0) ⟨?_,?_,trivial⟩
 refine Bg (m' :=127) (sk b0) I .plain I (AP I (A0.memA .t2))<|RD.nu 7 255 b0 I .plain I (jA c0 (vI c0) A0 aA (e1 I)) fun R0 P0 d0 g0=>?_
 have x0:=jC c0 (vI c0) d0 L I
 have u0:=Ar C0 g0
 refine Bb (i:=8) (rk b0) (AZ (m' :=511) (sk b0) I I .plain I (AL (α:=Int) (ys:=([c0]:Lb Int)) E0 d0 (fun _ _=>.t1) aA I I u0 (Bx (α:=Int) d0 .hd x0)) (fun t0 G0 ⟨p0,j0,q0,s0⟩=>?_))
 obtain ⟨b4,A2⟩:=AX j0 .d1
 exact D0 (t0,p0) b4 (Tt y0 (Tt B0 (Tt g0 (Tt q0 A2)))) (Ar s0 A2)
 refine BH (m' :=253) (sk b0) I .plain I (jA c0 (vI c0) A0 aA (e1 I)) fun R0 P0 d0 g0=>?_
 have x0:=jC c0 (vI c0) d0 L I
 refine Bc [1,8] (rk b0) ⟨?_,?_,trivial⟩
 refine Bg (m' :=255) (sk b0) I .plain I (AP I (d0.memA .t3)) ?_
 have u0:=Ar C0 g0
 refine Bb (i:=8) (rk b0) (AZ (m' :=511) (sk b0) I I .plain I (AL (α:=Int) (ys:=([c0]:Lb Int)) E0 d0 (fun _ _=>.t1) aA I I u0 (Bx (α:=Int) d0 .hd x0)) (fun t0 G0 ⟨p0,j0,q0,s0⟩=>?_))
 obtain ⟨c4,B2⟩:=AX j0 .d1
 exact D0 (t0,p0) c4 (Tt y0 (Tt B0 (Tt g0 (Tt q0 B2)))) (Ar s0 B2)
 have u0:=Ar C0 g0
 refine AZ (m' :=509) (sk b0) I I .plain I (AL (α:=Int) (ys:=([c0]:Lb Int)) E0 d0 (fun _ _=>.t1) aA I I u0 (Bx (α:=Int) d0 .hd x0)) fun t0 G0 ⟨p0,j0,q0,s0⟩=>Rx 1 3584 b0 I j1 (AP I (j0.memA .t3)) ?_
 obtain ⟨d4,C2⟩:=AX j0 .d1
 exact D0 (t0,p0) d4 (Tt y0 (Tt B0 (Tt g0 (Tt q0 C2)))) (Ar s0 C2)
 refine BH (m' :=221) (sk b0) I .plain I (jA c0 (vI c0) v0 aA (e1 I)) fun R0 P0 d0 g0=>?_
 have x0:=jC c0 (vI c0) d0 L I
 refine Bc [1,5] (rk b0) ⟨?_,?_,trivial⟩
 refine Bg (m' :=223) (sk b0) I .plain I (AP I (d0.memA .t3)) ?_
 have z0:=AH h2_0 d0
 have V0:=Ar H0 g0
 refine Bb (i:=5) (rk b0) (AZ (m' :=255) (sk b0) I I .plain I (AL (α:=Int) (ys:=a2) M0 d0 (fun _ _=>.t1) aA I I V0 (BO z0)) (fun k1 p1 ⟨g1,F0,I0,U0⟩=>?_))
 have u0:=Ar x0 I0
 refine Bb (i:=8) (rk b0) (AZ (m' :=511) (sk b0) I I .plain I (AL (α:=Int) (ys:=([c0]:Lb Int)) E0 F0 (fun _ _=>.t1) aA I I U0 (Bx (α:=Int) F0 .hd u0)) (fun t0 G0 ⟨p0,j0,q0,s0⟩=>?_))
 obtain ⟨g4,D2⟩:=AX j0 .d1
 exact D0 (t0,p0) g4 (Tt y0 (Tt g0 (Tt I0 (Tt q0 D2)))) (Ar s0 D2)
 have z0:=AH h2_0 d0
 have V0:=Ar H0 g0
 refine AZ (m' :=253) (sk b0) I I .plain I (AL (α:=Int) (ys:=a2) M0 d0 (fun _ _=>.t1) aA I I V0 (BO z0)) fun k1 p1 ⟨g1,F0,I0,U0⟩=>Bc [1,8] (rk b0) ⟨?_,?_,trivial⟩
 refine Bg (m' :=255) (sk b0) I .plain I (AP I (F0.memA .t3)) ?_
 have u0:=Ar x0 I0
 refine Bb (i:=8) (rk b0) (AZ (m' :=511) (sk b0) I I .plain I (AL (α:=Int) (ys:=([c0]:Lb Int)) E0 F0 (fun _ _=>.t1) aA I I U0 (Bx (α:=Int) F0 .hd u0)) (fun t0 G0 ⟨p0,j0,q0,s0⟩=>?_))
 obtain ⟨j4,E2⟩:=AX j0 .d1
 exact D0 (t0,p0) j4 (Tt y0 (Tt g0 (Tt I0 (Tt q0 E2)))) (Ar s0 E2)
 have u0:=Ar x0 I0
 refine AZ (m' :=509) (sk b0) I I .plain I (AL (α:=Int) (ys:=([c0]:Lb Int)) E0 F0 (fun _ _=>.t1) aA I I U0 (Bx (α:=Int) F0 .hd u0)) fun t0 G0 ⟨p0,j0,q0,s0⟩=>Rx 1 3584 b0 I j1 (AP I (j0.memA .t3)) ?_
 obtain ⟨k4,F2⟩:=AX j0 .d1
 exact D0 (t0,p0) k4 (Tt y0 (Tt g0 (Tt I0 (Tt q0 F2)))) (Ar s0 F2)
 refine Bg (m' :=85) (sk b0) I .plain I (Ah I)<|Bc [1,3,7] (rk b0) ⟨?_,?_,?_,trivial⟩
 refine Bg (m' :=87) (sk b0) I .plain I (AP I (J0.memA .t1))<|Bc [3,7] (rk b0) ⟨?_,?_,trivial⟩
 refine BH (m' :=95) (sk b0) I .plain I (jB Int J0 aA) fun u1 s1 v0 y0=>?_
 have H0:=jD Int v0 L
 refine Bc [5,7] (rk b0) ⟨?_,?_,trivial⟩
 have z0:=AH h2_0 v0
 refine AZ (m' :=127) (sk b0) I I .plain I (AL (α:=Int) (ys:=a2) M0 v0 (fun _ _=>.hd) aA I I H0 (BO z0)) fun Y0 Z0 ⟨W0,A0,B0,C0⟩=>RD.nu 7 255 b0 I .plain I (jA c0 (vI c0) A0 aA (e1 I)) fun R0 P0 d0 g0=>?_
 have x0:=jC c0 (vI c0) d0 L I
 have u0:=Ar C0 g0
 refine Bb (i:=8) (rk b0) (AZ (m' :=511) (sk b0) I I .plain I (AL (α:=Int) (ys:=([c0]:Lb Int)) E0 d0 (fun _ _=>.t1) aA I I u0 (Bx (α:=Int) d0 .hd x0)) (fun t0 G0 ⟨p0,j0,q0,s0⟩=>?_))
 obtain ⟨p4,G2⟩:=AX j0 .d1
 exact D0 (t0,p0) p4 (Tt y0 (Tt B0 (Tt g0 (Tt q0 G2)))) (Ar s0 G2)
 refine BH (m' :=223) (sk b0) I .plain I (jA c0 (vI c0) v0 aA (e1 I)) fun R0 P0 d0 g0=>?_
 have x0:=jC c0 (vI c0) d0 L I
 have z0:=AH h2_0 d0
 have V0:=Ar H0 g0
 refine Bb (i:=5) (rk b0) (AZ (m' :=255) (sk b0) I I .plain I (AL (α:=Int) (ys:=a2) M0 d0 (fun _ _=>.t1) aA I I V0 (BO z0)) (fun k1 p1 ⟨g1,F0,I0,U0⟩=>?_))
 have u0:=Ar x0 I0
 refine Bb (i:=8) (rk b0) (AZ (m' :=511) (sk b0) I I .plain I (AL (α:=Int) (ys:=([c0]:Lb Int)) E0 F0 (fun _ _=>.t1) aA I I U0 (Bx (α:=Int) F0 .hd u0)) (fun t0 G0 ⟨p0,j0,q0,s0⟩=>?_))
 obtain ⟨q4,H2⟩:=AX j0 .d1
 exact D0 (t0,p0) q4 (Tt y0 (Tt g0 (Tt I0 (Tt q0 H2)))) (Ar s0 H2)
 refine BH (m' :=215) (sk b0) I .plain I (jA c0 (vI c0) J0 aA (e1 I)) fun R0 P0 d0 g0=>?_
 have x0:=jC c0 (vI c0) d0 L I
 refine RD.nu 3 223 b0 I .plain I (jB Int d0 aA) fun u1 s1 v0 y0=>?_
 have H0:=jD Int v0 L
 have z0:=AH h2_0 v0
 refine Bb (i:=5) (rk b0) (AZ (m' :=255) (sk b0) I I .plain I (AL (α:=Int) (ys:=a2) M0 v0 (fun _ _=>.hd) aA I I H0 (BO z0)) (fun Y0 Z0 ⟨W0,A0,B0,C0⟩=>?_))
 have u0:=Ar x0 (Tt y0 B0)
 refine Bb (i:=8) (rk b0) (AZ (m' :=511) (sk b0) I I .plain I (AL (α:=Int) (ys:=([c0]:Lb Int)) E0 A0 (fun _ _=>.hd) aA I I C0 (Bx (α:=Int) A0 .t1 u0)) (fun t0 G0 ⟨p0,j0,q0,s0⟩=>?_))
 obtain ⟨s4,I2⟩:=AX j0 (.a0 .d1)
 exact D0 (t0,p0) s4 (Tt g0 (Tt y0 (Tt B0 (Tt q0 I2)))) (Ar s0 I2)
 refine BH (m' :=93) (sk b0) I .plain I (jB Int J0 aA) fun u1 s1 v0 y0=>?_
 have H0:=jD Int v0 L
 refine Bc [1,5,7] (rk b0) ⟨?_,?_,?_,trivial⟩
 refine Bg (m' :=95) (sk b0) I .plain I (AP I (v0.memA .t2))<|Bc [5,7] (rk b0) ⟨?_,?_,trivial⟩
 have z0:=AH h2_0 v0
 refine AZ (m' :=127) (sk b0) I I .plain I (AL (α:=Int) (ys:=a2) M0 v0 (fun _ _=>.hd) aA I I H0 (BO z0)) fun Y0 Z0 ⟨W0,A0,B0,C0⟩=>RD.nu 7 255 b0 I .plain I (jA c0 (vI c0) A0 aA (e1 I)) fun R0 P0 d0 g0=>?_
 have x0:=jC c0 (vI c0) d0 L I
 have u0:=Ar C0 g0
 refine Bb (i:=8) (rk b0) (AZ (m' :=511) (sk b0) I I .plain I (AL (α:=Int) (ys:=([c0]:Lb Int)) E0 d0 (fun _ _=>.t1) aA I I u0 (Bx (α:=Int) d0 .hd x0)) (fun t0 G0 ⟨p0,j0,q0,s0⟩=>?_))
 obtain ⟨t4,J2⟩:=AX j0 .d1
 exact D0 (t0,p0) t4 (Tt y0 (Tt B0 (Tt g0 (Tt q0 J2)))) (Ar s0 J2)
 refine BH (m' :=223) (sk b0) I .plain I (jA c0 (vI c0) v0 aA (e1 I)) fun R0 P0 d0 g0=>?_
 have x0:=jC c0 (vI c0) d0 L I
 have z0:=AH h2_0 d0
 have V0:=Ar H0 g0
 refine Bb (i:=5) (rk b0) (AZ (m' :=255) (sk b0) I I .plain I (AL (α:=Int) (ys:=a2) M0 d0 (fun _ _=>.t1) aA I I V0 (BO z0)) (fun k1 p1 ⟨g1,F0,I0,U0⟩=>?_))
 have u0:=Ar x0 I0
 refine Bb (i:=8) (rk b0) (AZ (m' :=511) (sk b0) I I .plain I (AL (α:=Int) (ys:=([c0]:Lb Int)) E0 F0 (fun _ _=>.t1) aA I I U0 (Bx (α:=Int) F0 .hd u0)) (fun t0 G0 ⟨p0,j0,q0,s0⟩=>?_))
 obtain ⟨u4,K2⟩:=AX j0 .d1
 exact D0 (t0,p0) u4 (Tt y0 (Tt g0 (Tt I0 (Tt q0 K2)))) (Ar s0 K2)
 have z0:=AH h2_0 v0
 refine AZ (m' :=125) (sk b0) I I .plain I (AL (α:=Int) (ys:=a2) M0 v0 (fun _ _=>.hd) aA I I H0 (BO z0)) fun Y0 Z0 ⟨W0,A0,B0,C0⟩=>Bc [1,7] (rk b0) ⟨?_,?_,trivial⟩
 refine Bg (m' :=127) (sk b0) I .plain I (AP I (A0.memA .t2))<|RD.nu 7 255 b0 I .plain I (jA c0 (vI c0) A0 aA (e1 I)) fun R0 P0 d0 g0=>?_
 have x0:=jC c0 (vI c0) d0 L I
 have u0:=Ar C0 g0
 refine Bb (i:=8) (rk b0) (AZ (m' :=511) (sk b0) I I .plain I (AL (α:=Int) (ys:=([c0]:Lb Int)) E0 d0 (fun _ _=>.t1) aA I I u0 (Bx (α:=Int) d0 .hd x0)) (fun t0 G0 ⟨p0,j0,q0,s0⟩=>?_))
 obtain ⟨v4,M2⟩:=AX j0 .d1
 exact D0 (t0,p0) v4 (Tt y0 (Tt B0 (Tt g0 (Tt q0 M2)))) (Ar s0 M2)
 refine BH (m' :=253) (sk b0) I .plain I (jA c0 (vI c0) A0 aA (e1 I)) fun R0 P0 d0 g0=>?_
 have x0:=jC c0 (vI c0) d0 L I
 refine Bc [1,8] (rk b0) ⟨?_,?_,trivial⟩
 refine Bg (m' :=255) (sk b0) I .plain I (AP I (d0.memA .t3)) ?_
 have u0:=Ar C0 g0
 refine Bb (i:=8) (rk b0) (AZ (m' :=511) (sk b0) I I .plain I (AL (α:=Int) (ys:=([c0]:Lb Int)) E0 d0 (fun _ _=>.t1) aA I I u0 (Bx (α:=Int) d0 .hd x0)) (fun t0 G0 ⟨p0,j0,q0,s0⟩=>?_))
 obtain ⟨x4,P2⟩:=AX j0 .d1
 exact D0 (t0,p0) x4 (Tt y0 (Tt B0 (Tt g0 (Tt q0 P2)))) (Ar s0 P2)
 have u0:=Ar C0 g0
 refine AZ (m' :=509) (sk b0) I I .plain I (AL (α:=Int) (ys:=([c0]:Lb Int)) E0 d0 (fun _ _=>.t1) aA I I u0 (Bx (α:=Int) d0 .hd x0)) fun t0 G0 ⟨p0,j0,q0,s0⟩=>Rx 1 3584 b0 I j1 (AP I (j0.memA .t3)) ?_
 obtain ⟨y4,Q2⟩:=AX j0 .d1
 exact D0 (t0,p0) y4 (Tt y0 (Tt B0 (Tt g0 (Tt q0 Q2)))) (Ar s0 Q2)
 refine BH (m' :=221) (sk b0) I .plain I (jA c0 (vI c0) v0 aA (e1 I)) fun R0 P0 d0 g0=>?_
 have x0:=jC c0 (vI c0) d0 L I
 refine Bc [1,5] (rk b0) ⟨?_,?_,trivial⟩
 refine Bg (m' :=223) (sk b0) I .plain I (AP I (d0.memA .t3)) ?_
 have z0:=AH h2_0 d0
 have V0:=Ar H0 g0
 refine Bb (i:=5) (rk b0) (AZ (m' :=255) (sk b0) I I .plain I (AL (α:=Int) (ys:=a2) M0 d0 (fun _ _=>.t1) aA I I V0 (BO z0)) (fun k1 p1 ⟨g1,F0,I0,U0⟩=>?_))
 have u0:=Ar x0 I0
 refine Bb (i:=8) (rk b0) (AZ (m' :=511) (sk b0) I I .plain I (AL (α:=Int) (ys:=([c0]:Lb Int)) E0 F0 (fun _ _=>.t1) aA I I U0 (Bx (α:=Int) F0 .hd u0)) (fun t0 G0 ⟨p0,j0,q0,s0⟩=>?_))
 obtain ⟨z4,R2⟩:=AX j0 .d1
 exact D0 (t0,p0) z4 (Tt y0 (Tt g0 (Tt I0 (Tt q0 R2)))) (Ar s0 R2)
 have z0:=AH h2_0 d0
 refine AZ (m' :=253) (sk b0) I I .plain I (AL (α:=Int) (ys:=a2) M0 d0 (fun _ _=>.t1) aA I I (Ar H0 g0) (BO z0)) fun k1 p1 ⟨g1,F0,I0,U0⟩=>Bc [1,8] (rk b0) ⟨?_,?_,trivial⟩
 refine Bg (m' :=255) (sk b0) I .plain I (AP I (F0.memA .t3)) ?_
 have u0:=Ar x0 I0
 refine Bb (i:=8) (rk b0) (AZ (m' :=511) (sk b0) I I .plain I (AL (α:=Int) (ys:=([c0]:Lb Int)) E0 F0 (fun _ _=>.t1) aA I I U0 (Bx (α:=Int) F0 .hd u0)) (fun t0 G0 ⟨p0,j0,q0,s0⟩=>?_))
 obtain ⟨A4,U2⟩:=AX j0 .d1
 exact D0 (t0,p0) A4 (Tt y0 (Tt g0 (Tt I0 (Tt q0 U2)))) (Ar s0 U2)
 have u0:=Ar x0 I0
 refine AZ (m' :=509) (sk b0) I I .plain I (AL (α:=Int) (ys:=([c0]:Lb Int)) E0 F0 (fun _ _=>.t1) aA I I U0 (Bx (α:=Int) F0 .hd u0)) fun t0 G0 ⟨p0,j0,q0,s0⟩=>Rx 1 3584 b0 I j1 (AP I (j0.memA .t3)) ?_
 obtain ⟨B4,V2⟩:=AX j0 .d1
 exact D0 (t0,p0) B4 (Tt y0 (Tt g0 (Tt I0 (Tt q0 V2)))) (Ar s0 V2)
 refine BH (m' :=213) (sk b0) I .plain I (jA c0 (vI c0) J0 aA (e1 I)) fun R0 P0 d0 g0=>?_
 have x0:=jC c0 (vI c0) d0 L I
 refine Bc [1,3] (rk b0) ⟨?_,?_,trivial⟩
 refine Bg (m' :=215) (sk b0) I .plain I (AP I (d0.memA .t2))<|RD.nu 3 223 b0 I .plain I (jB Int d0 aA) fun u1 s1 v0 y0=>?_
 have H0:=jD Int v0 L
 have z0:=AH h2_0 v0
 refine Bb (i:=5) (rk b0) (AZ (m' :=255) (sk b0) I I .plain I (AL (α:=Int) (ys:=a2) M0 v0 (fun _ _=>.hd) aA I I H0 (BO z0)) (fun Y0 Z0 ⟨W0,A0,B0,C0⟩=>?_))
 have u0:=Ar x0 (Tt y0 B0)
 refine Bb (i:=8) (rk b0) (AZ (m' :=511) (sk b0) I I .plain I (AL (α:=Int) (ys:=([c0]:Lb Int)) E0 A0 (fun _ _=>.hd) aA I I C0 (Bx (α:=Int) A0 .t1 u0)) (fun t0 G0 ⟨p0,j0,q0,s0⟩=>?_))
 obtain ⟨C4,W2⟩:=AX j0 (.a0 .d1)
 exact D0 (t0,p0) C4 (Tt g0 (Tt y0 (Tt B0 (Tt q0 W2)))) (Ar s0 W2)
 refine BH (m' :=221) (sk b0) I .plain I (jB Int d0 aA) fun u1 s1 v0 y0=>?_
 have H0:=jD Int v0 L
 refine Bc [1,5] (rk b0) ⟨?_,?_,trivial⟩
 refine Bg (m' :=223) (sk b0) I .plain I (AP I (v0.memA .t3)) ?_
 have z0:=AH h2_0 v0
 refine Bb (i:=5) (rk b0) (AZ (m' :=255) (sk b0) I I .plain I (AL (α:=Int) (ys:=a2) M0 v0 (fun _ _=>.hd) aA I I H0 (BO z0)) (fun Y0 Z0 ⟨W0,A0,B0,C0⟩=>?_))
 have u0:=Ar x0 (Tt y0 B0)
 refine Bb (i:=8) (rk b0) (AZ (m' :=511) (sk b0) I I .plain I (AL (α:=Int) (ys:=([c0]:Lb Int)) E0 A0 (fun _ _=>.hd) aA I I C0 (Bx (α:=Int) A0 .t1 u0)) (fun t0 G0 ⟨p0,j0,q0,s0⟩=>?_))
 obtain ⟨D4,X2⟩:=AX j0 (.a0 .d1)
 exact D0 (t0,p0) D4 (Tt g0 (Tt y0 (Tt B0 (Tt q0 X2)))) (Ar s0 X2)
 refine AZ (m' :=253) (sk b0) I I .plain I (AL (α:=Int) (ys:=a2) M0 v0 (fun _ _=>.hd) aA I I H0 (BO (AH h2_0 v0))) fun Y0 Z0 ⟨W0,A0,B0,C0⟩=>Bc [1,8] (rk b0) ⟨?_,?_,trivial⟩
 refine Bg (m' :=255) (sk b0) I .plain I (AP I (A0.memA .t3)) ?_
 have u0:=Ar x0 (Tt y0 B0)
 refine Bb (i:=8) (rk b0) (AZ (m' :=511) (sk b0) I I .plain I (AL (α:=Int) (ys:=([c0]:Lb Int)) E0 A0 (fun _ _=>.hd) aA I I C0 (Bx (α:=Int) A0 .t1 u0)) (fun t0 G0 ⟨p0,j0,q0,s0⟩=>?_))
 obtain ⟨E4,Y2⟩:=AX j0 (.a0 .d1)
 exact D0 (t0,p0) E4 (Tt g0 (Tt y0 (Tt B0 (Tt q0 Y2)))) (Ar s0 Y2)
 refine AZ (m' :=509) (sk b0) I I .plain I (AL (α:=Int) (ys:=([c0]:Lb Int)) E0 A0 (fun _ _=>.hd) aA I I C0 (Bx (α:=Int) A0 .t1 (Ar x0 (Tt y0 B0)))) fun t0 G0 ⟨p0,j0,q0,s0⟩=>Rx 1 3584 b0 I j1 (AP I (j0.memA .t3)) ?_
 obtain ⟨F4,Z2⟩:=AX j0 (.a0 .d1)
 exact D0 (t0,p0) F4 (Tt g0 (Tt y0 (Tt B0 (Tt q0 Z2)))) (Ar s0 Z2)
 refine RD.offs 4194303 1 [(6,44),(7,45),(8,46),(9,47),(10,48),(11,49),(12,50),(13,51),(14,52),(15,53),(16,54),(17,55),(18,56),(19,57),(20,58),(21,59)] (F:=[(43,true)]) (U:=[]) K0 Q0 (.cons I .nil) .nil ?_
 dsimp only [gl,List.map]
 refine Rv 22 K0 I Q0 (fun _=>BJ I I)<|AQ (dk K0)<|Ba I<|AT I<|Ak<|Ab I<|bk h fun J5 s5 h=>Ac (Bu (i:=c0) (j:=1) I I s5)<|Af I<|Aa<|H1 (J5,b1,X0,c1) J0 Q1 E1 h
 refine AT I ?_
 have h:=W4 _ h
 try dsimp only at h
 refine Ae<|Ab I<|Af I<|Aa<|Ap I ?_
 have P1:=BL J0 .hd
 have y6:=BM J0 .hd
 have g5:=BN (α:=Lb Int) (v:=X0) (xs:=b1) P1 L (BA (α:=Lb Int) J0 .hd E1 hL)
 refine AV hb0 func36 I I ?_
 cases h
 exact ⟨P1.ag,fun w9 hw9=>⟨X0,I,P1.kd g5 hw9⟩⟩
 intro Z5 V1 h
 try dsimp only at h
 refine AO I h (fun B3 h=>?_) (fun B3 h=>?_)
 refine Ak<|Ab I<|Ab I<|Ac (Bf (xs:=a2) underlying33 I A1)<|Ac (FV.subN (i:=a2.length) (j:=1) I I (by omega) (by omega))<|bk h fun s3 y5 h=>?_
 obtain ⟨X5,g6,U4,X4,D3,j5,Y4⟩:=Bq A1 y5
 have V4:D3=[vI s3]:=j5; subst V4
 refine Ac (AU 1 (a2.length-1) I U4 I I X4)<|AG I (Y4 0 _ I)<|bk h fun K5 t5 h=>Ac (Bu (i:=s3) (j:=1) I I t5)<|Af I<|Aa<|V1 K5 y1 (By _ _) h
 refine Am<|V1 0 y1 (By _ _) h
def aN (n:Nat):Nat->Tc->Ua->(Lb Int)->Oa (Lb (Lb Int))
  | 0=>fun _ _ _=>none
  | k+1=>bg n (aN n k)
def bf_p (n:Nat):Tc->Ua->(Lb Int)->Oa (Lb (Lb Int)):=aN n n
theorem cE (n:Nat):∀ (k:Nat) (L:Lb Nat) (w:World) (_:∀ b∈L,b<w.heap.size) (a0:Tc) {v0_1:Vc} (_h0_1:Rep.R w L [v0_1] a0.fo) (a1:Ua) {a2:Lb Int} {v2_0:Vc} (_h2_0:Rep.R w L [v2_0] a2)  {r:Lb (Lb Int)} (_h:aN n k a0 a1 a2=some r),Calls Tryz.prog 36 #[.agg #[vI a0.fN,v0_1],vU a1,v2_0] w (aj w fun w' u=>∃ v0_0:Vc,u=v0_0/\Rep.R w' L [v0_0] r)
  | 0=>by
    intros
    rename_i h
    exact Calls.none_r h
  | k+1=>eC n (aN n k) (cE n k)
theorem bf_c (n:Nat):∀ (L:Lb Nat) (w:World) (_:∀ b∈L,b<w.heap.size) (a0:Tc) {v0_1:Vc} (_h0_1:Rep.R w L [v0_1] a0.fo) (a1:Ua) {a2:Lb Int} {v2_0:Vc} (_h2_0:Rep.R w L [v2_0] a2)  {r:Lb (Lb Int)} (_h:bf_p n a0 a1 a2=some r),Calls Tryz.prog 36 #[.agg #[vI a0.fN,v0_1],vU a1,v2_0] w (aj w fun w' u=>∃ v0_0:Vc,u=v0_0/\Rep.R w' L [v0_0] r):=cE n n
def bz_p (n:Nat) (a0:Tc) (a1:Ua):Oa (Lb (Lb Int)):=
  (bf_p n a0 a1 ([]:Lb Int)).bind fun b0=>some b0
theorem bz_c (n:Nat) {L w} (hL:hl L w) (a0:Tc) {v0_1:Vc} (h0_1:Rep.R w L [v0_1] a0.fo) (a1:Ua)  {r:Lb (Lb Int)} (h:bz_p n a0 a1=some r) :
 Cl 15 #[.agg #[vI a0.fN,v0_1],vU a1] w (aj w fun w' u=>∃ v0_0:Vc,u=v0_0/\Rep.R w' L [v0_0] r):=by
 unfold bz_p at h
 refine AJ func15 I I I fun _ cs0 hb0=>Ae<|RG.bx (AI w) I I fun u0 p0 b0 q0=>Af I<|Aa<|Ae<|Ac (AP I (b0.memA .hd))<|Ab I<|bk h fun x0 j0 h=>jE (bd 36) I (e3 I I I) (fun w9 hw9=>bf_c n _ w9 (b0.hL hL hw9) a0 (b0.km h0_1 hw9) a1 (Ax (BP (α:=Int) b0 L) hw9) j0) I fun v0 k0 d0 ⟨t0,hu_,g0⟩=>?_
 subst hu_
 obtain ⟨c0,s0⟩:=b0.agr d0
 refine Af I<|Aa<|Ap I<|AV hb0 func15 I I ?_
 cases h
 exact ⟨c0.ag,fun w9 hw9=>⟨k0,I,c0.kd g0 hw9⟩⟩
theorem qi:ElT Tryz.prog 36 3 (Rep.size Int) 8 (vI 0) [vI 0]:=⟨underlying36,by kernel_rfl,rfl,rfl,rfl,rfl⟩
def ac_l1 (_n:Nat) (a1:Lb Int) (a0:Tc) (d0:Int) (j0:Int×(Lb Int)->Oa (Lb Int)):Int×(Lb Int)->Oa (Lb Int)
  | (g0,c0)=>(chk (((a1.length:Nat):Int)*((a1.length:Nat):Int))).bind fun s0=>(if g0<s0 then (cD g0 ((a1.length:Nat):Int)).bind fun t0=>(idx a1 t0).bind fun x0=>(idx a0.fo x0).bind fun b0=>(idx c0 b0.1).bind fun y0=>(if y0=d0 then (put c0 ((b0.1.toNat:Nat):Int) d0).bind fun p0=>(idx p0 b0.2).bind fun _x32017=>(put p0 ((b0.2.toNat:Nat):Int) d0).bind fun A0=>(chk (g0+1)).bind fun u0=>j0 (u0,A0) else (idx c0 b0.2).bind fun z0=>jn (fun B0=>(chk (g0+1)).bind fun v0=>j0 (v0,B0)) (fun k0=>(if z0=d0 then (put c0 ((b0.1.toNat:Nat):Int) d0).bind fun q0=>(idx q0 b0.2).bind fun _x34528=>(put q0 ((b0.2.toNat:Nat):Int) d0).bind fun C0=>k0 C0 else k0 c0))) else some c0)
def ac_l2 (n:Nat) (a0:Tc) (a1:Lb Int) (g0:Int×Int×(Lb Int)->Oa (Lb Int)):Int×Int×(Lb Int)->Oa (Lb Int)
  | (d0,b0,c0)=>(if b0<a0.fN then (idx c0 b0).bind fun q0=>(if 0<=q0 then (chk (b0+1)).bind fun j0=>g0 (d0,j0,c0) else (put c0 ((b0.toNat:Nat):Int) d0).bind fun s0=>Option.bind (ah (ac_l1 n a1 a0 d0) n (0,s0)) (fun t0=>(chk (d0+1)).bind fun k0=>(chk (b0+1)).bind fun p0=>g0 (k0,p0,t0))) else some c0)
def ac_l3 (_n:Nat) (a0:Tc) (d0:Int×(Lb Int)->Oa (Lb Int)):Int×(Lb Int)->Oa (Lb Int)
  | (b0,c0)=>(if b0<a0.fN then (idx c0 b0).bind fun _x90=>(put c0 ((b0.toNat:Nat):Int) (-1:Int)).bind fun j0=>(chk (b0+1)).bind fun g0=>d0 (g0,j0) else some c0)
def ac_p (n:Nat) (a0:Tc) (a1:Lb Int):Oa (Lb Int):=
  (mk a0.fN (0:Int)).bind fun b0=>Option.bind (ah (ac_l3 n a0) n (0,b0)) (fun d0=>Option.bind (ah (ac_l2 n a0 a1) n (0,0,d0)) (fun c0=>some c0))
theorem ac_c (n:Nat) {L w} (hL:hl L w) (a0:Tc) {v0_1:Vc} (h0_1:Rep.R w L [v0_1] a0.fo) {a1:Lb Int} {v1_0:Vc} (h1_0:Rep.R w L [v1_0] a1)  {r:Lb Int} (h:ac_p n a0 a1=some r) :
 Cl 16 #[.agg #[vI a0.fN,v0_1],v1_0] w (aj w fun w' u=>∃ v0_0:Vc,u=v0_0/\Rep.R w' L [v0_0] r):=by
 unfold ac_p at h
 refine AJ func16 I I I fun _ cs0 hb0=>Ae<|RG.bx (AI w) I I fun G7 d0 Y1 u7=>Af I<|Aa<|Ae<|Bh 0 I<|AG I ((Y1.memA .hd) 0 _ I)<|bk h fun U2 C2 h=>Av .plain I (Does.mk (α:=Int) C2 Y1 qi I) fun H7 Z0 Z1 v7=>Af I<|Aa<|Ai<|Ae<|Af I<|Aa<|Aq ?_
 obtain ⟨E7,k5,K4⟩:=ai h
 refine MX.lf (α:=Int×(Lb Int)×(Lb Vc)) (fun ⟨z0,E0,H0⟩=>[(1,v1_0),(2,vP d0),(5,(.slice (some ⟨Z0,0,none⟩) a0.fN.toNat a0.fN.toNat)),(6,vI z0)]) (fun ⟨z0,E0,H0⟩=>[rr w 3 Int (.slice (some ⟨Z0,0,none⟩) a0.fN.toNat a0.fN.toNat) E0.length H0,.cells d0 [vI a0.fN,v0_1] 32]) (fun ⟨z0,E0,H0⟩ K2=>Cells K2 (bl [rr w 3 Int (.slice (some ⟨Z0,0,none⟩) a0.fN.toNat a0.fN.toNat) E0.length H0,.cells d0 [vI a0.fN,v0_1] 32]++L) H0 E0) (fun ⟨z0,E0,H0⟩=>(z0,E0)) (0,U2,(List.replicate a0.fN.toNat [vI 0]).flatten) k5 Z1 (AD (cs:=(List.replicate a0.fN.toNat [vI 0]).flatten) (xs:=U2) Z1 L (Cells.mk C2 I)) ?_
 rintro R6 ⟨z0,E0,H0⟩ K2 J3 V0 q4 F1 h
 unfold ac_l3 at h
 try dsimp only at h
 refine Ai<|Ae<|Ab I<|Bh 0 I<|AG I ((V0.memA .t1) 0 _ I)<|Ac (BR (i:=z0) (j:=a0.fN) I I)<|Aa<|AO I h (fun x3 h=>?_) (fun x3 h=>?_)
 refine Am<|Ai<|Aq<|Ak<|Ab I<|Ab I<|bk h fun E6 c6 h=>?_
 obtain ⟨V4,d6⟩:=ax c6
 obtain ⟨b3,s7,J1,B2,I3,z5,B7⟩:=BF (α:=Int) V0 .hd F1 d6
 obtain ⟨c3,V6,s2⟩:=Bd (α:=Int) V0 .hd B2
 obtain rfl:b3=⟨c3,0,none⟩:=by rw [s2] at J1; cases J1; rfl
 have y4:I3=[vI E6]:=z5; subst y4
 refine Ac (AU 1 (z0.toNat) I J1 I V4 B2)<|bk h fun F6 g6 h=>RG.acts' .plain (BE (α:=Int) (i:=z0.toNat) g6 V0 s2 (fun _=>.hd) F1 I I I I I I) fun F7 ⟨y3,K3,b4,s4⟩=>Aa<|Ao<|Ak<|Ab I<|bk h fun q6 A5 h=>Ac (Bu (i:=z0) (j:=1) I I A5)<|Af I<|Aa<|J3 (q6,F6,y3) K3 (Tt q4 b4) s4 h
 refine AT I ?_
 have h:=K4 _ h
 try dsimp only at h
 refine Ae<|Af I<|Aa<|Ai<|Ae<|Af I<|Aa<|Aq ?_
 obtain ⟨C7,g5,I4⟩:=ai h
 refine MX.lf (α:=Int×Int×(Lb Int)×Vc×(Lb Vc)) (fun ⟨k0,p0,x0,v0,F0⟩=>[(1,v1_0),(2,vP d0),(5,v0),(7,vI k0),(8,vI p0)]) (fun ⟨k0,p0,x0,v0,F0⟩=>[rr w 3 Int v0 x0.length F0,.cells d0 [vI a0.fN,v0_1] 32]) (fun ⟨k0,p0,x0,v0,F0⟩ F2=>Cells F2 (bl [rr w 3 Int v0 x0.length F0,.cells d0 [vI a0.fN,v0_1] 32]++L) F0 x0) (fun ⟨k0,p0,x0,v0,F0⟩=>(k0,p0,x0)) (0,0,E0,(.slice (some ⟨Z0,0,none⟩) a0.fN.toNat a0.fN.toNat),H0) g5 V0 F1 ?_
 rintro M6 ⟨k0,p0,x0,v0,F0⟩ F2 R1 I0 b2 k1 h
 unfold ac_l2 at h
 try dsimp only at h
 refine Ai<|Ae<|Ab I<|Bh 0 I<|AG I ((I0.memA .t1) 0 _ I)<|Ac (BR (i:=p0) (j:=a0.fN) I I)<|Aa<|AO I h (fun q3 h=>?_) (fun q3 h=>?_)
 refine Am<|Ai<|Aq<|Ai<|Ae<|Ab I<|Ab I<|bk h fun M2 I5 h=>?_
 obtain ⟨x2,J5⟩:=ax I5
 obtain ⟨V2,W6,p1,M1,z3,p5,Y4⟩:=BF (α:=Int) I0 .hd k1 J5
 obtain ⟨d3,X6,t2⟩:=Bd (α:=Int) I0 .hd M1
 obtain rfl:V2=⟨d3,0,none⟩:=by rw [t2] at p1; cases p1; rfl
 have z4:z3=[vI M2]:=p5; subst z4
 refine Ac (AU 1 (p0.toNat) I p1 I x2 M1)<|AG I (Y4 0 _ I)<|Ac (FV.geq (i:=M2) (j:=0) I I)<|Aa<|AO I h (fun s3 h=>?_) (fun s3 h=>?_)
 refine AT I<|Ak<|Ab I<|bk h fun s6 B5 h=>Ac (Bu (i:=p0) (j:=1) I I B5)<|Af I<|Aa<|R1 (k0,s6,x0,v0,F0) I0 b2 k1 h
 refine Am<|Ae<|Ab I<|Ab I<|Ab I<|Ac (AU 1 (p0.toNat) I p1 I x2 M1)<|bk h fun G6 j6 h=>RG.acts' .plain (BE (α:=Int) (i:=p0.toNat) j6 I0 t2 (fun _=>.hd) k1 I I I I I I) fun I7 ⟨A3,M3,c4,t4⟩=>Aa<|Ai<|Ae<|Af I<|Aa<|Aq ?_
 obtain ⟨D7,j5,J4⟩:=ai h
 refine MX.lf (α:=Int×(Lb Int)×Vc×(Lb Vc)) (fun ⟨t0,y0,s0,A0⟩=>[(1,v1_0),(2,vP d0),(5,s0),(7,vI k0),(8,vI p0),(9,vI t0)]) (fun ⟨t0,y0,s0,A0⟩=>[rr w 3 Int s0 y0.length A0,.cells d0 [vI a0.fN,v0_1] 32]) (fun ⟨t0,y0,s0,A0⟩ G2=>Cells G2 (bl [rr w 3 Int s0 y0.length A0,.cells d0 [vI a0.fN,v0_1] 32]++L) A0 y0) (fun ⟨t0,y0,s0,A0⟩=>(t0,y0)) (0,G6,v0,A3) j5 M3 t4 ?_
 rintro P6 ⟨t0,y0,s0,A0⟩ G2 U1 U0 z1 C1 h
 unfold ac_l1 at h
 try dsimp only at h
 refine Ai<|Ae<|Ab I<|Ab I ?_
 have Y0:=AH h1_0 U0
 have y7:=AY Y0
 refine Ac (Bf (xs:=a1) underlying33 I Y0)<|Ab I<|Ac (Bf (xs:=a1) underlying33 I Y0)<|bk h fun t6 C5 h=>Ac (FV.mulc (i:=((a1.length:Nat):Int)) (j:=((a1.length:Nat):Int)) I I C5)<|Ac (BR (i:=t0) (j:=t6) I I)<|Aa<|AO I h (fun t3 h=>?_) (fun t3 h=>?_)
 refine Am<|Ai<|Aq<|Ai<|du 12 fun q0 u0=>Rv 0 q0 I u0 (fun _=>Bv 1 I)<|Rx 1 5632 q0 I u0 (Ay I ((U0.memA .t1) 1 _ I))<|Rv 2 q0 I u0 (fun _=>Ah I)<|Rv 3 q0 I u0 (fun _=>Ah I)<|Rv 4 q0 I u0 (fun _=>Ah I)<|Rx 5 6080 q0 I u0 (Bf (xs:=a1) underlying33 I Y0)<|bk h fun u6 D5 h=>Rv 6 q0 I u0 (fun _=>FV.remc (i:=t0) (j:=((a1.length:Nat):Int)) I I D5)<|bk h fun P2 K5 h=>?_
 obtain ⟨M4,M5⟩:=ax K5
 obtain ⟨J6,Y6,A4,W4,B3,q5,Z4⟩:=Bq Y0 M5
 have B4:B3=[vI P2]:=q5; subst B4
 refine Rv 7 q0 I u0 (fun _=>AU 1 (u6.toNat) I A4 I M4 W4)<|Rx 8 5632 q0 I u0 (Ay I (Z4 0 _ I))<|bk h fun j0 P5 h=>?_
 obtain ⟨P4,Q5⟩:=ax P5
 obtain ⟨K6,Z6,C4,X4,t7,s5,b5⟩:=Bq (AH h0_1 U0) Q5
 obtain rfl:=dx s5
 refine Rv 9 q0 I u0 (fun _=>AU 2 (P2.toNat) I C4 I P4 X4)<|Rx 10 4096 q0 I u0 (AP I b5)<|RD.nu 11 4095 q0 I .plain I (AF [vI 0,vI 0] U0) fun J7 U6 P3 g1=>BC 12 8191 q0 I I .plain (Az (news:=[vI j0.1,vI j0.2]) P3 .hd I I I I I I (aC I)) fun K7 g0 j1=>AQ (dk q0)<|Ae<|Ab I<|Ac (AC (m:=1) (k:=0) (len:=2) I I I I (by omega))<|AG I ((g0.memA .hd) 0 _ I)<|bk h fun Q2 R5 h=>?_
 obtain ⟨K1,U5⟩:=ax R5
 have R0:=Ar C1 (Tt g1 j1)
 obtain ⟨W2,b7,W0,q1,C3,t5,c5⟩:=BF (α:=Int) g0 .t1 R0 U5
 obtain ⟨g3,c7,X0⟩:=Bd (α:=Int) g0 .t1 q1
 obtain rfl:W2=⟨g3,0,none⟩:=by rw [X0] at W0; cases W0; rfl
 have D4:C3=[vI Q2]:=t5; subst D4
 refine Ac (AU 1 (j0.1.toNat) I W0 I K1 q1)<|AG I (c5 0 _ I)<|Ab I<|Ac (BT (i:=Q2) (j:=k0) I I)<|Ab I<|BD (s:=65) I h (fun u3 h=>?_) (fun u3 h=>?_)
 refine Aj<|Aj<|Aj<|Aj<|Aj<|Aj<|Aj<|Bm I I<|Aa<|Ba I<|du 9 fun b0 B0=>Rv 0 b0 I B0 (fun _=>Ah I)<|Rv 1 b0 I B0 (fun _=>AC (m:=1) (k:=0) (len:=2) I I I I (by omega))<|Rx 2 3840 b0 I B0 (Ay I ((g0.memA .hd) 0 _ I))<|Rv 3 b0 I B0 (fun _=>Ah I)<|Rv 4 b0 I B0 (fun _=>AC (m:=1) (k:=1) (len:=2) I I I I (by omega))<|Rv 6 b0 I B0 (fun _=>Ah I)<|Rv 7 b0 I B0 (fun _=>Ah I)<|Rv 8 b0 I B0 (fun _=>AU 1 (j0.1.toNat) I W0 I K1 q1)<|bk h fun P1 D2 h=>RD.mf (α:=Vc×(Lb Vc)) (fun ⟨J0,P0⟩=>[(1,v1_0),(2,vP d0),(5,J0),(7,vI k0),(8,vI p0),(9,vI t0),(77,J0),(81,vI k0),(79,vI j0.2)]) (fun ⟨J0,P0⟩=>[rr w 3 Int J0 P1.length P0,.cells d0 [vI a0.fN,v0_1] 32]) (fun ⟨J0,P0⟩ H2=>Cells H2 (bl [rr w 3 Int J0 P1.length P0,.cells d0 [vI a0.fN,v0_1] 32]++L) P0 (P1:Lb Int)) g0 2 1023 ?_ ?_
 rintro ⟨J0,P0⟩ H2 v1 d4 p2
 try dsimp only
 refine bk h fun C6 V5 h=>?_
 obtain ⟨Q4,W5⟩:=ax V5
 obtain ⟨X2,d7,G1,y2,D3,u5,z7⟩:=BF (α:=Int) v1 .hd p2 W5
 obtain ⟨j3,g7,u2⟩:=Bd (α:=Int) v1 .hd y2
 obtain rfl:X2=⟨j3,0,none⟩:=by rw [u2] at G1; cases G1; rfl
 have E4:D3=[vI C6]:=u5; subst E4
 refine Bb (i:=10) (rk b0) (Bg (m' :=2047) (sk b0) I .plain I (AU 1 (j0.2.toNat) I G1 I Q4 y2) ?_)
 refine bk h fun H6 k6 h=>Bb (i:=11) (rk b0) (RO.acts (m' :=4095) (sk b0) I I .plain (BE (α:=Int) (i:=j0.2.toNat) k6 v1 u2 (fun _=>.hd) p2 I I I I I I) (fun M7 ⟨E3,Q3,g4,u4⟩=>?_))
 refine AQ (dk b0)<|Ao<|Ak<|Ab I<|bk h fun v6 E5 h=>Ac (Bu (i:=t0) (j:=1) I I E5)<|Af I<|Aa<|U1 (v6,H6,J0,E3) Q3 (Tt z1 (Tt g1 (Tt j1 (Tt d4 g4)))) u4 h
 intro V1
 refine Bc [5,9] (rk b0) ⟨?_,?_,trivial⟩
 refine Bg (m' :=511) (sk b0) I .plain I (Ay I ((g0.memA .hd) 1 _ I))<|Bb (i:=9) (rk b0) (RO.acts (m' :=1023) (sk b0) I I .plain (BE (α:=Int) (i:=j0.1.toNat) D2 g0 X0 (fun _=>.t1) R0 I I I I I I) (fun A6 ⟨s1,b1,A1,D1⟩=>?_))
 obtain ⟨R3,c2⟩:=AX b1 .d1
 exact V1 (s0,s1) R3 (Tt A1 c2) (Ar D1 c2)
 refine RO.acts (m' :=991) (sk b0) I I .plain (BE (α:=Int) (i:=j0.1.toNat) D2 g0 X0 (fun _=>.t1) R0 I I I I I I) fun A6 ⟨s1,b1,A1,D1⟩=>Rx 5 3072 b0 I B0 (Ay I ((b1.memA .hd) 1 _ I)) ?_
 obtain ⟨U3,d2⟩:=AX b1 .d1
 exact V1 (s0,s1) U3 (Tt A1 d2) (Ar D1 d2)
 refine Au (Ah I)<|Au (AC (m:=1) (k:=1) (len:=2) I I I I (by omega))<|Au (Ay I ((g0.memA .hd) 1 _ I))<|bk h fun R2 X5 h=>?_
 obtain ⟨R4,Y5⟩:=ax X5
 obtain ⟨Y2,j7,H1,z2,F3,v5,d5⟩:=BF (α:=Int) g0 .t1 R0 Y5
 obtain ⟨k3,k7,F4⟩:=Bd (α:=Int) g0 .t1 z2
 obtain rfl:Y2=⟨k3,0,none⟩:=by rw [F4] at H1; cases H1; rfl
 have G4:F3=[vI R2]:=v5; subst G4
 refine Au (AU 1 (j0.2.toNat) I H1 I R4 z2)<|Au (Ay I (d5 0 _ I))<|Au (Ah I)<|Au (BT (i:=R2) (j:=k0) I I)<|Bo I I<|Aa<|MX.jf (α:=(Lb Int)×Vc×(Lb Vc)) (fun ⟨D0,K0,G0⟩=>[(1,v1_0),(2,vP d0),(5,K0),(7,vI k0),(8,vI p0),(9,vI t0)]) (fun ⟨D0,K0,G0⟩=>[rr w 3 Int K0 D0.length G0,.cells d0 [vI a0.fN,v0_1] 32]) (fun ⟨D0,K0,G0⟩ I2=>Cells I2 (bl [rr w 3 Int K0 D0.length G0,.cells d0 [vI a0.fN,v0_1] 32]++L) G0 D0) (fun ⟨D0,K0,G0⟩=>D0) g0 h ?_ ?_
 rintro ⟨D0,K0,G0⟩ I2 V3 j4 v4 h
 try dsimp only at h
 refine Ao<|Ak<|Ab I<|bk h fun x6 F5 h=>Ac (Bu (i:=t0) (j:=1) I I F5)<|Af I<|Aa<|U1 (x6,D0,K0,G0) V3 (Tt z1 (Tt g1 (Tt j1 j4))) v4 h
 intro Q6 W1 h
 try dsimp only at h
 refine AO I h (fun v3 h=>?_) (fun v3 h=>?_)
 refine du 9 fun c0 C0=>Rv 0 c0 I C0 (fun _=>Ah I)<|Rv 1 c0 I C0 (fun _=>AC (m:=1) (k:=0) (len:=2) I I I I (by omega))<|Rx 2 3840 c0 I C0 (Ay I ((g0.memA .hd) 0 _ I))<|Rv 3 c0 I C0 (fun _=>Ah I)<|Rv 4 c0 I C0 (fun _=>AC (m:=1) (k:=1) (len:=2) I I I I (by omega))<|Rv 6 c0 I C0 (fun _=>Ah I)<|Rv 7 c0 I C0 (fun _=>Ah I)<|Rv 8 c0 I C0 (fun _=>AU 1 (j0.1.toNat) I W0 I K1 q1)<|bk h fun Q1 E2 h=>RD.mf (α:=Vc×(Lb Vc)) (fun ⟨M0,Q0⟩=>[(1,v1_0),(2,vP d0),(5,M0),(7,vI k0),(8,vI p0),(9,vI t0),(77,M0),(81,vI k0),(79,vI j0.2)]) (fun ⟨M0,Q0⟩=>[rr w 3 Int M0 Q1.length Q0,.cells d0 [vI a0.fN,v0_1] 32]) (fun ⟨M0,Q0⟩ J2=>Cells J2 (bl [rr w 3 Int M0 Q1.length Q0,.cells d0 [vI a0.fN,v0_1] 32]++L) Q0 (Q1:Lb Int)) g0 2 1023 ?_ ?_
 rintro ⟨M0,Q0⟩ J2 x1 k4 q2
 try dsimp only
 refine bk h fun D6 Z5 h=>?_
 obtain ⟨U4,b6⟩:=ax Z5
 obtain ⟨Z2,p7,I1,A2,G3,x5,A7⟩:=BF (α:=Int) x1 .hd q2 b6
 obtain ⟨p3,q7,v2⟩:=Bd (α:=Int) x1 .hd A2
 obtain rfl:Z2=⟨p3,0,none⟩:=by rw [v2] at I1; cases I1; rfl
 have H4:G3=[vI D6]:=x5; subst H4
 refine Bb (i:=10) (rk c0) (Bg (m' :=2047) (sk c0) I .plain I (AU 1 (j0.2.toNat) I I1 I U4 A2) ?_)
 refine bk h fun I6 p6 h=>Bb (i:=11) (rk c0) (RO.acts (m' :=4095) (sk c0) I I .plain (BE (α:=Int) (i:=j0.2.toNat) p6 x1 v2 (fun _=>.hd) q2 I I I I I I) (fun P7 ⟨H3,W3,p4,x4⟩=>?_))
 refine AQ (dk c0)<|W1 (I6,M0,H3) W3 (Tt k4 p4) x4 h
 intro X1
 refine Bc [5,9] (rk c0) ⟨?_,?_,trivial⟩
 refine Bg (m' :=511) (sk c0) I .plain I (Ay I ((g0.memA .hd) 1 _ I))<|Bb (i:=9) (rk c0) (RO.acts (m' :=1023) (sk c0) I I .plain (BE (α:=Int) (i:=j0.1.toNat) E2 g0 X0 (fun _=>.t1) R0 I I I I I I) (fun B6 ⟨u1,c1,B1,E1⟩=>?_))
 obtain ⟨X3,g2⟩:=AX c1 .d1
 exact X1 (s0,u1) X3 (Tt B1 g2) (Ar E1 g2)
 refine RO.acts (m' :=991) (sk c0) I I .plain (BE (α:=Int) (i:=j0.1.toNat) E2 g0 X0 (fun _=>.t1) R0 I I I I I I) fun B6 ⟨u1,c1,B1,E1⟩=>Rx 5 3072 c0 I C0 (Ay I ((c1.memA .hd) 1 _ I)) ?_
 obtain ⟨Y3,j2⟩:=AX c1 .d1
 exact X1 (s0,u1) Y3 (Tt B1 j2) (Ar E1 j2)
 refine Am ?_
 obtain ⟨Z3,k2⟩:=AX g0 .d1
 exact W1 (y0,s0,A0) Z3 k2 (Ar C1 (Tt g1 (Tt j1 k2))) h
 refine AT I ?_
 have h:=J4 _ h
 try dsimp only at h
 refine Ak<|Ab I<|bk h fun y6 G5 h=>Ac (Bu (i:=k0) (j:=1) I I G5)<|Af I<|Aa<|Ao<|Ak<|Ab I<|bk h fun z6 H5 h=>Ac (Bu (i:=p0) (j:=1) I I H5)<|Af I<|Aa<|R1 (y6,z6,y0,s0,A0) U0 (Tt b2 (Tt c4 z1)) C1 h
 refine AT I ?_
 have h:=I4 _ h
 try dsimp only at h
 refine Ae<|Ab I<|Af I<|Aa<|Ap I ?_
 have y1:=BL I0 .hd
 have x7:=BM I0 .hd
 have y5:=BN (α:=Int) (v:=v0) (xs:=x0) y1 L (BA (α:=Int) I0 .hd k1 hL)
 refine AV hb0 func16 I I ?_
 cases h
 exact ⟨y1.ag,fun w9 hw9=>⟨v0,I,y1.kd y5 hw9⟩⟩
structure Td where
  fu:Lb Int
  fm:Int
  fh:Int
  fc:Int
  deriving DecidableEq
instance:Rep Td:=Rep.via (β:=(List Int)×Int×Int×Int) fun x=>(x.fu,x.fm,x.fh,x.fc)
def ai_l1 (_n:Nat) (a0:Td) (p0:Int) (q0:Int) (s0:Int) (t0:Int) (u0:Int) (v0:Int) (x0:Int) (y0:Int) (j0:Int×Int×Int->Oa (Int×Int)):Int×Int×Int->Oa (Int×Int)
  | (c0,d0,b0)=>(if b0<a0.fc then (idx ([p0,q0,s0,t0,u0,v0,x0,y0]:Lb Int) b0).bind fun g0=>(chk (b0+1)).bind fun k0=>j0 (min c0 g0,max d0 g0,k0) else some (c0,d0))
def ai_l2 (_n:Nat) (a1:Lb Int) (a0:Td) (v0:Nat×Int×Int×Int×Int×Int×Int×Int×Int->Oa (Int×Int×Int×Int×Int×Int×Int×Int)):Nat×Int×Int×Int×Int×Int×Int×Int×Int->Oa (Int×Int×Int×Int×Int×Int×Int×Int)
  | (d0,g0,j0,k0,p0,q0,s0,t0,u0)=>(if d0<a1.length then (a1[d0]?).bind fun b0=>(idx ([g0,j0,k0,p0,q0,s0,t0,u0]:Lb Int) b0).bind fun y0=>(a0.fu[d0]?).bind fun x0=>(chk (y0+x0)).bind fun c0=>v0 (d0+1,bf b0.toNat 0 c0 g0,bf b0.toNat 1 c0 j0,bf b0.toNat 2 c0 k0,bf b0.toNat 3 c0 p0,bf b0.toNat 4 c0 q0,bf b0.toNat 5 c0 s0,bf b0.toNat 6 c0 t0,bf b0.toNat 7 c0 u0) else some (g0,j0,k0,p0,q0,s0,t0,u0))
def ai_p (n:Nat) (a0:Td) (a1:Lb Int):Oa (Int×Int):=
  Option.bind (ah (ai_l2 n a1 a0) n (0,0,0,0,0,0,0,0,0)) (fun (b0,c0,d0,g0,j0,k0,p0,q0)=>Option.bind (ah (ai_l1 n a0 b0 c0 d0 g0 j0 k0 p0 q0) n (b0,b0,1)) (fun (s0,t0)=>some (s0,t0)))
theorem ai_c (n:Nat) {L w} (_hL:hl L w) (a0:Td) {v0_0:Vc} (h0_0:Rep.R w L [v0_0] a0.fu) {a1:Lb Int} {v1_0:Vc} (h1_0:Rep.R w L [v1_0] a1)  {r:Int×Int} (h:ai_p n a0 a1=some r) :
 Cl 17 #[.agg #[v0_0,vI a0.fm,vI a0.fh,vI a0.fc],v1_0] w (aj w fun _ u=>u=.tuple #[vI r.1,vI r.2]):=by
 unfold ai_p at h
 refine AJ func17 I I I fun _ cs0 hb0=>Ae<|RG.bx (AI w) I I fun p2 J0 j1 b2=>Af I<|Af I<|Aa<|Ae<|RG.nl [vI 0,vI 0,vI 0,vI 0,vI 0,vI 0,vI 0,vI 0] j1 fun s2 C0 p1 c2=>Aa<|Ai<|Ae<|Af I<|Aa<|Aq ?_
 obtain ⟨j2,D1,z1⟩:=ai h
 refine MX.lo (α:=Nat×Int×Int×Int×Int×Int×Int×Int×Int) (fun ⟨z0,j0,k0,p0,q0,s0,t0,u0,v0⟩=>[(1,v1_0),(2,vP J0),(6,vP C0),(7,vn z0)]) (fun ⟨z0,j0,k0,p0,q0,s0,t0,u0,v0⟩=>[.cells C0 [vI j0,vI k0,vI p0,vI q0,vI s0,vI t0,vI u0,vI v0] 109,.cells J0 [v0_0,vI a0.fm,vI a0.fh,vI a0.fc] 35]) (fun ⟨z0,j0,k0,p0,q0,s0,t0,u0,v0⟩=>(z0,j0,k0,p0,q0,s0,t0,u0,v0)) (0,0,0,0,0,0,0,0,0) D1 p1 ?_
 rintro W1 ⟨z0,j0,k0,p0,q0,s0,t0,u0,v0⟩ t2 d1 B0 q1 h
 unfold ai_l2 at h
 try dsimp only at h
 refine Ai<|Ae<|Ab I<|Ab I ?_
 have P0:=AH h1_0 B0
 have d2:=AY P0
 refine Ac (Bf (xs:=a1) underlying36 I P0)<|Ac (Bp (i:=z0) (j:=a1.length) I I)<|Aa<|AO I h (fun Y0 h=>?_) (fun Y0 h=>?_)
 refine Am<|Ai<|Aq<|du 17 fun c0 d0=>Rv 0 c0 I d0 (fun _=>Ah I)<|Rv 1 c0 I d0 (fun _=>Ah I)<|bk h fun b0 J1 h=>?_
 obtain ⟨U1,Y1,Q0,V0,b1,F1,W0⟩:=Bq P0 J1
 have v1:b1=[vI b0]:=F1; subst v1
 refine Rv 2 c0 I d0 (fun _=>AU 1 z0 I Q0 I I V0)<|Rx 3 196608 c0 I d0 (Ay I (W0 0 _ I))<|Rv 4 c0 I d0 (fun _=>Ah I)<|Rv 5 c0 I d0 (fun _=>Ah I)<|Rv 6 c0 I d0 (fun _=>AU 1 z0 I Q0 I I V0)<|Rx 7 230144 c0 I d0 (Ay I (W0 0 _ I))<|bk h fun R1 M1 h=>?_
 obtain ⟨R0,I0⟩:=ax M1
 refine Rv 8 c0 I d0 (fun _=>AC (m:=1) (k:=b0.toNat) (len:=8) I I I R0 (dj I0 I))<|Rx 9 229376 c0 I d0 (Ay I ((bY (p:=⟨C0,0,none⟩) (cs:=([j0,k0,p0,q0,s0,t0,u0,v0]:Lb Int).map (fun z9:Int=>(vI z9:Vc))++[]) (i:=b0.toNat) (B0.memA .hd) (cW (fun z9:Int=>(vI z9:Vc)) I0)) 0 _ I))<|Rv 10 c0 I d0 (fun _=>Bv 0 I)<|Rx 11 253952 c0 I d0 (Ay I ((B0.memA .t1) 0 _ I))<|Rv 12 c0 I d0 (fun _=>Ah I)<|bk h fun X0 K1 h=>?_
 obtain ⟨V1,Z1,x1,B1,c1,G1,C1⟩:=Bq (AH h0_0 B0) K1
 have y1:c1=[vI X0]:=G1; subst y1
 refine Rv 13 c0 I d0 (fun _=>AU 1 z0 I x1 I I B1)<|Rx 14 229376 c0 I d0 (Ay I (C1 0 _ I))<|bk h fun g0 H1 h=>Rv 15 c0 I d0 (fun _=>Bu (i:=R1) (j:=X0) I I H1) ?_
 have g2:=bY (p:=⟨C0,0,none⟩) (cs:=([j0,k0,p0,q0,s0,t0,u0,v0]:Lb Int).map (fun z9:Int=>(vI z9:Vc))++[]) (i:=b0.toNat) (B0.memA .hd) (cW (fun z9:Int=>(vI z9:Vc)) I0)
 refine Rv 16 c0 I d0 (fun _=>AC (m:=1) (k:=b0.toNat) (len:=8) I I I R0 (dj I0 I))<|BC 17 262143 c0 I I .plain (Acts.storeArr (fun z9:Int=>(vI z9:Vc)) (xs:=([j0,k0,p0,q0,s0,t0,u0,v0]:Lb Int)) (pre:=[]) (post:=[]) (i:=b0.toNat) (m:=8) (x:=g0) (old:=[vI j0,vI k0,vI p0,vI q0,vI s0,vI t0,vI u0,vI v0]) (new' :=[vI (bf b0.toNat 0 g0 j0),vI (bf b0.toNat 1 g0 k0),vI (bf b0.toNat 2 g0 p0),vI (bf b0.toNat 3 g0 q0),vI (bf b0.toNat 4 g0 s0),vI (bf b0.toNat 5 g0 t0),vI (bf b0.toNat 6 g0 u0),vI (bf b0.toNat 7 g0 v0)]) I I (dj I0 I) B0 .hd I (pC _ _ _) I I (fun _=>⟨I,I⟩) I I) fun q2 k1 s1=>AQ (dk c0)<|Ao<|Ak<|Ab I<|Ac (AW (i:=z0) (j:=1) I I (by omega))<|Af I<|Aa<|d1 (z0+1,bf b0.toNat 0 g0 j0,bf b0.toNat 1 g0 k0,bf b0.toNat 2 g0 p0,bf b0.toNat 3 g0 q0,bf b0.toNat 4 g0 s0,bf b0.toNat 5 g0 t0,bf b0.toNat 6 g0 u0,bf b0.toNat 7 g0 v0) k1 (Tt q1 s1) h
 refine AT I ?_
 have h:=z1 _ h
 try dsimp only at h
 refine Ai<|du 6 fun D0 G0=>Rv 0 D0 I G0 (fun _=>AC (m:=1) (k:=0) (len:=8) I I I I (by omega))<|Rx 1 48 D0 I G0 (Ay I ((B0.memA .hd) 0 _ I))<|Rv 2 D0 I G0 (fun _=>AC (m:=1) (k:=0) (len:=8) I I I I (by omega))<|Rx 3 32 D0 I G0 (Ay I ((B0.memA .hd) 0 _ I))<|Rv 4 D0 I G0 (fun _=>Bi I)<|Rv 5 D0 I G0 (fun _=>Bi I)<|AQ (dk D0)<|Ai<|Ae<|Af I<|Aa<|Aq ?_
 obtain ⟨k2,E1,A1⟩:=ai h
 refine MX.lo (α:=Int×Int×Int) (fun ⟨E0,F0,A0⟩=>[(2,vP J0),(6,vP C0),(8,vI E0),(9,vI F0),(10,vI A0)]) (fun ⟨E0,F0,A0⟩=>[.cells C0 [vI j0,vI k0,vI p0,vI q0,vI s0,vI t0,vI u0,vI v0] 109,.cells J0 [v0_0,vI a0.fm,vI a0.fh,vI a0.fc] 35]) (fun ⟨E0,F0,A0⟩=>(E0,F0,A0)) (j0,j0,1) E1 B0 ?_
 rintro X1 ⟨E0,F0,A0⟩ u2 g1 H0 u1 h
 unfold ai_l1 at h
 try dsimp only at h
 refine Ai<|Ae<|Ab I<|Bh 3 I<|AG I ((H0.memA .t1) 3 _ I)<|Ac (BR (i:=A0) (j:=a0.fc) I I)<|Aa<|AO I h (fun Z0 h=>?_) (fun Z0 h=>?_)
 refine Am<|Ai<|Aq<|du 12 fun x0 y0=>Rv 0 x0 I y0 (fun _=>Ah I)<|Rv 1 x0 I y0 (fun _=>Ah I)<|bk h fun M0 P1 h=>?_
 obtain ⟨U0,K0⟩:=ax P1
 refine Rv 2 x0 I y0 (fun _=>AC (m:=1) (k:=A0.toNat) (len:=8) I I I U0 (dj K0 I))<|Rx 3 3088 x0 I y0 (Ay I ((bY (p:=⟨C0,0,none⟩) (cs:=([j0,k0,p0,q0,s0,t0,u0,v0]:Lb Int).map (fun z9:Int=>(vI z9:Vc))++[]) (i:=A0.toNat) (H0.memA .hd) (cW (fun z9:Int=>(vI z9:Vc)) K0)) 0 _ I))<|Rv 4 x0 I y0 (fun _=>FV.min2 (i:=E0) (j:=M0) I I)<|Rv 5 x0 I y0 (fun _=>Ah I)<|Rv 6 x0 I y0 (fun _=>Ah I)<|Rv 7 x0 I y0 (fun _=>AC (m:=1) (k:=A0.toNat) (len:=8) I I I U0 (dj K0 I))<|Rx 8 2560 x0 I y0 (Ay I ((bY (p:=⟨C0,0,none⟩) (cs:=([j0,k0,p0,q0,s0,t0,u0,v0]:Lb Int).map (fun z9:Int=>(vI z9:Vc))++[]) (i:=A0.toNat) (H0.memA .hd) (cW (fun z9:Int=>(vI z9:Vc)) K0)) 0 _ I))<|Rv 9 x0 I y0 (fun _=>FV.max2 (i:=F0) (j:=M0) I I)<|Rv 10 x0 I y0 (fun _=>Bi I)<|Rv 11 x0 I y0 (fun _=>Bi I)<|AQ (dk x0)<|Ao<|Ak<|Ab I<|bk h fun Q1 I1 h=>Ac (Bu (i:=A0) (j:=1) I I I1)<|Af I<|Aa<|g1 (min E0 M0,max F0 M0,Q1) H0 u1 h
 refine AT I ?_
 have h:=A1 _ h
 try dsimp only at h
 refine Ae<|Ab I<|Ab I<|Af I<|Af I<|Aa<|Ap I<|Aw hb0 func17 I (.cons (.tmp I) (.cons (.tmp I) .nil)) I ?_
 cases h
 exact H0.gv
structure Tf where
  fv:Th
  fu:Lb UInt8
  fCuts:Lb UInt8
  fc:UInt8
  fy:UInt8×UInt8
  fTree:UInt8
  deriving DecidableEq
instance:Rep Tf:=Rep.via (β:=Th×(List UInt8)×(List UInt8)×UInt8×(UInt8×UInt8)×UInt8) fun x=>(x.fv,x.fu,x.fCuts,x.fc,x.fy,x.fTree)
def ab_l1 (_n:Nat) (s0:Int) (a0:Tf) (g0:Int×(Lb Int)->Oa (Lb Int)):Int×(Lb Int)->Oa (Lb Int)
  | (b0,d0)=>(if b0<s0 then jn (fun j0=>(app d0 ([((j0:Nat):Int)]:Lb Int)).bind fun q0=>(chk (b0+1)).bind fun k0=>g0 (k0,q0)) (fun c0=>(if b0<((a0.fu.length:Nat):Int) then (idx a0.fu b0).bind fun p0=>c0 ((p0%(10:UInt8)).toNat) else c0 1)) else some d0)
def ab_l2 (_n:Nat) (z0:Int) (a0:Tf) (j0:(Lb Int)×Int->Oa (Lb Int)):(Lb Int)×Int->Oa (Lb Int)
  | (b0,c0)=>(chk (z0-1)).bind fun k0=>(if c0<k0 then jn (fun g0=>(cut b0 0 g0).bind fun u0=>(app ([]:Lb Int) u0).bind fun v0=>(chk (g0+1)).bind fun p0=>(cut b0 p0 (b0.length:Int)).bind fun x0=>(app v0 x0).bind fun y0=>(chk (c0+1)).bind fun q0=>j0 (y0,q0)) (fun d0=>(if c0<((a0.fCuts.length:Nat):Int) then (idx a0.fCuts c0).bind fun t0=>(cD ((t0.toNat:Nat):Int) ((b0.length:Nat):Int)).bind fun s0=>d0 s0 else d0 0)) else some b0)
def ab_p (n:Nat) (a0:Tf):Oa (Tc×Td×(Lb Int)):=
  (aa_p n (⟨a0.fv.fw%(3:UInt8),a0.fv.fh,a0.fv.fA,a0.fv.fC⟩:Th)).bind fun c0=>(al_p n c0.fN).bind fun s0=>(br_p n c0 (s0-(1:Ua))).bind fun C0=>jn (fun (z0,b0,d0)=>(bz_p n (⟨b0,d0⟩:Tc) z0).bind fun u0=>(cD ((a0.fTree.toNat:Nat):Int) ((u0.length:Nat):Int)).bind fun y0=>(idx u0 y0).bind fun A0=>jn (fun g0=>Option.bind (ah (ab_l2 n g0 a0) n (A0,0)) (fun B0=>(ac_p n (⟨b0,d0⟩:Tc) B0).bind fun q0=>Option.bind (ah (ab_l1 n b0 a0) n (0,([]:Lb Int))) (fun p0=>(ai_p n (⟨p0,(0:Int),(0:Int),g0⟩:Td) q0).bind fun t0=>(chk (t0.1-(((a0.fy.1%(6:UInt8)).toNat:Nat):Int))).bind fun x0=>(chk (t0.2+(((a0.fy.2%(6:UInt8)).toNat:Nat):Int))).bind fun v0=>some ((⟨b0,d0⟩:Tc),(⟨p0,max 0 x0,v0,g0⟩:Td),q0)))) (fun j0=>(if b0<((1+((a0.fc%(4:UInt8)).toNat):Nat):Int) then j0 b0 else j0 ((1+((a0.fc%(4:UInt8)).toNat):Nat):Int)))) (fun k0=>(if C0=true then k0 (s0-(1:Ua),c0.fN,c0.fo) else k0 (15,4,([((0:Int),(1:Int)),((0:Int),(2:Int)),((1:Int),(3:Int)),((2:Int),(3:Int))]:Lb (Int×Int)))))
theorem ab_c (n:Nat) {L w} (hL:hl L w) (a0:Tf) {v0_3:Vc} (h0_3:Rep.R w L [v0_3] a0.fv.fC) {v0_4:Vc} (h0_4:Rep.R w L [v0_4] a0.fu) {v0_5:Vc} (h0_5:Rep.R w L [v0_5] a0.fCuts)  {r:Tc×Td×(Lb Int)} (h:ab_p n a0=some r) :
 Cl 4 #[.agg #[.int .u8 (a0.fv.fw.toNat:Int),.int .u8 (a0.fv.fh.toNat:Int),.int .u16 (a0.fv.fA.toNat:Int),v0_3,v0_4,v0_5,.int .u8 (a0.fc.toNat:Int),.int .u8 (a0.fy.1.toNat:Int),.int .u8 (a0.fy.2.toNat:Int),.int .u8 (a0.fTree.toNat:Int)]] w (aj w fun w' u=>∃ v0_1 v1_0 v2_0:Vc,u=.tuple #[.agg #[vI r.1.fN,v0_1],.agg #[v1_0,vI r.2.1.fm,vI r.2.1.fh,vI r.2.1.fc],v2_0]/\Rep.R w' L [v0_1] r.1.fo/\Rep.R w' L [v1_0] r.2.1.fu/\Rep.R w' L [v2_0] r.2.2):=by
 unfold ab_p at h
 refine AJ func4 I I I fun _ cs0 hb0=>Ae<|RG.bx (AI w) I I fun I7 u0 H3 V6=>RG.nl [vI 0,vN] H3 fun J7 k0 I3 W6=>RG.nl [vN,vI 0,vI 0,vI 0] I3 fun K7 p0 v2 X6=>Af I<|Aa<|Ae<|Bh 0 I<|Ac (BK (cs:=[.int .u8 (a0.fv.fw.toNat:Int),.int .u8 (a0.fv.fh.toNat:Int),.int .u16 (a0.fv.fA.toNat:Int),v0_3]) I I (ay (v2.memA .t2) 0 4))<|RG.nl [.int .u8 0,.int .u8 0,.int .u16 0,vN] v2 fun M7 H6 x2 Y6=>Bl [.int .u8 (a0.fv.fw.toNat:Int),.int .u8 (a0.fv.fh.toNat:Int),.int .u16 (a0.fv.fA.toNat:Int),v0_3] x2 .hd (o4 I I I (Bs (AH h0_3 x2))) fun R7 z2 Z6=>Aa<|Ae<|Bh 0 I<|AG I ((z2.memA .hd) 0 _ I)<|Ac (FV.rem8 (a:=a0.fv.fw) (b:=(3:UInt8)) I I (by decide))<|Bh 0 I<|RG.now .plain (BI (j:=0) (old:=[.int .u8 (a0.fv.fw.toNat:Int),.int .u8 (a0.fv.fh.toNat:Int),.int .u16 (a0.fv.fA.toNat:Int),v0_3]) (news:=[.int .u8 ((a0.fv.fw%(3:UInt8)).toNat:Int)]) (new' :=[.int .u8 ((a0.fv.fw%(3:UInt8)).toNat:Int),.int .u8 (a0.fv.fh.toNat:Int),.int .u16 (a0.fv.fA.toNat:Int),v0_3]) z2 .hd I I I I I I (o1 I) I) fun W7 q1 b7=>Aa<|Ae<|Ac (AP I (q1.memA .hd))<|bk h fun z1 V5 h=>jE (bd 12) I (e1 I) (fun w9 hw9=>aa_c n (q1.hL hL hw9) (⟨a0.fv.fw%(3:UInt8),a0.fv.fh,a0.fv.fA,a0.fv.fC⟩:Th) (q1.km h0_3 hw9) V5) I fun b8 G7 z4 ⟨j3,hu_,W1⟩=>?_
 subst hu_
 obtain ⟨Z3,c7⟩:=q1.agr z4
 refine RG.nl [vI 0,vN] Z3 fun j8 s0 b4 Q1=>Bl [vI z1.fN,j3] b4 .hd (o2 I (Bs (AB W1 Q1))) fun k8 F0 U2=>Aa<|Ae<|Bh 0 I<|AG I ((F0.memA .hd) 0 _ I)<|bk h fun A1 W5 h=>Bz (vU A1) (bd 13) I (e1 I) (fun w9 hw9=>al_c n (F0.hL0 hL hw9)  W5) I<|Ac (FV.subU (a:=A1) (b:=(1:Ua)) I I)<|Af I<|Aa<|Ai<|Ae<|Ac (AP I (F0.memA .hd))<|Ab I<|bk h fun x6 X5 h=>Bz (.bool x6) (bd 14) I (e2 I I) (fun w9 hw9=>br_c n (F0.hL0 hL hw9) z1 (F0.kd (AB W1 (Tt Q1 U2)) hw9) (A1-(1:Ua)) X5) I<|Ac (BV I)<|Aa<|MX.jf (α:=Ua×Int×(Lb (Int×Int))×Vc) (fun ⟨K0,g0,G0,j0⟩=>[(1,vP u0),(2,vP k0),(3,vP p0),(6,vP s0),(7,vU K0)]) (fun ⟨K0,g0,G0,j0⟩=>[.cells s0 [vI g0,j0] 32,.cells p0 [vN,vI 0,vI 0,vI 0] 35,.cells k0 [vI 0,vN] 32,.cells u0 [.int .u8 (a0.fv.fw.toNat:Int),.int .u8 (a0.fv.fh.toNat:Int),.int .u16 (a0.fv.fA.toNat:Int),v0_3,v0_4,v0_5,.int .u8 (a0.fc.toNat:Int),.int .u8 (a0.fy.1.toNat:Int),.int .u8 (a0.fy.2.toNat:Int),.int .u8 (a0.fTree.toNat:Int)] 29]) (fun ⟨K0,g0,G0,j0⟩ s3=>Rep.R s3 (bl [.cells s0 [vI g0,j0] 32,.cells p0 [vN,vI 0,vI 0,vI 0] 35,.cells k0 [vI 0,vN] 32,.cells u0 [.int .u8 (a0.fv.fw.toNat:Int),.int .u8 (a0.fv.fh.toNat:Int),.int .u16 (a0.fv.fA.toNat:Int),v0_3,v0_4,v0_5,.int .u8 (a0.fc.toNat:Int),.int .u8 (a0.fy.1.toNat:Int),.int .u8 (a0.fy.2.toNat:Int),.int .u8 (a0.fTree.toNat:Int)] 29]++L) [j0] G0) (fun ⟨K0,g0,G0,j0⟩=>(K0,g0,G0)) F0 h ?_ ?_
 rintro ⟨K0,g0,G0,j0⟩ s3 H1 d7 Z0 h
 try dsimp only at h
 refine Ae<|Ac (AP I (H1.memA .hd))<|Ab I<|bk h fun b2 Z5 h=>jE (bd 15) I (e2 I I) (fun w9 hw9=>bz_c n (H1.hL hL hw9) (⟨g0,G0⟩:Tc) (Ax Z0 hw9) K0 Z5) I fun t8 H7 A4 ⟨F7,hu_,X1⟩=>?_
 subst hu_
 obtain ⟨J0,x4⟩:=H1.agr A4
 refine Af I<|Aa<|Ae<|Ab I<|Bh 9 I<|AG I ((J0.memA .t3) 9 _ I) ?_
 have x7:=a0.fTree.toNat_lt
 refine Ac (FV.convN (i:=a0.fTree.toNat) underlying5 underlying3 I (by omega))<|Ab I ?_
 have q7:=AY X1
 refine Ac (Bf (xs:=b2) underlying60 I X1)<|bk h fun j6 C5 h=>Ac (FV.remc (i:=((a0.fTree.toNat:Nat):Int)) (j:=((b2.length:Nat):Int)) I I C5)<|bk h fun q6 I5 h=>?_
 obtain ⟨Q4,J5⟩:=ax I5
 obtain ⟨A6,P6,I4,V4,U6,s5,Z4⟩:=Bq X1 J5
 obtain ⟨k3,rfl,u5⟩:=bX s5
 refine Ac (AU 1 (j6.toNat) I I4 I Q4 V4)<|AG I (Z4 0 _ I)<|Af I<|Aa<|Ae<|Bh 6 I<|AG I ((J0.memA .t3) 6 _ I)<|Ac (FV.rem8 (a:=a0.fc) (b:=(4:UInt8)) I I (by decide)) ?_
 have s7:=(a0.fc%(4:UInt8)).toNat_lt
 refine Ac (FV.convN (i:=(a0.fc%(4:UInt8)).toNat) underlying5 underlying3 I (by omega))<|Ac (AW (i:=1) (j:=(a0.fc%(4:UInt8)).toNat) I I (by omega))<|Af I<|Aa<|Ai<|Ae<|Ab I<|Bh 0 I<|AG I ((J0.memA .hd) 0 _ I)<|Ac (FV.gtr (i:=((1+((a0.fc%(4:UInt8)).toNat):Nat):Int)) (j:=g0) I I)<|Aa<|MX.jo (α:=Int) (fun c0=>[(1,vP u0),(2,vP k0),(3,vP p0),(6,vP s0),(9,k3),(10,vI c0)]) (fun c0=>[.cells s0 [vI g0,j0] 32,.cells p0 [vN,vI 0,vI 0,vI 0] 35,.cells k0 [vI 0,vN] 32,.cells u0 [.int .u8 (a0.fv.fw.toNat:Int),.int .u8 (a0.fv.fh.toNat:Int),.int .u16 (a0.fv.fA.toNat:Int),v0_3,v0_4,v0_5,.int .u8 (a0.fc.toNat:Int),.int .u8 (a0.fy.1.toNat:Int),.int .u8 (a0.fy.2.toNat:Int),.int .u8 (a0.fTree.toNat:Int)] 29]) (fun c0=>c0) J0 h ?_ ?_
 rintro c0 v8 s2 G2 h
 try dsimp only at h
 refine Ai<|Ae<|Af I<|Aa<|Aq ?_
 have u2:=s2.nilRow 3 (Rep.size Int)
 have H2:=BW s2 3 (Rep.size Int)
 have g7:=AD (cs:=[]) (xs:=([]:Lb Int)) u2 L (AK _ _)
 obtain ⟨y7,b5,J4⟩:=ai h
 refine MX.lf (α:=(Lb Int)×Int×Vc) (fun ⟨E0,A0,M0⟩=>[(1,vP u0),(2,vP k0),(3,vP p0),(6,vP s0),(9,M0),(10,vI c0),(11,vI A0)]) (fun ⟨E0,A0,M0⟩=>[rr w 3 Int vN (([]:Lb Int).length) [],.cells s0 [vI g0,j0] 32,.cells p0 [vN,vI 0,vI 0,vI 0] 35,.cells k0 [vI 0,vN] 32,.cells u0 [.int .u8 (a0.fv.fw.toNat:Int),.int .u8 (a0.fv.fh.toNat:Int),.int .u16 (a0.fv.fA.toNat:Int),v0_3,v0_4,v0_5,.int .u8 (a0.fc.toNat:Int),.int .u8 (a0.fy.1.toNat:Int),.int .u8 (a0.fy.2.toNat:Int),.int .u8 (a0.fTree.toNat:Int)] 29]) (fun ⟨E0,A0,M0⟩ p3=>Rep.R p3 (bl [rr w 3 Int vN (([]:Lb Int).length) [],.cells s0 [vI g0,j0] 32,.cells p0 [vN,vI 0,vI 0,vI 0] 35,.cells k0 [vI 0,vN] 32,.cells u0 [.int .u8 (a0.fv.fw.toNat:Int),.int .u8 (a0.fv.fh.toNat:Int),.int .u16 (a0.fv.fA.toNat:Int),v0_3,v0_4,v0_5,.int .u8 (a0.fc.toNat:Int),.int .u8 (a0.fy.1.toNat:Int),.int .u8 (a0.fy.2.toNat:Int),.int .u8 (a0.fTree.toNat:Int)] 29]++L) [M0] E0) (fun ⟨E0,A0,M0⟩=>(E0,A0)) (q6,0,k3) b5 u2 (AB u5 (Tt G2 H2)) ?_
 rintro C6 ⟨E0,A0,M0⟩ p3 F3 D0 I2 Y0 h
 unfold ab_l2 at h
 try dsimp only at h
 refine Ai<|Ae<|Ab I<|Ab I<|bk h fun b6 v5 h=>Ac (FV.subc (i:=c0) (j:=1) I I v5)<|Ac (BR (i:=A0) (j:=b6) I I)<|Aa<|AO I h (fun v3 h=>?_) (fun v3 h=>?_)
 refine Am<|Ai<|Aq<|Ae<|Af I<|Aa<|Ai<|Ae<|Ab I<|Bh 5 I<|AG I ((D0.memA .t4) 5 _ I) ?_
 have U1:=AH h0_5 D0
 have j7:=AY U1
 refine Ac (Bf (xs:=a0.fCuts) underlying26 I U1)<|Ac (BR (i:=A0) (j:=((a0.fCuts.length:Nat):Int)) I I)<|Aa<|MX.jo (α:=Int) (fun Q0=>[(1,vP u0),(2,vP k0),(3,vP p0),(6,vP s0),(9,M0),(10,vI c0),(11,vI A0),(12,vI Q0)]) (fun Q0=>[rr w 3 Int vN (([]:Lb Int).length) [],.cells s0 [vI g0,j0] 32,.cells p0 [vN,vI 0,vI 0,vI 0] 35,.cells k0 [vI 0,vN] 32,.cells u0 [.int .u8 (a0.fv.fw.toNat:Int),.int .u8 (a0.fv.fh.toNat:Int),.int .u16 (a0.fv.fA.toNat:Int),v0_3,v0_4,v0_5,.int .u8 (a0.fc.toNat:Int),.int .u8 (a0.fy.1.toNat:Int),.int .u8 (a0.fy.2.toNat:Int),.int .u8 (a0.fTree.toNat:Int)] 29]) (fun Q0=>Q0) D0 h ?_ ?_
 rintro Q0 y8 K3 J2 h
 try dsimp only at h
 refine Ae<|Av .plain I (jB Int K3 aA) fun Q7 I6 y2 K2=>Ab I<|Ab I<|bk h fun s6 K5 h=>RG.valE .plain I (FV.cutL (α:=Int) K5 I I (AB Y0 (Tt J2 K2)) I ⟨_,I⟩) fun B7 g5=>bk h fun B8 M5 h=>RG.doesL .plain I (AL (α:=Int) (ys:=s6) M5 y2 (fun _ _=>.hd) aA I I (jD Int y2 L) (BO g5)) fun C7 U7 ⟨Q6,M3,g4,B4⟩=>Af I<|Aa<|Ak<|Ab I<|Ab I<|Ab I<|bk h fun A7 x5 h=>Ac (Bu (i:=Q0) (j:=1) I I x5)<|bk h fun u6 P5 h=>?_
 have Z2:=Tt J2 (Tt K2 g4)
 refine RG.valE .plain I (FV.cutL (α:=Int) P5 I I (AB Y0 Z2) ⟨_,I⟩ I) fun D7 j5=>bk h fun u3 Q5 h=>RG.doesL .plain I (AL (α:=Int) (ys:=u6) Q5 M3 (fun _ _=>.hd) aA I I B4 (BO j5)) fun g3 V7 ⟨R6,B1,j4,C4⟩=>Af I<|Aa<|Ao<|Ak<|Ab I<|bk h fun c6 y5 h=>Ac (Bu (i:=A0) (j:=1) I I y5)<|Af I<|Aa ?_
 have A2:=BL B1 .hd
 exact F3 (u3,c6,g3) A2 (Tt I2 (Tt Z2 (Tt j4 (BM B1 .hd)))) (BN (α:=Int) (v:=g3) (xs:=u3) A2 L (BA (α:=Int) B1 .hd C4 hL)) h
 intro D6 g2 h
 try dsimp only at h
 refine AO I h (fun x3 h=>?_) (fun x3 h=>?_)
 refine Ak<|Bh 5 I<|AG I ((D0.memA .t4) 5 _ I)<|Ab I<|bk h fun y1 E5 h=>?_
 obtain ⟨M4,F5⟩:=ax E5
 obtain ⟨y6,K6,E4,R4,C3,k5,X4⟩:=Bq U1 F5
 have F4:C3=[.int .u8 (y1.toNat:Int)]:=k5; subst F4
 refine Ac (AU 1 (A0.toNat) I E4 I M4 R4)<|AG I (X4 0 _ I) ?_
 have t7:=y1.toNat_lt
 refine Ac (FV.convN (i:=y1.toNat) underlying5 underlying3 I (by omega))<|Ab I ?_
 have k7:=AY Y0
 refine Ac (Bf (xs:=E0) underlying33 I Y0)<|bk h fun d6 z5 h=>Ac (FV.remc (i:=((y1.toNat:Nat):Int)) (j:=((E0.length:Nat):Int)) I I z5)<|Af I<|Aa<|g2 d6 D0 (By _ _) h
 refine Am<|g2 0 D0 (By _ _) h
 refine AT I ?_
 have h:=J4 _ h
 try dsimp only at h
 refine Ae<|Ac (AP I (D0.memA .t1))<|Ab I<|bk h fun C8 U5 h=>?_
 have x1:=Tt x4 (Tt G2 (Tt H2 I2))
 refine jE (bd 16) I (e2 I I) (fun w9 hw9=>ac_c n (D0.hL hL hw9) (⟨g0,G0⟩:Tc) (Ax (AB Z0 x1) hw9) (Ax Y0 hw9) U5) I fun X7 b1 y4 ⟨E7,hu_,c3⟩=>?_
 subst hu_
 obtain ⟨P3,K1⟩:=D0.agr y4
 refine Af I<|Aa<|Ae<|Ab I<|Ac (Bj (vs:=[vI c0]) (u:=.agg #[vN,vI 0,vI 0,vI c0]) (e1 I) (fun w9=>by kernel_rfl))<|RG.nl [vN,vI 0,vI 0,vI 0] P3 fun Y7 H0 Q3 s1=>Bl [vN,vI 0,vI 0,vI c0] Q3 .hd (aC I) fun Z7 B2 u1=>Aa<|Ai<|Ae<|Af I<|Aa<|Aq ?_
 have C2:=B2.nilRow 3 (Rep.size Int)
 have v1:=BW B2 3 (Rep.size Int)
 obtain ⟨z7,c5,K4⟩:=ai h
 refine MX.lf (α:=Int×(Lb Int)×Vc×(Lb Vc)) (fun ⟨B0,v0,d0,C0⟩=>[(1,vP u0),(2,vP k0),(3,vP p0),(6,vP s0),(14,b1),(15,vP H0),(16,vI B0)]) (fun ⟨B0,v0,d0,C0⟩=>[rr w 3 Int d0 v0.length C0,.cells H0 [d0,vI 0,vI 0,vI c0] 35,rr w 3 Int vN (([]:Lb Int).length) [],.cells s0 [vI g0,j0] 32,.cells p0 [vN,vI 0,vI 0,vI 0] 35,.cells k0 [vI 0,vN] 32,.cells u0 [.int .u8 (a0.fv.fw.toNat:Int),.int .u8 (a0.fv.fh.toNat:Int),.int .u16 (a0.fv.fA.toNat:Int),v0_3,v0_4,v0_5,.int .u8 (a0.fc.toNat:Int),.int .u8 (a0.fy.1.toNat:Int),.int .u8 (a0.fy.2.toNat:Int),.int .u8 (a0.fTree.toNat:Int)] 29]) (fun ⟨B0,v0,d0,C0⟩ q3=>Cells q3 (bl [rr w 3 Int d0 v0.length C0,.cells H0 [d0,vI 0,vI 0,vI c0] 35,rr w 3 Int vN (([]:Lb Int).length) [],.cells s0 [vI g0,j0] 32,.cells p0 [vN,vI 0,vI 0,vI 0] 35,.cells k0 [vI 0,vN] 32,.cells u0 [.int .u8 (a0.fv.fw.toNat:Int),.int .u8 (a0.fv.fh.toNat:Int),.int .u16 (a0.fv.fA.toNat:Int),v0_3,v0_4,v0_5,.int .u8 (a0.fc.toNat:Int),.int .u8 (a0.fy.1.toNat:Int),.int .u8 (a0.fy.2.toNat:Int),.int .u8 (a0.fTree.toNat:Int)] 29]++L) C0 v0) (fun ⟨B0,v0,d0,C0⟩=>(B0,v0)) (0,([]:Lb Int),vN,[]) c5 C2 (AD (cs:=[]) (xs:=([]:Lb Int)) C2 L (AK _ _)) ?_
 rintro E6 ⟨B0,v0,d0,C0⟩ q3 G3 t0 X0 R1 h
 unfold ab_l1 at h
 try dsimp only at h
 refine Ai<|Ae<|Ab I<|Bh 0 I<|AG I ((t0.memA .t3) 0 _ I)<|Ac (BR (i:=B0) (j:=g0) I I)<|Aa<|AO I h (fun A3 h=>?_) (fun A3 h=>?_)
 refine Am<|Ai<|Aq<|Ae<|Af I<|Aa<|Ai<|Ae<|Ab I<|Bh 4 I<|AG I ((t0.memA .t6) 4 _ I) ?_
 have V1:=AH h0_4 t0
 have p7:=AY V1
 refine Ac (Bf (xs:=a0.fu) underlying26 I V1)<|Ac (BR (i:=B0) (j:=((a0.fu.length:Nat):Int)) I I)<|Aa<|MX.jo (α:=Nat) (fun x0=>[(1,vP u0),(2,vP k0),(3,vP p0),(6,vP s0),(14,b1),(15,vP H0),(16,vI B0),(17,vn x0)]) (fun x0=>[rr w 3 Int d0 v0.length C0,.cells H0 [d0,vI 0,vI 0,vI c0] 35,rr w 3 Int vN (([]:Lb Int).length) [],.cells s0 [vI g0,j0] 32,.cells p0 [vN,vI 0,vI 0,vI 0] 35,.cells k0 [vI 0,vN] 32,.cells u0 [.int .u8 (a0.fv.fw.toNat:Int),.int .u8 (a0.fv.fh.toNat:Int),.int .u16 (a0.fv.fA.toNat:Int),v0_3,v0_4,v0_5,.int .u8 (a0.fc.toNat:Int),.int .u8 (a0.fy.1.toNat:Int),.int .u8 (a0.fy.2.toNat:Int),.int .u8 (a0.fTree.toNat:Int)] 29]) (fun x0=>x0) t0 h ?_ ?_
 rintro x0 A8 F2 V2 h
 try dsimp only at h
 refine Ak<|Bh 0 I<|AG I ((F2.memA .t1) 0 _ I)<|Ab I<|Av .plain I (AS (α:=Int) (xs:=([((x0:Nat):Int)]:Lb Int)) (vs:=[vn x0]) (ds' :=[vn x0]) I F2 aA I (e1 I) (by kernel_rfl) I) fun p8 J6 F1 W2=>bk h fun v6 R5 h=>RG.doesL .plain I (AL (α:=Int) (ys:=([((x0:Nat):Int)]:Lb Int)) R5 F1 (fun _ _=>.t1) aA I I (Ar R1 (Tt V2 W2)) (Bx (α:=Int) F1 .hd (AD (cs:=[vn x0]) (xs:=(([((x0:Nat):Int)]:Lb Int):Lb Int)) F1 L (AE (cs:=[vn x0]) (ds:=[]) I (AK _ _))))) fun Z1 q8 ⟨D3,G1,v4,D4⟩=>Bh 0 I<|RG.now .plain (BI (j:=0) (old:=[d0,vI 0,vI 0,vI c0]) (news:=[Z1]) (new' :=[Z1,vI 0,vI 0,vI c0]) G1 .t2 I I I (St.c1 (α:=Int) G1 .t1) I I (o1 (St.o1 (α:=Int) G1 .t1)) I) fun s8 c4 X2=>Aa<|Ao<|Ak<|Ab I<|bk h fun g6 A5 h=>Ac (Bu (i:=B0) (j:=1) I I A5)<|Af I<|Aa ?_
 obtain ⟨d4,Y2⟩:=AX c4 .d1
 exact G3 (g6,v6,Z1,D3) d4 (Tt X0 (Tt V2 (Tt W2 (Tt v4 (Tt X2 Y2))))) (Ar D4 (Tt X2 Y2)) h
 intro F6 p2 h
 try dsimp only at h
 refine AO I h (fun B3 h=>?_) (fun B3 h=>?_)
 refine Ak<|Bh 4 I<|AG I ((t0.memA .t6) 4 _ I)<|Ab I<|bk h fun g1 G5 h=>?_
 obtain ⟨P4,H5⟩:=ax G5
 obtain ⟨z6,M6,G4,U4,E3,q5,Y4⟩:=Bq V1 H5
 have H4:E3=[.int .u8 (g1.toNat:Int)]:=q5; subst H4
 refine Ac (AU 1 (B0.toNat) I G4 I P4 U4)<|AG I (Y4 0 _ I)<|Ac (FV.rem8 (a:=g1) (b:=(10:UInt8)) I I (by decide)) ?_
 have u7:=(g1%(10:UInt8)).toNat_lt
 refine Ac (FV.convN (i:=(g1%(10:UInt8)).toNat) underlying5 underlying3 I (by omega))<|Af I<|Aa<|p2 ((g1%(10:UInt8)).toNat) t0 (By _ _) h
 refine Am<|p2 1 t0 (By _ _) h
 refine AT I ?_
 have h:=K4 _ h
 try dsimp only at h
 refine Ae<|Ac (AP I (t0.memA .t1))<|Ab I<|bk h fun j1 Y5 h=>?_
 have b3:=Tt s1 (Tt u1 (Tt v1 X0))
 refine Bz (.tuple #[vI j1.1,vI j1.2]) (bd 17) I (e2 I I) (fun w9 hw9=>ai_c n (t0.hL0 hL hw9) (⟨v0,(0:Int),(0:Int),c0⟩:Td) (Ax (St.lend (α:=Int) (L:=L) t0 .hd R1 hL) hw9) (t0.kd (AB c3 b3) hw9) Y5) I<|Ab I<|Ac (Al I I)<|Ac (Al I I)<|Af I<|Af I<|Aa<|Ai<|du 16 fun b0 q0=>Rv 0 b0 I q0 (fun _=>Ah I)<|Rv 1 b0 I q0 (fun _=>Bv 7 I)<|Rv 2 b0 I q0 (fun _=>AC (m:=1) (k:=0) (len:=2) I I I I (by omega))<|Rx 3 491760 b0 I q0 (Ay I ((aL (t0.memA .t6) 7) 0 _ I))<|Rv 4 b0 I q0 (fun _=>FV.rem8 (a:=a0.fy.1) (b:=(6:UInt8)) I I (by decide)) ?_
 have v7:=(a0.fy.1%(6:UInt8)).toNat_lt
 refine Rv 5 b0 I q0 (fun _=>FV.convN (i:=(a0.fy.1%(6:UInt8)).toNat) underlying5 underlying3 I (by omega))<|bk h fun z0 B5 h=>Rv 6 b0 I q0 (fun _=>FV.subc (i:=j1.1) (j:=(((a0.fy.1%(6:UInt8)).toNat:Nat):Int)) I I B5)<|Rv 7 b0 I q0 (fun _=>FV.max2 (i:=0) (j:=z0) I I)<|Rv 8 b0 I q0 (fun _=>Ah I)<|Rv 9 b0 I q0 (fun _=>Bv 7 I)<|Rv 10 b0 I q0 (fun _=>AC (m:=1) (k:=1) (len:=2) I I I I (by omega))<|Rv 15 b0 I q0 (fun _=>Bv 1 I)<|bk h fun P0 d3 h=>RD.mo (α:=Unit) (fun ()=>[(2,vP k0),(3,vP p0),(6,vP s0),(14,b1),(15,vP H0),(145,vI P0)]) (fun ()=>[rr w 3 Int d0 v0.length C0,.cells H0 [d0,vI (max 0 z0),vI 0,vI c0] 35,rr w 3 Int vN (([]:Lb Int).length) [],.cells s0 [vI g0,j0] 32,.cells p0 [vN,vI 0,vI 0,vI 0] 35,.cells k0 [vI 0,vN] 32]) t0 2 131071 ?_ ?_
 rintro ⟨⟩ x8 J3 V0
 try dsimp only
 refine Bb (i:=17) (rk b0) (Bg (m' :=262143) (sk b0) I .plain I (Bv 2 I) ?_)
 refine BC 18 524287 b0 I I .plain (BI (j:=2) (old:=[d0,vI (max 0 z0),vI 0,vI c0]) (news:=[vI P0]) (new' :=[d0,vI (max 0 z0),vI P0,vI c0]) J3 .t1 I I I I I I (o1 I) I) fun P7 U0 W0=>AQ (dk b0)<|Ai<|du 3 fun y0 Y1=>Rx 0 56 y0 I Y1 (AP I (U0.memA .t3))<|Rv 2 y0 I Y1 (fun _=>Ah I)<|RD.mo (α:=Unit) (fun ()=>[(2,vP k0),(3,vP p0),(150,b1),(149,.agg #[d0,vI (max 0 z0),vI P0,vI c0])]) (fun ()=>[rr w 3 Int d0 v0.length C0,rr w 3 Int vN (([]:Lb Int).length) [],.cells p0 [vN,vI 0,vI 0,vI 0] 35,.cells k0 [vI g0,j0] 32]) U0 2 15 ?_ ?_
 rintro ⟨⟩ z8 D2 M1
 try dsimp only
 refine BC 4 31 y0 I I .plain (Az (news:=[d0,vI (max 0 z0),vI P0,vI c0]) D2 .t2 I I I I I I (o4 (St.o1 (α:=Int) D2 .hd) I I I)) fun c8 C1 P1=>Bb (i:=5) (rk y0) (Bg (m' :=63) (sk y0) I .plain I (Bi I) ?_)
 refine AQ (dk y0)<|Ap I ?_
 have I0:=BL C1 .hd
 have M2:=BM C1 .hd
 have p5:=BN (α:=Int) (v:=d0) (xs:=v0) I0 L (BA (α:=Int) C1 .hd (Ar R1 (Tt V0 (Tt W0 (Tt M1 P1)))) hL)
 refine Aw hb0 func4 I (.cons (.many (cs:=[vI g0,j0]) I I (I0.memA .t2)) (.cons (.many (cs:=[d0,vI (max 0 z0),vI P0,vI c0]) I I (I0.memA .t1)) (.cons (.tmp I) .nil))) I ?_
 cases h
 exact ⟨I0.ag,fun w9 hw9=>⟨j0,d0,b1,I,I0.kd (AB Z0 (Tt x1 (Tt K1 (Tt s1 (Tt u1 (Tt v1 (Tt X0 (Tt V0 (Tt W0 (Tt M1 (Tt P1 M2))))))))))) hw9,I0.kd p5 hw9,I0.kd (AB c3 (Tt b3 (Tt V0 (Tt W0 (Tt M1 (Tt P1 M2)))))) hw9⟩⟩
 intro j2
 refine Bc [1,3] (rk y0) ⟨?_,?_,trivial⟩
 refine Bg (m' :=7) (sk y0) I .plain I (AP I (U0.memA .t1)) ?_
 have d5:=Tt x1 (Tt K1 (Tt s1 (Tt u1 (Tt v1 (Tt X0 (Tt V0 W0))))))
 have W4:=AB Z0 d5
 refine BC 3 15 y0 I I .plain (Az (news:=[vI g0,j0]) U0 .t5 I I I I I I (o2 I (Bs W4))) fun p6 p1 J1=>?_
 obtain ⟨R3,k4⟩:=AX p1 (.a0 (.a1 .d2))
 exact j2 () R3 (Tt J1 k4)
 refine RO.now (m' :=13) (sk y0) I I .plain (Az (news:=[vI g0,j0]) U0 .t5 I I I I I I (o2 I (Bs (AB Z0 (Tt x1 (Tt K1 (Tt s1 (Tt u1 (Tt v1 (Tt X0 (Tt V0 W0))))))))))) fun p6 p1 J1=>Rx 1 48 y0 I Y1 (AP I (p1.memA .t1)) ?_
 obtain ⟨U3,p4⟩:=AX p1 (.a0 (.a1 .d2))
 exact j2 () U3 (Tt J1 p4)
 intro k2
 refine Bc [11,16] (rk b0) ⟨?_,?_,trivial⟩
 refine Bg (m' :=36863) (sk b0) I .plain I (Ay I ((aL (t0.memA .t6) 7) 1 _ I))<|Rv 12 b0 I q0 (fun _=>FV.rem8 (a:=a0.fy.2) (b:=(6:UInt8)) I I (by decide)) ?_
 have D5:=(a0.fy.2%(6:UInt8)).toNat_lt
 refine Rv 13 b0 I q0 (fun _=>FV.convN (i:=(a0.fy.2%(6:UInt8)).toNat) underlying5 underlying3 I (by omega))<|Rv 14 b0 I q0 (fun _=>Bu (i:=j1.2) (j:=(((a0.fy.2%(6:UInt8)).toNat:Nat):Int)) I I d3)<|BC 16 131071 b0 I I .plain (BI (j:=1) (old:=[d0,vI 0,vI 0,vI c0]) (news:=[vI (max 0 z0)]) (new' :=[d0,vI (max 0 z0),vI 0,vI c0]) t0 .t1 I I I I I I (o1 I) I) fun k6 k1 I1=>?_
 obtain ⟨V3,q4⟩:=AX k1 (.a0 (.a0 (.a0 (.a0 (.a0 (.a0 .done))))))
 exact k2 () V3 (Tt I1 q4)
 refine RO.now (m' :=100351) (sk b0) I I .plain (BI (j:=1) (old:=[d0,vI 0,vI 0,vI c0]) (news:=[vI (max 0 z0)]) (new' :=[d0,vI (max 0 z0),vI 0,vI c0]) t0 .t1 I I I I I I (o1 I) I) fun k6 k1 I1=>Rx 11 421888 b0 I q0 (Ay I ((aL (k1.memA .t6) 7) 1 _ I))<|Rv 12 b0 I q0 (fun _=>FV.rem8 (a:=a0.fy.2) (b:=(6:UInt8)) I I (by decide)) ?_
 have D5:=(a0.fy.2%(6:UInt8)).toNat_lt
 refine Rv 13 b0 I q0 (fun _=>FV.convN (i:=(a0.fy.2%(6:UInt8)).toNat) underlying5 underlying3 I (by omega))<|Rv 14 b0 I q0 (fun _=>Bu (i:=j1.2) (j:=(((a0.fy.2%(6:UInt8)).toNat:Nat):Int)) I I d3) ?_
 obtain ⟨W3,s4⟩:=AX k1 (.a0 (.a0 (.a0 (.a0 (.a0 (.a0 .done))))))
 exact k2 () W3 (Tt I1 s4)
 intro B6 c2 h
 try dsimp only at h
 refine AO I h (fun y3 h=>?_) (fun y3 h=>?_)
 refine Ak<|Bh 0 I<|AG I ((J0.memA .hd) 0 _ I)<|Af I<|Aa<|c2 g0 J0 (By _ _) h
 refine Am<|c2 ((1+((a0.fc%(4:UInt8)).toNat):Nat):Int) J0 (By _ _) h
 intro G6 q2 h
 try dsimp only at h
 refine MX.ifnb I h (fun z3 h=>?_) (fun z3 h=>?_)
 refine Am ?_
 obtain ⟨X3,P2⟩:=AX F0 (.a0 .d1)
 exact q2 (A1-(1:Ua),z1.fN,z1.fo,j3) X3 P2 (AB W1 (Tt Q1 (Tt U2 P2))) h
 refine Ae<|Ac (Bj (vs:=[vI 0,vI 1]) (u:=.agg #[vI 0,vI 1]) (e2 I I) (fun w9=>by kernel_rfl))<|Ac (Bj (vs:=[vI 0,vI 2]) (u:=.agg #[vI 0,vI 2]) (e2 I I) (fun w9=>by kernel_rfl))<|Ac (Bj (vs:=[vI 1,vI 3]) (u:=.agg #[vI 1,vI 3]) (e2 I I) (fun w9=>by kernel_rfl))<|Ac (Bj (vs:=[vI 2,vI 3]) (u:=.agg #[vI 2,vI 3]) (e2 I I) (fun w9=>by kernel_rfl))<|Av .plain I (AS (α:=Int×Int) (xs:=([((0:Int),(1:Int)),((0:Int),(2:Int)),((1:Int),(3:Int)),((2:Int),(3:Int))]:Lb (Int×Int))) (vs:=[.agg #[vI 0,vI 1],.agg #[vI 0,vI 2],.agg #[vI 1,vI 3],.agg #[vI 2,vI 3]]) (ds' :=[vI 0,vI 1,vI 0,vI 2,vI 1,vI 3,vI 2,vI 3]) I F0 kl I (e4 I I I I) (by kernel_rfl) I) fun d8 R0 D1 u4=>Ac (Bj (vs:=[vI 4,(vS R0 4)]) (u:=.agg #[vI 4,(vS R0 4)]) (e2 I I) (fun w9=>by kernel_rfl))<|Bl [vI 4,(vS R0 4)] D1 .t1 (o2 I (St.o1 (α:=Int×Int) D1 .hd)) fun g8 E1 Q2=>Aa<|Ak<|Af I<|Aa ?_
 have E2:=BL E1 .hd
 obtain ⟨Y3,R2⟩:=AX E2 (.a0 .d1)
 exact q2 (15,4,([((0:Int),(1:Int)),((0:Int),(2:Int)),((1:Int),(3:Int)),((2:Int),(3:Int))]:Lb (Int×Int)),(vS R0 4)) Y3 (Tt u4 (Tt Q2 (Tt (BM E1 .hd) R2))) (AB (BN (α:=Int×Int) (v:=(vS R0 4)) (xs:=([((0:Int),(1:Int)),((0:Int),(2:Int)),((1:Int),(3:Int)),((2:Int),(3:Int))]:Lb (Int×Int))) E2 L (BA (α:=Int×Int) E1 .hd (Ar (AD (cs:=[vI 0,vI 1,vI 0,vI 2,vI 1,vI 3,vI 2,vI 3]) (xs:=(([((0:Int),(1:Int)),((0:Int),(2:Int)),((1:Int),(3:Int)),((2:Int),(3:Int))]:Lb (Int×Int)):Lb (Int×Int))) D1 L (AE (cs:=[vI 0,vI 1]) (ds:=[vI 0,vI 2,vI 1,vI 3,vI 2,vI 3]) (ez (0:Int) (1:Int)) (AE (cs:=[vI 0,vI 2]) (ds:=[vI 1,vI 3,vI 2,vI 3]) (ez (0:Int) (2:Int)) (AE (cs:=[vI 1,vI 3]) (ds:=[vI 2,vI 3]) (ez (1:Int) (3:Int)) (AE (cs:=[vI 2,vI 3]) (ds:=[]) (ez (2:Int) (3:Int)) (AK _ _)))))) Q2) hL)) R2) h
def bB_l1 (_n:Nat) (a0:Lb Int) (a1:Int) (d0:Nat->Oa (Bool⊕Unit)):Nat->Oa (Bool⊕Unit)
  | b0=>(if b0<a0.length then (a0[b0]?).bind fun c0=>(if c0<0 then some (.inl false) else (if a1<=c0 then some (.inl false) else d0 (b0+1))) else some (.inr ()))
def bB_p (n:Nat) (a0:Lb Int) (a1:Int):Oa Bool:=
  thn (ah (bB_l1 n a0 a1) n 0) (fun _=>(if 0<a0.length then some (decide (a0.length<=64)) else some false))
theorem bB_c (n:Nat) {L w} (_hL:hl L w) {a0:Lb Int} {v0_0:Vc} (h0_0:Rep.R w L [v0_0] a0) {a1:Int}  {r:Bool} (h:bB_p n a0 a1=some r) :
 Cl 43 #[v0_0,vI a1] w (aj w fun _ u=>u=.bool r):=by
 unfold bB_p at h
 refine AJ func43 I I I fun _ cs0 hb0=>Ae<|Af I<|Aa<|Ai<|Ae<|Ab I ?_
 have hl1:=AY h0_0
 refine Ac (Bf (xs:=a0) underlying36 I h0_0)<|Ab I<|Aa<|Aq<|tn h fun H0 B0 d0=>MX.lo (α:=Nat) (fun b0=>[(0,v0_0),(1,vI a1),(7,v0_0),(8,vn a0.length),(9,vn b0)]) (fun b0=>[]) (fun b0=>b0) 0 B0 (AI w) ?_
 rintro F0 b0 I0 u0 c0 v0 h
 unfold bB_l1 at h
 try dsimp only at h
 refine Ae<|Ac (Bp (i:=b0) (j:=a0.length) I I)<|Aa<|Ai<|AO I h (fun k0 h=>?_) (fun k0 h=>?_)
 refine Am<|Ai<|Aq<|Ae<|bk h fun g0 D0 h=>?_
 obtain ⟨E0,G0,x0,z0,t0,C0,A0⟩:=Bq (AH h0_0 c0) D0
 have y0:t0=[vI g0]:=C0; subst y0
 refine Ac (AU 1 b0 I x0 I I z0)<|AG I (A0 0 _ I)<|Af I<|Aa<|Ae<|Ab I<|Ac (BR (i:=g0) (j:=0) I I)<|Ab I<|BD (s:=15) I h (fun p0 h=>?_) (fun p0 h=>?_)
 refine Aj<|Aj<|Aj<|Bm I I<|Aa<|Ba I<|Ae<|Af I<|Aa ?_
 have h:=aO h d0
 refine Ap I<|AV hb0 func43 I I ?_
 cases h
 exact c0.gv
 refine Au (Ah I)<|Au (Ah I)<|Au (FV.geq (i:=g0) (j:=a1) I I)<|Bo I I<|Aa<|AO I h (fun q0 h=>?_) (fun q0 h=>?_)
 refine Ae<|Af I<|Aa ?_
 have h:=aO h d0
 refine Ap I<|AV hb0 func43 I I ?_
 cases h
 exact c0.gv
 refine Am<|Ao<|Ak<|Ac (AW (i:=b0) (j:=1) I I (by omega))<|Ab I<|Aa<|u0 (b0+1) c0 v0 h
 refine AT I ?_
 have h:=bD h d0
 try dsimp only at h
 refine Ae<|Ab I ?_
 have j0:=AH h0_0 c0
 refine Ac (Bf (xs:=a0) underlying36 I j0)<|Ac (FV.gtrN (i:=a0.length) (j:=0) I I)<|Ab I<|BD (s:=24) I h (fun s0 h=>?_) (fun s0 h=>?_)
 refine Au (Ah I)<|Au (Bf (xs:=a0) underlying36 I j0)<|Au (FV.leqN (i:=a0.length) (j:=64) I I)<|Bm I I<|Af I<|Aa<|Ap I<|AV hb0 func43 I I ?_
 cases h
 exact c0.gv
 refine Aj<|Aj<|Aj<|Bo I I<|Af I<|Aa<|Ap I<|AV hb0 func43 I I ?_
 cases h
 exact c0.gv

def bH_l1 (_n:Nat) (a0:Lb Int) (p0:Nat×(Lb Int)×(Lb (Int×Int))->Oa (Lb Int)):Nat×(Lb Int)×(Lb (Int×Int))->Oa (Lb Int)
  | (c0,g0,b0)=>(if c0<a0.length then (a0[c0]?).bind fun d0=>jn (fun (s0,k0)=>(g0[c0]?).bind fun _x152=>(put g0 ((c0:Nat):Int) s0).bind fun q0=>p0 (c0+1,q0,k0)) (fun j0=>(if (aP b0 d0).isSome=true then j0 (ap b0 d0 (0:Int),b0) else j0 (((b0.length:Nat):Int),aH b0 d0 ((b0.length:Nat):Int)))) else some g0)
def bH_p (n:Nat) (a0:Lb Int):Oa ((Lb Int)×Int):=
  (bB_p n a0 (8:Int)).bind fun y1=>(if y1=true then (mk ((a0.length:Nat):Int) (0:Int)).bind fun c0=>Option.bind (ah (bH_l1 n a0) n (0,c0,([]:Lb (Int×Int)))) (fun b0=>some (b0,(0:Int))) else some (([]:Lb Int),(210:Int)))
theorem bH_c (n:Nat) {L w} (hL:hl L w) {a0:Lb Int} {v0_0:Vc} (h0_0:Rep.R w L [v0_0] a0)  {r:(Lb Int)×Int} (h:bH_p n a0=some r) :
 Cl 20 #[v0_0] w (aj w fun w' u=>∃ v0_0:Vc,u=.tuple #[v0_0,vI r.2]/\Rep.R w' L [v0_0] r.1):=by
 unfold bH_p at h
 have hS0:=AI w
 refine AJ func20 I I I fun _ cs0 hb0=>Ae<|Af I<|Af I<|Aa<|Ai<|Ae<|Ab I<|bk h fun y1 hy1 h=>Bz (.bool y1) (bd 43) I (e2 I I) (fun w9 hw9=>bB_c n (hS0.hL0 hL hw9) (hS0.kd h0_0 hw9) hy1) I<|Ac (BV I)<|Aa<|MX.ifnb I h (fun c2 h=>?_) (fun c2 h=>?_)
 refine Am<|Ae<|Av .plain I (Does.makeMap (κ:=Int) (ν:=Int) hS0) fun X1 q0 A0 P1=>Af I<|Aa<|Ae<|Ab I ?_
 have G0:=AH h0_0 A0
 have U1:=AY G0
 refine Ac (Bf (xs:=a0) underlying36 I G0)<|bk h fun J0 H0 h=>Av .plain I (Does.mk (α:=Int) H0 A0 qi I) fun b2 k0 x0 R1=>Af I<|Aa<|Ai<|Ae<|Ab I<|Ac (Bf (xs:=a0) underlying36 I (AH h0_0 x0))<|Ab I<|Aa<|Aq ?_
 obtain ⟨W1,u1,p1⟩:=ai h
 refine MX.lf (α:=Nat×(Lb Int)×(Lb (Int×Int))×(Lb Vc)) (fun ⟨c0,d0,b0,j0⟩=>[(4,.map (some q0)),(5,(.slice (some ⟨k0,0,none⟩) ((a0.length:Nat):Int).toNat ((a0.length:Nat):Int).toNat)),(17,v0_0),(18,vn a0.length),(19,vn c0)]) (fun ⟨c0,d0,b0,j0⟩=>[rr w 3 Int (.slice (some ⟨k0,0,none⟩) ((a0.length:Nat):Int).toNat ((a0.length:Nat):Int).toNat) d0.length j0,.obj q0 (ab (b0:Lb (Int×Int)))]) (fun ⟨c0,d0,b0,j0⟩ I0=>Cells I0 (bl [rr w 3 Int (.slice (some ⟨k0,0,none⟩) ((a0.length:Nat):Int).toNat ((a0.length:Nat):Int).toNat) d0.length j0,.obj q0 (ab (b0:Lb (Int×Int)))]++L) j0 d0) (fun ⟨c0,d0,b0,j0⟩=>(c0,d0,b0)) (0,J0,([]:Lb (Int×Int)),(List.replicate ((a0.length:Nat):Int).toNat [vI 0]).flatten) u1 x0 (AD (cs:=(List.replicate ((a0.length:Nat):Int).toNat [vI 0]).flatten) (xs:=J0) x0 L (Cells.mk H0 I)) ?_
 rintro H1 ⟨c0,d0,b0,j0⟩ I0 W0 g0 Z0 C0 h
 unfold bH_l1 at h
 try dsimp only at h
 refine Ae<|Ac (Bp (i:=c0) (j:=a0.length) I I)<|Aa<|Ai<|AO I h (fun P0 h=>?_) (fun P0 h=>?_)
 refine Am<|Ai<|Aq<|Ae<|Ab I<|bk h fun s0 B1 h=>?_
 obtain ⟨G1,J1,g1,q1,R0,v1,s1⟩:=Bq (AH h0_0 g0) B1
 have j1:R0=[vI s0]:=v1; subst j1
 refine Ac (AU 1 c0 I g1 I I q1)<|AG I (s1 0 _ I)<|Af I<|Af I<|Aa<|Ae<|Ab I<|Ab I<|Ac (BG (kv:=s0) (z:=(0:Int)) g0 .t1 underlying127 underlying3 I I I I)<|Ab I<|Ac (Al I I)<|Ac (Al I I)<|Af I<|Af I<|Aa<|Ai<|Ae<|Ab I<|Ac (BV I)<|Aa<|MX.jo (α:=Int×(Lb (Int×Int))) (fun ⟨t0,p0⟩=>[(4,.map (some q0)),(5,(.slice (some ⟨k0,0,none⟩) ((a0.length:Nat):Int).toNat ((a0.length:Nat):Int).toNat)),(17,v0_0),(18,vn a0.length),(19,vn c0),(6,vn c0),(8,vI t0)]) (fun ⟨t0,p0⟩=>[rr w 3 Int (.slice (some ⟨k0,0,none⟩) ((a0.length:Nat):Int).toNat ((a0.length:Nat):Int).toNat) d0.length j0,.obj q0 (ab (p0:Lb (Int×Int)))]) (fun ⟨t0,p0⟩=>(t0,p0)) g0 h ?_ ?_
 rintro ⟨t0,p0⟩ d2 u0 B0 h
 try dsimp only at h
 refine Ak<|Ab I<|Ab I<|Ab I<|bk h fun E1 C1 h=>?_
 have F0:=Ar C0 B0
 obtain ⟨K0,K1,y0,E0,U0,x1,V1⟩:=BF (α:=Int) u0 .hd F0 C1
 obtain ⟨M0,M1,D0⟩:=Bd (α:=Int) u0 .hd E0
 obtain rfl:K0=⟨M0,0,none⟩:=by rw [D0] at y0; cases y0; rfl
 have k1:U0=[vI E1]:=x1; subst k1
 refine Ac (AU 1 c0 I y0 I I E0)<|bk h fun F1 D1 h=>RG.acts' .plain (BE (α:=Int) (i:=c0) D1 u0 D0 (fun _=>.hd) F0 I I I I I I) fun Y1 ⟨V0,X0,b1,d1⟩=>Aa<|Ao<|Ak<|Ac (AW (i:=c0) (j:=1) I I (by omega))<|Ab I<|Aa<|W0 (c0+1,F1,p0,V0) X0 (Tt Z0 (Tt B0 b1)) d1 h
 intro I1 z0 h
 try dsimp only at h
 refine MX.ifnb I h (fun Q0 h=>?_) (fun Q0 h=>?_)
 refine Am<|z0 (ap b0 s0 (0:Int),b0) g0 (By _ _) h
 refine Ae<|Ab I<|Ac (FV.len_map (D:=b0) g0 .t1 underlying127 I)<|Af I<|Aa<|Ak<|Ab I<|Ab I<|Ab I<|RG.now .plain (Acts.mapUpdate (kv:=s0) (vv:=((b0.length:Nat):Int)) g0 .t1 underlying127 underlying3 I I I I) fun Z1 Y0 c1=>Aa<|z0 (((b0.length:Nat):Int),aH b0 s0 ((b0.length:Nat):Int)) Y0 c1 h
 refine AT I ?_
 have h:=p1 _ h
 try dsimp only at h
 refine Ae<|Ab I<|Af I<|Af I<|Aa<|Ap I ?_
 have v0:=BL g0 .hd
 have Q1:=BM g0 .hd
 have z1:=BN (α:=Int) (v:=(.slice (some ⟨k0,0,none⟩) ((a0.length:Nat):Int).toNat ((a0.length:Nat):Int).toNat)) (xs:=d0) v0 L (BA (α:=Int) g0 .hd C0 hL)
 refine Aw hb0 func20 I (.cons (.tmp I) (.cons (.tmp I) .nil)) I ?_
 cases h
 exact ⟨v0.ag,fun w9 hw9=>⟨(.slice (some ⟨k0,0,none⟩) ((a0.length:Nat):Int).toNat ((a0.length:Nat):Int).toNat),I,v0.kd z1 hw9⟩⟩
 refine Ae<|Af I<|Af I<|Aa<|Ap I ?_
 have A1:=BP (α:=Int) hS0 L
 refine Aw hb0 func20 I (.cons (.tmp I) (.cons (.tmp I) .nil)) I ?_
 cases h
 exact ⟨hS0.ag,fun w9 hw9=>⟨vN,I,hS0.kd A1 hw9⟩⟩
def ct:Lb UInt8:=[0,1,2,2,3,3,3,3,4,4,4,4,4,4,4,4,5,5,5,5,5,5,5,5,5,5,5,5,5,5,5,5,6,6,6,6,6,6,6,6,6,6,6,6,6,6,6,6,6,6,6,6,6,6,6,6,6,6,6,6,6,6,6,6,7,7,7,7,7,7,7,7,7,7,7,7,7,7,7,7,7,7,7,7,7,7,7,7,7,7,7,7,7,7,7,7,7,7,7,7,7,7,7,7,7,7,7,7,7,7,7,7,7,7,7,7,7,7,7,7,7,7,7,7,7,7,7,7,8,8,8,8,8,8,8,8,8,8,8,8,8,8,8,8,8,8,8,8,8,8,8,8,8,8,8,8,8,8,8,8,8,8,8,8,8,8,8,8,8,8,8,8,8,8,8,8,8,8,8,8,8,8,8,8,8,8,8,8,8,8,8,8,8,8,8,8,8,8,8,8,8,8,8,8,8,8,8,8,8,8,8,8,8,8,8,8,8,8,8,8,8,8,8,8,8,8,8,8,8,8,8,8,8,8,8,8,8,8,8,8,8,8,8,8,8,8,8,8,8,8,8,8,8,8,8,8]
def aO_p (_n:Nat) (a0:Ua):Oa Int:=
  jn (fun (u2,i3)=>jn (fun (b0,g0)=>jn (fun (q0,s0)=>(ct[(dC q0).toNat]?).bind fun t0=>(chk (s0+((t0.toNat:Nat):Int))).bind fun j0=>some j0) (fun d0=>(if (256:Ua)<=b0 then (chk (g0+8)).bind fun k0=>d0 (shrU b0 8,k0) else d0 (b0,g0)))) (fun c0=>(if (65536:Ua)<=u2 then (chk (((i3:Nat):Int)+16)).bind fun p0=>c0 (shrU u2 16,p0) else c0 (u2,((i3:Nat):Int))))) (fun J7=>(if (4294967296:Ua)<=a0 then J7 (shrU a0 32,32) else J7 (a0,0)))
theorem aO_c (n:Nat) {L w} (_hL:hl L w) (a0:Ua)  {r:Int} (h:aO_p n a0=some r) :
 Cl 79 #[vU a0] w (aj w fun _ u=>u=vI r):=by
 unfold aO_p at h
 have hS0:=AI w
 refine AJ func79 I I I fun _ cs0 hb0=>Ae<|Af I<|Aa<|Ai<|Ae<|Ab I<|Ac (FV.geqU (a:=a0) (b:=(4294967296:Ua)) I I)<|Aa<|MX.jo (α:=Ua×Nat) (fun ⟨u2,i3⟩=>[(0,vU u2),(2,vn i3)]) (fun ⟨u2,i3⟩=>[]) (fun ⟨u2,i3⟩=>(u2,i3)) hS0 h ?_ ?_
 rintro ⟨u2,i3⟩ wx3 hS4 hT5 h
 try dsimp only at h
 refine Ai<|Ae<|Ab I<|Ac (FV.geqU (a:=u2) (b:=(65536:Ua)) I I)<|Aa<|MX.jo (α:=Ua×Int) (fun ⟨b0,d0⟩=>[(0,vU b0),(2,vI d0)]) (fun ⟨b0,d0⟩=>[]) (fun ⟨b0,d0⟩=>(b0,d0)) hS4 h ?_ ?_
 rintro ⟨b0,d0⟩ J0 j0 F0 h
 try dsimp only at h
 refine Ai<|Ae<|Ab I<|Ac (FV.geqU (a:=b0) (b:=(256:Ua)) I I)<|Aa<|MX.jo (α:=Ua×Int) (fun ⟨c0,g0⟩=>[(0,vU c0),(2,vI g0)]) (fun ⟨c0,g0⟩=>[]) (fun ⟨c0,g0⟩=>(c0,g0)) j0 h ?_ ?_
 rintro ⟨c0,g0⟩ K0 v0 G0 h
 try dsimp only at h
 refine Ae<|Ab I<|Ab I<|Ac (FV.conv8 (a:=c0) underlying44 underlying5 I)<|bk h fun k0 A0 h=>Ac (FV.strIdx (k:=(dC c0).toNat) (tab:=ct) underlying9 I I I I A0) ?_
 have H0:=k0.toNat_lt
 refine Ac (FV.convN (i:=k0.toNat) underlying5 underlying3 I (by omega))<|bk h fun I0 x0 h=>Ac (Bu (i:=g0) (j:=((k0.toNat:Nat):Int)) I I x0)<|Af I<|Aa<|Ap I<|AV hb0 func79 I I ?_
 cases h
 exact v0.gv
 intro E0 q0 h
 try dsimp only at h
 refine AO I h (fun s0 h=>?_) (fun s0 h=>?_)
 refine Ae<|Ab I<|Ac (FV.shrU (a:=b0) (j:=8) I I)<|Af I<|Aa<|Ak<|Ab I<|bk h fun B0 y0 h=>Ac (Bu (i:=d0) (j:=8) I I y0)<|Af I<|Aa<|q0 (shrU b0 8,B0) j0 (By _ _) h
 refine Am<|q0 (b0,d0) j0 (By _ _) h
 intro D0 p0 h
 try dsimp only at h
 refine AO I h (fun t0 h=>?_) (fun t0 h=>?_)
 refine Ae<|Ab I<|Ac (FV.shrU (a:=u2) (j:=16) I I)<|Af I<|Aa<|Ak<|Ab I<|bk h fun C0 z0 h=>Ac (Bu (i:=((i3:Nat):Int)) (j:=16) I I z0)<|Af I<|Aa<|p0 (shrU u2 16,C0) hS4 (By _ _) h
 refine Am<|p0 (u2,((i3:Nat):Int)) hS4 (By _ _) h
 intro J7 hJ8 h
 try dsimp only at h
 refine AO I h (fun u0 h=>?_) (fun u0 h=>?_)
 refine Ae<|Ab I<|Ac (FV.shrU (a:=a0) (j:=32) I I)<|Af I<|Aa<|Ak<|Af I<|Aa<|hJ8 (shrU a0 32,32) hS0 (By _ _) h
 refine Am<|hJ8 (a0,0) hS0 (By _ _) h
def bO_p (n:Nat) (a0:Ua):Oa Int:=
  (aO_p n a0).bind fun y1=>some y1
theorem bO_c (n:Nat) {L w} (hL:hl L w) (a0:Ua)  {r:Int} (h:bO_p n a0=some r) :
 Cl 46 #[vU a0] w (aj w fun _ u=>u=vI r):=by
 unfold bO_p at h
 have hS0:=AI w
 refine AJ func46 I I I fun _ cs0 hb0=>Ae<|Af I<|Aa<|Ai<|Bn I<|Am<|Ae<|Ab I<|bk h fun y1 hy1 h=>Bz (vI y1) (bd 79) I (e1 I) (fun w9 hw9=>aO_c n (hS0.hL0 hL hw9) a0 hy1) I<|Af I<|Aa<|Ap I<|AV hb0 func46 I I ?_
 cases h
 exact hS0.gv
def cd_p (_n:Nat) (a0:Int):Oa Bool:=
  some (!(decide (a0=a0)))
theorem cd_c (n:Nat) {L w} (_hL:hl L w) {a0:Int}  {r:Bool} (h:cd_p n a0=some r) :
 Cl 80 #[vI a0] w (aj w fun _ u=>u=.bool r):=by
 unfold cd_p at h
 have hS0:=AI w
 refine AJ func80 I I I fun _ cs0 hb0=>Ae<|Af I<|Aa<|Ae<|Ab I<|Ab I<|Ac (FV.neq (i:=a0) (j:=a0) I I)<|Af I<|Aa<|Ap I<|AV hb0 func80 I I ?_
 cases h
 exact hS0.gv
def bJ_p (n:Nat) (a0:Int) (a1:Int):Oa Int:=
  (cd_p n a0).bind fun y1=>(cd_p n a1).bind fun y2=>(if y1=true then (if y2=true then some (0:Int) else some (-1:Int)) else (if y2=true then some (1:Int) else (if a0<a1 then some (-1:Int) else (if a1<a0 then some (1:Int) else some (0:Int)))))
theorem bJ_c (n:Nat) {L w} (hL:hl L w) {a0:Int} {a1:Int}  {r:Int} (h:bJ_p n a0 a1=some r) :
 Cl 47 #[vI a0,vI a1] w (aj w fun _ u=>u=vI r):=by
 unfold bJ_p at h
 have hS0:=AI w
 refine AJ func47 I I I fun _ cs0 hb0=>Ae<|Af I<|Aa<|Ae<|Ab I<|bk h fun y1 hy1 h=>Bz (.bool y1) (bd 80) I (e1 I) (fun w9 hw9=>cd_c n (hS0.hL0 hL hw9)  hy1) I<|Af I<|Aa<|Ae<|Ab I<|bk h fun y2 hy2 h=>Bz (.bool y2) (bd 80) I (e1 I) (fun w9 hw9=>cd_c n (hS0.hL0 hL hw9)  hy2) I<|Af I<|Aa<|Ai<|Ae<|Ab I<|Aa<|MX.ifb I h (fun c3 h=>?_) (fun c3 h=>?_)
 refine Ai<|Ae<|Ab I<|Aa<|MX.ifb I h (fun c4 h=>?_) (fun c4 h=>?_)
 refine Ae<|Af I<|Aa<|Ap I<|AV hb0 func47 I I ?_
 cases h
 exact hS0.gv
 refine Am<|Ae<|Af I<|Aa<|Ap I<|AV hb0 func47 I I ?_
 cases h
 exact hS0.gv
 refine Am<|Ai<|Ae<|Ab I<|Aa<|MX.ifb I h (fun c5 h=>?_) (fun c5 h=>?_)
 refine Ae<|Af I<|Aa<|Ap I<|AV hb0 func47 I I ?_
 cases h
 exact hS0.gv
 refine Am<|Ai<|Ae<|Ab I<|Ab I<|Ac (BR (i:=a0) (j:=a1) I I)<|Aa<|AO I h (fun c6 h=>?_) (fun c6 h=>?_)
 refine Ae<|Af I<|Aa<|Ap I<|AV hb0 func47 I I ?_
 cases h
 exact hS0.gv
 refine Am<|Ai<|Ae<|Ab I<|Ab I<|Ac (FV.gtr (i:=a0) (j:=a1) I I)<|Aa<|AO I h (fun c7 h=>?_) (fun c7 h=>?_)
 refine Ae<|Af I<|Aa<|Ap I<|AV hb0 func47 I I ?_
 cases h
 exact hS0.gv
 refine Am<|Ae<|Af I<|Aa<|Ap I<|AV hb0 func47 I I ?_
 cases h
 exact hS0.gv
def aI_l1 (n:Nat) (a0:Lb Int) (a1:Lb Int) (d0:Nat->Oa (Int⊕Unit)):Nat->Oa (Int⊕Unit)
  | b0=>(if b0<a0.length then (a0[b0]?).bind fun g0=>(if a1.length<=b0 then some (.inl (1:Int)) else (a1[b0]?).bind fun j0=>(bJ_p n g0 j0).bind fun c0=>(if c0=0 then d0 (b0+1) else some (.inl c0))) else some (.inr ()))
def aI_p (n:Nat) (a0:Lb Int) (a1:Lb Int):Oa Int:=
  thn (ah (aI_l1 n a0 a1) n 0) (fun _=>(if a0.length<a1.length then some (-1:Int) else some (0:Int)))
theorem aI_c (n:Nat) {L w} (hL:hl L w) {a0:Lb Int} {v0_0:Vc} (h0_0:Rep.R w L [v0_0] a0) {a1:Lb Int} {v1_0:Vc} (h1_0:Rep.R w L [v1_0] a1)  {r:Int} (h:aI_p n a0 a1=some r) :
 Cl 116 #[v0_0,v1_0] w (aj w fun _ u=>u=vI r):=by
 unfold aI_p at h
 refine AJ func116 I I I fun _ cs0 hb0=>Ae<|Af I<|Aa<|Ai<|Ae<|Ab I ?_
 have hl1:=AY h0_0
 refine Ac (Bf (xs:=a0) underlying33 I h0_0)<|Ab I<|Aa<|Aq<|tn h fun c1 H0 d0=>MX.lo (α:=Nat) (fun b0=>[(0,v0_0),(1,v1_0),(9,v0_0),(10,vn a0.length),(11,vn b0)]) (fun b0=>[]) (fun b0=>b0) 0 H0 (AI w) ?_
 rintro W0 b0 d1 x0 c0 y0 h
 unfold aI_l1 at h
 try dsimp only at h
 refine Ae<|Ac (Bp (i:=b0) (j:=a0.length) I I)<|Aa<|Ai<|AO I h (fun p0 h=>?_) (fun p0 h=>?_)
 refine Am<|Ai<|Aq<|Ae<|Ab I<|bk h fun Q0 K0 h=>?_
 obtain ⟨U0,X0,z0,D0,u0,I0,F0⟩:=Bq (AH h0_0 c0) K0
 have A0:u0=[vI Q0]:=I0; subst A0
 refine Ac (AU 1 b0 I z0 I I D0)<|AG I (F0 0 _ I)<|Af I<|Af I<|Aa<|Ai<|Ae<|Ab I<|Ab I ?_
 have g0:=AH h1_0 c0
 have Z0:=AY g0
 refine Ac (Bf (xs:=a1) underlying33 I g0)<|Ac (FV.geqN (i:=b0) (j:=a1.length) I I)<|Aa<|AO I h (fun q0 h=>?_) (fun q0 h=>?_)
 refine Ae<|Af I<|Aa ?_
 have h:=aO h d0
 refine Ap I<|AV hb0 func116 I I ?_
 cases h
 exact c0.gv
 refine Am<|Ae<|Ab I<|Ab I<|bk h fun R0 M0 h=>?_
 obtain ⟨V0,Y0,B0,E0,v0,J0,G0⟩:=Bq g0 M0
 have C0:v0=[vI R0]:=J0; subst C0
 refine Ac (AU 1 b0 I B0 I I E0)<|AG I (G0 0 _ I)<|Af I<|Aa<|Ae<|Ab I<|Ab I<|bk h fun k0 P0 h=>Bz (vI k0) (bd 47) I (e2 I I) (fun w9 hw9=>bJ_c n (c0.hL0 hL hw9)  P0) I<|Af I<|Aa<|Ae<|Ab I<|Ac (FV.neq (i:=k0) (j:=0) I I)<|Aa<|MX.ifn I h (fun s0 h=>?_) (fun s0 h=>?_)
 refine Am<|Ao<|Ak<|Ac (AW (i:=b0) (j:=1) I I (by omega))<|Ab I<|Aa<|x0 (b0+1) c0 y0 h
 refine Ae<|Ab I<|Af I<|Aa ?_
 have h:=aO h d0
 refine Ap I<|AV hb0 func116 I I ?_
 cases h
 exact c0.gv
 refine AT I ?_
 have h:=bD h d0
 try dsimp only at h
 refine Ai<|Ae<|Ab I<|Ac (Bf (xs:=a0) underlying33 I (AH h0_0 c0))<|Ab I ?_
 have j0:=AH h1_0 c0
 have b1:=AY j0
 refine Ac (Bf (xs:=a1) underlying33 I j0)<|Ac (Bp (i:=a0.length) (j:=a1.length) I I)<|Aa<|AO I h (fun t0 h=>?_) (fun t0 h=>?_)
 refine Ae<|Af I<|Aa<|Ap I<|AV hb0 func116 I I ?_
 cases h
 exact c0.gv
 refine Am<|Ae<|Af I<|Aa<|Ap I<|AV hb0 func116 I I ?_
 cases h
 exact c0.gv
def aQ_l1 (n:Nat) (a0:Tc) (d0:Nat×Int×Int->Oa (Int⊕Unit)):Nat×Int×Int->Oa (Int⊕Unit)
  | (c0,j0,k0)=>(if c0<a0.fo.length then (a0.fo[c0]?).bind fun b0=>(if b0.1<0 then some (.inl (180:Int)) else (if b0.2<=b0.1 then some (.inl (180:Int)) else (if a0.fN<=b0.2 then some (.inl (180:Int)) else (aI_p n ([j0,k0]:Lb Int) ([b0.1,b0.2]:Lb Int)).bind fun g0=>(if 0<=g0 then some (.inl (180:Int)) else d0 (c0+1,b0.1,b0.2))))) else some (.inr ()))
def aQ_p (n:Nat) (a0:Tc):Oa Int:=
  (if a0.fN<1 then some (180:Int) else (if 64<a0.fN then some (180:Int) else (if 200<a0.fo.length then some (180:Int) else thn (ah (aQ_l1 n a0) n (0,(-1),(-1))) (fun _=>some (0:Int)))))
theorem aQ_c (n:Nat) {L w} (hL:hl L w) (a0:Tc) {v0_1:Vc} (h0_1:Rep.R w L [v0_1] a0.fo)  {r:Int} (h:aQ_p n a0=some r) :
 Cl 83 #[.agg #[vI a0.fN,v0_1]] w (aj w fun _ u=>u=vI r):=by
 unfold aQ_p at h
 refine AJ func83 I I I fun _ cs0 hb0=>Ae<|RG.bx (AI w) I I fun B1 x0 p0 v1=>Af I<|Aa<|Ai<|Ae<|Bh 0 I<|AG I ((p0.memA .hd) 0 _ I)<|Ac (BR (i:=a0.fN) (j:=1) I I)<|Ab I<|BD (s:=9) I h (fun G0 h=>?_) (fun G0 h=>?_)
 refine Aj<|Aj<|Aj<|Bm I I<|Ab I<|Aj<|Aj<|Aj<|Aj<|Bm I I<|Aa<|Ba I<|Ae<|Af I<|Aa<|Ap I<|AV hb0 func83 I I ?_
 cases h
 exact p0.gv
 refine RG.fg 0 I<|Au (Ay I ((p0.memA .hd) 0 _ I))<|Au (FV.gtr (i:=a0.fN) (j:=64) I I)<|Bo I I<|Ab I<|BD (s:=14) I h (fun H0 h=>?_) (fun H0 h=>?_)
 refine Aj<|Aj<|Aj<|Aj<|Bm I I<|Aa<|Ba I<|Ae<|Af I<|Aa<|Ap I<|AV hb0 func83 I I ?_
 cases h
 exact p0.gv
 refine RG.fg 1 I<|Au (Ay I ((p0.memA .hd) 1 _ I)) ?_
 have y0:=AH h0_1 p0
 have z1:=AY y0
 refine Au (Bf (xs:=a0.fo) underlying30 I y0)<|Au (FV.gtrN (i:=a0.fo.length) (j:=200) I I)<|Bo I I<|Aa<|AO I h (fun I0 h=>?_) (fun I0 h=>?_)
 refine Ae<|Af I<|Aa<|Ap I<|AV hb0 func83 I I ?_
 cases h
 exact p0.gv
 refine Am<|Ae<|Ac (Bj (vs:=[vI (-1),vI (-1)]) (u:=.agg #[vI (-1),vI (-1)]) (e2 I I) (fun w9=>by kernel_rfl))<|RG.nl [vI 0,vI 0] p0 fun F1 t0 Q0 x1=>Bl [vI (-1),vI (-1)] Q0 .hd (aC I) fun G1 v0 y1=>Aa<|Ai<|Ae<|Bh 1 I<|AG I ((v0.memA .t1) 1 _ I)<|Ac (Bf (xs:=a0.fo) underlying30 I (AH h0_1 v0))<|Ab I<|Aa<|Aq<|tn h fun A1 c1 s0=>MX.lo (α:=Nat×Int×Int) (fun ⟨j0,q0,k0⟩=>[(1,vP x0),(3,vP t0),(22,v0_1),(23,vn a0.fo.length),(24,vn j0)]) (fun ⟨j0,q0,k0⟩=>[.cells t0 [vI q0,vI k0] 59,.cells x0 [vI a0.fN,v0_1] 32]) (fun ⟨j0,q0,k0⟩=>(j0,q0,k0)) (0,(-1),(-1)) c1 v0 ?_
 rintro q1 ⟨j0,q0,k0⟩ H1 J0 u0 R0 h
 unfold aQ_l1 at h
 try dsimp only at h
 refine Ae<|Ac (Bp (i:=j0) (j:=a0.fo.length) I I)<|Aa<|Ai<|AO I h (fun B0 h=>?_) (fun B0 h=>?_)
 refine Am<|Ai<|Aq<|Ae<|bk h fun d0 j1 h=>?_
 obtain ⟨p1,s1,Y0,Z0,u1,g1,b1⟩:=Bq (AH h0_1 u0) j1
 obtain rfl:=dx g1
 refine Ac (AU 2 j0 I Y0 I I Z0)<|Ac (AP I b1)<|RG.nl [vI 0,vI 0] u0 fun C1 A0 K0 U0=>Bl [vI d0.1,vI d0.2] K0 .hd (aC I) fun D1 g0 V0=>Aa<|Ai<|Ai<|du 23 fun b0 c0=>Rv 0 b0 I c0 (fun _=>AC (m:=1) (k:=0) (len:=2) I I I I (by omega))<|Rx 1 8388604 b0 I c0 (Ay I ((g0.memA .hd) 0 _ I))<|Rv 2 b0 I c0 (fun _=>BR (i:=d0.1) (j:=0) I I)<|Rv 3 b0 I c0 (fun _=>Ah I)<|RD.ifd (s:=31) I h (fun C0 h=>?_) (fun C0 h=>?_)
 refine RD.offs 511 14 [(4,32),(5,33),(6,34),(7,35),(8,36)] (F:=[(31,true)]) (U:=[]) b0 c0 (.cons I .nil) .nil ?_
 dsimp only [gl,List.map]
 refine Rv 9 b0 I c0 (fun _=>BJ I I)<|Rv 10 b0 I c0 (fun _=>Ah I)<|RD.offs 65535 7 [(11,39),(12,40),(13,41),(14,42),(15,43)] (F:=[(38,true)]) (U:=[]) b0 c0 (.cons I .nil) .nil ?_
 dsimp only [gl,List.map]
 refine Rv 16 b0 I c0 (fun _=>BJ I I)<|Rv 17 b0 I c0 (fun _=>Ah I)<|RD.offs 4194303 1 [(18,46),(19,47),(20,48),(21,49)] (F:=[(45,true)]) (U:=[]) b0 c0 (.cons I .nil) .nil ?_
 dsimp only [gl,List.map]
 refine Rv 22 b0 I c0 (fun _=>BJ I I)<|AQ (dk b0)<|Ba I<|Ae<|Af I<|Aa ?_
 have h:=aO h s0
 refine Ap I<|AV hb0 func83 I I ?_
 cases h
 exact g0.gv
 refine RD.vP 4 31 b0 I c0 (.yes I I) (fun _=>AC (m:=1) (k:=0) (len:=2) I I I I (by omega)) I<|RD.val (i:=5) (m' :=63) (W:=8388352) (tk b0) I c0 (.yes I I) (Ay I ((g0.memA .hd) 0 _ I)) I<|RD.vP 6 127 b0 I c0 (.yes I I) (fun _=>AC (m:=1) (k:=1) (len:=2) I I I I (by omega)) I<|RD.val (i:=7) (m' :=255) (W:=8388352) (tk b0) I c0 (.yes I I) (Ay I ((g0.memA .hd) 1 _ I)) I<|RD.vP 8 511 b0 I c0 (.yes I I) (fun _=>FV.geq (i:=d0.1) (j:=d0.2) I I) I<|Rv 9 b0 I c0 (fun _=>BS I I)<|Rv 10 b0 I c0 (fun _=>Ah I)<|RD.ifd (s:=38) I h (fun D0 h=>?_) (fun D0 h=>?_)
 refine RD.offs 65535 7 [(11,39),(12,40),(13,41),(14,42),(15,43)] (F:=[(38,true)]) (U:=[]) b0 c0 (.cons I .nil) .nil ?_
 dsimp only [gl,List.map]
 refine Rv 16 b0 I c0 (fun _=>BJ I I)<|Rv 17 b0 I c0 (fun _=>Ah I)<|RD.offs 4194303 1 [(18,46),(19,47),(20,48),(21,49)] (F:=[(45,true)]) (U:=[]) b0 c0 (.cons I .nil) .nil ?_
 dsimp only [gl,List.map]
 refine Rv 22 b0 I c0 (fun _=>BJ I I)<|AQ (dk b0)<|Ba I<|Ae<|Af I<|Aa ?_
 have h:=aO h s0
 refine Ap I<|AV hb0 func83 I I ?_
 cases h
 exact g0.gv
 refine RD.vP 11 4095 b0 I c0 (.yes I I) (fun _=>AC (m:=1) (k:=1) (len:=2) I I I I (by omega)) I<|RD.val (i:=12) (m' :=8191) (W:=8355840) (tk b0) I c0 (.yes I I) (Ay I ((g0.memA .hd) 1 _ I)) I<|RD.vP 13 16383 b0 I c0 (.yes I I) (fun _=>Bv 0 I) I<|RD.val (i:=14) (m' :=32767) (W:=8355840) (tk b0) I c0 (.yes I I) (Ay I ((g0.memA .t2) 0 _ I)) I<|RD.vP 15 65535 b0 I c0 (.yes I I) (fun _=>FV.geq (i:=d0.2) (j:=a0.fN) I I) I<|Rv 16 b0 I c0 (fun _=>BS I I)<|Rv 17 b0 I c0 (fun _=>Ah I)<|RD.ifd (s:=45) I h (fun E0 h=>?_) (fun E0 h=>?_)
 refine RD.offs 4194303 1 [(18,46),(19,47),(20,48),(21,49)] (F:=[(45,true)]) (U:=[]) b0 c0 (.cons I .nil) .nil ?_
 dsimp only [gl,List.map]
 refine Rv 22 b0 I c0 (fun _=>BJ I I)<|AQ (dk b0)<|Ba I<|Ae<|Af I<|Aa ?_
 have h:=aO h s0
 refine Ap I<|AV hb0 func83 I I ?_
 cases h
 exact g0.gv
 refine RD.val (i:=18) (m' :=524287) (W:=7340032) (tk b0) rfl c0 (.yes rfl rfl) (FV.sliceA (len:=2) (m:=1) (p:=⟨t0,0,none⟩) rfl rfl) rfl<|RD.val (i:=19) (m' :=1048575) (W:=7340032) (tk b0) rfl c0 (.yes rfl rfl) (FV.sliceA (len:=2) (m:=1) (p:=⟨A0,0,none⟩) rfl rfl) rfl<|bk h fun z0 k1 h=>RD.callq (i:=20) (m' :=2097151) (W:=6291456) (tk b0) rfl c0 (v:=vI z0) (fst:=[]) (cap:=[]) (.yes rfl rfl) (bd 116) rfl (e2 rfl rfl) (fun w9 hw9=>aI_c n (g0.hL0 hL hw9) (Ax (St.lendA (L:=L) g0 .t1 (AD (cs:=[vI q0,vI k0]) (xs:=(([q0,k0]:Lb Int):Lb Int)) g0 L (AE (cs:=[vI q0]) (ds:=[vI k0]) rfl (AE (cs:=[vI k0]) (ds:=[]) rfl (AK _ _)))) hL (by unfold jw; simp)) hw9) (Ax (St.lendA (L:=L) g0 .hd (AD (cs:=[vI d0.1,vI d0.2]) (xs:=(([d0.1,d0.2]:Lb Int):Lb Int)) g0 L (AE (cs:=[vI d0.1]) (ds:=[vI d0.2]) rfl (AE (cs:=[vI d0.2]) (ds:=[]) rfl (AK _ _)))) hL (by unfold jw; simp)) hw9) k1) rfl<|RD.vP 21 4194303 b0 rfl c0 (.yes rfl rfl) (fun _=>FV.geq (i:=z0) (j:=0) rfl rfl) rfl<|Rv 22 b0 rfl c0 (fun _=>BS rfl rfl)<|AQ (dk b0)<|AO rfl h (fun F0 h=>?_) (fun F0 h=>?_)
 refine Ae<|Af I<|Aa ?_
 have h:=aO h s0
 refine Ap I<|AV hb0 func83 I I ?_
 cases h
 exact g0.gv
 refine Am<|Ak<|Ac (AP I (g0.memA .hd))<|Bl [vI d0.1,vI d0.2] g0 .t1 (aC I) fun E1 M0 W0=>Aa<|Ao<|Ak<|Ac (AW (i:=j0) (j:=1) I I (by omega))<|Ab I<|Aa ?_
 obtain ⟨P0,X0⟩:=AX M0 .d1
 exact J0 (j0+1,d0.1,d0.2) P0 (Tt R0 (Tt U0 (Tt V0 (Tt W0 X0)))) h
 refine AT I ?_
 have h:=bD h s0
 try dsimp only at h
 refine Ae<|Af I<|Aa<|Ap I<|AV hb0 func83 I I ?_
 cases h
 exact u0.gv
def cm_p (_n:Nat) (a0:Int):Oa Bool:=
  (if a0<0 then some true else some (decide (1000000000<a0)))
theorem cm_c (n:Nat) {L w} (_hL:hl L w) {a0:Int}  {r:Bool} (h:cm_p n a0=some r) :
 Cl 88 #[vI a0] w (aj w fun _ u=>u=.bool r):=by
 unfold cm_p at h
 have hS0:=AI w
 refine AJ func88 I I I fun _ cs0 hb0=>Ae<|Af I<|Aa<|Ae<|Ab I<|Ac (BR (i:=a0) (j:=0) I I)<|Ab I<|BD (s:=5) I h (fun c1 h=>?_) (fun c1 h=>?_)
 refine Aj<|Aj<|Bm I I<|Af I<|Aa<|Ap I<|AV hb0 func88 I I ?_
 cases h
 exact hS0.gv
 refine Au (Ah I)<|Au (FV.gtr (i:=a0) (j:=1000000000) I I)<|Bo I I<|Af I<|Aa<|Ap I<|AV hb0 func88 I I ?_
 cases h
 exact hS0.gv
def bS_l1 (n:Nat) (a1:Td) (c0:Nat->Oa (Int⊕Unit)):Nat->Oa (Int⊕Unit)
  | b0=>(if b0<a1.fu.length then (a1.fu[b0]?).bind fun d0=>(cm_p n d0).bind fun g0=>(if g0=true then ((if 0<=b0 then some (320:Int) else some (0:Int))).map .inl else c0 (b0+1)) else some (.inr ()))
def bS_p (n:Nat) (a0:Tc) (a1:Td):Oa Int:=
  (aQ_p n a0).bind fun b0=>(if b0=0 then (if ((a1.fu.length:Nat):Int)=a0.fN then (if a1.fm<0 then some (320:Int) else (if a1.fh<a1.fm then some (320:Int) else (if a1.fc<1 then some (320:Int) else (if 8<a1.fc then some (320:Int) else thn (ah (bS_l1 n a1) n 0) (fun _=>(if 0<=(-1) then some (320:Int) else some (0:Int))))))) else some (320:Int)) else some b0)
theorem bS_c (n:Nat) {L w} (hL:hl L w) (a0:Tc) {v0_1:Vc} (h0_1:Rep.R w L [v0_1] a0.fo) (a1:Td) {v1_0:Vc} (h1_0:Rep.R w L [v1_0] a1.fu)  {r:Int} (h:bS_p n a0 a1=some r) :
 Cl 61 #[.agg #[vI a0.fN,v0_1],.agg #[v1_0,vI a1.fm,vI a1.fh,vI a1.fc]] w (aj w fun _ u=>u=vI r):=by
 unfold bS_p at h
 refine AJ func61 I I I fun _ cs0 hb0=>Ae<|RG.bx (AI w) I I fun x1 t0 I0 k1=>RG.bx I0 I I fun y1 u0 b0 p1=>Af I<|Aa<|Ai<|Ae<|Ac (AP I (b0.memA .t1))<|bk h fun s0 W0 h=>Bz (vI s0) (bd 83) I (e1 I) (fun w9 hw9=>aQ_c n (b0.hL0 hL hw9) a0 (b0.k0 h0_1 hw9) W0) I<|Af I<|Aa<|Ae<|Ab I<|Ac (FV.neq (i:=s0) (j:=0) I I)<|Aa<|MX.ifn I h (fun v0 h=>?_) (fun v0 h=>?_)
 refine Am<|Ai<|Ai<|Ak<|Bh 0 I<|AG I ((b0.memA .hd) 0 _ I) ?_
 have g0:=AH h1_0 b0
 have q1:=AY g0
 refine Ac (Bf (xs:=a1.fu) underlying33 I g0)<|Bh 0 I<|AG I ((b0.memA .t1) 0 _ I)<|Ac (FV.neq (i:=((a1.fu.length:Nat):Int)) (j:=a0.fN) I I)<|Ab I<|RG.ifn (s:=17) I h (fun x0 h=>?_) (fun x0 h=>?_)
 refine RG.fg 1 I<|Au (Ay I ((b0.memA .hd) 1 _ I))<|Au (BR (i:=a1.fm) (j:=0) I I)<|Bo I I<|Ab I<|BD (s:=22) I h (fun y0 h=>?_) (fun y0 h=>?_)
 refine Aj<|Aj<|Aj<|Aj<|Aj<|Bm I I<|Ab I<|Aj<|Aj<|Aj<|Bm I I<|Ab I<|Aj<|Aj<|Aj<|Bm I I<|Aa<|Ba I<|Ae<|Af I<|Aa<|Ap I<|AV hb0 func61 I I ?_
 cases h
 exact b0.gv
 refine RG.fg 1 I<|Au (Ay I ((b0.memA .hd) 1 _ I))<|RG.fg 2 I<|Au (Ay I ((b0.memA .hd) 2 _ I))<|Au (FV.gtr (i:=a1.fm) (j:=a1.fh) I I)<|Bo I I<|Ab I<|BD (s:=29) I h (fun z0 h=>?_) (fun z0 h=>?_)
 refine Aj<|Aj<|Aj<|Bm I I<|Ab I<|Aj<|Aj<|Aj<|Bm I I<|Aa<|Ba I<|Ae<|Af I<|Aa<|Ap I<|AV hb0 func61 I I ?_
 cases h
 exact b0.gv
 refine RG.fg 3 I<|Au (Ay I ((b0.memA .hd) 3 _ I))<|Au (BR (i:=a1.fc) (j:=1) I I)<|Bo I I<|Ab I<|BD (s:=34) I h (fun A0 h=>?_) (fun A0 h=>?_)
 refine Aj<|Aj<|Aj<|Bm I I<|Aa<|Ba I<|Ae<|Af I<|Aa<|Ap I<|AV hb0 func61 I I ?_
 cases h
 exact b0.gv
 refine RG.fg 3 I<|Au (Ay I ((b0.memA .hd) 3 _ I))<|Au (FV.gtr (i:=a1.fc) (j:=8) I I)<|Bo I I<|Aa<|AO I h (fun B0 h=>?_) (fun B0 h=>?_)
 refine Ae<|Af I<|Aa<|Ap I<|AV hb0 func61 I I ?_
 cases h
 exact b0.gv
 refine Am<|Ai<|Ae<|Bh 0 I<|AG I ((b0.memA .hd) 0 _ I)<|BB (fst:=[]) (cap:=[]) (vs:=[v1_0,.func (.func 88) #[] #[]]) .plain (bd 84) func84 I I I I (e2 I I) I fun g1 j0 s1=>Ae<|Af I<|Aa<|Ae<|Ab I<|Ab I<|BB (fst:=[]) (cap:=[]) (vs:=[v1_0,.func (.func 88) #[] #[]]) .plain (bd 117) func117 I I I I (e2 I I) I fun j1 p0 u1=>Ae<|Af I<|Aa<|Ai<|Ae<|Ab I<|Ac (Bf (xs:=a1.fu) underlying33 I g0)<|Ab I<|Aa<|Aq<|tn h fun v1 R0 q0=>MX.lo (α:=Nat) (fun c0=>[(0,v1_0),(1,.func (.func 88) #[] #[]),(7,vn a1.fu.length),(8,vn c0)]) (fun c0=>[.cells u0 [v1_0,vI a1.fm,vI a1.fh,vI a1.fc] 35,.cells t0 [vI a0.fN,v0_1] 32]) (fun c0=>c0) 0 R0 b0 ?_
 rintro c1 c0 z1 H0 d0 J0 h
 unfold bS_l1 at h
 try dsimp only at h
 refine Ae<|Ac (Bp (i:=c0) (j:=a1.fu.length) I I)<|Aa<|Ai<|AO I h (fun C0 h=>?_) (fun C0 h=>?_)
 refine Am<|Ai<|Aq<|Ae<|Ab I<|Af I<|Aa<|Ae<|Ab I<|Ab I<|Ab I<|bk h fun Y0 V0 h=>?_
 obtain ⟨b1,d1,K0,P0,G0,U0,Q0⟩:=Bq (AH h1_0 d0) V0
 have M0:G0=[vI Y0]:=U0; subst M0
 refine Ac (AU 1 c0 I K0 I I P0)<|AG I (Q0 0 _ I)<|bk h fun Z0 X0 h=>Bz (.bool Z0) (bd 88) I (e1 I) (fun w9 hw9=>cm_c n (d0.hL0 hL hw9)  X0) I<|Aa<|MX.ifb I h (fun D0 h=>?_) (fun D0 h=>?_)
 refine Ae<|Ab I<|Af I<|Aa ?_
 have h:=jg h q0
 refine Ap I<|Aw (u:=vn c0) p0 func117 I (.cons (.tmp I) .nil) I<|Ac (FV.geqN (i:=c0) (j:=0) I I)<|Af I<|Aa<|Ap I<|Aw (u:=.bool (decide (0<=c0))) j0 func84 I (.cons (.tmp I) .nil) I<|Aa<|AO I h (fun E0 h=>?_) (fun E0 h=>?_)
 refine Ae<|Af I<|Aa<|Ap I<|AV hb0 func61 I I ?_
 cases h
 exact d0.gv
 refine Am<|Ae<|Af I<|Aa<|Ap I<|AV hb0 func61 I I ?_
 cases h
 exact d0.gv
 refine Am<|Ao<|Ak<|Ac (AW (i:=c0) (j:=1) I I (by omega))<|Ab I<|Aa<|H0 (c0+1) d0 J0 h
 refine AT I ?_
 have h:=bD h q0
 try dsimp only at h
 refine Ae<|Af I<|Aa<|Ap I<|Aw (u:=vI (-1)) p0 func117 I (.cons (.tmp I) .nil) I<|Ac (FV.geq (i:=(-1)) (j:=0) I I)<|Af I<|Aa<|Ap I<|Aw (u:=.bool (decide (0<=(-1)))) j0 func84 I (.cons (.tmp I) .nil) I<|Aa<|AO I h (fun F0 h=>?_) (fun F0 h=>?_)
 refine Ae<|Af I<|Aa<|Ap I<|AV hb0 func61 I I ?_
 cases h
 exact d0.gv
 refine Am<|Ae<|Af I<|Aa<|Ap I<|AV hb0 func61 I I ?_
 cases h
 exact d0.gv
 refine Aj<|Aj<|Aj<|Bm I I<|Ab I<|Aj<|Aj<|Aj<|Aj<|Aj<|Bm I I<|Ab I<|Aj<|Aj<|Aj<|Bm I I<|Ab I<|Aj<|Aj<|Aj<|Bm I I<|Aa<|Ba I<|Ae<|Af I<|Aa<|Ap I<|AV hb0 func61 I I ?_
 cases h
 exact b0.gv
 refine Ae<|Ab I<|Af I<|Aa<|Ap I<|AV hb0 func61 I I ?_
 cases h
 exact b0.gv
def bj_l1 (_n:Nat) (a1:Int) (j0:Lb Ua) (c0:Int->Oa (((Lb Ua)×Bool)⊕Unit)):Int->Oa (((Lb Ua)×Bool)⊕Unit)
  | b0=>(if b0<a1 then (idx j0 b0).bind fun g0=>(if g0=(0:Ua) then some (.inl (([]:Lb Ua),false)) else (chk (b0+1)).bind fun d0=>c0 d0) else some (.inr ()))
def bj_l2 (_n:Nat) (a0:Lb Int) (g0:Nat×(Lb Ua)->Oa (Lb Ua)):Nat×(Lb Ua)->Oa (Lb Ua)
  | (b0,c0)=>(if b0<a0.length then (a0[b0]?).bind fun d0=>(idx c0 d0).bind fun j0=>(put c0 ((d0.toNat:Nat):Int) (j0|||(shlU (1:Ua) b0))).bind fun k0=>g0 (b0+1,k0) else some c0)
def bj_p (n:Nat) (a0:Lb Int) (a1:Int):Oa ((Lb Ua)×Bool):=
  (mk a1 (0:Ua)).bind fun c0=>Option.bind (ah (bj_l2 n a0) n (0,c0)) (fun b0=>thn (ah (bj_l1 n a1 b0) n 0) (fun _=>some (b0,true)))
theorem bj_c (n:Nat) {L w} (hL:hl L w) {a0:Lb Int} {v0_0:Vc} (h0_0:Rep.R w L [v0_0] a0) {a1:Int}  {r:(Lb Ua)×Bool} (h:bj_p n a0 a1=some r) :
 Cl 119 #[v0_0,vI a1] w (aj w fun w' u=>∃ v0_0:Vc,u=.tuple #[v0_0,.bool r.2]/\Rep.R w' L [v0_0] r.1):=by
 unfold bj_p at h
 refine AJ func119 I I I fun _ cs0 hb0=>Ae<|Af I<|Af I<|Aa<|Ae<|Ab I<|bk h fun M0 H0 h=>Av .plain I (Does.mk (α:=Ua) H0 (AI w) bT I) fun x2 q0 x0 q2=>Af I<|Aa<|Ai<|Ae<|Ab I ?_
 have G0:=AH h0_0 x0
 have t2:=AY G0
 refine Ac (Bf (xs:=a0) underlying36 I G0)<|Ab I<|Aa<|Aq ?_
 obtain ⟨u2,E1,y1⟩:=ai h
 refine MX.lf (α:=Nat×(Lb Ua)×(Lb Vc)) (fun ⟨b0,d0,j0⟩=>[(1,vI a1),(6,(.slice (some ⟨q0,0,none⟩) a1.toNat a1.toNat)),(12,v0_0),(13,vn a0.length),(14,vn b0)]) (fun ⟨b0,d0,j0⟩=>[rr w 44 Ua (.slice (some ⟨q0,0,none⟩) a1.toNat a1.toNat) d0.length j0]) (fun ⟨b0,d0,j0⟩ I0=>Cells I0 (bl [rr w 44 Ua (.slice (some ⟨q0,0,none⟩) a1.toNat a1.toNat) d0.length j0]++L) j0 d0) (fun ⟨b0,d0,j0⟩=>(b0,d0)) (0,M0,(List.replicate a1.toNat [vW 0]).flatten) E1 x0 (AD (cs:=(List.replicate a1.toNat [vW 0]).flatten) (xs:=M0) x0 L (Cells.mk H0 I)) ?_
 rintro b2 ⟨b0,d0,j0⟩ I0 d1 s0 k1 t0 h
 unfold bj_l2 at h
 try dsimp only at h
 refine Ae<|Ac (Bp (i:=b0) (j:=a0.length) I I)<|Aa<|Ai<|AO I h (fun V0 h=>?_) (fun V0 h=>?_)
 refine Am<|Ai<|Aq<|Ae<|Ab I<|bk h fun v0 P1 h=>?_
 obtain ⟨Z1,d2,s1,A1,Y0,G1,B1⟩:=Bq (AH h0_0 s0) P1
 have t1:Y0=[vI v0]:=G1; subst t1
 refine Ac (AU 1 b0 I s1 I I A1)<|AG I (B1 0 _ I)<|Af I<|Af I<|Aa<|du 8 fun c0 k0=>Rv 0 c0 I k0 (fun _=>Ah I)<|Rv 1 c0 I k0 (fun _=>Ah I)<|bk h fun J0 Q1 h=>?_
 obtain ⟨E0,R1⟩:=ax Q1
 obtain ⟨P0,g2,u0,B0,Z0,H1,C1⟩:=BF (α:=Ua) s0 .hd t0 R1
 obtain ⟨R0,j2,C0⟩:=Bd (α:=Ua) s0 .hd B0
 obtain rfl:P0=⟨R0,0,none⟩:=by rw [C0] at u0; cases u0; rfl
 have u1:Z0=[vU J0]:=H1; subst u1
 refine Rv 2 c0 I k0 (fun _=>AU 1 (v0.toNat) I u0 I E0 B0)<|Rx 3 448 c0 I k0 (Ay I (C1 0 _ I))<|Rv 4 c0 I k0 (fun _=>Ah I)<|Rv 5 c0 I k0 (fun _=>FV.shlU (a:=(1:Ua)) (j:=b0) I I)<|Rv 6 c0 I k0 (fun _=>FV.orU (a:=J0) (b:=shlU (1:Ua) b0) I I)<|Rv 7 c0 I k0 (fun _=>AU 1 (v0.toNat) I u0 I E0 B0)<|bk h fun Y1 W1 h=>Bb (i:=8) (rk c0) (RO.acts (m' :=511) (sk c0) I I .plain (BE (α:=Ua) (i:=v0.toNat) W1 s0 C0 (fun _=>.hd) t0 I I I I I I) (fun y2 ⟨b1,j1,p1,q1⟩=>?_))
 refine AQ (dk c0)<|Ao<|Ak<|Ac (AW (i:=b0) (j:=1) I I (by omega))<|Ab I<|Aa<|d1 (b0+1,Y1,b1) j1 (Tt k1 p1) q1 h
 refine AT I ?_
 have h:=y1 _ h
 try dsimp only at h
 refine Ai<|Ae<|Ab I<|Ab I<|Aa<|Aq<|tn h fun v2 F1 D0=>MX.lo (α:=Int) (fun p0=>[(6,(.slice (some ⟨q0,0,none⟩) a1.toNat a1.toNat)),(28,vI a1),(29,vI p0)]) (fun p0=>[rr w 44 Ua (.slice (some ⟨q0,0,none⟩) a1.toNat a1.toNat) d0.length j0]) (fun p0=>p0) 0 F1 s0 ?_
 rintro c2 p0 z2 g1 g0 z0 h
 unfold bj_l1 at h
 try dsimp only at h
 refine Ae<|Ac (BR (i:=p0) (j:=a1) I I)<|Aa<|Ai<|AO I h (fun W0 h=>?_) (fun W0 h=>?_)
 refine Am<|Ai<|Aq<|Ae<|Ab I<|Af I<|Aa<|Ae<|Ab I<|Ab I<|bk h fun K0 U1 h=>?_
 obtain ⟨z1,V1⟩:=ax U1
 obtain ⟨Q0,k2,A0,F0,c1,I1,D1⟩:=BF (α:=Ua) g0 .hd (Ar t0 z0) V1
 obtain ⟨U0,p2,v1⟩:=Bd (α:=Ua) g0 .hd F0
 obtain rfl:Q0=⟨U0,0,none⟩:=by rw [v1] at A0; cases A0; rfl
 have x1:c1=[vU K0]:=I1; subst x1
 refine Ac (AU 1 (p0.toNat) I A0 I z1 F0)<|AG I (D1 0 _ I)<|Ac (FV.eqlU (a:=K0) (b:=(0:Ua)) I I)<|Aa<|AO I h (fun X0 h=>?_) (fun X0 h=>?_)
 refine Ae<|Af I<|Af I<|Aa ?_
 have h:=aO h D0
 refine Ap I ?_
 have J1:=BP (α:=Ua) g0 L
 refine Aw hb0 func119 I (.cons (.tmp I) (.cons (.tmp I) .nil)) I ?_
 cases h
 exact ⟨g0.ag,fun w9 hw9=>⟨vN,I,g0.kd J1 hw9⟩⟩
 refine Am<|Ao<|Ak<|bk h fun X1 M1 h=>Ac (Bu (i:=p0) (j:=1) I I M1)<|Ab I<|Aa<|g1 X1 g0 z0 h
 refine AT I ?_
 have h:=bD h D0
 try dsimp only at h
 refine Ae<|Ab I<|Af I<|Af I<|Aa<|Ap I ?_
 have y0:=BL g0 .hd
 have s2:=BM g0 .hd
 have K1:=BN (α:=Ua) (v:=(.slice (some ⟨q0,0,none⟩) a1.toNat a1.toNat)) (xs:=d0) y0 L (BA (α:=Ua) g0 .hd (Ar t0 z0) hL)
 refine Aw hb0 func119 I (.cons (.tmp I) (.cons (.tmp I) .nil)) I ?_
 cases h
 exact ⟨y0.ag,fun w9 hw9=>⟨(.slice (some ⟨q0,0,none⟩) a1.toNat a1.toNat),I,y0.kd K1 hw9⟩⟩
def ct_p (n:Nat) (a0:Tc) (a1:Lb Int) (a2:Int):Oa Int:=
  (aQ_p n a0).bind fun b0=>(if b0=0 then (if a2<1 then some (2:Int) else (if 8<a2 then some (2:Int) else (if ((a1.length:Nat):Int)=a0.fN then (bB_p n a1 a2).bind fun c0=>(if c0=true then (bj_p n a1 a2).bind fun d0=>(if d0.2=true then some (0:Int) else some (210:Int)) else some (210:Int)) else some (210:Int)))) else some b0)
theorem ct_c (n:Nat) {L w} (hL:hl L w) (a0:Tc) {v0_1:Vc} (h0_1:Rep.R w L [v0_1] a0.fo) {a1:Lb Int} {v1_0:Vc} (h1_0:Rep.R w L [v1_0] a1) {a2:Int}  {r:Int} (h:ct_p n a0 a1 a2=some r) :
 Cl 89 #[.agg #[vI a0.fN,v0_1],v1_0,vI a2] w (aj w fun _ u=>u=vI r):=by
 unfold ct_p at h
 refine AJ func89 I I I fun _ cs0 hb0=>Ae<|RG.bx (AI w) I I fun k1 Q0 j0 Y0=>Af I<|Aa<|Ae<|Ac (AP I (j0.memA .hd))<|Ab I<|Ab I<|BB (fst:=[]) (cap:=[]) (vs:=[.agg #[vI a0.fN,v0_1],v1_0,vI a2]) .plain (bd 118) func118 I I I I (e3 I I I) I fun X0 c0 g1=>Ae<|RG.bx j0 I I fun p1 R0 b0 Z0=>Af I<|Af I<|Aa<|Ai<|Ae<|Ac (AP I (b0.memA .hd))<|bk h fun g0 G0 h=>Bz (vI g0) (bd 83) I (e1 I) (fun w9 hw9=>aQ_c n (b0.hL0 hL hw9) a0 (b0.k0 h0_1 hw9) G0) I<|Af I<|Aa<|Ae<|Ab I<|Ac (FV.neq (i:=g0) (j:=0) I I)<|Aa<|MX.ifn I h (fun t0 h=>?_) (fun t0 h=>?_)
 refine Am<|Ai<|Ae<|Ab I<|Ac (BR (i:=a2) (j:=1) I I)<|Ab I<|BD (s:=18) I h (fun u0 h=>?_) (fun u0 h=>?_)
 refine Aj<|Aj<|Bm I I<|Aa<|Ba I<|Ae<|Af I<|Af I<|Aa<|Ap I<|Aw (u:=.tuple #[.pointer none,vI 2]) c0 func118 I (.cons (.tmp I) (.cons (.tmp I) .nil)) I<|Ab I<|Ac (Al I I)<|Ac (Al I I)<|Af I<|Af I<|Aa<|Ae<|Ab I<|Af I<|Aa<|Ap I<|AV hb0 func89 I I ?_
 cases h
 exact b0.gv
 refine Au (Ah I)<|Au (FV.gtr (i:=a2) (j:=8) I I)<|Bo I I<|Aa<|AO I h (fun v0 h=>?_) (fun v0 h=>?_)
 refine Ae<|Af I<|Af I<|Aa<|Ap I<|Aw (u:=.tuple #[.pointer none,vI 2]) c0 func118 I (.cons (.tmp I) (.cons (.tmp I) .nil)) I<|Ab I<|Ac (Al I I)<|Ac (Al I I)<|Af I<|Af I<|Aa<|Ae<|Ab I<|Af I<|Aa<|Ap I<|AV hb0 func89 I I ?_
 cases h
 exact b0.gv
 refine Am<|Ai<|Ae<|Ab I ?_
 have p0:=AH h1_0 b0
 have d1:=AY p0
 refine Ac (Bf (xs:=a1) underlying36 I p0)<|Bh 0 I<|AG I ((b0.memA .hd) 0 _ I)<|Ac (FV.neq (i:=((a1.length:Nat):Int)) (j:=a0.fN) I I)<|Ab I<|RG.ifn (s:=27) I h (fun x0 h=>?_) (fun x0 h=>?_)
 refine Au (Ah I)<|Au (Ah I)<|bk h fun J0 H0 h=>RG.callq' (v:=.bool J0) (fst:=[]) (cap:=[]) (.yes I I) (bd 43) I (e2 I I) (fun w9 hw9=>bB_c n (b0.hL0 hL hw9) (b0.k0 h1_0 hw9) H0) I<|Au (BV I)<|Bo I I<|Aa<|MX.ifnb I h (fun y0 h=>?_) (fun y0 h=>?_)
 refine Am<|Ae<|Ab I<|Ab I<|bk h fun u1 I0 h=>jE (bd 119) I (e2 I I) (fun w9 hw9=>bj_c n (b0.hL hL hw9) (b0.km h1_0 hw9) I0) I fun q1 j1 B0 ⟨q0,hu_,C0⟩=>?_
 subst hu_
 obtain ⟨d0,b1⟩:=b0.agr B0
 refine Ab I<|Ac (Al I I)<|Ac (Al I I)<|Af I<|Af I<|Aa<|Ai<|Ae<|Ab I<|Ac (BV I)<|Aa<|MX.ifnb I h (fun z0 h=>?_) (fun z0 h=>?_)
 refine Am<|Ae<|Ac (AP I (d0.memA .hd))<|Ab I<|Ab I ?_
 obtain ⟨K0,U0,D0,_⟩:=Rep.sl (AH h0_1 d0)
 obtain ⟨M0,V0,E0,_⟩:=Rep.sl (AH h1_0 d0)
 obtain ⟨P0,W0,F0,_⟩:=Rep.sl C0
 refine Ac (Bj (vs:=[.agg #[vI a0.fN,v0_1],v1_0,q0]) (u:=.agg #[vI a0.fN,v0_1,v1_0,q0]) (e3 I I I) (fun w9=>by rw [D0,E0,F0]; try kernel_rfl))<|RG.bx d0 I I fun s1 s0 A0 c1=>Af I<|Af I<|Aa<|Ap I<|Aw (u:=.tuple #[vP s0,vI 0]) c0 func118 I (.cons (.tmp I) (.cons (.tmp I) .nil)) I<|Ab I<|Ac (Al I I)<|Ac (Al I I)<|Af I<|Af I<|Aa<|Ae<|Ab I<|Af I<|Aa<|Ap I<|AV hb0 func89 I I ?_
 cases h
 exact A0.gv
 refine Ae<|Af I<|Af I<|Aa<|Ap I<|Aw (u:=.tuple #[.pointer none,vI 210]) c0 func118 I (.cons (.tmp I) (.cons (.tmp I) .nil)) I<|Ab I<|Ac (Al I I)<|Ac (Al I I)<|Af I<|Af I<|Aa<|Ae<|Ab I<|Af I<|Aa<|Ap I<|AV hb0 func89 I I ?_
 cases h
 exact d0.gv
 refine Ae<|Af I<|Af I<|Aa<|Ap I<|Aw (u:=.tuple #[.pointer none,vI 210]) c0 func118 I (.cons (.tmp I) (.cons (.tmp I) .nil)) I<|Ab I<|Ac (Al I I)<|Ac (Al I I)<|Af I<|Af I<|Aa<|Ae<|Ab I<|Af I<|Aa<|Ap I<|AV hb0 func89 I I ?_
 cases h
 exact b0.gv
 refine Aj<|Aj<|Aj<|Aj<|Bm I I<|Aa<|Ba I<|Ae<|Af I<|Af I<|Aa<|Ap I<|Aw (u:=.tuple #[.pointer none,vI 210]) c0 func118 I (.cons (.tmp I) (.cons (.tmp I) .nil)) I<|Ab I<|Ac (Al I I)<|Ac (Al I I)<|Af I<|Af I<|Aa<|Ae<|Ab I<|Af I<|Aa<|Ap I<|AV hb0 func89 I I ?_
 cases h
 exact b0.gv
 refine Ae<|Ab I<|Af I<|Af I<|Aa<|Ap I<|Aw (u:=.tuple #[.pointer none,vI g0]) c0 func118 I (.cons (.tmp I) (.cons (.tmp I) .nil)) I<|Ab I<|Ac (Al I I)<|Ac (Al I I)<|Af I<|Af I<|Aa<|Ae<|Ab I<|Af I<|Aa<|Ap I<|AV hb0 func89 I I ?_
 cases h
 exact b0.gv
def cn_p (n:Nat) (a0:Lb Int) (a1:Int):Oa ((Lb Ua)×Int):=
  (if a1<1 then some (([]:Lb Ua),(2:Int)) else (if 8<a1 then some (([]:Lb Ua),(2:Int)) else (bB_p n a0 a1).bind fun y5=>(if y5=true then (bj_p n a0 a1).bind fun y7=>(if y7.2=true then some (y7.1,(0:Int)) else some (([]:Lb Ua),(210:Int))) else some (([]:Lb Ua),(210:Int)))))
theorem cn_c (n:Nat) {L w} (hL:hl L w) {a0:Lb Int} {v0_0:Vc} (h0_0:Rep.R w L [v0_0] a0) {a1:Int}  {r:(Lb Ua)×Int} (h:cn_p n a0 a1=some r) :
 Cl 90 #[v0_0,vI a1] w (aj w fun w' u=>∃ v0_0:Vc,u=.tuple #[v0_0,vI r.2]/\Rep.R w' L [v0_0] r.1):=by
 unfold cn_p at h
 have hS0:=AI w
 refine AJ func90 I I I fun _ cs0 hb0=>Ae<|Af I<|Af I<|Aa<|Ai<|Ae<|Ab I<|Ac (BR (i:=a1) (j:=1) I I)<|Ab I<|BD (s:=10) I h (fun c1 h=>?_) (fun c1 h=>?_)
 refine Aj<|Aj<|Bm I I<|Aa<|Ba I<|Ae<|Af I<|Af I<|Aa<|Ap I ?_
 have hr2:=BP (α:=Ua) hS0 L
 refine Aw hb0 func90 I (.cons (.tmp I) (.cons (.tmp I) .nil)) I ?_
 cases h
 exact ⟨hS0.ag,fun w9 hw9=>⟨vN,I,hS0.kd hr2 hw9⟩⟩
 refine Au (Ah I)<|Au (FV.gtr (i:=a1) (j:=8) I I)<|Bo I I<|Aa<|AO I h (fun c3 h=>?_) (fun c3 h=>?_)
 refine Ae<|Af I<|Af I<|Aa<|Ap I ?_
 have hr4:=BP (α:=Ua) hS0 L
 refine Aw hb0 func90 I (.cons (.tmp I) (.cons (.tmp I) .nil)) I ?_
 cases h
 exact ⟨hS0.ag,fun w9 hw9=>⟨vN,I,hS0.kd hr4 hw9⟩⟩
 refine Am<|Ai<|Ae<|Ab I<|Ab I<|bk h fun y5 hy5 h=>Bz (.bool y5) (bd 43) I (e2 I I) (fun w9 hw9=>bB_c n (hS0.hL0 hL hw9) (hS0.kd h0_0 hw9) hy5) I<|Ac (BV I)<|Aa<|MX.ifnb I h (fun c6 h=>?_) (fun c6 h=>?_)
 refine Am<|Ae<|Ab I<|Ab I<|bk h fun y7 hy7 h=>jE (bd 119) I (e2 I I) (fun w9 hw9=>bj_c n (hS0.hL hL hw9) (Ax h0_0 hw9) hy7) I fun w8 vu9 d0 ⟨p0,hu_,g0⟩=>?_
 subst hu_
 obtain ⟨b0,q0⟩:=hS0.agr d0
 refine Ab I<|Ac (Al I I)<|Ac (Al I I)<|Af I<|Af I<|Aa<|Ai<|Ae<|Ab I<|Ac (BV I)<|Aa<|MX.ifnb I h (fun c0 h=>?_) (fun c0 h=>?_)
 refine Am<|Ae<|Ab I<|Af I<|Af I<|Aa<|Ap I<|Aw hb0 func90 I (.cons (.tmp I) (.cons (.tmp I) .nil)) I ?_
 cases h
 exact ⟨b0.ag,fun w9 hw9=>⟨p0,I,b0.kd g0 hw9⟩⟩
 refine Ae<|Af I<|Af I<|Aa<|Ap I ?_
 have j0:=BP (α:=Ua) b0 L
 refine Aw hb0 func90 I (.cons (.tmp I) (.cons (.tmp I) .nil)) I ?_
 cases h
 exact ⟨b0.ag,fun w9 hw9=>⟨vN,I,b0.kd j0 hw9⟩⟩
 refine Ae<|Af I<|Af I<|Aa<|Ap I ?_
 have k0:=BP (α:=Ua) hS0 L
 refine Aw hb0 func90 I (.cons (.tmp I) (.cons (.tmp I) .nil)) I ?_
 cases h
 exact ⟨hS0.ag,fun w9 hw9=>⟨vN,I,hS0.kd k0 hw9⟩⟩
def aj_p (_n:Nat) (a0:Ua):Oa Int:=
  (if a0=(0:Ua) then some (64:Int) else (tab0[(shrU ((a0&&&(-a0))*(285870213051353865:Ua)) 58).toNat]?).bind fun z2=>some ((z2.toNat:Nat):Int))
theorem aj_c (n:Nat) {L w} (_hL:hl L w) (a0:Ua) (hG0:Glob 0 tab0 w)  {r:Int} (h:aj_p n a0=some r) :
 Cl 51 #[vU a0] w (aj w fun _ u=>u=vI r):=by
 unfold aj_p at h
 have hS0:=AI w
 refine AJ func51 I I I fun _ cs0 hb0=>Ae<|Af I<|Aa<|Ai<|Ae<|Ab I<|Ac (FV.eqlU (a:=a0) (b:=(0:Ua)) I I)<|Aa<|AO I h (fun c1 h=>?_) (fun c1 h=>?_)
 refine Ae<|Af I<|Aa<|Ap I<|AV hb0 func51 I I ?_
 cases h
 exact hS0.gv
 refine Am<|Ae<|Ab I<|Ab I<|Ac (FV.negU (a:=a0) I)<|Ac (Br (a:=a0) (b:=-a0) I I)<|Ac (FV.mulU (a:=a0&&&(-a0)) (b:=(285870213051353865:Ua)) I I)<|Ac (FV.shrU (a:=(a0&&&(-a0))*(285870213051353865:Ua)) (j:=58) I I)<|bk h fun z2 hz2 h=>Ac (AC (m:=1) (k:=(shrU ((a0&&&(-a0))*(285870213051353865:Ua)) 58).toNat) (len:=64) I I I I (tab_lt hz2 I))<|AG I (hG0.keep hS0.ag _ _ hz2) ?_
 have hu3:=z2.toNat_lt
 refine Ac (FV.convN (i:=z2.toNat) underlying5 underlying3 I (by omega))<|Af I<|Aa<|Ap I<|AV hb0 func51 I I ?_
 cases h
 exact hS0.gv
structure Tg where
  fx:Td
  fB:Tc
  deriving DecidableEq
instance:Rep Tg:=Rep.via (β:=Td×Tc) fun x=>(x.fx,x.fB)
def aW_p (_n:Nat) (a0:Int) (a1:Tg):Oa Int:=
  (idx a1.fx.fu a0).bind fun x1=>some x1
theorem aW_c (n:Nat) {L w} (_hL:hl L w) {a0:Int} (a1:Tg) {v1_0:Vc} (h1_0:Rep.R w L [v1_0] a1.fx.fu) {v1_5:Vc} (_h1_5:Rep.R w L [v1_5] a1.fB.fo) {p1:Nat} (m1:∀ j9 v9,([v1_0,vI a1.fx.fm,vI a1.fx.fh,vI a1.fx.fc,vI a1.fB.fN,v1_5]:Lb Vc)[j9]? = some v9->w.cell? ((⟨p1,0,none⟩:Addr).add j9)=some v9)  {r:Int} (h:aW_p n a0 a1=some r) :
 Cl 122 #[vI a0,vP p1] w (aj w fun _ u=>u=vI r):=by
 unfold aW_p at h
 have hS0:=AI w
 refine AJ func122 I I I fun _ cs0 hb0=>Ae<|Af I<|Aa<|Ae<|Bh 0 I<|Bh 0 I<|AG I ((aL (fun j9 v9 h9=>hS0.ag.cell0 (m1 j9 v9 h9)) 0) 0 _ I)<|Ab I<|bk h fun x1 hx1 h=>?_
 obtain ⟨hi2,hx3⟩:=ax hx1
 obtain ⟨A4,c5,he6,hk7,cs8,hr9,c0⟩:=Bq h1_0 hx3
 have b0:cs8=[vI x1]:=hr9; subst b0
 refine Ac (AU 1 (a0.toNat) I he6 I hi2 hk7)<|AG I (c0 0 _ I)<|Af I<|Aa<|Ap I<|AV hb0 func122 I I ?_
 cases h
 exact hS0.gv
def cp_p (n:Nat) (a0:Tc) (a1:Ua):Oa Int:=
  (aQ_p n a0).bind fun b0=>(if b0=0 then (aO_p n a1).bind fun c0=>(if a0.fN<c0 then some (2:Int) else some (0:Int)) else some b0)
theorem cp_c (n:Nat) {L w} (hL:hl L w) (a0:Tc) {v0_1:Vc} (h0_1:Rep.R w L [v0_1] a0.fo) (a1:Ua)  {r:Int} (h:cp_p n a0 a1=some r) :
 Cl 132 #[.agg #[vI a0.fN,v0_1],vU a1] w (aj w fun _ u=>u=vI r):=by
 unfold cp_p at h
 refine AJ func132 I I I fun _ cs0 hb0=>Ae<|RG.bx (AI w) I I fun x0 u0 b0 v0=>Af I<|Aa<|Ai<|Ae<|Ac (AP I (b0.memA .hd))<|bk h fun g0 s0 h=>Bz (vI g0) (bd 83) I (e1 I) (fun w9 hw9=>aQ_c n (b0.hL0 hL hw9) a0 (b0.k0 h0_1 hw9) s0) I<|Af I<|Aa<|Ae<|Ab I<|Ac (FV.neq (i:=g0) (j:=0) I I)<|Aa<|MX.ifn I h (fun p0 h=>?_) (fun p0 h=>?_)
 refine Am<|Ai<|Ai<|du 5 fun c0 d0=>Rv 0 c0 I d0 (fun _=>Ah I)<|bk h fun j0 t0 h=>RD.cq 1 3 16 (vI j0) c0 I d0 (bd 79) I (e1 I) (fun w9 hw9=>aO_c n (b0.hL0 hL hw9) a1 t0) I<|Rv 2 c0 I d0 (fun _=>Bv 0 I)<|Rx 3 16 c0 I d0 (Ay I ((b0.memA .hd) 0 _ I))<|Rv 4 c0 I d0 (fun _=>FV.gtr (i:=j0) (j:=a0.fN) I I)<|AQ (dk c0)<|AO I h (fun q0 h=>?_) (fun q0 h=>?_)
 refine Ae<|Af I<|Aa<|Ap I<|AV hb0 func132 I I ?_
 cases h
 exact b0.gv
 refine Am<|Ae<|Af I<|Aa<|Ap I<|AV hb0 func132 I I ?_
 cases h
 exact b0.gv
 refine Ae<|Ab I<|Af I<|Aa<|Ap I<|AV hb0 func132 I I ?_
 cases h
 exact b0.gv
def bs_l1 (_n:Nat) (a0:Tc) (j0:Nat×(Lb Ua)->Oa (Lb Ua)):Nat×(Lb Ua)->Oa (Lb Ua)
  | (c0,d0)=>(if c0<a0.fo.length then (a0.fo[c0]?).bind fun b0=>(idx d0 b0.1).bind fun q0=>(bb b0.2).bind fun k0=>(put d0 ((b0.1.toNat:Nat):Int) (q0|||(shlU (1:Ua) k0))).bind fun g0=>(idx g0 b0.2).bind fun s0=>(bb b0.1).bind fun p0=>(put g0 ((b0.2.toNat:Nat):Int) (s0|||(shlU (1:Ua) p0))).bind fun t0=>j0 (c0+1,t0) else some d0)
def bs_p (n:Nat) (a0:Tc):Oa (Lb Ua):=
  (mk a0.fN (0:Ua)).bind fun b0=>Option.bind (ah (bs_l1 n a0) n (0,b0)) (fun c0=>some c0)
theorem bs_c (n:Nat) {L w} (hL:hl L w) (a0:Tc) {v0_1:Vc} (h0_1:Rep.R w L [v0_1] a0.fo)  {r:Lb Ua} (h:bs_p n a0=some r) :
 Cl 144 #[.agg #[vI a0.fN,v0_1]] w (aj w fun w' u=>∃ v0_0:Vc,u=v0_0/\Rep.R w' L [v0_0] r):=by
 unfold bs_p at h
 refine AJ func144 I I I fun _ cs0 hb0=>Ae<|RG.bx (AI w) I I fun J2 u2 D0 E2=>Af I<|Aa<|Ae<|Bh 0 I<|AG I ((D0.memA .hd) 0 _ I)<|bk h fun Y0 U0 h=>Av .plain I (Does.mk (α:=Ua) U0 D0 bT I) fun K2 s0 x0 F2=>Af I<|Aa<|Ai<|Ae<|Bh 1 I<|AG I ((x0.memA .t1) 1 _ I) ?_
 have R0:=AH h0_1 x0
 have H2:=AY R0
 refine Ac (Bf (xs:=a0.fo) underlying30 I R0)<|Ab I<|Aa<|Aq ?_
 obtain ⟨u1,z1⟩:=AX x0 (.a0 .done)
 obtain ⟨I2,R1,H1⟩:=ai h
 refine MX.lf (α:=Nat×(Lb Ua)×(Lb Vc)) (fun ⟨d0,p0,q0⟩=>[(3,(.slice (some ⟨s0,0,none⟩) a0.fN.toNat a0.fN.toNat)),(10,v0_1),(11,vn a0.fo.length),(12,vn d0)]) (fun ⟨d0,p0,q0⟩=>[rr w 44 Ua (.slice (some ⟨s0,0,none⟩) a0.fN.toNat a0.fN.toNat) p0.length q0]) (fun ⟨d0,p0,q0⟩ V0=>Cells V0 (bl [rr w 44 Ua (.slice (some ⟨s0,0,none⟩) a0.fN.toNat a0.fN.toNat) p0.length q0]++L) q0 p0) (fun ⟨d0,p0,q0⟩=>(d0,p0)) (0,Y0,(List.replicate a0.fN.toNat [vW 0]).flatten) R1 u1 (Ar (AD (cs:=(List.replicate a0.fN.toNat [vW 0]).flatten) (xs:=Y0) x0 L (Cells.mk U0 I)) z1) ?_
 rintro t2 ⟨d0,p0,q0⟩ V0 s1 t0 A1 H0 h
 unfold bs_l1 at h
 try dsimp only at h
 refine Ae<|Ac (Bp (i:=d0) (j:=a0.fo.length) I I)<|Aa<|Ai<|AO I h (fun j1 h=>?_) (fun j1 h=>?_)
 refine Am<|Ai<|Aq<|Ae<|bk h fun k0 Y1 h=>?_
 obtain ⟨s2,x2,E1,I1,C2,U1,M1⟩:=Bq (AH h0_1 t0) Y1
 obtain rfl:=dx U1
 refine Ac (AU 2 d0 I E1 I I I1)<|Ac (AP I M1)<|RG.nl [vI 0,vI 0] t0 fun M2 v2 v1 E0=>Bl [vI k0.1,vI k0.2] v1 .hd (aC I) fun P2 u0 F0=>Aa<|Ai<|du 10 fun b0 g0=>Rv 0 b0 I g0 (fun _=>Ah I)<|Rv 1 b0 I g0 (fun _=>AC (m:=1) (k:=0) (len:=2) I I I I (by omega))<|Rx 2 1816 b0 I g0 (Ay I ((u0.memA .hd) 0 _ I))<|bk h fun W0 Z1 h=>?_
 obtain ⟨M0,b2⟩:=ax Z1
 have Q0:=Ar H0 (Tt E0 F0)
 obtain ⟨Z0,y2,y0,B0,k1,V1,P1⟩:=BF (α:=Ua) u0 .t1 Q0 b2
 obtain ⟨c1,z2,J0⟩:=Bd (α:=Ua) u0 .t1 B0
 obtain rfl:Z0=⟨c1,0,none⟩:=by rw [J0] at y0; cases y0; rfl
 have F1:k1=[vU W0]:=V1; subst F1
 refine Rv 3 b0 I g0 (fun _=>AU 1 (k0.1.toNat) I y0 I M0 B0)<|Rx 4 1792 b0 I g0 (Ay I (P1 0 _ I))<|Rv 5 b0 I g0 (fun _=>AC (m:=1) (k:=1) (len:=2) I I I I (by omega))<|Rx 6 1920 b0 I g0 (Ay I ((u0.memA .hd) 1 _ I))<|bk h fun k2 J1 h=>Rv 7 b0 I g0 (fun _=>FV.shlI (a:=(1:Ua)) (i:=k0.2) I I J1)<|Rv 8 b0 I g0 (fun _=>FV.orU (a:=W0) (b:=shlU (1:Ua) k2) I I)<|Rv 9 b0 I g0 (fun _=>AU 1 (k0.1.toNat) I y0 I M0 B0)<|bk h fun U2 g2 h=>Bb (i:=10) (rk b0) (RO.acts (m' :=2047) (sk b0) I I .plain (BE (α:=Ua) (i:=k0.1.toNat) g2 u0 J0 (fun _=>.t1) Q0 I I I I I I) (fun Q2 ⟨D2,v0,B1,I0⟩=>?_))
 refine AQ (dk b0)<|du 10 fun c0 j0=>Rv 0 c0 I j0 (fun _=>Ah I)<|Rv 1 c0 I j0 (fun _=>AC (m:=1) (k:=1) (len:=2) I I I I (by omega))<|Rx 2 1816 c0 I j0 (Ay I ((v0.memA .hd) 1 _ I))<|bk h fun X0 c2 h=>?_
 obtain ⟨P0,d2⟩:=ax c2
 obtain ⟨b1,A2,z0,C0,p1,W1,Q1⟩:=BF (α:=Ua) v0 .t1 I0 d2
 obtain ⟨g1,B2,K0⟩:=Bd (α:=Ua) v0 .t1 C0
 obtain rfl:b1=⟨g1,0,none⟩:=by rw [K0] at z0; cases z0; rfl
 have G1:p1=[vU X0]:=W1; subst G1
 refine Rv 3 c0 I j0 (fun _=>AU 1 (k0.2.toNat) I z0 I P0 C0)<|Rx 4 1792 c0 I j0 (Ay I (Q1 0 _ I))<|Rv 5 c0 I j0 (fun _=>AC (m:=1) (k:=0) (len:=2) I I I I (by omega))<|Rx 6 1920 c0 I j0 (Ay I ((v0.memA .hd) 0 _ I))<|bk h fun p2 K1 h=>Rv 7 c0 I j0 (fun _=>FV.shlI (a:=(1:Ua)) (i:=k0.1) I I K1)<|Rv 8 c0 I j0 (fun _=>FV.orU (a:=X0) (b:=shlU (1:Ua) p2) I I)<|Rv 9 c0 I j0 (fun _=>AU 1 (k0.2.toNat) I z0 I P0 C0)<|bk h fun q2 j2 h=>Bb (i:=10) (rk c0) (RO.acts (m' :=2047) (sk c0) I I .plain (BE (α:=Ua) (i:=k0.2.toNat) j2 v0 K0 (fun _=>.t1) I0 I I I I I I) (fun R2 ⟨q1,x1,C1,D1⟩=>?_))
 refine AQ (dk c0)<|Ao<|Ak<|Ac (AW (i:=d0) (j:=1) I I (by omega))<|Ab I<|Aa ?_
 obtain ⟨y1,G0⟩:=AX x1 .d1
 exact s1 (d0+1,q2,q1) y1 (Tt A1 (Tt E0 (Tt F0 (Tt B1 (Tt C1 G0))))) (Ar D1 G0) h
 refine AT I ?_
 have h:=H1 _ h
 try dsimp only at h
 refine Ae<|Ab I<|Af I<|Aa<|Ap I ?_
 have A0:=BL t0 .hd
 have G2:=BM t0 .hd
 have X1:=BN (α:=Ua) (v:=(.slice (some ⟨s0,0,none⟩) a0.fN.toNat a0.fN.toNat)) (xs:=p0) A0 L (BA (α:=Ua) t0 .hd H0 hL)
 refine AV hb0 func144 I I ?_
 cases h
 exact ⟨A0.ag,fun w9 hw9=>⟨(.slice (some ⟨s0,0,none⟩) a0.fN.toNat a0.fN.toNat),I,A0.kd X1 hw9⟩⟩
theorem cC_c (_n:Nat) {L w} (_hL:hl L w) (a0:Ua)  :
 Cl 145 #[vU a0] w (aj w fun w' u=>∃ b0:Nat,u=.func (.func 155) #[] #[vP b0]/\St w w' [.cells b0 [vU a0] 44]):=by
 refine AJ func145 I I I fun _ cs0 hb0=>Ae<|RG.bx (AI w) I I fun g0 b0 c0 d0=>Af I<|Aa<|Ae<|Ac (FV.makeFunc (vs:=[]) (us:=[vP b0]) aB (e1 I))<|Af I<|Aa<|Ap I<|Aw (u:=.func (.func 155) #[] #[vP b0]) hb0 func145 I (.cons (.tmp I) .nil) I<|⟨c0.ag,fun w9 hw9=>⟨b0,I,c0.agree hw9⟩⟩
def ap_l1 (n:Nat) (k0:Lb Ua) (a1:Ua) (d0:Ua×Ua->Oa Ua):Ua×Ua->Oa Ua
  | (b0,c0)=>(if b0=(0:Ua) then some c0 else (aj_p n b0).bind fun j0=>(idx k0 j0).bind fun g0=>d0 (b0&&&(b0-(1:Ua)),c0|||(g0&&&a1)))
def ap_l2 (n:Nat) (g0:Lb Ua) (a1:Ua) (d0:Ua->Oa Ua):Ua->Oa Ua
  | b0=>Option.bind (ah (ap_l1 n g0 a1) n (b0,b0)) (fun c0=>(if c0=b0 then some b0 else d0 c0))
def ap_l3 (n:Nat) (k0:Lb Ua) (a1:Ua) (g0:Ua×(Lb Ua)->Oa (Lb Ua)):Ua×(Lb Ua)->Oa (Lb Ua)
  | (b0,d0)=>(if b0=(0:Ua) then some d0 else Option.bind (ah (ap_l2 n k0 a1) n (b0&&&(-b0))) (fun c0=>(app d0 ([c0]:Lb Ua)).bind fun j0=>g0 (b0&&&~~~c0,j0)))
def ap_p (n:Nat) (a0:Tc) (a1:Ua):Oa (Lb Ua):=
  (bs_p n a0).bind fun c0=>Option.bind (ah (ap_l3 n c0 a1) n (a1,([]:Lb Ua))) (fun b0=>some b0)
theorem ap_c (n:Nat) {L w} (hL:hl L w) (a0:Tc) {v0_1:Vc} (h0_1:Rep.R w L [v0_1] a0.fo) (a1:Ua) (hG0:Glob 0 tab0 w)  {r:Lb Ua} (h:ap_p n a0 a1=some r) :
 Cl 133 #[.agg #[vI a0.fN,v0_1],vU a1] w (aj w fun w' u=>∃ v0_0:Vc,u=v0_0/\Rep.R w' L [v0_0] r):=by
 unfold ap_p at h
 refine AJ func133 I I I fun _ cs0 hb0=>Ae<|RG.bx (AI w) I I fun X3 B3 Z1 H3=>RG.bx Z1 I I fun p4 g0 G0 I3=>Af I<|Aa<|Ae<|Ac (AP I (G0.memA .t1))<|bk h fun v4 p3 h=>jE (bd 144) I (e1 I) (fun w9 hw9=>bs_c n (G0.hL hL hw9) a0 (G0.km h0_1 hw9) p3) I fun q4 p0 F2 ⟨V3,hu_,G1⟩=>?_
 subst hu_
 obtain ⟨q2,J3⟩:=G0.agr F2
 refine RG.nl [vN] q2 fun s4 j0 s2 C1=>?_
 have E1:=AB G1 C1
 refine RG.now .plain (Az (news:=[p0]) s2 .hd I I I (Rep.c1 E1) I I (o1 (Bs E1))) fun v3 V0 D2=>Aa<|Ae<|Af I<|Aa<|Ai<|Ae<|AG I ((V0.memA .t1) 0 _ I)<|Af I<|Aa<|Aq ?_
 have u1:=V0.nilRow 44 (Rep.size Ua)
 have E2:=BW V0 44 (Rep.size Ua)
 obtain ⟨X1,v1⟩:=AX u1 (.a0 (.a0 (.a0 .done)))
 obtain ⟨Q3,W2,M2⟩:=ai h
 refine MX.loopD (α:=Ua×(Lb Ua)×(Lb Nat)×Vc×(Lb Vc)) (fun ⟨t0,c0,u0,b0,k0⟩=>[(3,vP g0),(5,vP j0),(6,b0),(7,vU t0)]) (fun ⟨t0,c0,u0,b0,k0⟩ C0=>St w C0 (rr w 44 Ua b0 c0.length k0::.cells j0 [p0] 101::.cells g0 [vU a1] 44::(bM u0++[]))/\Tr v3 [rr w 44 Ua vN (([]:Lb Ua).length) [],.cells j0 [p0] 101,.cells g0 [vU a1] 44] C0 (rr w 44 Ua b0 c0.length k0::.cells j0 [p0] 101::.cells g0 [vU a1] 44::(bM u0++[]))/\Cells C0 (bl (rr w 44 Ua b0 c0.length k0::.cells j0 [p0] 101::.cells g0 [vU a1] 44::(bM u0++[]))++L) k0 c0) (fun ⟨t0,c0,u0,b0,k0⟩=>(t0,c0)) (fun ⟨t0,c0,u0,b0,k0⟩=>cols u0) (a1,([]:Lb Ua),(([]:Lb Nat)),vN,[]) I W2 ⟨rfl,rfl,rfl,rfl,trivial⟩ ⟨X1,By _ _,(Ar (AD (cs:=[]) (xs:=([]:Lb Ua)) u1 L (AK _ _)) v1)⟩ ?_
 rintro y3 ⟨t0,c0,u0,b0,k0⟩ C0 U1 ⟨p1,x1,D1⟩ h
 unfold ap_l3 at h
 try dsimp only at h
 refine Ai<|Ae<|Ab I<|Ac (FV.neqU (a:=t0) (b:=(0:Ua)) I I)<|Aa<|MX.ifn I h (fun M1 h=>?_) (fun M1 h=>?_)
 refine AT I ?_
 have h:=M2 _ h
 try dsimp only at h
 refine Ae<|Ab I<|Af I<|Aa<|Ap I<|RT.takes (O1:=[rr w 44 Ua b0 c0.length k0,.cells j0 [p0] 101,.cells g0 [vU a1] 44]) (O2:=[]) (Ds:=u0) p1 fun J1 Y1 u2=>?_
 have M0:St _ J1 [rr w 44 Ua b0 c0.length k0,.cells j0 [p0] 101,.cells g0 [vU a1] 44]:=Y1
 have v2:Tr C0 (rr w 44 Ua b0 c0.length k0::.cells j0 [p0] 101::.cells g0 [vU a1] 44::(bM u0++[])) J1 [rr w 44 Ua b0 c0.length k0,.cells j0 [p0] 101,.cells g0 [vU a1] 44]:=u2
 have P0:=BL M0 .hd
 have G3:=BM M0 .hd
 have Z2:=BN (α:=Ua) (v:=b0) (xs:=c0) P0 L (BA (α:=Ua) M0 .hd (Ar D1 v2) hL)
 refine AV hb0 func133 I I ?_
 cases h
 exact ⟨P0.ag,fun w9 hw9=>⟨b0,I,P0.kd Z2 hw9⟩⟩
 refine Am<|Aq<|Ae<|Ab I<|Ab I<|Ac (FV.negU (a:=t0) I)<|Ac (Br (a:=t0) (b:=-t0) I I)<|Af I<|Aa<|Ai<|Aq ?_
 obtain ⟨R3,X2,P2⟩:=ai h
 refine MX.loopD (α:=Ua×(Lb Nat)) (fun ⟨d0,q0⟩=>[(3,vP g0),(5,vP j0),(6,b0),(7,vU t0),(8,vU d0)]) (fun ⟨d0,q0⟩ g1=>St w g1 (rr w 44 Ua b0 c0.length k0::.cells j0 [p0] 101::.cells g0 [vU a1] 44::(bM q0++[]))/\Tr C0 (rr w 44 Ua b0 c0.length k0::.cells j0 [p0] 101::.cells g0 [vU a1] 44::(bM u0++[])) g1 (rr w 44 Ua b0 c0.length k0::.cells j0 [p0] 101::.cells g0 [vU a1] 44::(bM q0++[]))) (fun ⟨d0,q0⟩=>d0) (fun ⟨d0,q0⟩=>cols q0) (t0&&&(-t0),(u0)) I X2 ⟨rfl,rfl,rfl,rfl,rfl,trivial⟩ ⟨p1,By _ _⟩ ?_
 rintro z3 ⟨d0,q0⟩ g1 V1 ⟨b2,W0⟩ h
 unfold ap_l2 at h
 try dsimp only at h
 refine Aq<|Ae<|Ab I<|RG.nl [vW 0] b2 fun Y3 J0 c2 X0=>Bl [vU d0] c2 .hd (o1 I) fun u3 Q0 Y0=>Aa<|Ai<|Ae<|Ab I<|jE (bd 145) I (e1 I) (fun w9 hw9=>Calls.gives (cC_c n (Q0.hL hL hw9) d0) fun (w8:World) (u8:Vc) ⟨b0_,hu_,s_⟩=>(⟨b0_,hu_,s_.from hw9⟩:∃ z0:Nat,u8=Value.func (.func 155) #[] #[vP z0]/\St u3 w8 [.cells z0 [vU d0] 44])) I fun Z3 W3 K3 ⟨z0,c3,I1⟩=>?_
 subst c3
 have Z0:=lG Q0 I1
 refine Aa<|Aq<|MX.rangeP (lb:=[vP z0]) I (gM Q0 I1) I (bd 155) func155 I I I fun b4 H1 y0 q3 E3 d2 b1 s3 G2 M3=>Aq ?_
 obtain ⟨U3,Y2,Q2⟩:=ai h
 refine MX.lo (α:=Ua×Ua) (fun ⟨s0,v0⟩=>[(0,.func (.yield H1) #[] #[]),(1,vP z0)]) (fun ⟨s0,v0⟩=>(.obj H1 (lpO q3 .ready none)::.obj y0 (.deferred (some []))::.cells z0 [vU s0] 44::.cells J0 [vU v0] 44::rr w 44 Ua b0 c0.length k0::.cells j0 [p0] 101::.cells g0 [vU a1] 44::(bM q0++[]))) (fun ⟨s0,v0⟩=>(s0,v0)) (d0,d0) Y2 d2 ?_
 rintro A3 ⟨s0,v0⟩ u4 W1 B0 H0 h
 unfold ap_l1 at h
 try dsimp only at h
 refine Ai<|Ae<|AG I ((B0.memA .t2) 0 _ I)<|Ac (FV.neqU (a:=s0) (b:=(0:Ua)) I I)<|Aa<|MX.ifn I h (fun P1 h=>?_) (fun P1 h=>?_)
 refine AT I ?_
 have h:=Q2 _ h
 try dsimp only at h
 refine MX.fin rfl<|Aw (u:=.tuple #[]) G2 func155 rfl .nil rfl<|MX.endRange0 B0 .hd (by intro h9; cases h9) fun I0 q1 y1=>?_
 obtain ⟨D0,z1⟩:=qC q1 (qI (qI (qI (qI (qI (qI (.drop .hd .rest)))))))
 refine Ao<|Ai<|Ae<|AG I ((D0.memA .t2) 0 _ I)<|Ab I<|Ac (FV.eqlU (a:=v0) (b:=d0) I I)<|Aa<|AO I h (fun Q1 h=>?_) (fun Q1 h=>?_)
 refine AT I ?_
 have h:=P2 _ h
 try dsimp only at h
 refine Ae<|Ab I<|Ab I<|Av .plain I (jA d0 (vU d0) D0 bT (e1 I)) fun c4 C3 R0 x2=>bk h fun j1 j3 h=>?_
 have F1:=Tt W0 (Tt X0 (Tt Y0 (Tt Z0 (Tt b1 (Tt H0 (Tt y1 (Tt z1 x2)))))))
 refine RG.doesL .plain I (AL (α:=Ua) (ys:=([d0]:Lb Ua)) j3 R0 (fun _ _=>.t4) bT I I (Ar D1 F1) (Bx (α:=Ua) R0 .hd (jC d0 (vU d0) R0 L I))) fun d1 K1 ⟨K0,s1,y2,I2⟩=>Af I<|Aa<|Ak<|Ab I<|Ab I<|Ac (FV.andNotU (a:=t0) (b:=d0) I I)<|Af I<|Aa<|Ao ?_
 obtain ⟨g2,A1⟩:=qC s1 (.one .t4 (.one .t4 (.one .t4 (qI (.drop .hd (.drop .hd (.drop .hd .rest)))))))
 exact U1 (t0&&&~~~d0,j1,(y0::q0),d1,K0) _ _ _ ⟨I,I,I,I,trivial⟩ I ⟨g2,(Tt x1 (Tt F1 (Tt y2 A1))),(Ar I2 A1)⟩ h
 refine Am<|Ak<|AG I ((D0.memA .t2) 0 _ I)<|Af I<|Aa<|Ao ?_
 obtain ⟨j2,z2⟩:=qC D0 (qK (qK (qK (qH (.drop .hd (.drop .hd .rest))))))
 exact V1 (v0,(y0::q0)) _ _ _ ⟨I,I,I,I,I,trivial⟩ I ⟨j2,(Tt W0 (Tt X0 (Tt Y0 (Tt Z0 (Tt b1 (Tt H0 (Tt y1 (Tt z1 z2))))))))⟩ h
 refine Am<|Ai<|Aq<|Ae<|Ab I<|AG I ((B0.memA .t2) 0 _ I)<|bk h fun k1 k3 h=>Bz (vI k1) (bd 51) I (e1 I) (fun w9 hw9=>aj_c n (B0.hL0 hL hw9) s0 (hG0.keep (B0.ag.trans hw9)) k3) I<|RG.yieldP (fd:=133) (vs:=[vI k1]) .plain I (e1 I) B0 .hd s3 I I I fun F3 H2 P3=>Ak<|Af I<|Aa<|MX.begin B0 .hd fun d4 F0 B1=>Aq<|du 8 fun x0 A0=>Rx 0 384 x0 I A0 (Ay I ((F0.memA .t3) 0 _ I))<|Rx 1 472 x0 I A0 (Ay I ((F0.memA .t5) 0 _ I))<|Rv 2 x0 I A0 (fun _=>Ah I)<|bk h fun E0 d3 h=>?_
 obtain ⟨R2,g3⟩:=ax d3
 obtain ⟨x3,D3,J2,U2,R1,b3,V2⟩:=Bq (AB G1 (Tt C1 (Tt D2 (Tt E2 (Tt v1 (Tt x1 (Tt W0 (Tt X0 (Tt Y0 (Tt Z0 (Tt b1 (Tt H0 B1)))))))))))) g3
 have K2:R1=[vU E0]:=b3; subst K2
 refine Rv 3 x0 I A0 (fun _=>AU 1 (k1.toNat) I J2 I R2 U2)<|Rx 4 448 x0 I A0 (Ay I (V2 0 _ I))<|Rx 5 448 x0 I A0 (Ay I ((F0.memA .t6) 0 _ I))<|Rv 6 x0 I A0 (fun _=>Br (a:=E0) (b:=a1) I I)<|Rv 7 x0 I A0 (fun _=>FV.orU (a:=v0) (b:=E0&&&a1) I I)<|BC 8 511 x0 I I .plain (Az (news:=[vW ((v0|||(E0&&&a1)).toNat:Int)]) F0 .t3 I I I I I I (o1 I)) fun g4 k2 A2=>AQ (dk x0)<|Ao<|MX.roundEnd H2 k2 .hd fun j4 U0 B2=>Ac (BV I)<|Aa<|Bn I<|Am<|Ao<|Ak<|AG I ((U0.memA .t2) 0 _ I)<|AG I ((U0.memA .t2) 0 _ I)<|Ac (FV.subU (a:=s0) (b:=(1:Ua)) I I)<|Ac (Br (a:=s0) (b:=s0-(1:Ua)) I I)<|Bl [vW ((s0&&&(s0-(1:Ua))).toNat:Int)] U0 .t2 (o1 I) fun k4 p2 C2=>Aa<|W1 (s0&&&(s0-(1:Ua)),v0|||(E0&&&a1)) p2 (Tt H0 (Tt B1 (Tt A2 (Tt B2 C2)))) h
def ca_p (n:Nat) (a0:Tc) (a1:Ua):Oa (Bool×Int):=
  (cp_p n a0 a1).bind fun b0=>(if b0=0 then (ap_p n a0 a1).bind fun c0=>some ((decide (c0.length=1)),(0:Int)) else some (false,b0))
theorem ca_c (n:Nat) {L w} (hL:hl L w) (a0:Tc) {v0_1:Vc} (h0_1:Rep.R w L [v0_1] a0.fo) (a1:Ua) (hG0:Glob 0 tab0 w)  {r:Bool×Int} (h:ca_p n a0 a1=some r) :
 Cl 123 #[.agg #[vI a0.fN,v0_1],vU a1] w (aj w fun _ u=>u=.tuple #[.bool r.1,vI r.2]):=by
 unfold ca_p at h
 refine AJ func123 I I I fun _ cs0 hb0=>Ae<|RG.bx (AI w) I I fun B0 u0 b0 v0=>Af I<|Af I<|Aa<|Ai<|Ae<|Ac (AP I (b0.memA .hd))<|Ab I<|bk h fun g0 s0 h=>Bz (vI g0) (bd 132) I (e2 I I) (fun w9 hw9=>cp_c n (b0.hL0 hL hw9) a0 (b0.k0 h0_1 hw9) a1 s0) I<|Af I<|Aa<|Ae<|Ab I<|Ac (FV.neq (i:=g0) (j:=0) I I)<|Aa<|MX.ifn I h (fun j0 h=>?_) (fun j0 h=>?_)
 refine Am<|Ae<|Ac (AP I (b0.memA .hd))<|Ab I<|bk h fun c0 t0 h=>jE (bd 133) I (e2 I I) (fun w9 hw9=>ap_c n (b0.hL hL hw9) a0 (b0.km h0_1 hw9) a1 (hG0.keep (b0.ag.trans hw9)) t0) I fun C0 A0 q0 ⟨z0,hu_,d0⟩=>?_
 subst hu_
 obtain ⟨p0,x0⟩:=b0.agr q0
 have y0:=AY d0
 refine Ac (Bf (xs:=c0) underlying101 I d0)<|Ac (FV.eqlN (i:=c0.length) (j:=1) I I)<|Af I<|Af I<|Aa<|Ap I<|Aw hb0 func123 I (.cons (.tmp I) (.cons (.tmp I) .nil)) I ?_
 cases h
 exact p0.gv
 refine Ae<|Ab I<|Af I<|Af I<|Aa<|Ap I<|Aw hb0 func123 I (.cons (.tmp I) (.cons (.tmp I) .nil)) I ?_
 cases h
 exact b0.gv
def az_l1 (n:Nat) (a0:Tg) (d0:Ua×Int->Oa Int):Ua×Int->Oa Int
  | (b0,c0)=>(if b0=(0:Ua) then some c0 else (aj_p n b0).bind fun j0=>(aW_p n j0 a0).bind fun k0=>(chk (c0+k0)).bind fun g0=>d0 (b0&&&(b0-(1:Ua)),g0))
def az_p (n:Nat) (a0:Tg) (a1:Ua):Oa Bool:=
  Option.bind (ah (az_l1 n a0) n (a1,0)) (fun b0=>(ca_p n a0.fB a1).bind fun c0=>(if c0.1=true then (if a0.fx.fm<=b0 then some (decide (b0<=a0.fx.fh)) else some false) else some false))
theorem az_c (n:Nat) {L w} (hL:hl L w) (a0:Tg) {v0_0:Vc} (h0_0:Rep.R w L [v0_0] a0.fx.fu) {v0_5:Vc} (h0_5:Rep.R w L [v0_5] a0.fB.fo) (a1:Ua) (hG0:Glob 0 tab0 w)  {r:Bool} (h:az_p n a0 a1=some r) :
 Cl 93 #[.agg #[v0_0,vI a0.fx.fm,vI a0.fx.fh,vI a0.fx.fc,vI a0.fB.fN,v0_5],vU a1] w (aj w fun _ u=>u=.bool r):=by
 unfold az_p at h
 refine AJ func93 I I I fun _ cs0 hb0=>Ae<|RG.bx (AI w) I I fun P0 g0 v0 J0=>Af I<|Aa<|Ae<|Ab I<|Ac (FV.makeFunc (vs:=[]) (us:=[vP g0]) aB (e1 I))<|BB (fst:=[]) (cap:=[]) (vs:=[vU a1,.func (.func 122) #[] #[vP g0]]) .plain (bd 121) func121 I I I I (e2 I I) I fun I0 y0 K0=>Ae<|Af I<|Aa<|Ae<|Af I<|Aa<|Ai<|Aq ?_
 obtain ⟨M0,A0,z0⟩:=ai h
 refine MX.lo (α:=Ua×Int) (fun ⟨c0,d0⟩=>[(0,vU c0),(1,.func (.func 122) #[] #[vP g0]),(5,vI d0)]) (fun ⟨c0,d0⟩=>[.cells g0 [v0_0,vI a0.fx.fm,vI a0.fx.fh,vI a0.fx.fc,vI a0.fB.fN,v0_5] 113]) (fun ⟨c0,d0⟩=>(c0,d0)) (a1,0) A0 v0 ?_
 rintro H0 ⟨c0,d0⟩ Q0 u0 b0 x0 h
 unfold az_l1 at h
 try dsimp only at h
 refine Ai<|Ae<|Ab I<|Ac (FV.neqU (a:=c0) (b:=(0:Ua)) I I)<|Aa<|MX.ifn I h (fun q0 h=>?_) (fun q0 h=>?_)
 refine AT I ?_
 have h:=z0 _ h
 try dsimp only at h
 refine Ae<|Ab I<|Af I<|Aa<|Ap I<|Aw (u:=vI d0) y0 func121 I (.cons (.tmp I) .nil) I<|Af I<|Aa<|Ae<|Bh 4 I<|Ac (BK (cs:=[vI a0.fB.fN,v0_5]) I I (ay (b0.memA .hd) 4 2))<|Ab I<|bk h fun j0 C0 h=>Bz (.tuple #[.bool j0.1,vI j0.2]) (bd 123) I (e2 I I) (fun w9 hw9=>ca_c n (b0.hL0 hL hw9) a0.fB (b0.k0 h0_5 hw9) a1 (hG0.keep (b0.ag.trans hw9)) C0) I<|Ab I<|Ac (Al I I)<|Ac (Al I I)<|Af I<|Af I<|Aa<|Ae<|Ab I<|Ab I<|RG.ifb (s:=19) I h (fun s0 h=>?_) (fun s0 h=>?_)
 refine Au (Ah I)<|RG.fg 0 I<|RG.fg 1 I<|Au (Ay I ((aL (b0.memA .hd) 0) 1 _ I))<|Au (FV.geq (i:=d0) (j:=a0.fx.fm) I I)<|Bm I I<|Ab I<|BD (s:=26) I h (fun t0 h=>?_) (fun t0 h=>?_)
 refine Au (Ah I)<|RG.fg 0 I<|RG.fg 2 I<|Au (Ay I ((aL (b0.memA .hd) 0) 2 _ I))<|Au (FV.leq (i:=d0) (j:=a0.fx.fh) I I)<|Bm I I<|Af I<|Aa<|Ap I<|AV hb0 func93 I I ?_
 cases h
 exact b0.gv
 refine Aj<|Aj<|Aj<|Aj<|Aj<|Bo I I<|Af I<|Aa<|Ap I<|AV hb0 func93 I I ?_
 cases h
 exact b0.gv
 refine Aj<|Aj<|Aj<|Aj<|Aj<|Bo I I<|Ab I<|Aj<|Aj<|Aj<|Aj<|Aj<|Bo I I<|Af I<|Aa<|Ap I<|AV hb0 func93 I I ?_
 cases h
 exact b0.gv
 refine Am<|Ai<|Aq<|Ak<|Ab I<|Ab I<|Ab I<|bk h fun G0 D0 h=>Bz (vI G0) (bd 51) I (e1 I) (fun w9 hw9=>aj_c n (b0.hL0 hL hw9) c0 (hG0.keep (b0.ag.trans hw9)) D0) I<|bk h fun p0 E0 h=>RG.callq' (v:=vI p0) (fst:=[]) (cap:=[vP g0]) .plain (bd 122) I (e1 I) (fun w9 hw9=>aW_c n (b0.hL0 hL hw9) a0 (b0.k0 h0_0 hw9) (b0.k0 h0_5 hw9) (mV hw9 (b0.memA .hd)) E0) I<|bk h fun F0 B0 h=>Ac (Bu (i:=d0) (j:=p0) I I B0)<|Af I<|Aa<|Ao<|Ak<|Ab I<|Ab I<|Ac (FV.subU (a:=c0) (b:=(1:Ua)) I I)<|Ac (Br (a:=c0) (b:=c0-(1:Ua)) I I)<|Af I<|Aa<|u0 (c0&&&(c0-(1:Ua)),F0) b0 x0 h
def bW_p (n:Nat) (a0:Ua) (a1:Tg):Oa Bool:=
  (az_p n a1 a0).bind fun y1=>some (!y1)
theorem bW_c (n:Nat) {L w} (hL:hl L w) (a0:Ua) (a1:Tg) {v1_0:Vc} (h1_0:Rep.R w L [v1_0] a1.fx.fu) {v1_5:Vc} (h1_5:Rep.R w L [v1_5] a1.fB.fo) {p1:Nat} (m1:∀ j9 v9,([v1_0,vI a1.fx.fm,vI a1.fx.fh,vI a1.fx.fc,vI a1.fB.fN,v1_5]:Lb Vc)[j9]? = some v9->w.cell? ((⟨p1,0,none⟩:Addr).add j9)=some v9) (hG0:Glob 0 tab0 w)  {r:Bool} (h:bW_p n a0 a1=some r) :
 Cl 92 #[vU a0,vP p1] w (aj w fun _ u=>u=.bool r):=by
 unfold bW_p at h
 have hS0:=AI w
 refine AJ func92 I I I fun _ cs0 hb0=>Ae<|Af I<|Aa<|Ae<|Ac (AP I (fun j9 v9 h9=>hS0.ag.cell0 (m1 j9 v9 h9)))<|Ab I<|bk h fun y1 hy1 h=>Bz (.bool y1) (bd 93) I (e2 I I) (fun w9 hw9=>az_c n (hS0.hL0 hL hw9) a1 (hS0.kd h1_0 hw9) (hS0.kd h1_5 hw9) a0 (hG0.keep (hS0.ag.trans hw9)) hy1) I<|Ac (BV I)<|Af I<|Aa<|Ap I<|AV hb0 func92 I I ?_
 cases h
 exact hS0.gv
def aY_l1 (n:Nat) (c0:(Lb Ua)×Int) (a0:Tg) (d0:Nat->Oa (Bool⊕Unit)):Nat->Oa (Bool⊕Unit)
  | b0=>(if b0<c0.1.length then (c0.1[b0]?).bind fun g0=>(bW_p n g0 a0).bind fun j0=>(if j0=true then some (.inl (!(decide (0<=b0)))) else d0 (b0+1)) else some (.inr ()))
def aY_p (n:Nat) (a0:Tg) (a1:Lb Int):Oa Bool:=
  (ct_p n a0.fB a1 a0.fx.fc).bind fun b0=>(if b0=0 then (cn_p n a1 a0.fx.fc).bind fun c0=>thn (ah (aY_l1 n c0 a0) n 0) (fun _=>some (!(decide (0<=(-1))))) else some false)
theorem aY_c (n:Nat) {L w} (hL:hl L w) (a0:Tg) {v0_0:Vc} (h0_0:Rep.R w L [v0_0] a0.fx.fu) {v0_5:Vc} (h0_5:Rep.R w L [v0_5] a0.fB.fo) {a1:Lb Int} {v1_0:Vc} (h1_0:Rep.R w L [v1_0] a1) (hG0:Glob 0 tab0 w)  {r:Bool} (h:aY_p n a0 a1=some r) :
 Cl 62 #[.agg #[v0_0,vI a0.fx.fm,vI a0.fx.fh,vI a0.fx.fc,vI a0.fB.fN,v0_5],v1_0] w (aj w fun _ u=>u=.bool r):=by
 unfold aY_p at h
 refine AJ func62 I I I fun _ cs0 hb0=>Ae<|RG.bx (AI w) I I fun s1 g0 c0 c1=>Af I<|Aa<|Ai<|Ae<|Bh 4 I<|Ac (BK (cs:=[vI a0.fB.fN,v0_5]) I I (ay (c0.memA .hd) 4 2))<|Ab I<|Bh 0 I<|Bh 3 I<|AG I ((aL (c0.memA .hd) 0) 3 _ I)<|bk h fun y0 Q0 h=>Bz (vI y0) (bd 89) I (e3 I I I) (fun w9 hw9=>ct_c n (c0.hL0 hL hw9) a0.fB (c0.k0 h0_5 hw9) (c0.k0 h1_0 hw9) Q0) I<|Ac (FV.neq (i:=y0) (j:=0) I I)<|Aa<|MX.ifn I h (fun z0 h=>?_) (fun z0 h=>?_)
 refine Am<|Ae<|Ab I<|Bh 0 I<|Bh 3 I<|AG I ((aL (c0.memA .hd) 0) 3 _ I)<|bk h fun j0 R0 h=>jE (bd 90) I (e2 I I) (fun w9 hw9=>cn_c n (c0.hL hL hw9) (c0.km h1_0 hw9) R0) I fun u1 q1 F0 ⟨q0,hu_,p0⟩=>?_
 subst hu_
 obtain ⟨E0,d1⟩:=c0.agr F0
 refine Ab I<|Ac (Al I I)<|Ac (Al I I)<|Af I<|Af I<|Aa<|Ae<|Ab I<|Ac (FV.makeFunc (vs:=[]) (us:=[vP g0]) aB (e1 I))<|BB (fst:=[]) (cap:=[]) (vs:=[q0,.func (.func 92) #[] #[vP g0]]) .plain (bd 91) func91 I I I I (e2 I I) I fun Z0 t0 j1=>Ae<|Af I<|Aa<|Ae<|Ab I<|Ab I<|BB (fst:=[]) (cap:=[]) (vs:=[q0,.func (.func 92) #[] #[vP g0]]) .plain (bd 120) func120 I I I I (e2 I I) I fun b1 u0 k1=>Ae<|Af I<|Aa<|Ai<|Ae<|Ab I ?_
 have g1:=AY p0
 refine Ac (Bf (xs:=j0.1) underlying101 I p0)<|Ab I<|Aa<|Aq<|tn h fun p1 K0 v0=>MX.lo (α:=Nat) (fun b0=>[(0,q0),(1,.func (.func 92) #[] #[vP g0]),(7,vn j0.1.length),(8,vn b0)]) (fun b0=>[.cells g0 [v0_0,vI a0.fx.fm,vI a0.fx.fh,vI a0.fx.fc,vI a0.fB.fN,v0_5] 113]) (fun b0=>b0) 0 K0 E0 ?_
 rintro X0 b0 v1 D0 d0 s0 h
 unfold aY_l1 at h
 try dsimp only at h
 refine Ae<|Ac (Bp (i:=b0) (j:=j0.1.length) I I)<|Aa<|Ai<|AO I h (fun A0 h=>?_) (fun A0 h=>?_)
 refine Am<|Ai<|Aq<|Ae<|Ab I<|Af I<|Aa<|Ae<|Ab I<|Ab I<|Ab I<|bk h fun x0 P0 h=>?_
 obtain ⟨W0,Y0,G0,I0,C0,M0,J0⟩:=Bq (AB p0 s0) P0
 have H0:C0=[vU x0]:=M0; subst H0
 refine Ac (AU 1 b0 I G0 I I I0)<|AG I (J0 0 _ I)<|bk h fun V0 U0 h=>RG.callq' (v:=.bool V0) (fst:=[]) (cap:=[vP g0]) .plain (bd 92) I (e1 I) (fun w9 hw9=>bW_c n (d0.hL0 hL hw9) x0 a0 (d0.k0 h0_0 hw9) (d0.k0 h0_5 hw9) (mV hw9 (d0.memA .hd)) (hG0.keep (d0.ag.trans hw9)) U0) I<|Aa<|MX.ifb I h (fun B0 h=>?_) (fun B0 h=>?_)
 refine Ae<|Ab I<|Af I<|Aa ?_
 have h:=aO h v0
 refine Ap I<|Aw (u:=vn b0) u0 func120 I (.cons (.tmp I) .nil) I<|Ac (FV.geqN (i:=b0) (j:=0) I I)<|Af I<|Aa<|Ap I<|Aw (u:=.bool (decide (0<=b0))) t0 func91 I (.cons (.tmp I) .nil) I<|Ac (BV I)<|Af I<|Aa<|Ap I<|AV hb0 func62 I I ?_
 cases h
 exact d0.gv
 refine Am<|Ao<|Ak<|Ac (AW (i:=b0) (j:=1) I I (by omega))<|Ab I<|Aa<|D0 (b0+1) d0 s0 h
 refine AT I ?_
 have h:=bD h v0
 try dsimp only at h
 refine Ae<|Af I<|Aa<|Ap I<|Aw (u:=vI (-1)) u0 func120 I (.cons (.tmp I) .nil) I<|Ac (FV.geq (i:=(-1)) (j:=0) I I)<|Af I<|Aa<|Ap I<|Aw (u:=.bool (decide (0<=(-1)))) t0 func91 I (.cons (.tmp I) .nil) I<|Ac (BV I)<|Af I<|Aa<|Ap I<|AV hb0 func62 I I ?_
 cases h
 exact d0.gv
 refine Ae<|Af I<|Aa<|Ap I<|AV hb0 func62 I I ?_
 cases h
 exact c0.gv
def bT_l1 (n:Nat) (a2:Lb (Lb Int)) (a1:Td) (a0:Tc) (c0:Nat->Oa (Int⊕Unit)):Nat->Oa (Int⊕Unit)
  | b0=>(if b0<a2.length then (a2[b0]?).bind fun d0=>(aY_p n (⟨a1,a0⟩:Tg) d0).bind fun g0=>(if g0=true then c0 (b0+1) else ((if 0<=b0 then some (8:Int) else some (0:Int))).map .inl) else some (.inr ()))
def bT_p (n:Nat) (a0:Tc) (a1:Td) (a2:Lb (Lb Int)):Oa Int:=
  (bS_p n a0 a1).bind fun b0=>(if b0=0 then (if 12<a0.fN then some (3:Int) else thn (ah (bT_l1 n a2 a1 a0) n 0) (fun _=>(if 0<=(-1) then some (8:Int) else some (0:Int)))) else some b0)
theorem bT_c (n:Nat) {L w} (hL:hl L w) (a0:Tc) {v0_1:Vc} (h0_1:Rep.R w L [v0_1] a0.fo) (a1:Td) {v1_0:Vc} (h1_0:Rep.R w L [v1_0] a1.fu) {a2:Lb (Lb Int)} {v2_0:Vc} (h2_0:Rep.R w L [v2_0] a2) (hG0:Glob 0 tab0 w)  {r:Int} (h:bT_p n a0 a1 a2=some r) :
 Cl 37 #[.agg #[vI a0.fN,v0_1],.agg #[v1_0,vI a1.fm,vI a1.fh,vI a1.fc],v2_0] w (aj w fun _ u=>u=vI r):=by
 unfold bT_p at h
 refine AJ func37 I I I fun _ cs0 hb0=>Ae<|RG.bx (AI w) I I fun H1 x0 G0 y1=>RG.bx G0 I I fun I1 y0 b0 z1=>Af I<|Aa<|Ai<|Ae<|Ac (AP I (b0.memA .t1))<|Ac (AP I (b0.memA .hd))<|bk h fun u0 Y0 h=>Bz (vI u0) (bd 61) I (e2 I I) (fun w9 hw9=>bS_c n (b0.hL0 hL hw9) a0 (b0.k0 h0_1 hw9) a1 (b0.k0 h1_0 hw9) Y0) I<|Af I<|Aa<|Ae<|Ab I<|Ac (FV.neq (i:=u0) (j:=0) I I)<|Aa<|MX.ifn I h (fun z0 h=>?_) (fun z0 h=>?_)
 refine Am<|Ai<|Ae<|Bh 0 I<|AG I ((b0.memA .t1) 0 _ I)<|Ac (FV.gtr (i:=a0.fN) (j:=12) I I)<|Aa<|AO I h (fun A0 h=>?_) (fun A0 h=>?_)
 refine Ae<|Af I<|Aa<|Ap I<|AV hb0 func37 I I ?_
 cases h
 exact b0.gv
 refine Am<|Ae<|Ac (AP I (b0.memA .hd))<|Ac (AP I (b0.memA .t1)) ?_
 obtain ⟨c1,k1,V0,_⟩:=Rep.sl (AH h1_0 b0)
 obtain ⟨d1,p1,W0,_⟩:=Rep.sl (AH h0_1 b0)
 refine Ac (Bj (vs:=[.agg #[v1_0,vI a1.fm,vI a1.fh,vI a1.fc],.agg #[vI a0.fN,v0_1]]) (u:=.agg #[v1_0,vI a1.fm,vI a1.fh,vI a1.fc,vI a0.fN,v0_1]) (e2 I I) (fun w9=>by rw [V0,W0]; try kernel_rfl))<|Ac (FV.makeFunc (vs:=[.agg #[v1_0,vI a1.fm,vI a1.fh,vI a1.fc,vI a0.fN,v0_1]]) (us:=[]) (e1 I) aB)<|RG.nl [.nilFunc] b0 fun w32 g0 H0 A1=>Bl [.func (.func 62) #[.agg #[v1_0,vI a1.fm,vI a1.fh,vI a1.fc,vI a0.fN,v0_1]] #[]] H0 .hd (o1 I) fun J1 j0 B1=>Aa<|Ai<|Ae<|Ab I<|Ac (FV.makeFunc (vs:=[]) (us:=[vP g0]) aB (e1 I))<|BB (fst:=[]) (cap:=[]) (vs:=[v2_0,.func (.func 64) #[] #[vP g0]]) .plain (bd 63) func63 I I I I (e2 I I) I fun s1 p0 D1=>Ae<|Af I<|Aa<|Ae<|Ab I<|Ab I<|BB (fst:=[]) (cap:=[]) (vs:=[v2_0,.func (.func 64) #[] #[vP g0]]) .plain (bd 94) func94 I I I I (e2 I I) I fun u1 q0 E1=>Ae<|Af I<|Aa<|Ai<|Ae<|Ab I ?_
 have t0:=AH h2_0 j0
 have C1:=AY t0
 refine Ac (Bf (xs:=a2) underlying39 I t0)<|Ab I<|Aa<|Aq<|tn h fun G1 Q0 s0=>MX.lo (α:=Nat) (fun d0=>[(0,v2_0),(1,.func (.func 64) #[] #[vP g0]),(7,vn a2.length),(8,vn d0)]) (fun d0=>[.cells g0 [.func (.func 62) #[.agg #[v1_0,vI a1.fm,vI a1.fh,vI a1.fc,vI a0.fN,v0_1]] #[]] 128,.cells y0 [v1_0,vI a1.fm,vI a1.fh,vI a1.fc] 35,.cells x0 [vI a0.fN,v0_1] 32]) (fun d0=>d0) 0 Q0 j0 ?_
 rintro j1 d0 K1 F0 c0 I0 h
 unfold bT_l1 at h
 try dsimp only at h
 refine Ae<|Ac (Bp (i:=d0) (j:=a2.length) I I)<|Aa<|Ai<|AO I h (fun B0 h=>?_) (fun B0 h=>?_)
 refine Am<|Ai<|Aq<|Ae<|Ab I<|Af I<|Aa<|Ae<|Ab I<|Ab I<|Ab I<|bk h fun M1 X0 h=>?_
 obtain ⟨g1,q1,K0,M0,v1,R0,P0⟩:=Bq (AH h2_0 c0) X0
 obtain ⟨b1,rfl,U0⟩:=bX R0
 refine Ac (AU 1 d0 I K0 I I M0)<|AG I (P0 0 _ I)<|BB (fst:=[]) (cap:=[vP g0]) (vs:=[b1]) .plain (bd 64) func64 I I I I (e1 I) I fun x1 J0 F1=>Ae<|Af I<|Aa<|Ae<|AG I ((c0.memA .hd) 0 _ I)<|Ab I<|bk h fun v0 Z0 h=>RG.callq' (v:=.bool v0) (fst:=[.agg #[v1_0,vI a1.fm,vI a1.fh,vI a1.fc,vI a0.fN,v0_1]]) (cap:=[]) .plain (bd 62) I (e1 I) (fun w9 hw9=>aY_c n (c0.hL0 hL hw9) (⟨a1,a0⟩:Tg) (c0.k0 h1_0 hw9) (c0.k0 h0_1 hw9) (c0.kd U0 hw9) (hG0.keep (c0.ag.trans hw9)) Z0) I<|Ac (BV I)<|Af I<|Aa<|Ap I<|Aw (u:=.bool (!v0)) J0 func64 I (.cons (.tmp I) .nil) I<|Aa<|MX.ifnb I h (fun C0 h=>?_) (fun C0 h=>?_)
 refine Am<|Ao<|Ak<|Ac (AW (i:=d0) (j:=1) I I (by omega))<|Ab I<|Aa<|F0 (d0+1) c0 I0 h
 refine Ae<|Ab I<|Af I<|Aa ?_
 have h:=jg h s0
 refine Ap I<|Aw (u:=vn d0) q0 func94 I (.cons (.tmp I) .nil) I<|Ac (FV.geqN (i:=d0) (j:=0) I I)<|Af I<|Aa<|Ap I<|Aw (u:=.bool (decide (0<=d0))) p0 func63 I (.cons (.tmp I) .nil) I<|Aa<|AO I h (fun D0 h=>?_) (fun D0 h=>?_)
 refine Ae<|Af I<|Aa<|Ap I<|AV hb0 func37 I I ?_
 cases h
 exact c0.gv
 refine Am<|Ae<|Af I<|Aa<|Ap I<|AV hb0 func37 I I ?_
 cases h
 exact c0.gv
 refine AT I ?_
 have h:=bD h s0
 try dsimp only at h
 refine Ae<|Af I<|Aa<|Ap I<|Aw (u:=vI (-1)) q0 func94 I (.cons (.tmp I) .nil) I<|Ac (FV.geq (i:=(-1)) (j:=0) I I)<|Af I<|Aa<|Ap I<|Aw (u:=.bool (decide (0<=(-1)))) p0 func63 I (.cons (.tmp I) .nil) I<|Aa<|AO I h (fun E0 h=>?_) (fun E0 h=>?_)
 refine Ae<|Af I<|Aa<|Ap I<|AV hb0 func37 I I ?_
 cases h
 exact c0.gv
 refine Am<|Ae<|Af I<|Aa<|Ap I<|AV hb0 func37 I I ?_
 cases h
 exact c0.gv
 refine Ae<|Ab I<|Af I<|Aa<|Ap I<|AV hb0 func37 I I ?_
 cases h
 exact b0.gv
def cZ (x:Int×Int×Int×Int×Int×Int×Int×Int×Int×Int×Int×Int):Lb Vc:=[vI x.1,vI x.2.1,vI x.2.2.1,vI x.2.2.2.1,vI x.2.2.2.2.1,vI x.2.2.2.2.2.1,vI x.2.2.2.2.2.2.1,vI x.2.2.2.2.2.2.2.1,vI x.2.2.2.2.2.2.2.2.1,vI x.2.2.2.2.2.2.2.2.2.1,vI x.2.2.2.2.2.2.2.2.2.2.1,vI x.2.2.2.2.2.2.2.2.2.2.2]
def bI_p (_n:Nat) (a0:Lb Int):Oa (Int×Int×Int×Int×Int×Int×Int×Int×Int×Int×Int×Int):=
  some (aw a0 0 (0:Int),aw a0 1 (0:Int),aw a0 2 (0:Int),aw a0 3 (0:Int),aw a0 4 (0:Int),aw a0 5 (0:Int),aw a0 6 (0:Int),aw a0 7 (0:Int),aw a0 8 (0:Int),aw a0 9 (0:Int),aw a0 10 (0:Int),aw a0 11 (0:Int))
theorem bI_c (n:Nat) {L w} (_hL:hl L w) {a0:Lb Int} {v0_0:Vc} (h0_0:Rep.R w L [v0_0] a0)  {r:Int×Int×Int×Int×Int×Int×Int×Int×Int×Int×Int×Int} (h:bI_p n a0=some r) :
 Cl 41 #[v0_0] w (aj w fun _ u=>u=.agg ((cZ r)).toArray):=by
 unfold bI_p at h
 refine AJ func41 I I I fun _ cs0 hb0=>Ae<|RG.nl [vI 0,vI 0,vI 0,vI 0,vI 0,vI 0,vI 0,vI 0,vI 0,vI 0,vI 0,vI 0] (AI w) fun z0 q0 k0 s0=>Aa<|Ae<|RG.nl [vI 0,vI 0,vI 0,vI 0,vI 0,vI 0,vI 0,vI 0,vI 0,vI 0,vI 0,vI 0] k0 fun A0 j0 b0 t0=>Aa<|Ae<|Ac (FV.sliceA (len:=12) (m:=1) (p:=⟨j0,0,none⟩) I I)<|Ab I ?_
 have g0:=AH h0_0 b0
 have x0:=AY g0
 refine RG.doesL .plain I (DoesL.copyArr (fun z9:Int=>(vI z9:Vc)) (olds:=([(0:Int),(0:Int),(0:Int),(0:Int),(0:Int),(0:Int),(0:Int),(0:Int),(0:Int),(0:Int),(0:Int),(0:Int)]:Lb Int)) (ys:=a0) (pre:=[]) (post:=[]) (old:=[vI 0,vI 0,vI 0,vI 0,vI 0,vI 0,vI 0,vI 0,vI 0,vI 0,vI 0,vI 0]) (new' :=[vI (aw a0 0 (0:Int)),vI (aw a0 1 (0:Int)),vI (aw a0 2 (0:Int)),vI (aw a0 3 (0:Int)),vI (aw a0 4 (0:Int)),vI (aw a0 5 (0:Int)),vI (aw a0 6 (0:Int)),vI (aw a0 7 (0:Int)),vI (aw a0 8 (0:Int)),vI (aw a0 9 (0:Int)),vI (aw a0 10 (0:Int)),vI (aw a0 11 (0:Int))]) I (fun _ _ _ _ h9=>h9) b0 .hd I I I I I I I I (BO g0)) fun y0 B0 ⟨p0,c0,u0⟩=>?_
 subst p0
 refine Aa<|Ae<|Ac (AP I (c0.memA .hd))<|Bl [vI (aw a0 0 (0:Int)),vI (aw a0 1 (0:Int)),vI (aw a0 2 (0:Int)),vI (aw a0 3 (0:Int)),vI (aw a0 4 (0:Int)),vI (aw a0 5 (0:Int)),vI (aw a0 6 (0:Int)),vI (aw a0 7 (0:Int)),vI (aw a0 8 (0:Int)),vI (aw a0 9 (0:Int)),vI (aw a0 10 (0:Int)),vI (aw a0 11 (0:Int))] c0 .t1 (aC I) fun C0 d0 v0=>Aa<|Ap I<|Aw hb0 func41 I (.cons (.many (cs:=[vI (aw a0 0 (0:Int)),vI (aw a0 1 (0:Int)),vI (aw a0 2 (0:Int)),vI (aw a0 3 (0:Int)),vI (aw a0 4 (0:Int)),vI (aw a0 5 (0:Int)),vI (aw a0 6 (0:Int)),vI (aw a0 7 (0:Int)),vI (aw a0 8 (0:Int)),vI (aw a0 9 (0:Int)),vI (aw a0 10 (0:Int)),vI (aw a0 11 (0:Int))]) I I (d0.memA .t1)) .nil) I ?_
 cases h
 exact d0.gv
def ae (x:U8):Lb Vc:=[vU x.1,vU x.2.1,vU x.2.2.1,vU x.2.2.2.1,vU x.2.2.2.2.1,vU x.2.2.2.2.2.1,vU x.2.2.2.2.2.2.1,vU x.2.2.2.2.2.2.2]
def bK_l1 (_n:Nat) (t0:Nat×U8->Oa (U8)):Nat×U8->Oa (U8)
  | (b0,c0,d0,g0,j0,k0,p0,q0,s0)=>(if b0<8 then (([c0,d0,g0,j0,k0,p0,q0,s0]:Lb Ua)[b0]?).bind fun _z71=>t0 (b0+1,bf b0 0 (18446744073709551615:Ua) c0,bf b0 1 (18446744073709551615:Ua) d0,bf b0 2 (18446744073709551615:Ua) g0,bf b0 3 (18446744073709551615:Ua) j0,bf b0 4 (18446744073709551615:Ua) k0,bf b0 5 (18446744073709551615:Ua) p0,bf b0 6 (18446744073709551615:Ua) q0,bf b0 7 (18446744073709551615:Ua) s0) else some (c0,d0,g0,j0,k0,p0,q0,s0))
def bK_p (n:Nat) (a0:Int):Oa (U8):=
  (if a0<0 then Option.bind (ah (bK_l1 n) n (1,ac a0,0,0,0,0,0,0,0)) (fun (b0,c0,d0,g0,j0,k0,p0,q0)=>some (b0,c0,d0,g0,j0,k0,p0,q0)) else some (ac a0,0,0,0,0,0,0,0))
theorem bK_c (n:Nat) {L w} (_hL:hl L w) {a0:Int}  {r:U8} (h:bK_p n a0=some r) :
 Cl 8 #[vI a0] w (aj w fun _ u=>u=.agg ((ae r)).toArray):=by
 unfold bK_p at h
 refine AJ func8 I I I fun _ cs0 hb0=>Ae<|RG.nl zP (AI w) fun Y0 y0 E0 P0=>Aa<|Ae<|Ab I<|Ac (FV.convU (i:=a0) underlying3 underlying44 I)<|Ac (Bj (vs:=[vW ((ac a0).toNat:Int)]) (u:=.agg #[vW ((ac a0).toNat:Int),vW 0,vW 0,vW 0,vW 0,vW 0,vW 0,vW 0]) (e1 I) (fun w9=>by kernel_rfl))<|RG.nl zP E0 fun Z0 u0 F0 Q0=>Bl [vW ((ac a0).toNat:Int),vW 0,vW 0,vW 0,vW 0,vW 0,vW 0,vW 0] F0 .hd (aC I) fun b1 v0 R0=>Aa<|Ai<|Ae<|Ab I<|Ac (BR (i:=a0) (j:=0) I I)<|Aa<|AO I h (fun B0 h=>?_) (fun B0 h=>?_)
 refine Ae<|Af I<|Aa<|Aq ?_
 obtain ⟨X0,K0,J0⟩:=ai h
 refine MX.lo (α:=Nat×U8) (fun ⟨b0,c0,d0,g0,j0,k0,p0,q0,s0⟩=>[(2,vP y0),(3,vP u0),(4,vn b0)]) (fun ⟨b0,c0,d0,g0,j0,k0,p0,q0,s0⟩=>[.cells u0 [vU c0,vU d0,vU g0,vU j0,vU k0,vU p0,vU q0,vU s0] 46,.cells y0 zP 46]) (fun ⟨b0,c0,d0,g0,j0,k0,p0,q0,s0⟩=>(b0,c0,d0,g0,j0,k0,p0,q0,s0)) (1,ac a0,0,0,0,0,0,0,0) K0 v0 ?_
 rintro M0 ⟨b0,c0,d0,g0,j0,k0,p0,q0,s0⟩ j1 D0 t0 H0 h
 unfold bK_l1 at h
 try dsimp only at h
 refine Ai<|Ae<|Ab I<|Ac (Bp (i:=b0) (j:=8) I I)<|Aa<|AO I h (fun C0 h=>?_) (fun C0 h=>?_)
 refine Am<|Ai<|Aq<|Ak<|Ab I<|bk h fun k1 x0 h=>?_
 have W0:=bY (p:=⟨u0,0,none⟩) (cs:=([c0,d0,g0,j0,k0,p0,q0,s0]:Lb Ua).map (fun z9:Ua=>(vU z9:Vc))++[]) (i:=b0) (t0.memA .hd) (cW (fun z9:Ua=>(vU z9:Vc)) x0)
 refine Ac (AC (m:=1) (k:=b0) (len:=8) I I I I (dj x0 I))<|RG.now .plain (Acts.storeArr (fun z9:Ua=>(vU z9:Vc)) (xs:=([c0,d0,g0,j0,k0,p0,q0,s0]:Lb Ua)) (pre:=[]) (post:=[]) (i:=b0) (m:=8) (x:=(18446744073709551615:Ua)) (old:=[vU c0,vU d0,vU g0,vU j0,vU k0,vU p0,vU q0,vU s0]) (new' :=[vW ((bf b0 0 (18446744073709551615:Ua) c0).toNat:Int),vW ((bf b0 1 (18446744073709551615:Ua) d0).toNat:Int),vW ((bf b0 2 (18446744073709551615:Ua) g0).toNat:Int),vW ((bf b0 3 (18446744073709551615:Ua) j0).toNat:Int),vW ((bf b0 4 (18446744073709551615:Ua) k0).toNat:Int),vW ((bf b0 5 (18446744073709551615:Ua) p0).toNat:Int),vW ((bf b0 6 (18446744073709551615:Ua) q0).toNat:Int),vW ((bf b0 7 (18446744073709551615:Ua) s0).toNat:Int)]) I I (dj x0 I) t0 .hd I (pC _ _ _) I I (fun _=>⟨I,I⟩) I I) fun c1 G0 I0=>Aa<|Ao<|Ak<|Ab I<|Ac (AW (i:=b0) (j:=1) I I (by omega))<|Af I<|Aa<|D0 (b0+1,bf b0 0 (18446744073709551615:Ua) c0,bf b0 1 (18446744073709551615:Ua) d0,bf b0 2 (18446744073709551615:Ua) g0,bf b0 3 (18446744073709551615:Ua) j0,bf b0 4 (18446744073709551615:Ua) k0,bf b0 5 (18446744073709551615:Ua) p0,bf b0 6 (18446744073709551615:Ua) q0,bf b0 7 (18446744073709551615:Ua) s0) G0 (Tt H0 I0) h
 refine AT I ?_
 have h:=J0 _ h
 try dsimp only at h
 refine Ae<|Ac (AP I (t0.memA .hd))<|Bl [vU c0,vU d0,vU g0,vU j0,vU k0,vU p0,vU q0,vU s0] t0 .t1 (aC I) fun d1 z0 U0=>Aa<|Ap I<|Aw hb0 func8 I (.cons (.many (cs:=[vU c0,vU d0,vU g0,vU j0,vU k0,vU p0,vU q0,vU s0]) I I (z0.memA .t1)) .nil) I ?_
 cases h
 exact z0.gv
 refine Am<|Ae<|Ac (AP I (v0.memA .hd))<|Bl [vW ((ac a0).toNat:Int),vW 0,vW 0,vW 0,vW 0,vW 0,vW 0,vW 0] v0 .t1 (aC I) fun g1 A0 V0=>Aa<|Ap I<|Aw hb0 func8 I (.cons (.many (cs:=[vW ((ac a0).toNat:Int),vW 0,vW 0,vW 0,vW 0,vW 0,vW 0,vW 0]) I I (A0.memA .t1)) .nil) I ?_
 cases h
 exact A0.gv
end Go.Proofs.YtkimkkgicmipbaaGreatDoor
