import Derived.Test.YtkimkkgicmipbaaGreatDoorVT6
namespace Go.Proofs.YtkimkkgicmipbaaGreatDoor
open Go Go.RowKit Tryz
set_option maxRecDepth 4000
set_option maxHeartbeats 4000000

def bb_p (n:Nat) (a0:Tg) (a1:Ua):Oa Te:=
  (ae_p n a0.fB a1).bind fun b0=>(bM_p n b0.1).bind fun c0=>(cj_p n c0).bind fun d0=>some d0
theorem bb_c (n:Nat) {L w} (hL:hl L w) (a0:Tg) {v0_0:Vc} (_h0_0:Rep.R w L [v0_0] a0.fx.fu) {v0_5:Vc} (h0_5:Rep.R w L [v0_5] a0.fB.fo) (a1:Ua) (hG0:Glob 0 tab0 w)  {r:Te} (h:bb_p n a0 a1=some r) :
 Cl 96 #[.agg #[v0_0,vI a0.fx.fm,vI a0.fx.fh,vI a0.fx.fc,vI a0.fB.fN,v0_5],vU a1] w (aj w fun w' u=>∃ v0_1 v0_3:Vc,u=.agg #[.bool r.fp.fe,v0_1,.bool r.fl.fe,v0_3]/\Rep.R w' L [v0_1] r.fp.fk/\Rep.R w' L [v0_3] r.fl.fk):=by
 unfold bb_p at h
 refine AJ func96 I I I fun _ cs0 hb0=>Ae<|RG.bx (AI w) I I fun Y0 H0 x0 K0=>RG.nl [.bool false,vN,.bool false,vN] x0 fun Z0 I0 b0 M0=>Aa<|Ae<|Bh 4 I<|Ac (BK (cs:=[vI a0.fB.fN,v0_5]) I I (ay (b0.memA .t1) 4 2))<|Ab I<|bk h fun d0 D0 h=>Bz (.tuple #[.agg ((ae d0.1)).toArray,vI d0.2]) (bd 124) I (e2 I I) (fun p q=>ae_c n (b0.hL0 hL q) a0.fB (b0.k0 h0_5 q) a1 (hG0.keep (b0.ag.trans q)) D0) I<|Ab I<|Ac (Al I I)<|Ac (Al I I)<|RG.nl zP b0 fun b1 J0 y0 P0=>Bl (ae d0.1) y0 .hd (aC I) fun c1 j0 Q0=>Af I<|Aa<|Ae<|Ac (AP I (j0.memA .hd))<|bk h fun G0 E0 h=>jE (bd 82) I (e1 I) (fun p q=>bM_c n (j0.hL hL q) d0.1 E0) I fun d1 W0 A0 ⟨V0,hu_,C0⟩=>?_
 subst hu_
 obtain ⟨s0,R0⟩:=j0.agr A0
 refine bk h fun g0 F0 h=>jE (bd 101) I (e1 I) (fun p q=>cj_c n (s0.hL hL q) G0 (Ax C0 q) F0) I fun g1 X0 B0 ⟨p0,q0,hu_,u0,v0⟩=>?_
 subst hu_
 obtain ⟨z0,U0⟩:=s0.agr B0
 refine Bl [.bool g0.fp.fe,p0,.bool g0.fl.fe,q0] z0 .t1 (o4 I (Bs u0) I (Bs v0)) fun j1 c0 t0=>Aa<|Ap I<|Aw hb0 func96 I (.cons (.many (cs:=[.bool g0.fp.fe,p0,.bool g0.fl.fe,q0]) I I (c0.memA .t1)) .nil) I ?_
 cases h
 exact ⟨c0.ag,fun p q=>⟨p0,q0,I,c0.kd (AB u0 t0) q,c0.kd (AB v0 t0) q⟩⟩
def aD_l1 (n:Nat) (d0:(Lb Ua)×(Lb Ua)->Oa (Lb Ua)):(Lb Ua)×(Lb Ua)->Oa (Lb Ua)
  | (c0,b0)=>(if 0<b0.length then (aF_p n c0 b0).bind fun g0=>d0 (b0,g0.2) else some c0)
def aD_p (n:Nat) (a0:Tb) (a1:Tb):Oa Tb:=
  Option.bind (ah (aD_l1 n) n (a0.fk,a1.fk)) (fun b0=>some (⟨false,b0⟩:Tb))
theorem aD_c (n:Nat) {L w} (hL:hl L w) (a0:Tb) {v0_1:Vc} (h0_1:Rep.R w L [v0_1] a0.fk) (a1:Tb) {v1_1:Vc} (h1_1:Rep.R w L [v1_1] a1.fk)  {r:Tb} (h:aD_p n a0 a1=some r) :
 Cl 111 #[.agg #[.bool a0.fe,v0_1],.agg #[.bool a1.fe,v1_1]] w (aj w fun w' u=>∃ v0_1:Vc,u=.agg #[.bool r.fe,v0_1]/\Rep.R w' L [v0_1] r.fk):=by
 unfold aD_p at h
 refine AJ func111 I I I fun _ cs0 hb0=>Ae<|RG.bx (AI w) I I fun s1 W0 C0 Z0=>RG.bx C0 I I fun u1 X0 D0 b1=>RG.nl [.bool false,vN] D0 fun v1 p0 t0 c1=>Aa<|Ai<|du 6 fun d0 j0=>Rv 0 d0 I j0 (fun _=>Bv 1 I)<|Rx 1 48 d0 I j0 (Ay I ((t0.memA .t2) 1 _ I))<|Rv 2 d0 I j0 (fun _=>Bv 1 I)<|Rx 3 32 d0 I j0 (Ay I ((t0.memA .t1) 1 _ I))<|Rv 4 d0 I j0 (fun _=>Bi I)<|Rv 5 d0 I j0 (fun _=>Bi I)<|AQ (dk d0)<|Ai<|Aq ?_
 obtain ⟨u0,d1⟩:=AX t0 (.a0 .done)
 obtain ⟨k1,J0,I0⟩:=ai h
 refine MX.lf (α:=(Lb Ua)×(Lb Ua)×Vc×Vc) (fun ⟨k0,c0,b0,g0⟩=>[(4,vP p0),(5,b0),(6,g0)]) (fun ⟨k0,c0,b0,g0⟩=>[.cells p0 [.bool false,vN] 119]) (fun ⟨k0,c0,b0,g0⟩ y0=>Rep.R y0 (bl [.cells p0 [.bool false,vN] 119]++L) [b0] k0/\Rep.R y0 (bl [.cells p0 [.bool false,vN] 119]++L) [g0] c0) (fun ⟨k0,c0,b0,g0⟩=>(k0,c0)) (a0.fk,a1.fk,v0_1,v1_1) J0 u0 ⟨(AH h0_1 u0),(AH h1_1 u0)⟩ ?_
 rintro V0 ⟨k0,c0,b0,g0⟩ y0 B0 v0 F0 ⟨q0,s0⟩ h
 unfold aD_l1 at h
 try dsimp only at h
 refine Ai<|Ae<|Ab I ?_
 have g1:=AY s0
 refine Ac (Bf (xs:=c0) underlying101 I s0)<|Ac (FV.gtrN (i:=c0.length) (j:=0) I I)<|Aa<|AO I h (fun A0 h=>?_) (fun A0 h=>?_)
 refine Am<|Aq<|Ae<|Ab I<|Ab I<|bk h fun R0 P0 h=>jE (bd 131) I (e2 I I) (fun p q=>aF_c n (v0.hL hL q) (Ax q0 q) (Ax s0 q) P0) I fun x1 q1 H0 ⟨p1,Q0,hu_,j1,K0⟩=>?_
 subst hu_
 obtain ⟨E0,z0⟩:=v0.agr H0
 refine Ab I<|Ac (Al I I)<|Ac (Al I I)<|Af I<|Af I<|Aa<|Ak<|Ab I<|Ab I<|Af I<|Af I<|Aa<|Ao<|B0 (c0,R0.2,g0,Q0) E0 (Tt F0 z0) ⟨(AB s0 z0),K0⟩ h
 refine AT I ?_
 have h:=I0 _ h
 try dsimp only at h
 refine Ae<|Ab I ?_
 obtain ⟨U0,Y0,M0,_⟩:=Rep.sl q0
 refine Ac (Bj (vs:=[b0]) (u:=.agg #[.bool false,b0]) (e1 I) (fun p=>by rw [M0]; try kernel_rfl))<|Bl [.bool false,b0] v0 .hd (o2 I (Bs q0)) fun y1 x0 G0=>Aa<|Ap I<|Aw hb0 func111 I (.cons (.many (cs:=[.bool false,b0]) I I (x0.memA .hd)) .nil) I ?_
 cases h
 exact ⟨x0.ag,fun p q=>⟨b0,I,x0.kd (AB q0 G0) q⟩⟩
def bt_p (n:Nat) (a0:Tb) (a1:Tb):Oa Te:=
  (aD_p n a0 a1).bind fun c0=>(ba_p n a0 c0).bind fun d0=>(ba_p n a1 c0).bind fun b0=>(if b0.1.fe=true then (aS_p n d0.1).bind fun g0=>(aS_p n b0.1).bind fun j0=>some (⟨g0,j0⟩:Te) else some (⟨d0.1,b0.1⟩:Te))
theorem bt_c (n:Nat) {L w} (hL:hl L w) (a0:Tb) {v0_1:Vc} (h0_1:Rep.R w L [v0_1] a0.fk) (a1:Tb) {v1_1:Vc} (h1_1:Rep.R w L [v1_1] a1.fk)  {r:Te} (h:bt_p n a0 a1=some r) :
 Cl 81 #[.agg #[.bool a0.fe,v0_1],.agg #[.bool a1.fe,v1_1]] w (aj w fun w' u=>∃ v0_1 v0_3:Vc,u=.agg #[.bool r.fp.fe,v0_1,.bool r.fl.fe,v0_3]/\Rep.R w' L [v0_1] r.fp.fk/\Rep.R w' L [v0_3] r.fl.fk):=by
 unfold bt_p at h
 refine AJ func81 I I I fun _ cs0 hb0=>Ae<|RG.bx (AI w) I I fun k3 D2 z1 U2=>RG.bx z1 I I fun x3 E2 C1 V2=>RG.nl [.bool false,vN,.bool false,vN] C1 fun y3 F2 j0 W2=>Aa<|Ae<|Ac (AP I (j0.memA .t2))<|Ac (AP I (j0.memA .t1))<|bk h fun X0 q2 h=>jE (bd 111) I (e2 I I) (fun p q=>aD_c n (j0.hL hL q) a0 (j0.km h0_1 q) a1 (j0.km h1_1 q) q2) I fun z3 b3 W1 ⟨v2,hu_,W0⟩=>?_
 subst hu_
 obtain ⟨D1,X2⟩:=j0.agr W1
 refine RG.nl [.bool false,vN] D1 fun A3 G2 E1 J0=>Bl [.bool X0.fe,v2] E1 .hd (o2 I (Bs (AB W0 J0))) fun B3 t0 d1=>Aa<|Ae<|Ac (AP I (t0.memA .t3))<|Ac (AP I (t0.memA .hd))<|bk h fun d0 s2 h=>jE (bd 112) I (e2 I I) (fun p q=>ba_c n (t0.hL hL q) a0 (t0.km h0_1 q) X0 (Ax (AB W0 (Tt J0 d1)) q) s2) I fun C3 c3 X1 ⟨q0,x2,hu_,F0,Z1⟩=>?_
 subst hu_
 obtain ⟨F1,R1⟩:=t0.agr X1
 refine Ab I<|Ac (Al I I)<|Ac (Al I I)<|RG.nl [.bool false,vN] F1 fun D3 H2 G1 K0=>RG.nl [.bool false,vN] G1 fun E3 I2 H1 M0=>Bl [.bool d0.1.fe,q0] H1 .t1 (o2 I (Bs (AB F0 (Tt K0 M0)))) fun F3 I1 g1=>?_
 have R0:=Tt K0 (Tt M0 g1)
 refine Bl [.bool d0.2.fe,x2] I1 .hd (o2 I (Bs (AB Z1 R0))) fun G3 u0 P0=>Aa<|Ae<|Ac (AP I (u0.memA .t4))<|Ac (AP I (u0.memA .t2))<|bk h fun g0 u2 h=>jE (bd 112) I (e2 I I) (fun p q=>ba_c n (u0.hL hL q) a1 (u0.km h1_1 q) X0 (Ax (AB W0 (Tt J0 (Tt d1 (Tt R1 (Tt K0 (Tt M0 (Tt g1 P0))))))) q) u2) I fun H3 d3 Y1 ⟨s0,y2,hu_,G0,b2⟩=>?_
 subst hu_
 obtain ⟨J1,j1⟩:=u0.agr Y1
 refine Ab I<|Ac (Al I I)<|Ac (Al I I)<|RG.nl [.bool false,vN] J1 fun I3 J2 K1 C0=>RG.nl [.bool false,vN] K1 fun J3 K2 M1 D0=>Bl [.bool g0.1.fe,s0] M1 .t1 (o2 I (Bs (AB G0 (Tt C0 D0)))) fun K3 P1 Q0=>?_
 have E0:=Tt C0 (Tt D0 Q0)
 refine Bl [.bool g0.2.fe,y2] P1 .hd (o2 I (Bs (AB b2 E0))) fun g3 b0 v0=>Aa<|Ai<|Ae<|Bh 0 I<|AG I ((b0.memA .t1) 0 _ I)<|Aa<|MX.ifb I h (fun y1 h=>?_) (fun y1 h=>?_)
 refine du 4 fun c0 x1=>Rx 0 58 c0 I x1 (AP I (b0.memA .t3))<|Rx 2 56 c0 I x1 (AP I (b0.memA .t1))<|bk h fun x0 k2 h=>BQ 1 7 c0 I .plain (bd 113) I (e1 I) (fun p q=>aS_c n (b0.hL hL q) d0.1 (Ax (AB F0 (Tt R0 (Tt P0 (Tt j1 (Tt C0 (Tt D0 (Tt Q0 v0))))))) q) k2) I fun j3 Y2 U1 ⟨k0,hu_,U0⟩=>?_
 subst hu_
 obtain ⟨Y0,Q1⟩:=b0.agr U1
 refine bk h fun y0 p2 h=>BQ 3 15 c0 I .plain (bd 113) I (e1 I) (fun p q=>aS_c n (Y0.hL hL q) g0.1 (Ax (AB G0 (Tt E0 (Tt v0 Q1))) q) p2) I fun p3 Z2 V1 ⟨p0,hu_,V0⟩=>?_
 subst hu_
 obtain ⟨A1,Z0⟩:=Y0.agr V1
 refine BC 4 31 c0 I I .plain (Az (news:=[.bool x0.fe,k0]) A1 .t3 I I I I I I (o2 I (Bs (AB U0 Z0)))) fun q3 B1 B0=>BC 5 63 c0 I I .plain (Az (news:=[.bool y0.fe,p0]) B1 .t1 I I I I I I (o2 I (Bs (AB V0 B0)))) fun s3 H0 I0=>AQ (dk c0)<|Ae<|Ac (AP I (H0.memA .t3))<|Ac (AP I (H0.memA .t1)) ?_
 have u1:=Tt Z0 (Tt B0 I0)
 have k1:=AB U0 u1
 obtain ⟨z2,M2,c2,_⟩:=Rep.sl k1
 have p1:=AB V0 (Tt B0 I0)
 obtain ⟨A2,P2,d2,_⟩:=Rep.sl p1
 refine Ac (Bj (vs:=[.agg #[.bool x0.fe,k0],.agg #[.bool y0.fe,p0]]) (u:=.agg #[.bool x0.fe,k0,.bool y0.fe,p0]) (e2 I I) (fun p=>by rw [c2,d2]; try kernel_rfl))<|Bl [.bool x0.fe,k0,.bool y0.fe,p0] H0 .t5 (o4 I (Bs k1) I (Bs p1)) fun u3 z0 b1=>Aa<|Ap I<|Aw hb0 func81 I (.cons (.many (cs:=[.bool x0.fe,k0,.bool y0.fe,p0]) I I (z0.memA .t5)) .nil) I ?_
 cases h
 exact ⟨z0.ag,fun p q=>⟨k0,p0,I,z0.kd (AB U0 (Tt u1 b1)) q,z0.kd (AB V0 (Tt B0 (Tt I0 b1))) q⟩⟩
 refine Am<|Ae<|Ac (AP I (b0.memA .t3))<|Ac (AP I (b0.memA .t1)) ?_
 have v1:=Tt R0 (Tt P0 (Tt j1 (Tt C0 (Tt D0 (Tt Q0 v0)))))
 have q1:=AB F0 v1
 obtain ⟨B2,Q2,g2,_⟩:=Rep.sl q1
 have s1:=AB G0 (Tt E0 v0)
 obtain ⟨C2,R2,j2,_⟩:=Rep.sl s1
 refine Ac (Bj (vs:=[.agg #[.bool d0.1.fe,q0],.agg #[.bool g0.1.fe,s0]]) (u:=.agg #[.bool d0.1.fe,q0,.bool g0.1.fe,s0]) (e2 I I) (fun p=>by rw [g2,j2]; try kernel_rfl))<|Bl [.bool d0.1.fe,q0,.bool g0.1.fe,s0] b0 .t5 (o4 I (Bs q1) I (Bs s1)) fun v3 A0 c1=>Aa<|Ap I<|Aw hb0 func81 I (.cons (.many (cs:=[.bool d0.1.fe,q0,.bool g0.1.fe,s0]) I I (A0.memA .t5)) .nil) I ?_
 cases h
 exact ⟨A0.ag,fun p q=>⟨q0,s0,I,A0.kd (AB F0 (Tt v1 c1)) q,A0.kd (AB G0 (Tt E0 (Tt v0 c1))) q⟩⟩
def bc_p (n:Nat) (a0:Te) (a1:Te):Oa Te:=
  (ao_p n a0.fp a1.fp).bind fun b0=>(ao_p n a0.fl a1.fl).bind fun c0=>(bt_p n b0 c0).bind fun d0=>some d0
theorem bc_c (n:Nat) {L w} (hL:hl L w) (a0:Te) {v0_1:Vc} (h0_1:Rep.R w L [v0_1] a0.fp.fk) {v0_3:Vc} (h0_3:Rep.R w L [v0_3] a0.fl.fk) (a1:Te) {v1_1:Vc} (h1_1:Rep.R w L [v1_1] a1.fp.fk) {v1_3:Vc} (h1_3:Rep.R w L [v1_3] a1.fl.fk)  {r:Te} (h:bc_p n a0 a1=some r) :
 Cl 97 #[.agg #[.bool a0.fp.fe,v0_1,.bool a0.fl.fe,v0_3],.agg #[.bool a1.fp.fe,v1_1,.bool a1.fl.fe,v1_3]] w (aj w fun w' u=>∃ v0_1 v0_3:Vc,u=.agg #[.bool r.fp.fe,v0_1,.bool r.fl.fe,v0_3]/\Rep.R w' L [v0_1] r.fp.fk/\Rep.R w' L [v0_3] r.fl.fk):=by
 unfold bc_p at h
 refine AJ func97 I I I fun _ cs0 hb0=>Ae<|RG.bx (AI w) I I fun g1 M0 x0 R0=>RG.bx x0 I I fun j1 P0 y0 U0=>RG.nl [.bool false,vN,.bool false,vN] y0 fun k1 Q0 c0 V0=>Aa<|Ai<|du 11 fun b0 d0=>Rv 0 b0 I d0 (fun _=>Bv 0 I)<|Rx 1 3600 b0 I d0 (BK (cs:=[.bool a0.fp.fe,v0_1]) I I (ay (c0.memA .t2) 0 2))<|Rv 2 b0 I d0 (fun _=>Bv 0 I)<|Rx 3 3600 b0 I d0 (BK (cs:=[.bool a1.fp.fe,v1_1]) I I (ay (c0.memA .t1) 0 2))<|Rv 5 b0 I d0 (fun _=>Bv 2 I)<|Rx 6 3584 b0 I d0 (BK (cs:=[.bool a0.fl.fe,v0_3]) I I (ay (c0.memA .t2) 2 2))<|Rv 7 b0 I d0 (fun _=>Bv 2 I)<|Rx 8 3584 b0 I d0 (BK (cs:=[.bool a1.fl.fe,v1_3]) I I (ay (c0.memA .t1) 2 2))<|bk h fun J0 G0 h=>BQ 4 511 b0 I .plain (bd 125) I (e2 I I) (fun p q=>ao_c n (c0.hL hL q) a0.fp (c0.km h0_1 q) a1.fp (c0.km h1_1 q) G0) I fun p1 b1 B0 ⟨Y0,hu_,E0⟩=>?_
 subst hu_
 obtain ⟨g0,W0⟩:=c0.agr B0
 refine bk h fun K0 H0 h=>BQ 9 1023 b0 I .plain (bd 125) I (e2 I I) (fun p q=>ao_c n (g0.hL hL q) a0.fl (g0.km h0_3 q) a1.fl (g0.km h1_3 q) H0) I fun q1 c1 C0 ⟨Z0,hu_,F0⟩=>?_
 subst hu_
 obtain ⟨s0,A0⟩:=g0.agr C0
 refine bk h fun k0 I0 h=>BQ 10 2047 b0 I .plain (bd 81) I (e2 I I) (fun p q=>bt_c n (s0.hL hL q) J0 (Ax (AB E0 A0) q) K0 (Ax F0 q) I0) I fun s1 d1 D0 ⟨p0,q0,hu_,u0,v0⟩=>?_
 subst hu_
 obtain ⟨z0,X0⟩:=s0.agr D0
 refine BC 11 4095 b0 I I .plain (Az (news:=[.bool k0.fp.fe,p0,.bool k0.fl.fe,q0]) z0 .hd I I I I I I (o4 I (Bs u0) I (Bs v0))) fun u1 j0 t0=>AQ (dk b0)<|Ap I<|Aw hb0 func97 I (.cons (.many (cs:=[.bool k0.fp.fe,p0,.bool k0.fl.fe,q0]) I I (j0.memA .hd)) .nil) I ?_
 cases h
 exact ⟨j0.ag,fun p q=>⟨p0,q0,I,j0.kd (AB u0 t0) q,j0.kd (AB v0 t0) q⟩⟩
theorem cD_c (_n:Nat) {L w} (_hL:hl L w) (a0:Ua)  :
 Cl 98 #[vU a0] w (aj w fun w' u=>∃ b0:Nat,u=.func (.func 126) #[] #[vP b0]/\St w w' [.cells b0 [vU a0] 44]):=by
 refine AJ func98 I I I fun _ cs0 hb0=>Ae<|RG.bx (AI w) I I fun g0 b0 c0 d0=>Af I<|Aa<|Ae<|Ac (FV.makeFunc (vs:=[]) (us:=[vP b0]) aB (e1 I))<|Af I<|Aa<|Ap I<|Aw (u:=.func (.func 126) #[] #[vP b0]) hb0 func98 I (.cons (.tmp I) .nil) I<|⟨c0.ag,fun p q=>⟨b0,I,c0.agree q⟩⟩
def aX_p (_n:Nat) (a0:Lb Int):Oa (Lb Int):=
  ce a0 (some ([]:Lb Int)) ((app ([]:Lb Int) a0).bind fun b0=>some b0)
theorem aX_c (n:Nat) {L w} (_hL:hl L w) {a0:Lb Int} {v0_0:Vc} (h0_0:Rep.R w L [v0_0] a0)  {r:Lb Int} (h:aX_p n a0=some r) :
 Cl 127 #[v0_0] w (aj w fun w' u=>∃ (v0_0:Vc) (cs0_0:Lb Vc),u=v0_0/\St w w' (bh w.heap.size [(3,Rep.size Int,v0_0,r.length,cs0_0)])/\Cells w' (bl (bh w.heap.size [(3,Rep.size Int,v0_0,r.length,cs0_0)])++L) cs0_0 (r:Lb Int)):=by
 unfold aX_p at h
 have hS0:=AI w
 refine AJ func127 I I I fun _ cs0 hb0=>Ae<|Af I<|Aa<|Ai<|Ae<|Ab I ?_
 rcases Rep.nilOr h0_0 with ⟨c1,he3,hx4⟩ | ⟨ad2,c1,he3⟩
 have h:=fU h hx4
 refine Ac (FV.eqlNil1 underlying36 I he3 I)<|Aa<|Ba I<|Ae<|Af I<|Aa<|Ap I ?_
 have b0:=hS0.nilRow 3 (Rep.size Int)
 have t0:=BW hS0 3 (Rep.size Int)
 have k0:=AD (cs:=[]) (xs:=([]:Lb Int)) b0 L (AK _ _)
 refine Aw (u:=vN) hb0 func127 I (.cons (.tmp I) .nil) I ?_
 cases h
 exact ⟨b0.ag,fun p q=>⟨vN,[],I,b0.agree q,Cells.keep0 k0 q⟩⟩
 have h:=fT h
 refine Ac (FV.eqlNil0 underlying36 I he3 I)<|Aa<|Bn I<|Am<|Ae<|Av .plain I (jB Int hS0 qi) fun x0 s0 c0 u0=>Ab I<|bk h fun z0 q0 h=>RG.doesL .plain I (AL (α:=Int) (ys:=a0) q0 c0 (fun _ _=>.hd) qi I I (jD Int c0 L) (BO (AH h0_0 c0))) fun g0 y0 ⟨j0,d0,v0,p0⟩=>Af I<|Aa<|Ap I<|Aw (u:=g0) hb0 func127 I (.cons (.tmp I) .nil) I ?_
 cases h
 exact ⟨d0.ag,fun p q=>⟨g0,j0,I,d0.agree q,Cells.keep0 p0 q⟩⟩
def bU_l1 (_n:Nat) (a0:Lb Int) (a1:Int) (a2:Int) (a3:Ua) (d0:Nat×(Lb Int)->Oa (Lb Int)):Nat×(Lb Int)->Oa (Lb Int)
  | (b0,c0)=>(if b0<a0.length then (a0[b0]?).bind fun q0=>(if q0=a1 then (c0[b0]?).bind fun _x336=>(put c0 ((b0:Nat):Int) a2).bind fun g0=>jn (fun s0=>d0 (b0+1,s0)) (fun k0=>(if ((shrU a3 b0)&&&(1:Ua))=(1:Ua) then (g0[b0]?).bind fun _x382=>(put g0 ((b0:Nat):Int) a1).bind fun t0=>k0 t0 else k0 g0)) else (if q0=a2 then (c0[b0]?).bind fun _x401=>(put c0 ((b0:Nat):Int) a2).bind fun j0=>jn (fun u0=>d0 (b0+1,u0)) (fun p0=>(if ((shrU a3 b0)&&&(1:Ua))=(1:Ua) then (j0[b0]?).bind fun _x447=>(put j0 ((b0:Nat):Int) a1).bind fun v0=>p0 v0 else p0 j0)) else d0 (b0+1,c0))) else some c0)
def bU_p (n:Nat) (a0:Lb Int) (a1:Int) (a2:Int) (a3:Ua):Oa (Lb Int):=
  (aX_p n a0).bind fun y1=>Option.bind (ah (bU_l1 n a0 a1 a2 a3) n (0,y1)) (fun b0=>(bH_p n b0).bind fun c0=>some c0.1)
theorem bU_c (n:Nat) {L w} (hL:hl L w) {a0:Lb Int} {v0_0:Vc} (h0_0:Rep.R w L [v0_0] a0) {a1:Int} {a2:Int} (a3:Ua)  {r:Lb Int} (h:bU_p n a0 a1 a2 a3=some r) :
 Cl 99 #[v0_0,vI a1,vI a2,vU a3] w (aj w fun w' u=>∃ v0_0:Vc,u=v0_0/\Rep.R w' L [v0_0] r):=by
 unfold bU_p at h
 have hS0:=AI w
 refine AJ func99 I I I fun _ cs0 hb0=>Ae<|Af I<|Aa<|Ae<|Ab I<|bk h fun y1 hy1 h=>jE (bd 127) I (e1 I) (fun p q=>fV (b0:=w.heap.size) (aX_c n (hS0.hL hL q) (Ax h0_0 q) hy1) q (Nat.le_trans hS0.ag.size q.size)) I fun w2 vu3 hag4 ⟨v9,H0,hu6,s5,c2⟩=>?_
 subst hu6
 have hS7:=gX hS0 s5
 have hT8:=mh hS0 s5
 refine Af I<|Aa<|Ai<|Ae<|Ab I ?_
 have Y0:=AH h0_0 hS7
 have F3:=AY Y0
 refine Ac (Bf (xs:=a0) underlying36 I Y0)<|Ab I<|Aa<|Aq ?_
 obtain ⟨K3,A2,x2⟩:=ai h
 refine MX.lf (α:=Nat×(Lb Int)×(Lb Vc)) (fun ⟨c0,g0,p0⟩=>[(1,vI a1),(2,vI a2),(3,vU a3),(9,vu3),(16,v0_0),(17,vn a0.length),(18,vn c0)]) (fun ⟨c0,g0,p0⟩=>[rr w 3 Int vu3 g0.length p0]) (fun ⟨c0,g0,p0⟩ Z0=>Cells Z0 (bl [rr w 3 Int vu3 g0.length p0]++L) p0 g0) (fun ⟨c0,g0,p0⟩=>(c0,g0)) (0,y1,H0) A2 hS7 (AD (cs:=H0) (xs:=(y1:Lb Int)) hS7 L (eX c2)) ?_
 rintro p3 ⟨c0,g0,p0⟩ Z0 x0 d0 z0 t0 h
 unfold bU_l1 at h
 try dsimp only at h
 refine Ae<|Ac (Bp (i:=c0) (j:=a0.length) I I)<|Aa<|Ai<|AO I h (fun v1 h=>?_) (fun v1 h=>?_)
 refine Am<|Ai<|Aq<|Ae<|Ab I<|bk h fun G0 H2 h=>?_
 obtain ⟨k3,t3,p2,y2,C1,B2,z2⟩:=Bq (AH h0_0 d0) H2
 have q2:C1=[vI G0]:=B2; subst q2
 refine Ac (AU 1 c0 I p2 I I y2)<|AG I (z2 0 _ I)<|Af I<|Af I<|Aa<|Ai<|Ae<|Ab I<|Ab I<|Ac (FV.neq (i:=G0) (j:=a1) I I)<|Ab I<|RG.ifn (s:=26) I h (fun x1 h=>?_) (fun x1 h=>?_)
 refine Aj<|Aj<|Aj<|Bo I I<|Aa<|Bn I<|Am<|Ae<|Ab I<|Ab I<|Ab I<|bk h fun X2 I2 h=>?_
 obtain ⟨d1,u3,C0,U0,D1,C2,G3⟩:=BF (α:=Int) d0 .hd t0 I2
 obtain ⟨p1,v3,M0⟩:=Bd (α:=Int) d0 .hd U0
 obtain rfl:d1=⟨p1,0,none⟩:=by rw [M0] at C0; cases C0; rfl
 have s2:D1=[vI X2]:=C2; subst s2
 refine Ac (AU 1 c0 I C0 I I U0)<|bk h fun c3 P2 h=>RG.acts' .plain (BE (α:=Int) (i:=c0) P2 d0 M0 (fun _=>.hd) t0 I I I I I I) fun P3 ⟨E1,u0,U1,A0⟩=>Aa<|Ae<|Ab I<|Ab I<|Ac (FV.shrU (a:=a3) (j:=c0) I I)<|Ac (Br (a:=shrU a3 c0) (b:=(1:Ua)) I I)<|Ac (FV.eqlU (a:=(shrU a3 c0)&&&(1:Ua)) (b:=(1:Ua)) I I)<|Aa<|MX.jf (α:=(Lb Int)×(Lb Vc)) (fun ⟨j0,q0⟩=>[(1,vI a1),(2,vI a2),(3,vU a3),(9,vu3),(16,v0_0),(17,vn a0.length),(18,vn c0)]) (fun ⟨j0,q0⟩=>[rr w 3 Int vu3 j0.length q0]) (fun ⟨j0,q0⟩ b1=>Cells b1 (bl [rr w 3 Int vu3 j0.length q0]++L) q0 j0) (fun ⟨j0,q0⟩=>j0) u0 h ?_ ?_
 rintro ⟨j0,q0⟩ b1 M1 V1 d2 h
 try dsimp only at h
 refine Ao<|Ak<|Ac (AW (i:=c0) (j:=1) I I (by omega))<|Ab I<|Aa<|x0 (c0+1,j0,q0) M1 (Tt z0 (Tt U1 V1)) d2 h
 intro q3 I0 h
 try dsimp only at h
 refine AO I h (fun z1 h=>?_) (fun z1 h=>?_)
 refine Ak<|Ab I<|Ab I<|Ab I<|bk h fun Y2 J2 h=>?_
 obtain ⟨g1,x3,D0,V0,F1,D2,H3⟩:=BF (α:=Int) u0 .hd A0 J2
 obtain ⟨q1,y3,P0⟩:=Bd (α:=Int) u0 .hd V0
 obtain rfl:g1=⟨q1,0,none⟩:=by rw [P0] at D0; cases D0; rfl
 have t2:F1=[vI Y2]:=D2; subst t2
 refine Ac (AU 1 c0 I D0 I I V0)<|bk h fun d3 Q2 h=>RG.acts' .plain (BE (α:=Int) (i:=c0) Q2 u0 P0 (fun _=>.hd) A0 I I I I I I) fun Q3 ⟨G1,P1,W1,g2⟩=>Aa<|I0 (d3,G1) P1 W1 g2 h
 refine Am<|I0 (c3,E1) u0 (By _ _) A0 h
 refine Au (Ah I)<|Au (Ah I)<|Au (FV.neq (i:=G0) (j:=a2) I I)<|Bm I I<|Aa<|MX.ifn I h (fun A1 h=>?_) (fun A1 h=>?_)
 refine Am<|Ae<|Ab I<|Ab I<|Ab I<|bk h fun Z2 K2 h=>?_
 obtain ⟨j1,z3,E0,W0,H1,E2,I3⟩:=BF (α:=Int) d0 .hd t0 K2
 obtain ⟨s1,A3,Q0⟩:=Bd (α:=Int) d0 .hd W0
 obtain rfl:j1=⟨s1,0,none⟩:=by rw [Q0] at E0; cases E0; rfl
 have u2:H1=[vI Z2]:=E2; subst u2
 refine Ac (AU 1 c0 I E0 I I W0)<|bk h fun g3 R2 h=>RG.acts' .plain (BE (α:=Int) (i:=c0) R2 d0 Q0 (fun _=>.hd) t0 I I I I I I) fun R3 ⟨I1,v0,X1,B0⟩=>Aa<|Ae<|Ab I<|Ab I<|Ac (FV.shrU (a:=a3) (j:=c0) I I)<|Ac (Br (a:=shrU a3 c0) (b:=(1:Ua)) I I)<|Ac (FV.eqlU (a:=(shrU a3 c0)&&&(1:Ua)) (b:=(1:Ua)) I I)<|Aa<|MX.jf (α:=(Lb Int)×(Lb Vc)) (fun ⟨k0,s0⟩=>[(1,vI a1),(2,vI a2),(3,vU a3),(9,vu3),(16,v0_0),(17,vn a0.length),(18,vn c0)]) (fun ⟨k0,s0⟩=>[rr w 3 Int vu3 k0.length s0]) (fun ⟨k0,s0⟩ c1=>Cells c1 (bl [rr w 3 Int vu3 k0.length s0]++L) s0 k0) (fun ⟨k0,s0⟩=>k0) v0 h ?_ ?_
 rintro ⟨k0,s0⟩ c1 Q1 Y1 j2 h
 try dsimp only at h
 refine Ao<|Ak<|Ac (AW (i:=c0) (j:=1) I I (by omega))<|Ab I<|Aa<|x0 (c0+1,k0,s0) Q1 (Tt z0 (Tt X1 Y1)) j2 h
 intro s3 J0 h
 try dsimp only at h
 refine AO I h (fun B1 h=>?_) (fun B1 h=>?_)
 refine Ak<|Ab I<|Ab I<|Ab I<|bk h fun b3 M2 h=>?_
 obtain ⟨k1,B3,F0,X0,J1,F2,J3⟩:=BF (α:=Int) v0 .hd B0 M2
 obtain ⟨u1,C3,R0⟩:=Bd (α:=Int) v0 .hd X0
 obtain rfl:k1=⟨u1,0,none⟩:=by rw [R0] at F0; cases F0; rfl
 have v2:J1=[vI b3]:=F2; subst v2
 refine Ac (AU 1 c0 I F0 I I X0)<|bk h fun j3 U2 h=>RG.acts' .plain (BE (α:=Int) (i:=c0) U2 v0 R0 (fun _=>.hd) B0 I I I I I I) fun U3 ⟨K1,R1,Z1,k2⟩=>Aa<|J0 (j3,K1) R1 Z1 k2 h
 refine Am<|J0 (g3,I1) v0 (By _ _) B0 h
 refine AT I<|Ak<|Ac (AW (i:=c0) (j:=1) I I (by omega))<|Ab I<|Aa<|x0 (c0+1,g0,p0) d0 z0 t0 h
 refine AT I ?_
 have h:=x2 _ h
 try dsimp only at h
 refine Ae<|Ab I ?_
 have y0:=BL d0 .hd
 have D3:=BM d0 .hd
 refine bk h fun W3 V2 h=>jE (bd 20) I (e1 I) (fun p q=>bH_c n (y0.hL hL q) (Ax (BN (α:=Int) (v:=vu3) (xs:=g0) y0 L (BA (α:=Int) d0 .hd t0 hL)) q) V2) I fun V3 M3 b2 ⟨W2,hu_,G2⟩=>?_
 subst hu_
 obtain ⟨K0,E3⟩:=y0.agr b2
 refine Ab I<|Ac (Al I I)<|Ac (Al I I)<|Af I<|Af I<|Aa<|Ae<|Ab I<|Af I<|Aa<|Ap I<|AV hb0 func99 I I ?_
 cases h
 exact ⟨K0.ag,fun p q=>⟨W2,I,K0.kd G2 q⟩⟩
def bX_p (n:Nat) (a0:Te) (a1:Te):Oa Te:=
  (ao_p n a0.fp a1.fl).bind fun b0=>(ao_p n a0.fl a1.fp).bind fun c0=>(bt_p n b0 c0).bind fun d0=>some d0
theorem bX_c (n:Nat) {L w} (hL:hl L w) (a0:Te) {v0_1:Vc} (h0_1:Rep.R w L [v0_1] a0.fp.fk) {v0_3:Vc} (h0_3:Rep.R w L [v0_3] a0.fl.fk) (a1:Te) {v1_1:Vc} (h1_1:Rep.R w L [v1_1] a1.fp.fk) {v1_3:Vc} (h1_3:Rep.R w L [v1_3] a1.fl.fk)  {r:Te} (h:bX_p n a0 a1=some r) :
 Cl 100 #[.agg #[.bool a0.fp.fe,v0_1,.bool a0.fl.fe,v0_3],.agg #[.bool a1.fp.fe,v1_1,.bool a1.fl.fe,v1_3]] w (aj w fun w' u=>∃ v0_1 v0_3:Vc,u=.agg #[.bool r.fp.fe,v0_1,.bool r.fl.fe,v0_3]/\Rep.R w' L [v0_1] r.fp.fk/\Rep.R w' L [v0_3] r.fl.fk):=by
 unfold bX_p at h
 refine AJ func100 I I I fun _ cs0 hb0=>Ae<|RG.bx (AI w) I I fun g1 M0 x0 R0=>RG.bx x0 I I fun j1 P0 y0 U0=>RG.nl [.bool false,vN,.bool false,vN] y0 fun k1 Q0 c0 V0=>Aa<|Ai<|du 11 fun b0 d0=>Rv 0 b0 I d0 (fun _=>Bv 0 I)<|Rx 1 3600 b0 I d0 (BK (cs:=[.bool a0.fp.fe,v0_1]) I I (ay (c0.memA .t2) 0 2))<|Rv 2 b0 I d0 (fun _=>Bv 2 I)<|Rx 3 3600 b0 I d0 (BK (cs:=[.bool a1.fl.fe,v1_3]) I I (ay (c0.memA .t1) 2 2))<|Rv 5 b0 I d0 (fun _=>Bv 2 I)<|Rx 6 3584 b0 I d0 (BK (cs:=[.bool a0.fl.fe,v0_3]) I I (ay (c0.memA .t2) 2 2))<|Rv 7 b0 I d0 (fun _=>Bv 0 I)<|Rx 8 3584 b0 I d0 (BK (cs:=[.bool a1.fp.fe,v1_1]) I I (ay (c0.memA .t1) 0 2))<|bk h fun J0 G0 h=>BQ 4 511 b0 I .plain (bd 125) I (e2 I I) (fun p q=>ao_c n (c0.hL hL q) a0.fp (c0.km h0_1 q) a1.fl (c0.km h1_3 q) G0) I fun p1 b1 B0 ⟨Y0,hu_,E0⟩=>?_
 subst hu_
 obtain ⟨g0,W0⟩:=c0.agr B0
 refine bk h fun K0 H0 h=>BQ 9 1023 b0 I .plain (bd 125) I (e2 I I) (fun p q=>ao_c n (g0.hL hL q) a0.fl (g0.km h0_3 q) a1.fp (g0.km h1_1 q) H0) I fun q1 c1 C0 ⟨Z0,hu_,F0⟩=>?_
 subst hu_
 obtain ⟨s0,A0⟩:=g0.agr C0
 refine bk h fun k0 I0 h=>BQ 10 2047 b0 I .plain (bd 81) I (e2 I I) (fun p q=>bt_c n (s0.hL hL q) J0 (Ax (AB E0 A0) q) K0 (Ax F0 q) I0) I fun s1 d1 D0 ⟨p0,q0,hu_,u0,v0⟩=>?_
 subst hu_
 obtain ⟨z0,X0⟩:=s0.agr D0
 refine BC 11 4095 b0 I I .plain (Az (news:=[.bool k0.fp.fe,p0,.bool k0.fl.fe,q0]) z0 .hd I I I I I I (o4 I (Bs u0) I (Bs v0))) fun u1 j0 t0=>AQ (dk b0)<|Ap I<|Aw hb0 func100 I (.cons (.many (cs:=[.bool k0.fp.fe,p0,.bool k0.fl.fe,q0]) I I (j0.memA .hd)) .nil) I ?_
 cases h
 exact ⟨j0.ag,fun p q=>⟨p0,q0,I,j0.kd (AB u0 t0) q,j0.kd (AB v0 t0) q⟩⟩
def bY_p (n:Nat) (a0:Te) (a1:Te):Oa Te:=
  (ao_p n a0.fp a1.fl).bind fun b0=>(ao_p n a1.fp a0.fl).bind fun c0=>(aw_p n b0 c0).bind fun d0=>(ao_p n a0.fl a1.fl).bind fun g0=>(bt_p n d0 g0).bind fun j0=>some j0
theorem bY_c (n:Nat) {L w} (hL:hl L w) (a0:Te) {v0_1:Vc} (h0_1:Rep.R w L [v0_1] a0.fp.fk) {v0_3:Vc} (h0_3:Rep.R w L [v0_3] a0.fl.fk) (a1:Te) {v1_1:Vc} (h1_1:Rep.R w L [v1_1] a1.fp.fk) {v1_3:Vc} (h1_3:Rep.R w L [v1_3] a1.fl.fk)  {r:Te} (h:bY_p n a0 a1=some r) :
 Cl 103 #[.agg #[.bool a0.fp.fe,v0_1,.bool a0.fl.fe,v0_3],.agg #[.bool a1.fp.fe,v1_1,.bool a1.fl.fe,v1_3]] w (aj w fun w' u=>∃ v0_1 v0_3:Vc,u=.agg #[.bool r.fp.fe,v0_1,.bool r.fl.fe,v0_3]/\Rep.R w' L [v0_1] r.fp.fk/\Rep.R w' L [v0_3] r.fl.fk):=by
 unfold bY_p at h
 refine AJ func103 I I I fun _ cs0 hb0=>Ae<|RG.bx (AI w) I I fun F1 c1 z0 j1=>RG.bx z0 I I fun G1 d1 A0 k1=>RG.nl [.bool false,vN,.bool false,vN] A0 fun H1 g1 d0 p1=>Aa<|Ai<|du 17 fun b0 c0=>Rv 0 b0 I c0 (fun _=>Bv 0 I)<|Rx 1 230928 b0 I c0 (BK (cs:=[.bool a0.fp.fe,v0_1]) I I (ay (d0.memA .t2) 0 2))<|Rv 2 b0 I c0 (fun _=>Bv 2 I)<|Rx 3 230928 b0 I c0 (BK (cs:=[.bool a1.fl.fe,v1_3]) I I (ay (d0.memA .t1) 2 2))<|Rv 5 b0 I c0 (fun _=>Bv 0 I)<|Rx 6 230912 b0 I c0 (BK (cs:=[.bool a1.fp.fe,v1_1]) I I (ay (d0.memA .t1) 0 2))<|Rv 7 b0 I c0 (fun _=>Bv 2 I)<|Rx 8 230912 b0 I c0 (BK (cs:=[.bool a0.fl.fe,v0_3]) I I (ay (d0.memA .t2) 2 2))<|Rv 11 b0 I c0 (fun _=>Bv 2 I)<|Rx 12 229376 b0 I c0 (BK (cs:=[.bool a0.fl.fe,v0_3]) I I (ay (d0.memA .t2) 2 2))<|Rv 13 b0 I c0 (fun _=>Bv 2 I)<|Rx 14 229376 b0 I c0 (BK (cs:=[.bool a1.fl.fe,v1_3]) I I (ay (d0.memA .t1) 2 2))<|bk h fun X0 Q0 h=>BQ 4 31231 b0 I .plain (bd 125) I (e2 I I) (fun p q=>ao_c n (d0.hL hL q) a0.fp (d0.km h0_1 q) a1.fl (d0.km h1_3 q) Q0) I fun I1 A1 E0 ⟨v1,hu_,J0⟩=>?_
 subst hu_
 obtain ⟨g0,q1⟩:=d0.agr E0
 refine bk h fun Y0 R0 h=>BQ 9 31743 b0 I .plain (bd 125) I (e2 I I) (fun p q=>ao_c n (g0.hL hL q) a1.fp (g0.km h1_1 q) a0.fl (g0.km h0_3 q) R0) I fun J1 B1 F0 ⟨x1,hu_,K0⟩=>?_
 subst hu_
 obtain ⟨t0,C0⟩:=g0.agr F0
 refine bk h fun Z0 U0 h=>BQ 10 32767 b0 I .plain (bd 128) I (e2 I I) (fun p q=>aw_c n (t0.hL hL q) X0 (Ax (AB J0 C0) q) Y0 (Ax K0 q) U0) I fun K1 C1 G0 ⟨y1,hu_,M0⟩=>?_
 subst hu_
 obtain ⟨j0,s1⟩:=t0.agr G0
 refine bk h fun b1 V0 h=>BQ 15 65535 b0 I .plain (bd 125) I (e2 I I) (fun p q=>ao_c n (j0.hL hL q) a0.fl (j0.km h0_3 q) a1.fl (j0.km h1_3 q) V0) I fun M1 D1 H0 ⟨z1,hu_,P0⟩=>?_
 subst hu_
 obtain ⟨u0,D0⟩:=j0.agr H0
 refine bk h fun p0 W0 h=>BQ 16 131071 b0 I .plain (bd 81) I (e2 I I) (fun p q=>bt_c n (u0.hL hL q) Z0 (Ax (AB M0 D0) q) b1 (Ax P0 q) W0) I fun P1 E1 I0 ⟨q0,s0,hu_,x0,y0⟩=>?_
 subst hu_
 obtain ⟨B0,u1⟩:=u0.agr I0
 refine BC 17 262143 b0 I I .plain (Az (news:=[.bool p0.fp.fe,q0,.bool p0.fl.fe,s0]) B0 .hd I I I I I I (o4 I (Bs x0) I (Bs y0))) fun Q1 k0 v0=>AQ (dk b0)<|Ap I<|Aw hb0 func103 I (.cons (.many (cs:=[.bool p0.fp.fe,q0,.bool p0.fl.fe,s0]) I I (k0.memA .hd)) .nil) I ?_
 cases h
 exact ⟨k0.ag,fun p q=>⟨q0,s0,I,k0.kd (AB x0 v0) q,k0.kd (AB y0 v0) q⟩⟩
def bL_p (n:Nat) (a0:Te):Oa Te:=
  (aS_p n a0.fp).bind fun b0=>some (⟨b0,a0.fl⟩:Te)
theorem bL_c (n:Nat) {L w} (hL:hl L w) (a0:Te) {v0_1:Vc} (h0_1:Rep.R w L [v0_1] a0.fp.fk) {v0_3:Vc} (h0_3:Rep.R w L [v0_3] a0.fl.fk)  {r:Te} (h:bL_p n a0=some r) :
 Cl 104 #[.agg #[.bool a0.fp.fe,v0_1,.bool a0.fl.fe,v0_3]] w (aj w fun w' u=>∃ v0_1 v0_3:Vc,u=.agg #[.bool r.fp.fe,v0_1,.bool r.fl.fe,v0_3]/\Rep.R w' L [v0_1] r.fp.fk/\Rep.R w' L [v0_3] r.fl.fk):=by
 unfold bL_p at h
 refine AJ func104 I I I fun _ cs0 hb0=>Ae<|RG.bx (AI w) I I fun M0 D0 u0 H0=>RG.nl [.bool false,vN,.bool false,vN] u0 fun P0 E0 c0 I0=>Aa<|Ai<|du 6 fun b0 d0=>Rv 0 b0 I d0 (fun _=>Bv 0 I)<|Rx 1 100 b0 I d0 (BK (cs:=[.bool a0.fp.fe,v0_1]) I I (ay (c0.memA .t1) 0 2))<|Rv 3 b0 I d0 (fun _=>Bv 2 I)<|Rx 4 96 b0 I d0 (BK (cs:=[.bool a0.fl.fe,v0_3]) I I (ay (c0.memA .t1) 2 2))<|bk h fun p0 A0 h=>BQ 2 31 b0 I .plain (bd 113) I (e1 I) (fun p q=>aS_c n (c0.hL hL q) a0.fp (c0.km h0_1 q) A0) I fun Q0 K0 x0 ⟨g0,hu_,q0⟩=>?_
 subst hu_
 obtain ⟨s0,J0⟩:=c0.agr x0
 obtain ⟨B0,F0,y0,_⟩:=Rep.sl q0
 have t0:=AH h0_3 s0
 obtain ⟨C0,G0,z0,_⟩:=Rep.sl t0
 refine Rv 5 b0 I d0 (fun _=>Bj (vs:=[.agg #[.bool p0.fe,g0],.agg #[.bool a0.fl.fe,v0_3]]) (u:=.agg #[.bool p0.fe,g0,.bool a0.fl.fe,v0_3]) (e2 I I) (fun p=>by rw [y0,z0]; try kernel_rfl))<|BC 6 127 b0 I I .plain (Az (news:=[.bool p0.fe,g0,.bool a0.fl.fe,v0_3]) s0 .hd I I I I I I (o4 I (Bs q0) I (Bs t0))) fun R0 j0 v0=>AQ (dk b0)<|Ap I<|Aw hb0 func104 I (.cons (.many (cs:=[.bool p0.fe,g0,.bool a0.fl.fe,v0_3]) I I (j0.memA .hd)) .nil) I ?_
 cases h
 exact ⟨j0.ag,fun p q=>⟨g0,v0_3,I,j0.kd (AB q0 v0) q,j0.k0 h0_3 q⟩⟩
def bq_p (n:Nat) (a0:Te) (a1:Te):Oa Te:=
  (bL_p n a1).bind fun b0=>(bY_p n a0 b0).bind fun c0=>some c0
theorem bq_c (n:Nat) {L w} (hL:hl L w) (a0:Te) {v0_1:Vc} (h0_1:Rep.R w L [v0_1] a0.fp.fk) {v0_3:Vc} (h0_3:Rep.R w L [v0_3] a0.fl.fk) (a1:Te) {v1_1:Vc} (h1_1:Rep.R w L [v1_1] a1.fp.fk) {v1_3:Vc} (h1_3:Rep.R w L [v1_3] a1.fl.fk)  {r:Te} (h:bq_p n a0 a1=some r) :
 Cl 67 #[.agg #[.bool a0.fp.fe,v0_1,.bool a0.fl.fe,v0_3],.agg #[.bool a1.fp.fe,v1_1,.bool a1.fl.fe,v1_3]] w (aj w fun w' u=>∃ v0_1 v0_3:Vc,u=.agg #[.bool r.fp.fe,v0_1,.bool r.fl.fe,v0_3]/\Rep.R w' L [v0_1] r.fp.fk/\Rep.R w' L [v0_3] r.fl.fk):=by
 unfold bq_p at h
 refine AJ func67 I I I fun _ cs0 hb0=>Ae<|RG.bx (AI w) I I fun X0 G0 v0 J0=>RG.bx v0 I I fun Y0 H0 x0 K0=>RG.nl [.bool false,vN,.bool false,vN] x0 fun Z0 I0 b0 M0=>Aa<|Ai<|du 4 fun c0 u0=>Rx 0 24 c0 I u0 (AP I (b0.memA .t2))<|Rx 1 28 c0 I u0 (AP I (b0.memA .t1))<|bk h fun F0 D0 h=>BQ 2 7 c0 I .plain (bd 104) I (e1 I) (fun p q=>bL_c n (b0.hL hL q) a1 (b0.km h1_1 q) (b0.km h1_3 q) D0) I fun b1 V0 z0 ⟨R0,U0,hu_,B0,C0⟩=>?_
 subst hu_
 obtain ⟨d0,P0⟩:=b0.agr z0
 refine bk h fun j0 E0 h=>BQ 3 15 c0 I .plain (bd 103) I (e2 I I) (fun p q=>bY_c n (d0.hL hL q) a0 (d0.km h0_1 q) (d0.km h0_3 q) F0 (Ax B0 q) (Ax C0 q) E0) I fun c1 W0 A0 ⟨k0,p0,hu_,s0,t0⟩=>?_
 subst hu_
 obtain ⟨y0,Q0⟩:=d0.agr A0
 refine BC 4 31 c0 I I .plain (Az (news:=[.bool j0.fp.fe,k0,.bool j0.fl.fe,p0]) y0 .hd I I I I I I (o4 I (Bs s0) I (Bs t0))) fun d1 g0 q0=>AQ (dk c0)<|Ap I<|Aw hb0 func67 I (.cons (.many (cs:=[.bool j0.fp.fe,k0,.bool j0.fl.fe,p0]) I I (g0.memA .hd)) .nil) I ?_
 cases h
 exact ⟨g0.ag,fun p q=>⟨k0,p0,I,g0.kd (AB s0 q0) q,g0.kd (AB t0 q0) q⟩⟩
def bE_p (_n:Nat) (a0:Lb Int):Oa (Lb Int):=
  ce a0 (some ([]:Lb Int)) ((app ([]:Lb Int) a0).bind fun b0=>some b0)
theorem bE_c (n:Nat) {L w} (_hL:hl L w) {a0:Lb Int} {v0_0:Vc} (h0_0:Rep.R w L [v0_0] a0)  {r:Lb Int} (h:bE_p n a0=some r) :
 Cl 39 #[v0_0] w (aj w fun w' u=>∃ (v0_0:Vc) (cs0_0:Lb Vc),u=v0_0/\St w w' (bh w.heap.size [(3,Rep.size Int,v0_0,r.length,cs0_0)])/\Cells w' (bl (bh w.heap.size [(3,Rep.size Int,v0_0,r.length,cs0_0)])++L) cs0_0 (r:Lb Int)):=by
 unfold bE_p at h
 have hS0:=AI w
 refine AJ func39 I I I fun _ cs0 hb0=>Ae<|Af I<|Aa<|Ai<|Ae<|Ab I ?_
 rcases Rep.nilOr h0_0 with ⟨c1,he3,hx4⟩ | ⟨ad2,c1,he3⟩
 have h:=fU h hx4
 refine Ac (FV.eqlNil1 underlying33 I he3 I)<|Aa<|Ba I<|Ae<|Af I<|Aa<|Ap I ?_
 have b0:=hS0.nilRow 3 (Rep.size Int)
 have t0:=BW hS0 3 (Rep.size Int)
 have k0:=AD (cs:=[]) (xs:=([]:Lb Int)) b0 L (AK _ _)
 refine Aw (u:=vN) hb0 func39 I (.cons (.tmp I) .nil) I ?_
 cases h
 exact ⟨b0.ag,fun p q=>⟨vN,[],I,b0.agree q,Cells.keep0 k0 q⟩⟩
 have h:=fT h
 refine Ac (FV.eqlNil0 underlying33 I he3 I)<|Aa<|Bn I<|Am<|Ae<|Av .plain I (jB Int hS0 aA) fun x0 s0 c0 u0=>Ab I<|bk h fun z0 q0 h=>RG.doesL .plain I (AL (α:=Int) (ys:=a0) q0 c0 (fun _ _=>.hd) aA I I (jD Int c0 L) (BO (AH h0_0 c0))) fun g0 y0 ⟨j0,d0,v0,p0⟩=>Af I<|Aa<|Ap I<|Aw (u:=g0) hb0 func39 I (.cons (.tmp I) .nil) I ?_
 cases h
 exact ⟨d0.ag,fun p q=>⟨g0,j0,I,d0.agree q,Cells.keep0 p0 q⟩⟩
def aq_l1 (n:Nat) (a0:Lb Int) (a1:Lb Int) (d0:Nat->Oa (Int⊕Unit)):Nat->Oa (Int⊕Unit)
  | b0=>(if b0<a0.length then (a0[b0]?).bind fun g0=>(if a1.length<=b0 then some (.inl (1:Int)) else (a1[b0]?).bind fun j0=>(bJ_p n g0 j0).bind fun c0=>(if c0=0 then d0 (b0+1) else some (.inl c0))) else some (.inr ()))
def aq_p (n:Nat) (a0:Lb Int) (a1:Lb Int):Oa Int:=
  thn (ah (aq_l1 n a0 a1) n 0) (fun _=>(if a0.length<a1.length then some (-1:Int) else some (0:Int)))
theorem aq_c (n:Nat) {L w} (hL:hl L w) {a0:Lb Int} {v0_0:Vc} (h0_0:Rep.R w L [v0_0] a0) {a1:Lb Int} {v1_0:Vc} (h1_0:Rep.R w L [v1_0] a1)  {r:Int} (h:aq_p n a0 a1=some r) :
 Cl 26 #[v0_0,v1_0] w (aj w fun _ u=>u=vI r):=by
 unfold aq_p at h
 refine AJ func26 I I I fun _ cs0 hb0=>Ae<|Af I<|Aa<|Ai<|Ae<|Ab I ?_
 have hl1:=AY h0_0
 refine Ac (Bf (xs:=a0) underlying36 I h0_0)<|Ab I<|Aa<|Aq<|tn h fun c1 H0 d0=>MX.lo (α:=Nat) (fun b0=>[(0,v0_0),(1,v1_0),(9,v0_0),(10,vn a0.length),(11,vn b0)]) (fun b0=>[]) (fun b0=>b0) 0 H0 (AI w) ?_
 rintro W0 b0 d1 x0 c0 y0 h
 unfold aq_l1 at h
 try dsimp only at h
 refine Ae<|Ac (Bp (i:=b0) (j:=a0.length) I I)<|Aa<|Ai<|AO I h (fun p0 h=>?_) (fun p0 h=>?_)
 refine Am<|Ai<|Aq<|Ae<|Ab I<|bk h fun Q0 K0 h=>?_
 obtain ⟨U0,X0,z0,D0,u0,I0,F0⟩:=Bq (AH h0_0 c0) K0
 have A0:u0=[vI Q0]:=I0; subst A0
 refine Ac (AU 1 b0 I z0 I I D0)<|AG I (F0 0 _ I)<|Af I<|Af I<|Aa<|Ai<|Ae<|Ab I<|Ab I ?_
 have g0:=AH h1_0 c0
 have Z0:=AY g0
 refine Ac (Bf (xs:=a1) underlying36 I g0)<|Ac (FV.geqN (i:=b0) (j:=a1.length) I I)<|Aa<|AO I h (fun q0 h=>?_) (fun q0 h=>?_)
 refine Ae<|Af I<|Aa ?_
 have h:=aO h d0
 refine Ap I<|AV hb0 func26 I I ?_
 cases h
 exact c0.gv
 refine Am<|Ae<|Ab I<|Ab I<|bk h fun R0 M0 h=>?_
 obtain ⟨V0,Y0,B0,E0,v0,J0,G0⟩:=Bq g0 M0
 have C0:v0=[vI R0]:=J0; subst C0
 refine Ac (AU 1 b0 I B0 I I E0)<|AG I (G0 0 _ I)<|Af I<|Aa<|Ae<|Ab I<|Ab I<|bk h fun k0 P0 h=>Bz (vI k0) (bd 47) I (e2 I I) (fun p q=>bJ_c n (c0.hL0 hL q)  P0) I<|Af I<|Aa<|Ae<|Ab I<|Ac (FV.neq (i:=k0) (j:=0) I I)<|Aa<|MX.ifn I h (fun s0 h=>?_) (fun s0 h=>?_)
 refine Am<|Ao<|Ak<|Ac (AW (i:=b0) (j:=1) I I (by omega))<|Ab I<|Aa<|x0 (b0+1) c0 y0 h
 refine Ae<|Ab I<|Af I<|Aa ?_
 have h:=aO h d0
 refine Ap I<|AV hb0 func26 I I ?_
 cases h
 exact c0.gv
 refine AT I ?_
 have h:=bD h d0
 try dsimp only at h
 refine Ai<|Ae<|Ab I<|Ac (Bf (xs:=a0) underlying36 I (AH h0_0 c0))<|Ab I ?_
 have j0:=AH h1_0 c0
 have b1:=AY j0
 refine Ac (Bf (xs:=a1) underlying36 I j0)<|Ac (Bp (i:=a0.length) (j:=a1.length) I I)<|Aa<|AO I h (fun t0 h=>?_) (fun t0 h=>?_)
 refine Ae<|Af I<|Aa<|Ap I<|AV hb0 func26 I I ?_
 cases h
 exact c0.gv
 refine Am<|Ae<|Af I<|Aa<|Ap I<|AV hb0 func26 I I ?_
 cases h
 exact c0.gv
def bZ_p (n:Nat) (a0:Lb Int) (a1:Lb Int):Oa Int:=
  (aq_p n a0 a1).bind fun y1=>some y1
theorem bZ_c (n:Nat) {L w} (hL:hl L w) {a0:Lb Int} {v0_0:Vc} (h0_0:Rep.R w L [v0_0] a0) {a1:Lb Int} {v1_0:Vc} (h1_0:Rep.R w L [v1_0] a1)  {r:Int} (h:bZ_p n a0 a1=some r) :
 Cl 40 #[v0_0,v1_0] w (aj w fun _ u=>u=vI r):=by
 unfold bZ_p at h
 have hS0:=AI w
 refine AJ func40 I I I fun _ cs0 hb0=>Ae<|Af I<|Aa<|Ae<|Ab I<|Ab I<|bk h fun y1 hy1 h=>Bz (vI y1) (bd 26) I (e2 I I) (fun p q=>aq_c n (hS0.hL0 hL q) (hS0.kd h0_0 q) (hS0.kd h1_0 q) hy1) I<|Af I<|Aa<|Ap I<|AV hb0 func40 I I ?_
 cases h
 exact hS0.gv
structure Ta where
  fN:U8
  fD:U8
  deriving DecidableEq
instance:Rep Ta:=Rep.via (β:=(U8)×(U8)) fun x=>(x.fN,x.fD)
def aI (x:Ta):Lb Vc:=[vU x.fN.1,vU x.fN.2.1,vU x.fN.2.2.1,vU x.fN.2.2.2.1,vU x.fN.2.2.2.2.1,vU x.fN.2.2.2.2.2.1,vU x.fN.2.2.2.2.2.2.1,vU x.fN.2.2.2.2.2.2.2,vU x.fD.1,vU x.fD.2.1,vU x.fD.2.2.1,vU x.fD.2.2.2.1,vU x.fD.2.2.2.2.1,vU x.fD.2.2.2.2.2.1,vU x.fD.2.2.2.2.2.2.1,vU x.fD.2.2.2.2.2.2.2]
def bn_p (n:Nat) (a0:Te):Oa (Ta×Int):=
  (aT_p n a0.fp).bind fun b0=>(aT_p n a0.fl).bind fun c0=>(if b0.2=0 then (if c0.2=0 then some ((⟨b0.1,c0.1⟩:Ta),(0:Int)) else some ((⟨(0,0,0,0,0,0,0,0),(0,0,0,0,0,0,0,0)⟩:Ta),(6:Int))) else some ((⟨(0,0,0,0,0,0,0,0),(0,0,0,0,0,0,0,0)⟩:Ta),(6:Int)))
theorem bn_c (n:Nat) {L w} (hL:hl L w) (a0:Te) {v0_1:Vc} (h0_1:Rep.R w L [v0_1] a0.fp.fk) {v0_3:Vc} (h0_3:Rep.R w L [v0_3] a0.fl.fk)  {r:Ta×Int} (h:bn_p n a0=some r) :
 Cl 42 #[.agg #[.bool a0.fp.fe,v0_1,.bool a0.fl.fe,v0_3]] w (aj w fun _ u=>u=.tuple #[.agg ((aI r.1)).toArray,vI r.2]):=by
 unfold bn_p at h
 refine AJ func42 I I I fun _ cs0 hb0=>Ae<|RG.bx (AI w) I I fun R0 B0 v0 F0=>RG.nl zL v0 fun U0 C0 g0 G0=>Af I<|Aa<|Ae<|Bh 0 I<|Ac (BK (cs:=[.bool a0.fp.fe,v0_1]) I I (ay (g0.memA .t1) 0 2))<|bk h fun b0 z0 h=>Bz (.tuple #[.agg ((ae b0.1)).toArray,vI b0.2]) (bd 69) I (e1 I) (fun p q=>aT_c n (g0.hL0 hL q) a0.fp (g0.k0 h0_1 q) z0) I<|Ab I<|Ac (Al I I)<|Ac (Al I I)<|RG.nl zP g0 fun V0 D0 x0 H0=>Bl (ae b0.1) x0 .hd (aC I) fun W0 j0 I0=>Af I<|Aa<|Ae<|Bh 2 I<|Ac (BK (cs:=[.bool a0.fl.fe,v0_3]) I I (ay (j0.memA .t2) 2 2))<|bk h fun c0 A0 h=>Bz (.tuple #[.agg ((ae c0.1)).toArray,vI c0.2]) (bd 69) I (e1 I) (fun p q=>aT_c n (j0.hL0 hL q) a0.fl (j0.k0 h0_3 q) A0) I<|Ab I<|Ac (Al I I)<|Ac (Al I I)<|RG.nl zP j0 fun X0 E0 y0 J0=>Bl (ae c0.1) y0 .hd (aC I) fun Y0 d0 K0=>Af I<|Aa<|Ai<|Ae<|Ab I<|Ac (FV.neq (i:=b0.2) (j:=0) I I) ?_
 refine Ab I<|RG.ifn (s:=22) I h (fun t0 h=>?_) (fun t0 h=>?_)
 refine Au (Ah I)<|Au (FV.neq (i:=c0.2) (j:=0) I I)<|Bo I I<|Aa<|MX.ifn I h (fun u0 h=>?_) (fun u0 h=>?_)
 refine Am<|Ae<|Ac (AP I (d0.memA .t1))<|Ac (AP I (d0.memA .hd))<|Ac (Bj (vs:=[.agg ((ae b0.1)).toArray,.agg ((ae c0.1)).toArray]) (u:=.agg ((ae b0.1++ae c0.1)).toArray) (e2 I I) (fun p=>by kernel_rfl))<|Bl (ae b0.1++ae c0.1) d0 .t2 (aC I) fun Z0 p0 M0=>Af I<|Aa<|Ap I<|Aw hb0 func42 I (.cons (.many (cs:=(ae b0.1++ae c0.1)) I I (p0.memA .t2)) (.cons (.tmp I) .nil)) I ?_
 cases h
 exact p0.gv
 refine Ae<|Ac (Bj (vs:=[]) (u:=.agg zM) aB (fun p=>by kernel_rfl))<|Bl zL d0 .t2 (aC I) fun b1 q0 P0=>Af I<|Aa<|Ap I<|Aw hb0 func42 I (.cons (.many (cs:=zL) I I (q0.memA .t2)) (.cons (.tmp I) .nil)) I ?_
 cases h
 exact q0.gv
 refine Aj<|Aj<|Bm I I<|Aa<|Ba I<|Ae<|Ac (Bj (vs:=[]) (u:=.agg zM) aB (fun p=>by kernel_rfl))<|Bl zL d0 .t2 (aC I) fun c1 s0 Q0=>Af I<|Aa<|Ap I<|Aw hb0 func42 I (.cons (.many (cs:=zL) I I (s0.memA .t2)) (.cons (.tmp I) .nil)) I ?_
 cases h
 exact s0.gv

theorem sb {w:World} {L:Lb Nat} {cs:Lb Vc} {x:Te} (h:Rep.R w L cs x):∃ v1 v3:Vc,cs=[.bool x.fp.fe,v1,.bool x.fl.fe,v3]/\Rep.R w L [v1] x.fp.fk/\Rep.R w L [v3] x.fl.fk:=by
  obtain ⟨c0,r0,rfl,h0,h⟩:=h
  obtain ⟨v1,rfl,kv1⟩:=cx (x:=x.fp) h0
  obtain ⟨v3,rfl,kv3⟩:=cx (x:=x.fl) h
  exact ⟨v1,v3,I,kv1,kv3⟩
theorem mk_Te {w:World} {L:Lb Nat} (a0:Tb) {u1:Vc} (h1:Rep.R w L [u1] a0.fk) (a1:Tb) {u3:Vc} (h3:Rep.R w L [u3] a1.fk):Rep.R w L [.bool a0.fe,u1,.bool a1.fe,u3] (⟨a0,a1⟩:Te):=⟨[.bool a0.fe,u1],[.bool a1.fe,u3],rfl,gL a0.fe a0.fk h1,gL a1.fe a1.fk h3⟩
theorem qQ {w:World} {L:Lb Nat} {cs:Lb Vc} {x:U8} (h:Rep.R w L cs x):cs=[vU x.1,vU x.2.1,vU x.2.2.1,vU x.2.2.2.1,vU x.2.2.2.2.1,vU x.2.2.2.2.2.1,vU x.2.2.2.2.2.2.1,vU x.2.2.2.2.2.2.2]:=by
  obtain ⟨c0,r0,rfl,h0,h⟩:=h
  have e0:c0=[vU x.1]:=h0; subst e0
  obtain ⟨c1,r1,rfl,h1,h⟩:=h
  have e1:c1=[vU x.2.1]:=h1; subst e1
  obtain ⟨c2,r2,rfl,h2,h⟩:=h
  have e2:c2=[vU x.2.2.1]:=h2; subst e2
  obtain ⟨c3,r3,rfl,h3,h⟩:=h
  have e3:c3=[vU x.2.2.2.1]:=h3; subst e3
  obtain ⟨c4,r4,rfl,h4,h⟩:=h
  have e4:c4=[vU x.2.2.2.2.1]:=h4; subst e4
  obtain ⟨c5,r5,rfl,h5,h⟩:=h
  have e5:c5=[vU x.2.2.2.2.2.1]:=h5; subst e5
  obtain ⟨c6,r6,rfl,h6,h⟩:=h
  have e6:c6=[vU x.2.2.2.2.2.2.1]:=h6; subst e6
  have e7:r6=[vU x.2.2.2.2.2.2.2]:=h; subst e7
  rfl
theorem rl {w:World} {L:Lb Nat} (a0:Ua) (a1:Ua) (a2:Ua) (a3:Ua) (a4:Ua) (a5:Ua) (a6:Ua) (a7:Ua):Rep.R w L [vU a0,vU a1,vU a2,vU a3,vU a4,vU a5,vU a6,vU a7] ((a0,a1,a2,a3,a4,a5,a6,a7):U8):=⟨[vU a0],[vU a1,vU a2,vU a3,vU a4,vU a5,vU a6,vU a7],rfl,rfl,⟨[vU a1],[vU a2,vU a3,vU a4,vU a5,vU a6,vU a7],rfl,rfl,⟨[vU a2],[vU a3,vU a4,vU a5,vU a6,vU a7],rfl,rfl,⟨[vU a3],[vU a4,vU a5,vU a6,vU a7],rfl,rfl,⟨[vU a4],[vU a5,vU a6,vU a7],rfl,rfl,⟨[vU a5],[vU a6,vU a7],rfl,rfl,⟨[vU a6],[vU a7],rfl,rfl,rfl⟩⟩⟩⟩⟩⟩⟩
theorem op_Ta {w:World} {L:Lb Nat} {cs:Lb Vc} {x:Ta} (h:Rep.R w L cs x):cs=[vU x.fN.1,vU x.fN.2.1,vU x.fN.2.2.1,vU x.fN.2.2.2.1,vU x.fN.2.2.2.2.1,vU x.fN.2.2.2.2.2.1,vU x.fN.2.2.2.2.2.2.1,vU x.fN.2.2.2.2.2.2.2,vU x.fD.1,vU x.fD.2.1,vU x.fD.2.2.1,vU x.fD.2.2.2.1,vU x.fD.2.2.2.2.1,vU x.fD.2.2.2.2.2.1,vU x.fD.2.2.2.2.2.2.1,vU x.fD.2.2.2.2.2.2.2]:=by
  obtain ⟨c0,r0,rfl,h0,h⟩:=h
  obtain rfl:=qQ (x:=x.fN) h0
  obtain rfl:=qQ (x:=x.fD) h
  rfl
theorem ra {w:World} {L:Lb Nat} (a0:U8) (a1:U8):Rep.R w L [vU a0.1,vU a0.2.1,vU a0.2.2.1,vU a0.2.2.2.1,vU a0.2.2.2.2.1,vU a0.2.2.2.2.2.1,vU a0.2.2.2.2.2.2.1,vU a0.2.2.2.2.2.2.2,vU a1.1,vU a1.2.1,vU a1.2.2.1,vU a1.2.2.2.1,vU a1.2.2.2.2.1,vU a1.2.2.2.2.2.1,vU a1.2.2.2.2.2.2.1,vU a1.2.2.2.2.2.2.2] (⟨a0,a1⟩:Ta):=⟨[vU a0.1,vU a0.2.1,vU a0.2.2.1,vU a0.2.2.2.1,vU a0.2.2.2.2.1,vU a0.2.2.2.2.2.1,vU a0.2.2.2.2.2.2.1,vU a0.2.2.2.2.2.2.2],[vU a1.1,vU a1.2.1,vU a1.2.2.1,vU a1.2.2.2.1,vU a1.2.2.2.2.1,vU a1.2.2.2.2.2.1,vU a1.2.2.2.2.2.2.1,vU a1.2.2.2.2.2.2.2],rfl,rl a0.1 a0.2.1 a0.2.2.1 a0.2.2.2.1 a0.2.2.2.2.1 a0.2.2.2.2.2.1 a0.2.2.2.2.2.2.1 a0.2.2.2.2.2.2.2,rl a1.1 a1.2.1 a1.2.2.1 a1.2.2.2.1 a1.2.2.2.2.1 a1.2.2.2.2.2.1 a1.2.2.2.2.2.2.1 a1.2.2.2.2.2.2.2⟩
theorem mp:ElT Tryz.prog 39 36 (Rep.size (Lb Int)) 24 vN [vN]:=⟨underlying39,by kernel_rfl,rfl,rfl,rfl,rfl⟩
theorem pZ:ElT Tryz.prog 65 82 (Rep.size Ta) 128 (.agg zM) zL:=⟨underlying65,by kernel_rfl,rfl,rfl,rfl,rfl⟩
theorem pp {a b:Int×Int×Int×Int×Int×Int×Int×Int×Int×Int×Int×Int} (h0:a.1=b.1) (h1:a.2.1=b.2.1) (h2:a.2.2.1=b.2.2.1) (h3:a.2.2.2.1=b.2.2.2.1) (h4:a.2.2.2.2.1=b.2.2.2.2.1) (h5:a.2.2.2.2.2.1=b.2.2.2.2.2.1) (h6:a.2.2.2.2.2.2.1=b.2.2.2.2.2.2.1) (h7:a.2.2.2.2.2.2.2.1=b.2.2.2.2.2.2.2.1) (h8:a.2.2.2.2.2.2.2.2.1=b.2.2.2.2.2.2.2.2.1) (h9:a.2.2.2.2.2.2.2.2.2.1=b.2.2.2.2.2.2.2.2.2.1) (b0:a.2.2.2.2.2.2.2.2.2.2.1=b.2.2.2.2.2.2.2.2.2.2.1) (c0:a.2.2.2.2.2.2.2.2.2.2.2=b.2.2.2.2.2.2.2.2.2.2.2):a=b:=Prod.ext h0 (Prod.ext h1 (Prod.ext h2 (Prod.ext h3 (Prod.ext h4 (Prod.ext h5 (Prod.ext h6 (Prod.ext h7 (Prod.ext h8 (Prod.ext h9 (Prod.ext b0 (c0)))))))))))
instance:Enc (Int×Int×Int×Int×Int×Int×Int×Int×Int×Int×Int×Int):=⟨fun a=>.agg #[vI a.1,vI a.2.1,vI a.2.2.1,vI a.2.2.2.1,vI a.2.2.2.2.1,vI a.2.2.2.2.2.1,vI a.2.2.2.2.2.2.1,vI a.2.2.2.2.2.2.2.1,vI a.2.2.2.2.2.2.2.2.1,vI a.2.2.2.2.2.2.2.2.2.1,vI a.2.2.2.2.2.2.2.2.2.2.1,vI a.2.2.2.2.2.2.2.2.2.2.2]⟩
theorem jL:KeyAt Tryz.prog 116 (Int×Int×Int×Int×Int×Int×Int×Int×Int×Int×Int×Int):=⟨fun q a w=>by kernel_rfl,⟨_,underlying116,fun a b=>rfl⟩,fun a b w9=>
  eqOp (ks:=[.int .i64,.int .i64,.int .i64,.int .i64,.int .i64,.int .i64,.int .i64,.int .i64,.int .i64,.int .i64,.int .i64,.int .i64]) (xs:=[vI a.1,vI a.2.1,vI a.2.2.1,vI a.2.2.2.1,vI a.2.2.2.2.1,vI a.2.2.2.2.2.1,vI a.2.2.2.2.2.2.1,vI a.2.2.2.2.2.2.2.1,vI a.2.2.2.2.2.2.2.2.1,vI a.2.2.2.2.2.2.2.2.2.1,vI a.2.2.2.2.2.2.2.2.2.2.1,vI a.2.2.2.2.2.2.2.2.2.2.2]) (ys:=[vI b.1,vI b.2.1,vI b.2.2.1,vI b.2.2.2.1,vI b.2.2.2.2.1,vI b.2.2.2.2.2.1,vI b.2.2.2.2.2.2.1,vI b.2.2.2.2.2.2.2.1,vI b.2.2.2.2.2.2.2.2.1,vI b.2.2.2.2.2.2.2.2.2.1,vI b.2.2.2.2.2.2.2.2.2.2.1,vI b.2.2.2.2.2.2.2.2.2.2.2]) (by kernel_rfl) (by kernel_rfl) I I ⟨fun h=>by
    simp only [bH,veq,Bool.and_eq_true,beq_iff_eq,and_true] at h
    obtain ⟨h0,h1,h2,h3,h4,h5,h6,h7,h8,h9,b0,c0⟩:=h
    exact pp h0 h1 h2 h3 h4 h5 h6 h7 h8 h9 b0 c0,fun h=>by subst h; simp [bH,veq]⟩ w9,fun a=>by simp [Instr.sameBits,Enc.enc]⟩
theorem sA (a b:Int×Int×Int×Int×Int×Int×Int×Int×Int×Int×Int×Int) (w9:World):(do eqGuard .eql 116 (.tmp 0) (.tmp 0) (.agg #[vI a.1,vI a.2.1,vI a.2.2.1,vI a.2.2.2.1,vI a.2.2.2.2.1,vI a.2.2.2.2.2.1,vI a.2.2.2.2.2.2.1,vI a.2.2.2.2.2.2.2.1,vI a.2.2.2.2.2.2.2.2.1,vI a.2.2.2.2.2.2.2.2.2.1,vI a.2.2.2.2.2.2.2.2.2.2.1,vI a.2.2.2.2.2.2.2.2.2.2.2]) (.agg #[vI b.1,vI b.2.1,vI b.2.2.1,vI b.2.2.2.1,vI b.2.2.2.2.1,vI b.2.2.2.2.2.1,vI b.2.2.2.2.2.2.1,vI b.2.2.2.2.2.2.2.1,vI b.2.2.2.2.2.2.2.2.1,vI b.2.2.2.2.2.2.2.2.2.1,vI b.2.2.2.2.2.2.2.2.2.2.1,vI b.2.2.2.2.2.2.2.2.2.2.2]); binOp .eql 116 (.agg #[vI a.1,vI a.2.1,vI a.2.2.1,vI a.2.2.2.1,vI a.2.2.2.2.1,vI a.2.2.2.2.2.1,vI a.2.2.2.2.2.2.1,vI a.2.2.2.2.2.2.2.1,vI a.2.2.2.2.2.2.2.2.1,vI a.2.2.2.2.2.2.2.2.2.1,vI a.2.2.2.2.2.2.2.2.2.2.1,vI a.2.2.2.2.2.2.2.2.2.2.2]) (.agg #[vI b.1,vI b.2.1,vI b.2.2.1,vI b.2.2.2.1,vI b.2.2.2.2.1,vI b.2.2.2.2.2.1,vI b.2.2.2.2.2.2.1,vI b.2.2.2.2.2.2.2.1,vI b.2.2.2.2.2.2.2.2.1,vI b.2.2.2.2.2.2.2.2.2.1,vI b.2.2.2.2.2.2.2.2.2.2.1,vI b.2.2.2.2.2.2.2.2.2.2.2]):Sem Vc).run Tryz.prog w9=.ok (.bool (decide (a=b))) w9:=
  eqAgg (ks:=[.int .i64,.int .i64,.int .i64,.int .i64,.int .i64,.int .i64,.int .i64,.int .i64,.int .i64,.int .i64,.int .i64,.int .i64]) (xs:=[vI a.1,vI a.2.1,vI a.2.2.1,vI a.2.2.2.1,vI a.2.2.2.2.1,vI a.2.2.2.2.2.1,vI a.2.2.2.2.2.2.1,vI a.2.2.2.2.2.2.2.1,vI a.2.2.2.2.2.2.2.2.1,vI a.2.2.2.2.2.2.2.2.2.1,vI a.2.2.2.2.2.2.2.2.2.2.1,vI a.2.2.2.2.2.2.2.2.2.2.2]) (ys:=[vI b.1,vI b.2.1,vI b.2.2.1,vI b.2.2.2.1,vI b.2.2.2.2.1,vI b.2.2.2.2.2.1,vI b.2.2.2.2.2.2.1,vI b.2.2.2.2.2.2.2.1,vI b.2.2.2.2.2.2.2.2.1,vI b.2.2.2.2.2.2.2.2.2.1,vI b.2.2.2.2.2.2.2.2.2.2.1,vI b.2.2.2.2.2.2.2.2.2.2.2]) (by kernel_rfl) (by kernel_rfl) (by kernel_rfl) I I ⟨fun h=>by
    simp only [bH,veq,Bool.and_eq_true,beq_iff_eq,and_true] at h
    obtain ⟨h0,h1,h2,h3,h4,h5,h6,h7,h8,h9,b0,c0⟩:=h
    exact pp h0 h1 h2 h3 h4 h5 h6 h7 h8 h9 b0 c0,fun h=>by subst h; simp [bH,veq]⟩ _ _ w9
def aK_l1 (n:Nat) (b0:Ua) (c0:Ua) (q0:(Lb Int)×Int) (p0:Int×Int) (a1:Td) (a0:Tc) (t0:Te) (j0:Ua×(Lb ((Int×Int×Int×Int×Int×Int×Int×Int×Int×Int×Int×Int)×Te))->Oa (Lb ((Int×Int×Int×Int×Int×Int×Int×Int×Int×Int×Int×Int)×Te))):Ua×(Lb ((Int×Int×Int×Int×Int×Int×Int×Int×Int×Int×Int×Int)×Te))->Oa (Lb ((Int×Int×Int×Int×Int×Int×Int×Int×Int×Int×Int×Int)×Te))
  | (k0,g0)=>(if k0=(0:Ua) then some g0 else (some ((k0-(1:Ua))&&&((b0|||c0)&&&~~~((b0|||c0)&&&(-(b0|||c0)))))).bind fun d0=>(bU_p n q0.1 p0.1 p0.2 (d0|||((b0|||c0)&&&(-(b0|||c0))))).bind fun s0=>(az_p n (⟨a1,a0⟩:Tg) (d0|||((b0|||c0)&&&(-(b0|||c0))))).bind fun u0=>(if u0=true then (az_p n (⟨a1,a0⟩:Tg) ((b0|||c0)&&&~~~(d0|||((b0|||c0)&&&(-(b0|||c0)))))).bind fun v0=>(if v0=true then (bI_p n q0.1).bind fun x0=>(bI_p n s0).bind fun y0=>(if x0=y0 then j0 (d0,g0) else (bI_p n s0).bind fun z0=>(bb_p n (⟨a1,a0⟩:Tg) (d0|||((b0|||c0)&&&(-(b0|||c0))))).bind fun A0=>(bb_p n (⟨a1,a0⟩:Tg) ((b0|||c0)&&&~~~(d0|||((b0|||c0)&&&(-(b0|||c0)))))).bind fun B0=>(bc_p n A0 B0).bind fun C0=>(bX_p n C0 t0).bind fun D0=>j0 (d0,aH g0 z0 D0)) else j0 (d0,g0)) else j0 (d0,g0)))
def aK_l2 (n:Nat) (d0:Lb (Lb Int)) (j0:Lb ((Int×Int×Int×Int×Int×Int×Int×Int×Int×Int×Int×Int)×Te)) (k0:Nat×(Lb Ta)->Oa (((Lb (Lb Int))×(Lb Ta)×Int)⊕(Lb Ta))):Nat×(Lb Ta)->Oa (((Lb (Lb Int))×(Lb Ta)×Int)⊕(Lb Ta))
  | (b0,g0)=>(if b0<d0.length then (d0[b0]?).bind fun p0=>(bI_p n p0).bind fun s0=>(aP j0 s0).bind fun t0=>(bn_p n t0).bind fun c0=>(if c0.2=0 then (app g0 ([c0.1]:Lb Ta)).bind fun q0=>k0 (b0+1,q0) else some (.inl (([]:Lb (Lb Int)),([]:Lb Ta),c0.2))) else some (.inr g0))
def bV (n:Nat) (a0:Tc) (b0:(Int×Int×Int×Int×Int×Int×Int×Int×Int×Int×Int×Int)×Te) (c0:(Lb (Lb Int))->Oa ((Lb (Lb Int))×(Lb Ta)×Int)):(Lb (Lb Int))->Oa ((Lb (Lb Int))×(Lb Ta)×Int)
  | g0=>(ru 12 a0.fN).bind fun d0=>(bE_p n (([b0.1.1,b0.1.2.1,b0.1.2.2.1,b0.1.2.2.2.1,b0.1.2.2.2.2.1,b0.1.2.2.2.2.2.1,b0.1.2.2.2.2.2.2.1,b0.1.2.2.2.2.2.2.2.1,b0.1.2.2.2.2.2.2.2.2.1,b0.1.2.2.2.2.2.2.2.2.2.1,b0.1.2.2.2.2.2.2.2.2.2.2.1,b0.1.2.2.2.2.2.2.2.2.2.2.2]:Lb Int).take d0)).bind fun k0=>(app g0 ([k0]:Lb (Lb Int))).bind fun j0=>c0 j0
def cG (n:Nat) (d0:(Int×Int×Int×Int×Int×Int×Int×Int×Int×Int×Int×Int)×Te) (c0:Bool×(Lb Ua)×Bool×(Lb Ua)->Oa ((Lb (Lb Int))×(Lb Ta)×Int)):Bool×(Lb Ua)×Bool×(Lb Ua)->Oa ((Lb (Lb Int))×(Lb Ta)×Int)
  | (g0,k0,j0,p0)=>(bq_p n (⟨(⟨g0,k0⟩:Tb),(⟨j0,p0⟩:Tb)⟩:Te) d0.2).bind fun b0=>c0 (b0.fp.fe,b0.fp.fk,b0.fl.fe,b0.fl.fk)
def aK_l3 (n:Nat) (k0:Lb (Int×Int)) (s0:(Lb Ua)×Int) (a1:Td) (a0:Tc) (x0:(Lb Int)×Int) (p0:Nat×(Lb ((Int×Int×Int×Int×Int×Int×Int×Int×Int×Int×Int×Int)×Te))->Oa (Lb ((Int×Int×Int×Int×Int×Int×Int×Int×Int×Int×Int×Int)×Te))):Nat×(Lb ((Int×Int×Int×Int×Int×Int×Int×Int×Int×Int×Int×Int)×Te))->Oa (Lb ((Int×Int×Int×Int×Int×Int×Int×Int×Int×Int×Int×Int)×Te))
  | (d0,g0)=>(if d0<k0.length then (k0[d0]?).bind fun j0=>(idx s0.1 j0.1).bind fun b0=>(idx s0.1 j0.2).bind fun c0=>(bb_p n (⟨a1,a0⟩:Tg) (b0|||c0)).bind fun q0=>(bC_p n q0.fp).bind fun y0=>(if y0=0 then p0 (d0+1,g0) else (chk (a0.fN-1)).bind fun u0=>(chk (u0*((k0.length:Nat):Int))).bind fun v0=>(ce_p n v0).bind fun z0=>(bc_p n q0 z0).bind fun A0=>Option.bind (ah (aK_l1 n b0 c0 x0 j0 a1 a0 A0) n ((b0|||c0)&&&~~~((b0|||c0)&&&(-(b0|||c0))),g0)) (fun t0=>p0 (d0+1,t0))) else some g0)
def aK_p (n:Nat) (a0:Tc) (a1:Td) (a2:Lb Int):Oa ((Lb (Lb Int))×(Lb Ta)×Int):=
  (bT_p n a0 a1 ([a2]:Lb (Lb Int))).bind fun t0=>(if t0=0 then (bH_p n a2).bind fun d0=>(cn_p n d0.1 a1.fc).bind fun B0=>(bw_p n a1.fc).bind fun C0=>Option.bind (ah (aK_l3 n C0 B0 a1 a0 d0) n (0,([]:Lb ((Int×Int×Int×Int×Int×Int×Int×Int×Int×Int×Int×Int)×Te)))) (fun c0=>(ce_p n (1:Int)).bind fun b0=>mloop (fun (k0,p0,u0,v0)=>(bC_p n (⟨k0,p0⟩:Tb)).bind fun y0=>jn (fun g0=>mloop (fun q0=>(bO_p n (ac ((q0.length:Nat):Int))).bind fun z0=>(jU (fun x9 y9=>bZ_p n x9 y9) z0 q0).bind fun s0=>thn (ah (aK_l2 n s0 g0) n (0,([]:Lb Ta))) (fun x0=>some (s0,x0,(0:Int)))) (bV n a0) n g0 ([]:Lb (Lb Int))) (fun j0=>(if 0<y0 then (bI_p n d0.1).bind fun A0=>j0 (aH c0 A0 (⟨(⟨k0,p0⟩:Tb),(⟨u0,v0⟩:Tb)⟩:Te)) else j0 c0))) (cG n) n c0 (b0.fp.fe,b0.fp.fk,b0.fl.fe,b0.fl.fk)) else some (([]:Lb (Lb Int)),([]:Lb Ta),t0))
theorem aK_c (n:Nat) {L w} (hL:hl L w) (a0:Tc) {v0_1:Vc} (h0_1:Rep.R w L [v0_1] a0.fo) (a1:Td) {v1_0:Vc} (h1_0:Rep.R w L [v1_0] a1.fu) {a2:Lb Int} {v2_0:Vc} (h2_0:Rep.R w L [v2_0] a2) (hG0:Glob 0 tab0 w)  {r:(Lb (Lb Int))×(Lb Ta)×Int} (h:aK_p n a0 a1 a2=some r) :
 Cl 18 #[.agg #[vI a0.fN,v0_1],.agg #[v1_0,vI a1.fm,vI a1.fh,vI a1.fc],v2_0] w (aj w fun w' u=>∃ v0_0 v1_0:Vc,u=.tuple #[v0_0,v1_0,vI r.2.2]/\Rep.R w' L [v0_0] r.1/\Rep.R w' L [v1_0] r.2.1):=by
 unfold aK_p at h
 refine AJ func18 I I I fun _ cs0 hb0=>Ae<|RG.bx (AI w) I I fun w11 q0 F8 u06=>RG.bx F8 I I fun w16 s0 d3 v06=>Af I<|Af I<|Af I<|Aa<|Ai<|Ae<|Ac (AP I (d3.memA .t1))<|Ac (AP I (d3.memA .hd))<|Ab I ?_
 obtain ⟨A22,c23,q03,_⟩:=Rep.sl (AH h2_0 d3)
 refine Av .plain I (AS (α:=Lb Int) (xs:=([a2]:Lb (Lb Int))) (vs:=[v2_0]) (ds' :=[v2_0]) I d3 mp I (e1 I) (by rw [q03]; try kernel_rfl) I) fun w25 t0 I0 x06=>bk h fun Q7 F03 h=>Bz (vI Q7) (bd 37) I (e3 I I I) (fun w9 hw9=>bT_c n (I0.hL0 hL hw9) a0 (I0.k0 h0_1 hw9) a1 (I0.k0 h1_0 hw9) (Ax (St.lend (α:=Lb Int) (L:=L) I0 .hd (AD (cs:=[v2_0]) (xs:=(([a2]:Lb (Lb Int)):Lb (Lb Int))) I0 L (AE (cs:=[v2_0]) (ds:=[]) (AH h2_0 I0) (AK _ _))) hL) hw9) (hG0.keep (I0.ag.trans hw9)) F03) I<|Af I<|Aa<|Ae<|Ab I<|Ac (FV.neq (i:=Q7) (j:=0) I I)<|Aa<|MX.ifn I h (fun Z7 h=>?_) (fun Z7 h=>?_)
 refine Am<|Ae<|Ab I<|bk h fun y33 G03 h=>jE (bd 20) I (e1 I) (fun w9 hw9=>bH_c n (I0.hL hL hw9) (I0.km h2_0 hw9) G03) I fun w34 t07 I00 ⟨y0,hu_,M2⟩=>?_
 subst hu_
 obtain ⟨C2,y06⟩:=I0.agr I00
 refine Ab I<|Ac (Al I I)<|Ac (Al I I)<|Af I<|Aa<|Ae<|Ac (AP I (C2.memA .t1))<|Ac (AP I (C2.memA .t2)) ?_
 obtain ⟨A41,c42,s03,_⟩:=Rep.sl (AH h1_0 C2)
 obtain ⟨A45,c46,t03,_⟩:=Rep.sl (AH h0_1 C2)
 refine Ac (Bj (vs:=[.agg #[v1_0,vI a1.fm,vI a1.fh,vI a1.fc],.agg #[vI a0.fN,v0_1]]) (u:=.agg #[v1_0,vI a1.fm,vI a1.fh,vI a1.fc,vI a0.fN,v0_1]) (e2 I I) (fun w9=>by rw [s03,t03]; try kernel_rfl))<|Ab I<|BB (fst:=[]) (cap:=[]) (vs:=[.agg #[v1_0,vI a1.fm,vI a1.fh,vI a1.fc,vI a0.fN,v0_1],y0]) .plain (bd 38) func38 I I I I (e2 I I) I fun c06 Z00 F06=>Ae<|RG.bx C2 I I fun w53 C0 z5 P5=>Af I<|Aa<|Ae<|Ac (AP I (z5.memA .hd))<|Ab I<|BB (fst:=[]) (cap:=[]) (vs:=[.agg #[v1_0,vI a1.fm,vI a1.fh,vI a1.fc,vI a0.fN,v0_1],y0]) .plain (bd 65) func65 I I I I (e2 I I) I fun g06 b01 H06=>Ae<|RG.bx z5 I I fun w61 z0 p9 Z5=>RG.bx p9 I (Rep.c1 (AB M2 (Tt P5 Z5))) fun w67 A0 Q9 G00=>Af I<|Aa<|Ae<|Av .plain I (Does.makeMap (κ:=Int×Int×Int×Int×Int×Int×Int×Int×Int×Int×Int×Int) (ν:=Lb Vc) Q9) fun w73 d0 M5 H00=>?_
 have u04:=MR.at_ (Z:=([]:Lb ((Int×Int×Int×Int×Int×Int×Int×Int×Int×Int×Int×Int)×Lb Vc))) (M:=([]:Lb ((Int×Int×Int×Int×Int×Int×Int×Int×Int×Int×Int×Int)×Te))) M5 L trivial
 refine RG.nl [.map none] M5 fun w79 B0 W9 v6=>Bl [.map (some d0)] W9 .hd (o1 I) fun w83 z3 x6=>Aa<|Ae<|AG I ((z3.memA .t2) 0 _ I)<|Bh 0 I<|Bh 3 I<|AG I ((aL (z3.memA .t3) 0) 3 _ I)<|bk h fun y86 q04 h=>?_
 have R4:=Tt P5 (Tt Z5 (Tt G00 (Tt H00 (Tt v6 x6))))
 refine jE (bd 90) I (e2 I I) (fun w9 hw9=>cn_c n (z3.hL hL hw9) (Ax (AB M2 R4) hw9) q04) I fun w89 F07 X00 ⟨G7,hu_,Y02⟩=>?_
 subst hu_
 obtain ⟨g4,H4⟩:=z3.agr X00
 refine Ab I<|Ac (Al I I)<|Ac (Al I I)<|Af I<|Af I<|Aa<|Ae<|Bh 0 I<|Bh 3 I<|AG I ((aL (g4.memA .t3) 0) 3 _ I)<|bk h fun p2 s04 h=>jE (bd 95) I (e1 I) (fun w9 hw9=>bw_c n (g4.hL hL hw9)  s04) I fun w97 M3 Y00 ⟨V06,hu_,G3⟩=>?_
 subst hu_
 obtain ⟨E8,A3⟩:=g4.agr Y00
 refine Af I<|Aa<|Ai<|Ae<|Ab I ?_
 have C06:=AY G3
 refine Ac (Bf (xs:=p2) underlying30 I G3)<|Ab I<|Aa<|Aq ?_
 obtain ⟨P06,d02,B01⟩:=ai h
 refine MX.loopD (α:=Nat×(Lb ((Int×Int×Int×Int×Int×Int×Int×Int×Int×Int×Int×Int)×Te))×(Lb Nat)×(Lb ((Int×Int×Int×Int×Int×Int×Int×Int×Int×Int×Int×Int)×Lb Vc))) (fun ⟨U0,Z0,x0,p0⟩=>[(2,vP z0),(3,vP A0),(5,vP B0),(6,G7),(8,M3),(29,M3),(30,vn p2.length),(31,vn U0)]) (fun ⟨U0,Z0,x0,p0⟩ W2=>St w W2 (.cells B0 [.map (some d0)] 111::.obj d0 (ab p0)::.cells A0 [y0] 36::.cells z0 [v1_0,vI a1.fm,vI a1.fh,vI a1.fc,vI a0.fN,v0_1] 113::.cells C0 [v1_0,vI a1.fm,vI a1.fh,vI a1.fc,vI a0.fN,v0_1] 113::rr w 36 (Lb Int) (vS t0 1) (([a2]:Lb (Lb Int)).length) [v2_0]::.cells s0 [v1_0,vI a1.fm,vI a1.fh,vI a1.fc] 35::.cells q0 [vI a0.fN,v0_1] 32::(bM x0++[]))/\Tr w97 [.cells B0 [.map (some d0)] 111,.obj d0 (ab ([]:Lb ((Int×Int×Int×Int×Int×Int×Int×Int×Int×Int×Int×Int)×Lb Vc))),.cells A0 [y0] 36,.cells z0 [v1_0,vI a1.fm,vI a1.fh,vI a1.fc,vI a0.fN,v0_1] 113,.cells C0 [v1_0,vI a1.fm,vI a1.fh,vI a1.fc,vI a0.fN,v0_1] 113,rr w 36 (Lb Int) (vS t0 1) (([a2]:Lb (Lb Int)).length) [v2_0],.cells s0 [v1_0,vI a1.fm,vI a1.fh,vI a1.fc] 35,.cells q0 [vI a0.fN,v0_1] 32] W2 (.cells B0 [.map (some d0)] 111::.obj d0 (ab p0)::.cells A0 [y0] 36::.cells z0 [v1_0,vI a1.fm,vI a1.fh,vI a1.fc,vI a0.fN,v0_1] 113::.cells C0 [v1_0,vI a1.fm,vI a1.fh,vI a1.fc,vI a0.fN,v0_1] 113::rr w 36 (Lb Int) (vS t0 1) (([a2]:Lb (Lb Int)).length) [v2_0]::.cells s0 [v1_0,vI a1.fm,vI a1.fh,vI a1.fc] 35::.cells q0 [vI a0.fN,v0_1] 32::(bM x0++[]))/\MR W2 (bl (.cells B0 [.map (some d0)] 111::.obj d0 (ab p0)::.cells A0 [y0] 36::.cells z0 [v1_0,vI a1.fm,vI a1.fh,vI a1.fc,vI a0.fN,v0_1] 113::.cells C0 [v1_0,vI a1.fm,vI a1.fh,vI a1.fc,vI a0.fN,v0_1] 113::rr w 36 (Lb Int) (vS t0 1) (([a2]:Lb (Lb Int)).length) [v2_0]::.cells s0 [v1_0,vI a1.fm,vI a1.fh,vI a1.fc] 35::.cells q0 [vI a0.fN,v0_1] 32::(bM x0++[]))++L) p0 Z0) (fun ⟨U0,Z0,x0,p0⟩=>(U0,Z0)) (fun ⟨U0,Z0,x0,p0⟩=>cols x0) (0,([]:Lb ((Int×Int×Int×Int×Int×Int×Int×Int×Int×Int×Int×Int)×Te)),(([]:Lb Nat)),([]:Lb ((Int×Int×Int×Int×Int×Int×Int×Int×Int×Int×Int×Int)×Lb Vc))) I d02 ⟨rfl,rfl,rfl,rfl,rfl,rfl,rfl,rfl,trivial⟩ ⟨E8,By _ _,(MR.mv u04 (Tt v6 (Tt x6 (Tt H4 A3))))⟩ ?_
 rintro z05 ⟨U0,Z0,x0,p0⟩ W2 v5 ⟨X3,c2,Q2⟩ h
 unfold aK_l3 at h
 try dsimp only at h
 refine Ae<|Ac (Bp (i:=U0) (j:=p2.length) I I)<|Aa<|Ai<|AO I h (fun b8 h=>?_) (fun b8 h=>?_)
 refine Am<|Ai<|Aq<|Ae<|bk h fun v0 v03 h=>?_
 obtain ⟨p05,M05,s01,H01,b06,q02,U01⟩:=Bq (AB G3 c2) v03
 obtain rfl:=dx q02
 refine Ac (AU 2 U0 I s01 I I H01)<|Ac (AP I U01)<|RG.nl [vI 0,vI 0] X3 fun K07 M0 G8 G2=>Bl [vI v0.1,vI v0.2] G8 .hd (aC I) fun M07 Y3 H2=>Aa<|Ai<|du 12 fun Q0 q1=>Rv 0 Q0 I q1 (fun _=>Ah I)<|Rv 1 Q0 I q1 (fun _=>AC (m:=1) (k:=0) (len:=2) I I I I (by omega))<|Rx 2 5144 Q0 I q1 (Ay I ((Y3.memA .hd) 0 _ I))<|bk h fun g0 x03 h=>?_
 obtain ⟨D01,y03⟩:=ax x03
 have D6:=AB Y02 (Tt A3 (Tt c2 (Tt G2 H2)))
 obtain ⟨s05,P05,t01,I01,v8,s02,V01⟩:=Bq D6 y03
 have u01:v8=[vU g0]:=s02; subst u01
 refine Rv 3 Q0 I q1 (fun _=>AU 1 (v0.1.toNat) I t01 I D01 I01)<|Rx 4 5120 Q0 I q1 (Ay I (V01 0 _ I))<|Rv 5 Q0 I q1 (fun _=>Ah I)<|Rv 6 Q0 I q1 (fun _=>AC (m:=1) (k:=1) (len:=2) I I I I (by omega))<|Rx 7 5888 Q0 I q1 (Ay I ((Y3.memA .hd) 1 _ I))<|bk h fun j0 z03 h=>?_
 obtain ⟨E01,A03⟩:=ax z03
 obtain ⟨t05,Q05,v01,J01,x8,t02,W01⟩:=Bq D6 A03
 have x01:x8=[vU j0]:=t02; subst x01
 refine Rv 8 Q0 I q1 (fun _=>AU 1 (v0.2.toNat) I v01 I E01 J01)<|Rx 9 5120 Q0 I q1 (Ay I (W01 0 _ I))<|Rv 10 Q0 I q1 (fun _=>FV.orU (a:=g0) (b:=j0) I I)<|RD.nu 11 4095 Q0 I .plain I (AF [vW 0] Y3) fun P07 P0 H8 B3=>BC 12 8191 Q0 I I .plain (Az (news:=[vW ((g0|||j0).toNat:Int)]) H8 .hd I I I I I I (o1 I)) fun Q07 Z1 C3=>AQ (dk Q0)<|Ae<|Ac (AP I (Z1.memA .t5))<|AG I ((Z1.memA .hd) 0 _ I)<|bk h fun k2 H03 h=>jE (bd 96) I (e2 I I) (fun w9 hw9=>bb_c n (Z1.hL hL hw9) (⟨a1,a0⟩:Tg) (Z1.km h1_0 hw9) (Z1.km h0_1 hw9) (g0|||j0) (hG0.keep (Z1.ag.trans hw9)) H03) I fun R07 u07 J00 ⟨D7,C04,hu_,P2,H3⟩=>?_
 subst hu_
 obtain ⟨I8,D3⟩:=Z1.agr J00
 refine RG.nl [.bool false,vN,.bool false,vN] I8 fun U07 F05 J8 v1=>Bl [.bool k2.fp.fe,D7,.bool k2.fl.fe,C04] J8 .hd (o4 I (Bs (AB P2 v1)) I (Bs (AB H3 v1))) fun H7 k1 M1=>Aa<|Ai<|Ae<|Bh 0 I<|Ac (BK (cs:=[.bool k2.fp.fe,D7]) I I (ay (k1.memA .hd) 0 2))<|bk h fun R7 I03 h=>Bz (vI R7) (bd 68) I (e1 I) (fun w9 hw9=>bC_c n (k1.hL0 hL hw9) k2.fp (k1.kd (AB P2 (Tt v1 M1)) hw9) I03) I<|Ac (BT (i:=R7) (j:=0) I I)<|Aa<|AO I h (fun c8 h=>?_) (fun c8 h=>?_)
 refine AT I<|Ak<|Ac (AW (i:=U0) (j:=1) I I (by omega))<|Ab I<|Aa ?_
 obtain ⟨K8,X9⟩:=qC k1 (qK (qK (qK (qK (qK (qK (qK (qK (.drop .hd (.drop .hd (.drop .hd .rest)))))))))))
 have F6:=Tt G2 (Tt H2 (Tt B3 (Tt C3 (Tt D3 (Tt v1 (Tt M1 X9))))))
 exact v5 (U0+1,Z0,(x0),p0) _ _ _ ⟨I,I,I,I,I,I,I,I,trivial⟩ I ⟨K8,(Tt c2 F6),(MR.mv Q2 F6)⟩ h
 refine Am<|Ai<|du 11 fun E0 Q1=>Rx 0 2560 E0 I Q1 (AP I (k1.memA .hd))<|Rv 1 E0 I Q1 (fun _=>Bv 4 I)<|Rv 2 E0 I Q1 (fun _=>Bv 0 I)<|Rx 3 2960 E0 I Q1 (Ay I ((aL (k1.memA .t6) 4) 0 _ I))<|bk h fun B04 Z02 h=>Rv 4 E0 I Q1 (fun _=>FV.subc (i:=a0.fN) (j:=1) I I Z02)<|Rv 5 E0 I Q1 (fun _=>Ah I)<|Rx 6 2944 E0 I Q1 (Bf (xs:=p2) underlying30 I (AB G3 (Tt c2 (Tt G2 (Tt H2 (Tt B3 (Tt C3 (Tt D3 (Tt v1 M1)))))))))<|bk h fun U06 b03 h=>Rv 7 E0 I Q1 (fun _=>FV.mulc (i:=B04) (j:=((p2.length:Nat):Int)) I I b03)<|bk h fun p5 v7 h=>bk h fun K0 W4 h=>RD.mf (α:=Vc×Vc×Nat) (fun ⟨z1,A1,j1⟩=>[(2,vP z0),(3,vP A0),(5,vP B0),(6,G7),(8,M3),(29,M3),(30,vn p2.length),(31,vn U0),(10,vP M0),(11,vP P0),(62,.agg #[.bool K0.fp.fe,z1,.bool K0.fl.fe,A1]),(13,vP j1)]) (fun ⟨z1,A1,j1⟩=>(.cells j1 [.bool false,vN,.bool false,vN] 121::.cells P0 [vW ((g0|||j0).toNat:Int)] 44::.cells M0 [vI v0.1,vI v0.2] 59::.cells B0 [.map (some d0)] 111::.obj d0 (ab p0)::.cells A0 [y0] 36::.cells z0 [v1_0,vI a1.fm,vI a1.fh,vI a1.fc,vI a0.fN,v0_1] 113::.cells C0 [v1_0,vI a1.fm,vI a1.fh,vI a1.fc,vI a0.fN,v0_1] 113::rr w 36 (Lb Int) (vS t0 1) (([a2]:Lb (Lb Int)).length) [v2_0]::.cells s0 [v1_0,vI a1.fm,vI a1.fh,vI a1.fc] 35::.cells q0 [vI a0.fN,v0_1] 32::(bM x0++[]))) (fun ⟨z1,A1,j1⟩ k5=>Rep.R k5 (bl (.cells j1 [.bool false,vN,.bool false,vN] 121::.cells P0 [vW ((g0|||j0).toNat:Int)] 44::.cells M0 [vI v0.1,vI v0.2] 59::.cells B0 [.map (some d0)] 111::.obj d0 (ab p0)::.cells A0 [y0] 36::.cells z0 [v1_0,vI a1.fm,vI a1.fh,vI a1.fc,vI a0.fN,v0_1] 113::.cells C0 [v1_0,vI a1.fm,vI a1.fh,vI a1.fc,vI a0.fN,v0_1] 113::rr w 36 (Lb Int) (vS t0 1) (([a2]:Lb (Lb Int)).length) [v2_0]::.cells s0 [v1_0,vI a1.fm,vI a1.fh,vI a1.fc] 35::.cells q0 [vI a0.fN,v0_1] 32::(bM x0++[]))++L) [z1] K0.fp.fk/\Rep.R k5 (bl (.cells j1 [.bool false,vN,.bool false,vN] 121::.cells P0 [vW ((g0|||j0).toNat:Int)] 44::.cells M0 [vI v0.1,vI v0.2] 59::.cells B0 [.map (some d0)] 111::.obj d0 (ab p0)::.cells A0 [y0] 36::.cells z0 [v1_0,vI a1.fm,vI a1.fh,vI a1.fc,vI a0.fN,v0_1] 113::.cells C0 [v1_0,vI a1.fm,vI a1.fh,vI a1.fc,vI a0.fN,v0_1] 113::rr w 36 (Lb Int) (vS t0 1) (([a2]:Lb (Lb Int)).length) [v2_0]::.cells s0 [v1_0,vI a1.fm,vI a1.fh,vI a1.fc] 35::.cells q0 [vI a0.fN,v0_1] 32::(bM x0++[]))++L) [A1] K0.fl.fk) k1 1 2047 ?_ ?_
 rintro ⟨z1,A1,j1⟩ k5 M8 Q5 ⟨Y6,Z6⟩
 try dsimp only
 refine BC 11 4095 E0 I I .plain (Az (news:=[.bool K0.fp.fe,z1,.bool K0.fl.fe,A1]) M8 .hd I I I I I I (o4 I (Bs Y6) I (Bs Z6))) fun R04 j3 k4=>AQ (dk E0)<|Ae<|AG I ((j3.memA .t1) 0 _ I)<|jE (bd 98) I (e1 I) (fun w9 hw9=>Calls.gives (cD_c n (j3.hL hL hw9) (g0|||j0)) fun (w8:World) (u8:Vc) ⟨b0_,hu_,s_⟩=>(⟨b0_,hu_,s_.from hw9⟩:∃ J1:Nat,u8=Value.func (.func 126) #[] #[vP J1]/\St R04 w8 [.cells J1 [vW ((g0|||j0).toNat:Int)] 44])) I fun W07 x07 A06 ⟨J1,c03,B7⟩=>?_
 subst c03
 have p4:=lG j3 B7
 refine Aa<|Aq<|MX.rangeP (lb:=[vP J1]) I (gM j3 B7) I (bd 126) func126 I I I fun X07 X4 V1 y7 d06 k3 q4 y04 c01 G06=>Ae<|AG I ((k3.memA .t2) 0 _ I)<|AG I ((k3.memA .t2) 0 _ I)<|Ac (FV.negU (a:=g0|||j0) I)<|Ac (Br (a:=g0|||j0) (b:=-(g0|||j0)) I I)<|Af I<|Aa<|Ae<|AG I ((k3.memA .t2) 0 _ I)<|Ab I<|Ac (FV.andNotU (a:=g0|||j0) (b:=(g0|||j0)&&&(-(g0|||j0))) I I)<|Af I<|Aa<|Ae<|Ab I<|Af I<|Aa<|Aq ?_
 have G6:=Tt G2 (Tt H2 (Tt B3 (Tt C3 (Tt D3 (Tt v1 (Tt M1 (Tt Q5 (Tt k4 (Tt p4 q4)))))))))
 obtain ⟨Q06,g02,C01⟩:=ai h
 refine MX.lf (α:=Ua×(Lb ((Int×Int×Int×Int×Int×Int×Int×Int×Int×Int×Int×Int)×Te))×(Lb ((Int×Int×Int×Int×Int×Int×Int×Int×Int×Int×Int×Int)×Lb Vc))) (fun ⟨F1,b1,G0⟩=>[(0,.func (.yield X4) #[] #[]),(3,vW (((g0|||j0)&&&(-(g0|||j0))).toNat:Int)),(4,vW (((g0|||j0)&&&~~~((g0|||j0)&&&(-(g0|||j0)))).toNat:Int)),(5,vU F1)]) (fun ⟨F1,b1,G0⟩=>(.obj X4 (lpO y7 .ready none)::.obj V1 (.deferred (some []))::.cells J1 [vW ((g0|||j0).toNat:Int)] 44::.cells j1 [.bool K0.fp.fe,z1,.bool K0.fl.fe,A1] 121::.cells P0 [vW ((g0|||j0).toNat:Int)] 44::.cells M0 [vI v0.1,vI v0.2] 59::.cells B0 [.map (some d0)] 111::.obj d0 (ab G0)::.cells A0 [y0] 36::.cells z0 [v1_0,vI a1.fm,vI a1.fh,vI a1.fc,vI a0.fN,v0_1] 113::.cells C0 [v1_0,vI a1.fm,vI a1.fh,vI a1.fc,vI a0.fN,v0_1] 113::rr w 36 (Lb Int) (vS t0 1) (([a2]:Lb (Lb Int)).length) [v2_0]::.cells s0 [v1_0,vI a1.fm,vI a1.fh,vI a1.fc] 35::.cells q0 [vI a0.fN,v0_1] 32::(bM x0++[]))) (fun ⟨F1,b1,G0⟩ K7=>MR K7 (bl (.obj X4 (lpO y7 .ready none)::.obj V1 (.deferred (some []))::.cells J1 [vW ((g0|||j0).toNat:Int)] 44::.cells j1 [.bool K0.fp.fe,z1,.bool K0.fl.fe,A1] 121::.cells P0 [vW ((g0|||j0).toNat:Int)] 44::.cells M0 [vI v0.1,vI v0.2] 59::.cells B0 [.map (some d0)] 111::.obj d0 (ab G0)::.cells A0 [y0] 36::.cells z0 [v1_0,vI a1.fm,vI a1.fh,vI a1.fc,vI a0.fN,v0_1] 113::.cells C0 [v1_0,vI a1.fm,vI a1.fh,vI a1.fc,vI a0.fN,v0_1] 113::rr w 36 (Lb Int) (vS t0 1) (([a2]:Lb (Lb Int)).length) [v2_0]::.cells s0 [v1_0,vI a1.fm,vI a1.fh,vI a1.fc] 35::.cells q0 [vI a0.fN,v0_1] 32::(bM x0++[]))++L) G0 b1) (fun ⟨F1,b1,G0⟩=>(F1,b1)) ((g0|||j0)&&&~~~((g0|||j0)&&&(-(g0|||j0))),Z0,p0) g02 k3 (MR.mv Q2 G6) ?_
 rintro A05 ⟨F1,b1,G0⟩ K7 c3 Z3 j2 R2 h
 unfold aK_l1 at h
 try dsimp only at h
 refine Ai<|Ae<|Ab I<|Ac (FV.neqU (a:=F1) (b:=(0:Ua)) I I)<|Aa<|MX.ifn I h (fun d8 h=>?_) (fun d8 h=>?_)
 refine AT I ?_
 have h:=C01 _ h
 try dsimp only at h
 refine MX.fin rfl<|Aw (u:=.tuple #[]) c01 func126 rfl .nil rfl<|MX.endRange0 Z3 .hd (by intro h9; cases h9) fun Q3 A5 Z9=>?_
 obtain ⟨B5,b00⟩:=qC A5 (qI (qI (qI (qI (qI (qI (qI (qI (qI (qI (qI (qI (qI (.drop .hd .rest))))))))))))))
 refine Ao<|Ao<|Ak<|Ac (AW (i:=U0) (j:=1) I I (by omega))<|Ab I<|Aa ?_
 obtain ⟨P8,c00⟩:=qC B5 (.one .t5 (.one .t5 (.one .t5 (.one .t5 (.one .t5 (.one .t5 (.one .t5 (.one .t5 (qH (.drop .hd (.drop .hd (.drop .hd (.drop .hd .rest)))))))))))))
 have H6:=Tt Z9 (Tt b00 c00)
 exact v5 (U0+1,b1,(V1::x0),G0) _ _ _ ⟨I,I,I,I,I,I,I,I,trivial⟩ I ⟨P8,(Tt c2 (Tt G6 (Tt j2 H6))),(MR.mv R2 H6)⟩ h
 refine Am<|Aq<|Ae<|Ab I<|Ac (FV.subU (a:=F1) (b:=(1:Ua)) I I)<|Ab I<|bk h fun V0 d03 h=>Ac (FV.as (Br (a:=F1-(1:Ua)) (b:=(g0|||j0)&&&~~~((g0|||j0)&&&(-(g0|||j0)))) I I) (congrArg (fun z:Ua=>Value.int .u64 (z.toNat:Int)) (Option.some.inj d03)))<|Af I<|Aa<|Ae<|Ab I<|Ab I<|Ab I<|Ac (FV.orU (a:=V0) (b:=(g0|||j0)&&&(-(g0|||j0))) I I)<|RG.yieldP (fd:=65) (vs:=[vW ((V0|||((g0|||j0)&&&(-(g0|||j0)))).toNat:Int)]) .plain I (e1 I) Z3 .hd y04 I I I fun j06 F3 I06=>Ak<|Af I<|Aa<|MX.begin Z3 .hd fun Y07 D2 v2=>Aq<|Ae<|AG I ((D2.memA .t8) 0 _ I)<|Ac (AC (m:=1) (k:=0) (len:=2) I I I I (by omega))<|AG I ((D2.memA .t5) 0 _ I)<|Ac (AC (m:=1) (k:=1) (len:=2) I I I I (by omega))<|AG I ((D2.memA .t5) 1 _ I)<|Ab I<|bk h fun g09 J03 h=>?_
 have I6:=Tt R4 (Tt H4 (Tt A3 (Tt c2 (Tt G2 (Tt H2 (Tt B3 (Tt C3 (Tt D3 (Tt v1 (Tt M1 (Tt Q5 (Tt k4 (Tt p4 (Tt q4 (Tt j2 v2)))))))))))))))
 refine jE (bd 99) I (e4 I I I I) (fun w9 hw9=>bU_c n (D2.hL hL hw9) (Ax (AB M2 I6) hw9) (V0|||((g0|||j0)&&&(-(g0|||j0)))) J03) I fun Z07 y07 M00 ⟨W06,hu_,b7⟩=>?_
 subst hu_
 obtain ⟨u0,x2⟩:=D2.agr M00
 refine Af I<|Aa<|Ae<|Ac (AP I (u0.memA .t9))<|Ab I<|bk h fun Z04 K03 h=>Bz (.bool Z04) (bd 93) I (e2 I I) (fun w9 hw9=>az_c n (u0.hL0 hL hw9) (⟨a1,a0⟩:Tg) (u0.k0 h1_0 hw9) (u0.k0 h0_1 hw9) (V0|||((g0|||j0)&&&(-(g0|||j0)))) (hG0.keep (u0.ag.trans hw9)) K03) I<|Ab I<|RG.ifb (s:=76) I h (fun g8 h=>?_) (fun g8 h=>?_)
 refine Au (AP I (u0.memA .t9))<|Au (Ay I ((u0.memA .t4) 0 _ I))<|Au (Ah I)<|Au (FV.andNotU (a:=g0|||j0) (b:=V0|||((g0|||j0)&&&(-(g0|||j0)))) I I)<|bk h fun b05 M03 h=>RG.callq' (v:=.bool b05) (fst:=[]) (cap:=[]) (.yes I I) (bd 93) I (e2 I I) (fun w9 hw9=>az_c n (u0.hL0 hL hw9) (⟨a1,a0⟩:Tg) (u0.k0 h1_0 hw9) (u0.k0 h0_1 hw9) ((g0|||j0)&&&~~~(V0|||((g0|||j0)&&&(-(g0|||j0))))) (hG0.keep (u0.ag.trans hw9)) M03) I<|Bm I I<|Ab I<|RG.ifb (s:=83) I h (fun j8 h=>?_) (fun j8 h=>?_)
 refine Au (Ay I ((u0.memA .t8) 0 _ I))<|bk h fun q5 P03 h=>RG.callq' (v:=.agg ((cZ q5)).toArray) (fst:=[]) (cap:=[]) (.yes I I) (bd 41) I (e1 I) (fun w9 hw9=>bI_c n (u0.hL0 hL hw9) (u0.kd (AB M2 (Tt I6 x2)) hw9) P03) I<|Au (Ah I)<|bk h fun s5 Q03 h=>RG.callq' (v:=.agg ((cZ s5)).toArray) (fst:=[]) (cap:=[]) (.yes I I) (bd 41) I (e1 I) (fun w9 hw9=>bI_c n (u0.hL0 hL hw9) (u0.kd b7 hw9) Q03) I<|Au (FV.neqV (xs:=((cZ q5)).toArray) (ys:=((cZ s5)).toArray) I I (by kernel_rfl) (sA q5 s5))<|Bm I I<|Aa<|MX.ifn I h (fun k8 h=>?_) (fun k8 h=>?_)
 refine Am<|Ao<|MX.roundEnd F3 u0 .hd fun b08 Q8 d00=>Ac (BV I)<|Aa<|Bn I<|Am<|Ao ?_
 have J6:=Tt v2 (Tt x2 d00)
 exact c3 (V0,b1,G0) Q8 (Tt j2 J6) (MR.mv R2 J6) h
 refine du 14 fun H0 y1=>Rx 0 16384 H0 I y1 (Ay I ((u0.memA .t6) 0 _ I))<|Rv 1 H0 I y1 (fun _=>Ah I)<|bk h fun Y2 R03 h=>RD.cq 2 7 27680 (.agg ((cZ Y2)).toArray) H0 I y1 (bd 41) I (e1 I) (fun w9 hw9=>bI_c n (u0.hL0 hL hw9) (u0.kd b7 hw9) R03) I<|Rx 3 27680 H0 I y1 (AP I (u0.memA .t9))<|Rv 4 H0 I y1 (fun _=>Ah I)<|Rx 6 27648 H0 I y1 (AP I (u0.memA .t9))<|Rx 7 28160 H0 I y1 (Ay I ((u0.memA .t4) 0 _ I))<|Rv 8 H0 I y1 (fun _=>Ah I)<|Rv 9 H0 I y1 (fun _=>FV.andNotU (a:=g0|||j0) (b:=V0|||((g0|||j0)&&&(-(g0|||j0)))) I I)<|Rx 12 24576 H0 I y1 (AP I (u0.memA .t3))<|bk h fun c05 U03 h=>BQ 5 5119 H0 I .plain (bd 96) I (e2 I I) (fun w9 hw9=>bb_c n (u0.hL hL hw9) (⟨a1,a0⟩:Tg) (u0.km h1_0 hw9) (u0.km h0_1 hw9) (V0|||((g0|||j0)&&&(-(g0|||j0)))) (hG0.keep (u0.ag.trans hw9)) U03) I fun c08 z07 P00 ⟨X06,Y06,hu_,x02,y02⟩=>?_
 subst hu_
 obtain ⟨E2,R5⟩:=u0.agr P00
 refine bk h fun d05 V03 h=>BQ 10 6143 H0 I .plain (bd 96) I (e2 I I) (fun w9 hw9=>bb_c n (E2.hL hL hw9) (⟨a1,a0⟩:Tg) (E2.km h1_0 hw9) (E2.km h0_1 hw9) ((g0|||j0)&&&~~~(V0|||((g0|||j0)&&&(-(g0|||j0))))) (hG0.keep (E2.ag.trans hw9)) V03) I fun d08 A07 Q00 ⟨Z06,b07,hu_,z02,A02⟩=>?_
 subst hu_
 obtain ⟨C5,E3⟩:=E2.agr Q00
 refine bk h fun g05 W03 h=>BQ 11 8191 H0 I .plain (bd 97) I (e2 I I) (fun w9 hw9=>bc_c n (C5.hL hL hw9) c05 (Ax (AB x02 E3) hw9) (Ax (AB y02 E3) hw9) d05 (Ax z02 hw9) (Ax A02 hw9) W03) I fun g08 B07 R00 ⟨c07,d07,hu_,B02,C02⟩=>?_
 subst hu_
 obtain ⟨D5,U5⟩:=C5.agr R00
 refine bk h fun C1 X03 h=>?_
 have K6:=Tt k4 (Tt p4 (Tt q4 (Tt j2 (Tt v2 (Tt x2 (Tt R5 (Tt E3 U5)))))))
 refine BQ 13 16383 H0 I .plain (bd 100) I (e2 I I) (fun w9 hw9=>bX_c n (D5.hL hL hw9) g05 (Ax B02 hw9) (Ax C02 hw9) K0 (Ax (AB Y6 K6) hw9) (Ax (AB Z6 K6) hw9) X03) I fun j08 C07 U00 ⟨b5,c5,hu_,D02,E02⟩=>?_
 subst hu_
 obtain ⟨R8,g00⟩:=D5.agr U00
 have M6:=Tt v2 (Tt x2 (Tt R5 (Tt E3 (Tt U5 g00))))
 refine BC 14 32767 H0 I I .plain (Acts.mapUpdateK (kv:=Y2) (vv:=[.bool C1.fp.fe,b5,.bool C1.fl.fe,c5]) jL R8 .t7 underlying111 I I I) fun k08 U8 V5=>AQ (dk H0)<|Ao<|MX.roundEnd F3 U8 .hd fun p08 V8 W5=>Ac (BV I)<|Aa<|Bn I<|Am<|Ao<|c3 (V0,aH b1 Y2 C1,(aH G0 Y2 [.bool C1.fp.fe,b5,.bool C1.fl.fe,c5])) V8 (Tt j2 (Tt M6 (Tt V5 W5))) (MR.mv (MR.set (k:=Y2) (c:=[.bool C1.fp.fe,b5,.bool C1.fl.fe,c5]) (y:=C1) (mk_Te C1.fp D02 C1.fl E02) (MR.mv R2 M6)) (Tt V5 W5)) h
 refine Aj<|Aj<|Aj<|Aj<|Aj<|Bo I I<|Aa<|Bn I<|Am<|Ao<|MX.roundEnd F3 u0 .hd fun q08 W8 j00=>Ac (BV I)<|Aa<|Bn I<|Am<|Ao ?_
 have P6:=Tt v2 (Tt x2 j00)
 exact c3 (V0,b1,G0) W8 (Tt j2 P6) (MR.mv R2 P6) h
 refine Aj<|Aj<|Aj<|Aj<|Aj<|Bo I I<|Ab I<|Aj<|Aj<|Aj<|Aj<|Aj<|Bo I I<|Aa<|Bn I<|Am<|Ao<|MX.roundEnd F3 u0 .hd fun s08 X8 k00=>Ac (BV I)<|Aa<|Bn I<|Am<|Ao ?_
 have Q6:=Tt v2 (Tt x2 k00)
 exact c3 (V0,b1,G0) X8 (Tt j2 Q6) (MR.mv R2 Q6) h
 intro W3
 refine Bc [8,10] (rk E0) ⟨?_,?_,trivial⟩
 refine RO.call (m' :=511) (fst:=[]) (cap:=[]) (sk E0) I .plain (bd 66) I (e1 I) (fun w9 hw9=>ce_c n (k1.hL hL hw9)  v7) I fun Q04 M04 I4 ⟨D04,E04,hu_,I3,J3⟩=>?_
 subst hu_
 obtain ⟨u2,g2⟩:=k1.agr I4
 refine Bc [9,10] (rk E0) ⟨?_,?_,trivial⟩
 have P1:=Tt v1 (Tt M1 g2)
 have M4:=AB P2 P1
 have P4:=AB H3 P1
 refine RO.call (m' :=1023) (fst:=[]) (cap:=[]) (sk E0) I .plain (bd 97) I (e2 I I) (fun w9 hw9=>bc_c n (u2.hL hL hw9) k2 (Ax M4 hw9) (Ax P4 hw9) p5 (Ax I3 hw9) (Ax J3 hw9) W4) I fun j5 P04 J4 ⟨Y4,Z4,hu_,U4,V4⟩=>?_
 subst hu_
 obtain ⟨g3,j4⟩:=u2.agr J4
 refine RD.nu 10 2047 E0 I .plain I (AF [.bool false,vN,.bool false,vN] g3) fun P3 g1 K1 p1=>?_
 obtain ⟨Y8,s4⟩:=qC K1 (qH (qI (qI (qI (qI (qI (qI (qI (qI (qI (qI (.drop .hd .rest))))))))))))
 exact W3 (Y4,Z4,g1) Y8 (Tt g2 (Tt j4 (Tt p1 s4))) ⟨(AB U4 (Tt p1 s4)),(AB V4 (Tt p1 s4))⟩
 refine BH (m' :=1535) (sk E0) I .plain I (AF [.bool false,vN,.bool false,vN] u2) fun P3 g1 K1 p1=>?_
 have P1:=Tt v1 (Tt M1 (Tt g2 p1))
 have M4:=AB P2 P1
 have P4:=AB H3 P1
 refine BQ 9 2047 E0 I .plain (bd 97) I (e2 I I) (fun w9 hw9=>bc_c n (K1.hL hL hw9) k2 (Ax M4 hw9) (Ax P4 hw9) p5 (Ax (AB I3 p1) hw9) (Ax (AB J3 p1) hw9) W4) I fun I7 v07 K00 ⟨F04,G04,hu_,u02,v02⟩=>?_
 subst hu_
 obtain ⟨y5,Y9⟩:=K1.agr K00
 obtain ⟨Z8,u4⟩:=qC y5 (qH (qI (qI (qI (qI (qI (qI (qI (qI (qI (qI (.drop .hd .rest))))))))))))
 exact W3 (F04,G04,g1) Z8 (Tt g2 (Tt p1 (Tt Y9 u4))) ⟨(AB u02 u4),(AB v02 u4)⟩
 refine BH (m' :=1279) (sk E0) I .plain I (AF [.bool false,vN,.bool false,vN] k1) fun P3 g1 K1 p1=>BQ 8 1535 E0 I .plain (bd 66) I (e1 I) (fun w9 hw9=>ce_c n (K1.hL hL hw9)  v7) I fun Q04 M04 I4 ⟨D04,E04,hu_,I3,J3⟩=>?_
 subst hu_
 obtain ⟨u2,g2⟩:=K1.agr I4
 have P1:=Tt v1 (Tt M1 (Tt p1 g2))
 refine BQ 9 2047 E0 I .plain (bd 97) I (e2 I I) (fun w9 hw9=>bc_c n (u2.hL hL hw9) k2 (Ax (AB P2 P1) hw9) (Ax (AB H3 P1) hw9) p5 (Ax I3 hw9) (Ax J3 hw9) W4) I fun j5 P04 J4 ⟨Y4,Z4,hu_,U4,V4⟩=>?_
 subst hu_
 obtain ⟨g3,j4⟩:=u2.agr J4
 obtain ⟨b9,v4⟩:=qC g3 (qH (qI (qI (qI (qI (qI (qI (qI (qI (qI (qI (.drop .hd .rest))))))))))))
 exact W3 (Y4,Z4,g1) b9 (Tt p1 (Tt g2 (Tt j4 v4))) ⟨(AB U4 v4),(AB V4 v4)⟩
 refine AT I ?_
 have h:=B01 _ h
 try dsimp only at h
 refine Ae<|AG I ((X3.memA .hd) 0 _ I)<|Af I<|Aa<|Ap I<|RT.takes (O1:=[.cells B0 [.map (some d0)] 111,.obj d0 (ab p0),.cells A0 [y0] 36,.cells z0 [v1_0,vI a1.fm,vI a1.fh,vI a1.fc,vI a0.fN,v0_1] 113,.cells C0 [v1_0,vI a1.fm,vI a1.fh,vI a1.fc,vI a0.fN,v0_1] 113,rr w 36 (Lb Int) (vS t0 1) (([a2]:Lb (Lb Int)).length) [v2_0],.cells s0 [v1_0,vI a1.fm,vI a1.fh,vI a1.fc] 35,.cells q0 [vI a0.fN,v0_1] 32]) (O2:=[]) (Ds:=x0) X3 fun J7 c9 p00=>?_
 have E5:St _ J7 [.cells B0 [.map (some d0)] 111,.obj d0 (ab p0),.cells A0 [y0] 36,.cells z0 [v1_0,vI a1.fm,vI a1.fh,vI a1.fc,vI a0.fN,v0_1] 113,.cells C0 [v1_0,vI a1.fm,vI a1.fh,vI a1.fc,vI a0.fN,v0_1] 113,rr w 36 (Lb Int) (vS t0 1) (([a2]:Lb (Lb Int)).length) [v2_0],.cells s0 [v1_0,vI a1.fm,vI a1.fh,vI a1.fc] 35,.cells q0 [vI a0.fN,v0_1] 32]:=c9
 have X5:Tr W2 (.cells B0 [.map (some d0)] 111::.obj d0 (ab p0)::.cells A0 [y0] 36::.cells z0 [v1_0,vI a1.fm,vI a1.fh,vI a1.fc,vI a0.fN,v0_1] 113::.cells C0 [v1_0,vI a1.fm,vI a1.fh,vI a1.fc,vI a0.fN,v0_1] 113::rr w 36 (Lb Int) (vS t0 1) (([a2]:Lb (Lb Int)).length) [v2_0]::.cells s0 [v1_0,vI a1.fm,vI a1.fh,vI a1.fc] 35::.cells q0 [vI a0.fN,v0_1] 32::(bM x0++[])) J7 [.cells B0 [.map (some d0)] 111,.obj d0 (ab p0),.cells A0 [y0] 36,.cells z0 [v1_0,vI a1.fm,vI a1.fh,vI a1.fc,vI a0.fN,v0_1] 113,.cells C0 [v1_0,vI a1.fm,vI a1.fh,vI a1.fc,vI a0.fN,v0_1] 113,rr w 36 (Lb Int) (vS t0 1) (([a2]:Lb (Lb Int)).length) [v2_0],.cells s0 [v1_0,vI a1.fm,vI a1.fh,vI a1.fc] 35,.cells q0 [vI a0.fN,v0_1] 32]:=p00
 refine Aw (u:=.map (some d0)) b01 func65 I (.cons (.tmp I) .nil) I<|Af I<|Aa<|Ae<|bk h fun U1 Y03 h=>jE (bd 66) I (e1 I) (fun w9 hw9=>ce_c n (E5.hL hL hw9)  Y03) I fun t08 D07 V00 ⟨d5,g5,hu_,c7,d7⟩=>?_
 subst hu_
 obtain ⟨d9,Y5⟩:=E5.agr V00
 refine RG.nl [.bool false,vN,.bool false,vN] d9 fun u08 q2 g9 I2=>Bl [.bool U1.fp.fe,d5,.bool U1.fl.fe,g5] g9 .hd (o4 I (Bs (AB c7 I2)) I (Bs (AB d7 I2))) fun v08 j9 x4=>Aa<|Ai<|Ae<|Ab I<|Av .plain I (Does.range (D:=p0) j9 .t2 underlying111 I) fun U04 s2 k9 y4=>Aa<|Aq ?_
 obtain ⟨q9,z4⟩:=AX k9 (.a0 (.a0 (.a1 .d4)))
 have R6:=Tt I2 (Tt x4 (Tt y4 z4))
 refine MX.mloop (α:=Bool×(Lb Ua)×Bool×(Lb Ua)×(Array Nat)×Vc×Vc) (fun ⟨F0,B1,J0,H1,E1,Y0,s1⟩=>[(1,y0),(5,.map (some d0)),(6,vP q2),(14,vP s2)]) (fun z7 ⟨F0,B1,J0,H1,E1,Y0,s1⟩ X2=>St w X2 [.obj s2 (bN d0 p0.length E1),.cells q2 [.bool F0,Y0,.bool J0,s1] 121,.obj d0 (ab p0),rr w 36 (Lb Int) (vS t0 1) (([a2]:Lb (Lb Int)).length) [v2_0],.cells s0 [v1_0,vI a1.fm,vI a1.fh,vI a1.fc] 35,.cells q0 [vI a0.fN,v0_1] 32]/\Tr U04 [.obj s2 (bN d0 p0.length #[]),.cells q2 [.bool U1.fp.fe,d5,.bool U1.fl.fe,g5] 121,.obj d0 (ab p0),rr w 36 (Lb Int) (vS t0 1) (([a2]:Lb (Lb Int)).length) [v2_0],.cells s0 [v1_0,vI a1.fm,vI a1.fh,vI a1.fc] 35,.cells q0 [vI a0.fN,v0_1] 32] X2 [.obj s2 (bN d0 p0.length E1),.cells q2 [.bool F0,Y0,.bool J0,s1] 121,.obj d0 (ab p0),rr w 36 (Lb Int) (vS t0 1) (([a2]:Lb (Lb Int)).length) [v2_0],.cells s0 [v1_0,vI a1.fm,vI a1.fh,vI a1.fc] 35,.cells q0 [vI a0.fN,v0_1] 32]/\left Z0 E1=z7/\Rep.R X2 (bl [.obj s2 (bN d0 p0.length E1),.cells q2 [.bool F0,Y0,.bool J0,s1] 121,.obj d0 (ab p0),rr w 36 (Lb Int) (vS t0 1) (([a2]:Lb (Lb Int)).length) [v2_0],.cells s0 [v1_0,vI a1.fm,vI a1.fh,vI a1.fc] 35,.cells q0 [vI a0.fN,v0_1] 32]++L) [Y0] B1/\Rep.R X2 (bl [.obj s2 (bN d0 p0.length E1),.cells q2 [.bool F0,Y0,.bool J0,s1] 121,.obj d0 (ab p0),rr w 36 (Lb Int) (vS t0 1) (([a2]:Lb (Lb Int)).length) [v2_0],.cells s0 [v1_0,vI a1.fm,vI a1.fh,vI a1.fc] 35,.cells q0 [vI a0.fN,v0_1] 32]++L) [s1] H1) (fun ⟨F0,B1,J0,H1,E1,Y0,s1⟩=>(F0,B1,J0,H1)) (U1.fp.fe,U1.fp.fk,U1.fl.fe,U1.fl.fk,#[],d5,g5) h ⟨rfl,rfl,rfl,rfl,trivial⟩ ⟨q9,By _ _,(nA _),(AB c7 R6),(AB d7 R6)⟩ ?_
 rintro z7 ⟨F0,B1,J0,H1,E1,Y0,s1⟩ X2 B05 B8 ⟨s9,A4,M01,g7,j7⟩ Y01 p01
 refine Ae ?_
 have Q4:=Tt X5 (Tt Y5 (Tt I2 (Tt x4 (Tt y4 (Tt z4 A4)))))
 refine RG.nextR (W:=p0) (MR.mv Q2 Q4) s9 .t2 (fun _=>.hd) I I M01 (fun y08 Z01 D1 J2=>?_) (fun z08 v04 V3 k06 z04 F01 F02 k02 P01 F5 B4=>?_)
 have h:=Y01 Z01
 try dsimp only at h
 refine Ac (Al I I)<|Aa<|Ai<|Bn I<|AT I<|Ai<|Ae<|Bh 0 I<|Ac (BK (cs:=[.bool F0,Y0]) I I (ay (D1.memA .t1) 0 2))<|bk h fun U7 Z03 h=>?_
 have E6:=AB g7 J2
 refine Bz (vI U7) (bd 68) I (e1 I) (fun w9 hw9=>bC_c n (D1.hL0 hL hw9) (⟨F0,B1⟩:Tb) (D1.kd E6 hw9) Z03) I<|Ac (FV.gtr (i:=U7) (j:=0) I I)<|Aa<|MX.jf (α:=(Lb ((Int×Int×Int×Int×Int×Int×Int×Int×Int×Int×Int×Int)×Te))×(Lb ((Int×Int×Int×Int×Int×Int×Int×Int×Int×Int×Int×Int)×Lb Vc))) (fun ⟨W1,D0⟩=>[(5,.map (some d0))]) (fun ⟨W1,D0⟩=>[.obj d0 (ab D0),rr w 36 (Lb Int) (vS t0 1) (([a2]:Lb (Lb Int)).length) [v2_0],.cells s0 [v1_0,vI a1.fm,vI a1.fh,vI a1.fc] 35,.cells q0 [vI a0.fN,v0_1] 32]) (fun ⟨W1,D0⟩ M7=>MR M7 (bl [.obj d0 (ab D0),rr w 36 (Lb Int) (vS t0 1) (([a2]:Lb (Lb Int)).length) [v2_0],.cells s0 [v1_0,vI a1.fm,vI a1.fh,vI a1.fc] 35,.cells q0 [vI a0.fN,v0_1] 32]++L) D0 W1) (fun ⟨W1,D0⟩=>W1) D1 h ?_ ?_
 rintro ⟨W1,D0⟩ M7 v9 z06 x7 h
 try dsimp only at h
 refine Ae<|Ab I<|Af I<|Aa<|Ap I<|Aw (u:=.map (some d0)) Z00 func38 I (.cons (.tmp I) .nil) I<|Af I<|Aa<|Ai<|Ae<|Ab I<|Av .plain I (Does.range (D:=D0) v9 .hd underlying111 I) fun V04 B2 G5 q00=>Aa<|Aq ?_
 have H5:=G5.nilRow 36 (Rep.size (Lb Int))
 obtain ⟨A9,b6⟩:=AX H5 (.a0 (.a0 (.a0 .d2)))
 refine MX.mloop (α:=(Lb (Lb Int))×Vc×(Lb Vc)×(Array Nat)) (fun ⟨u1,R0,X1,R1⟩=>[(3,vP q0),(6,R0),(7,vN),(10,.map (some d0)),(35,vP B2)]) (fun A7 ⟨u1,R0,X1,R1⟩ R3=>St w R3 [rr w 36 (Lb Int) R0 u1.length X1,.obj B2 (bN d0 D0.length R1),.obj d0 (ab D0),.cells q0 [vI a0.fN,v0_1] 32]/\Tr V04 [rr w 36 (Lb Int) vN (([]:Lb (Lb Int)).length) [],.obj B2 (bN d0 D0.length #[]),.obj d0 (ab D0),.cells q0 [vI a0.fN,v0_1] 32] R3 [rr w 36 (Lb Int) R0 u1.length X1,.obj B2 (bN d0 D0.length R1),.obj d0 (ab D0),.cells q0 [vI a0.fN,v0_1] 32]/\Cells R3 (bl [rr w 36 (Lb Int) R0 u1.length X1,.obj B2 (bN d0 D0.length R1),.obj d0 (ab D0),.cells q0 [vI a0.fN,v0_1] 32]++L) X1 u1/\left W1 R1=A7) (fun ⟨u1,R0,X1,R1⟩=>u1) (([]:Lb (Lb Int)),vN,[],#[]) h ⟨rfl,rfl,rfl,rfl,rfl,trivial⟩ ⟨A9,By _ _,(Ar (AD (cs:=[]) (xs:=([]:Lb (Lb Int))) H5 L (AK _ _)) b6),(nA _)⟩ ?_
 rintro A7 ⟨u1,R0,X1,R1⟩ R3 D05 C8 ⟨B9,c6,y6,Q01⟩ b02 q01
 refine Ae ?_
 have U6:=Tt q00 (Tt (BW G5 36 (Rep.size (Lb Int))) (Tt b6 c6))
 refine RG.nextR (W:=D0) (MR.mv x7 U6) B9 .t2 (fun _=>.t1) I I Q01 (fun A08 c02 p3 d6=>?_) (fun B08 x04 c0 p06 A04 G01 G02 p02 R01 I5 s00=>?_)
 have h:=b02 c02
 try dsimp only at h
 refine Ac (Al I I)<|Aa<|Ai<|Bn I<|AT I<|Ae<|Ab I<|BB (fst:=[]) (cap:=[]) (vs:=[R0,.func (.func 40) #[] #[]]) .plain (bd 24) func24 I I I I (e2 I I) I fun q06 d01 J06=>Ae<|Ab I ?_
 have D06:u1.length<=4294967296:=St.rowLe (α:=Lb Int) p3 .hd
 obtain ⟨v05,V05,y01⟩:=St.rowV (α:=Lb Int) p3 .hd
 refine Ac (FV.lenV underlying39 I y01)<|Af I<|Aa<|Ak<|Ab I<|Ab I<|Ab I<|Ac (FV.convU (i:=((u1.length:Nat):Int)) underlying3 underlying106 I)<|bk h fun V7 b04 h=>Bz (vI V7) (bd 46) I (e1 I) (fun w9 hw9=>bO_c n (p3.hL0 hL hw9) (ac ((u1.length:Nat):Int)) b04) I<|Ab I<|bk h fun z2 C03 h=>RG.sort1 (β:=Lb Int) I (ρ:=Tryz.srt45_ren) (c:=(fun x9 y9=>bZ_p n x9 y9)) (li:=V7) C03 I Tryz.srt45 (enters_of func40 I I) (fun L9 w9 hL9 u9 z9 x9 y9 r9 h1 h2 h9=>bZ_c n hL9 h1 h2 h9) .plain (bd 45) I (e5 I I I I I) I p3 hL (Ar y6 d6) (fun _=>.hd) fun C08 u5 q3 t00 z6=>Aa<|MX.fin I<|Aw (u:=.tuple #[]) d01 func24 I .nil I<|Aa<|Ai<|Ae<|Ab I ?_
 have E06:z2.length<=4294967296:=St.rowLe (α:=Lb Int) q3 .hd
 obtain ⟨x05,W05,z01⟩:=St.rowV (α:=Lb Int) q3 .hd
 refine Ac (FV.lenV underlying39 I z01)<|Ab I<|Aa<|Aq ?_
 have J5:=q3.nilRow 82 (Rep.size Ta)
 have g6:=BW q3 82 (Rep.size Ta)
 obtain ⟨C9,C4⟩:=AX J5 (.a0 (.a0 (.a1 .done)))
 refine tn h fun R06 j02 B6=>MX.lf (α:=Nat×(Lb Ta)×Vc×(Lb Vc)) (fun ⟨x1,I1,G1,Y1⟩=>[(6,R0),(7,G1),(10,.map (some d0)),(49,R0),(50,vn z2.length),(51,vn x1)]) (fun ⟨x1,I1,G1,Y1⟩=>[rr w 82 Ta G1 I1.length Y1,rr w 36 (Lb Int) R0 z2.length u5,.obj d0 (ab D0)]) (fun ⟨x1,I1,G1,Y1⟩ P7=>Cells P7 (bl [rr w 82 Ta G1 I1.length Y1,rr w 36 (Lb Int) R0 z2.length u5,.obj d0 (ab D0)]++L) Y1 I1) (fun ⟨x1,I1,G1,Y1⟩=>(x1,I1)) (0,([]:Lb Ta),vN,[]) j02 C9 (Ar (AD (cs:=[]) (xs:=([]:Lb Ta)) J5 L (AK _ _)) C4) ?_
 rintro E05 ⟨x1,I1,G1,Y1⟩ P7 D8 X0 D4 A6 h
 unfold aK_l2 at h
 try dsimp only at h
 refine Ae<|Ac (Bp (i:=x1) (j:=z2.length) I I)<|Aa<|Ai<|AO I h (fun p8 h=>?_) (fun p8 h=>?_)
 refine Am<|Ai<|Aq<|Ae<|bk h fun c09 B03 h=>?_
 have V6:=Tt g6 (Tt C4 D4)
 obtain ⟨X7,X05,K4,C6,s06,H02,X01⟩:=BF (α:=Lb Int) X0 .t1 (Ar z6 V6) B03
 obtain ⟨Y7,Y05,A01⟩:=Bd (α:=Lb Int) X0 .t1 C6
 obtain rfl:X7=⟨Y7,0,none⟩:=by rw [A01] at K4; cases K4; rfl
 obtain ⟨g07,rfl,I02⟩:=bX H02
 refine Ac (AU 1 x1 I K4 I I C6)<|AG I (X01 0 _ I)<|Af I<|Aa<|Ae<|Ab I<|Ab I<|bk h fun W7 c04 h=>Bz (.agg ((cZ W7)).toArray) (bd 41) I (e1 I) (fun w9 hw9=>bI_c n (X0.hL0 hL hw9) (X0.kd I02 hw9) c04) I<|bk h fun j05 d04 h=>?_
 obtain ⟨t06,t04,J02⟩:=MR.got (MR.mv x7 (Tt U6 (Tt d6 (Tt t00 V6)))) d04
 obtain ⟨j07,k07,rfl,K02,M02⟩:=sb J02
 refine Ac (FV.lookupK1 (kv:=W7) jL X0 .t2 underlying111 (z:=.agg #[.bool false,vN,.bool false,vN]) I I I (.inr ⟨_,t04,I⟩))<|bk h fun W0 g04 h=>Bz (.tuple #[.agg ((aI W0.1)).toArray,vI W0.2]) (bd 42) I (e1 I) (fun w9 hw9=>bn_c n (X0.hL0 hL hw9) j05 (X0.kd K02 hw9) (X0.kd M02 hw9) g04) I<|Ab I<|Ac (Al I I)<|Ac (Al I I)<|RG.nl zL X0 fun D08 G05 D9 u00=>Bl (aI W0.1) D9 .hd (aC I) fun E08 b2 v00=>Af I<|Aa<|Ai<|Ae<|Ab I<|Ac (FV.neq (i:=W0.2) (j:=0) I I)<|Aa<|MX.ifn I h (fun q8 h=>?_) (fun q8 h=>?_)
 refine Am<|Ak<|Ab I<|Ac (AP I (b2.memA .hd))<|Av .plain I (AS (α:=Ta) (xs:=([W0.1]:Lb Ta)) (vs:=[.agg ((aI W0.1)).toArray]) (ds' :=(aI W0.1)) I b2 pZ I (e1 I) (by kernel_rfl) I) fun F08 H05 b4 x00=>bk h fun X04 D03 h=>?_
 have W6:=Tt u00 (Tt v00 x00)
 refine RG.doesL .plain I (AL (α:=Ta) (ys:=([W0.1]:Lb Ta)) D03 b4 (fun _ _=>.t2) pZ I I (Ar A6 W6) (Bx (α:=Ta) b4 .hd (AD (cs:=(aI W0.1)) (xs:=(([W0.1]:Lb Ta):Lb Ta)) b4 L (AE (cs:=(aI W0.1)) (ds:=[]) (ra W0.1.fN W0.1.fD) (AK _ _))))) fun H04 G08 ⟨y8,E9,y00,g01⟩=>Af I<|Aa<|Ao<|Ak<|Ac (AW (i:=x1) (j:=1) I I (by omega))<|Ab I<|Aa ?_
 obtain ⟨F9,j6⟩:=AX E9 .d2
 exact D8 (x1+1,X04,H04,y8) F9 (Tt D4 (Tt W6 (Tt y00 j6))) (Ar g01 j6) h
 refine Ae<|Ab I<|Af I<|Af I<|Af I<|Aa ?_
 have h:=aO h B6
 refine Ap I ?_
 have P02:=BP (α:=Lb Int) b2 L
 have Q02:=BP (α:=Ta) b2 L
 refine Aw hb0 func18 I (.cons (.tmp I) (.cons (.tmp I) (.cons (.tmp I) .nil))) I ?_
 cases h
 exact ⟨b2.ag,fun w9 hw9=>⟨vN,vN,I,b2.kd P02 hw9,b2.kd Q02 hw9⟩⟩
 refine AT I ?_
 have h:=bD h B6
 try dsimp only at h
 refine Ae<|Ab I<|Ab I<|Af I<|Af I<|Af I<|Aa<|Ap I ?_
 have s3:=BL X0 .t1
 have R02:=BN (α:=Lb Int) (v:=R0) (xs:=z2) s3 L (BA (α:=Lb Int) X0 .t1 (Ar z6 (Tt g6 (Tt C4 D4))) hL)
 have u3:=BL s3 .hd
 have z00:=BM s3 .hd
 have U02:=BN (α:=Ta) (v:=G1) (xs:=I1) u3 L (BA (α:=Ta) s3 .hd (Ar A6 (BM X0 .t1)) hL)
 refine Aw hb0 func18 I (.cons (.tmp I) (.cons (.tmp I) (.cons (.tmp I) .nil))) I ?_
 cases h
 exact ⟨u3.ag,fun w9 hw9=>⟨R0,G1,I,u3.kd (AB R02 z00) hw9,u3.kd U02 hw9⟩⟩
 obtain ⟨p07,q07,rfl,K06,M06⟩:=sb G02
 have h:=q01 _ _ p02
 unfold bV at h
 try dsimp only at h
 refine Ac (Al I I)<|Aa<|Ai<|Ba I<|Am<|Aq<|Ae<|Ac (FV.entry (D:=D0) I5 .t2 .t1 G01 I)<|Ac (Al I I)<|RG.nl [vI 0,vI 0,vI 0,vI 0,vI 0,vI 0,vI 0,vI 0,vI 0,vI 0,vI 0,vI 0] I5 fun I08 U3 G9 A00=>Bl (cZ c0.1) G9 .hd (aC I) fun J08 v3 B00=>Aa<|Ak<|Ab I<|Bh 0 I<|AG I ((v3.memA .t4) 0 _ I)<|bk h fun U2 K01 h=>?_
 obtain ⟨g03,j03,k03⟩:=upto_in K01
 refine Ac (FV.as (FV.sliceAU (len:=12) (m:=1) (p:=⟨U3,0,none⟩) (l:=a0.fN) I I I g03 j03) (u:=.slice (some ⟨U3,0,none⟩) U2 12) (by rw [<- k03])) ?_
 have V02:=St.freezeU (α:=Int) (xs:=([c0.1.1,c0.1.2.1,c0.1.2.2.1,c0.1.2.2.2.1,c0.1.2.2.2.2.1,c0.1.2.2.2.2.2.1,c0.1.2.2.2.2.2.2.1,c0.1.2.2.2.2.2.2.2.1,c0.1.2.2.2.2.2.2.2.2.1,c0.1.2.2.2.2.2.2.2.2.2.1,c0.1.2.2.2.2.2.2.2.2.2.2.1,c0.1.2.2.2.2.2.2.2.2.2.2.2]:Lb Int)) v3 .hd I (AE (cs:=[vI c0.1.1]) (ds:=[vI c0.1.2.1,vI c0.1.2.2.1,vI c0.1.2.2.2.1,vI c0.1.2.2.2.2.1,vI c0.1.2.2.2.2.2.1,vI c0.1.2.2.2.2.2.2.1,vI c0.1.2.2.2.2.2.2.2.1,vI c0.1.2.2.2.2.2.2.2.2.1,vI c0.1.2.2.2.2.2.2.2.2.2.1,vI c0.1.2.2.2.2.2.2.2.2.2.2.1,vI c0.1.2.2.2.2.2.2.2.2.2.2.2]) I (AE (cs:=[vI c0.1.2.1]) (ds:=[vI c0.1.2.2.1,vI c0.1.2.2.2.1,vI c0.1.2.2.2.2.1,vI c0.1.2.2.2.2.2.1,vI c0.1.2.2.2.2.2.2.1,vI c0.1.2.2.2.2.2.2.2.1,vI c0.1.2.2.2.2.2.2.2.2.1,vI c0.1.2.2.2.2.2.2.2.2.2.1,vI c0.1.2.2.2.2.2.2.2.2.2.2.1,vI c0.1.2.2.2.2.2.2.2.2.2.2.2]) I (AE (cs:=[vI c0.1.2.2.1]) (ds:=[vI c0.1.2.2.2.1,vI c0.1.2.2.2.2.1,vI c0.1.2.2.2.2.2.1,vI c0.1.2.2.2.2.2.2.1,vI c0.1.2.2.2.2.2.2.2.1,vI c0.1.2.2.2.2.2.2.2.2.1,vI c0.1.2.2.2.2.2.2.2.2.2.1,vI c0.1.2.2.2.2.2.2.2.2.2.2.1,vI c0.1.2.2.2.2.2.2.2.2.2.2.2]) I (AE (cs:=[vI c0.1.2.2.2.1]) (ds:=[vI c0.1.2.2.2.2.1,vI c0.1.2.2.2.2.2.1,vI c0.1.2.2.2.2.2.2.1,vI c0.1.2.2.2.2.2.2.2.1,vI c0.1.2.2.2.2.2.2.2.2.1,vI c0.1.2.2.2.2.2.2.2.2.2.1,vI c0.1.2.2.2.2.2.2.2.2.2.2.1,vI c0.1.2.2.2.2.2.2.2.2.2.2.2]) I (AE (cs:=[vI c0.1.2.2.2.2.1]) (ds:=[vI c0.1.2.2.2.2.2.1,vI c0.1.2.2.2.2.2.2.1,vI c0.1.2.2.2.2.2.2.2.1,vI c0.1.2.2.2.2.2.2.2.2.1,vI c0.1.2.2.2.2.2.2.2.2.2.1,vI c0.1.2.2.2.2.2.2.2.2.2.2.1,vI c0.1.2.2.2.2.2.2.2.2.2.2.2]) I (AE (cs:=[vI c0.1.2.2.2.2.2.1]) (ds:=[vI c0.1.2.2.2.2.2.2.1,vI c0.1.2.2.2.2.2.2.2.1,vI c0.1.2.2.2.2.2.2.2.2.1,vI c0.1.2.2.2.2.2.2.2.2.2.1,vI c0.1.2.2.2.2.2.2.2.2.2.2.1,vI c0.1.2.2.2.2.2.2.2.2.2.2.2]) I (AE (cs:=[vI c0.1.2.2.2.2.2.2.1]) (ds:=[vI c0.1.2.2.2.2.2.2.2.1,vI c0.1.2.2.2.2.2.2.2.2.1,vI c0.1.2.2.2.2.2.2.2.2.2.1,vI c0.1.2.2.2.2.2.2.2.2.2.2.1,vI c0.1.2.2.2.2.2.2.2.2.2.2.2]) I (AE (cs:=[vI c0.1.2.2.2.2.2.2.2.1]) (ds:=[vI c0.1.2.2.2.2.2.2.2.2.1,vI c0.1.2.2.2.2.2.2.2.2.2.1,vI c0.1.2.2.2.2.2.2.2.2.2.2.1,vI c0.1.2.2.2.2.2.2.2.2.2.2.2]) I (AE (cs:=[vI c0.1.2.2.2.2.2.2.2.2.1]) (ds:=[vI c0.1.2.2.2.2.2.2.2.2.2.1,vI c0.1.2.2.2.2.2.2.2.2.2.2.1,vI c0.1.2.2.2.2.2.2.2.2.2.2.2]) I (AE (cs:=[vI c0.1.2.2.2.2.2.2.2.2.2.1]) (ds:=[vI c0.1.2.2.2.2.2.2.2.2.2.2.1,vI c0.1.2.2.2.2.2.2.2.2.2.2.2]) I (AE (cs:=[vI c0.1.2.2.2.2.2.2.2.2.2.2.1]) (ds:=[vI c0.1.2.2.2.2.2.2.2.2.2.2.2]) I (AE (cs:=[vI c0.1.2.2.2.2.2.2.2.2.2.2.2]) (ds:=[]) I (AK _ _))))))))))))) (Nat.le_of_ble_eq_true I) U2 (show U2<=12 by omega) hL
 have F2:=BL v3 .hd
 have C00:=BM v3 .hd
 refine bk h fun Z2 j04 h=>jE (bd 39) I (e1 I) (fun w9 hw9=>fV (b0:=w.heap.size) (bE_c n (F2.hL hL hw9) (Ax (BN (α:=Int) (v:=.slice (some ⟨U3,0,none⟩) U2 12) (xs:=(([c0.1.1,c0.1.2.1,c0.1.2.2.1,c0.1.2.2.2.1,c0.1.2.2.2.2.1,c0.1.2.2.2.2.2.1,c0.1.2.2.2.2.2.2.1,c0.1.2.2.2.2.2.2.2.1,c0.1.2.2.2.2.2.2.2.2.1,c0.1.2.2.2.2.2.2.2.2.2.1,c0.1.2.2.2.2.2.2.2.2.2.2.1,c0.1.2.2.2.2.2.2.2.2.2.2.2]:Lb Int).take U2)) F2 L V02) hw9) j04) hw9 (Nat.le_trans F2.ag.size hw9.size)) I fun K08 V2 B06 ⟨s07,z8,p03,C7,j01⟩=>?_
 subst p03
 have x3:=gX F2 C7
 have K5:=BL x3 .hd
 have k7:=BN (α:=Int) (v:=V2) (xs:=Z2) K5 L (BA (α:=Int) x3 .hd (AD (cs:=z8) (xs:=(Z2:Lb Int)) x3 L (eX j01)) hL)
 obtain ⟨y05,Z05,u03,_⟩:=Rep.sl k7
 refine Av .plain I (AS (α:=Lb Int) (xs:=([Z2]:Lb (Lb Int))) (vs:=[V2]) (ds' :=[V2]) I K5 mp I (e1 I) (by rw [u03]; try kernel_rfl) I) fun M08 I05 c4 k6=>bk h fun Y04 E03 h=>?_
 have X6:=Tt s00 (Tt A00 (Tt B00 (Tt C00 (Tt (mh F2 C7) (Tt (BM x3 .hd) k6)))))
 refine RG.doesL .plain I (AL (α:=Lb Int) (ys:=([Z2]:Lb (Lb Int))) E03 c4 (fun _ _=>.t1) mp I I (Ar y6 X6) (Bx (α:=Lb Int) c4 .hd (AD (cs:=[V2]) (xs:=(([Z2]:Lb (Lb Int)):Lb (Lb Int))) c4 L (AE (cs:=[V2]) (ds:=[]) (AB k7 k6) (AK _ _))))) fun I04 P08 ⟨A8,H9,D00,k01⟩=>Af I<|Aa<|Ao ?_
 obtain ⟨I9,p6⟩:=AX H9 .d1
 exact C8 A04 (Y04,I04,A8,(R1.push x04)) _ _ ⟨I,I,I,I,I,trivial⟩ ⟨I9,(Tt c6 (Tt X6 (Tt D00 p6))),(Ar k01 p6),R01⟩ h
 intro C05 x5 h
 try dsimp only at h
 refine AO I h (fun s8 h=>?_) (fun s8 h=>?_)
 refine du 4 fun y2 K3=>Rv 0 y2 I K3 (fun _=>Ah I)<|Rv 1 y2 I K3 (fun _=>Ah I)<|bk h fun b3 k04 h=>RD.cq 2 7 16 (.agg ((cZ b3)).toArray) y2 I K3 (bd 41) I (e1 I) (fun w9 hw9=>bI_c n (D1.hL0 hL hw9) (D1.kd (AB M2 (Tt R4 (Tt H4 (Tt A3 (Tt c2 (Tt X5 (Tt Y5 (Tt I2 (Tt x4 (Tt y4 (Tt z4 (Tt A4 J2)))))))))))) hw9) k04) I<|Rx 3 16 y2 I K3 (AP I (D1.memA .t1))<|BC 4 31 y2 I I .plain (Acts.mapUpdateK (kv:=b3) (vv:=[.bool F0,Y0,.bool J0,s1]) jL D1 .t2 underlying111 I I I) fun Q08 J9 q6=>AQ (dk y2) ?_
 obtain ⟨K9,s6⟩:=AX J9 .d2
 exact x5 (aH Z0 b3 (⟨(⟨F0,B1⟩:Tb),(⟨J0,H1⟩:Tb)⟩:Te),(aH p0 b3 [.bool F0,Y0,.bool J0,s1])) K9 (Tt q6 s6) (MR.mv (MR.set (k:=b3) (c:=[.bool F0,Y0,.bool J0,s1]) (y:=(⟨(⟨F0,B1⟩:Tb),(⟨J0,H1⟩:Tb)⟩:Te)) (mk_Te (⟨F0,B1⟩:Tb) E6 (⟨J0,H1⟩:Tb) (AB j7 J2)) (MR.mv Q2 (Tt Q4 J2))) (Tt q6 s6)) h
 refine Am ?_
 obtain ⟨M9,u6⟩:=AX D1 .d2
 exact x5 (Z0,p0) M9 u6 (MR.mv Q2 (Tt Q4 (Tt J2 u6))) h
 obtain ⟨J04,K04,rfl,p7,q7⟩:=sb F02
 have h:=p01 _ _ k02
 unfold cG at h
 try dsimp only at h
 refine Ac (Al I I)<|Aa<|Ai<|Ba I<|Am<|Aq<|Ae<|Ac (FV.entry (D:=p0) F5 .t2 .hd F01 I)<|Ac (Al I I)<|RG.nl [.bool false,vN,.bool false,vN] F5 fun R08 J05 P9 E4=>Bl [.bool V3.2.fp.fe,J04,.bool V3.2.fl.fe,K04] P9 .hd (o4 I (Bs (AB p7 (Tt B4 E4))) I (Bs (AB q7 (Tt B4 E4)))) fun U08 y3 E00=>Aa<|Ak<|Ac (AP I (y3.memA .t2))<|Ac (AP I (y3.memA .hd))<|bk h fun A2 p04 h=>?_
 have K2:=Tt B4 (Tt E4 E00)
 refine jE (bd 67) I (e2 I I) (fun w9 hw9=>bq_c n (y3.hL hL hw9) (⟨(⟨F0,B1⟩:Tb),(⟨J0,H1⟩:Tb)⟩:Te) (Ax (AB g7 K2) hw9) (Ax (AB j7 K2) hw9) V3.2 (Ax (AB p7 K2) hw9) (Ax (AB q7 K2) hw9) p04) I fun V08 E07 W00 ⟨E7,F7,hu_,s7,u7⟩=>?_
 subst hu_
 obtain ⟨R9,F00⟩:=y3.agr W00
 refine Bl [.bool A2.fp.fe,E7,.bool A2.fl.fe,F7] R9 .t2 (o4 I (Bs s7) I (Bs u7)) fun W08 U9 F4=>Aa<|Ao ?_
 obtain ⟨V9,G4⟩:=AX U9 .d1
 exact B8 z04 (A2.fp.fe,A2.fp.fk,A2.fl.fe,A2.fl.fk,(E1.push v04),E7,F7) _ _ ⟨I,I,I,I,trivial⟩ ⟨V9,(Tt A4 (Tt K2 (Tt F00 (Tt F4 G4)))),P01,(AB s7 (Tt F4 G4)),(AB u7 (Tt F4 G4))⟩ h
 refine Ae<|Ab I<|Af I<|Af I<|Af I<|Aa<|Ap I ?_
 have W02:=BP (α:=Lb Int) I0 L
 have X02:=BP (α:=Ta) I0 L
 refine Aw hb0 func18 I (.cons (.tmp I) (.cons (.tmp I) (.cons (.tmp I) .nil))) I ?_
 cases h
 exact ⟨I0.ag,fun w9 hw9=>⟨vN,vN,I,I0.kd W02 hw9,I0.kd X02 hw9⟩⟩
theorem el26:ElT Tryz.prog 26 5 (Rep.size UInt8) 1 (.int .u8 0) [.int .u8 0]:=⟨underlying26,by kernel_rfl,rfl,rfl,rfl,rfl⟩
def aE_l1 (_n:Nat) (a0:Lb Int) (d0:Nat×(Lb UInt8)->Oa (Lb UInt8)):Nat×(Lb UInt8)->Oa (Lb UInt8)
  | (b0,c0)=>(if b0<a0.length then (a0[b0]?).bind fun g0=>(c0[b0]?).bind fun _x112=>(put c0 ((b0:Nat):Int) (dD g0)).bind fun j0=>d0 (b0+1,j0) else some c0)
def aE_p (n:Nat) (a0:Lb Int):Oa ByteArray:=
  (mk ((a0.length:Nat):Int) (0:UInt8)).bind fun b0=>Option.bind (ah (aE_l1 n a0) n (0,b0)) (fun c0=>some (ss c0))
theorem aE_c (n:Nat) {L w} (_hL:hl L w) {a0:Lb Int} {v0_0:Vc} (h0_0:Rep.R w L [v0_0] a0)  {r:ByteArray} (h:aE_p n a0=some r) :
 Cl 22 #[v0_0] w (aj w fun _ u=>u=.string r):=by
 unfold aE_p at h
 refine AJ func22 I I I fun _ cs0 hb0=>Ae<|Af I<|Aa<|Ae<|Ab I ?_
 have hl1:=AY h0_0
 refine Ac (Bf (xs:=a0) underlying36 I h0_0)<|bk h fun y0 u0 h=>Av .plain I (Does.mk (α:=UInt8) u0 (AI w) el26 I) fun x1 j0 k0 s1=>Af I<|Aa<|Ai<|Ae<|Ab I<|Ac (Bf (xs:=a0) underlying36 I (AH h0_0 k0))<|Ab I<|Aa<|Aq ?_
 obtain ⟨v1,V0,Q0⟩:=ai h
 refine MX.lf (α:=Nat×(Lb UInt8)×(Lb Vc)) (fun ⟨b0,c0,d0⟩=>[(3,(.slice (some ⟨j0,0,none⟩) ((a0.length:Nat):Int).toNat ((a0.length:Nat):Int).toNat)),(9,v0_0),(10,vn a0.length),(11,vn b0)]) (fun ⟨b0,c0,d0⟩=>[rr w 5 UInt8 (.slice (some ⟨j0,0,none⟩) ((a0.length:Nat):Int).toNat ((a0.length:Nat):Int).toNat) c0.length d0]) (fun ⟨b0,c0,d0⟩ v0=>Cells v0 (bl [rr w 5 UInt8 (.slice (some ⟨j0,0,none⟩) ((a0.length:Nat):Int).toNat ((a0.length:Nat):Int).toNat) c0.length d0]++L) d0 c0) (fun ⟨b0,c0,d0⟩=>(b0,c0)) (0,y0,(List.replicate ((a0.length:Nat):Int).toNat [.int .u8 0]).flatten) V0 k0 (AD (cs:=(List.replicate ((a0.length:Nat):Int).toNat [.int .u8 0]).flatten) (xs:=y0) k0 L (Cells.mk u0 I)) ?_
 rintro j1 ⟨b0,c0,d0⟩ v0 F0 g0 I0 p0 h
 unfold aE_l1 at h
 try dsimp only at h
 refine Ae<|Ac (Bp (i:=b0) (j:=a0.length) I I)<|Aa<|Ai<|AO I h (fun B0 h=>?_) (fun B0 h=>?_)
 refine Am<|Ai<|Aq<|Ae<|Ab I<|bk h fun x0 Y0 h=>?_
 obtain ⟨g1,k1,K0,R0,C0,W0,U0⟩:=Bq (AH h0_0 g0) Y0
 have M0:C0=[vI x0]:=W0; subst M0
 refine Ac (AU 1 b0 I K0 I I R0)<|AG I (U0 0 _ I)<|Af I<|Af I<|Aa<|Ak<|Ab I<|Ab I<|Ab I<|Ac (FV.convU8 (i:=x0) underlying3 underlying5 I)<|bk h fun c1 Z0 h=>?_
 obtain ⟨z0,p1,q0,t0,D0,X0,u1⟩:=BF (α:=UInt8) g0 .hd p0 Z0
 obtain ⟨A0,q1,s0⟩:=Bd (α:=UInt8) g0 .hd t0
 obtain rfl:z0=⟨A0,0,none⟩:=by rw [s0] at q0; cases q0; rfl
 have P0:D0=[.int .u8 (c1.toNat:Int)]:=X0; subst P0
 refine Ac (AU 1 b0 I q0 I I t0)<|bk h fun d1 b1 h=>RG.acts' .plain (BE (α:=UInt8) (i:=b0) b1 g0 s0 (fun _=>.hd) p0 I I I I I I) fun y1 ⟨E0,G0,H0,J0⟩=>Aa<|Ao<|Ak<|Ac (AW (i:=b0) (j:=1) I I (by omega))<|Ab I<|Aa<|F0 (b0+1,d1,E0) G0 (Tt I0 H0) J0 h
 refine AT I ?_
 have h:=Q0 _ h
 try dsimp only at h
 refine Ae<|Ab I<|Ac (FV.bytesS (xs:=c0) underlying26 underlying9 underlying5 I (Bx (α:=UInt8) g0 .hd p0))<|Af I<|Aa<|Ap I<|AV hb0 func22 I I ?_
 cases h
 exact g0.gv
def aL_p (_n:Nat) (a0:Lb (Lb Int)):Oa (Lb (Lb Int)):=
  ce a0 (some ([]:Lb (Lb Int))) ((app ([]:Lb (Lb Int)) a0).bind fun b0=>some b0)
theorem aL_c (n:Nat) {L w} (_hL:hl L w) {a0:Lb (Lb Int)} {v0_0:Vc} (h0_0:Rep.R w L [v0_0] a0)  {r:Lb (Lb Int)} (h:aL_p n a0=some r) :
 Cl 23 #[v0_0] w (aj w fun w' u=>∃ (v0_0:Vc) (cs0_0:Lb Vc),u=v0_0/\St w w' (bh w.heap.size [(36,Rep.size (Lb Int),v0_0,r.length,cs0_0)])/\Cells w' (bl (bh w.heap.size [(36,Rep.size (Lb Int),v0_0,r.length,cs0_0)])++L) cs0_0 (r:Lb (Lb Int))):=by
 unfold aL_p at h
 have hS0:=AI w
 refine AJ func23 I I I fun _ cs0 hb0=>Ae<|Af I<|Aa<|Ai<|Ae<|Ab I ?_
 rcases Rep.nilOr h0_0 with ⟨c1,he3,hx4⟩ | ⟨ad2,c1,he3⟩
 have h:=fU h hx4
 refine Ac (FV.eqlNil1 underlying39 I he3 I)<|Aa<|Ba I<|Ae<|Af I<|Aa<|Ap I ?_
 have b0:=hS0.nilRow 36 (Rep.size (Lb Int))
 have t0:=BW hS0 36 (Rep.size (Lb Int))
 have k0:=AD (cs:=[]) (xs:=([]:Lb (Lb Int))) b0 L (AK _ _)
 refine Aw (u:=vN) hb0 func23 I (.cons (.tmp I) .nil) I ?_
 cases h
 exact ⟨b0.ag,fun w9 hw9=>⟨vN,[],I,b0.agree hw9,Cells.keep0 k0 hw9⟩⟩
 have h:=fT h
 refine Ac (FV.eqlNil0 underlying39 I he3 I)<|Aa<|Bn I<|Am<|Ae<|Av .plain I (AS (α:=Lb Int) (xs:=([]:Lb (Lb Int))) (vs:=[]) (ds' :=[]) I hS0 mp I aB (by kernel_rfl) I) fun x0 s0 c0 u0=>Ab I<|bk h fun z0 q0 h=>RG.doesL .plain I (AL (α:=Lb Int) (ys:=a0) q0 c0 (fun _ _=>.hd) mp I I (AD (cs:=[]) (xs:=(([]:Lb (Lb Int)):Lb (Lb Int))) c0 L (AK _ _)) (BO (AH h0_0 c0))) fun g0 y0 ⟨j0,d0,v0,p0⟩=>Af I<|Aa<|Ap I<|Aw (u:=g0) hb0 func23 I (.cons (.tmp I) .nil) I ?_
 cases h
 exact ⟨d0.ag,fun w9 hw9=>⟨g0,j0,I,d0.agree hw9,Cells.keep0 p0 hw9⟩⟩
def bQ_p (n:Nat) (a0:Lb Int) (a1:Lb Int):Oa Int:=
  (aq_p n a0 a1).bind fun y1=>some y1
theorem bQ_c (n:Nat) {L w} (hL:hl L w) {a0:Lb Int} {v0_0:Vc} (h0_0:Rep.R w L [v0_0] a0) {a1:Lb Int} {v1_0:Vc} (h1_0:Rep.R w L [v1_0] a1)  {r:Int} (h:bQ_p n a0 a1=some r) :
 Cl 25 #[v0_0,v1_0] w (aj w fun _ u=>u=vI r):=by
 unfold bQ_p at h
 have hS0:=AI w
 refine AJ func25 I I I fun _ cs0 hb0=>Ae<|Af I<|Aa<|Ae<|Ab I<|Ab I<|bk h fun y1 hy1 h=>Bz (vI y1) (bd 26) I (e2 I I) (fun w9 hw9=>aq_c n (hS0.hL0 hL hw9) (hS0.kd h0_0 hw9) (hS0.kd h1_0 hw9) hy1) I<|Af I<|Aa<|Ap I<|AV hb0 func25 I I ?_
 cases h
 exact hS0.gv
theorem ex_A45 {a b:U8} (h0:a.1=b.1) (h1:a.2.1=b.2.1) (h2:a.2.2.1=b.2.2.1) (h3:a.2.2.2.1=b.2.2.2.1) (h4:a.2.2.2.2.1=b.2.2.2.2.1) (h5:a.2.2.2.2.2.1=b.2.2.2.2.2.1) (h6:a.2.2.2.2.2.2.1=b.2.2.2.2.2.2.1) (h7:a.2.2.2.2.2.2.2=b.2.2.2.2.2.2.2):a=b:=Prod.ext h0 (Prod.ext h1 (Prod.ext h2 (Prod.ext h3 (Prod.ext h4 (Prod.ext h5 (Prod.ext h6 (h7)))))))
theorem oM (a b:U8) (w9:World):(do eqGuard .eql 46 (.tmp 0) (.tmp 0) (.agg #[vU a.1,vU a.2.1,vU a.2.2.1,vU a.2.2.2.1,vU a.2.2.2.2.1,vU a.2.2.2.2.2.1,vU a.2.2.2.2.2.2.1,vU a.2.2.2.2.2.2.2]) (.agg #[vU b.1,vU b.2.1,vU b.2.2.1,vU b.2.2.2.1,vU b.2.2.2.2.1,vU b.2.2.2.2.2.1,vU b.2.2.2.2.2.2.1,vU b.2.2.2.2.2.2.2]); binOp .eql 46 (.agg #[vU a.1,vU a.2.1,vU a.2.2.1,vU a.2.2.2.1,vU a.2.2.2.2.1,vU a.2.2.2.2.2.1,vU a.2.2.2.2.2.2.1,vU a.2.2.2.2.2.2.2]) (.agg #[vU b.1,vU b.2.1,vU b.2.2.1,vU b.2.2.2.1,vU b.2.2.2.2.1,vU b.2.2.2.2.2.1,vU b.2.2.2.2.2.2.1,vU b.2.2.2.2.2.2.2]):Sem Vc).run Tryz.prog w9=.ok (.bool (decide (a=b))) w9:=
  eqAgg (ks:=[.int .u64,.int .u64,.int .u64,.int .u64,.int .u64,.int .u64,.int .u64,.int .u64]) (xs:=[vU a.1,vU a.2.1,vU a.2.2.1,vU a.2.2.2.1,vU a.2.2.2.2.1,vU a.2.2.2.2.2.1,vU a.2.2.2.2.2.2.1,vU a.2.2.2.2.2.2.2]) (ys:=[vU b.1,vU b.2.1,vU b.2.2.1,vU b.2.2.2.1,vU b.2.2.2.2.1,vU b.2.2.2.2.2.1,vU b.2.2.2.2.2.2.1,vU b.2.2.2.2.2.2.2]) (by kernel_rfl) (by kernel_rfl) (by kernel_rfl) I I ⟨fun h=>by
    simp only [bH,veq,Bool.and_eq_true,beq_iff_eq,and_true] at h
    obtain ⟨h0,h1,h2,h3,h4,h5,h6,h7⟩:=h
    exact ex_A45 (bE h0) (bE h1) (bE h2) (bE h3) (bE h4) (bE h5) (bE h6) (bE h7),fun h=>by subst h; simp [bH,veq]⟩ _ _ w9
def cw_p (n:Nat) (a0:U8) (a1:U8):Oa (Ta×Int):=
  (if a1=(0,0,0,0,0,0,0,0) then some ((⟨(0,0,0,0,0,0,0,0),(0,0,0,0,0,0,0,0)⟩:Ta),(7:Int)) else (bM_p n a0).bind fun c0=>(bM_p n a1).bind fun d0=>(bt_p n c0 d0).bind fun g0=>(bn_p n g0).bind fun b0=>some (b0.1,b0.2))
theorem cw_c (n:Nat) {L w} (hL:hl L w) (a0:U8) (a1:U8)  {r:Ta×Int} (h:cw_p n a0 a1=some r) :
 Cl 48 #[.agg ((ae a0)).toArray,.agg ((ae a1)).toArray] w (aj w fun _ u=>u=.tuple #[.agg ((aI r.1)).toArray,vI r.2]):=by
 unfold cw_p at h
 refine AJ func48 I I I fun _ cs0 hb0=>Ae<|RG.bx (AI w) I I fun s1 P0 u0 U0=>RG.bx u0 I I fun u1 Q0 v0 V0=>RG.nl zL v0 fun v1 R0 c0 W0=>Af I<|Aa<|Ai<|Ae<|Ac (AP I (c0.memA .t1))<|Ac (Bj (vs:=[]) (u:=.agg zQ) aB (fun w9=>by kernel_rfl))<|Ac (FV.eqlV (v:=.agg ((ae a1)).toArray) (u:=.agg zQ) I I (oM a1 (0,0,0,0,0,0,0,0)))<|Aa<|AO I h (fun t0 h=>?_) (fun t0 h=>?_)
 refine Ae<|Ac (Bj (vs:=[]) (u:=.agg zM) aB (fun w9=>by kernel_rfl))<|Bl zL c0 .hd (aC I) fun x1 k0 X0=>Af I<|Aa<|Ap I<|Aw hb0 func48 I (.cons (.many (cs:=zL) I I (k0.memA .hd)) (.cons (.tmp I) .nil)) I ?_
 cases h
 exact k0.gv
 refine Am<|Ai<|du 8 fun b0 d0=>Rx 0 1018 b0 I d0 (AP I (c0.memA .t2))<|Rx 2 1016 b0 I d0 (AP I (c0.memA .t1))<|bk h fun J0 F0 h=>BQ 1 7 b0 I .plain (bd 82) I (e1 I) (fun w9 hw9=>bM_c n (c0.hL hL hw9) a0 F0) I fun w32 k1 y0 ⟨c1,hu_,B0⟩=>?_
 subst hu_
 obtain ⟨p0,Y0⟩:=c0.agr y0
 refine bk h fun K0 G0 h=>BQ 3 15 b0 I .plain (bd 82) I (e1 I) (fun w9 hw9=>bM_c n (p0.hL hL hw9) a1 G0) I fun y1 p1 z0 ⟨d1,hu_,C0⟩=>?_
 subst hu_
 obtain ⟨q0,x0⟩:=p0.agr z0
 refine bk h fun M0 H0 h=>BQ 4 31 b0 I .plain (bd 81) I (e2 I I) (fun w9 hw9=>bt_c n (q0.hL hL hw9) J0 (Ax (AB B0 x0) hw9) K0 (Ax C0 hw9) H0) I fun z1 q1 A0 ⟨g1,j1,hu_,D0,E0⟩=>?_
 subst hu_
 obtain ⟨g0,Z0⟩:=q0.agr A0
 refine bk h fun j0 I0 h=>RD.cq 5 63 960 (.tuple #[.agg ((aI j0.1)).toArray,vI j0.2]) b0 I d0 (bd 42) I (e1 I) (fun w9 hw9=>bn_c n (g0.hL0 hL hw9) M0 (g0.kd D0 hw9) (g0.kd E0 hw9) I0) I<|Rv 6 b0 I d0 (fun _=>Al I I)<|Rv 7 b0 I d0 (fun _=>Al I I)<|BC 8 511 b0 I I .plain (Az (news:=(aI j0.1)) g0 .hd I I I I I I (aC I)) fun A1 s0 b1=>Bb (i:=9) (rk b0) (Bg (m' :=1023) (sk b0) I .plain I (Bi I) ?_)
 refine AQ (dk b0)<|Ap I<|Aw hb0 func48 I (.cons (.many (cs:=(aI j0.1)) I I (s0.memA .hd)) (.cons (.tmp I) .nil)) I ?_
 cases h
 exact s0.gv
def cx_p (n:Nat) (a0:Int) (a1:Int):Oa (Ta×Int):=
  (bK_p n a0).bind fun c0=>(bK_p n a1).bind fun d0=>(cw_p n c0 d0).bind fun b0=>some (b0.1,b0.2)
theorem cx_c (n:Nat) {L w} (hL:hl L w) {a0:Int} {a1:Int}  {r:Ta×Int} (h:cx_p n a0 a1=some r) :
 Cl 27 #[vI a0,vI a1] w (aj w fun _ u=>u=.tuple #[.agg ((aI r.1)).toArray,vI r.2]):=by
 unfold cx_p at h
 refine AJ func27 I I I fun _ cs0 hb0=>Ae<|RG.nl zL (AI w) fun v0 s0 b0 t0=>Af I<|Aa<|Ae<|Ab I<|bk h fun g0 k0 h=>Bz (.agg ((ae g0)).toArray) (bd 8) I (e1 I) (fun w9 hw9=>bK_c n (b0.hL0 hL hw9)  k0) I<|Ab I<|bk h fun j0 p0 h=>Bz (.agg ((ae j0)).toArray) (bd 8) I (e1 I) (fun w9 hw9=>bK_c n (b0.hL0 hL hw9)  p0) I<|bk h fun c0 q0 h=>Bz (.tuple #[.agg ((aI c0.1)).toArray,vI c0.2]) (bd 48) I (e2 I I) (fun w9 hw9=>cw_c n (b0.hL0 hL hw9) g0 j0 q0) I<|Ac (Al I I)<|Ac (Al I I)<|Bl (aI c0.1) b0 .hd (aC I) fun x0 d0 u0=>Af I<|Aa<|Ap I<|Aw hb0 func27 I (.cons (.many (cs:=(aI c0.1)) I I (d0.memA .hd)) (.cons (.tmp I) .nil)) I ?_
 cases h
 exact d0.gv

theorem sM:ElT Tryz.prog 40 65 (Rep.size (Lb Ta)) 24 vN [vN]:=⟨underlying40,by kernel_rfl,rfl,rfl,rfl,rfl⟩
instance:Enc Ta:=⟨fun a=>.agg #[vU a.fN.1,vU a.fN.2.1,vU a.fN.2.2.1,vU a.fN.2.2.2.1,vU a.fN.2.2.2.2.1,vU a.fN.2.2.2.2.2.1,vU a.fN.2.2.2.2.2.2.1,vU a.fN.2.2.2.2.2.2.2,vU a.fD.1,vU a.fD.2.1,vU a.fD.2.2.1,vU a.fD.2.2.2.1,vU a.fD.2.2.2.2.1,vU a.fD.2.2.2.2.2.1,vU a.fD.2.2.2.2.2.2.1,vU a.fD.2.2.2.2.2.2.2]⟩
def av_l1 (n:Nat) (k0:(Lb (Lb Int))×(Lb Ta)×Int) (p0:Nat×(Lb (ByteArray×Ta))×(Lb (Lb Int))×(Lb (ByteArray×Int))->Oa ((Lb (Lb Int))×(Lb (ByteArray×Ta))×(Lb (ByteArray×Int)))):Nat×(Lb (ByteArray×Ta))×(Lb (Lb Int))×(Lb (ByteArray×Int))->Oa ((Lb (Lb Int))×(Lb (ByteArray×Ta))×(Lb (ByteArray×Int)))
  | (b0,j0,g0,c0)=>(if b0<k0.1.length then (k0.1[b0]?).bind fun d0=>(aE_p n d0).bind fun s0=>(k0.2.1[b0]?).bind fun q0=>(aE_p n d0).bind fun u0=>(if (aP c0 u0).isSome=true then p0 (b0+1,aH j0 s0 q0,g0,c0) else (aE_p n d0).bind fun v0=>(app g0 ([d0]:Lb (Lb Int))).bind fun t0=>p0 (b0+1,aH j0 s0 q0,t0,aH c0 v0 ((g0.length:Nat):Int))) else some (g0,j0,c0))
def av_l2 (n:Nat) (k0:Lb (Lb Int)) (P0:Lb Int) (s0:Lb (ByteArray×(Lb (ByteArray×Ta)))) (c0:Ta×Int) (t0:Nat×(Lb Ta)->Oa (Lb Ta)):Nat×(Lb Ta)->Oa (Lb Ta)
  | (d0,p0)=>(if d0<k0.length then (k0[d0]?).bind fun M0=>(aE_p n P0).bind fun R0=>(aP s0 R0).bind fun g0=>(aE_p n M0).bind fun q0=>(some (ap g0 q0 (⟨(0,0,0,0,0,0,0,0),(0,0,0,0,0,0,0,0)⟩:Ta))).bind fun b0=>jn (fun (u0,v0,x0,y0,z0,A0,B0,C0,D0,E0,F0,G0,H0,I0,J0,K0)=>(app p0 ([(⟨(u0,v0,x0,y0,z0,A0,B0,C0),(D0,E0,F0,G0,H0,I0,J0,K0)⟩:Ta)]:Lb Ta)).bind fun Q0=>t0 (d0+1,Q0)) (fun j0=>(if (aP g0 q0).isSome=true then j0 (b0.fN.1,b0.fN.2.1,b0.fN.2.2.1,b0.fN.2.2.2.1,b0.fN.2.2.2.2.1,b0.fN.2.2.2.2.2.1,b0.fN.2.2.2.2.2.2.1,b0.fN.2.2.2.2.2.2.2,b0.fD.1,b0.fD.2.1,b0.fD.2.2.1,b0.fD.2.2.2.1,b0.fD.2.2.2.2.1,b0.fD.2.2.2.2.2.1,b0.fD.2.2.2.2.2.2.1,b0.fD.2.2.2.2.2.2.2) else j0 (c0.1.fN.1,c0.1.fN.2.1,c0.1.fN.2.2.1,c0.1.fN.2.2.2.1,c0.1.fN.2.2.2.2.1,c0.1.fN.2.2.2.2.2.1,c0.1.fN.2.2.2.2.2.2.1,c0.1.fN.2.2.2.2.2.2.2,c0.1.fD.1,c0.1.fD.2.1,c0.1.fD.2.2.1,c0.1.fD.2.2.2.1,c0.1.fD.2.2.2.2.1,c0.1.fD.2.2.2.2.2.1,c0.1.fD.2.2.2.2.2.2.1,c0.1.fD.2.2.2.2.2.2.2))) else some p0)
def av_l3 (n:Nat) (c0:Lb (Lb Int)) (g0:Lb (ByteArray×(Lb (ByteArray×Ta)))) (s0:Ta×Int) (j0:Nat×(Lb (Lb Ta))->Oa (Lb (Lb Ta))):Nat×(Lb (Lb Ta))->Oa (Lb (Lb Ta))
  | (b0,d0)=>(if b0<c0.length then (c0[b0]?).bind fun k0=>Option.bind (ah (av_l2 n c0 k0 g0 s0) n (0,([]:Lb Ta))) (fun p0=>(app d0 ([p0]:Lb (Lb Ta))).bind fun q0=>j0 (b0+1,q0)) else some d0)
def av_l4 (n:Nat) (a0:Tc) (a1:Td) (u0:Nat×(Lb (ByteArray×(Lb (ByteArray×Ta))))×(Lb (Lb Int))×(Lb (ByteArray×Int))->Oa (((Lb (Lb Int))×(Lb (Lb Ta))×Int)⊕((Lb (Lb Int))×(Lb (ByteArray×(Lb (ByteArray×Ta))))))):Nat×(Lb (ByteArray×(Lb (ByteArray×Ta))))×(Lb (Lb Int))×(Lb (ByteArray×Int))->Oa (((Lb (Lb Int))×(Lb (Lb Ta))×Int)⊕((Lb (Lb Int))×(Lb (ByteArray×(Lb (ByteArray×Ta))))))
  | (d0,c0,b0,t0)=>(if d0<b0.length then (b0[d0]?).bind fun j0=>(aK_p n a0 a1 j0).bind fun g0=>(if g0.2.2=0 then Option.bind (ah (av_l1 n g0) n (0,([]:Lb (ByteArray×Ta)),b0,t0)) (fun (k0,q0,s0)=>(aE_p n j0).bind fun p0=>(sQ c0 p0).bind fun _u1157=>(if 60<k0.length then some (.inl (([]:Lb (Lb Int)),([]:Lb (Lb Ta)),(3:Int))) else u0 (d0+1,aH c0 p0 q0,k0,s0))) else some (.inl (([]:Lb (Lb Int)),([]:Lb (Lb Ta)),g0.2.2))) else some (.inr (b0,c0)))
def av_p (n:Nat) (a0:Tc) (a1:Td) (a2:Lb Int):Oa ((Lb (Lb Int))×(Lb (Lb Ta))×Int):=
  (aK_p n a0 a1 a2).bind fun g0=>(if g0.2.2=0 then (bH_p n a2).bind fun b0=>(aE_p n b0.1).bind fun _y94=>(aE_p n b0.1).bind fun u0=>(app ([]:Lb (Lb Int)) ([b0.1]:Lb (Lb Int))).bind fun k0=>thn (ah (av_l4 n a0 a1) n (0,([]:Lb (ByteArray×(Lb (ByteArray×Ta)))),k0,aH ([]:Lb (ByteArray×Int)) u0 (0:Int))) (fun (q0,j0)=>(aL_p n q0).bind fun d0=>(bO_p n (ac ((d0.length:Nat):Int))).bind fun s0=>(jU (fun x9 y9=>bQ_p n x9 y9) s0 d0).bind fun c0=>(cx_p n (0:Int) (1:Int)).bind fun t0=>Option.bind (ah (av_l3 n c0 j0 t0) n (0,([]:Lb (Lb Ta)))) (fun p0=>some (c0,p0,(0:Int)))) else some (([]:Lb (Lb Int)),([]:Lb (Lb Ta)),g0.2.2))
theorem av_c (n:Nat) {L w} (hL:hl L w) (a0:Tc) {v0_1:Vc} (h0_1:Rep.R w L [v0_1] a0.fo) (a1:Td) {v1_0:Vc} (h1_0:Rep.R w L [v1_0] a1.fu) {a2:Lb Int} {v2_0:Vc} (h2_0:Rep.R w L [v2_0] a2) (hG0:Glob 0 tab0 w)  {r:(Lb (Lb Int))×(Lb (Lb Ta))×Int} (h:av_p n a0 a1 a2=some r) :
 Cl 5 #[.agg #[vI a0.fN,v0_1],.agg #[v1_0,vI a1.fm,vI a1.fh,vI a1.fc],v2_0] w (aj w fun w' u=>∃ v0_0 v1_0:Vc,u=.tuple #[v0_0,v1_0,vI r.2.2]/\Rep.R w' L [v0_0] r.1/\Rep.R w' L [v1_0] r.2.1):=by
 unfold av_p at h
 refine AJ func5 I I I fun _ cs0 hb0=>Ae<|RG.bx (AI w) I I fun w11 v1 H9 H05=>RG.bx H9 I I fun w16 x1 Y9 I05=>RG.nl [vN] Y9 fun w21 p0 Z9 J05=>RG.nl [vN] Z9 fun w26 s0 b00 K05=>RG.nl [vI 0] b00 fun w31 t0 E2 M05=>Aa<|Ai<|Ae<|Ac (AP I (E2.memA .t4))<|Ac (AP I (E2.memA .t3))<|Ab I<|bk h fun s8 t03 h=>jE (bd 18) I (e3 I I I) (fun p q=>aK_c n (E2.hL hL q) a0 (E2.km h0_1 q) a1 (E2.km h1_0 q) (E2.km h2_0 q) (hG0.keep (E2.ag.trans q)) t03) I fun w36 G06 W00 ⟨v41,v42,hu_,x06,y06⟩=>?_
 subst hu_
 obtain ⟨W6,P05⟩:=E2.agr W00
 refine Ab I<|Ac (Al I I)<|Ac (Al I I)<|Ac (Al I I)<|Af I<|Af I<|Af I<|Aa<|Ae<|Ab I<|Ac (FV.neq (i:=s8.2.2) (j:=0) I I)<|Aa<|MX.ifn I h (fun P8 h=>?_) (fun P8 h=>?_)
 refine Am<|Ae<|Av .plain I (Does.makeMap (κ:=ByteArray) (ν:=Int) W6) fun w48 u0 K3 Q05=>Ac (Bj (vs:=[.map (some u0)]) (u:=.agg #[vN,.map (some u0)]) (e1 I) (fun p=>by kernel_rfl))<|Ac (AP I (K3.memA .t5))<|Ac (AP I (K3.memA .t4)) ?_
 obtain ⟨A52,c53,R02,_⟩:=Rep.sl (AH h0_1 K3)
 obtain ⟨A56,c57,U02,_⟩:=Rep.sl (AH h1_0 K3)
 refine Ac (Bj (vs:=[.agg #[vN,.map (some u0)],.agg #[vI a0.fN,v0_1],.agg #[v1_0,vI a1.fm,vI a1.fh,vI a1.fc]]) (u:=.agg #[vN,.map (some u0),vI a0.fN,v0_1,v1_0,vI a1.fm,vI a1.fh,vI a1.fc]) (e3 I I I) (fun p=>by rw [R02,U02]; try kernel_rfl))<|RG.bx K3 I I fun w61 d0 c00 R05=>RG.nl [.pointer none] c00 fun w66 s1 g00 U05=>Bl [vP d0] g00 .hd (o1 I) fun w70 X6 V05=>Aa<|Ae<|AG I ((X6.memA .hd) 0 _ I)<|Ac (Bw I)<|Bh 0 I<|Ac (FV.makeFunc (vs:=[.pointer (some (Addr.add ⟨d0,0,none⟩ 0))]) (us:=[]) (e1 I) aB)<|RG.nl [.nilFunc] X6 fun w74 u1 j00 W05=>Bl [.func (.func 19) #[.pointer (some (Addr.add ⟨d0,0,none⟩ 0))] #[]] j00 .hd (o1 I) fun w78 p5 X05=>Aa<|Ae<|Ab I<|bk h fun z3 u03 h=>jE (bd 20) I (e1 I) (fun p q=>bH_c n (p5.hL hL q) (p5.km h2_0 q) u03) I fun w82 H06 X00 ⟨F2,hu_,A4⟩=>?_
 subst hu_
 obtain ⟨q2,Y05⟩:=p5.agr X00
 refine Ab I<|Ac (Al I I)<|Ac (Al I I)<|Af I<|Af I<|Aa<|Ae<|AG I ((q2.memA .hd) 0 _ I)<|Ab I<|BB (fst:=[.pointer (some (Addr.add ⟨d0,0,none⟩ 0))]) (cap:=[]) (vs:=[F2]) .plain (bd 19) func19 I I I I (e1 I) I fun Y04 c01 v06=>Ai<|du 12 fun W1 d2=>Rv 0 W1 I d2 (fun _=>Ah I)<|Rv 1 W1 I d2 (fun _=>Bw I)<|Rv 2 W1 I d2 (fun _=>Bv 1 I)<|Rx 3 4032 W1 I d2 (Ay I ((aL (q2.memA .t2) 0) 1 _ I))<|Rv 4 W1 I d2 (fun _=>Ah I)<|bk h fun u8 x03 h=>RD.cq 5 63 4032 (.string u8) W1 I d2 (bd 22) I (e1 I) (fun p q=>aE_c n (q2.hL0 hL q) (q2.kd A4 q) x03) I<|Rx 6 3968 W1 I d2 (BG (D:=([]:Lb (ByteArray×Int))) (kv:=u8) (z:=(0:Int)) q2 .t3 underlying69 underlying9 I I I I)<|Rv 7 W1 I d2 (fun _=>Ah I)<|Rv 8 W1 I d2 (fun _=>Al I I)<|Rv 9 W1 I d2 (fun _=>Al I I)<|Rv 10 W1 I d2 (fun _=>Bi I)<|Rv 11 W1 I d2 (fun _=>Bi I)<|AQ (dk W1)<|Ae<|Ab I<|Ac (BV I)<|Aa<|Ba I<|Ai<|du 11 fun X1 p2=>Rv 0 X1 I p2 (fun _=>Ah I)<|Rv 1 X1 I p2 (fun _=>Bw I)<|Rv 2 X1 I p2 (fun _=>Bv 1 I)<|Rx 3 2048 X1 I p2 (Ay I ((aL (q2.memA .t2) 0) 1 _ I))<|Rv 4 X1 I p2 (fun _=>Ah I)<|bk h fun G2 y03 h=>RD.cq 5 63 2048 (.string G2) X1 I p2 (bd 22) I (e1 I) (fun p q=>aE_c n (q2.hL0 hL q) (q2.kd A4 q) y03) I<|Rv 6 X1 I p2 (fun _=>Ah I)<|Rv 7 X1 I p2 (fun _=>Bw I)<|Rv 8 X1 I p2 (fun _=>Bv 0 I)<|Rx 9 3072 X1 I p2 (Ay I ((aL (q2.memA .t2) 0) 0 _ I))<|Rx 10 2048 X1 I p2 (FV.len_slice underlying39 I)<|BC 11 4095 X1 I I .plain (Acts.mapUpdate (kv:=G2) (vv:=(0:Int)) q2 .t3 underlying69 underlying9 I I I I) fun w98 b7 c7=>?_
 refine AQ (dk X1)<|Ak<|Ab I<|Ab I<|Ac (Bw I)<|Bh 0 I<|AG I ((aL (b7.memA .t2) 0) 0 _ I)<|Ab I ?_
 obtain ⟨Q03,t04,M02,_⟩:=Rep.sl (AB A4 c7)
 refine Av .plain I (AS (α:=Lb Int) (xs:=([z3.1]:Lb (Lb Int))) (vs:=[F2]) (ds' :=[F2]) I b7 mp I (e1 I) (by rw [M02]; try kernel_rfl) I) fun U06 F4 V4 x00=>?_
 have W4:=V4.nilRow 36 (Rep.size (Lb Int))
 refine bk h fun x3 b03 h=>RG.doesL .plain I (AL (α:=Lb Int) (ys:=([z3.1]:Lb (Lb Int))) b03 W4 (fun _ _=>.hd) mp I I (AD (cs:=[]) (xs:=([]:Lb (Lb Int))) W4 L (AK _ _)) (Bx (α:=Lb Int) W4 .t1 (Ar (AD (cs:=[F2]) (xs:=(([z3.1]:Lb (Lb Int)):Lb (Lb Int))) V4 L (AE (cs:=[F2]) (ds:=[]) (AB A4 (Tt c7 x00)) (AK _ _))) (BW V4 36 (Rep.size (Lb Int)))))) fun Z1 j07 ⟨g3,Z4,u05,g01⟩=>Ac (Bw I)<|Bh 0 I<|RG.now .plain (BI (j:=0) (old:=[vN,.map (some u0),vI a0.fN,v0_1,v1_0,vI a1.fm,vI a1.fh,vI a1.fc]) (news:=[Z1]) (new' :=[Z1,.map (some u0),vI a0.fN,v0_1,v1_0,vI a1.fm,vI a1.fh,vI a1.fc]) Z4 .t4 I I I (St.c1 (α:=Lb Int) Z4 .hd) I I (o1 (St.o1 (α:=Lb Int) Z4 .hd)) I) fun x07 Q9 G00=>Aa<|MX.fin I<|Aw (u:=.tuple #[]) c01 func19 I .nil I<|Aa<|Ae<|Av .plain I (Does.makeMap (κ:=ByteArray) (ν:=MRef) Q9) fun z6 c0 U9 H00=>?_
 obtain ⟨q02,s02⟩:=St.mmLay (κ:=ByteArray) (β:=Lb (ByteArray×Ta)) U9 ab
 have V9:St _ z6 (.obj c0 (ab (mmD ([]:Lb ((ByteArray×(Lb (ByteArray×Ta)))×Nat))))::rr w 36 (Lb Int) Z1 x3.length g3::rr w 36 (Lb Int) (vS F4 1) (([z3.1]:Lb (Lb Int)).length) [F2]::.cells u1 [.func (.func 19) #[.pointer (some (Addr.add ⟨d0,0,none⟩ 0))] #[]] 74::.cells s1 [vP d0] 68::.cells d0 [Z1,.map (some u0),vI a0.fN,v0_1,v1_0,vI a1.fm,vI a1.fh,vI a1.fc] 73::.obj u0 (ab (aH ([]:Lb (ByteArray×Int)) G2 (0:Int):Lb (ByteArray×Int)))::.cells t0 [vI 0] 41::.cells s0 [vN] 40::.cells p0 [vN] 39::.cells x1 [v1_0,vI a1.fm,vI a1.fh,vI a1.fc] 35::.cells v1 [vI a0.fN,v0_1] 32::(ar ab ([]:Lb ((ByteArray×(Lb (ByteArray×Ta)))×Nat))++[])):=q02
 have I00:Tr z6 (.obj c0 (ab (mmD ([]:Lb ((ByteArray×(Lb (ByteArray×Ta)))×Nat))))::[rr w 36 (Lb Int) Z1 x3.length g3,rr w 36 (Lb Int) (vS F4 1) (([z3.1]:Lb (Lb Int)).length) [F2],.cells u1 [.func (.func 19) #[.pointer (some (Addr.add ⟨d0,0,none⟩ 0))] #[]] 74,.cells s1 [vP d0] 68,.cells d0 [Z1,.map (some u0),vI a0.fN,v0_1,v1_0,vI a1.fm,vI a1.fh,vI a1.fc] 73,.obj u0 (ab (aH ([]:Lb (ByteArray×Int)) G2 (0:Int):Lb (ByteArray×Int))),.cells t0 [vI 0] 41,.cells s0 [vN] 40,.cells p0 [vN] 39,.cells x1 [v1_0,vI a1.fm,vI a1.fh,vI a1.fc] 35,.cells v1 [vI a0.fN,v0_1] 32]) z6 (.obj c0 (ab (mmD ([]:Lb ((ByteArray×(Lb (ByteArray×Ta)))×Nat))))::rr w 36 (Lb Int) Z1 x3.length g3::rr w 36 (Lb Int) (vS F4 1) (([z3.1]:Lb (Lb Int)).length) [F2]::.cells u1 [.func (.func 19) #[.pointer (some (Addr.add ⟨d0,0,none⟩ 0))] #[]] 74::.cells s1 [vP d0] 68::.cells d0 [Z1,.map (some u0),vI a0.fN,v0_1,v1_0,vI a1.fm,vI a1.fh,vI a1.fc] 73::.obj u0 (ab (aH ([]:Lb (ByteArray×Int)) G2 (0:Int):Lb (ByteArray×Int)))::.cells t0 [vI 0] 41::.cells s0 [vN] 40::.cells p0 [vN] 39::.cells x1 [v1_0,vI a1.fm,vI a1.fh,vI a1.fc] 35::.cells v1 [vI a0.fN,v0_1] 32::(ar ab ([]:Lb ((ByteArray×(Lb (ByteArray×Ta)))×Nat))++[])):=s02
 refine RG.nl [.map none] V9 fun A07 q0 W9 J00=>Bl [.map (some c0)] W9 .hd (o1 I) fun B07 R6 K00=>Aa<|Ai<|Ae<|AG I ((R6.memA .t5) 0 _ I)<|BB (fst:=[]) (cap:=[]) (vs:=[vP d0]) .plain (bd 21) func21 I I I I (e1 I) I fun R04 b01 s06=>Ae<|RG.bx R6 I I fun C07 q1 X9 M00=>Af I<|Aa<|Ae<|Ac (FV.makeFunc (vs:=[]) (us:=[vP q1]) aB (e1 I))<|Af I<|Aa<|Ap I<|Aw (u:=.func (.func 44) #[] #[vP q1]) b01 func21 I (.cons (.tmp I) .nil) I<|Aa<|Aq<|MX.rangeP (lb:=[vP q1]) I X9 I (bd 44) func44 I I I fun c8 Y1 x0 g2 U04 U6 P00 B03 C5 t06=>Ae<|Af I<|Aa<|Aq ?_
 obtain ⟨k00,Q00⟩:=qC U6 (qH (qH (qH (qH (qH (qH (qI (qI (qI (qI (qI (qI (qI (qI (qI (.drop .hd .rest))))))))))))))))
 refine tn h fun B06 Z01 V5=>MX.lf (α:=Nat×(Lb (Lb Int))×(Lb (ByteArray×Int))×(Lb ((ByteArray×(Lb (ByteArray×Ta)))×Nat))×Vc×(Lb Vc)) (fun ⟨s2,G1,K1,g0,B1,M1⟩=>[(0,.func (.yield Y1) #[] #[]),(1,vP q1),(3,vn s2)]) (fun ⟨s2,G1,K1,g0,B1,M1⟩=>(.obj Y1 (lpO g2 .ready none)::.obj x0 (.deferred (some []))::.cells q1 [vP d0] 68::.cells q0 [.map (some c0)] 76::.obj c0 (ab (mmD g0))::rr w 36 (Lb Int) B1 G1.length M1::.cells u1 [.func (.func 19) #[.pointer (some (Addr.add ⟨d0,0,none⟩ 0))] #[]] 74::.cells s1 [vP d0] 68::.cells d0 [B1,.map (some u0),vI a0.fN,v0_1,v1_0,vI a1.fm,vI a1.fh,vI a1.fc] 73::.obj u0 (ab (K1:Lb (ByteArray×Int)))::.cells t0 [vI 0] 41::.cells s0 [vN] 40::.cells p0 [vN] 39::.cells x1 [v1_0,vI a1.fm,vI a1.fh,vI a1.fc] 35::.cells v1 [vI a0.fN,v0_1] 32::(ar ab g0++[]))) (fun ⟨s2,G1,K1,g0,B1,M1⟩ j8=>Cells j8 (bl (.obj Y1 (lpO g2 .ready none)::.obj x0 (.deferred (some []))::.cells q1 [vP d0] 68::.cells q0 [.map (some c0)] 76::.obj c0 (ab (mmD g0))::rr w 36 (Lb Int) B1 G1.length M1::.cells u1 [.func (.func 19) #[.pointer (some (Addr.add ⟨d0,0,none⟩ 0))] #[]] 74::.cells s1 [vP d0] 68::.cells d0 [B1,.map (some u0),vI a0.fN,v0_1,v1_0,vI a1.fm,vI a1.fh,vI a1.fc] 73::.obj u0 (ab (K1:Lb (ByteArray×Int)))::.cells t0 [vI 0] 41::.cells s0 [vN] 40::.cells p0 [vN] 39::.cells x1 [v1_0,vI a1.fm,vI a1.fh,vI a1.fc] 35::.cells v1 [vI a0.fN,v0_1] 32::(ar ab g0++[]))++L) M1 G1) (fun ⟨s2,G1,K1,g0,B1,M1⟩=>(s2,(pmM g0),G1,K1)) (0,x3,aH ([]:Lb (ByteArray×Int)) G2 (0:Int),([]:Lb ((ByteArray×(Lb (ByteArray×Ta)))×Nat)),Z1,g3) Z01 k00 (Ar g01 (Tt G00 (Tt H00 (Tt I00 (Tt J00 (Tt K00 (Tt M00 (Tt P00 Q00)))))))) ?_
 rintro p04 ⟨s2,G1,K1,g0,B1,M1⟩ j8 Y8 j2 R00 J5 h
 unfold av_l4 at h
 try dsimp only at h
 refine Ai<|Ae<|Ab I<|AG I ((j2.memA .t2) 0 _ I)<|Ac (Bw I)<|Bh 0 I<|Bh 0 I<|AG I ((aL (j2.memA .t8) 0) 0 _ I) ?_
 have j06:G1.length<=4294967296:=St.rowLe (α:=Lb Int) j2 .t5
 obtain ⟨g04,H04,B01⟩:=St.rowV (α:=Lb Int) j2 .t5
 refine Ac (FV.lenV underlying39 I B01)<|Ac (Bp (i:=s2) (j:=G1.length) I I)<|Aa<|AO I h (fun R8 h=>?_) (fun R8 h=>?_)
 refine Am<|Ai<|Aq<|Ae<|Ab I<|AG I ((j2.memA .t2) 0 _ I)<|Ac (Bw I)<|Bh 0 I<|Bh 0 I<|AG I ((aL (j2.memA .t8) 0) 0 _ I)<|Ab I<|bk h fun c08 Y02 h=>?_
 obtain ⟨z8,I04,Q5,D7,W04,I02,W01⟩:=BF (α:=Lb Int) j2 .t5 J5 Y02
 obtain ⟨E8,J04,C01⟩:=Bd (α:=Lb Int) j2 .t5 D7
 obtain rfl:z8=⟨E8,0,none⟩:=by rw [C01] at Q5; cases Q5; rfl
 obtain ⟨R7,rfl,J7⟩:=bX I02
 refine Ac (AU 1 s2 I Q5 I I D7)<|AG I (W01 0 _ I)<|RG.yieldP (fd:=5) (vs:=[R7]) .plain I (e1 I) j2 .hd B03 I I I fun X04 E5 u06=>Ak<|Af I<|Aa<|MX.begin j2 .hd fun V07 R2 A7=>Aq<|Ae<|Ac (AP I (R2.memA (.tl (.tl (.tl (.tl (.tl (.tl (.tl (.tl (.tl (.tl (.tl (.tl (.tl (.tl .hd))))))))))))))))<|Ac (AP I (R2.memA (.tl (.tl (.tl (.tl (.tl (.tl (.tl (.tl (.tl (.tl (.tl (.tl (.tl .hd)))))))))))))))<|Ab I<|bk h fun u2 v03 h=>jE (bd 18) I (e3 I I I) (fun p q=>aK_c n (R2.hL hL q) a0 (R2.km h0_1 q) a1 (R2.km h1_0 q) (Ax (AB J7 A7) q) (hG0.keep (R2.ag.trans q)) v03) I fun W07 I06 Y00 ⟨D03,E03,hu_,K7,J02⟩=>?_
 subst hu_
 obtain ⟨Y6,U00⟩:=R2.agr Y00
 refine Ab I<|Ac (Al I I)<|Ac (Al I I)<|Ac (Al I I)<|Af I<|Af I<|Af I<|Aa<|Ai<|Ae<|Ab I<|Ac (FV.neq (i:=u2.2.2) (j:=0) I I)<|Aa<|MX.ifn I h (fun U8 h=>?_) (fun U8 h=>?_)
 refine Am<|Ae<|Av .plain I (Does.makeMap (κ:=ByteArray) (ν:=Ta) Y6) fun X07 z1 p00 x4=>Af I<|Aa<|Ai<|Ae<|Ab I ?_
 have F7:=AB K7 x4
 have k06:=AY F7
 refine Ac (Bf (xs:=u2.1) underlying39 I F7)<|Ab I<|Aa<|Aq ?_
 have Y5:=Tt A7 (Tt U00 x4)
 obtain ⟨z06,X01,D01⟩:=ai h
 refine MX.lf (α:=Nat×(Lb (ByteArray×Ta))×(Lb (Lb Int))×(Lb (ByteArray×Int))×Vc×(Lb Vc)) (fun ⟨Q1,G0,y1,E1,p1,H1⟩=>[(6,vP p0),(7,vP s0),(8,vP t0),(12,vP s1),(13,vP u1),(16,vP q0),(17,R7),(19,E03),(21,.map (some z1)),(74,D03),(75,vn u2.1.length),(76,vn Q1)]) (fun ⟨Q1,G0,y1,E1,p1,H1⟩=>(.obj z1 (ab (G0:Lb (ByteArray×Ta)))::.obj Y1 (lpO g2 .busy none)::.obj x0 (.deferred (some []))::.cells q1 [vP d0] 68::.cells q0 [.map (some c0)] 76::.obj c0 (ab (mmD g0))::rr w 36 (Lb Int) p1 y1.length H1::.cells u1 [.func (.func 19) #[.pointer (some (Addr.add ⟨d0,0,none⟩ 0))] #[]] 74::.cells s1 [vP d0] 68::.cells d0 [p1,.map (some u0),vI a0.fN,v0_1,v1_0,vI a1.fm,vI a1.fh,vI a1.fc] 73::.obj u0 (ab (E1:Lb (ByteArray×Int)))::.cells t0 [vI 0] 41::.cells s0 [vN] 40::.cells p0 [vN] 39::.cells x1 [v1_0,vI a1.fm,vI a1.fh,vI a1.fc] 35::.cells v1 [vI a0.fN,v0_1] 32::(ar ab g0++[]))) (fun ⟨Q1,G0,y1,E1,p1,H1⟩ d8=>Cells d8 (bl (.obj z1 (ab (G0:Lb (ByteArray×Ta)))::.obj Y1 (lpO g2 .busy none)::.obj x0 (.deferred (some []))::.cells q1 [vP d0] 68::.cells q0 [.map (some c0)] 76::.obj c0 (ab (mmD g0))::rr w 36 (Lb Int) p1 y1.length H1::.cells u1 [.func (.func 19) #[.pointer (some (Addr.add ⟨d0,0,none⟩ 0))] #[]] 74::.cells s1 [vP d0] 68::.cells d0 [p1,.map (some u0),vI a0.fN,v0_1,v1_0,vI a1.fm,vI a1.fh,vI a1.fc] 73::.obj u0 (ab (E1:Lb (ByteArray×Int)))::.cells t0 [vI 0] 41::.cells s0 [vN] 40::.cells p0 [vN] 39::.cells x1 [v1_0,vI a1.fm,vI a1.fh,vI a1.fc] 35::.cells v1 [vI a0.fN,v0_1] 32::(ar ab g0++[]))++L) H1 y1) (fun ⟨Q1,G0,y1,E1,p1,H1⟩=>(Q1,G0,y1,E1)) (0,([]:Lb (ByteArray×Ta)),G1,K1,B1,M1) X01 p00 (Ar J5 Y5) ?_
 rintro j04 ⟨Q1,G0,y1,E1,p1,H1⟩ d8 D6 M2 q3 F5 h
 unfold av_l1 at h
 try dsimp only at h
 refine Ae<|Ac (Bp (i:=Q1) (j:=u2.1.length) I I)<|Aa<|Ai<|AO I h (fun F8 h=>?_) (fun F8 h=>?_)
 refine Am<|Ai<|Aq<|Ae<|Ab I<|bk h fun A6 V02 h=>?_
 obtain ⟨R03,u04,t01,F01,K04,B02,H01⟩:=Bq (AB K7 (Tt x4 q3)) V02
 obtain ⟨b4,rfl,z4⟩:=bX B02
 refine Ac (AU 1 Q1 I t01 I I F01)<|AG I (H01 0 _ I)<|Af I<|Af I<|Aa<|Ai<|du 7 fun y2 W2=>Rv 0 y2 I W2 (fun _=>Ah I)<|Rv 1 y2 I W2 (fun _=>Ah I)<|bk h fun y3 d03 h=>RD.cq 2 7 128 (.string y3) y2 I W2 (bd 22) I (e1 I) (fun p q=>aE_c n (M2.hL0 hL q) (M2.kd z4 q) d03) I<|Rv 3 y2 I W2 (fun _=>Ah I)<|Rv 4 y2 I W2 (fun _=>Ah I)<|bk h fun j4 W02 h=>?_
 obtain ⟨U03,v04,u01,G01,M04,C02,I01⟩:=Bq (AB J02 (Tt x4 q3)) W02
 obtain rfl:=op_Ta C02
 refine Rv 5 y2 I W2 (fun _=>AU 16 Q1 I u01 I I G01)<|Rx 6 128 y2 I W2 (AP I I01)<|BC 7 255 y2 I I .plain (Acts.mapUpdate (kv:=y3) (vv:=j4) M2 .hd underlying80 underlying9 I I I I) fun W06 P1 P3=>AQ (dk y2)<|Ak<|AG I ((P1.memA .t7) 0 _ I)<|Ab I<|BB (fst:=[.pointer (some (Addr.add ⟨d0,0,none⟩ 0))]) (cap:=[]) (vs:=[b4]) .plain (bd 19) func19 I I I I (e1 I) I fun P04 B7 p06=>Ai<|du 12 fun U1 c2=>Rv 0 U1 I c2 (fun _=>Ah I)<|Rv 1 U1 I c2 (fun _=>Bw I)<|Rv 2 U1 I c2 (fun _=>Bv 1 I)<|Rx 3 4032 U1 I c2 (Ay I ((aL (P1.memA .t9) 0) 1 _ I))<|Rv 4 U1 I c2 (fun _=>Ah I)<|bk h fun p8 g03 h=>?_
 have E7:=AB z4 P3
 refine RD.cq 5 63 4032 (.string p8) U1 I c2 (bd 22) I (e1 I) (fun p q=>aE_c n (P1.hL0 hL q) (P1.kd E7 q) g03) I<|Rx 6 3968 U1 I c2 (BG (kv:=p8) (z:=(0:Int)) P1 .t10 underlying69 underlying9 I I I I)<|Rv 7 U1 I c2 (fun _=>Ah I)<|Rv 8 U1 I c2 (fun _=>Al I I)<|Rv 9 U1 I c2 (fun _=>Al I I)<|Rv 10 U1 I c2 (fun _=>Bi I)<|Rv 11 U1 I c2 (fun _=>Bi I)<|AQ (dk U1)<|Ae<|Ab I<|Ac (BV I)<|Aa<|MX.ifnb I h (fun G8 h=>?_) (fun G8 h=>?_)
 refine Am<|MX.fin I<|Aw (u:=.tuple #[]) B7 func19 I .nil I<|Aa<|Ao<|Ak<|Ac (AW (i:=Q1) (j:=1) I I (by omega))<|Ab I<|Aa<|D6 (Q1+1,aH G0 y3 j4,y1,E1,p1,H1) P1 (Tt q3 P3) (Ar F5 P3) h
 refine Ai<|du 11 fun V1 k2=>Rv 0 V1 I k2 (fun _=>Ah I)<|Rv 1 V1 I k2 (fun _=>Bw I)<|Rv 2 V1 I k2 (fun _=>Bv 1 I)<|Rx 3 2048 V1 I k2 (Ay I ((aL (P1.memA .t9) 0) 1 _ I))<|Rv 4 V1 I k2 (fun _=>Ah I)<|bk h fun k4 j03 h=>RD.cq 5 63 2048 (.string k4) V1 I k2 (bd 22) I (e1 I) (fun p q=>aE_c n (P1.hL0 hL q) (P1.kd E7 q) j03) I<|Rv 6 V1 I k2 (fun _=>Ah I)<|Rv 7 V1 I k2 (fun _=>Bw I)<|Rv 8 V1 I k2 (fun _=>Bv 0 I)<|Rx 9 3072 V1 I k2 (Ay I ((aL (P1.memA .t9) 0) 0 _ I)) ?_
 have b06:y1.length<=4294967296:=St.rowLe (α:=Lb Int) P1 .t6
 obtain ⟨V03,x04,v01⟩:=St.rowV (α:=Lb Int) P1 .t6
 refine Rx 10 2048 V1 I k2 (FV.lenV underlying39 I v01)<|BC 11 4095 V1 I I .plain (Acts.mapUpdate (kv:=k4) (vv:=((y1.length:Nat):Int)) P1 .t10 underlying69 underlying9 I I I I) fun X06 G6 q7=>AQ (dk V1)<|Ak<|Ab I<|Ab I<|Ac (Bw I)<|Bh 0 I<|AG I ((aL (G6.memA .t9) 0) 0 _ I)<|Ab I ?_
 obtain ⟨W03,y04,P02,_⟩:=Rep.sl (AB z4 (Tt P3 q7))
 refine Av .plain I (AS (α:=Lb Int) (xs:=([A6]:Lb (Lb Int))) (vs:=[b4]) (ds' :=[b4]) I G6 mp I (e1 I) (by rw [P02]; try kernel_rfl) I) fun Y06 q04 X4 y00=>?_
 have Z5:=Tt P3 (Tt q7 y00)
 refine bk h fun B6 Z02 h=>RG.doesL .plain I (AL (α:=Lb Int) (ys:=([A6]:Lb (Lb Int))) Z02 X4 (fun _ _=>.t7) mp I I (Ar F5 Z5) (Bx (α:=Lb Int) X4 .hd (AD (cs:=[b4]) (xs:=(([A6]:Lb (Lb Int)):Lb (Lb Int))) X4 L (AE (cs:=[b4]) (ds:=[]) (AB z4 Z5) (AK _ _))))) fun X2 Z06 ⟨M4,Y4,z00,d01⟩=>Ac (Bw I)<|Bh 0 I<|RG.now .plain (BI (j:=0) (old:=[p1,.map (some u0),vI a0.fN,v0_1,v1_0,vI a1.fm,vI a1.fh,vI a1.fc]) (news:=[X2]) (new' :=[X2,.map (some u0),vI a0.fN,v0_1,v1_0,vI a1.fm,vI a1.fh,vI a1.fc]) Y4 .t10 I I I (St.c1 (α:=Lb Int) Y4 .t7) I I (o1 (St.o1 (α:=Lb Int) Y4 .t7)) I) fun U7 H6 s7=>Aa<|MX.fin I<|Aw (u:=.tuple #[]) B7 func19 I .nil I<|Aa<|Ao<|Ak<|Ac (AW (i:=Q1) (j:=1) I I (by omega))<|Ab I<|Aa ?_
 obtain ⟨s9,u7⟩:=qC H6 (qI (qI (qI (qI (qI (qI (qI (qI (qI (qI (qI (qI (qI (qI (qI (qI (.drop .hd .rest)))))))))))))))))
 exact D6 (Q1+1,aH G0 y3 j4,B6,aH E1 k4 ((y1.length:Nat):Int),X2,M4) s9 (Tt q3 (Tt Z5 (Tt z00 (Tt s7 u7)))) (Ar d01 (Tt s7 u7)) h
 refine AT I ?_
 have h:=D01 _ h
 try dsimp only at h
 refine Ai<|du 4 fun s3 C4=>Rx 0 16 s3 I C4 (Ay I ((M2.memA .t4) 0 _ I))<|Rv 1 s3 I C4 (fun _=>Ah I)<|bk h fun J1 k03 h=>RD.cq 2 7 16 (.string J1) s3 I C4 (bd 22) I (e1 I) (fun p q=>aE_c n (M2.hL0 hL q) (M2.kd (AB J7 (Tt Y5 q3)) q) k03) I<|Rv 3 s3 I C4 (fun _=>Ah I)<|bk h fun C06 M7 h=>BC 4 31 s3 I I .plain (Acts.mapUpdate (D:=mmD g0) (kv:=J1) (vv:=(⟨some z1⟩:MRef)) M2 .t5 underlying76 underlying9 I I I I) fun y6 v9 A00=>?_
 obtain ⟨k02,p02⟩:=St.mmNew (f:=ab) (Z:=g0) (k:=J1) (y:=G0) (b:=z1) (T:=[]) (Q:=fun D9=>[.obj Y1 (lpO g2 .busy none),.obj x0 (.deferred (some [])),.cells q1 [vP d0] 68,.cells q0 [.map (some c0)] 76,.obj c0 (ab D9),rr w 36 (Lb Int) p1 y1.length H1,.cells u1 [.func (.func 19) #[.pointer (some (Addr.add ⟨d0,0,none⟩ 0))] #[]] 74,.cells s1 [vP d0] 68,.cells d0 [p1,.map (some u0),vI a0.fN,v0_1,v1_0,vI a1.fm,vI a1.fh,vI a1.fc] 73,.obj u0 (ab (E1:Lb (ByteArray×Int))),.cells t0 [vI 0] 41,.cells s0 [vN] 40,.cells p0 [vN] 39,.cells x1 [v1_0,vI a1.fm,vI a1.fh,vI a1.fc] 35,.cells v1 [vI a0.fN,v0_1] 32]) (pj M7 G0 z1).1 v9
 have h:=h; try rw [(pj M7 G0 z1).2] at h
 have k3:St _ y6 (.obj Y1 (lpO g2 .busy none)::.obj x0 (.deferred (some []))::.cells q1 [vP d0] 68::.cells q0 [.map (some c0)] 76::.obj c0 (ab (mmD (g0++[((J1,G0),z1)])))::rr w 36 (Lb Int) p1 y1.length H1::.cells u1 [.func (.func 19) #[.pointer (some (Addr.add ⟨d0,0,none⟩ 0))] #[]] 74::.cells s1 [vP d0] 68::.cells d0 [p1,.map (some u0),vI a0.fN,v0_1,v1_0,vI a1.fm,vI a1.fh,vI a1.fc] 73::.obj u0 (ab (E1:Lb (ByteArray×Int)))::.cells t0 [vI 0] 41::.cells s0 [vN] 40::.cells p0 [vN] 39::.cells x1 [v1_0,vI a1.fm,vI a1.fh,vI a1.fc] 35::.cells v1 [vI a0.fN,v0_1] 32::(ar ab (g0++[((J1,G0),z1)])++[])):=k02
 have B00:Tr y6 (.obj z1 (ab (G0:Lb (ByteArray×Ta)))::.obj Y1 (lpO g2 .busy none)::.obj x0 (.deferred (some []))::.cells q1 [vP d0] 68::.cells q0 [.map (some c0)] 76::.obj c0 (ab (aH (mmD g0) J1 (⟨some z1⟩:MRef)))::rr w 36 (Lb Int) p1 y1.length H1::.cells u1 [.func (.func 19) #[.pointer (some (Addr.add ⟨d0,0,none⟩ 0))] #[]] 74::.cells s1 [vP d0] 68::.cells d0 [p1,.map (some u0),vI a0.fN,v0_1,v1_0,vI a1.fm,vI a1.fh,vI a1.fc] 73::.obj u0 (ab (E1:Lb (ByteArray×Int)))::.cells t0 [vI 0] 41::.cells s0 [vN] 40::.cells p0 [vN] 39::.cells x1 [v1_0,vI a1.fm,vI a1.fh,vI a1.fc] 35::.cells v1 [vI a0.fN,v0_1] 32::(ar ab g0++[])) y6 (.obj Y1 (lpO g2 .busy none)::.obj x0 (.deferred (some []))::.cells q1 [vP d0] 68::.cells q0 [.map (some c0)] 76::.obj c0 (ab (mmD (g0++[((J1,G0),z1)])))::rr w 36 (Lb Int) p1 y1.length H1::.cells u1 [.func (.func 19) #[.pointer (some (Addr.add ⟨d0,0,none⟩ 0))] #[]] 74::.cells s1 [vP d0] 68::.cells d0 [p1,.map (some u0),vI a0.fN,v0_1,v1_0,vI a1.fm,vI a1.fh,vI a1.fc] 73::.obj u0 (ab (E1:Lb (ByteArray×Int)))::.cells t0 [vI 0] 41::.cells s0 [vN] 40::.cells p0 [vN] 39::.cells x1 [v1_0,vI a1.fm,vI a1.fh,vI a1.fc] 35::.cells v1 [vI a0.fN,v0_1] 32::(ar ab (g0++[((J1,G0),z1)])++[])):=p02
 refine AQ (dk s3)<|Ae<|AG I ((k3.memA .t7) 0 _ I)<|Ac (Bw I)<|Bh 0 I<|Bh 0 I<|AG I ((aL (k3.memA .t8) 0) 0 _ I) ?_
 have c06:y1.length<=4294967296:=St.rowLe (α:=Lb Int) k3 .t5
 obtain ⟨X03,z04,x01⟩:=St.rowV (α:=Lb Int) k3 .t5
 refine Ac (FV.lenV underlying39 I x01)<|Ac (FV.gtrN (i:=y1.length) (j:=60) I I)<|Aa<|AO I h (fun H8 h=>?_) (fun H8 h=>?_)
 refine Ae<|Bl [vN] k3 .t12 (o1 I) fun b07 A9 d05=>Bl [vN] A9 .t11 (o1 I) fun c07 B9 g05=>Bl [vI 3] B9 .t10 (o1 I) fun d07 C9 j05=>Aa<|MX.roundRet E5 C9 .hd fun g07 E9 k05=>Ac (BV I)<|Aa<|Ba I ?_
 have h:=aO h V5
 refine Ap rfl<|Aw (u:=.tuple #[]) C5 func44 rfl .nil rfl<|MX.endRange1 E9 .hd (by intro h9; cases h9) fun V7 I6 p05=>?_
 obtain ⟨F9,q05⟩:=qC I6 (qI (qI (qI (qI (qI (qI (qI (qI (qI (qI (qI (qI (qI (qI (.drop .hd .rest)))))))))))))))
 refine Ap I<|RT.take F9 .hd fun W7 J6 s05=>?_
 obtain ⟨C2,t05⟩:=qC J6 (qI (qI (qI (qI (qI (qI (qI (qI (qI (qI (qI (qI (qI (.drop .hd .rest))))))))))))))
 have D02:=BP (α:=Lb Int) C2 L
 have E02:=BP (α:=Lb Ta) C2 L
 refine Aw hb0 func5 I (.cons (.one I I ((C2.memA .t10) 0 _ I)) (.cons (.one I I ((C2.memA .t9) 0 _ I)) (.cons (.one I I ((C2.memA .t8) 0 _ I)) .nil))) I ?_
 cases h
 exact ⟨C2.ag,fun p q=>⟨vN,vN,I,C2.kd D02 q,C2.kd E02 q⟩⟩
 refine Am<|Ao<|MX.roundEnd E5 k3 .hd fun k07 G9 C00=>Ac (BV I)<|Aa<|Bn I<|Am<|Ao<|Ak<|Ab I<|Ac (AW (i:=s2) (j:=1) I I (by omega))<|Af I<|Aa ?_
 have G7:=Tt A00 (Tt B00 C00)
 exact Y8 (s2+1,y1,E1,(g0++[((J1,G0),z1)]),p1,H1) G9 (Tt R00 (Tt Y5 (Tt q3 G7))) (Ar F5 G7) h
 refine Ae<|Ab I<|Bl [vN] Y6 .t12 (o1 I) fun p07 I9 v05=>Bl [vN] I9 .t11 (o1 I) fun q07 J9 x05=>Bl [vI u2.2.2] J9 .t10 (o1 I) fun s07 K9 y05=>Aa<|MX.roundRet E5 K9 .hd fun t07 M9 z05=>Ac (BV I)<|Aa<|Ba I ?_
 have h:=aO h V5
 refine Ap rfl<|Aw (u:=.tuple #[]) C5 func44 rfl .nil rfl<|MX.endRange1 M9 .hd (by intro h9; cases h9) fun X7 K6 A05=>?_
 obtain ⟨P9,B05⟩:=qC K6 (qI (qI (qI (qI (qI (qI (qI (qI (qI (qI (qI (qI (qI (qI (.drop .hd .rest)))))))))))))))
 refine Ap I<|RT.take P9 .hd fun Y7 M6 C05=>?_
 obtain ⟨D2,D05⟩:=qC M6 (qI (qI (qI (qI (qI (qI (qI (qI (qI (qI (qI (qI (qI (.drop .hd .rest))))))))))))))
 have F02:=BP (α:=Lb Int) D2 L
 have G02:=BP (α:=Lb Ta) D2 L
 refine Aw hb0 func5 I (.cons (.one I I ((D2.memA .t10) 0 _ I)) (.cons (.one I I ((D2.memA .t9) 0 _ I)) (.cons (.one I I ((D2.memA .t8) 0 _ I)) .nil))) I ?_
 cases h
 exact ⟨D2.ag,fun p q=>⟨vN,vN,I,D2.kd F02 q,D2.kd G02 q⟩⟩
 refine AT I ?_
 have h:=bD h V5
 try dsimp only at h
 refine MX.fin rfl<|Aw (u:=.tuple #[]) C5 func44 rfl .nil rfl<|MX.endRange0 j2 .hd (by intro h9; cases h9) fun Z7 P6 D00=>?_
 obtain ⟨C3,E00⟩:=qC P6 (qI (qI (qI (qI (qI (qI (qI (qI (qI (qI (qI (qI (qI (qI (.drop .hd .rest)))))))))))))))
 refine Ao<|Ae<|AG I ((C3.memA .t6) 0 _ I)<|Ac (Bw I)<|Bh 0 I<|Bh 0 I<|AG I ((aL (C3.memA .t7) 0) 0 _ I) ?_
 have D3:=BL C3 .t4
 have E05:=BM C3 .t4
 refine bk h fun D4 p03 h=>jE (bd 23) I (e1 I) (fun p q=>fV (b0:=w.heap.size) (aL_c n (D3.hL hL q) (Ax (BN (α:=Lb Int) (v:=B1) (xs:=G1) D3 L (BA (α:=Lb Int) C3 .t4 (Ar J5 (Tt D00 E00)) hL)) q) p03) q (Nat.le_trans D3.ag.size q.size)) I fun u07 j0 Z05 ⟨D06,V8,K02,Q7,j01⟩=>?_
 subst K02
 have s4:=gX D3 Q7
 have F05:=mh D3 Q7
 refine RG.now .plain (Az (news:=[j0]) s4 .t11 I I I (St.c1 (α:=Lb Int) s4 .hd) I I (o1 (St.o1 (α:=Lb Int) s4 .hd))) fun v07 E3 F00=>Aa<|Ae<|AG I ((E3.memA .t11) 0 _ I)<|BB (fst:=[]) (cap:=[]) (vs:=[j0,.func (.func 25) #[] #[]]) .plain (bd 24) func24 I I I I (e2 I I) I fun Q04 Z00 q06=>Ae<|Ab I ?_
 have d06:D4.length<=4294967296:=St.rowLe (α:=Lb Int) E3 .hd
 obtain ⟨Y03,A04,y01⟩:=St.rowV (α:=Lb Int) E3 .hd
 refine Ac (FV.lenV underlying39 I y01)<|Af I<|Aa<|Ak<|Ab I<|Ab I<|Ab I<|Ac (FV.convU (i:=((D4.length:Nat):Int)) underlying3 underlying106 I)<|bk h fun q8 q03 h=>Bz (vI q8) (bd 46) I (e1 I) (fun p q=>bO_c n (E3.hL0 hL q) (ac ((D4.length:Nat):Int)) q03) I<|Ab I<|bk h fun y0 c03 h=>RG.sort1 (β:=Lb Int) I (ρ:=Tryz.srt45_ren) (c:=(fun x9 y9=>bQ_p n x9 y9)) (li:=q8) c03 I Tryz.srt45 (enters_of func25 I I) (fun L9 p hL9 u9 z9 x9 y9 r9 h1 h2 h9=>bQ_c n hL9 h1 h2 h9) .plain (bd 45) I (e5 I I I I I) I E3 hL (Ar (AD (cs:=V8) (xs:=(D4:Lb (Lb Int))) s4 L (eX j01)) F00) (fun _=>.hd) fun y07 F0 Q6 G05 y4=>Aa<|MX.fin I<|Aw (u:=.tuple #[]) Z00 func24 I .nil I<|Aa<|Ae<|bk h fun k0 s03 h=>Bz (.tuple #[.agg ((aI k0.1)).toArray,vI k0.2]) (bd 27) I (e2 I I) (fun p q=>cx_c n (Q6.hL0 hL q)  s03) I<|Ab I<|Ac (Al I I)<|Ac (Al I I)<|RG.nl zL Q6 fun z07 z0 R9 v7=>Bl (aI k0.1) R9 .hd (aC I) fun b8 F3 x7=>Af I<|Aa<|Ae<|Ac (FV.makeFunc (vs:=[]) (us:=[vP p0,vP q0,vP z0]) aB (e3 I I I))<|Af I<|Aa<|Ai<|Ae<|AG I ((F3.memA .t12) 0 _ I) ?_
 have g06:y0.length<=4294967296:=St.rowLe (α:=Lb Int) F3 .t1
 obtain ⟨Z03,B04,z01⟩:=St.rowV (α:=Lb Int) F3 .t1
 refine Ac (FV.lenV underlying39 I z01)<|Ab I<|Aa<|Aq ?_
 have b5:=F3.nilRow 65 (Rep.size (Lb Ta))
 have y7:=BW F3 65 (Rep.size (Lb Ta))
 obtain ⟨d00,A5⟩:=qC b5 (qH (qH (qH (qH (qI (qI (.one .t5 (.one .t5 (.one .t5 (.drop .hd (.drop .hd (.drop .hd (.drop .hd (.drop .hd (.drop .hd (.drop .hd .rest))))))))))))))))
 obtain ⟨A06,Y01,E01⟩:=ai h
 refine MX.lf (α:=Nat×(Lb (Lb Ta))×Vc×(Lb Vc)) (fun ⟨R1,E0,v0,H0⟩=>[(6,vP p0),(7,vP s0),(8,vP t0),(26,.func (.func 28) #[] #[vP p0,vP q0,vP z0]),(116,j0),(117,vn y0.length),(118,vn R1)]) (fun ⟨R1,E0,v0,H0⟩=>(rr w 65 (Lb Ta) v0 E0.length H0::.cells z0 (aI k0.1) 82::rr w 36 (Lb Int) j0 y0.length F0::.obj x0 (.deferred (some []))::.cells q0 [.map (some c0)] 76::.obj c0 (ab (mmD g0))::.cells t0 [vI 0] 41::.cells s0 [v0] 40::.cells p0 [j0] 39::(ar ab g0++[]))) (fun ⟨R1,E0,v0,H0⟩ g8=>Cells g8 (bl (rr w 65 (Lb Ta) v0 E0.length H0::.cells z0 (aI k0.1) 82::rr w 36 (Lb Int) j0 y0.length F0::.obj x0 (.deferred (some []))::.cells q0 [.map (some c0)] 76::.obj c0 (ab (mmD g0))::.cells t0 [vI 0] 41::.cells s0 [v0] 40::.cells p0 [j0] 39::(ar ab g0++[]))++L) H0 E0) (fun ⟨R1,E0,v0,H0⟩=>(R1,E0)) (0,([]:Lb (Lb Ta)),vN,[]) Y01 d00 (Ar (AD (cs:=[]) (xs:=([]:Lb (Lb Ta))) b5 L (AK _ _)) A5) ?_
 rintro k04 ⟨R1,E0,v0,H0⟩ g8 F6 F1 v4 I5 h
 unfold av_l3 at h
 try dsimp only at h
 refine Ae<|Ac (Bp (i:=R1) (j:=y0.length) I I)<|Aa<|Ai<|AO I h (fun Q8 h=>?_) (fun Q8 h=>?_)
 refine Am<|Ai<|Aq<|Ae<|bk h fun b08 X02 h=>?_
 have b6:=Tt v7 (Tt x7 (Tt y7 (Tt A5 v4)))
 obtain ⟨y8,F04,P5,C7,V04,H02,V01⟩:=BF (α:=Lb Int) F1 .t2 (Ar y4 b6) X02
 obtain ⟨D8,G04,A01⟩:=Bd (α:=Lb Int) F1 .t2 C7
 obtain rfl:y8=⟨D8,0,none⟩:=by rw [A01] at P5; cases P5; rfl
 obtain ⟨u3,rfl,I7⟩:=bX H02
 refine Ac (AU 1 R1 I P5 I I C7)<|AG I (V01 0 _ I)<|Af I<|Aa<|du 3 fun D1 x6=>Rv 1 D1 I x6 (fun _=>Ah I)<|Rv 2 D1 I x6 (fun _=>Ah I)<|Bc [0,3] (rk D1) ⟨?_,?_,trivial⟩
 refine Bg (m' :=7) (sk D1) I .plain I (Ay I ((F1.memA .t7) 0 _ I))<|Bb (i:=3) (rk D1) (RO.enterPT (m' :=15) (fst:=[]) (cap:=[vP p0,vP q0,vP z0]) (vs:=[u3]) (sk D1) I I .plain (bd 28) func28 I I I I (e1 I) I (fun _ W8 D5 b02=>?_))
 refine Ae<|Af I<|Aa<|Ae<|Af I<|Aa<|Ai<|Ae<|AG I ((F1.memA .t8) 0 _ I) ?_
 obtain ⟨v8,I8,K5⟩:=St.rowV (α:=Lb Int) F1 .t2
 refine Ac (FV.lenV underlying39 I K5)<|Ab I<|Aa<|Aq ?_
 have G3:=F1.nilRow 82 (Rep.size Ta)
 have U2:=BW F1 82 (Rep.size Ta)
 have k01:=AD (cs:=[]) (xs:=([]:Lb Ta)) G3 L (AK _ _)
 obtain ⟨A03,X5,U5⟩:=ai h
 refine MX.lf (α:=Nat×(Lb Ta)×Vc×(Lb Vc)) (fun ⟨A1,C0,A0,I1⟩=>[(0,u3),(2,vP q0),(3,vP z0),(6,A0),(11,j0),(12,vn y0.length),(13,vn A1)]) (fun ⟨A1,C0,A0,I1⟩=>(rr w 82 Ta A0 C0.length I1::rr w 65 (Lb Ta) v0 E0.length H0::.cells z0 (aI k0.1) 82::rr w 36 (Lb Int) j0 y0.length F0::.obj x0 (.deferred (some []))::.cells q0 [.map (some c0)] 76::.obj c0 (ab (mmD g0))::.cells t0 [vI 0] 41::.cells s0 [v0] 40::.cells p0 [j0] 39::(ar ab g0++[]))) (fun ⟨A1,C0,A0,I1⟩ g4=>Cells g4 (bl (rr w 82 Ta A0 C0.length I1::rr w 65 (Lb Ta) v0 E0.length H0::.cells z0 (aI k0.1) 82::rr w 36 (Lb Int) j0 y0.length F0::.obj x0 (.deferred (some []))::.cells q0 [.map (some c0)] 76::.obj c0 (ab (mmD g0))::.cells t0 [vI 0] 41::.cells s0 [v0] 40::.cells p0 [j0] 39::(ar ab g0++[]))++L) I1 C0) (fun ⟨A1,C0,A0,I1⟩=>(A1,C0)) (0,([]:Lb Ta),vN,[]) X5 G3 k01 ?_
 rintro A8 ⟨A1,C0,A0,I1⟩ g4 Q4 I0 x2 W3 h
 unfold av_l2 at h
 try dsimp only at h
 refine Ae<|Ac (Bp (i:=A1) (j:=y0.length) I I)<|Aa<|Ai<|AO I h (fun J4 h=>?_) (fun J4 h=>?_)
 refine Am<|Ai<|Aq<|Ae<|bk h fun P03 j6 h=>?_
 have t02:=Tt b6 (Tt U2 x2)
 have J01:=Ar y4 t02
 obtain ⟨E4,J8,V2,X3,X8,c6,W5⟩:=BF (α:=Lb Int) I0 .t3 J01 j6
 obtain ⟨G4,K8,M5⟩:=Bd (α:=Lb Int) I0 .t3 X3
 obtain rfl:E4=⟨G4,0,none⟩:=by rw [M5] at V2; cases V2; rfl
 obtain ⟨C03,rfl,d6⟩:=bX c6
 refine Ac (AU 1 A1 I V2 I I X3)<|AG I (W5 0 _ I)<|Af I<|Aa<|Ai<|du 11 fun D0 C1=>Rx 0 7112 D0 I C1 (Ay I ((I0.memA .t5) 0 _ I))<|Rv 1 D0 I C1 (fun _=>Ah I)<|bk h fun p4 s6 h=>?_
 have K01:=AB I7 (Tt U2 x2)
 refine RD.cq 2 7 7144 (.string p4) D0 I C1 (bd 22) I (e1 I) (fun p q=>aE_c n (I0.hL0 hL q) (I0.kd K01 q) s6) I<|bk h fun H2 P4 h=>?_
 obtain ⟨z03,H4,v6,R5⟩:=oX (Z:=g0) P4
 refine Rx 3 7104 D0 I C1 (FV.as (FV.lookup (D:=mmD g0) (kv:=p4) (z:=(⟨none⟩:MRef)) I0 .t6 underlying76 underlying9 I I I I) (u:=.map (some H4)) (congrArg Enc.enc (ke R5 _)))<|Rv 4 D0 I C1 (fun _=>Ah I)<|bk h fun A2 u6 h=>RD.cq 5 63 7104 (.string A2) D0 I C1 (bd 22) I (e1 I) (fun p q=>aE_c n (I0.hL0 hL q) (I0.kd d6 q) u6) I<|bk h fun B0 k6 h=>Rx 6 7040 D0 I C1 (FV.as (BG (D:=H2) (kv:=A2) (z:=(⟨(0,0,0,0,0,0,0,0),(0,0,0,0,0,0,0,0)⟩:Ta)) I0 (.tl (.tl (.tl (.tl (.tl (.tl (.tl (.tl (.tl (.tl (At.mbox0 v6))))))))))) underlying80 underlying9 I I I I) (u:=.tuple #[.agg ((aI B0)).toArray,.bool ((aP H2 A2).isSome)]) (congrArg (fun z9:Ta=>Value.tuple #[Enc.enc z9,.bool (aP H2 A2).isSome]) (Option.some.inj k6)))<|Rv 7 D0 I C1 (fun _=>Ah I)<|Rv 8 D0 I C1 (fun _=>Al I I)<|Rv 9 D0 I C1 (fun _=>Al I I)<|RD.nu 10 2047 D0 I .plain I (AF zL I0) fun F03 A3 c5 q5=>BC 11 4095 D0 I I .plain (Az (news:=(aI B0)) c5 .hd I I I I I I (aC I)) fun G03 v2 s5=>Bb (i:=12) (rk D0) (Bg (m' :=8191) (sk D0) I .plain I (Bi I) ?_)
 refine AQ (dk D0)<|Ai<|Ae<|Ab I<|Ac (BV I)<|Aa<|MX.jo (α:=U16) (fun ⟨J0,K0,M0,P0,Q0,R0,U0,V0,W0,X0,Y0,Z0,b1,g1,j1,k1⟩=>[(0,u3),(2,vP q0),(3,vP z0),(6,A0),(11,j0),(12,vn y0.length),(13,vn A1),(9,vP A3)]) (fun ⟨J0,K0,M0,P0,Q0,R0,U0,V0,W0,X0,Y0,Z0,b1,g1,j1,k1⟩=>(.cells A3 [vU J0,vU K0,vU M0,vU P0,vU Q0,vU R0,vU U0,vU V0,vU W0,vU X0,vU Y0,vU Z0,vU b1,vU g1,vU j1,vU k1] 82::rr w 82 Ta A0 C0.length I1::rr w 65 (Lb Ta) v0 E0.length H0::.cells z0 (aI k0.1) 82::rr w 36 (Lb Int) j0 y0.length F0::.obj x0 (.deferred (some []))::.cells q0 [.map (some c0)] 76::.obj c0 (ab (mmD g0))::.cells t0 [vI 0] 41::.cells s0 [v0] 40::.cells p0 [j0] 39::(ar ab g0++[]))) (fun ⟨J0,K0,M0,P0,Q0,R0,U0,V0,W0,X0,Y0,Z0,b1,g1,j1,k1⟩=>(J0,K0,M0,P0,Q0,R0,U0,V0,W0,X0,Y0,Z0,b1,g1,j1,k1)) v2 h ?_ ?_
 rintro ⟨J0,K0,M0,P0,Q0,R0,U0,V0,W0,X0,Y0,Z0,b1,g1,j1,k1⟩ M03 H3 u5 h
 try dsimp only at h
 refine Ak<|Ab I<|Ac (AP I (H3.memA .hd))<|Av .plain I (AS (α:=Ta) (xs:=([(⟨(J0,K0,M0,P0,Q0,R0,U0,V0),(W0,X0,Y0,Z0,b1,g1,j1,k1)⟩:Ta)]:Lb Ta)) (vs:=[.agg #[vU J0,vU K0,vU M0,vU P0,vU Q0,vU R0,vU U0,vU V0,vU W0,vU X0,vU Y0,vU Z0,vU b1,vU g1,vU j1,vU k1]]) (ds' :=[vU J0,vU K0,vU M0,vU P0,vU Q0,vU R0,vU U0,vU V0,vU W0,vU X0,vU Y0,vU Z0,vU b1,vU g1,vU j1,vU k1]) I H3 pZ I (e1 I) (by kernel_rfl) I) fun H03 C8 P2 v5=>?_
 have p01:=AD (cs:=[vU J0,vU K0,vU M0,vU P0,vU Q0,vU R0,vU U0,vU V0,vU W0,vU X0,vU Y0,vU Z0,vU b1,vU g1,vU j1,vU k1]) (xs:=(([(⟨(J0,K0,M0,P0,Q0,R0,U0,V0),(W0,X0,Y0,Z0,b1,g1,j1,k1)⟩:Ta)]:Lb Ta):Lb Ta)) P2 L (AE (cs:=[vU J0,vU K0,vU M0,vU P0,vU Q0,vU R0,vU U0,vU V0,vU W0,vU X0,vU Y0,vU Z0,vU b1,vU g1,vU j1,vU k1]) (ds:=[]) (ra (J0,K0,M0,P0,Q0,R0,U0,V0) (W0,X0,Y0,Z0,b1,g1,j1,k1)) (AK _ _))
 refine bk h fun b3 p6 h=>?_
 have Y3:=Tt q5 (Tt s5 (Tt u5 v5))
 have M01:=Ar W3 Y3
 refine RG.doesL .plain I (AL (α:=Ta) (ys:=([(⟨(J0,K0,M0,P0,Q0,R0,U0,V0),(W0,X0,Y0,Z0,b1,g1,j1,k1)⟩:Ta)]:Lb Ta)) p6 P2 (fun _ _=>.t2) pZ I I M01 (Bx (α:=Ta) P2 .hd p01)) fun Y2 c4 ⟨I2,I3,x5,G5⟩=>Af I<|Aa<|Ao<|Ak<|Ac (AW (i:=A1) (j:=1) I I (by omega))<|Ab I<|Aa ?_
 obtain ⟨d5,Q3⟩:=qC I3 (qJ (qJ (qJ (qJ (qJ (qJ (qJ (qJ (qJ (qJ (.drop .hd (.drop .hd .rest))))))))))))
 have P01:=Ar G5 Q3
 have u02:=Tt Y3 (Tt x5 Q3)
 exact Q4 (A1+1,b3,Y2,I2) d5 (Tt x2 u02) P01 h
 intro B8 B3 h
 try dsimp only at h
 refine MX.ifnb I h (fun K4 h=>?_) (fun K4 h=>?_)
 refine Am<|B3 (B0.fN.1,B0.fN.2.1,B0.fN.2.2.1,B0.fN.2.2.2.1,B0.fN.2.2.2.2.1,B0.fN.2.2.2.2.2.1,B0.fN.2.2.2.2.2.2.1,B0.fN.2.2.2.2.2.2.2,B0.fD.1,B0.fD.2.1,B0.fD.2.2.1,B0.fD.2.2.2.1,B0.fD.2.2.2.2.1,B0.fD.2.2.2.2.2.1,B0.fD.2.2.2.2.2.2.1,B0.fD.2.2.2.2.2.2.2) v2 (By _ _) h
 refine Ak<|Ac (AP I (v2.memA .t3))<|Bl (aI k0.1) v2 .hd (aC I) fun I03 g5 y5=>Aa<|B3 (k0.1.fN.1,k0.1.fN.2.1,k0.1.fN.2.2.1,k0.1.fN.2.2.2.1,k0.1.fN.2.2.2.2.1,k0.1.fN.2.2.2.2.2.1,k0.1.fN.2.2.2.2.2.2.1,k0.1.fN.2.2.2.2.2.2.2,k0.1.fD.1,k0.1.fD.2.1,k0.1.fD.2.2.1,k0.1.fD.2.2.2.1,k0.1.fD.2.2.2.2.1,k0.1.fD.2.2.2.2.2.1,k0.1.fD.2.2.2.2.2.2.1,k0.1.fD.2.2.2.2.2.2.2) g5 y5 h
 refine AT I ?_
 have h:=U5 _ h
 try dsimp only at h
 refine Ae<|Ab I<|Af I<|Aa<|Ap I<|Aw (u:=A0) D5 func28 I (.cons (.tmp I) .nil) I ?_
 have V6:=BL I0 .hd
 have H7:=BN (α:=Ta) (v:=A0) (xs:=C0) V6 L (BA (α:=Ta) I0 .hd W3 hL)
 obtain ⟨b04,C04,Q02,_⟩:=Rep.sl H7
 refine RD.nu 4 31 D1 I .plain I (AS (α:=Lb Ta) (xs:=([C0]:Lb (Lb Ta))) (vs:=[A0]) (ds' :=[A0]) I V6 sM I (e1 I) (by rw [Q02]; try kernel_rfl) I) fun F07 s04 j5 z7=>bk h fun c3 q6 h=>?_
 have Z3:=Tt U2 (Tt x2 (Tt (BM I0 .hd) z7))
 have R01:=Ar I5 Z3
 refine Bb (i:=5) (rk D1) (AZ (m' :=63) (sk D1) I I .plain I (AL (α:=Lb Ta) (ys:=([C0]:Lb (Lb Ta))) q6 j5 (fun _ _=>.t1) sM I I R01 (Bx (α:=Lb Ta) j5 .hd (AD (cs:=[A0]) (xs:=(([C0]:Lb (Lb Ta)):Lb (Lb Ta))) j5 L (AE (cs:=[A0]) (ds:=[]) (AB H7 z7) (AK _ _))))) (fun b2 K03 ⟨J2,Q2,z5,H5⟩=>?_))
 refine BC 6 127 D1 I I .plain (Az (news:=[b2]) Q2 .t8 I I I (St.c1 (α:=Lb Ta) Q2 .t1) I I (o1 (St.o1 (α:=Lb Ta) Q2 .t1))) fun d4 J3 U3=>AQ (dk D1)<|Ao<|Ak<|Ac (AW (i:=R1) (j:=1) I I (by omega))<|Ab I<|Aa ?_
 obtain ⟨k5,V3⟩:=qC J3 (qI (qI (qI (qI (qI (qI (qI (qI (qI (.drop .hd .rest))))))))))
 have U01:=Ar H5 (Tt U3 V3)
 have v02:=Tt Z3 (Tt z5 (Tt U3 V3))
 exact F6 (R1+1,c3,b2,J2) k5 (Tt v4 v02) U01 h
 refine RO.enterPT (m' :=14) (fst:=[]) (cap:=[vP p0,vP q0,vP z0]) (vs:=[u3]) (sk D1) I I .plain (bd 28) func28 I I I I (e1 I) I fun _ W8 D5 b02=>Ae<|Af I<|Aa<|Ae<|Af I<|Aa<|Ai<|Ae<|AG I ((F1.memA .t8) 0 _ I) ?_
 obtain ⟨v8,I8,K5⟩:=St.rowV (α:=Lb Int) F1 .t2
 refine Ac (FV.lenV underlying39 I K5)<|Ab I<|Aa<|Aq ?_
 have G3:=F1.nilRow 82 (Rep.size Ta)
 have U2:=BW F1 82 (Rep.size Ta)
 obtain ⟨A03,X5,U5⟩:=ai h
 refine MX.lf (α:=Nat×(Lb Ta)×Vc×(Lb Vc)) (fun ⟨A1,C0,A0,I1⟩=>[(0,u3),(2,vP q0),(3,vP z0),(6,A0),(11,j0),(12,vn y0.length),(13,vn A1)]) (fun ⟨A1,C0,A0,I1⟩=>(rr w 82 Ta A0 C0.length I1::rr w 65 (Lb Ta) v0 E0.length H0::.cells z0 (aI k0.1) 82::rr w 36 (Lb Int) j0 y0.length F0::.obj x0 (.deferred (some []))::.cells q0 [.map (some c0)] 76::.obj c0 (ab (mmD g0))::.cells t0 [vI 0] 41::.cells s0 [v0] 40::.cells p0 [j0] 39::(ar ab g0++[]))) (fun ⟨A1,C0,A0,I1⟩ g4=>Cells g4 (bl (rr w 82 Ta A0 C0.length I1::rr w 65 (Lb Ta) v0 E0.length H0::.cells z0 (aI k0.1) 82::rr w 36 (Lb Int) j0 y0.length F0::.obj x0 (.deferred (some []))::.cells q0 [.map (some c0)] 76::.obj c0 (ab (mmD g0))::.cells t0 [vI 0] 41::.cells s0 [v0] 40::.cells p0 [j0] 39::(ar ab g0++[]))++L) I1 C0) (fun ⟨A1,C0,A0,I1⟩=>(A1,C0)) (0,([]:Lb Ta),vN,[]) X5 G3 (AD (cs:=[]) (xs:=([]:Lb Ta)) G3 L (AK _ _)) ?_
 rintro A8 ⟨A1,C0,A0,I1⟩ g4 Q4 I0 x2 W3 h
 unfold av_l2 at h
 try dsimp only at h
 refine Ae<|Ac (Bp (i:=A1) (j:=y0.length) I I)<|Aa<|Ai<|AO I h (fun J4 h=>?_) (fun J4 h=>?_)
 refine Am<|Ai<|Aq<|Ae<|bk h fun P03 j6 h=>?_
 obtain ⟨E4,J8,V2,X3,X8,c6,W5⟩:=BF (α:=Lb Int) I0 .t3 (Ar y4 (Tt b6 (Tt U2 x2))) j6
 obtain ⟨G4,K8,M5⟩:=Bd (α:=Lb Int) I0 .t3 X3
 obtain rfl:E4=⟨G4,0,none⟩:=by rw [M5] at V2; cases V2; rfl
 obtain ⟨C03,rfl,d6⟩:=bX c6
 refine Ac (AU 1 A1 I V2 I I X3)<|AG I (W5 0 _ I)<|Af I<|Aa<|Ai<|du 11 fun D0 C1=>Rx 0 7112 D0 I C1 (Ay I ((I0.memA .t5) 0 _ I))<|Rv 1 D0 I C1 (fun _=>Ah I)<|bk h fun p4 s6 h=>RD.cq 2 7 7144 (.string p4) D0 I C1 (bd 22) I (e1 I) (fun p q=>aE_c n (I0.hL0 hL q) (I0.kd (AB I7 (Tt U2 x2)) q) s6) I<|bk h fun H2 P4 h=>?_
 obtain ⟨z03,H4,v6,R5⟩:=oX (Z:=g0) P4
 refine Rx 3 7104 D0 I C1 (FV.as (FV.lookup (D:=mmD g0) (kv:=p4) (z:=(⟨none⟩:MRef)) I0 .t6 underlying76 underlying9 I I I I) (u:=.map (some H4)) (congrArg Enc.enc (ke R5 _)))<|Rv 4 D0 I C1 (fun _=>Ah I)<|bk h fun A2 u6 h=>RD.cq 5 63 7104 (.string A2) D0 I C1 (bd 22) I (e1 I) (fun p q=>aE_c n (I0.hL0 hL q) (I0.kd d6 q) u6) I<|bk h fun B0 k6 h=>Rx 6 7040 D0 I C1 (FV.as (BG (D:=H2) (kv:=A2) (z:=(⟨(0,0,0,0,0,0,0,0),(0,0,0,0,0,0,0,0)⟩:Ta)) I0 (.tl (.tl (.tl (.tl (.tl (.tl (.tl (.tl (.tl (.tl (At.mbox0 v6))))))))))) underlying80 underlying9 I I I I) (u:=.tuple #[.agg ((aI B0)).toArray,.bool ((aP H2 A2).isSome)]) (congrArg (fun z9:Ta=>Value.tuple #[Enc.enc z9,.bool (aP H2 A2).isSome]) (Option.some.inj k6)))<|Rv 7 D0 I C1 (fun _=>Ah I)<|Rv 8 D0 I C1 (fun _=>Al I I)<|Rv 9 D0 I C1 (fun _=>Al I I)<|RD.nu 10 2047 D0 I .plain I (AF zL I0) fun F03 A3 c5 q5=>BC 11 4095 D0 I I .plain (Az (news:=(aI B0)) c5 .hd I I I I I I (aC I)) fun G03 v2 s5=>Bb (i:=12) (rk D0) (Bg (m' :=8191) (sk D0) I .plain I (Bi I) ?_)
 refine AQ (dk D0)<|Ai<|Ae<|Ab I<|Ac (BV I)<|Aa<|MX.jo (α:=U16) (fun ⟨J0,K0,M0,P0,Q0,R0,U0,V0,W0,X0,Y0,Z0,b1,g1,j1,k1⟩=>[(0,u3),(2,vP q0),(3,vP z0),(6,A0),(11,j0),(12,vn y0.length),(13,vn A1),(9,vP A3)]) (fun ⟨J0,K0,M0,P0,Q0,R0,U0,V0,W0,X0,Y0,Z0,b1,g1,j1,k1⟩=>(.cells A3 [vU J0,vU K0,vU M0,vU P0,vU Q0,vU R0,vU U0,vU V0,vU W0,vU X0,vU Y0,vU Z0,vU b1,vU g1,vU j1,vU k1] 82::rr w 82 Ta A0 C0.length I1::rr w 65 (Lb Ta) v0 E0.length H0::.cells z0 (aI k0.1) 82::rr w 36 (Lb Int) j0 y0.length F0::.obj x0 (.deferred (some []))::.cells q0 [.map (some c0)] 76::.obj c0 (ab (mmD g0))::.cells t0 [vI 0] 41::.cells s0 [v0] 40::.cells p0 [j0] 39::(ar ab g0++[]))) (fun ⟨J0,K0,M0,P0,Q0,R0,U0,V0,W0,X0,Y0,Z0,b1,g1,j1,k1⟩=>(J0,K0,M0,P0,Q0,R0,U0,V0,W0,X0,Y0,Z0,b1,g1,j1,k1)) v2 h ?_ ?_
 rintro ⟨J0,K0,M0,P0,Q0,R0,U0,V0,W0,X0,Y0,Z0,b1,g1,j1,k1⟩ M03 H3 u5 h
 try dsimp only at h
 refine Ak<|Ab I<|Ac (AP I (H3.memA .hd))<|Av .plain I (AS (α:=Ta) (xs:=([(⟨(J0,K0,M0,P0,Q0,R0,U0,V0),(W0,X0,Y0,Z0,b1,g1,j1,k1)⟩:Ta)]:Lb Ta)) (vs:=[.agg #[vU J0,vU K0,vU M0,vU P0,vU Q0,vU R0,vU U0,vU V0,vU W0,vU X0,vU Y0,vU Z0,vU b1,vU g1,vU j1,vU k1]]) (ds' :=[vU J0,vU K0,vU M0,vU P0,vU Q0,vU R0,vU U0,vU V0,vU W0,vU X0,vU Y0,vU Z0,vU b1,vU g1,vU j1,vU k1]) I H3 pZ I (e1 I) (by kernel_rfl) I) fun H03 C8 P2 v5=>bk h fun b3 p6 h=>?_
 have Y3:=Tt q5 (Tt s5 (Tt u5 v5))
 refine RG.doesL .plain I (AL (α:=Ta) (ys:=([(⟨(J0,K0,M0,P0,Q0,R0,U0,V0),(W0,X0,Y0,Z0,b1,g1,j1,k1)⟩:Ta)]:Lb Ta)) p6 P2 (fun _ _=>.t2) pZ I I (Ar W3 Y3) (Bx (α:=Ta) P2 .hd (AD (cs:=[vU J0,vU K0,vU M0,vU P0,vU Q0,vU R0,vU U0,vU V0,vU W0,vU X0,vU Y0,vU Z0,vU b1,vU g1,vU j1,vU k1]) (xs:=(([(⟨(J0,K0,M0,P0,Q0,R0,U0,V0),(W0,X0,Y0,Z0,b1,g1,j1,k1)⟩:Ta)]:Lb Ta):Lb Ta)) P2 L (AE (cs:=[vU J0,vU K0,vU M0,vU P0,vU Q0,vU R0,vU U0,vU V0,vU W0,vU X0,vU Y0,vU Z0,vU b1,vU g1,vU j1,vU k1]) (ds:=[]) (ra (J0,K0,M0,P0,Q0,R0,U0,V0) (W0,X0,Y0,Z0,b1,g1,j1,k1)) (AK _ _))))) fun Y2 c4 ⟨I2,I3,x5,G5⟩=>Af I<|Aa<|Ao<|Ak<|Ac (AW (i:=A1) (j:=1) I I (by omega))<|Ab I<|Aa ?_
 obtain ⟨d5,Q3⟩:=qC I3 (qJ (qJ (qJ (qJ (qJ (qJ (qJ (qJ (qJ (qJ (.drop .hd (.drop .hd .rest))))))))))))
 exact Q4 (A1+1,b3,Y2,I2) d5 (Tt x2 (Tt Y3 (Tt x5 Q3))) (Ar G5 Q3) h
 intro B8 B3 h
 try dsimp only at h
 refine MX.ifnb I h (fun K4 h=>?_) (fun K4 h=>?_)
 refine Am<|B3 (B0.fN.1,B0.fN.2.1,B0.fN.2.2.1,B0.fN.2.2.2.1,B0.fN.2.2.2.2.1,B0.fN.2.2.2.2.2.1,B0.fN.2.2.2.2.2.2.1,B0.fN.2.2.2.2.2.2.2,B0.fD.1,B0.fD.2.1,B0.fD.2.2.1,B0.fD.2.2.2.1,B0.fD.2.2.2.2.1,B0.fD.2.2.2.2.2.1,B0.fD.2.2.2.2.2.2.1,B0.fD.2.2.2.2.2.2.2) v2 (By _ _) h
 refine Ak<|Ac (AP I (v2.memA .t3))<|Bl (aI k0.1) v2 .hd (aC I) fun I03 g5 y5=>Aa<|B3 (k0.1.fN.1,k0.1.fN.2.1,k0.1.fN.2.2.1,k0.1.fN.2.2.2.1,k0.1.fN.2.2.2.2.1,k0.1.fN.2.2.2.2.2.1,k0.1.fN.2.2.2.2.2.2.1,k0.1.fN.2.2.2.2.2.2.2,k0.1.fD.1,k0.1.fD.2.1,k0.1.fD.2.2.1,k0.1.fD.2.2.2.1,k0.1.fD.2.2.2.2.1,k0.1.fD.2.2.2.2.2.1,k0.1.fD.2.2.2.2.2.2.1,k0.1.fD.2.2.2.2.2.2.2) g5 y5 h
 refine AT I ?_
 have h:=U5 _ h
 try dsimp only at h
 refine Ae<|Ab I<|Af I<|Aa<|Ap I<|Aw (u:=A0) D5 func28 I (.cons (.tmp I) .nil) I ?_
 have M3:=BL I0 .hd
 have B4:=BN (α:=Ta) (v:=A0) (xs:=C0) M3 L (BA (α:=Ta) I0 .hd W3 hL)
 refine RD.mf (α:=Vc×(Lb Vc)) (fun ⟨v3,j3⟩=>[(6,vP p0),(7,vP s0),(8,vP t0),(26,.func (.func 28) #[] #[vP p0,vP q0,vP z0]),(116,j0),(117,vn y0.length),(118,vn R1),(122,v0),(126,v3)]) (fun ⟨v3,j3⟩=>(rr w 65 (Lb Ta) v3 (([C0]:Lb (Lb Ta)).length) j3::rr w 65 (Lb Ta) v0 E0.length H0::.cells z0 (aI k0.1) 82::rr w 36 (Lb Int) j0 y0.length F0::.obj x0 (.deferred (some []))::.cells q0 [.map (some c0)] 76::.obj c0 (ab (mmD g0))::.cells t0 [vI 0] 41::.cells s0 [v0] 40::.cells p0 [j0] 39::(ar ab g0++[]))) (fun ⟨v3,j3⟩ k8=>Cells k8 (bl (rr w 65 (Lb Ta) v3 (([C0]:Lb (Lb Ta)).length) j3::rr w 65 (Lb Ta) v0 E0.length H0::.cells z0 (aI k0.1) 82::rr w 36 (Lb Int) j0 y0.length F0::.obj x0 (.deferred (some []))::.cells q0 [.map (some c0)] 76::.obj c0 (ab (mmD g0))::.cells t0 [vI 0] 41::.cells s0 [v0] 40::.cells p0 [j0] 39::(ar ab g0++[]))++L) j3 (([C0]:Lb (Lb Ta)):Lb (Lb Ta))) M3 2 31 ?_ ?_
 rintro ⟨v3,j3⟩ k8 Z6 V00 s01
 try dsimp only
 refine bk h fun c3 q6 h=>?_
 have Z3:=Tt U2 (Tt x2 (Tt (BM I0 .hd) V00))
 refine Bb (i:=5) (rk D1) (AZ (m' :=63) (sk D1) I I .plain I (AL (α:=Lb Ta) (ys:=([C0]:Lb (Lb Ta))) q6 Z6 (fun _ _=>.t1) sM I I (Ar I5 Z3) (Bx (α:=Lb Ta) Z6 .hd s01)) (fun b2 K03 ⟨J2,Q2,z5,H5⟩=>?_))
 refine BC 6 127 D1 I I .plain (Az (news:=[b2]) Q2 .t8 I I I (St.c1 (α:=Lb Ta) Q2 .t1) I I (o1 (St.o1 (α:=Lb Ta) Q2 .t1))) fun d4 J3 U3=>AQ (dk D1)<|Ao<|Ak<|Ac (AW (i:=R1) (j:=1) I I (by omega))<|Ab I<|Aa ?_
 obtain ⟨k5,V3⟩:=qC J3 (qI (qI (qI (qI (qI (qI (qI (qI (qI (.drop .hd .rest))))))))))
 exact F6 (R1+1,c3,b2,J2) k5 (Tt v4 (Tt Z3 (Tt z5 (Tt U3 V3)))) (Ar H5 (Tt U3 V3)) h
 intro E6
 refine Bc [0,4] (rk D1) ⟨?_,?_,trivial⟩
 refine Bg (m' :=15) (sk D1) I .plain I (Ay I ((M3.memA .t7) 0 _ I)) ?_
 obtain ⟨x8,M8,g6,_⟩:=Rep.sl B4
 refine RD.nu 4 31 D1 I .plain I (AS (α:=Lb Ta) (xs:=([C0]:Lb (Lb Ta))) (vs:=[A0]) (ds' :=[A0]) I M3 sM I (e1 I) (by rw [g6]; try kernel_rfl) I) fun J03 I4 p3 R3=>?_
 have Q01:=AB B4 R3
 have q01:=AD (cs:=[A0]) (xs:=(([C0]:Lb (Lb Ta)):Lb (Lb Ta))) p3 L (AE (cs:=[A0]) (ds:=[]) Q01 (AK _ _))
 exact E6 ((vS I4 1),[A0]) p3 R3 q01
 obtain ⟨x8,M8,g6,_⟩:=Rep.sl B4
 refine BH (m' :=30) (sk D1) I .plain I (AS (α:=Lb Ta) (xs:=([C0]:Lb (Lb Ta))) (vs:=[A0]) (ds' :=[A0]) I M3 sM I (e1 I) (by rw [g6]; try kernel_rfl) I) fun J03 I4 p3 R3=>Rx 0 96 D1 I x6 (Ay I ((p3.memA .t8) 0 _ I))<|E6 ((vS I4 1),[A0]) p3 R3 (AD (cs:=[A0]) (xs:=(([C0]:Lb (Lb Ta)):Lb (Lb Ta))) p3 L (AE (cs:=[A0]) (ds:=[]) (AB B4 R3) (AK _ _)))
 refine AT I ?_
 have h:=E01 _ h
 try dsimp only at h
 refine Ai<|du 2 fun z2 P7=>Rx 0 28 z2 I P7 (Ay I ((F1.memA .t8) 0 _ I))<|RD.mo (α:=Unit) (fun ()=>[(6,vP p0),(7,vP s0),(8,vP t0),(130,v0)]) (fun ()=>[rr w 65 (Lb Ta) v0 E0.length H0,rr w 36 (Lb Int) j0 y0.length F0,.obj x0 (.deferred (some [])),.cells t0 [vI 0] 41,.cells s0 [v0] 40,.cells p0 [j0] 39]) F1 2 7 ?_ ?_
 rintro ⟨⟩ Z07 R4 d7
 try dsimp only
 refine BC 3 15 z2 I I .plain (Az (news:=[v0]) R4 .t4 I I I (St.c1 (α:=Lb Ta) R4 .hd) I I (o1 (St.o1 (α:=Lb Ta) R4 .hd))) fun J06 Z8 g7=>BC 4 31 z2 I I .plain (Az (news:=[vI 0]) Z8 .t3 I I I I I I (o1 I)) fun K06 b9 j7=>AQ (dk z2)<|Ap I<|RT.take b9 .t2 fun M06 c9 k7=>?_
 obtain ⟨U4,p7⟩:=AX c9 (.a0 (.a0 .d1))
 have q4:=BL U4 .t1
 have x02:=BN (α:=Lb Int) (v:=j0) (xs:=y0) q4 L (BA (α:=Lb Int) U4 .t1 (Ar y4 (Tt v7 (Tt x7 (Tt y7 (Tt A5 (Tt v4 (Tt d7 (Tt g7 (Tt j7 (Tt k7 p7)))))))))) hL)
 have K2:=BL q4 .hd
 have q00:=BM q4 .hd
 have y02:=BN (α:=Lb Ta) (v:=v0) (xs:=E0) K2 L (BA (α:=Lb Ta) q4 .hd (Ar I5 (Tt d7 (Tt g7 (Tt j7 (Tt k7 (Tt p7 (BM U4 .t1))))))) hL)
 refine Aw hb0 func5 I (.cons (.one I I ((K2.memA .t2) 0 _ I)) (.cons (.one I I ((K2.memA .t1) 0 _ I)) (.cons (.one I I ((K2.memA .hd) 0 _ I)) .nil))) I ?_
 cases h
 exact ⟨K2.ag,fun p q=>⟨j0,v0,I,K2.kd (AB x02 q00) q,K2.kd y02 q⟩⟩
 intro C6
 refine Bc [1,2] (rk z2) ⟨?_,?_,trivial⟩
 refine Bg (m' :=3) (sk z2) I .plain I (Ay I ((F1.memA .t7) 0 _ I))<|BC 2 7 z2 I I .plain (Az (news:=[j0]) F1 .t8 I I I (St.c1 (α:=Lb Int) F1 .t2) I I (o1 (St.o1 (α:=Lb Int) F1 .t2))) fun Z2 u4 B5=>?_
 obtain ⟨c02,d02⟩:=St.mmDrop (pre:=[rr w 65 (Lb Ta) v0 E0.length H0,.cells z0 (aI k0.1) 82,rr w 36 (Lb Int) j0 y0.length F0,.obj x0 (.deferred (some [])),.cells q0 [.map (some c0)] 76,.obj c0 (ab (mmD g0)),.cells t0 [vI 0] 41,.cells s0 [v0] 40,.cells p0 [j0] 39]) (f:=ab) (Z:=g0) (T:=[]) u4
 have d9:St _ Z2 [rr w 65 (Lb Ta) v0 E0.length H0,.cells z0 (aI k0.1) 82,rr w 36 (Lb Int) j0 y0.length F0,.obj x0 (.deferred (some [])),.cells q0 [.map (some c0)] 76,.obj c0 (ab (mmD g0)),.cells t0 [vI 0] 41,.cells s0 [v0] 40,.cells p0 [j0] 39]:=c02
 have s00:Tr Z2 (rr w 65 (Lb Ta) v0 E0.length H0::.cells z0 (aI k0.1) 82::rr w 36 (Lb Int) j0 y0.length F0::.obj x0 (.deferred (some []))::.cells q0 [.map (some c0)] 76::.obj c0 (ab (mmD g0))::.cells t0 [vI 0] 41::.cells s0 [v0] 40::.cells p0 [j0] 39::(ar ab g0++[])) Z2 [rr w 65 (Lb Ta) v0 E0.length H0,.cells z0 (aI k0.1) 82,rr w 36 (Lb Int) j0 y0.length F0,.obj x0 (.deferred (some [])),.cells q0 [.map (some c0)] 76,.obj c0 (ab (mmD g0)),.cells t0 [vI 0] 41,.cells s0 [v0] 40,.cells p0 [j0] 39]:=d02
 obtain ⟨g9,t00⟩:=AX d9 (.a0 (.a1 (.a1 .d3)))
 exact C6 () g9 (Tt B5 (Tt s00 t00))
 refine RO.now (m' :=5) (sk z2) I I .plain (Az (news:=[j0]) F1 .t8 I I I (St.c1 (α:=Lb Int) F1 .t2) I I (o1 (St.o1 (α:=Lb Int) F1 .t2))) fun Z2 u4 B5=>Rx 1 24 z2 I P7 (Ay I ((u4.memA .t7) 0 _ I)) ?_
 obtain ⟨g02,j02⟩:=St.mmDrop (pre:=[rr w 65 (Lb Ta) v0 E0.length H0,.cells z0 (aI k0.1) 82,rr w 36 (Lb Int) j0 y0.length F0,.obj x0 (.deferred (some [])),.cells q0 [.map (some c0)] 76,.obj c0 (ab (mmD g0)),.cells t0 [vI 0] 41,.cells s0 [v0] 40,.cells p0 [j0] 39]) (f:=ab) (Z:=g0) (T:=[]) u4
 have j9:St _ Z2 [rr w 65 (Lb Ta) v0 E0.length H0,.cells z0 (aI k0.1) 82,rr w 36 (Lb Int) j0 y0.length F0,.obj x0 (.deferred (some [])),.cells q0 [.map (some c0)] 76,.obj c0 (ab (mmD g0)),.cells t0 [vI 0] 41,.cells s0 [v0] 40,.cells p0 [j0] 39]:=g02
 have u00:Tr Z2 (rr w 65 (Lb Ta) v0 E0.length H0::.cells z0 (aI k0.1) 82::rr w 36 (Lb Int) j0 y0.length F0::.obj x0 (.deferred (some []))::.cells q0 [.map (some c0)] 76::.obj c0 (ab (mmD g0))::.cells t0 [vI 0] 41::.cells s0 [v0] 40::.cells p0 [j0] 39::(ar ab g0++[])) Z2 [rr w 65 (Lb Ta) v0 E0.length H0,.cells z0 (aI k0.1) 82,rr w 36 (Lb Int) j0 y0.length F0,.obj x0 (.deferred (some [])),.cells q0 [.map (some c0)] 76,.obj c0 (ab (mmD g0)),.cells t0 [vI 0] 41,.cells s0 [v0] 40,.cells p0 [j0] 39]:=j02
 obtain ⟨k9,v00⟩:=AX j9 (.a0 (.a1 (.a1 .d3)))
 exact C6 () k9 (Tt B5 (Tt u00 v00))
 refine Ae<|Ab I<|Bl [vN] W6 .t2 (o1 I) fun P06 p9 Z04=>Bl [vN] p9 .t1 (o1 I) fun Q06 q9 b05=>Bl [vI s8.2.2] q9 .hd (o1 I) fun R06 B2 c05=>Aa<|Ap I ?_
 have z02:=BP (α:=Lb Int) B2 L
 have A02:=BP (α:=Lb Ta) B2 L
 refine Aw hb0 func5 I (.cons (.one I I ((B2.memA .t2) 0 _ I)) (.cons (.one I I ((B2.memA .t1) 0 _ I)) (.cons (.one I I ((B2.memA .hd) 0 _ I)) .nil))) I ?_
 cases h
 exact ⟨B2.ag,fun p q=>⟨vN,vN,I,B2.kd z02 q,B2.kd A02 q⟩⟩
def bR_p (_n:Nat) (a0:Int):Oa Bool:=
  (if a0<0 then some true else some (decide (1000000000<a0)))
theorem bR_c (n:Nat) {L w} (_hL:hl L w) {a0:Int}  {r:Bool} (h:bR_p n a0=some r) :
 Cl 85 #[vI a0] w (aj w fun _ u=>u=.bool r):=by
 unfold bR_p at h
 have hS0:=AI w
 refine AJ func85 I I I fun _ cs0 hb0=>Ae<|Af I<|Aa<|Ae<|Ab I<|Ac (BR (i:=a0) (j:=0) I I)<|Ab I<|BD (s:=5) I h (fun c1 h=>?_) (fun c1 h=>?_)
 refine Aj<|Aj<|Bm I I<|Af I<|Aa<|Ap I<|AV hb0 func85 I I ?_
 cases h
 exact hS0.gv
 refine Au (Ah I)<|Au (FV.gtr (i:=a0) (j:=1000000000) I I)<|Bo I I<|Af I<|Aa<|Ap I<|AV hb0 func85 I I ?_
 cases h
 exact hS0.gv
def bh_l1 (n:Nat) (a1:Td) (c0:Nat->Oa (Int⊕Unit)):Nat->Oa (Int⊕Unit)
  | b0=>(if b0<a1.fu.length then (a1.fu[b0]?).bind fun d0=>(bR_p n d0).bind fun g0=>(if g0=true then ((if 0<=b0 then some (2:Int) else (if a1.fc<1 then some (2:Int) else (if 8<a1.fc then some (2:Int) else (if a1.fm<0 then some (2:Int) else (if a1.fh<a1.fm then some (2:Int) else some (0:Int))))))).map .inl else c0 (b0+1)) else some (.inr ()))
def bh_p (n:Nat) (a0:Tc) (a1:Td):Oa Int:=
  (aQ_p n a0).bind fun b0=>(if b0=0 then (if 12<a0.fN then some (3:Int) else (if ((a1.fu.length:Nat):Int)=a0.fN then thn (ah (bh_l1 n a1) n 0) (fun _=>(if 0<=(-1) then some (2:Int) else (if a1.fc<1 then some (2:Int) else (if 8<a1.fc then some (2:Int) else (if a1.fm<0 then some (2:Int) else (if a1.fh<a1.fm then some (2:Int) else some (0:Int))))))) else some (2:Int))) else some b0)
theorem bh_c (n:Nat) {L w} (hL:hl L w) (a0:Tc) {v0_1:Vc} (h0_1:Rep.R w L [v0_1] a0.fo) (a1:Td) {v1_0:Vc} (h1_0:Rep.R w L [v1_0] a1.fu)  {r:Int} (h:bh_p n a0 a1=some r) :
 Cl 49 #[.agg #[vI a0.fN,v0_1],.agg #[v1_0,vI a1.fm,vI a1.fh,vI a1.fc]] w (aj w fun _ u=>u=vI r):=by
 unfold bh_p at h
 refine AJ func49 I I I fun _ cs0 hb0=>Ae<|RG.bx (AI w) I I fun C1 t0 Q0 v1=>RG.bx Q0 I I fun D1 u0 c0 x1=>Af I<|Aa<|Ai<|Ae<|Ac (AP I (c0.memA .t1))<|bk h fun s0 c1 h=>Bz (vI s0) (bd 83) I (e1 I) (fun p q=>aQ_c n (c0.hL0 hL q) a0 (c0.k0 h0_1 q) c1) I<|Af I<|Aa<|Ae<|Ab I<|Ac (FV.neq (i:=s0) (j:=0) I I)<|Aa<|MX.ifn I h (fun v0 h=>?_) (fun v0 h=>?_)
 refine Am<|Ai<|Ae<|Bh 0 I<|AG I ((c0.memA .t1) 0 _ I)<|Ac (FV.gtr (i:=a0.fN) (j:=12) I I)<|Aa<|AO I h (fun x0 h=>?_) (fun x0 h=>?_)
 refine Ae<|Af I<|Aa<|Ap I<|AV hb0 func49 I I ?_
 cases h
 exact c0.gv
 refine Am<|Ai<|Ai<|Ak<|Bh 0 I<|AG I ((c0.memA .hd) 0 _ I) ?_
 have g0:=AH h1_0 c0
 have y1:=AY g0
 refine Ac (Bf (xs:=a1.fu) underlying33 I g0)<|Bh 0 I<|AG I ((c0.memA .t1) 0 _ I)<|Ac (FV.neq (i:=((a1.fu.length:Nat):Int)) (j:=a0.fN) I I)<|Ab I<|RG.ifn (s:=20) I h (fun y0 h=>?_) (fun y0 h=>?_)
 refine RG.fg 0 I<|Au (Ay I ((c0.memA .hd) 0 _ I))<|BB (fst:=[]) (cap:=[]) (vs:=[v1_0,.func (.func 85) #[] #[]]) (.yes I I) (bd 84) func84 I I I I (e2 I I) I fun s1 j0 z1=>Ae<|Af I<|Aa<|Ae<|Ab I<|Ab I<|BB (fst:=[]) (cap:=[]) (vs:=[v1_0,.func (.func 85) #[] #[]]) .plain (bd 117) func117 I I I I (e2 I I) I fun u1 p0 A1=>Ae<|Af I<|Aa<|Ai<|Ae<|Ab I<|Ac (Bf (xs:=a1.fu) underlying33 I g0)<|Ab I<|Aa<|Aq<|tn h fun B1 Y0 q0=>MX.lo (α:=Nat) (fun d0=>[(0,v1_0),(1,.func (.func 85) #[] #[]),(7,vn a1.fu.length),(8,vn d0)]) (fun d0=>[.cells u0 [v1_0,vI a1.fm,vI a1.fh,vI a1.fc] 35,.cells t0 [vI a0.fN,v0_1] 32]) (fun d0=>d0) 0 Y0 c0 ?_
 rintro p1 d0 E1 P0 b0 R0 h
 unfold bh_l1 at h
 try dsimp only at h
 refine Ae<|Ac (Bp (i:=d0) (j:=a1.fu.length) I I)<|Aa<|Ai<|AO I h (fun z0 h=>?_) (fun z0 h=>?_)
 refine Am<|Ai<|Aq<|Ae<|Ab I<|Af I<|Aa<|Ae<|Ab I<|Ab I<|Ab I<|bk h fun g1 b1 h=>?_
 obtain ⟨k1,q1,U0,W0,M0,Z0,X0⟩:=Bq (AH h1_0 b0) b1
 have V0:M0=[vI g1]:=Z0; subst V0
 refine Ac (AU 1 d0 I U0 I I W0)<|AG I (X0 0 _ I)<|bk h fun j1 d1 h=>Bz (.bool j1) (bd 85) I (e1 I) (fun p q=>bR_c n (b0.hL0 hL q)  d1) I<|Aa<|MX.ifb I h (fun A0 h=>?_) (fun A0 h=>?_)
 refine Ae<|Ab I<|Af I<|Aa ?_
 have h:=jg h q0
 refine Ap I<|Aw (u:=vn d0) p0 func117 I (.cons (.tmp I) .nil) I<|Ac (FV.geqN (i:=d0) (j:=0) I I)<|Af I<|Aa<|Ap I<|Aw (u:=.bool (decide (0<=d0))) j0 func84 I (.cons (.tmp I) .nil) I<|Bo I I<|Ab I<|BD (s:=25) I h (fun B0 h=>?_) (fun B0 h=>?_)
 refine Aj<|Aj<|Aj<|Bm I I<|Ab I<|Aj<|Aj<|Aj<|Bm I I<|Ab I<|Aj<|Aj<|Aj<|Bm I I<|Ab I<|Aj<|Aj<|Aj<|Aj<|Aj<|Bm I I<|Aa<|Ba I<|Ae<|Af I<|Aa<|Ap I<|AV hb0 func49 I I ?_
 cases h
 exact b0.gv
 refine RG.fg 3 I<|Au (Ay I ((b0.memA .hd) 3 _ I))<|Au (BR (i:=a1.fc) (j:=1) I I)<|Bo I I<|Ab I<|BD (s:=30) I h (fun C0 h=>?_) (fun C0 h=>?_)
 refine Aj<|Aj<|Aj<|Bm I I<|Ab I<|Aj<|Aj<|Aj<|Bm I I<|Ab I<|Aj<|Aj<|Aj<|Aj<|Aj<|Bm I I<|Aa<|Ba I<|Ae<|Af I<|Aa<|Ap I<|AV hb0 func49 I I ?_
 cases h
 exact b0.gv
 refine RG.fg 3 I<|Au (Ay I ((b0.memA .hd) 3 _ I))<|Au (FV.gtr (i:=a1.fc) (j:=8) I I)<|Bo I I<|Ab I<|BD (s:=35) I h (fun D0 h=>?_) (fun D0 h=>?_)
 refine Aj<|Aj<|Aj<|Bm I I<|Ab I<|Aj<|Aj<|Aj<|Aj<|Aj<|Bm I I<|Aa<|Ba I<|Ae<|Af I<|Aa<|Ap I<|AV hb0 func49 I I ?_
 cases h
 exact b0.gv
 refine RG.fg 1 I<|Au (Ay I ((b0.memA .hd) 1 _ I))<|Au (BR (i:=a1.fm) (j:=0) I I)<|Bo I I<|Ab I<|BD (s:=40) I h (fun E0 h=>?_) (fun E0 h=>?_)
 refine Aj<|Aj<|Aj<|Aj<|Aj<|Bm I I<|Aa<|Ba I<|Ae<|Af I<|Aa<|Ap I<|AV hb0 func49 I I ?_
 cases h
 exact b0.gv
 refine RG.fg 2 I<|Au (Ay I ((b0.memA .hd) 2 _ I))<|RG.fg 1 I<|Au (Ay I ((b0.memA .hd) 1 _ I))<|Au (BR (i:=a1.fh) (j:=a1.fm) I I)<|Bo I I<|Aa<|AO I h (fun F0 h=>?_) (fun F0 h=>?_)
 refine Ae<|Af I<|Aa<|Ap I<|AV hb0 func49 I I ?_
 cases h
 exact b0.gv
 refine Am<|Ae<|Af I<|Aa<|Ap I<|AV hb0 func49 I I ?_
 cases h
 exact b0.gv
 refine Am<|Ao<|Ak<|Ac (AW (i:=d0) (j:=1) I I (by omega))<|Ab I<|Aa<|P0 (d0+1) b0 R0 h
 refine AT I ?_
 have h:=bD h q0
 try dsimp only at h
 refine Ae<|Af I<|Aa<|Ap I<|Aw (u:=vI (-1)) p0 func117 I (.cons (.tmp I) .nil) I<|Ac (FV.geq (i:=(-1)) (j:=0) I I)<|Af I<|Aa<|Ap I<|Aw (u:=.bool (decide (0<=(-1)))) j0 func84 I (.cons (.tmp I) .nil) I<|Bo I I<|Ab I<|BD (s:=25) I h (fun G0 h=>?_) (fun G0 h=>?_)
 refine Aj<|Aj<|Aj<|Bm I I<|Ab I<|Aj<|Aj<|Aj<|Bm I I<|Ab I<|Aj<|Aj<|Aj<|Bm I I<|Ab I<|Aj<|Aj<|Aj<|Aj<|Aj<|Bm I I<|Aa<|Ba I<|Ae<|Af I<|Aa<|Ap I<|AV hb0 func49 I I ?_
 cases h
 exact b0.gv
 refine RG.fg 3 I<|Au (Ay I ((b0.memA .hd) 3 _ I))<|Au (BR (i:=a1.fc) (j:=1) I I)<|Bo I I<|Ab I<|BD (s:=30) I h (fun H0 h=>?_) (fun H0 h=>?_)
 refine Aj<|Aj<|Aj<|Bm I I<|Ab I<|Aj<|Aj<|Aj<|Bm I I<|Ab I<|Aj<|Aj<|Aj<|Aj<|Aj<|Bm I I<|Aa<|Ba I<|Ae<|Af I<|Aa<|Ap I<|AV hb0 func49 I I ?_
 cases h
 exact b0.gv
 refine RG.fg 3 I<|Au (Ay I ((b0.memA .hd) 3 _ I))<|Au (FV.gtr (i:=a1.fc) (j:=8) I I)<|Bo I I<|Ab I<|BD (s:=35) I h (fun I0 h=>?_) (fun I0 h=>?_)
 refine Aj<|Aj<|Aj<|Bm I I<|Ab I<|Aj<|Aj<|Aj<|Aj<|Aj<|Bm I I<|Aa<|Ba I<|Ae<|Af I<|Aa<|Ap I<|AV hb0 func49 I I ?_
 cases h
 exact b0.gv
 refine RG.fg 1 I<|Au (Ay I ((b0.memA .hd) 1 _ I))<|Au (BR (i:=a1.fm) (j:=0) I I)<|Bo I I<|Ab I<|BD (s:=40) I h (fun J0 h=>?_) (fun J0 h=>?_)
 refine Aj<|Aj<|Aj<|Aj<|Aj<|Bm I I<|Aa<|Ba I<|Ae<|Af I<|Aa<|Ap I<|AV hb0 func49 I I ?_
 cases h
 exact b0.gv
 refine RG.fg 2 I<|Au (Ay I ((b0.memA .hd) 2 _ I))<|RG.fg 1 I<|Au (Ay I ((b0.memA .hd) 1 _ I))<|Au (BR (i:=a1.fh) (j:=a1.fm) I I)<|Bo I I<|Aa<|AO I h (fun K0 h=>?_) (fun K0 h=>?_)
 refine Ae<|Af I<|Aa<|Ap I<|AV hb0 func49 I I ?_
 cases h
 exact b0.gv
 refine Am<|Ae<|Af I<|Aa<|Ap I<|AV hb0 func49 I I ?_
 cases h
 exact b0.gv
 refine Aj<|Aj<|Aj<|Bm I I<|Ab I<|Aj<|Aj<|Aj<|Bm I I<|Ab I<|Aj<|Aj<|Aj<|Bm I I<|Ab I<|Aj<|Aj<|Aj<|Bm I I<|Ab I<|Aj<|Aj<|Aj<|Aj<|Aj<|Bm I I<|Aa<|Ba I<|Ae<|Af I<|Aa<|Ap I<|AV hb0 func49 I I ?_
 cases h
 exact c0.gv
 refine Ae<|Ab I<|Af I<|Aa<|Ap I<|AV hb0 func49 I I ?_
 cases h
 exact c0.gv
def bA_p (n:Nat) (a0:Ua):Oa Int:=
  (aj_p n a0).bind fun y1=>some y1
theorem bA_c (n:Nat) {L w} (hL:hl L w) (a0:Ua) (hG0:Glob 0 tab0 w)  {r:Int} (h:bA_p n a0=some r) :
 Cl 50 #[vU a0] w (aj w fun _ u=>u=vI r):=by
 unfold bA_p at h
 have hS0:=AI w
 refine AJ func50 I I I fun _ cs0 hb0=>Ae<|Af I<|Aa<|Ai<|Bn I<|Am<|Ae<|Ab I<|bk h fun y1 hy1 h=>Bz (vI y1) (bd 51) I (e1 I) (fun p q=>aj_c n (hS0.hL0 hL q) a0 (hG0.keep (hS0.ag.trans q)) hy1) I<|Af I<|Aa<|Ap I<|AV hb0 func50 I I ?_
 cases h
 exact hS0.gv
theorem cA_c (_n:Nat) {L w} (_hL:hl L w) (a0:Ua)  :
 Cl 53 #[vU a0] w (aj w fun w' u=>∃ b0:Nat,u=.func (.func 87) #[] #[vP b0]/\St w w' [.cells b0 [vU a0] 44]):=by
 refine AJ func53 I I I fun _ cs0 hb0=>Ae<|RG.bx (AI w) I I fun g0 b0 c0 d0=>Af I<|Aa<|Ae<|Ac (FV.makeFunc (vs:=[]) (us:=[vP b0]) aB (e1 I))<|Af I<|Aa<|Ap I<|Aw (u:=.func (.func 87) #[] #[vP b0]) hb0 func53 I (.cons (.tmp I) .nil) I<|⟨c0.ag,fun p q=>⟨b0,I,c0.agree q⟩⟩
end Go.Proofs.YtkimkkgicmipbaaGreatDoor
