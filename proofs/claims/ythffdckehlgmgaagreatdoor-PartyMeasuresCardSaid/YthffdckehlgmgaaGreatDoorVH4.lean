import Derived.Test.YthffdckehlgmgaaGreatDoorVH2
namespace Go.Proofs.YthffdckehlgmgaaGreatDoor
open Go Go.RowKit Tryz
set_option maxRecDepth 4000
set_option maxHeartbeats 4000000

def cd_p (n:Nat) (a0:Ti) (a1:Ti):Oa (Ti × Ti):=
  (aP_p n a0.fo a1.fo).bind fun c0=>(ay_p n (!(a0.fe == a1.fe)) c0.1).bind fun d0=>(ay_p n a0.fe c0.2).bind fun b0=>(if b0.fe = true then (bR_p n b0 (⟨false,a1.fo⟩:Ti)).bind fun j0=>(bR_p n d0 (⟨(!a1.fe),([(1:Ua)]:List Ua)⟩:Ti)).bind fun g0=>some (g0,j0) else some (d0,b0))
theorem cd_c (n:Nat) {L w} (hL:hl L w) (a0:Ti) {v0_1:Vc} (h0_1:Rep.R w L [v0_1] a0.fo) (a1:Ti) {v1_1:Vc} (h1_1:Rep.R w L [v1_1] a1.fo)  {r:Ti × Ti} (h:cd_p n a0 a1 = some r) :
 Cl 159 #[.agg #[.bool a0.fe,v0_1],.agg #[.bool a1.fe,v1_1]] w (ae w fun w' u=>∃ v0_1 v1_1:Vc,u = .tuple #[.agg #[.bool r.1.fe,v0_1],.agg #[.bool r.2.fe,v1_1]]/\Rep.R w' L [v0_1] r.1.fo/\Rep.R w' L [v1_1] r.2.fo):=by
 unfold cd_p at h
 refine AF func159 I I I fun _ cs0 hb0=>Af<|RG.bx (AA w) I I fun x3 R2 K1 X2=>RG.bx K1 I I fun B3 U2 R1 Y2=>RG.nl [.bool false,vN] R1 fun C3 J0 U1 Z2=>RG.nl [.bool false,vN] U1 fun E3 K0 p0 b3=>Aa<|Af<|Bd 1 I<|AR I ((p0.memA .t3) 1 _ I)<|Bd 1 I<|AR I ((p0.memA .t2) 1 _ I)<|bk h fun W3 G2 h=>jE (bd 188) I (e2 I I) (fun w9 hw9=>aP_c n (p0.hL hL hw9) (p0.km h0_1 hw9) (p0.km h1_1 hw9) G2) I fun F3 k3 u2 ⟨d3,g3,hu_,C2,D2⟩=>?_
 subst hu_
 obtain ⟨D0,c3⟩:=p0.agr u2
 refine Ae I<|Ac (Ak I I)<|Ac (Ak I I)<|Ag I<|Ag I<|Aa<|Aj<|du 11 fun b0 d0=>Rv 0 b0 I d0 (fun _=>Bi 0 I)<|Rx 1 7248 b0 I d0 (AP I ((D0.memA .t3) 0 _ I))<|Rv 2 b0 I d0 (fun _=>Bi 0 I)<|Rx 3 7248 b0 I d0 (AP I ((D0.memA .t2) 0 _ I))<|Rv 4 b0 I d0 (fun _=>FV.neqB (a:=a0.fe) (b:=a1.fe) underlying4 I I)<|Rv 5 b0 I d0 (fun _=>Ai I)<|Rv 7 b0 I d0 (fun _=>Bi 0 I)<|Rx 8 7168 b0 I d0 (AP I ((D0.memA .t3) 0 _ I))<|Rv 9 b0 I d0 (fun _=>Ai I)<|bk h fun x0 H2 h=>Bs 6 1023 b0 I .plain (bd 148) I (e2 I I) (fun w9 hw9=>ay_c n (D0.hL hL hw9) (Aw C2 hw9) H2) I fun G3 p3 v2 ⟨t0,hu_,G0⟩=>?_
 subst hu_
 obtain ⟨s1,p2⟩:=D0.agr v2
 refine bk h fun y0 I2 h=>Bs 10 2047 b0 I .plain (bd 148) I (e2 I I) (fun w9 hw9=>ay_c n (s1.hL hL hw9) (Aw (Ao D2 p2) hw9) I2) I fun H3 q3 x2 ⟨u0,hu_,X0⟩=>?_
 subst hu_
 obtain ⟨Y1,F0⟩:=s1.agr x2
 refine BG 11 4095 b0 I I .plain (AE (news:=[.bool x0.fe,t0]) Y1 .t1 I I I I I I (o2 I (AY (Ao G0 F0)))) fun I3 Z1 k0=>BG 12 8191 b0 I I .plain (AE (news:=[.bool y0.fe,u0]) Z1 .hd I I I I I I (o2 I (AY (Ao X0 k0)))) fun J3 c0 q0=>AN (dk b0)<|Aj<|Af<|Bd 0 I<|AR I ((c0.memA .hd) 0 _ I)<|Aa<|MX.ifb I h (fun I1 h=>?_) (fun I1 h=>?_)
 refine Af<|Bd 1 I<|AR I ((c0.memA .t2) 1 _ I) ?_
 obtain ⟨P2,W2,E2,_⟩:=BR (AT h1_1 c0)
 refine Ac (AS (vs:=[v1_1]) (u:=.agg #[.bool false,v1_1]) (e1 I) (fun w9=>by rw [E2]; try kernel_rfl))<|RG.nl [.bool false,vN] c0 fun K3 V2 u1 C1=>AV [.bool false,v1_1] u1 .hd (o2 I (AY (AT h1_1 u1))) fun M3 E0 D1=>Aa<|Af<|Ac (AH I (E0.memA .t1))<|Ac (AH I (E0.memA .hd))<|bk h fun I0 J2 h=>jE (bd 175) I (e2 I I) (fun w9 hw9=>bR_c n (E0.hL hL hw9) y0 (Aw (Ao X0 (Tt k0 (Tt q0 (Tt C1 D1)))) hw9) (⟨false,a1.fo⟩:Ti) (E0.km h1_1 hw9) J2) I fun P3 s3 y2 ⟨v0,hu_,j1⟩=>?_
 subst hu_
 obtain ⟨b2,q2⟩:=E0.agr y2
 refine AV [.bool I0.fe,v0] b2 .t1 (o2 I (AY j1)) fun Q3 v1 d1=>Aa<|Af<|Bd 0 I<|AR I ((v1.memA .t3) 0 _ I)<|Ac (Bu I)<|Al .plain I (jA ((1:Ua)) (vW 1) v1 cN (e1 I)) fun R3 M0 x1 g1=>Ac (AS (vs:=[.bool (!a1.fe),(vS M0 1)]) (u:=.agg #[.bool (!a1.fe),(vS M0 1)]) (e2 I I) (fun w9=>by kernel_rfl))<|RG.nl [.bool false,vN] x1 fun u3 Q2 q1 R0=>AV [.bool (!a1.fe),(vS M0 1)] q1 .hd (o2 I (St.o1 (α:=Ua) q1 .t1)) fun v3 z0 U0=>Aa<|Ap<|Ac (AH I (z0.memA .t4))<|Ac (AH I (z0.memA .hd)) ?_
 have Y0:=BA z0 .t1
 have Z0:=BB z0 .t1
 refine bk h fun H0 F2 h=>jE (bd 175) I (e2 I I) (fun w9 hw9=>bR_c n (Y0.hL hL hw9) x0 (Aw (Ao G0 (Tt F0 (Tt k0 (Tt q0 (Tt C1 (Tt D1 (Tt q2 (Tt d1 (Tt g1 (Tt R0 (Tt U0 Z0))))))))))) hw9) (⟨(!a1.fe),([(1:Ua)]:List Ua)⟩:Ti) (Aw (BC (α:=Ua) (v:=(vS M0 1)) (xs:=([(1:Ua)]:List Ua)) Y0 L (Bg (α:=Ua) z0 .t1 (AB (jC ((1:Ua)) (vW 1) x1 L I) (Tt R0 U0)) hL)) hw9) F2) I fun y3 j3 s2 ⟨s0,hu_,W0⟩=>?_
 subst hu_
 obtain ⟨J1,y1⟩:=Y0.agr s2
 refine AV [.bool H0.fe,s0] J1 .t3 (o2 I (AY W0)) fun z3 A0 V0=>Aa<|Aj<|du 2 fun g0 G1=>Rx 0 12 g0 I G1 (AH I (A0.memA .t3))<|RD.mo (α:=Unit) (fun ()=>[(4,vP J0),(5,vP K0),(46,.agg #[.bool I0.fe,v0])]) (fun ()=>[.cells K0 [.bool I0.fe,v0] 130,.cells J0 [.bool H0.fe,s0] 130]) A0 1 7 ?_ ?_
 rintro ⟨⟩ U3 M1 z1
 try dsimp only
 refine BG 3 15 g0 I I .plain (AE (news:=[.bool I0.fe,v0]) M1 .hd I I I I I I (o2 I (AY (Ao j1 (Tt d1 (Tt g1 (Tt R0 (Tt U0 (Tt Z0 (Tt y1 (Tt V0 z1))))))))))) fun A3 B0 c2=>AN (dk g0)<|Am I<|Au hb0 func159 I (.cons (.many (cs:=[.bool H0.fe,s0]) I I (B0.memA .t1)) (.cons (.many (cs:=[.bool I0.fe,v0]) I I (B0.memA .hd)) .nil)) I ?_
 cases h
 have E1:=Tt V0 (Tt z1 c2)
 exact ⟨B0.ag,fun w9 hw9=>⟨s0,v0,I,B0.kd (Ao W0 E1) hw9,B0.kd (Ao j1 (Tt d1 (Tt g1 (Tt R0 (Tt U0 (Tt Z0 (Tt y1 E1))))))) hw9⟩⟩
 intro k1
 refine Bz [1,2] (rk g0) ⟨?_,?_,trivial⟩
 refine RO.val (m' :=3) (sk g0) I .plain I (AH I (A0.memA .t2)) ?_
 have A2:=Ao W0 V0
 refine BG 2 7 g0 I I .plain (AE (news:=[.bool H0.fe,s0]) A0 .t3 I I I I I I (o2 I (AY A2))) fun M2 Q0 c1=>?_
 obtain ⟨P1,d2⟩:=AK Q0 (.a2 (.a2 .done))
 exact k1 () P1 (Tt c1 d2)
 refine RO.now (m' :=5) (sk g0) I I .plain (AE (news:=[.bool H0.fe,s0]) A0 .t3 I I I I I I (o2 I (AY (Ao W0 V0)))) fun M2 Q0 c1=>Rx 1 8 g0 I G1 (AH I (Q0.memA .t2)) ?_
 obtain ⟨Q1,g2⟩:=AK Q0 (.a2 (.a2 .done))
 exact k1 () Q1 (Tt c1 g2)
 refine Ar<|Aj<|du 2 fun j0 H1=>Rx 0 12 j0 I H1 (AH I (c0.memA .t1))<|RD.mo (α:=Unit) (fun ()=>[(4,vP J0),(5,vP K0),(46,.agg #[.bool y0.fe,u0])]) (fun ()=>[.cells K0 [.bool y0.fe,u0] 130,.cells J0 [.bool x0.fe,t0] 130]) c0 1 7 ?_ ?_
 rintro ⟨⟩ V3 V1 A1
 try dsimp only
 have F1:=Tt k0 (Tt q0 A1)
 refine BG 3 15 j0 I I .plain (AE (news:=[.bool y0.fe,u0]) V1 .hd I I I I I I (o2 I (AY (Ao X0 F1)))) fun D3 C0 B1=>AN (dk j0)<|Am I<|Au hb0 func159 I (.cons (.many (cs:=[.bool x0.fe,t0]) I I (C0.memA .t1)) (.cons (.many (cs:=[.bool y0.fe,u0]) I I (C0.memA .hd)) .nil)) I ?_
 cases h
 exact ⟨C0.ag,fun w9 hw9=>⟨t0,u0,I,C0.kd (Ao G0 (Tt F0 (Tt k0 (Tt q0 (Tt A1 B1))))) hw9,C0.kd (Ao X0 (Tt F1 B1)) hw9⟩⟩
 intro p1
 refine Bz [1,2] (rk j0) ⟨?_,?_,trivial⟩
 refine RO.val (m' :=3) (sk j0) I .plain I (AH I (c0.memA .hd)) ?_
 have B2:=Tt F0 (Tt k0 q0)
 have z2:=Ao G0 B2
 refine BG 2 7 j0 I I .plain (AE (news:=[.bool x0.fe,t0]) c0 .t1 I I I I I I (o2 I (AY z2))) fun K2 P0 b1=>?_
 obtain ⟨W1,j2⟩:=AK P0 (.a0 (.a0 .done))
 exact p1 () W1 (Tt b1 j2)
 refine RO.now (m' :=5) (sk j0) I I .plain (AE (news:=[.bool x0.fe,t0]) c0 .t1 I I I I I I (o2 I (AY (Ao G0 (Tt F0 (Tt k0 q0)))))) fun K2 P0 b1=>Rx 1 8 j0 I H1 (AH I (P0.memA .hd)) ?_
 obtain ⟨X1,k2⟩:=AK P0 (.a0 (.a0 .done))
 exact p1 () X1 (Tt b1 k2)
def bC_p (n:Nat) (a0:Ti):Oa Ti:=
  (ay_p n (!a0.fe) a0.fo).bind fun b0=>some b0
theorem bC_c (n:Nat) {L w} (hL:hl L w) (a0:Ti) {v0_1:Vc} (h0_1:Rep.R w L [v0_1] a0.fo)  {r:Ti} (h:bC_p n a0 = some r) :
 Cl 160 #[.agg #[.bool a0.fe,v0_1]] w (ae w fun w' u=>∃ v0_1:Vc,u = .agg #[.bool r.fe,v0_1]/\Rep.R w' L [v0_1] r.fo):=by
 unfold bC_p at h
 refine AF func160 I I I fun _ cs0 hb0=>Af<|RG.bx (AA w) I I fun B0 u0 k0 x0=>RG.nl [.bool false,vN] k0 fun C0 v0 b0 y0=>Aa<|Af<|Bd 0 I<|AR I ((b0.memA .t1) 0 _ I)<|Ac (Bu I)<|Bd 1 I<|AR I ((b0.memA .t1) 1 _ I)<|bk h fun j0 t0 h=>jE (bd 148) I (e2 I I) (fun w9 hw9=>ay_c n (b0.hL hL hw9) (b0.km h0_1 hw9) t0) I fun D0 A0 s0 ⟨d0,hu_,g0⟩=>?_
 subst hu_
 obtain ⟨p0,z0⟩:=b0.agr s0
 refine AV [.bool j0.fe,d0] p0 .hd (o2 I (AY g0)) fun E0 c0 q0=>Aa<|Am I<|Au hb0 func160 I (.cons (.many (cs:=[.bool j0.fe,d0]) I I (c0.memA .hd)) .nil) I ?_
 cases h
 exact ⟨c0.ag,fun w9 hw9=>⟨d0,I,c0.kd (Ao g0 q0) hw9⟩⟩
structure Tj where
  fy:Ti
  fv:Ti
  deriving DecidableEq
instance:Rep Tj:=Rep.via (β:=Ti × Ti) fun x=>(x.fy,x.fv)
def cu_p (n:Nat) (a0:Ti) (a1:Ti):Oa Tj:=
  (aH_p n a0 a1).bind fun c0=>(cd_p n a0 c0).bind fun d0=>(cd_p n a1 c0).bind fun b0=>(if b0.1.fe = true then (bC_p n d0.1).bind fun g0=>(bC_p n b0.1).bind fun j0=>some (⟨g0,j0⟩:Tj) else some (⟨d0.1,b0.1⟩:Tj))
theorem cu_c (n:Nat) {L w} (hL:hl L w) (a0:Ti) {v0_1:Vc} (h0_1:Rep.R w L [v0_1] a0.fo) (a1:Ti) {v1_1:Vc} (h1_1:Rep.R w L [v1_1] a1.fo)  {r:Tj} (h:cu_p n a0 a1 = some r) :
 Cl 118 #[.agg #[.bool a0.fe,v0_1],.agg #[.bool a1.fe,v1_1]] w (ae w fun w' u=>∃ v0_1 v0_3:Vc,u = .agg #[.bool r.fy.fe,v0_1,.bool r.fv.fe,v0_3]/\Rep.R w' L [v0_1] r.fy.fo/\Rep.R w' L [v0_3] r.fv.fo):=by
 unfold cu_p at h
 refine AF func118 I I I fun _ cs0 hb0=>Af<|RG.bx (AA w) I I fun k3 D2 z1 U2=>RG.bx z1 I I fun x3 E2 C1 V2=>RG.nl [.bool false,vN,.bool false,vN] C1 fun y3 F2 j0 W2=>Aa<|Af<|Ac (AH I (j0.memA .t2))<|Ac (AH I (j0.memA .t1))<|bk h fun X0 q2 h=>jE (bd 158) I (e2 I I) (fun w9 hw9=>aH_c n (j0.hL hL hw9) a0 (j0.km h0_1 hw9) a1 (j0.km h1_1 hw9) q2) I fun z3 b3 W1 ⟨v2,hu_,W0⟩=>?_
 subst hu_
 obtain ⟨D1,X2⟩:=j0.agr W1
 refine RG.nl [.bool false,vN] D1 fun A3 G2 E1 J0=>AV [.bool X0.fe,v2] E1 .hd (o2 I (AY (Ao W0 J0))) fun B3 t0 d1=>Aa<|Af<|Ac (AH I (t0.memA .t3))<|Ac (AH I (t0.memA .hd))<|bk h fun d0 s2 h=>jE (bd 159) I (e2 I I) (fun w9 hw9=>cd_c n (t0.hL hL hw9) a0 (t0.km h0_1 hw9) X0 (Aw (Ao W0 (Tt J0 d1)) hw9) s2) I fun C3 c3 X1 ⟨q0,x2,hu_,F0,Z1⟩=>?_
 subst hu_
 obtain ⟨F1,R1⟩:=t0.agr X1
 refine Ae I<|Ac (Ak I I)<|Ac (Ak I I)<|RG.nl [.bool false,vN] F1 fun D3 H2 G1 K0=>RG.nl [.bool false,vN] G1 fun E3 I2 H1 M0=>AV [.bool d0.1.fe,q0] H1 .t1 (o2 I (AY (Ao F0 (Tt K0 M0)))) fun F3 I1 g1=>?_
 have R0:=Tt K0 (Tt M0 g1)
 refine AV [.bool d0.2.fe,x2] I1 .hd (o2 I (AY (Ao Z1 R0))) fun G3 u0 P0=>Aa<|Af<|Ac (AH I (u0.memA .t4))<|Ac (AH I (u0.memA .t2))<|bk h fun g0 u2 h=>jE (bd 159) I (e2 I I) (fun w9 hw9=>cd_c n (u0.hL hL hw9) a1 (u0.km h1_1 hw9) X0 (Aw (Ao W0 (Tt J0 (Tt d1 (Tt R1 (Tt K0 (Tt M0 (Tt g1 P0))))))) hw9) u2) I fun H3 d3 Y1 ⟨s0,y2,hu_,G0,b2⟩=>?_
 subst hu_
 obtain ⟨J1,j1⟩:=u0.agr Y1
 refine Ae I<|Ac (Ak I I)<|Ac (Ak I I)<|RG.nl [.bool false,vN] J1 fun I3 J2 K1 C0=>RG.nl [.bool false,vN] K1 fun J3 K2 M1 D0=>AV [.bool g0.1.fe,s0] M1 .t1 (o2 I (AY (Ao G0 (Tt C0 D0)))) fun K3 P1 Q0=>?_
 have E0:=Tt C0 (Tt D0 Q0)
 refine AV [.bool g0.2.fe,y2] P1 .hd (o2 I (AY (Ao b2 E0))) fun g3 b0 v0=>Aa<|Aj<|Af<|Bd 0 I<|AR I ((b0.memA .t1) 0 _ I)<|Aa<|MX.ifb I h (fun y1 h=>?_) (fun y1 h=>?_)
 refine du 4 fun c0 x1=>Rx 0 58 c0 I x1 (AH I (b0.memA .t3))<|Rx 2 56 c0 I x1 (AH I (b0.memA .t1))<|bk h fun x0 k2 h=>Bs 1 7 c0 I .plain (bd 160) I (e1 I) (fun w9 hw9=>bC_c n (b0.hL hL hw9) d0.1 (Aw (Ao F0 (Tt R0 (Tt P0 (Tt j1 (Tt C0 (Tt D0 (Tt Q0 v0))))))) hw9) k2) I fun j3 Y2 U1 ⟨k0,hu_,U0⟩=>?_
 subst hu_
 obtain ⟨Y0,Q1⟩:=b0.agr U1
 refine bk h fun y0 p2 h=>Bs 3 15 c0 I .plain (bd 160) I (e1 I) (fun w9 hw9=>bC_c n (Y0.hL hL hw9) g0.1 (Aw (Ao G0 (Tt E0 (Tt v0 Q1))) hw9) p2) I fun p3 Z2 V1 ⟨p0,hu_,V0⟩=>?_
 subst hu_
 obtain ⟨A1,Z0⟩:=Y0.agr V1
 refine BG 4 31 c0 I I .plain (AE (news:=[.bool x0.fe,k0]) A1 .t3 I I I I I I (o2 I (AY (Ao U0 Z0)))) fun q3 B1 B0=>BG 5 63 c0 I I .plain (AE (news:=[.bool y0.fe,p0]) B1 .t1 I I I I I I (o2 I (AY (Ao V0 B0)))) fun s3 H0 I0=>AN (dk c0)<|Af<|Ac (AH I (H0.memA .t3))<|Ac (AH I (H0.memA .t1)) ?_
 have u1:=Tt Z0 (Tt B0 I0)
 have k1:=Ao U0 u1
 obtain ⟨z2,M2,c2,_⟩:=BR k1
 have p1:=Ao V0 (Tt B0 I0)
 obtain ⟨A2,P2,d2,_⟩:=BR p1
 refine Ac (AS (vs:=[.agg #[.bool x0.fe,k0],.agg #[.bool y0.fe,p0]]) (u:=.agg #[.bool x0.fe,k0,.bool y0.fe,p0]) (e2 I I) (fun w9=>by rw [c2,d2]; try kernel_rfl))<|AV [.bool x0.fe,k0,.bool y0.fe,p0] H0 .t5 (o4 I (AY k1) I (AY p1)) fun u3 z0 b1=>Aa<|Am I<|Au hb0 func118 I (.cons (.many (cs:=[.bool x0.fe,k0,.bool y0.fe,p0]) I I (z0.memA .t5)) .nil) I ?_
 cases h
 exact ⟨z0.ag,fun w9 hw9=>⟨k0,p0,I,z0.kd (Ao U0 (Tt u1 b1)) hw9,z0.kd (Ao V0 (Tt B0 (Tt I0 b1))) hw9⟩⟩
 refine Ar<|Af<|Ac (AH I (b0.memA .t3))<|Ac (AH I (b0.memA .t1)) ?_
 have v1:=Tt R0 (Tt P0 (Tt j1 (Tt C0 (Tt D0 (Tt Q0 v0)))))
 have q1:=Ao F0 v1
 obtain ⟨B2,Q2,g2,_⟩:=BR q1
 have s1:=Ao G0 (Tt E0 v0)
 obtain ⟨C2,R2,j2,_⟩:=BR s1
 refine Ac (AS (vs:=[.agg #[.bool d0.1.fe,q0],.agg #[.bool g0.1.fe,s0]]) (u:=.agg #[.bool d0.1.fe,q0,.bool g0.1.fe,s0]) (e2 I I) (fun w9=>by rw [g2,j2]; try kernel_rfl))<|AV [.bool d0.1.fe,q0,.bool g0.1.fe,s0] b0 .t5 (o4 I (AY q1) I (AY s1)) fun v3 A0 c1=>Aa<|Am I<|Au hb0 func118 I (.cons (.many (cs:=[.bool d0.1.fe,q0,.bool g0.1.fe,s0]) I I (A0.memA .t5)) .nil) I ?_
 cases h
 exact ⟨A0.ag,fun w9 hw9=>⟨q0,s0,I,A0.kd (Ao F0 (Tt v1 c1)) hw9,A0.kd (Ao G0 (Tt E0 (Tt v0 c1))) hw9⟩⟩
def ao (x:U8):List Vc:=[vU x.1,vU x.2.1,vU x.2.2.1,vU x.2.2.2.1,vU x.2.2.2.2.1,vU x.2.2.2.2.2.1,vU x.2.2.2.2.2.2.1,vU x.2.2.2.2.2.2.2]
def bH_p (_n:Nat) (a0:U8) (a1:U8):Oa ((U8) × Ua):=
  (sub64 a0.1 a1.1 (0:Ua)).bind fun b0=>(sub64 a0.2.1 a1.2.1 b0.2).bind fun c0=>(sub64 a0.2.2.1 a1.2.2.1 c0.2).bind fun d0=>(sub64 a0.2.2.2.1 a1.2.2.2.1 d0.2).bind fun g0=>(sub64 a0.2.2.2.2.1 a1.2.2.2.2.1 g0.2).bind fun j0=>(sub64 a0.2.2.2.2.2.1 a1.2.2.2.2.2.1 j0.2).bind fun k0=>(sub64 a0.2.2.2.2.2.2.1 a1.2.2.2.2.2.2.1 k0.2).bind fun p0=>(sub64 a0.2.2.2.2.2.2.2 a1.2.2.2.2.2.2.2 p0.2).bind fun q0=>some ((b0.1,c0.1,d0.1,g0.1,j0.1,k0.1,p0.1,q0.1),q0.2)
theorem bH_c (n:Nat) {L w} (_hL:hl L w) (a0:U8) (a1:U8)  {r:(U8) × Ua} (h:bH_p n a0 a1 = some r) :
 Cl 189 #[.agg ((ao a0)).toArray,.agg ((ao a1)).toArray] w (ae w fun _ u=>u = .tuple #[.agg ((ao r.1)).toArray,vU r.2]):=by
 unfold bH_p at h
 refine AF func189 I I I fun _ cs0 hb0=>Af<|RG.bx (AA w) I I fun J1 s1 Y0 x1=>RG.bx Y0 I I fun K1 u1 Z0 y1=>RG.nl zP Z0 fun M1 v1 J0 z1=>Ag I<|Aa<|Af<|Ag I<|Aa<|Aj<|Af<|Ae I<|Aa<|Ax<|MX.loop1<|Af<|Ac (Bp (i:=0) (j:=8) I I)<|Aa<|Aj<|Bq I<|Ar<|Aj<|Ax<|Af<|Ae I<|Ag I<|Aa<|du 13 fun d0 v0=>Rv 0 d0 I v0 (fun _=>Ai I)<|Rv 1 d0 I v0 (fun _=>Ai I)<|Rv 2 d0 I v0 (fun _=>AO (m:=1) (k:=0) (len:=8) I I I I (by omega))<|Rx 3 32512 d0 I v0 (AP I ((J0.memA .t2) 0 _ I))<|Rv 4 d0 I v0 (fun _=>Ai I)<|Rv 5 d0 I v0 (fun _=>AO (m:=1) (k:=0) (len:=8) I I I I (by omega))<|Rx 6 32512 d0 I v0 (AP I ((J0.memA .t1) 0 _ I))<|Rv 7 d0 I v0 (fun _=>Ai I)<|bk h fun b0 b1 h=>Rv 8 d0 I v0 (fun _=>FV.sub64 (a:=a0.1) (b:=a1.1) (c:=(0:Ua)) func204 I I I I I I I b1)<|Rv 9 d0 I v0 (fun _=>Ai I)<|Rv 10 d0 I v0 (fun _=>Ak I I) ?_
 refine Rv 11 d0 I v0 (fun _=>Ak I I)<|Rv 12 d0 I v0 (fun _=>AO (m:=1) (k:=0) (len:=8) I I I I (by omega))<|BG 13 16383 d0 I I .plain (BT (j:=0) (old:=(ao a0)) (news:=[vU b0.1]) (new' :=[vU b0.1,vU a0.2.1,vU a0.2.2.1,vU a0.2.2.2.1,vU a0.2.2.2.2.1,vU a0.2.2.2.2.2.1,vU a0.2.2.2.2.2.2.1,vU a0.2.2.2.2.2.2.2]) J0 .t2 I I I I I I (o1 I) I) fun P1 K0 A1=>Rv 14 d0 I v0 (fun _=>Be I)<|AN (dk d0)<|AC<|Ap<|Ac (FV.add (i:=0) (j:=1) (r:=1) I I (by decide))<|Ae I<|Aa<|MX.again1<|Af<|Ac (Bp (i:=1) (j:=8) I I)<|Aa<|Aj<|Bq I<|Ar<|Aj<|Ax<|Af<|Ae I<|Ag I<|Aa<|du 13 fun g0 x0=>Rv 0 g0 I x0 (fun _=>Ai I)<|Rv 1 g0 I x0 (fun _=>Ai I)<|Rv 2 g0 I x0 (fun _=>AO (m:=1) (k:=1) (len:=8) I I I I (by omega))<|Rx 3 32512 g0 I x0 (AP I ((K0.memA .t2) 1 _ I))<|Rv 4 g0 I x0 (fun _=>Ai I)<|Rv 5 g0 I x0 (fun _=>AO (m:=1) (k:=1) (len:=8) I I I I (by omega))<|Rx 6 32512 g0 I x0 (AP I ((K0.memA .t1) 1 _ I))<|Rv 7 g0 I x0 (fun _=>Ai I)<|bk h fun c0 c1 h=>Rv 8 g0 I x0 (fun _=>FV.sub64 (a:=a0.2.1) (b:=a1.2.1) (c:=b0.2) func204 I I I I I I I c1)<|Rv 9 g0 I x0 (fun _=>Ai I)<|Rv 10 g0 I x0 (fun _=>Ak I I)<|Rv 11 g0 I x0 (fun _=>Ak I I)<|Rv 12 g0 I x0 (fun _=>AO (m:=1) (k:=1) (len:=8) I I I I (by omega))<|BG 13 16383 g0 I I .plain (BT (j:=1) (old:=[vU b0.1,vU a0.2.1,vU a0.2.2.1,vU a0.2.2.2.1,vU a0.2.2.2.2.1,vU a0.2.2.2.2.2.1,vU a0.2.2.2.2.2.2.1,vU a0.2.2.2.2.2.2.2]) (news:=[vU c0.1]) (new' :=[vU b0.1,vU c0.1,vU a0.2.2.1,vU a0.2.2.2.1,vU a0.2.2.2.2.1,vU a0.2.2.2.2.2.1,vU a0.2.2.2.2.2.2.1,vU a0.2.2.2.2.2.2.2]) K0 .t2 I I I I I I (o1 I) I) fun Q1 M0 B1=>Rv 14 g0 I x0 (fun _=>Be I)<|AN (dk g0)<|AC<|Ap<|Ac (FV.add (i:=1) (j:=1) (r:=2) I I (by decide))<|Ae I<|Aa<|MX.again1<|Af<|Ac (Bp (i:=2) (j:=8) I I)<|Aa<|Aj ?_
 refine Bq I<|Ar<|Aj<|Ax<|Af<|Ae I<|Ag I<|Aa<|du 13 fun j0 y0=>Rv 0 j0 I y0 (fun _=>Ai I)<|Rv 1 j0 I y0 (fun _=>Ai I)<|Rv 2 j0 I y0 (fun _=>AO (m:=1) (k:=2) (len:=8) I I I I (by omega))<|Rx 3 32512 j0 I y0 (AP I ((M0.memA .t2) 2 _ I))<|Rv 4 j0 I y0 (fun _=>Ai I)<|Rv 5 j0 I y0 (fun _=>AO (m:=1) (k:=2) (len:=8) I I I I (by omega))<|Rx 6 32512 j0 I y0 (AP I ((M0.memA .t1) 2 _ I))<|Rv 7 j0 I y0 (fun _=>Ai I)<|bk h fun u0 d1 h=>Rv 8 j0 I y0 (fun _=>FV.sub64 (a:=a0.2.2.1) (b:=a1.2.2.1) (c:=c0.2) func204 I I I I I I I d1)<|Rv 9 j0 I y0 (fun _=>Ai I)<|Rv 10 j0 I y0 (fun _=>Ak I I)<|Rv 11 j0 I y0 (fun _=>Ak I I)<|Rv 12 j0 I y0 (fun _=>AO (m:=1) (k:=2) (len:=8) I I I I (by omega))<|BG 13 16383 j0 I I .plain (BT (j:=2) (old:=[vU b0.1,vU c0.1,vU a0.2.2.1,vU a0.2.2.2.1,vU a0.2.2.2.2.1,vU a0.2.2.2.2.2.1,vU a0.2.2.2.2.2.2.1,vU a0.2.2.2.2.2.2.2]) (news:=[vU u0.1]) (new' :=[vU b0.1,vU c0.1,vU u0.1,vU a0.2.2.2.1,vU a0.2.2.2.2.1,vU a0.2.2.2.2.2.1,vU a0.2.2.2.2.2.2.1,vU a0.2.2.2.2.2.2.2]) M0 .t2 I I I I I I (o1 I) I) fun R1 P0 C1=>Rv 14 j0 I y0 (fun _=>Be I)<|AN (dk j0)<|AC<|Ap<|Ac (FV.add (i:=2) (j:=1) (r:=3) I I (by decide))<|Ae I<|Aa<|MX.again1<|Af<|Ac (Bp (i:=3) (j:=8) I I)<|Aa<|Aj<|Bq I<|Ar<|Aj<|Ax<|Af<|Ae I<|Ag I<|Aa<|du 13 fun k0 z0=>Rv 0 k0 I z0 (fun _=>Ai I)<|Rv 1 k0 I z0 (fun _=>Ai I)<|Rv 2 k0 I z0 (fun _=>AO (m:=1) (k:=3) (len:=8) I I I I (by omega))<|Rx 3 32512 k0 I z0 (AP I ((P0.memA .t2) 3 _ I))<|Rv 4 k0 I z0 (fun _=>Ai I)<|Rv 5 k0 I z0 (fun _=>AO (m:=1) (k:=3) (len:=8) I I I I (by omega)) ?_
 refine Rx 6 32512 k0 I z0 (AP I ((P0.memA .t1) 3 _ I))<|Rv 7 k0 I z0 (fun _=>Ai I)<|bk h fun E0 g1 h=>Rv 8 k0 I z0 (fun _=>FV.sub64 (a:=a0.2.2.2.1) (b:=a1.2.2.2.1) (c:=u0.2) func204 I I I I I I I g1)<|Rv 9 k0 I z0 (fun _=>Ai I)<|Rv 10 k0 I z0 (fun _=>Ak I I)<|Rv 11 k0 I z0 (fun _=>Ak I I)<|Rv 12 k0 I z0 (fun _=>AO (m:=1) (k:=3) (len:=8) I I I I (by omega))<|BG 13 16383 k0 I I .plain (BT (j:=3) (old:=[vU b0.1,vU c0.1,vU u0.1,vU a0.2.2.2.1,vU a0.2.2.2.2.1,vU a0.2.2.2.2.2.1,vU a0.2.2.2.2.2.2.1,vU a0.2.2.2.2.2.2.2]) (news:=[vU E0.1]) (new' :=[vU b0.1,vU c0.1,vU u0.1,vU E0.1,vU a0.2.2.2.2.1,vU a0.2.2.2.2.2.1,vU a0.2.2.2.2.2.2.1,vU a0.2.2.2.2.2.2.2]) P0 .t2 I I I I I I (o1 I) I) fun U1 Q0 D1=>Rv 14 k0 I z0 (fun _=>Be I)<|AN (dk k0)<|AC<|Ap<|Ac (FV.add (i:=3) (j:=1) (r:=4) I I (by decide))<|Ae I<|Aa<|MX.again1<|Af<|Ac (Bp (i:=4) (j:=8) I I)<|Aa<|Aj<|Bq I<|Ar<|Aj<|Ax<|Af<|Ae I<|Ag I<|Aa<|du 13 fun p0 A0=>Rv 0 p0 I A0 (fun _=>Ai I)<|Rv 1 p0 I A0 (fun _=>Ai I)<|Rv 2 p0 I A0 (fun _=>AO (m:=1) (k:=4) (len:=8) I I I I (by omega))<|Rx 3 32512 p0 I A0 (AP I ((Q0.memA .t2) 4 _ I))<|Rv 4 p0 I A0 (fun _=>Ai I)<|Rv 5 p0 I A0 (fun _=>AO (m:=1) (k:=4) (len:=8) I I I I (by omega))<|Rx 6 32512 p0 I A0 (AP I ((Q0.memA .t1) 4 _ I))<|Rv 7 p0 I A0 (fun _=>Ai I)<|bk h fun F0 j1 h=>Rv 8 p0 I A0 (fun _=>FV.sub64 (a:=a0.2.2.2.2.1) (b:=a1.2.2.2.2.1) (c:=E0.2) func204 I I I I I I I j1)<|Rv 9 p0 I A0 (fun _=>Ai I)<|Rv 10 p0 I A0 (fun _=>Ak I I)<|Rv 11 p0 I A0 (fun _=>Ak I I)<|Rv 12 p0 I A0 (fun _=>AO (m:=1) (k:=4) (len:=8) I I I I (by omega))<|BG 13 16383 p0 I I .plain (BT (j:=4) (old:=[vU b0.1,vU c0.1,vU u0.1,vU E0.1,vU a0.2.2.2.2.1,vU a0.2.2.2.2.2.1,vU a0.2.2.2.2.2.2.1,vU a0.2.2.2.2.2.2.2]) (news:=[vU F0.1]) (new' :=[vU b0.1,vU c0.1,vU u0.1,vU E0.1,vU F0.1,vU a0.2.2.2.2.2.1,vU a0.2.2.2.2.2.2.1,vU a0.2.2.2.2.2.2.2]) Q0 .t2 I I I I I I (o1 I) I) fun V1 R0 E1=>?_
 refine Rv 14 p0 I A0 (fun _=>Be I)<|AN (dk p0)<|AC<|Ap<|Ac (FV.add (i:=4) (j:=1) (r:=5) I I (by decide))<|Ae I<|Aa<|MX.again1<|Af<|Ac (Bp (i:=5) (j:=8) I I)<|Aa<|Aj<|Bq I<|Ar<|Aj<|Ax<|Af<|Ae I<|Ag I<|Aa<|du 13 fun q0 B0=>Rv 0 q0 I B0 (fun _=>Ai I)<|Rv 1 q0 I B0 (fun _=>Ai I)<|Rv 2 q0 I B0 (fun _=>AO (m:=1) (k:=5) (len:=8) I I I I (by omega))<|Rx 3 32512 q0 I B0 (AP I ((R0.memA .t2) 5 _ I))<|Rv 4 q0 I B0 (fun _=>Ai I)<|Rv 5 q0 I B0 (fun _=>AO (m:=1) (k:=5) (len:=8) I I I I (by omega))<|Rx 6 32512 q0 I B0 (AP I ((R0.memA .t1) 5 _ I))<|Rv 7 q0 I B0 (fun _=>Ai I)<|bk h fun G0 k1 h=>Rv 8 q0 I B0 (fun _=>FV.sub64 (a:=a0.2.2.2.2.2.1) (b:=a1.2.2.2.2.2.1) (c:=F0.2) func204 I I I I I I I k1)<|Rv 9 q0 I B0 (fun _=>Ai I)<|Rv 10 q0 I B0 (fun _=>Ak I I)<|Rv 11 q0 I B0 (fun _=>Ak I I)<|Rv 12 q0 I B0 (fun _=>AO (m:=1) (k:=5) (len:=8) I I I I (by omega))<|BG 13 16383 q0 I I .plain (BT (j:=5) (old:=[vU b0.1,vU c0.1,vU u0.1,vU E0.1,vU F0.1,vU a0.2.2.2.2.2.1,vU a0.2.2.2.2.2.2.1,vU a0.2.2.2.2.2.2.2]) (news:=[vU G0.1]) (new' :=[vU b0.1,vU c0.1,vU u0.1,vU E0.1,vU F0.1,vU G0.1,vU a0.2.2.2.2.2.2.1,vU a0.2.2.2.2.2.2.2]) R0 .t2 I I I I I I (o1 I) I) fun W1 U0 F1=>Rv 14 q0 I B0 (fun _=>Be I)<|AN (dk q0)<|AC<|Ap<|Ac (FV.add (i:=5) (j:=1) (r:=6) I I (by decide))<|Ae I<|Aa<|MX.again1<|Af<|Ac (Bp (i:=6) (j:=8) I I)<|Aa<|Aj<|Bq I<|Ar<|Aj<|Ax<|Af<|Ae I ?_
 refine Ag I<|Aa<|du 13 fun s0 C0=>Rv 0 s0 I C0 (fun _=>Ai I)<|Rv 1 s0 I C0 (fun _=>Ai I)<|Rv 2 s0 I C0 (fun _=>AO (m:=1) (k:=6) (len:=8) I I I I (by omega))<|Rx 3 32512 s0 I C0 (AP I ((U0.memA .t2) 6 _ I))<|Rv 4 s0 I C0 (fun _=>Ai I)<|Rv 5 s0 I C0 (fun _=>AO (m:=1) (k:=6) (len:=8) I I I I (by omega))<|Rx 6 32512 s0 I C0 (AP I ((U0.memA .t1) 6 _ I))<|Rv 7 s0 I C0 (fun _=>Ai I)<|bk h fun H0 p1 h=>Rv 8 s0 I C0 (fun _=>FV.sub64 (a:=a0.2.2.2.2.2.2.1) (b:=a1.2.2.2.2.2.2.1) (c:=G0.2) func204 I I I I I I I p1)<|Rv 9 s0 I C0 (fun _=>Ai I)<|Rv 10 s0 I C0 (fun _=>Ak I I)<|Rv 11 s0 I C0 (fun _=>Ak I I)<|Rv 12 s0 I C0 (fun _=>AO (m:=1) (k:=6) (len:=8) I I I I (by omega))<|BG 13 16383 s0 I I .plain (BT (j:=6) (old:=[vU b0.1,vU c0.1,vU u0.1,vU E0.1,vU F0.1,vU G0.1,vU a0.2.2.2.2.2.2.1,vU a0.2.2.2.2.2.2.2]) (news:=[vU H0.1]) (new' :=[vU b0.1,vU c0.1,vU u0.1,vU E0.1,vU F0.1,vU G0.1,vU H0.1,vU a0.2.2.2.2.2.2.2]) U0 .t2 I I I I I I (o1 I) I) fun X1 V0 G1=>Rv 14 s0 I C0 (fun _=>Be I)<|AN (dk s0)<|AC<|Ap<|Ac (FV.add (i:=6) (j:=1) (r:=7) I I (by decide))<|Ae I<|Aa<|MX.again1<|Af<|Ac (Bp (i:=7) (j:=8) I I)<|Aa<|Aj<|Bq I<|Ar<|Aj<|Ax<|Af<|Ae I<|Ag I<|Aa<|du 13 fun t0 D0=>Rv 0 t0 I D0 (fun _=>Ai I)<|Rv 1 t0 I D0 (fun _=>Ai I)<|Rv 2 t0 I D0 (fun _=>AO (m:=1) (k:=7) (len:=8) I I I I (by omega))<|Rx 3 32512 t0 I D0 (AP I ((V0.memA .t2) 7 _ I))<|Rv 4 t0 I D0 (fun _=>Ai I)<|Rv 5 t0 I D0 (fun _=>AO (m:=1) (k:=7) (len:=8) I I I I (by omega))<|Rx 6 32512 t0 I D0 (AP I ((V0.memA .t1) 7 _ I))<|Rv 7 t0 I D0 (fun _=>Ai I)<|bk h fun I0 q1 h=>Rv 8 t0 I D0 (fun _=>FV.sub64 (a:=a0.2.2.2.2.2.2.2) (b:=a1.2.2.2.2.2.2.2) (c:=H0.2) func204 I I I I I I I q1)<|Rv 9 t0 I D0 (fun _=>Ai I)<|Rv 10 t0 I D0 (fun _=>Ak I I) ?_
 refine Rv 11 t0 I D0 (fun _=>Ak I I)<|Rv 12 t0 I D0 (fun _=>AO (m:=1) (k:=7) (len:=8) I I I I (by omega))<|BG 13 16383 t0 I I .plain (BT (j:=7) (old:=[vU b0.1,vU c0.1,vU u0.1,vU E0.1,vU F0.1,vU G0.1,vU H0.1,vU a0.2.2.2.2.2.2.2]) (news:=[vU I0.1]) (new' :=[vU b0.1,vU c0.1,vU u0.1,vU E0.1,vU F0.1,vU G0.1,vU H0.1,vU I0.1]) V0 .t2 I I I I I I (o1 I) I) fun Y1 W0 H1=>Rv 14 t0 I D0 (fun _=>Be I)<|AN (dk t0)<|AC<|Ap<|Ac (FV.add (i:=7) (j:=1) (r:=8) I I (by decide))<|Ae I<|Aa<|MX.again1<|Af<|Ac (Bp (i:=8) (j:=8) I I)<|Aa<|Aj<|BF I<|AX I<|Af<|Ac (AH I (W0.memA .t2))<|Ae I<|AV [vU b0.1,vU c0.1,vU u0.1,vU E0.1,vU F0.1,vU G0.1,vU H0.1,vU I0.1] W0 .hd (ai I) fun Z1 X0 I1=>Ag I<|Aa<|Am I<|Au hb0 func189 I (.cons (.many (cs:=[vU b0.1,vU c0.1,vU u0.1,vU E0.1,vU F0.1,vU G0.1,vU H0.1,vU I0.1]) I I (X0.memA .hd)) (.cons (.tmp I) .nil)) I ?_
 cases h
 exact X0.gv
structure To where
  fe:Bool
  fm:U8
  deriving DecidableEq
instance:Rep To:=Rep.via (β:=Bool × (U8)) fun x=>(x.fe,x.fm)
def iu (x:To):List Vc:=[.bool x.fe,vU x.fm.1,vU x.fm.2.1,vU x.fm.2.2.1,vU x.fm.2.2.2.1,vU x.fm.2.2.2.2.1,vU x.fm.2.2.2.2.2.1,vU x.fm.2.2.2.2.2.2.1,vU x.fm.2.2.2.2.2.2.2]
def dQ_p (n:Nat) (a0:U8):Oa To:=
  (if (shrU a0.2.2.2.2.2.2.2 63) = (1:Ua) then (bH_p n (0,0,0,0,0,0,0,0) a0).bind fun b0=>some (⟨(decide ((shrU a0.2.2.2.2.2.2.2 63) = (1:Ua))),b0.1⟩:To) else some (⟨(decide ((shrU a0.2.2.2.2.2.2.2 63) = (1:Ua))),a0⟩:To))
theorem dQ_c (n:Nat) {L w} (hL:hl L w) (a0:U8)  {r:To} (h:dQ_p n a0 = some r) :
 Cl 161 #[.agg ((ao a0)).toArray] w (ae w fun _ u=>u = .agg ((iu r)).toArray):=by
 unfold dQ_p at h
 refine AF func161 I I I fun _ cs0 hb0=>Af<|RG.bx (AA w) I I fun F0 u0 q0 y0=>RG.nl [.bool false,vW 0,vW 0,vW 0,vW 0,vW 0,vW 0,vW 0,vW 0] q0 fun G0 v0 d0 z0=>Aa<|Af<|Ac (AO (m:=1) (k:=7) (len:=8) I I I I (by omega))<|AR I ((d0.memA .t1) 7 _ I)<|Ac (FV.shrU (a:=a0.2.2.2.2.2.2.2) (j:=63) I I)<|Ac (FV.eqlU (a:=shrU a0.2.2.2.2.2.2.2 63) (b:=(1:Ua)) I I)<|Ac (AH I (d0.memA .t1))<|Ac (AS (vs:=[.bool (decide ((shrU a0.2.2.2.2.2.2.2 63) = (1:Ua))),.agg ((ao a0)).toArray]) (u:=.agg ((([.bool (decide ((shrU a0.2.2.2.2.2.2.2 63) = (1:Ua)))]:List Vc) ++ ao a0)).toArray) (e2 I I) (fun w9=>by kernel_rfl))<|RG.nl [.bool false,vW 0,vW 0,vW 0,vW 0,vW 0,vW 0,vW 0,vW 0] d0 fun H0 x0 s0 A0=>AV (([.bool (decide ((shrU a0.2.2.2.2.2.2.2 63) = (1:Ua)))]:List Vc) ++ ao a0) s0 .hd (ai I) fun I0 b0 B0=>Aa<|Aj<|Af<|Bd 0 I<|AR I ((b0.memA .hd) 0 _ I)<|Aa<|AQ I h (fun p0 h=>?_) (fun p0 h=>?_)
 refine Ap<|Ac (AS (vs:=[]) (u:=.agg zQ) ak (fun w9=>by kernel_rfl))<|Bd 1 I<|Ac (Bk (cs:=(ao a0)) I I (ah (b0.memA .hd) 1 8))<|bk h fun c0 t0 h=>Bj (.tuple #[.agg ((ao c0.1)).toArray,vU c0.2]) (bd 189) I (e2 I I) (fun w9 hw9=>bH_c n (b0.hL0 hL hw9) (0,0,0,0,0,0,0,0) a0 t0) I<|Ae I<|Ac (Ak I I)<|Ac (Ak I I)<|Bd 1 I<|RG.now .plain (BT (j:=1) (old:=(([.bool (decide ((shrU a0.2.2.2.2.2.2.2 63) = (1:Ua)))]:List Vc) ++ ao a0)) (news:=(ao c0.1)) (new' :=(([.bool (decide ((shrU a0.2.2.2.2.2.2.2 63) = (1:Ua)))]:List Vc) ++ ao c0.1)) b0 .hd I I I I I I (ai I) I) fun J0 g0 C0=>Aa<|Af<|Ac (AH I (g0.memA .hd))<|AV (([.bool (decide ((shrU a0.2.2.2.2.2.2.2 63) = (1:Ua)))]:List Vc) ++ ao c0.1) g0 .t1 (ai I) fun K0 j0 D0=>Aa<|Am I<|Au hb0 func161 I (.cons (.many (cs:=(([.bool (decide ((shrU a0.2.2.2.2.2.2.2 63) = (1:Ua)))]:List Vc) ++ ao c0.1)) I I (j0.memA .t1)) .nil) I ?_
 cases h
 exact j0.gv
 refine Ar<|Af<|Ac (AH I (b0.memA .hd))<|AV (([.bool (decide ((shrU a0.2.2.2.2.2.2.2 63) = (1:Ua)))]:List Vc) ++ ao a0) b0 .t1 (ai I) fun M0 k0 E0=>Aa<|Am I<|Au hb0 func161 I (.cons (.many (cs:=(([.bool (decide ((shrU a0.2.2.2.2.2.2.2 63) = (1:Ua)))]:List Vc) ++ ao a0)) I I (k0.memA .t1)) .nil) I ?_
 cases h
 exact k0.gv
def bY_p (n:Nat) (a0:U8):Oa Ti:=
  (dQ_p n a0).bind fun b0=>(app ([]:List Ua) ([b0.fm.1,b0.fm.2.1,b0.fm.2.2.1,b0.fm.2.2.2.1,b0.fm.2.2.2.2.1,b0.fm.2.2.2.2.2.1,b0.fm.2.2.2.2.2.2.1,b0.fm.2.2.2.2.2.2.2]:List Ua)).bind fun c0=>(ay_p n b0.fe c0).bind fun d0=>some d0
theorem bY_c (n:Nat) {L w} (hL:hl L w) (a0:U8)  {r:Ti} (h:bY_p n a0 = some r) :
 Cl 119 #[.agg ((ao a0)).toArray] w (ae w fun w' u=>∃ v0_1:Vc,u = .agg #[.bool r.fe,v0_1]/\Rep.R w' L [v0_1] r.fo):=by
 unfold bY_p at h
 refine AF func119 I I I fun _ cs0 hb0=>Af<|RG.bx (AA w) I I fun D1 s1 W0 u1=>RG.nl [.bool false,vN] W0 fun G1 A0 F0 z1=>Aa<|Af<|Ac (AH I (F0.memA .t1))<|bk h fun b0 p1 h=>Bj (.agg ((iu b0)).toArray) (bd 161) I (e1 I) (fun w9 hw9=>dQ_c n (F0.hL0 hL hw9) a0 p1) I<|RG.nl [.bool false,vW 0,vW 0,vW 0,vW 0,vW 0,vW 0,vW 0,vW 0] F0 fun H1 U0 c1 A1=>AV (iu b0) c1 .hd (ai I) fun I1 u0 B1=>Aa<|Aj<|du 5 fun c0 y0=>Rv 0 c0 I y0 (fun _=>Bi 0 I)<|Rv 3 c0 I y0 (fun _=>Bi 1 I)<|Rx 4 224 c0 I y0 (FV.sliceA (len:=8) (m:=1) (p:=Addr.add ⟨U0,0,none⟩ 1) I I)<|bk h fun z0 G0 h=>RD.mf (α:=Vc × (List Vc)) (fun ⟨g0,j0⟩=>[(2,vP A0),(7,.bool b0.fe),(11,g0)]) (fun ⟨g0,j0⟩=>[rr w 44 Ua g0 z0.length j0,.cells A0 [.bool false,vN] 130]) (fun ⟨g0,j0⟩ Q0=>Cells Q0 (bl [rr w 44 Ua g0 z0.length j0,.cells A0 [.bool false,vN] 130] ++ L) j0 (z0:List Ua)) u0 2 63 ?_ ?_
 rintro ⟨g0,j0⟩ Q0 C0 v1 j1
 try dsimp only
 have D0:=BA C0 .hd
 have x1:=BB C0 .hd
 refine bk h fun R0 k1 h=>Bs 6 127 c0 I .plain (bd 148) I (e2 I I) (fun w9 hw9=>ay_c n (D0.hL hL hw9) (Aw (BC (α:=Ua) (v:=g0) (xs:=z0) D0 L (Bg (α:=Ua) C0 .hd j1 hL)) hw9) k1) I fun E1 C1 g1 ⟨H0,hu_,M0⟩=>?_
 subst hu_
 obtain ⟨X0,y1⟩:=D0.agr g1
 refine BG 7 255 c0 I I .plain (AE (news:=[.bool R0.fe,H0]) X0 .hd I I I I I I (o2 I (AY M0))) fun F1 E0 d1=>AN (dk c0)<|Am I<|Au hb0 func119 I (.cons (.many (cs:=[.bool R0.fe,H0]) I I (E0.memA .hd)) .nil) I ?_
 cases h
 exact ⟨E0.ag,fun w9 hw9=>⟨H0,I,E0.kd (Ao M0 d1) hw9⟩⟩
 intro B0
 refine Bz [1,2] (rk c0) ⟨?_,?_,trivial⟩
 refine RO.val (m' :=27) (sk c0) I .plain I (AP I ((u0.memA .hd) 0 _ I))<|BS 2 31 c0 I .plain I (jB Ua u0 cN) fun q1 V0 d0 v0=>?_
 have x0:=jD Ua d0 L
 refine BM (i:=5) (rk c0) (BI (m' :=63) (sk c0) I I .plain I (Bf (α:=Ua) (ys:=([b0.fm.1,b0.fm.2.1,b0.fm.2.2.1,b0.fm.2.2.2.1,b0.fm.2.2.2.2.1,b0.fm.2.2.2.2.2.1,b0.fm.2.2.2.2.2.2.1,b0.fm.2.2.2.2.2.2.2]:List Ua)) G0 d0 (fun _ _=>.hd) cN I I x0 (Src.arr (ds:=[vU b0.fm.1,vU b0.fm.2.1,vU b0.fm.2.2.1,vU b0.fm.2.2.2.1,vU b0.fm.2.2.2.2.1,vU b0.fm.2.2.2.2.2.1,vU b0.fm.2.2.2.2.2.2.1,vU b0.fm.2.2.2.2.2.2.2]) (ys:=([b0.fm.1,b0.fm.2.1,b0.fm.2.2.1,b0.fm.2.2.2.1,b0.fm.2.2.2.2.1,b0.fm.2.2.2.2.2.1,b0.fm.2.2.2.2.2.2.1,b0.fm.2.2.2.2.2.2.2]:List Ua)) (n:=8) (ah (d0.memA .t1) 1 8) (Av (cs:=[vU b0.fm.1]) (ds:=[vU b0.fm.2.1,vU b0.fm.2.2.1,vU b0.fm.2.2.2.1,vU b0.fm.2.2.2.2.1,vU b0.fm.2.2.2.2.2.1,vU b0.fm.2.2.2.2.2.2.1,vU b0.fm.2.2.2.2.2.2.2]) I (Av (cs:=[vU b0.fm.2.1]) (ds:=[vU b0.fm.2.2.1,vU b0.fm.2.2.2.1,vU b0.fm.2.2.2.2.1,vU b0.fm.2.2.2.2.2.1,vU b0.fm.2.2.2.2.2.2.1,vU b0.fm.2.2.2.2.2.2.2]) I (Av (cs:=[vU b0.fm.2.2.1]) (ds:=[vU b0.fm.2.2.2.1,vU b0.fm.2.2.2.2.1,vU b0.fm.2.2.2.2.2.1,vU b0.fm.2.2.2.2.2.2.1,vU b0.fm.2.2.2.2.2.2.2]) I (Av (cs:=[vU b0.fm.2.2.2.1]) (ds:=[vU b0.fm.2.2.2.2.1,vU b0.fm.2.2.2.2.2.1,vU b0.fm.2.2.2.2.2.2.1,vU b0.fm.2.2.2.2.2.2.2]) I (Av (cs:=[vU b0.fm.2.2.2.2.1]) (ds:=[vU b0.fm.2.2.2.2.2.1,vU b0.fm.2.2.2.2.2.2.1,vU b0.fm.2.2.2.2.2.2.2]) I (Av (cs:=[vU b0.fm.2.2.2.2.2.1]) (ds:=[vU b0.fm.2.2.2.2.2.2.1,vU b0.fm.2.2.2.2.2.2.2]) I (Av (cs:=[vU b0.fm.2.2.2.2.2.2.1]) (ds:=[vU b0.fm.2.2.2.2.2.2.2]) I (Av (cs:=[vU b0.fm.2.2.2.2.2.2.2]) (ds:=[]) I (AJ _ _))))))))) I)) (fun t0 P0 ⟨p0,k0,q0,s0⟩=>?_))
 obtain ⟨Y0,I0⟩:=AK k0 (.a0 (.a1 .done))
 exact B0 (t0,p0) Y0 (Tt v0 (Tt q0 I0)) (AB s0 I0)
 refine BH (m' :=29) (sk c0) I .plain I (jB Ua u0 cN) fun q1 V0 d0 v0=>?_
 have x0:=jD Ua d0 L
 refine Bz [1,5] (rk c0) ⟨?_,?_,trivial⟩
 refine RO.val (m' :=31) (sk c0) I .plain I (AP I ((d0.memA .t1) 0 _ I))<|BM (i:=5) (rk c0) (BI (m' :=63) (sk c0) I I .plain I (Bf (α:=Ua) (ys:=([b0.fm.1,b0.fm.2.1,b0.fm.2.2.1,b0.fm.2.2.2.1,b0.fm.2.2.2.2.1,b0.fm.2.2.2.2.2.1,b0.fm.2.2.2.2.2.2.1,b0.fm.2.2.2.2.2.2.2]:List Ua)) G0 d0 (fun _ _=>.hd) cN I I x0 (Src.arr (ds:=[vU b0.fm.1,vU b0.fm.2.1,vU b0.fm.2.2.1,vU b0.fm.2.2.2.1,vU b0.fm.2.2.2.2.1,vU b0.fm.2.2.2.2.2.1,vU b0.fm.2.2.2.2.2.2.1,vU b0.fm.2.2.2.2.2.2.2]) (ys:=([b0.fm.1,b0.fm.2.1,b0.fm.2.2.1,b0.fm.2.2.2.1,b0.fm.2.2.2.2.1,b0.fm.2.2.2.2.2.1,b0.fm.2.2.2.2.2.2.1,b0.fm.2.2.2.2.2.2.2]:List Ua)) (n:=8) (ah (d0.memA .t1) 1 8) (Av (cs:=[vU b0.fm.1]) (ds:=[vU b0.fm.2.1,vU b0.fm.2.2.1,vU b0.fm.2.2.2.1,vU b0.fm.2.2.2.2.1,vU b0.fm.2.2.2.2.2.1,vU b0.fm.2.2.2.2.2.2.1,vU b0.fm.2.2.2.2.2.2.2]) I (Av (cs:=[vU b0.fm.2.1]) (ds:=[vU b0.fm.2.2.1,vU b0.fm.2.2.2.1,vU b0.fm.2.2.2.2.1,vU b0.fm.2.2.2.2.2.1,vU b0.fm.2.2.2.2.2.2.1,vU b0.fm.2.2.2.2.2.2.2]) I (Av (cs:=[vU b0.fm.2.2.1]) (ds:=[vU b0.fm.2.2.2.1,vU b0.fm.2.2.2.2.1,vU b0.fm.2.2.2.2.2.1,vU b0.fm.2.2.2.2.2.2.1,vU b0.fm.2.2.2.2.2.2.2]) I (Av (cs:=[vU b0.fm.2.2.2.1]) (ds:=[vU b0.fm.2.2.2.2.1,vU b0.fm.2.2.2.2.2.1,vU b0.fm.2.2.2.2.2.2.1,vU b0.fm.2.2.2.2.2.2.2]) I (Av (cs:=[vU b0.fm.2.2.2.2.1]) (ds:=[vU b0.fm.2.2.2.2.2.1,vU b0.fm.2.2.2.2.2.2.1,vU b0.fm.2.2.2.2.2.2.2]) I (Av (cs:=[vU b0.fm.2.2.2.2.2.1]) (ds:=[vU b0.fm.2.2.2.2.2.2.1,vU b0.fm.2.2.2.2.2.2.2]) I (Av (cs:=[vU b0.fm.2.2.2.2.2.2.1]) (ds:=[vU b0.fm.2.2.2.2.2.2.2]) I (Av (cs:=[vU b0.fm.2.2.2.2.2.2.2]) (ds:=[]) I (AJ _ _))))))))) I)) (fun t0 P0 ⟨p0,k0,q0,s0⟩=>?_))
 obtain ⟨Z0,J0⟩:=AK k0 (.a0 (.a1 .done))
 exact B0 (t0,p0) Z0 (Tt v0 (Tt q0 J0)) (AB s0 J0)
 refine BI (m' :=61) (sk c0) I I .plain I (Bf (α:=Ua) (ys:=([b0.fm.1,b0.fm.2.1,b0.fm.2.2.1,b0.fm.2.2.2.1,b0.fm.2.2.2.2.1,b0.fm.2.2.2.2.2.1,b0.fm.2.2.2.2.2.2.1,b0.fm.2.2.2.2.2.2.2]:List Ua)) G0 d0 (fun _ _=>.hd) cN I I x0 (Src.arr (ds:=[vU b0.fm.1,vU b0.fm.2.1,vU b0.fm.2.2.1,vU b0.fm.2.2.2.1,vU b0.fm.2.2.2.2.1,vU b0.fm.2.2.2.2.2.1,vU b0.fm.2.2.2.2.2.2.1,vU b0.fm.2.2.2.2.2.2.2]) (ys:=([b0.fm.1,b0.fm.2.1,b0.fm.2.2.1,b0.fm.2.2.2.1,b0.fm.2.2.2.2.1,b0.fm.2.2.2.2.2.1,b0.fm.2.2.2.2.2.2.1,b0.fm.2.2.2.2.2.2.2]:List Ua)) (n:=8) (ah (d0.memA .t1) 1 8) (Av (cs:=[vU b0.fm.1]) (ds:=[vU b0.fm.2.1,vU b0.fm.2.2.1,vU b0.fm.2.2.2.1,vU b0.fm.2.2.2.2.1,vU b0.fm.2.2.2.2.2.1,vU b0.fm.2.2.2.2.2.2.1,vU b0.fm.2.2.2.2.2.2.2]) I (Av (cs:=[vU b0.fm.2.1]) (ds:=[vU b0.fm.2.2.1,vU b0.fm.2.2.2.1,vU b0.fm.2.2.2.2.1,vU b0.fm.2.2.2.2.2.1,vU b0.fm.2.2.2.2.2.2.1,vU b0.fm.2.2.2.2.2.2.2]) I (Av (cs:=[vU b0.fm.2.2.1]) (ds:=[vU b0.fm.2.2.2.1,vU b0.fm.2.2.2.2.1,vU b0.fm.2.2.2.2.2.1,vU b0.fm.2.2.2.2.2.2.1,vU b0.fm.2.2.2.2.2.2.2]) I (Av (cs:=[vU b0.fm.2.2.2.1]) (ds:=[vU b0.fm.2.2.2.2.1,vU b0.fm.2.2.2.2.2.1,vU b0.fm.2.2.2.2.2.2.1,vU b0.fm.2.2.2.2.2.2.2]) I (Av (cs:=[vU b0.fm.2.2.2.2.1]) (ds:=[vU b0.fm.2.2.2.2.2.1,vU b0.fm.2.2.2.2.2.2.1,vU b0.fm.2.2.2.2.2.2.2]) I (Av (cs:=[vU b0.fm.2.2.2.2.2.1]) (ds:=[vU b0.fm.2.2.2.2.2.2.1,vU b0.fm.2.2.2.2.2.2.2]) I (Av (cs:=[vU b0.fm.2.2.2.2.2.2.1]) (ds:=[vU b0.fm.2.2.2.2.2.2.2]) I (Av (cs:=[vU b0.fm.2.2.2.2.2.2.2]) (ds:=[]) I (AJ _ _))))))))) I)) fun t0 P0 ⟨p0,k0,q0,s0⟩=>Rx 1 192 c0 I y0 (AP I ((k0.memA .t1) 0 _ I)) ?_
 obtain ⟨b1,K0⟩:=AK k0 (.a0 (.a1 .done))
 exact B0 (t0,p0) b1 (Tt v0 (Tt q0 K0)) (AB s0 K0)
def bf_l1 (_n:Nat) (a0:U8) (a1:U8) (g0:Int -> Oa (Int ⊕ Unit)):Int -> Oa (Int ⊕ Unit)
  | b0=>(if 0 <= b0 then (idx ([a0.1,a0.2.1,a0.2.2.1,a0.2.2.2.1,a0.2.2.2.2.1,a0.2.2.2.2.2.1,a0.2.2.2.2.2.2.1,a0.2.2.2.2.2.2.2]:List Ua) b0).bind fun c0=>(idx ([a1.1,a1.2.1,a1.2.2.1,a1.2.2.2.1,a1.2.2.2.2.1,a1.2.2.2.2.2.1,a1.2.2.2.2.2.2.1,a1.2.2.2.2.2.2.2]:List Ua) b0).bind fun d0=>(if c0 = d0 then (chk (b0 - 1)).bind fun j0=>g0 j0 else (if c0 < d0 then some (.inl (-1:Int)) else some (.inl (1:Int)))) else some (.inr ()))
def bf_p (n:Nat) (a0:U8) (a1:U8):Oa Int:=
  thn (aj (bf_l1 n a0 a1) n 7) (fun _=>some (0:Int))
theorem bf_c (n:Nat) {L w} (_hL:hl L w) (a0:U8) (a1:U8)  {r:Int} (h:bf_p n a0 a1 = some r) :
 Cl 205 #[.agg ((ao a0)).toArray,.agg ((ao a1)).toArray] w (ae w fun _ u=>u = vI r):=by
 unfold bf_p at h
 refine AF func205 I I I fun _ cs0 hb0=>Af<|RG.bx (AA w) I I fun V0 p0 E0 Q0=>RG.bx E0 I I fun W0 q0 F0 R0=>Ag I<|Aa<|Aj<|Af<|Ag I<|Aa<|Ax<|tn h fun U0 H0 u0=>MX.lo (α:=Int) (fun b0=>[(2,vP p0),(3,vP q0),(5,vI b0)]) (fun b0=>[.cells q0 (ao a1) 209,.cells p0 (ao a0) 209]) (fun b0=>b0) 7 H0 F0 ?_
 rintro P0 b0 X0 D0 c0 G0 h
 unfold bf_l1 at h
 try dsimp only at h
 refine Aj<|Af<|Ae I<|Ac (FV.geq (i:=b0) (j:=0) I I)<|Aa<|AQ I h (fun A0 h=>?_) (fun A0 h=>?_)
 refine Ar<|Aj<|Ax<|Aj<|du 7 fun d0 j0=>Rv 0 d0 I j0 (fun _=>Ai I)<|bk h fun y0 J0 h=>?_
 obtain ⟨v0,s0⟩:=aA J0
 refine Rv 1 d0 I j0 (fun _=>AO (m:=1) (k:=b0.toNat) (len:=8) I I I v0 (aU s0 I))<|Rx 2 64 d0 I j0 (AP I ((aK (p:=⟨p0,0,none⟩) (cs:=([a0.1,a0.2.1,a0.2.2.1,a0.2.2.2.1,a0.2.2.2.2.1,a0.2.2.2.2.2.1,a0.2.2.2.2.2.2.1,a0.2.2.2.2.2.2.2]:List Ua).map (fun z9:Ua=>(vU z9:Vc)) ++ []) (i:=b0.toNat) (c0.memA .t1) (bJ (fun z9:Ua=>(vU z9:Vc)) s0)) 0 _ I))<|Rv 3 d0 I j0 (fun _=>Ai I)<|bk h fun z0 K0 h=>?_
 obtain ⟨x0,t0⟩:=aA K0
 refine Rv 4 d0 I j0 (fun _=>AO (m:=1) (k:=b0.toNat) (len:=8) I I I x0 (aU t0 I))<|Rx 5 64 d0 I j0 (AP I ((aK (p:=⟨q0,0,none⟩) (cs:=([a1.1,a1.2.1,a1.2.2.1,a1.2.2.2.1,a1.2.2.2.2.1,a1.2.2.2.2.2.1,a1.2.2.2.2.2.2.1,a1.2.2.2.2.2.2.2]:List Ua).map (fun z9:Ua=>(vU z9:Vc)) ++ []) (i:=b0.toNat) (c0.memA .hd) (bJ (fun z9:Ua=>(vU z9:Vc)) t0)) 0 _ I))<|Rv 6 d0 I j0 (fun _=>FV.neqU (a:=y0) (b:=z0) I I)<|AN (dk d0)<|MX.ifn I h (fun B0 h=>?_) (fun B0 h=>?_)
 refine Ar<|AC<|Ap<|Ae I<|bk h fun M0 I0 h=>Ac (BQ (i:=b0) (j:=1) I I I0)<|Ag I<|Aa<|D0 M0 c0 G0 h
 refine Aj<|Aj<|du 7 fun g0 k0=>Rv 0 g0 I k0 (fun _=>Ai I)<|Rv 1 g0 I k0 (fun _=>AO (m:=1) (k:=b0.toNat) (len:=8) I I I v0 (aU s0 I))<|Rx 2 64 g0 I k0 (AP I ((aK (p:=⟨p0,0,none⟩) (cs:=([a0.1,a0.2.1,a0.2.2.1,a0.2.2.2.1,a0.2.2.2.2.1,a0.2.2.2.2.2.1,a0.2.2.2.2.2.2.1,a0.2.2.2.2.2.2.2]:List Ua).map (fun z9:Ua=>(vU z9:Vc)) ++ []) (i:=b0.toNat) (c0.memA .t1) (bJ (fun z9:Ua=>(vU z9:Vc)) s0)) 0 _ I))<|Rv 3 g0 I k0 (fun _=>Ai I)<|Rv 4 g0 I k0 (fun _=>AO (m:=1) (k:=b0.toNat) (len:=8) I I I x0 (aU t0 I))<|Rx 5 64 g0 I k0 (AP I ((aK (p:=⟨q0,0,none⟩) (cs:=([a1.1,a1.2.1,a1.2.2.1,a1.2.2.2.1,a1.2.2.2.2.1,a1.2.2.2.2.2.1,a1.2.2.2.2.2.2.1,a1.2.2.2.2.2.2.2]:List Ua).map (fun z9:Ua=>(vU z9:Vc)) ++ []) (i:=b0.toNat) (c0.memA .hd) (bJ (fun z9:Ua=>(vU z9:Vc)) t0)) 0 _ I))<|Rv 6 g0 I k0 (fun _=>FV.lssU (a:=y0) (b:=z0) I I)<|AN (dk g0)<|AQ I h (fun C0 h=>?_) (fun C0 h=>?_)
 refine Af<|Ag I<|Aa ?_
 have h:=au h u0
 refine Am I<|AW hb0 func205 I I ?_
 cases h
 exact c0.gv
 refine Ar<|Af<|Ag I<|Aa ?_
 have h:=au h u0
 refine Am I<|AW hb0 func205 I I ?_
 cases h
 exact c0.gv
 refine AX I ?_
 have h:=aC h u0
 try dsimp only at h
 refine Af<|Ag I<|Aa<|Am I<|AW hb0 func205 I I ?_
 cases h
 exact c0.gv
def cG_p (n:Nat) (a0:To):Oa ((U8) × Int):=
  (bf_p n a0.fm (0,0,0,0,0,0,0,9223372036854775808)).bind fun b0=>(if 0 < b0 then some ((0,0,0,0,0,0,0,0),(6:Int)) else (if b0 = 0 then (if a0.fe = true then (bH_p n (0,0,0,0,0,0,0,0) a0.fm).bind fun c0=>some (c0.1,(0:Int)) else some ((0,0,0,0,0,0,0,0),(6:Int))) else (if a0.fe = true then (bH_p n (0,0,0,0,0,0,0,0) a0.fm).bind fun d0=>some (d0.1,(0:Int)) else some (a0.fm,(0:Int)))))
theorem cG_c (n:Nat) {L w} (hL:hl L w) (a0:To)  {r:(U8) × Int} (h:cG_p n a0 = some r) :
 Cl 190 #[.agg ((iu a0)).toArray] w (ae w fun _ u=>u = .tuple #[.agg ((ao r.1)).toArray,vI r.2]):=by
 unfold cG_p at h
 refine AF func190 I I I fun _ cs0 hb0=>Af<|RG.bx (AA w) I I fun Z0 G0 A0 J0=>RG.nl zP A0 fun b1 H0 B0 K0=>Ag I<|Aa<|Af<|Ac (AS (vs:=[vW 9223372036854775808]) (u:=.agg #[vW 0,vW 0,vW 0,vW 0,vW 0,vW 0,vW 0,vW 9223372036854775808]) (e1 I) (fun w9=>by kernel_rfl))<|RG.nl zP B0 fun c1 I0 C0 M0=>RG.now .plain (AE (news:=[vW 0,vW 0,vW 0,vW 0,vW 0,vW 0,vW 0,vW 9223372036854775808]) C0 .hd I I I I I (.refl 8) (ai I)) fun d1 b0 P0=>Aa<|Aj<|Af<|Bd 1 I<|Ac (Bk (cs:=(ao a0.fm)) I I (ah (b0.memA .t2) 1 8))<|Ac (AH I (b0.memA .hd))<|bk h fun g0 D0 h=>Bj (vI g0) (bd 205) I (e2 I I) (fun w9 hw9=>bf_c n (b0.hL0 hL hw9) a0.fm (0,0,0,0,0,0,0,9223372036854775808) D0) I<|Ag I<|Aa<|Af<|Ae I<|Ac (FV.gtr (i:=g0) (j:=0) I I)<|Ae I<|BD (s:=13) I h (fun x0 h=>?_) (fun x0 h=>?_)
 refine Aq<|Aq<|Aq<|RG.un<|RG.un<|RG.un<|Aq<|Bn I I<|Aa<|Bq I<|Af<|Ac (AS (vs:=[]) (u:=.agg zQ) ak (fun w9=>by kernel_rfl))<|AV zP b0 .t1 (ai I) fun g1 k0 Q0=>Ag I<|Aa<|Am I<|Au hb0 func190 I (.cons (.many (cs:=zP) I I (k0.memA .t1)) (.cons (.tmp I) .nil)) I ?_
 cases h
 exact k0.gv
 refine AG (Ai I)<|AG (FV.eql (i:=g0) (j:=0) I I)<|AG (Ai I)<|BD (s:=16) I h (fun y0 h=>?_) (fun y0 h=>?_)
 refine RG.fg 0 I<|AG (AP I ((b0.memA .t2) 0 _ I))<|AG (Bu I)<|AG (BN I I)<|Bv I I<|Aa<|MX.ifnb I h (fun j0 h=>?_) (fun j0 h=>?_)
 refine Ar<|Aj<|Af<|Bd 0 I<|AR I ((b0.memA .t2) 0 _ I)<|Aa<|MX.cond_kt I j0<|Ap<|Ac (AS (vs:=[]) (u:=.agg zQ) ak (fun w9=>by kernel_rfl))<|Bd 1 I<|Ac (Bk (cs:=(ao a0.fm)) I I (ah (b0.memA .t2) 1 8))<|bk h fun c0 E0 h=>Bj (.tuple #[.agg ((ao c0.1)).toArray,vU c0.2]) (bd 189) I (e2 I I) (fun w9 hw9=>bH_c n (b0.hL0 hL hw9) (0,0,0,0,0,0,0,0) a0.fm E0) I<|Ae I<|Ac (Ak I I)<|Ac (Ak I I)<|Bd 1 I<|RG.now .plain (BT (j:=1) (old:=(iu a0)) (news:=(ao c0.1)) (new' :=(([.bool a0.fe]:List Vc) ++ ao c0.1)) b0 .t2 I I I I I I (ai I) I) fun j1 p0 R0=>Aa<|Af<|Bd 1 I<|Ac (Bk (cs:=(ao c0.1)) I I (ah (p0.memA .t2) 1 8))<|AV (ao c0.1) p0 .t1 (ai I) fun k1 q0 U0=>Ag I<|Aa<|Am I<|Au hb0 func190 I (.cons (.many (cs:=(ao c0.1)) I I (q0.memA .t1)) (.cons (.tmp I) .nil)) I ?_
 cases h
 exact q0.gv
 refine Af<|Ac (AS (vs:=[]) (u:=.agg zQ) ak (fun w9=>by kernel_rfl))<|AV zP b0 .t1 (ai I) fun p1 s0 V0=>Ag I<|Aa<|Am I<|Au hb0 func190 I (.cons (.many (cs:=zP) I I (s0.memA .t1)) (.cons (.tmp I) .nil)) I ?_
 cases h
 exact s0.gv
 refine Aq<|Aq<|Aq<|AG (AZ I I)<|Bv I I<|Aa<|BF I<|Ar<|Aj<|Af<|Bd 0 I<|AR I ((b0.memA .t2) 0 _ I)<|Aa<|MX.ifb I h (fun z0 h=>?_) (fun z0 h=>?_)
 refine Ap<|Ac (AS (vs:=[]) (u:=.agg zQ) ak (fun w9=>by kernel_rfl))<|Bd 1 I<|Ac (Bk (cs:=(ao a0.fm)) I I (ah (b0.memA .t2) 1 8))<|bk h fun d0 F0 h=>Bj (.tuple #[.agg ((ao d0.1)).toArray,vU d0.2]) (bd 189) I (e2 I I) (fun w9 hw9=>bH_c n (b0.hL0 hL hw9) (0,0,0,0,0,0,0,0) a0.fm F0) I<|Ae I<|Ac (Ak I I)<|Ac (Ak I I)<|Bd 1 I<|RG.now .plain (BT (j:=1) (old:=(iu a0)) (news:=(ao d0.1)) (new' :=(([.bool a0.fe]:List Vc) ++ ao d0.1)) b0 .t2 I I I I I I (ai I) I) fun q1 t0 W0=>Aa<|Af<|Bd 1 I<|Ac (Bk (cs:=(ao d0.1)) I I (ah (t0.memA .t2) 1 8))<|AV (ao d0.1) t0 .t1 (ai I) fun s1 u0 X0=>Ag I<|Aa<|Am I<|Au hb0 func190 I (.cons (.many (cs:=(ao d0.1)) I I (u0.memA .t1)) (.cons (.tmp I) .nil)) I ?_
 cases h
 exact u0.gv
 refine Ar<|Af<|Bd 1 I<|Ac (Bk (cs:=(ao a0.fm)) I I (ah (b0.memA .t2) 1 8))<|AV (ao a0.fm) b0 .t1 (ai I) fun u1 v0 Y0=>Ag I<|Aa<|Am I<|Au hb0 func190 I (.cons (.many (cs:=(ao a0.fm)) I I (v0.memA .t1)) (.cons (.tmp I) .nil)) I ?_
 cases h
 exact v0.gv
def cq_p (n:Nat) (a0:Ti):Oa ((U8) × Int):=
  (if 8 < a0.fo.length then some ((0,0,0,0,0,0,0,0),(6:Int)) else (cG_p n (⟨a0.fe,(aQ a0.fo 0 (0:Ua),aQ a0.fo 1 (0:Ua),aQ a0.fo 2 (0:Ua),aQ a0.fo 3 (0:Ua),aQ a0.fo 4 (0:Ua),aQ a0.fo 5 (0:Ua),aQ a0.fo 6 (0:Ua),aQ a0.fo 7 (0:Ua))⟩:To)).bind fun b0=>some (b0.1,b0.2))
theorem cq_c (n:Nat) {L w} (hL:hl L w) (a0:Ti) {v0_1:Vc} (h0_1:Rep.R w L [v0_1] a0.fo)  {r:(U8) × Int} (h:cq_p n a0 = some r) :
 Cl 162 #[.agg #[.bool a0.fe,v0_1]] w (ae w fun _ u=>u = .tuple #[.agg ((ao r.1)).toArray,vI r.2]):=by
 unfold cq_p at h
 refine AF func162 I I I fun _ cs0 hb0=>Af<|RG.bx (AA w) I I fun M0 A0 v0 C0=>RG.nl zP v0 fun P0 B0 c0 D0=>Ag I<|Aa<|Aj<|Af<|Bd 1 I<|AR I ((c0.memA .t1) 1 _ I) ?_
 have s0:=AT h0_1 c0
 have J0:=AU s0
 refine Ac (Ba (xs:=a0.fo) underlying128 I s0)<|Ac (FV.gtrN (i:=a0.fo.length) (j:=8) I I)<|Aa<|AQ I h (fun u0 h=>?_) (fun u0 h=>?_)
 refine Af<|Ac (AS (vs:=[]) (u:=.agg zQ) ak (fun w9=>by kernel_rfl))<|AV zP c0 .hd (ai I) fun Q0 p0 E0=>Ag I<|Aa<|Am I<|Au hb0 func162 I (.cons (.many (cs:=zP) I I (p0.memA .hd)) (.cons (.tmp I) .nil)) I ?_
 cases h
 exact p0.gv
 refine Ar<|Af<|Bd 0 I<|AR I ((c0.memA .t1) 0 _ I)<|Ac (AS (vs:=[.bool a0.fe]) (u:=.agg #[.bool a0.fe,vW 0,vW 0,vW 0,vW 0,vW 0,vW 0,vW 0,vW 0]) (e1 I) (fun w9=>by kernel_rfl))<|RG.nl [.bool false,vW 0,vW 0,vW 0,vW 0,vW 0,vW 0,vW 0,vW 0] c0 fun R0 t0 x0 F0=>AV [.bool a0.fe,vW 0,vW 0,vW 0,vW 0,vW 0,vW 0,vW 0,vW 0] x0 .hd (ai I) fun U0 j0 G0=>Aa<|Aj<|du 4 fun b0 d0=>Rv 0 b0 I d0 (fun _=>Bi 1 I)<|Rx 1 16 b0 I d0 (FV.sliceA (len:=8) (m:=1) (p:=Addr.add ⟨t0,0,none⟩ 1) I I)<|Rv 2 b0 I d0 (fun _=>Bi 1 I)<|Rx 3 16 b0 I d0 (AP I ((j0.memA .t2) 1 _ I))<|BM (i:=4) (rk b0) (BI (m' :=31) (sk b0) I I .plain I (DoesL.copyArr (fun z9:Ua=>(vU z9:Vc)) (olds:=([(0:Ua),0,0,0,0,0,0,(0:Ua)]:List Ua)) (ys:=a0.fo) (pre:=[.bool a0.fe]) (post:=[]) (old:=[.bool a0.fe,vW 0,vW 0,vW 0,vW 0,vW 0,vW 0,vW 0,vW 0]) (new' :=[.bool a0.fe,vW ((aQ a0.fo 0 (0:Ua)).toNat:Int),vW ((aQ a0.fo 1 (0:Ua)).toNat:Int),vW ((aQ a0.fo 2 (0:Ua)).toNat:Int),vW ((aQ a0.fo 3 (0:Ua)).toNat:Int),vW ((aQ a0.fo 4 (0:Ua)).toNat:Int),vW ((aQ a0.fo 5 (0:Ua)).toNat:Int),vW ((aQ a0.fo 6 (0:Ua)).toNat:Int),vW ((aQ a0.fo 7 (0:Ua)).toNat:Int)]) I (fun _ _ _ _ h9=>h9) j0 .hd I I I I I I I I (Ca (AT h0_1 j0))) (fun K0 V0 ⟨y0,k0,H0⟩=>?_))
 subst y0
 refine AN (dk b0)<|Af<|Ac (AH I (k0.memA .hd))<|bk h fun g0 z0 h=>Bj (.tuple #[.agg ((ao g0.1)).toArray,vI g0.2]) (bd 190) I (e1 I) (fun w9 hw9=>cG_c n (k0.hL0 hL hw9) (⟨a0.fe,(aQ a0.fo 0 (0:Ua),aQ a0.fo 1 (0:Ua),aQ a0.fo 2 (0:Ua),aQ a0.fo 3 (0:Ua),aQ a0.fo 4 (0:Ua),aQ a0.fo 5 (0:Ua),aQ a0.fo 6 (0:Ua),aQ a0.fo 7 (0:Ua))⟩:To) z0) I<|Ac (Ak I I)<|Ac (Ak I I)<|AV (ao g0.1) k0 .t1 (ai I) fun W0 q0 I0=>Ag I<|Aa<|Am I<|Au hb0 func162 I (.cons (.many (cs:=(ao g0.1)) I I (q0.memA .t1)) (.cons (.tmp I) .nil)) I ?_
 cases h
 exact q0.gv
def bS_p (n:Nat) (a0:Tj):Oa (Ta × Int):=
  (cq_p n a0.fy).bind fun b0=>(cq_p n a0.fv).bind fun c0=>(if b0.2 = 0 then (if c0.2 = 0 then some ((⟨b0.1,c0.1⟩:Ta),(0:Int)) else some ((⟨(0,0,0,0,0,0,0,0),(0,0,0,0,0,0,0,0)⟩:Ta),(6:Int))) else some ((⟨(0,0,0,0,0,0,0,0),(0,0,0,0,0,0,0,0)⟩:Ta),(6:Int)))
theorem bS_c (n:Nat) {L w} (hL:hl L w) (a0:Tj) {v0_1:Vc} (h0_1:Rep.R w L [v0_1] a0.fy.fo) {v0_3:Vc} (h0_3:Rep.R w L [v0_3] a0.fv.fo)  {r:Ta × Int} (h:bS_p n a0 = some r) :
 Cl 120 #[.agg #[.bool a0.fy.fe,v0_1,.bool a0.fv.fe,v0_3]] w (ae w fun _ u=>u = .tuple #[.agg ((ab r.1)).toArray,vI r.2]):=by
 unfold bS_p at h
 refine AF func120 I I I fun _ cs0 hb0=>Af<|RG.bx (AA w) I I fun R0 B0 v0 F0=>RG.nl zL v0 fun U0 C0 g0 G0=>Ag I<|Aa<|Af<|Bd 0 I<|Ac (Bk (cs:=[.bool a0.fy.fe,v0_1]) I I (ah (g0.memA .t1) 0 2))<|bk h fun b0 z0 h=>Bj (.tuple #[.agg ((ao b0.1)).toArray,vI b0.2]) (bd 162) I (e1 I) (fun w9 hw9=>cq_c n (g0.hL0 hL hw9) a0.fy (g0.k0 h0_1 hw9) z0) I<|Ae I<|Ac (Ak I I)<|Ac (Ak I I)<|RG.nl zP g0 fun V0 D0 x0 H0=>AV (ao b0.1) x0 .hd (ai I) fun W0 j0 I0=>Ag I<|Aa<|Af<|Bd 2 I<|Ac (Bk (cs:=[.bool a0.fv.fe,v0_3]) I I (ah (j0.memA .t2) 2 2))<|bk h fun c0 A0 h=>Bj (.tuple #[.agg ((ao c0.1)).toArray,vI c0.2]) (bd 162) I (e1 I) (fun w9 hw9=>cq_c n (j0.hL0 hL hw9) a0.fv (j0.k0 h0_3 hw9) A0) I<|Ae I<|Ac (Ak I I)<|Ac (Ak I I)<|RG.nl zP j0 fun X0 E0 y0 J0=>AV (ao c0.1) y0 .hd (ai I) fun Y0 d0 K0=>Ag I<|Aa<|Aj<|Af<|Ae I<|Ac (FV.neq (i:=b0.2) (j:=0) I I) ?_
 refine Ae I<|RG.ifn (s:=22) I h (fun t0 h=>?_) (fun t0 h=>?_)
 refine AG (Ai I)<|AG (FV.neq (i:=c0.2) (j:=0) I I)<|Bv I I<|Aa<|MX.ifn I h (fun u0 h=>?_) (fun u0 h=>?_)
 refine Ar<|Af<|Ac (AH I (d0.memA .t1))<|Ac (AH I (d0.memA .hd))<|Ac (AS (vs:=[.agg ((ao b0.1)).toArray,.agg ((ao c0.1)).toArray]) (u:=.agg ((ao b0.1 ++ ao c0.1)).toArray) (e2 I I) (fun w9=>by kernel_rfl))<|AV (ao b0.1 ++ ao c0.1) d0 .t2 (ai I) fun Z0 p0 M0=>Ag I<|Aa<|Am I<|Au hb0 func120 I (.cons (.many (cs:=(ao b0.1 ++ ao c0.1)) I I (p0.memA .t2)) (.cons (.tmp I) .nil)) I ?_
 cases h
 exact p0.gv
 refine Af<|Ac (AS (vs:=[]) (u:=.agg zM) ak (fun w9=>by kernel_rfl))<|AV zL d0 .t2 (ai I) fun b1 q0 P0=>Ag I<|Aa<|Am I<|Au hb0 func120 I (.cons (.many (cs:=zL) I I (q0.memA .t2)) (.cons (.tmp I) .nil)) I ?_
 cases h
 exact q0.gv
 refine Aq<|Aq<|Bn I I<|Aa<|Bq I<|Af<|Ac (AS (vs:=[]) (u:=.agg zM) ak (fun w9=>by kernel_rfl))<|AV zL d0 .t2 (ai I) fun c1 s0 Q0=>Ag I<|Aa<|Am I<|Au hb0 func120 I (.cons (.many (cs:=zL) I I (s0.memA .t2)) (.cons (.tmp I) .nil)) I ?_
 cases h
 exact s0.gv
theorem oa {w:World} {L:List Nat} {cs:List Vc} {x:U8} (h:Rep.R w L cs x):cs = [vU x.1,vU x.2.1,vU x.2.2.1,vU x.2.2.2.1,vU x.2.2.2.2.1,vU x.2.2.2.2.2.1,vU x.2.2.2.2.2.2.1,vU x.2.2.2.2.2.2.2]:=by
  obtain ⟨c0,r0,rfl,h0,h⟩:=h
  have e0:c0 = [vU x.1]:=h0; subst e0
  obtain ⟨c1,r1,rfl,h1,h⟩:=h
  have e1:c1 = [vU x.2.1]:=h1; subst e1
  obtain ⟨c2,r2,rfl,h2,h⟩:=h
  have e2:c2 = [vU x.2.2.1]:=h2; subst e2
  obtain ⟨c3,r3,rfl,h3,h⟩:=h
  have e3:c3 = [vU x.2.2.2.1]:=h3; subst e3
  obtain ⟨c4,r4,rfl,h4,h⟩:=h
  have e4:c4 = [vU x.2.2.2.2.1]:=h4; subst e4
  obtain ⟨c5,r5,rfl,h5,h⟩:=h
  have e5:c5 = [vU x.2.2.2.2.2.1]:=h5; subst e5
  obtain ⟨c6,r6,rfl,h6,h⟩:=h
  have e6:c6 = [vU x.2.2.2.2.2.2.1]:=h6; subst e6
  have e7:r6 = [vU x.2.2.2.2.2.2.2]:=h; subst e7
  rfl
theorem nM {w:World} {L:List Nat} (a0:Ua) (a1:Ua) (a2:Ua) (a3:Ua) (a4:Ua) (a5:Ua) (a6:Ua) (a7:Ua):Rep.R w L [vU a0,vU a1,vU a2,vU a3,vU a4,vU a5,vU a6,vU a7] ((a0,a1,a2,a3,a4,a5,a6,a7):U8):=⟨[vU a0],[vU a1,vU a2,vU a3,vU a4,vU a5,vU a6,vU a7],rfl,rfl,⟨[vU a1],[vU a2,vU a3,vU a4,vU a5,vU a6,vU a7],rfl,rfl,⟨[vU a2],[vU a3,vU a4,vU a5,vU a6,vU a7],rfl,rfl,⟨[vU a3],[vU a4,vU a5,vU a6,vU a7],rfl,rfl,⟨[vU a4],[vU a5,vU a6,vU a7],rfl,rfl,⟨[vU a5],[vU a6,vU a7],rfl,rfl,⟨[vU a6],[vU a7],rfl,rfl,rfl⟩⟩⟩⟩⟩⟩⟩
theorem kE {a b:U8} (h0:a.1 = b.1) (h1:a.2.1 = b.2.1) (h2:a.2.2.1 = b.2.2.1) (h3:a.2.2.2.1 = b.2.2.2.1) (h4:a.2.2.2.2.1 = b.2.2.2.2.1) (h5:a.2.2.2.2.2.1 = b.2.2.2.2.2.1) (h6:a.2.2.2.2.2.2.1 = b.2.2.2.2.2.2.1) (h7:a.2.2.2.2.2.2.2 = b.2.2.2.2.2.2.2):a = b:=Prod.ext h0 (Prod.ext h1 (Prod.ext h2 (Prod.ext h3 (Prod.ext h4 (Prod.ext h5 (Prod.ext h6 (h7)))))))
theorem lV (a b:U8) (w9:World):(do eqGuard .eql 46 (.tmp 0) (.tmp 0) (.agg #[vU a.1,vU a.2.1,vU a.2.2.1,vU a.2.2.2.1,vU a.2.2.2.2.1,vU a.2.2.2.2.2.1,vU a.2.2.2.2.2.2.1,vU a.2.2.2.2.2.2.2]) (.agg #[vU b.1,vU b.2.1,vU b.2.2.1,vU b.2.2.2.1,vU b.2.2.2.2.1,vU b.2.2.2.2.2.1,vU b.2.2.2.2.2.2.1,vU b.2.2.2.2.2.2.2]); binOp .eql 46 (.agg #[vU a.1,vU a.2.1,vU a.2.2.1,vU a.2.2.2.1,vU a.2.2.2.2.1,vU a.2.2.2.2.2.1,vU a.2.2.2.2.2.2.1,vU a.2.2.2.2.2.2.2]) (.agg #[vU b.1,vU b.2.1,vU b.2.2.1,vU b.2.2.2.1,vU b.2.2.2.2.1,vU b.2.2.2.2.2.1,vU b.2.2.2.2.2.2.1,vU b.2.2.2.2.2.2.2]):Sem Vc).run Tryz.prog w9 = .ok (.bool (decide (a = b))) w9:=
  na (ks:=[.int .u64,.int .u64,.int .u64,.int .u64,.int .u64,.int .u64,.int .u64,.int .u64]) (xs:=[vU a.1,vU a.2.1,vU a.2.2.1,vU a.2.2.2.1,vU a.2.2.2.2.1,vU a.2.2.2.2.2.1,vU a.2.2.2.2.2.2.1,vU a.2.2.2.2.2.2.2]) (ys:=[vU b.1,vU b.2.1,vU b.2.2.1,vU b.2.2.2.1,vU b.2.2.2.2.1,vU b.2.2.2.2.2.1,vU b.2.2.2.2.2.2.1,vU b.2.2.2.2.2.2.2]) (by kernel_rfl) (by kernel_rfl) (by kernel_rfl) I I ⟨fun h=>by
    simp only [bF,veq,Bool.and_eq_true,beq_iff_eq,and_true] at h
    obtain ⟨h0,h1,h2,h3,h4,h5,h6,h7⟩:=h
    exact kE (ar h0) (ar h1) (ar h2) (ar h3) (ar h4) (ar h5) (ar h6) (ar h7),fun h=>by subst h; simp [bF,veq]⟩ _ _ w9
def dU_p (n:Nat) (a0:U8) (a1:U8):Oa (Ta × Int):=
  (if a1 = (0,0,0,0,0,0,0,0) then some ((⟨(0,0,0,0,0,0,0,0),(0,0,0,0,0,0,0,0)⟩:Ta),(7:Int)) else (bY_p n a0).bind fun c0=>(bY_p n a1).bind fun d0=>(cu_p n c0 d0).bind fun g0=>(bS_p n g0).bind fun b0=>some (b0.1,b0.2))
theorem dU_c (n:Nat) {L w} (hL:hl L w) (a0:U8) (a1:U8)  {r:Ta × Int} (h:dU_p n a0 a1 = some r) :
 Cl 89 #[.agg ((ao a0)).toArray,.agg ((ao a1)).toArray] w (ae w fun _ u=>u = .tuple #[.agg ((ab r.1)).toArray,vI r.2]):=by
 unfold dU_p at h
 refine AF func89 I I I fun _ cs0 hb0=>Af<|RG.bx (AA w) I I fun s1 P0 u0 U0=>RG.bx u0 I I fun u1 Q0 v0 V0=>RG.nl zL v0 fun v1 R0 c0 W0=>Ag I<|Aa<|Aj<|Af<|Ac (AH I (c0.memA .t1))<|Ac (AS (vs:=[]) (u:=.agg zQ) ak (fun w9=>by kernel_rfl))<|Ac (FV.eqlV (v:=.agg ((ao a1)).toArray) (u:=.agg zQ) I I (lV a1 (0,0,0,0,0,0,0,0)))<|Aa<|AQ I h (fun t0 h=>?_) (fun t0 h=>?_)
 refine Af<|Ac (AS (vs:=[]) (u:=.agg zM) ak (fun w9=>by kernel_rfl))<|AV zL c0 .hd (ai I) fun x1 k0 X0=>Ag I<|Aa<|Am I<|Au hb0 func89 I (.cons (.many (cs:=zL) I I (k0.memA .hd)) (.cons (.tmp I) .nil)) I ?_
 cases h
 exact k0.gv
 refine Ar<|Aj<|du 8 fun b0 d0=>Rx 0 1018 b0 I d0 (AH I (c0.memA .t2))<|Rx 2 1016 b0 I d0 (AH I (c0.memA .t1))<|bk h fun J0 F0 h=>Bs 1 7 b0 I .plain (bd 119) I (e1 I) (fun w9 hw9=>bY_c n (c0.hL hL hw9) a0 F0) I fun w32 k1 y0 ⟨c1,hu_,B0⟩=>?_
 subst hu_
 obtain ⟨p0,Y0⟩:=c0.agr y0
 refine bk h fun K0 G0 h=>Bs 3 15 b0 I .plain (bd 119) I (e1 I) (fun w9 hw9=>bY_c n (p0.hL hL hw9) a1 G0) I fun y1 p1 z0 ⟨d1,hu_,C0⟩=>?_
 subst hu_
 obtain ⟨q0,x0⟩:=p0.agr z0
 refine bk h fun M0 H0 h=>Bs 4 31 b0 I .plain (bd 118) I (e2 I I) (fun w9 hw9=>cu_c n (q0.hL hL hw9) J0 (Aw (Ao B0 x0) hw9) K0 (Aw C0 hw9) H0) I fun z1 q1 A0 ⟨g1,j1,hu_,D0,E0⟩=>?_
 subst hu_
 obtain ⟨g0,Z0⟩:=q0.agr A0
 refine bk h fun j0 I0 h=>BV 5 63 960 (.tuple #[.agg ((ab j0.1)).toArray,vI j0.2]) b0 I d0 (bd 120) I (e1 I) (fun w9 hw9=>bS_c n (g0.hL0 hL hw9) M0 (g0.kd D0 hw9) (g0.kd E0 hw9) I0) I<|Rv 6 b0 I d0 (fun _=>Ak I I)<|Rv 7 b0 I d0 (fun _=>Ak I I)<|BG 8 511 b0 I I .plain (AE (news:=(ab j0.1)) g0 .hd I I I I I I (ai I)) fun A1 s0 b1=>Rv 9 b0 I d0 (fun _=>Be I)<|AN (dk b0)<|Am I<|Au hb0 func89 I (.cons (.many (cs:=(ab j0.1)) I I (s0.memA .hd)) (.cons (.tmp I) .nil)) I ?_
 cases h
 exact s0.gv
def dK_l1 (_n:Nat) (t0:Nat × U8 -> Oa (U8)):Nat × U8 -> Oa (U8)
  | (b0,c0,d0,g0,j0,k0,p0,q0,s0)=>(if b0 < 8 then (([c0,d0,g0,j0,k0,p0,q0,s0]:List Ua)[b0]?).bind fun _z71=>t0 (b0 + 1,ax b0 0 (18446744073709551615:Ua) c0,ax b0 1 (18446744073709551615:Ua) d0,ax b0 2 (18446744073709551615:Ua) g0,ax b0 3 (18446744073709551615:Ua) j0,ax b0 4 (18446744073709551615:Ua) k0,ax b0 5 (18446744073709551615:Ua) p0,ax b0 6 (18446744073709551615:Ua) q0,ax b0 7 (18446744073709551615:Ua) s0) else some (c0,d0,g0,j0,k0,p0,q0,s0))
def dK_p (n:Nat) (a0:Int):Oa (U8):=
  (if a0 < 0 then Option.bind (aj (dK_l1 n) n (1,ac a0,0,0,0,0,0,0,0)) (fun (b0,c0,d0,g0,j0,k0,p0,q0)=>some (b0,c0,d0,g0,j0,k0,p0,q0)) else some (ac a0,0,0,0,0,0,0,0))
theorem dK_c (n:Nat) {L w} (_hL:hl L w) {a0:Int}  {r:U8} (h:dK_p n a0 = some r) :
 Cl 90 #[vI a0] w (ae w fun _ u=>u = .agg ((ao r)).toArray):=by
 unfold dK_p at h
 refine AF func90 I I I fun _ cs0 hb0=>Af<|RG.nl zP (AA w) fun Y0 y0 E0 P0=>Aa<|Af<|Ae I<|Ac (FV.convU (i:=a0) underlying3 underlying44 I)<|Ac (AS (vs:=[vW ((ac a0).toNat:Int)]) (u:=.agg #[vW ((ac a0).toNat:Int),vW 0,vW 0,vW 0,vW 0,vW 0,vW 0,vW 0]) (e1 I) (fun w9=>by kernel_rfl))<|RG.nl zP E0 fun Z0 u0 F0 Q0=>AV [vW ((ac a0).toNat:Int),vW 0,vW 0,vW 0,vW 0,vW 0,vW 0,vW 0] F0 .hd (ai I) fun b1 v0 R0=>Aa<|Aj<|Af<|Ae I<|Ac (BO (i:=a0) (j:=0) I I)<|Aa<|AQ I h (fun B0 h=>?_) (fun B0 h=>?_)
 refine Af<|Ag I<|Aa<|Ax ?_
 obtain ⟨X0,K0,J0⟩:=aq h
 refine MX.lo (α:=Nat × U8) (fun ⟨b0,c0,d0,g0,j0,k0,p0,q0,s0⟩=>[(2,vP y0),(3,vP u0),(4,vn b0)]) (fun ⟨b0,c0,d0,g0,j0,k0,p0,q0,s0⟩=>[.cells u0 [vU c0,vU d0,vU g0,vU j0,vU k0,vU p0,vU q0,vU s0] 46,.cells y0 zP 46]) (fun ⟨b0,c0,d0,g0,j0,k0,p0,q0,s0⟩=>(b0,c0,d0,g0,j0,k0,p0,q0,s0)) (1,ac a0,0,0,0,0,0,0,0) K0 v0 ?_
 rintro M0 ⟨b0,c0,d0,g0,j0,k0,p0,q0,s0⟩ j1 D0 t0 H0 h
 unfold dK_l1 at h
 try dsimp only at h
 refine Aj<|Af<|Ae I<|Ac (Bp (i:=b0) (j:=8) I I)<|Aa<|AQ I h (fun C0 h=>?_) (fun C0 h=>?_)
 refine Ar<|Aj<|Ax<|Ap<|Ae I<|bk h fun k1 x0 h=>?_
 have W0:=aK (p:=⟨u0,0,none⟩) (cs:=([c0,d0,g0,j0,k0,p0,q0,s0]:List Ua).map (fun z9:Ua=>(vU z9:Vc)) ++ []) (i:=b0) (t0.memA .hd) (bJ (fun z9:Ua=>(vU z9:Vc)) x0)
 refine Ac (AO (m:=1) (k:=b0) (len:=8) I I I I (aU x0 I))<|RG.now .plain (Acts.storeArr (fun z9:Ua=>(vU z9:Vc)) (xs:=([c0,d0,g0,j0,k0,p0,q0,s0]:List Ua)) (pre:=[]) (post:=[]) (i:=b0) (m:=8) (x:=(18446744073709551615:Ua)) (old:=[vU c0,vU d0,vU g0,vU j0,vU k0,vU p0,vU q0,vU s0]) (new' :=[vW ((ax b0 0 (18446744073709551615:Ua) c0).toNat:Int),vW ((ax b0 1 (18446744073709551615:Ua) d0).toNat:Int),vW ((ax b0 2 (18446744073709551615:Ua) g0).toNat:Int),vW ((ax b0 3 (18446744073709551615:Ua) j0).toNat:Int),vW ((ax b0 4 (18446744073709551615:Ua) k0).toNat:Int),vW ((ax b0 5 (18446744073709551615:Ua) p0).toNat:Int),vW ((ax b0 6 (18446744073709551615:Ua) q0).toNat:Int),vW ((ax b0 7 (18446744073709551615:Ua) s0).toNat:Int)]) I I (aU x0 I) t0 .hd I (eO _ _ _) I I (fun _=>⟨I,I⟩) I I) fun c1 G0 I0=>Aa<|AC<|Ap<|Ae I<|Ac (Bl (i:=b0) (j:=1) I I (by omega))<|Ag I<|Aa<|D0 (b0 + 1,ax b0 0 (18446744073709551615:Ua) c0,ax b0 1 (18446744073709551615:Ua) d0,ax b0 2 (18446744073709551615:Ua) g0,ax b0 3 (18446744073709551615:Ua) j0,ax b0 4 (18446744073709551615:Ua) k0,ax b0 5 (18446744073709551615:Ua) p0,ax b0 6 (18446744073709551615:Ua) q0,ax b0 7 (18446744073709551615:Ua) s0) G0 (Tt H0 I0) h
 refine AX I ?_
 have h:=J0 _ h
 try dsimp only at h
 refine Af<|Ac (AH I (t0.memA .hd))<|AV [vU c0,vU d0,vU g0,vU j0,vU k0,vU p0,vU q0,vU s0] t0 .t1 (ai I) fun d1 z0 U0=>Aa<|Am I<|Au hb0 func90 I (.cons (.many (cs:=[vU c0,vU d0,vU g0,vU j0,vU k0,vU p0,vU q0,vU s0]) I I (z0.memA .t1)) .nil) I ?_
 cases h
 exact z0.gv
 refine Ar<|Af<|Ac (AH I (v0.memA .hd))<|AV [vW ((ac a0).toNat:Int),vW 0,vW 0,vW 0,vW 0,vW 0,vW 0,vW 0] v0 .t1 (ai I) fun g1 A0 V0=>Aa<|Am I<|Au hb0 func90 I (.cons (.many (cs:=[vW ((ac a0).toNat:Int),vW 0,vW 0,vW 0,vW 0,vW 0,vW 0,vW 0]) I I (A0.memA .t1)) .nil) I ?_
 cases h
 exact A0.gv
def dO_p (n:Nat) (a0:Int) (a1:Int):Oa (Ta × Int):=
  (dK_p n a0).bind fun c0=>(dK_p n a1).bind fun d0=>(dU_p n c0 d0).bind fun b0=>some (b0.1,b0.2)
theorem dO_c (n:Nat) {L w} (hL:hl L w) {a0:Int} {a1:Int}  {r:Ta × Int} (h:dO_p n a0 a1 = some r) :
 Cl 58 #[vI a0,vI a1] w (ae w fun _ u=>u = .tuple #[.agg ((ab r.1)).toArray,vI r.2]):=by
 unfold dO_p at h
 refine AF func58 I I I fun _ cs0 hb0=>Af<|RG.nl zL (AA w) fun v0 s0 b0 t0=>Ag I<|Aa<|Af<|Ae I<|bk h fun g0 k0 h=>Bj (.agg ((ao g0)).toArray) (bd 90) I (e1 I) (fun w9 hw9=>dK_c n (b0.hL0 hL hw9)  k0) I<|Ae I<|bk h fun j0 p0 h=>Bj (.agg ((ao j0)).toArray) (bd 90) I (e1 I) (fun w9 hw9=>dK_c n (b0.hL0 hL hw9)  p0) I<|bk h fun c0 q0 h=>Bj (.tuple #[.agg ((ab c0.1)).toArray,vI c0.2]) (bd 89) I (e2 I I) (fun w9 hw9=>dU_c n (b0.hL0 hL hw9) g0 j0 q0) I<|Ac (Ak I I)<|Ac (Ak I I)<|AV (ab c0.1) b0 .hd (ai I) fun x0 d0 u0=>Ag I<|Aa<|Am I<|Au hb0 func58 I (.cons (.many (cs:=(ab c0.1)) I I (d0.memA .hd)) (.cons (.tmp I) .nil)) I ?_
 cases h
 exact d0.gv
def aB_p (_n:Nat) (a0:Ta) (a1:Int):Oa (Except Tg Ta):=
  (if a1 = 0 then some (.ok a0) else some (.error (⟨a1⟩:Tg)))
theorem aB_c (n:Nat) {L w} (_hL:hl L w) (a0:Ta) {a1:Int}  {r:Except Tg Ta} (h:aB_p n a0 a1 = some r) :
 Cl 66 #[.agg ((ab a0)).toArray,vI a1] w (aL w (fun (y:Ta) _ u=>u = .agg ((ab y)).toArray) (fun e=>.iface 115 (.agg #[vI e.fA])) r):=by
 unfold aB_p at h
 refine BZ func66 I I I fun _ cs0 hb0 hp0=>Af<|RG.bx (AA w) I I fun t0 j0 g0 p0=>RG.nl zL g0 fun u0 k0 b0 q0=>Aa<|Aj<|Af<|Ae I<|Ac (FV.neq (i:=a1) (j:=0) I I)<|Aa<|MX.ifn I h (fun d0 h=>?_) (fun d0 h=>?_)
 refine Ar<|Af<|Ac (AH I (b0.memA .t1))<|AV (ab a0) b0 .hd (ai I) fun v0 c0 s0=>Aa<|Am I<|Au hb0 func66 I (.cons (.many (cs:=(ab a0)) I I (c0.memA .hd)) .nil) I ?_
 cases h
 exact ⟨c0.ag,fun w9 hw9=>aE I⟩
 refine Ap<|Ae I<|Ac (AS (vs:=[vI a1]) (u:=.agg #[vI a1]) (e1 I) (fun w9=>by kernel_rfl))<|Ac (FV.makeInterface I I)<|RG.panic .plain I ?_
 cases h
 exact Bo hp0 func66 ⟨b0.ag,I⟩
def bT_p (n:Nat) (a0:Int) (a1:Int):Oa (Except Tg Ta):=
  (dO_p n a0 a1).bind fun b0=>(aB_p n b0.1 b0.2).bind fun d0=>exc d0 (fun g0=>some (.ok g0)) (fun c0=>some (.error c0))
theorem bT_c (n:Nat) {L w} (hL:hl L w) {a0:Int} {a1:Int}  {r:Except Tg Ta} (h:bT_p n a0 a1 = some r) :
 Cl 31 #[vI a0,vI a1] w (aL w (fun (y:Ta) _ u=>u = .agg ((ab y)).toArray) (fun e=>.iface 115 (.agg #[vI e.fA])) r):=by
 unfold bT_p at h
 refine BZ func31 I I I fun _ cs0 hb0 hp0=>Af<|RG.nl zL (AA w) fun y0 s0 b0 u0=>Aa<|Af<|Ae I<|Ae I<|bk h fun c0 q0 h=>Bj (.tuple #[.agg ((ab c0.1)).toArray,vI c0.2]) (bd 58) I (e2 I I) (fun w9 hw9=>dO_c n (b0.hL0 hL hw9)  q0) I<|Ac (Ak I I)<|Ac (Ak I I)<|xk h (fun t0 d0 h=>?_) (fun g0 d0 h=>?_)
 refine BE (fst:=[]) (cap:=[]) .plain (bd 66) I (e2 I I) (fun w9 hw9=>aB_c n (b0.hL0 hL hw9) c0.1 d0) fun z0 p0=>?_
 obtain ⟨k0,v0⟩:=b0.agr p0
 cases h
 exact Bo hp0 func31 ⟨k0.ag,I⟩
 refine Bj (.agg ((ab g0)).toArray) (bd 66) I (e2 I I) (fun w9 hw9=>Bm (aB_c n (b0.hL0 hL hw9) c0.1 d0)) I<|AV (ab g0) b0 .hd (ai I) fun A0 j0 x0=>Aa<|Am I<|Au hb0 func31 I (.cons (.many (cs:=(ab g0)) I I (j0.memA .hd)) .nil) I ?_
 cases h
 exact ⟨j0.ag,fun w9 hw9=>aE I⟩
def cz_l1 (n:Nat) (j0:List (Int × Int)) (q0:Int × Int × Nat -> Oa (Int × Int)):Int × Int × Nat -> Oa (Int × Int)
  | (k0,p0,d0)=>(if d0 < j0.length then (j0[d0]?).bind fun b0=>(chk (b0.1 - b0.2)).bind fun s0=>(chk (2 * s0)).bind fun t0=>(chk (k0 + t0)).bind fun g0=>jn (fun B0=>(bQ_p n b0).bind fun y0=>(chk (p0 + y0)).bind fun u0=>q0 (B0,u0,d0 + 1)) (fun c0=>(if b0.2 < b0.1 then (bQ_p n b0).bind fun z0=>(chk (g0 - z0)).bind fun v0=>c0 v0 else (if b0.1 < b0.2 then (bQ_p n b0).bind fun A0=>(chk (g0 + A0)).bind fun x0=>c0 x0 else c0 g0))) else some (p0,k0))
def cz_p (n:Nat) (a0:Te) (a1:List Int) (a2:Int) (a3:Int) (a4:Int):Oa (Except Tg Ta):=
  (ba_p n a0 a1 a2 a3 a4).bind fun g0=>exc g0 (fun j0=>Option.bind (aj (cz_l1 n j0) n (0,0,0)) (fun (s0,q0)=>(chk (2 * s0)).bind fun d0=>(bT_p n q0 d0).bind fun k0=>exc k0 (fun p0=>some (.ok p0)) (fun c0=>some (.error c0)))) (fun b0=>some (.error b0))
theorem cz_c (n:Nat) {L w} (hL:hl L w) (a0:Te) {v0_3:Vc} (h0_3:Rep.R w L [v0_3] a0.ft) {p0:Nat} (m0:∀ j9 v9,([vI a0.fh,vI a0.fc,vI a0.fj,v0_3]:List Vc)[j9]? = some v9 -> w.cell? ((⟨p0,0,none⟩:Addr).add j9) = some v9) {a1:List Int} {v1_0:Vc} (h1_0:Rep.R w L [v1_0] a1) {p1:Nat} (m1:∀ j9 v9,([v1_0]:List Vc)[j9]? = some v9 -> w.cell? ((⟨p1,0,none⟩:Addr).add j9) = some v9) {a2:Int} {p2:Nat} (m2:∀ j9 v9,([vI a2]:List Vc)[j9]? = some v9 -> w.cell? ((⟨p2,0,none⟩:Addr).add j9) = some v9) {a3:Int} {p3:Nat} (m3:∀ j9 v9,([vI a3]:List Vc)[j9]? = some v9 -> w.cell? ((⟨p3,0,none⟩:Addr).add j9) = some v9) {a4:Int} {p4:Nat} (m4:∀ j9 v9,([vI a4]:List Vc)[j9]? = some v9 -> w.cell? ((⟨p4,0,none⟩:Addr).add j9) = some v9)  {r:Except Tg Ta} (h:cz_p n a0 a1 a2 a3 a4 = some r) :
 Cl 28 #[.pointer (some ⟨p0,0,none⟩),.pointer (some ⟨p1,0,none⟩),.pointer (some ⟨p2,0,none⟩),.pointer (some ⟨p3,0,none⟩),.pointer (some ⟨p4,0,none⟩)] w (aL w (fun (y:Ta) _ u=>u = .agg ((ab y)).toArray) (fun e=>.iface 115 (.agg #[vI e.fA])) r):=by
 unfold cz_p at h
 refine BZ func28 I I I fun _ cs0 hb0 hp0=>Af<|RG.nl zL (AA w) fun u2 u0 c0 b2=>Aa<|Af<|Ag I<|Ag I<|Aa<|Aj<|Af<|Ac (AH I (fun j9 v9 h9=>c0.ag.cell0 (m0 j9 v9 h9)))<|AR I ((fun j9 v9 h9=>c0.ag.cell0 (m1 j9 v9 h9)) 0 _ I)<|AR I ((fun j9 v9 h9=>c0.ag.cell0 (m2 j9 v9 h9)) 0 _ I)<|AR I ((fun j9 v9 h9=>c0.ag.cell0 (m3 j9 v9 h9)) 0 _ I)<|AR I ((fun j9 v9 h9=>c0.ag.cell0 (m4 j9 v9 h9)) 0 _ I)<|xk h (fun Y1 z0 h=>?_) (fun t0 z0 h=>?_)
 refine BE (fst:=[]) (cap:=[]) .plain (bd 29) I (e5 I I I I I) (fun w9 hw9=>ba_c n (c0.hL hL hw9) a0 (c0.km h0_3 hw9) (c0.km h1_0 hw9) z0) fun y2 j1=>?_
 obtain ⟨W0,g2⟩:=c0.agr j1
 cases h
 exact Bo hp0 func28 ⟨W0.ag,I⟩
 refine jE (bd 29) I (e5 I I I I I) (fun w9 hw9=>Bm (ba_c n (c0.hL hL hw9) a0 (c0.km h0_3 hw9) (c0.km h1_0 hw9) z0)) I fun B2 G0 k1 ⟨t2,hu_,y0⟩=>?_
 subst hu_
 obtain ⟨X0,j2⟩:=c0.agr k1
 have k2:=AU y0
 refine Ac (Ba (xs:=t0) underlying76 I y0)<|Ae I<|Aa<|Ax ?_
 obtain ⟨q2,v1,s1⟩:=aq h
 refine MX.lo (α:=Int × Int × Nat) (fun ⟨k0,j0,g0⟩=>[(5,vP u0),(6,vI k0),(7,vI j0),(15,G0),(16,vn t0.length),(17,vn g0)]) (fun ⟨k0,j0,g0⟩=>[.cells u0 zL 48]) (fun ⟨k0,j0,g0⟩=>(k0,j0,g0)) (0,0,0) v1 X0 ?_
 rintro U1 ⟨k0,j0,g0⟩ C2 Q0 s0 F0 h
 unfold cz_l1 at h
 try dsimp only at h
 refine Af<|Ac (Bp (i:=g0) (j:=t0.length) I I)<|Aa<|Aj<|AQ I h (fun K0 h=>?_) (fun K0 h=>?_)
 refine Ar<|Aj<|Ax<|Af<|bk h fun d0 F1 h=>?_
 obtain ⟨R1,W1,q1,t1,X1,x1,u1⟩:=Bh (Ao y0 F0) F1
 obtain rfl:=fO x1
 refine Ac (Bb 2 g0 I q1 I I t1)<|Ac (AH I u1)<|RG.nl [vI 0,vI 0] s0 fun v2 D0 R0 Y0=>AV [vI d0.1,vI d0.2] R0 .hd (ai I) fun x2 b0 Z0=>Aa<|Af<|Ae I<|Ac (AO (m:=1) (k:=0) (len:=2) I I I I (by omega))<|AR I ((b0.memA .hd) 0 _ I)<|Ac (AO (m:=1) (k:=1) (len:=2) I I I I (by omega))<|AR I ((b0.memA .hd) 1 _ I)<|bk h fun J1 y1 h=>Ac (BQ (i:=d0.1) (j:=d0.2) I I y1)<|bk h fun K1 z1 h=>Ac (FV.mulc (i:=2) (j:=J1) I I z1)<|bk h fun B0 A1 h=>Ac (Bw (i:=k0) (j:=K1) I I A1)<|Ag I<|Aa<|Aj<|Ax<|Af<|Ac (AO (m:=1) (k:=0) (len:=2) I I I I (by omega))<|AR I ((b0.memA .hd) 0 _ I)<|Ac (AO (m:=1) (k:=1) (len:=2) I I I I (by omega))<|AR I ((b0.memA .hd) 1 _ I)<|Ac (FV.gtr (i:=d0.1) (j:=d0.2) I I)<|Ag I<|Aa<|MX.jo (α:=Int) (fun q0=>[(5,vP u0),(6,vI q0),(7,vI j0),(15,G0),(16,vn t0.length),(17,vn g0),(9,vP D0)]) (fun q0=>[.cells D0 [vI d0.1,vI d0.2] 78,.cells u0 zL 48]) (fun q0=>q0) b0 h ?_ ?_
 rintro q0 D2 x0 b1 h
 try dsimp only at h
 refine AC<|Ap<|Ae I<|Ac (AH I (x0.memA .hd))<|bk h fun H0 G1 h=>Bj (vI H0) (bd 30) I (e1 I) (fun w9 hw9=>bQ_c n (x0.hL0 hL hw9) d0 G1) I<|bk h fun M1 B1 h=>Ac (Bw (i:=j0) (j:=H0) I I B1)<|Ag I<|Aa<|AC<|Ap<|Ac (Bl (i:=g0) (j:=1) I I (by omega))<|Ae I<|Aa ?_
 obtain ⟨U0,c1⟩:=AK x0 .d1
 exact Q0 (q0,M1,g0 + 1) U0 (Tt F0 (Tt Y0 (Tt Z0 (Tt b1 c1)))) h
 intro V1 v0 h
 try dsimp only at h
 refine AQ I h (fun M0 h=>?_) (fun M0 h=>?_)
 refine Ap<|Ae I<|Ac (AH I (b0.memA .hd))<|bk h fun I0 H1 h=>Bj (vI I0) (bd 30) I (e1 I) (fun w9 hw9=>bQ_c n (b0.hL0 hL hw9) d0 H1) I<|bk h fun P1 C1 h=>Ac (BQ (i:=B0) (j:=I0) I I C1)<|Ag I<|Aa<|v0 P1 b0 (Bx _ _) h
 refine Af<|Ac (AO (m:=1) (k:=0) (len:=2) I I I I (by omega))<|AR I ((b0.memA .hd) 0 _ I)<|Ac (AO (m:=1) (k:=1) (len:=2) I I I I (by omega))<|AR I ((b0.memA .hd) 1 _ I)<|Ac (BO (i:=d0.1) (j:=d0.2) I I)<|Ag I<|Aa<|AQ I h (fun P0 h=>?_) (fun P0 h=>?_)
 refine Ap<|Ae I<|Ac (AH I (b0.memA .hd))<|bk h fun J0 I1 h=>Bj (vI J0) (bd 30) I (e1 I) (fun w9 hw9=>bQ_c n (b0.hL0 hL hw9) d0 I1) I<|bk h fun Q1 D1 h=>Ac (Bw (i:=B0) (j:=J0) I I D1)<|Ag I<|Aa<|v0 Q1 b0 (Bx _ _) h
 refine Ar<|v0 B0 b0 (Bx _ _) h
 refine AX I ?_
 have h:=s1 _ h
 try dsimp only at h
 refine Af<|Ae I<|Ae I<|bk h fun s2 E1 h=>Ac (FV.mulc (i:=2) (j:=j0) I I E1)<|xk h (fun Z1 A0 h=>?_) (fun C0 A0 h=>?_)
 refine BE (fst:=[]) (cap:=[]) .plain (bd 31) I (e2 I I) (fun w9 hw9=>bT_c n (s0.hL0 hL hw9)  A0) fun z2 g1=>?_
 obtain ⟨V0,c2⟩:=s0.agr g1
 cases h
 exact Bo hp0 func28 ⟨V0.ag,I⟩
 refine Bj (.agg ((ab C0)).toArray) (bd 31) I (e2 I I) (fun w9 hw9=>Bm (bT_c n (s0.hL0 hL hw9)  A0)) I<|AV (ab C0) s0 .hd (ai I) fun A2 E0 d2=>Aa<|Am I<|Au hb0 func28 I (.cons (.many (cs:=(ab C0)) I I (E0.memA .hd)) .nil) I ?_
 cases h
 exact ⟨E0.ag,fun w9 hw9=>aE I⟩
def cQ_p (n:Nat) (a0:Te) (a1:List Int) (a2:Int) (a3:Int) (a4:Int):Oa (Ta × Int):=
  (cz_p n a0 a1 a2 a3 a4).bind fun c0=>exc c0 (fun d0=>some (d0,(0:Int))) (fun b0=>some ((⟨(0,0,0,0,0,0,0,0),(0,0,0,0,0,0,0,0)⟩:Ta),b0.fA))
theorem cQ_c (n:Nat) {L w} (hL:hl L w) (a0:Te) {v0_3:Vc} (h0_3:Rep.R w L [v0_3] a0.ft) {a1:List Int} {v1_0:Vc} (h1_0:Rep.R w L [v1_0] a1) {a2:Int} {a3:Int} {a4:Int}  {r:Ta × Int} (h:cQ_p n a0 a1 a2 a3 a4 = some r) :
 Cl 6 #[.agg #[vI a0.fh,vI a0.fc,vI a0.fj,v0_3],v1_0,vI a2,vI a3,vI a4] w (ae w fun _ u=>u = .tuple #[.agg ((ab r.1)).toArray,vI r.2]):=by
 unfold cQ_p at h
 refine AF func6 I I I fun _ cs0 hb0=>Af<|RG.bx (AA w) I I fun b2 j0 F0 G1=>RG.bx F0 I (Rep.c1 (AT h1_0 F0)) fun q2 p0 U0 J1=>RG.bx U0 I I fun s2 q0 V0 K1=>RG.bx V0 I I fun u2 s0 W0 M1=>RG.bx W0 I I fun w32 t0 X0 P1=>RG.nl zL X0 fun v2 K0 Y0 Q1=>Ag I<|Aa<|Af<|Ac (BX (vs:=[]) (us:=[vP j0,vP p0,vP q0,vP s0,vP t0]) ak (e5 I I I I I))<|BK (fst:=[]) (cap:=[]) (vs:=[.func (.func 28) #[] #[vP j0,vP p0,vP q0,vP s0,vP t0]]) .plain (bd 27) func27 I I I I (e1 I) I fun B1 I0 Z1=>Af<|RG.nl zL Y0 fun x2 u0 Z0 R1=>RG.nl [vI 0] Z0 fun y2 d0 b0 U1=>?_
 refine Aa<|Af<|Ac (BX (vs:=[]) (us:=[vP u0,vP d0]) ak (e2 I I))<|RG.defer (fst:=[]) (cap:=[vP u0,vP d0]) (vs:=[]) I .plain I ak<|Aa<|Af<|Ae I<|xk h (fun x0 C0 h=>?_) (fun g0 C0 h=>?_)
 refine BE (fst:=[]) (cap:=[vP j0,vP p0,vP q0,vP s0,vP t0]) .plain (bd 28) I ak (fun w9 hw9=>cz_c n (b0.hL0 hL hw9) a0 (b0.k0 h0_3 hw9) (am hw9 (b0.memA .t7)) (b0.k0 h1_0 hw9) (am hw9 (b0.memA .t6)) (am hw9 (b0.memA .t5)) (am hw9 (b0.memA .t4)) (am hw9 (b0.memA .t3)) C0) fun z2 p1=>?_
 obtain ⟨b1,V1⟩:=b0.agr p1
 refine PN.callD (vs:=[]) (cap:=[vP u0,vP d0]) (bd 64) func64 I I I fun A1 q1 u1=>Af<|RG.recover1 .plain q1 I<|Ag I<|Aa<|Af<|Ae I<|Ac (FV.neqI underlying20 I I)<|Aa<|Bq I<|Af<|Ae I<|Ac (FV.assertT I I)<|Ae I<|Ac (Ak I I)<|Ac (Ak I I)<|RG.nl [vI 0] b1 fun A2 x1 d1 W1=>AV [vI x0.fA] d1 .hd (o1 I) fun B2 g1 X1=>Ag I<|Aa<|Aj<|Af<|Ae I<|Ac (Bu I)<|Aa<|BF I<|Ar<|Af<|RG.nl zL g1 fun C2 y1 v0 Y1=>Aa<|du 3 fun c0 D0=>Rx 0 24 c0 I D0 (AH I (v0.memA .hd))<|Rv 1 c0 I D0 (fun _=>Bi 0 I)<|RD.mo (α:=Unit) (fun ()=>[(1,vP d0),(19,vI x0.fA)]) (fun ()=>[.cells d0 [vI 0] 49,.cells u0 zL 48,.cells K0 zL 48,.cells t0 [vI a4] 3,.cells s0 [vI a3] 3,.cells q0 [vI a2] 3,.cells p0 [v1_0] 39,.cells j0 [vI a0.fh,vI a0.fc,vI a0.fj,v0_3] 37]) v0 1 15 ?_ ?_
 rintro ⟨⟩ D2 M0 C1
 try dsimp only
 refine BG 4 31 c0 I I .plain (AE (news:=[vI x0.fA]) M0 .hd I I I I I I (o1 I)) fun c2 z0 D1=>AN (dk c0)<|MX.fin I<|RT.leaveD1 u1 func64 I .nil<|Au (u:=.tuple #[.agg zM,vI x0.fA]) I0 func27 I (.cons (.many (cs:=zL) I I (z0.memA .t1)) (.cons (.one I I ((z0.memA .hd) 0 _ I)) .nil)) I<|Ac (Ak I I)<|Ac (Ak I I)<|AV zL z0 .t2 (ai I) fun g2 G0 E1=>Ag I<|Aa<|Am I<|Au hb0 func6 I (.cons (.many (cs:=zL) I I (G0.memA .t2)) (.cons (.tmp I) .nil)) I ?_
 cases h
 exact G0.gv
 intro E0
 refine Bz [2,3] (rk c0) ⟨?_,?_,trivial⟩
 refine RO.val (m' :=7) (sk c0) I .plain I (AP I ((v0.memA .t1) 0 _ I))<|BG 3 15 c0 I I .plain (AE (news:=zL) v0 .t3 I I I I I I (ai I)) fun v1 y0 B0=>?_
 obtain ⟨P0,j1⟩:=AK y0 .d2
 exact E0 () P0 (Tt B0 j1)
 refine RO.now (m' :=11) (sk c0) I I .plain (AE (news:=zL) v0 .t3 I I I I I I (ai I)) fun v1 y0 B0=>Rx 2 16 c0 I D0 (AP I ((y0.memA .t1) 0 _ I)) ?_
 obtain ⟨Q0,k1⟩:=AK y0 .d2
 exact E0 () Q0 (Tt B0 k1)
 refine RG.callq' (v:=.agg ((ab g0)).toArray) (fst:=[]) (cap:=[vP j0,vP p0,vP q0,vP s0,vP t0]) .plain (bd 28) I ak (fun w9 hw9=>Bm (cz_c n (b0.hL0 hL hw9) a0 (b0.k0 h0_3 hw9) (am hw9 (b0.memA .t7)) (b0.k0 h1_0 hw9) (am hw9 (b0.memA .t6)) (am hw9 (b0.memA .t5)) (am hw9 (b0.memA .t4)) (am hw9 (b0.memA .t3)) C0)) I<|AV (ab g0) b0 .t1 (ai I) fun j2 R0 F1=>AV [vI 0] R0 .hd (o1 I) fun k2 A0 H1=>Aa<|Am I<|RT.callD (vs:=[]) (cap:=[vP u0,vP d0]) (bd 64) func64 I I I fun z1 J0 s1=>Af<|RG.recover0 .plain J0 I<|Ag I<|Aa<|Af<|Ae I<|Ac (FV.neqI0 underlying20 I I)<|Aa<|BF I<|Ar<|MX.fin I<|RT.leaveD0 J0 s1 func64 I .nil<|Au (u:=.tuple #[.agg ((ab g0)).toArray,vI 0]) I0 func27 I (.cons (.many (cs:=(ab g0)) I I (A0.memA .t1)) (.cons (.one I I ((A0.memA .hd) 0 _ I)) .nil)) I<|Ac (Ak I I)<|Ac (Ak I I)<|AV (ab g0) A0 .t2 (ai I) fun p2 H0 I1=>Ag I<|Aa<|Am I<|Au hb0 func6 I (.cons (.many (cs:=(ab g0)) I I (H0.memA .t2)) (.cons (.tmp I) .nil)) I ?_
 cases h
 exact H0.gv
def cW_p (n:Nat) (a0:Int × Int):Oa (Except Tg Ta):=
  (bQ_p n a0).bind fun c0=>(bT_p n a0.1 c0).bind fun d0=>exc d0 (fun g0=>some (.ok g0)) (fun b0=>some (.error b0))
theorem cW_c (n:Nat) {L w} (hL:hl L w) (a0:Int × Int)  {r:Except Tg Ta} (h:cW_p n a0 = some r) :
 Cl 70 #[.agg #[vI a0.1,vI a0.2]] w (aL w (fun (y:Ta) _ u=>u = .agg ((ab y)).toArray) (fun e=>.iface 115 (.agg #[vI e.fA])) r):=by
 unfold cW_p at h
 refine BZ func70 I I I fun _ cs0 hb0 hp0=>Af<|RG.bx (AA w) I I fun D0 v0 p0 z0=>RG.nl zL p0 fun E0 x0 c0 A0=>Aa<|Aj<|du 5 fun b0 d0=>Rv 0 b0 I d0 (fun _=>AO (m:=1) (k:=0) (len:=2) I I I I (by omega))<|Rx 1 48 b0 I d0 (AP I ((c0.memA .t1) 0 _ I))<|Rx 2 56 b0 I d0 (AH I (c0.memA .t1))<|bk h fun u0 t0 h=>BV 3 15 48 (vI u0) b0 I d0 (bd 30) I (e1 I) (fun w9 hw9=>bQ_c n (c0.hL0 hL hw9) a0 t0) I<|xk h (fun y0 g0 h=>?_) (fun j0 g0 h=>?_)
 refine BM (i:=4) (rk b0) (RO.callE (fst:=[]) (cap:=[]) I .plain (bd 31) I (e2 I I) (fun w9 hw9=>bT_c n (c0.hL0 hL hw9)  g0) (fun F0 s0=>?_))
 obtain ⟨q0,B0⟩:=c0.agr s0
 cases h
 exact Bo hp0 func70 ⟨q0.ag,I⟩
 refine BV 4 31 32 (.agg ((ab j0)).toArray) b0 I d0 (bd 31) I (e2 I I) (fun w9 hw9=>Bm (bT_c n (c0.hL0 hL hw9)  g0)) I<|BG 5 63 b0 I I .plain (AE (news:=(ab j0)) c0 .hd I I I I I I (ai I)) fun G0 k0 C0=>AN (dk b0)<|Am I<|Au hb0 func70 I (.cons (.many (cs:=(ab j0)) I I (k0.memA .hd)) .nil) I ?_
 cases h
 exact ⟨k0.ag,fun w9 hw9=>aE I⟩
def dF_p (n:Nat) (a0:Ua):Oa Int:=
  (cB_p n a0).bind fun y1=>some y1
theorem dF_c (n:Nat) {L w} (hL:hl L w) (a0:Ua)  {r:Int} (h:dF_p n a0 = some r) :
 Cl 96 #[vU a0] w (ae w fun _ u=>u = vI r):=by
 unfold dF_p at h
 have hS0:=AA w
 refine AF func96 I I I fun _ cs0 hb0=>Af<|Ag I<|Aa<|Aj<|BF I<|Ar<|Af<|Ae I<|bk h fun y1 hy1 h=>Bj (vI y1) (bd 136) I (e1 I) (fun w9 hw9=>cB_c n (hS0.hL0 hL hw9) a0 hy1) I<|Ag I<|Aa<|Am I<|AW hb0 func96 I I ?_
 cases h
 exact hS0.gv
def cr_p (_n:Nat) (a0:Int) (a1:Int):Oa (Except Tg Int):=
  (if a1 = 0 then some (.ok a0) else some (.error (⟨a1⟩:Tg)))
theorem cr_c (n:Nat) {L w} (_hL:hl L w) {a0:Int} {a1:Int}  {r:Except Tg Int} (h:cr_p n a0 a1 = some r) :
 Cl 48 #[vI a0,vI a1] w (aL w (fun (y:Int) _ u=>u = vI y) (fun e=>.iface 115 (.agg #[vI e.fA])) r):=by
 unfold cr_p at h
 have hS0:=AA w
 refine BZ func48 I I I fun _ cs0 hb0 hp0=>Af<|Ag I<|Aa<|Aj<|Af<|Ae I<|Ac (FV.neq (i:=a1) (j:=0) I I)<|Aa<|MX.ifn I h (fun c1 h=>?_) (fun c1 h=>?_)
 refine Ar<|Af<|Ae I<|Ag I<|Aa<|Am I<|AW hb0 func48 I I ?_
 cases h
 exact ⟨hS0.ag,fun w9 hw9=>aE I⟩
 refine Ap<|Ae I<|Ac (AS (vs:=[vI a1]) (u:=.agg #[vI a1]) (e1 I) (fun w9=>by kernel_rfl))<|Ac (FV.makeInterface I I)<|RG.panic .plain I ?_
 cases h
 exact Bo hp0 func48 ⟨hS0.ag,I⟩
def bb_p (n:Nat) (a0:Ta):Oa Tj:=
  (bY_p n a0.fN).bind fun b0=>(bY_p n a0.fD).bind fun c0=>some (⟨b0,c0⟩:Tj)
theorem bb_c (n:Nat) {L w} (hL:hl L w) (a0:Ta)  {r:Tj} (h:bb_p n a0 = some r) :
 Cl 109 #[.agg ((ab a0)).toArray] w (ae w fun w' u=>∃ v0_1 v0_3:Vc,u = .agg #[.bool r.fy.fe,v0_1,.bool r.fv.fe,v0_3]/\Rep.R w' L [v0_1] r.fy.fo/\Rep.R w' L [v0_3] r.fv.fo):=by
 unfold bb_p at h
 refine AF func109 I I I fun _ cs0 hb0=>Af<|RG.bx (AA w) I I fun X0 J0 z0 Q0=>RG.nl [.bool false,vN,.bool false,vN] z0 fun Y0 K0 j0 R0=>Aa<|Aj<|du 7 fun b0 c0=>Rv 0 b0 I c0 (fun _=>Bi 0 I)<|Rx 1 228 b0 I c0 (Bk (cs:=(ao a0.fN)) I I (ah (j0.memA .t1) 0 8))<|Rv 3 b0 I c0 (fun _=>Bi 8 I)<|Rx 4 224 b0 I c0 (Bk (cs:=(ao a0.fD)) I I (ah (j0.memA .t1) 8 8))<|bk h fun p0 F0 h=>Bs 2 31 b0 I .plain (bd 119) I (e1 I) (fun w9 hw9=>bY_c n (j0.hL hL hw9) a0.fN F0) I fun Z0 V0 B0 ⟨d0,hu_,y0⟩=>?_
 subst hu_
 obtain ⟨t0,U0⟩:=j0.agr B0
 refine bk h fun q0 G0 h=>Bs 5 63 b0 I .plain (bd 119) I (e1 I) (fun w9 hw9=>bY_c n (t0.hL hL hw9) a0.fD G0) I fun b1 W0 C0 ⟨g0,hu_,s0⟩=>?_
 subst hu_
 obtain ⟨A0,u0⟩:=t0.agr C0
 have x0:=Ao y0 u0
 obtain ⟨H0,M0,D0,_⟩:=BR x0
 obtain ⟨I0,P0,E0,_⟩:=BR s0
 refine Rv 6 b0 I c0 (fun _=>AS (vs:=[.agg #[.bool p0.fe,d0],.agg #[.bool q0.fe,g0]]) (u:=.agg #[.bool p0.fe,d0,.bool q0.fe,g0]) (e2 I I) (fun w9=>by rw [D0,E0]; try kernel_rfl))<|BG 7 255 b0 I I .plain (AE (news:=[.bool p0.fe,d0,.bool q0.fe,g0]) A0 .hd I I I I I I (o4 I (AY x0) I (AY s0))) fun c1 k0 v0=>AN (dk b0)<|Am I<|Au hb0 func109 I (.cons (.many (cs:=[.bool p0.fe,d0,.bool q0.fe,g0]) I I (k0.memA .hd)) .nil) I ?_
 cases h
 exact ⟨k0.ag,fun w9 hw9=>⟨d0,g0,I,k0.kd (Ao y0 (Tt u0 v0)) hw9,k0.kd (Ao s0 v0) hw9⟩⟩

def dr_p (n:Nat) (a0:Ti) (a1:Ti):Oa Ti:=
  (bC_p n a1).bind fun b0=>(bR_p n a0 b0).bind fun c0=>some c0
theorem dr_c (n:Nat) {L w} (hL:hl L w) (a0:Ti) {v0_1:Vc} (h0_1:Rep.R w L [v0_1] a0.fo) (a1:Ti) {v1_1:Vc} (h1_1:Rep.R w L [v1_1] a1.fo)  {r:Ti} (h:dr_p n a0 a1 = some r) :
 Cl 150 #[.agg #[.bool a0.fe,v0_1],.agg #[.bool a1.fe,v1_1]] w (ae w fun w' u=>∃ v0_1:Vc,u = .agg #[.bool r.fe,v0_1]/\Rep.R w' L [v0_1] r.fo):=by
 unfold dr_p at h
 refine AF func150 I I I fun _ cs0 hb0=>Af<|RG.bx (AA w) I I fun R0 D0 s0 G0=>RG.bx s0 I I fun U0 E0 t0 H0=>RG.nl [.bool false,vN] t0 fun V0 F0 c0 I0=>Aa<|Aj<|du 4 fun b0 p0=>Rx 0 24 b0 I p0 (AH I (c0.memA .t2))<|Rx 1 28 b0 I p0 (AH I (c0.memA .t1))<|bk h fun C0 A0 h=>Bs 2 7 b0 I .plain (bd 160) I (e1 I) (fun p q=>bC_c n (c0.hL hL q) a1 (c0.km h1_1 q) A0) I fun W0 P0 x0 ⟨M0,hu_,z0⟩=>?_
 subst hu_
 obtain ⟨d0,J0⟩:=c0.agr x0
 refine bk h fun q0 B0 h=>Bs 3 15 b0 I .plain (bd 175) I (e2 I I) (fun p q=>bR_c n (d0.hL hL q) a0 (d0.km h0_1 q) C0 (Aw z0 q) B0) I fun X0 Q0 y0 ⟨j0,hu_,k0⟩=>?_
 subst hu_
 obtain ⟨u0,K0⟩:=d0.agr y0
 refine BG 4 31 b0 I I .plain (AE (news:=[.bool q0.fe,j0]) u0 .hd I I I I I I (o2 I (AY k0))) fun Y0 g0 v0=>AN (dk b0)<|Am I<|Au hb0 func150 I (.cons (.many (cs:=[.bool q0.fe,j0]) I I (g0.memA .hd)) .nil) I ?_
 cases h
 exact ⟨g0.ag,fun p q=>⟨j0,I,g0.kd (Ao k0 v0) q⟩⟩
def cI_p (_n:Nat) (a0:Ti):Oa Int:=
  (if a0.fe = true then some (-1:Int) else (if a0.fo.length = 0 then some (0:Int) else some (1:Int)))
theorem cI_c (n:Nat) {L w} (_hL:hl L w) (a0:Ti) {v0_1:Vc} (h0_1:Rep.R w L [v0_1] a0.fo)  {r:Int} (h:cI_p n a0 = some r) :
 Cl 151 #[.agg #[.bool a0.fe,v0_1]] w (ae w fun _ u=>u = vI r):=by
 unfold cI_p at h
 refine AF func151 I I I fun _ cs0 hb0=>Af<|RG.bx (AA w) I I fun q0 j0 b0 k0=>Ag I<|Aa<|Aj<|Ax<|Af<|Bd 0 I<|AR I ((b0.memA .hd) 0 _ I)<|Ag I<|Aa<|MX.ifb I h (fun d0 h=>?_) (fun d0 h=>?_)
 refine Af<|Ag I<|Aa<|Am I<|AW hb0 func151 I I ?_
 cases h
 exact b0.gv
 refine Af<|Bd 1 I<|AR I ((b0.memA .hd) 1 _ I) ?_
 have c0:=AT h0_1 b0
 have p0:=AU c0
 refine Ac (Ba (xs:=a0.fo) underlying128 I c0)<|Ac (BP (i:=a0.fo.length) (j:=0) I I)<|Ag I<|Aa<|AQ I h (fun g0 h=>?_) (fun g0 h=>?_)
 refine Af<|Ag I<|Aa<|Am I<|AW hb0 func151 I I ?_
 cases h
 exact b0.gv
 refine Ar<|AC<|Af<|Ag I<|Aa<|Am I<|AW hb0 func151 I I ?_
 cases h
 exact b0.gv
def df_p (n:Nat) (a0:Ti) (a1:Ti):Oa Int:=
  (dr_p n a0 a1).bind fun b0=>(cI_p n b0).bind fun c0=>some c0
theorem df_c (n:Nat) {L w} (hL:hl L w) (a0:Ti) {v0_1:Vc} (h0_1:Rep.R w L [v0_1] a0.fo) (a1:Ti) {v1_1:Vc} (h1_1:Rep.R w L [v1_1] a1.fo)  {r:Int} (h:df_p n a0 a1 = some r) :
 Cl 111 #[.agg #[.bool a0.fe,v0_1],.agg #[.bool a1.fe,v1_1]] w (ae w fun _ u=>u = vI r):=by
 unfold df_p at h
 refine AF func111 I I I fun _ cs0 hb0=>Af<|RG.bx (AA w) I I fun B0 t0 d0 v0=>RG.bx d0 I I fun C0 u0 b0 x0=>Ag I<|Aa<|Af<|Ac (AH I (b0.memA .t1))<|Ac (AH I (b0.memA .hd))<|bk h fun q0 k0 h=>jE (bd 150) I (e2 I I) (fun p q=>dr_c n (b0.hL hL q) a0 (b0.km h0_1 q) a1 (b0.km h1_1 q) k0) I fun D0 A0 g0 ⟨z0,hu_,j0⟩=>?_
 subst hu_
 obtain ⟨c0,y0⟩:=b0.agr g0
 refine bk h fun s0 p0 h=>Bj (vI s0) (bd 151) I (e1 I) (fun p q=>cI_c n (c0.hL0 hL q) q0 (c0.kd j0 q) p0) I<|Ag I<|Aa<|Am I<|AW hb0 func111 I I ?_
 cases h
 exact c0.gv
def dV_p (n:Nat) (a0:Int):Oa Ti:=
  (dK_p n a0).bind fun b0=>(bY_p n b0).bind fun c0=>some c0
theorem dV_c (n:Nat) {L w} (hL:hl L w) {a0:Int}  {r:Ti} (h:dV_p n a0 = some r) :
 Cl 176 #[vI a0] w (ae w fun w' u=>∃ v0_1:Vc,u = .agg #[.bool r.fe,v0_1]/\Rep.R w' L [v0_1] r.fo):=by
 unfold dV_p at h
 refine AF func176 I I I fun _ cs0 hb0=>Af<|RG.nl [.bool false,vN] (AA w) fun A0 v0 b0 x0=>Aa<|Af<|Ae I<|bk h fun j0 t0 h=>Bj (.agg ((ao j0)).toArray) (bd 90) I (e1 I) (fun p q=>dK_c n (b0.hL0 hL q)  t0) I<|bk h fun k0 u0 h=>jE (bd 119) I (e1 I) (fun p q=>bY_c n (b0.hL hL q) j0 u0) I fun B0 z0 s0 ⟨d0,hu_,g0⟩=>?_
 subst hu_
 obtain ⟨p0,y0⟩:=b0.agr s0
 refine AV [.bool k0.fe,d0] p0 .hd (o2 I (AY g0)) fun C0 c0 q0=>Aa<|Am I<|Au hb0 func176 I (.cons (.many (cs:=[.bool k0.fe,d0]) I I (c0.memA .hd)) .nil) I ?_
 cases h
 exact ⟨c0.ag,fun p q=>⟨d0,I,c0.kd (Ao g0 q0) q⟩⟩
def dN_p (n:Nat) (a0:Ta):Oa Int:=
  (dV_p n (1:Int)).bind fun c0=>(bb_p n a0).bind fun b0=>(cI_p n b0.fv).bind fun d0=>(if d0 <= 0 then some (20:Int) else (aH_p n b0.fy b0.fv).bind fun g0=>(df_p n g0 c0).bind fun j0=>(if j0 = 0 then some (0:Int) else some (20:Int)))
theorem dN_c (n:Nat) {L w} (hL:hl L w) (a0:Ta)  {r:Int} (h:dN_p n a0 = some r) :
 Cl 140 #[.agg ((ab a0)).toArray] w (ae w fun _ u=>u = vI r):=by
 unfold dN_p at h
 refine AF func140 I I I fun _ cs0 hb0=>Af<|RG.bx (AA w) I I fun y1 g1 t0 p1=>Ag I<|Aa<|Af<|bk h fun B0 W0 h=>jE (bd 176) I (e1 I) (fun p q=>dV_c n (t0.hL hL q)  W0) I fun z1 u1 Q0 ⟨c1,hu_,x0⟩=>?_
 subst hu_
 obtain ⟨G0,q1⟩:=t0.agr Q0
 refine RG.nl [.bool false,vN] G0 fun A1 j1 H0 u0=>AV [.bool B0.fe,c1] H0 .hd (o2 I (AY (Ao x0 u0))) fun B1 p0 K0=>Aa<|Af<|Ac (AH I (p0.memA .t1))<|bk h fun g0 X0 h=>jE (bd 109) I (e1 I) (fun p q=>bb_c n (p0.hL hL q) a0 X0) I fun C1 v1 R0 ⟨A0,s0,hu_,y0,z0⟩=>?_
 subst hu_
 obtain ⟨I0,M0⟩:=p0.agr R0
 refine RG.nl [.bool false,vN,.bool false,vN] I0 fun D1 k1 J0 k0=>AV [.bool g0.fy.fe,A0,.bool g0.fv.fe,s0] J0 .hd (o4 I (AY (Ao y0 k0)) I (AY (Ao z0 k0))) fun E1 d0 q0=>Aa<|Aj<|Aj<|du 14 fun b0 c0=>Rv 0 b0 I c0 (fun _=>Bi 2 I)<|Rx 1 16380 b0 I c0 (Bk (cs:=[.bool g0.fv.fe,s0]) I I (ah (d0.memA .hd) 2 2))<|bk h fun C0 Y0 h=>?_
 have v0:=Ao z0 (Tt k0 q0)
 refine BV 2 7 16376 (vI C0) b0 I c0 (bd 151) I (e1 I) (fun p q=>cI_c n (d0.hL0 hL q) g0.fv (d0.kd v0 q) Y0) I<|Rv 3 b0 I c0 (fun _=>FV.leq (i:=C0) (j:=0) I I)<|Rv 4 b0 I c0 (fun _=>Ai I)<|RD.ifd (s:=12) I h (fun E0 h=>?_) (fun E0 h=>?_)
 refine Br 8191 1 [(5,13),(6,14),(7,15),(8,16),(9,17),(10,18),(11,19),(12,20)] (F:=[(12,true)]) (U:=[]) b0 c0 (.cons I .nil) .nil ?_
 dsimp only [aF,List.map]
 refine Rv 13 b0 I c0 (fun _=>BN I I)<|AN (dk b0)<|Bq I<|Af<|Ag I<|Aa<|Am I<|AW hb0 func140 I I ?_
 cases h
 exact d0.gv
 refine BJ 5 63 b0 I c0 (.yes I I) (fun _=>Bi 0 I) I<|RD.val (i:=6) (m' :=127) (W:=14848) (tk b0) I c0 (.yes I I) (Bk (cs:=[.bool g0.fy.fe,A0]) I I (ah (d0.memA .hd) 0 2)) I<|BJ 7 255 b0 I c0 (.yes I I) (fun _=>Bi 2 I) I<|RD.val (i:=8) (m' :=511) (W:=14848) (tk b0) I c0 (.yes I I) (Bk (cs:=[.bool g0.fv.fe,s0]) I I (ah (d0.memA .hd) 2 2)) I<|RD.val (i:=10) (m' :=1535) (W:=14336) (tk b0) I c0 (.yes I I) (AH I (d0.memA .t1)) I<|bk h fun d1 Z0 h=>Bs 9 2047 b0 I (.yes I I) (bd 158) I (e2 I I) (fun p q=>aH_c n (d0.hL hL q) g0.fy (Aw (Ao y0 (Tt k0 q0)) q) g0.fv (Aw v0 q) Z0) I fun F1 x1 U0 ⟨s1,hu_,V0⟩=>?_
 subst hu_
 obtain ⟨j0,P0⟩:=d0.agr U0
 refine bk h fun D0 b1 h=>RD.callq (i:=11) (m' :=4095) (W:=12288) (tk b0) I c0 (v:=vI D0) (fst:=[]) (cap:=[]) (.yes I I) (bd 111) I (e2 I I) (fun p q=>df_c n (j0.hL0 hL q) d1 (j0.kd V0 q) B0 (j0.kd (Ao x0 (Tt u0 (Tt K0 (Tt M0 (Tt k0 (Tt q0 P0)))))) q) b1) I<|BJ 12 8191 b0 I c0 (.yes I I) (fun _=>FV.neq (i:=D0) (j:=0) I I) I<|Rv 13 b0 I c0 (fun _=>AZ I I)<|AN (dk b0)<|MX.ifn I h (fun F0 h=>?_) (fun F0 h=>?_)
 refine Ar<|Af<|Ag I<|Aa<|Am I<|AW hb0 func140 I I ?_
 cases h
 exact j0.gv
 refine Af<|Ag I<|Aa<|Am I<|AW hb0 func140 I I ?_
 cases h
 exact j0.gv
def dG_p (n:Nat) (a0:Ta):Oa Bool:=
  (dN_p n a0).bind fun b0=>some (decide (b0 = 0))
theorem dG_c (n:Nat) {L w} (hL:hl L w) (a0:Ta)  {r:Bool} (h:dG_p n a0 = some r) :
 Cl 139 #[.agg ((ab a0)).toArray] w (ae w fun _ u=>u = .bool r):=by
 unfold dG_p at h
 refine AF func139 I I I fun _ cs0 hb0=>Af<|RG.bx (AA w) I I fun k0 g0 b0 j0=>Ag I<|Aa<|Af<|Ac (AH I (b0.memA .hd))<|bk h fun c0 d0 h=>Bj (vI c0) (bd 140) I (e1 I) (fun p q=>dN_c n (b0.hL0 hL q) a0 d0) I<|Ac (FV.eql (i:=c0) (j:=0) I I)<|Ag I<|Aa<|Am I<|AW hb0 func139 I I ?_
 cases h
 exact b0.gv
theorem bw {w:World} {L:List Nat} {cs:List Vc} {x:Ta} (h:Rep.R w L cs x):cs = [vU x.fN.1,vU x.fN.2.1,vU x.fN.2.2.1,vU x.fN.2.2.2.1,vU x.fN.2.2.2.2.1,vU x.fN.2.2.2.2.2.1,vU x.fN.2.2.2.2.2.2.1,vU x.fN.2.2.2.2.2.2.2,vU x.fD.1,vU x.fD.2.1,vU x.fD.2.2.1,vU x.fD.2.2.2.1,vU x.fD.2.2.2.2.1,vU x.fD.2.2.2.2.2.1,vU x.fD.2.2.2.2.2.2.1,vU x.fD.2.2.2.2.2.2.2]:=by
  obtain ⟨c0,r0,rfl,h0,h⟩:=h
  obtain rfl:=oa (x:=x.fN) h0
  obtain rfl:=oa (x:=x.fD) h
  rfl
theorem aY {w:World} {L:List Nat} (a0:U8) (a1:U8):Rep.R w L [vU a0.1,vU a0.2.1,vU a0.2.2.1,vU a0.2.2.2.1,vU a0.2.2.2.2.1,vU a0.2.2.2.2.2.1,vU a0.2.2.2.2.2.2.1,vU a0.2.2.2.2.2.2.2,vU a1.1,vU a1.2.1,vU a1.2.2.1,vU a1.2.2.2.1,vU a1.2.2.2.2.1,vU a1.2.2.2.2.2.1,vU a1.2.2.2.2.2.2.1,vU a1.2.2.2.2.2.2.2] (⟨a0,a1⟩:Ta):=⟨[vU a0.1,vU a0.2.1,vU a0.2.2.1,vU a0.2.2.2.1,vU a0.2.2.2.2.1,vU a0.2.2.2.2.2.1,vU a0.2.2.2.2.2.2.1,vU a0.2.2.2.2.2.2.2],[vU a1.1,vU a1.2.1,vU a1.2.2.1,vU a1.2.2.2.1,vU a1.2.2.2.2.1,vU a1.2.2.2.2.2.1,vU a1.2.2.2.2.2.2.1,vU a1.2.2.2.2.2.2.2],rfl,nM a0.1 a0.2.1 a0.2.2.1 a0.2.2.2.1 a0.2.2.2.2.1 a0.2.2.2.2.2.1 a0.2.2.2.2.2.2.1 a0.2.2.2.2.2.2.2,nM a1.1 a1.2.1 a1.2.2.1 a1.2.2.2.1 a1.2.2.2.2.1 a1.2.2.2.2.2.1 a1.2.2.2.2.2.2.1 a1.2.2.2.2.2.2.2⟩
def bn_l1 (n:Nat) (a0:List Ta) (c0:Nat -> Oa (Bool ⊕ Unit)):Nat -> Oa (Bool ⊕ Unit)
  | b0=>(if b0 < a0.length then (a0[b0]?).bind fun d0=>(dG_p n d0).bind fun g0=>(if g0 = true then c0 (b0 + 1) else some (.inl false)) else some (.inr ()))
def bn_p (n:Nat) (a0:List Ta):Oa Bool:=
  thn (aj (bn_l1 n a0) n 0) (fun _=>some true)
theorem bn_c (n:Nat) {L w} (hL:hl L w) {a0:List Ta} {v0_0:Vc} (h0_0:Rep.R w L [v0_0] a0)  {r:Bool} (h:bn_p n a0 = some r) :
 Cl 101 #[v0_0] w (ae w fun _ u=>u = .bool r):=by
 unfold bn_p at h
 refine AF func101 I I I fun _ cs0 hb0=>Af<|Ag I<|Aa<|Af<|Ag I<|Aa<|Af<|Ae I<|Ae I<|BK (fst:=[]) (cap:=[]) (vs:=[.func (.func 139) #[] #[],v0_0]) .plain (bd 141) func141 I I I I (e2 I I) I fun cs2 hb1 hp3=>Af<|Ag I<|Aa<|Aj<|Af<|Ae I ?_
 have hl4:=AU h0_0
 refine Ac (Ba (xs:=a0) underlying85 I h0_0)<|Ae I<|Aa<|Ax<|tn h fun P0 C0 g0=>MX.lo (α:=Nat) (fun b0=>[(0,.func (.func 139) #[] #[]),(7,v0_0),(8,vn a0.length),(9,vn b0)]) (fun b0=>[]) (fun b0=>b0) 0 C0 (AA w) ?_
 rintro I0 b0 U0 q0 d0 u0 h
 unfold bn_l1 at h
 try dsimp only at h
 refine Af<|Ac (Bp (i:=b0) (j:=a0.length) I I)<|Aa<|Aj<|AQ I h (fun k0 h=>?_) (fun k0 h=>?_)
 refine Ar<|Aj<|Ax<|Af<|bk h fun j0 E0 h=>?_
 obtain ⟨H0,K0,z0,A0,M0,D0,B0⟩:=Bh (AT h0_0 d0) E0
 obtain rfl:=bw D0
 refine Ac (Bb 16 b0 I z0 I I A0)<|Ac (AH I B0)<|RG.nl zL d0 fun Q0 J0 s0 v0=>AV (ab j0) s0 .hd (ai I) fun R0 c0 x0=>Aa<|Af<|Ae I<|Ac (AH I (c0.memA .hd))<|bk h fun G0 F0 h=>Bj (.bool G0) (bd 139) I (e1 I) (fun p q=>dG_c n (c0.hL0 hL q) j0 F0) I<|Ac (Bu I)<|Aa<|MX.ifnb I h (fun p0 h=>?_) (fun p0 h=>?_)
 refine Ar<|AC<|Ap<|Ac (Bl (i:=b0) (j:=1) I I (by omega))<|Ae I<|Aa ?_
 obtain ⟨t0,y0⟩:=AK c0 .done
 exact q0 (b0 + 1) t0 (Tt u0 (Tt v0 (Tt x0 y0))) h
 refine Af<|Ag I<|Aa ?_
 have h:=au h g0
 refine Am I<|Au (u:=.bool false) hb1 func141 I (.cons (.tmp I) .nil) I<|Ag I<|Aa<|Am I<|AW hb0 func101 I I ?_
 cases h
 exact c0.gv
 refine AX I ?_
 have h:=aC h g0
 try dsimp only at h
 refine Af<|Ag I<|Aa<|Am I<|Au (u:=.bool true) hb1 func141 I (.cons (.tmp I) .nil) I<|Ag I<|Aa<|Am I<|AW hb0 func101 I I ?_
 cases h
 exact d0.gv
def dB_p (_n:Nat) (a0:Ua) (a1:Ua):Oa (Ua × Ua):=
  (some (((shrU a0 32) * (a1 &&& (4294967295:Ua))) + (shrU ((a0 &&& (4294967295:Ua)) * (a1 &&& (4294967295:Ua))) 32))).bind fun u1=>(some (shrU ((u1 &&& (4294967295:Ua)) + ((a0 &&& (4294967295:Ua)) * (shrU a1 32))) 32)).bind fun u2=>some ((((shrU a0 32) * (shrU a1 32)) + (shrU u1 32)) + u2,a0 * a1)
theorem dB_c (n:Nat) {L w} (_hL:hl L w) (a0:Ua) (a1:Ua)  {r:Ua × Ua} (h:dB_p n a0 a1 = some r) :
 Cl 182 #[vU a0,vU a1] w (ae w fun _ u=>u = .tuple #[vU r.1,vU r.2]):=by
 unfold dB_p at h
 have hS0:=AA w
 refine AF func182 I I I fun _ cs0 hb0=>Af<|Ag I<|Ag I<|Aa<|Af<|Ae I<|Ac (FV.andU (a:=a0) (b:=(4294967295:Ua)) I I)<|Ag I<|Aa<|Af<|Ae I<|Ac (FV.shrU (a:=a0) (j:=32) I I)<|Ag I<|Aa<|Af<|Ae I<|Ac (FV.andU (a:=a1) (b:=(4294967295:Ua)) I I)<|Ag I<|Aa<|Af<|Ae I<|Ac (FV.shrU (a:=a1) (j:=32) I I)<|Ag I<|Aa<|Af<|Ae I<|Ae I<|Ac (FV.mulU (a:=a0 &&& (4294967295:Ua)) (b:=a1 &&& (4294967295:Ua)) I I)<|Ag I<|Aa<|Af<|Ae I<|Ae I<|Ac (FV.mulU (a:=shrU a0 32) (b:=a1 &&& (4294967295:Ua)) I I)<|Ae I<|Ac (FV.shrU (a:=(a0 &&& (4294967295:Ua)) * (a1 &&& (4294967295:Ua))) (j:=32) I I)<|bk h fun u1 hu1 h=>Ac (FV.as (FV.addU (a:=(shrU a0 32) * (a1 &&& (4294967295:Ua))) (b:=shrU ((a0 &&& (4294967295:Ua)) * (a1 &&& (4294967295:Ua))) 32) I I) (congrArg (fun z:Ua=>Value.int .u64 (z.toNat:Int)) (Option.some.inj hu1)))<|Ag I<|Aa<|Af<|Ae I<|Ac (FV.andU (a:=u1) (b:=(4294967295:Ua)) I I)<|Ag I<|Aa<|Af<|Ae I<|Ac (FV.shrU (a:=u1) (j:=32) I I)<|Ag I<|Aa<|Af<|Ae I<|Ae I<|Ae I ?_
 refine Ac (FV.mulU (a:=a0 &&& (4294967295:Ua)) (b:=shrU a1 32) I I)<|Ac (FV.addU (a:=u1 &&& (4294967295:Ua)) (b:=(a0 &&& (4294967295:Ua)) * (shrU a1 32)) I I)<|Ag I<|Aa<|Af<|Ae I<|Ae I<|Ac (FV.mulU (a:=shrU a0 32) (b:=shrU a1 32) I I)<|Ae I<|Ac (FV.addU (a:=(shrU a0 32) * (shrU a1 32)) (b:=shrU u1 32) I I)<|Ae I<|bk h fun u2 hu2 h=>Ac (FV.as (FV.shrU (a:=(u1 &&& (4294967295:Ua)) + ((a0 &&& (4294967295:Ua)) * (shrU a1 32))) (j:=32) I I) (congrArg (fun z:Ua=>Value.int .u64 (z.toNat:Int)) (Option.some.inj hu2)))<|Ac (FV.addU (a:=((shrU a0 32) * (shrU a1 32)) + (shrU u1 32)) (b:=u2) I I)<|Ag I<|Aa<|Af<|Ae I<|Ae I<|Ac (FV.mulU (a:=a0) (b:=a1) I I)<|Ag I<|Aa<|Am I<|Au hb0 func182 I (.cons (.tmp I) (.cons (.tmp I) .nil)) I ?_
 cases h
 exact hS0.gv
def aU_l1 (n:Nat) (a1:List Ua) (s0:Ua) (d0:Nat) (q0:Ua × Nat × (List Ua) -> Oa ((List Ua) × Ua)):Ua × Nat × (List Ua) -> Oa ((List Ua) × Ua)
  | (g0,b0,c0)=>(if b0 < a1.length then (a1[b0]?).bind fun t0=>(dB_p n s0 t0).bind fun j0=>(c0[d0 + b0]?).bind fun u0=>(add64 u0 j0.2 (0:Ua)).bind fun k0=>(add64 k0.1 g0 (0:Ua)).bind fun p0=>(put c0 ((d0 + b0:Nat):Int) p0.1).bind fun v0=>q0 ((j0.1 + k0.2) + p0.2,b0 + 1,v0) else some (c0,g0))
def aU_l2 (n:Nat) (a0:List Ua) (a1:List Ua) (g0:Nat × (List Ua) -> Oa (List Ua)):Nat × (List Ua) -> Oa (List Ua)
  | (b0,c0)=>(if b0 < a0.length then (a0[b0]?).bind fun k0=>Option.bind (aj (aU_l1 n a1 k0 b0) n (0,0,c0)) (fun (d0,j0)=>(d0[b0 + a1.length]?).bind fun _x490=>(put d0 ((b0 + a1.length:Nat):Int) j0).bind fun p0=>g0 (b0 + 1,p0)) else some c0)
def aU_p (n:Nat) (a0:List Ua) (a1:List Ua):Oa (List Ua):=
  (mk ((a0.length + a1.length:Nat):Int) (0:Ua)).bind fun b0=>Option.bind (aj (aU_l2 n a0 a1) n (0,b0)) (fun c0=>some c0)
theorem aU_c (n:Nat) {L w} (hL:hl L w) {a0:List Ua} {v0_0:Vc} (h0_0:Rep.R w L [v0_0] a0) {a1:List Ua} {v1_0:Vc} (h1_0:Rep.R w L [v1_0] a1)  {r:List Ua} (h:aU_p n a0 a1 = some r) :
 Cl 149 #[v0_0,v1_0] w (ae w fun w' u=>∃ v0_0:Vc,u = v0_0/\Rep.R w' L [v0_0] r):=by
 unfold aU_p at h
 refine AF func149 I I I fun _ cs0 hb0=>Af<|Ag I<|Aa<|Af<|Ae I ?_
 have hl1:=AU h0_0
 refine Ac (Ba (xs:=a0) underlying128 I h0_0)<|Ae I ?_
 have hl2:=AU h1_0
 refine Ac (Ba (xs:=a1) underlying128 I h1_0)<|Ac (Bl (i:=a0.length) (j:=a1.length) I I (by omega))<|bk h fun R0 J0 h=>Al .plain I (Does.mk (α:=Ua) J0 (AA w) cN I) fun Q2 j0 z0 I2=>Ag I<|Aa<|Aj<|Af<|Ae I<|Ac (Ba (xs:=a0) underlying128 I (AT h0_0 z0))<|Ae I<|Aa<|Ax ?_
 obtain ⟨M2,U1,I1⟩:=aq h
 refine MX.lf (α:=Nat × (List Ua) × (List Vc)) (fun ⟨b0,d0,k0⟩=>[(1,v1_0),(5,(.slice (some ⟨j0,0,none⟩) ((a0.length + a1.length:Nat):Int).toNat ((a0.length + a1.length:Nat):Int).toNat)),(22,v0_0),(23,vn a0.length),(24,vn b0)]) (fun ⟨b0,d0,k0⟩=>[rr w 44 Ua (.slice (some ⟨j0,0,none⟩) ((a0.length + a1.length:Nat):Int).toNat ((a0.length + a1.length:Nat):Int).toNat) d0.length k0]) (fun ⟨b0,d0,k0⟩ K0=>Cells K0 (bl [rr w 44 Ua (.slice (some ⟨j0,0,none⟩) ((a0.length + a1.length:Nat):Int).toNat ((a0.length + a1.length:Nat):Int).toNat) d0.length k0] ++ L) k0 d0) (fun ⟨b0,d0,k0⟩=>(b0,d0)) (0,R0,(List.replicate ((a0.length + a1.length:Nat):Int).toNat [vW 0]).flatten) U1 z0 (AD (cs:=(List.replicate ((a0.length + a1.length:Nat):Int).toNat [vW 0]).flatten) (xs:=R0) z0 L (BY J0 I)) ?_
 rintro A2 ⟨b0,d0,k0⟩ K0 q1 t0 x1 F0 h
 unfold aU_l2 at h
 try dsimp only at h
 refine Af<|Ac (Bp (i:=b0) (j:=a0.length) I I)<|Aa<|Aj<|AQ I h (fun Z0 h=>?_) (fun Z0 h=>?_)
 refine Ar<|Aj<|Ax<|Af<|Ae I<|bk h fun D0 c2 h=>?_
 obtain ⟨y2,C2,C1,K1,c1,W1,P1⟩:=Bh (AT h0_0 t0) c2
 have D1:c1 = [vU D0]:=W1; subst D1
 refine Ac (Bb 1 b0 I C1 I I K1)<|AR I (P1 0 _ I)<|Ag I<|Ag I<|Aa<|Af<|Ag I<|Aa<|Aj<|Af<|Ae I<|Ac (Ba (xs:=a1) underlying128 I (AT h1_0 t0))<|Ae I<|Aa<|Ax ?_
 obtain ⟨P2,V1,J1⟩:=aq h
 refine MX.lf (α:=Ua × Nat × (List Ua) × (List Vc)) (fun ⟨s0,c0,p0,q0⟩=>[(1,v1_0),(5,(.slice (some ⟨j0,0,none⟩) ((a0.length + a1.length:Nat):Int).toNat ((a0.length + a1.length:Nat):Int).toNat)),(22,v0_0),(23,vn a0.length),(24,vn b0),(6,vn b0),(7,vU D0),(8,vU s0),(29,v1_0),(30,vn a1.length),(31,vn c0)]) (fun ⟨s0,c0,p0,q0⟩=>[rr w 44 Ua (.slice (some ⟨j0,0,none⟩) ((a0.length + a1.length:Nat):Int).toNat ((a0.length + a1.length:Nat):Int).toNat) p0.length q0]) (fun ⟨s0,c0,p0,q0⟩ M0=>Cells M0 (bl [rr w 44 Ua (.slice (some ⟨j0,0,none⟩) ((a0.length + a1.length:Nat):Int).toNat ((a0.length + a1.length:Nat):Int).toNat) p0.length q0] ++ L) q0 p0) (fun ⟨s0,c0,p0,q0⟩=>(s0,c0,p0)) (0,0,d0,k0) V1 t0 F0 ?_
 rintro B2 ⟨s0,c0,p0,q0⟩ M0 s1 g0 E0 v0 h
 unfold aU_l1 at h
 try dsimp only at h
 refine Af<|Ac (Bp (i:=c0) (j:=a1.length) I I)<|Aa<|Aj<|AQ I h (fun b1 h=>?_) (fun b1 h=>?_)
 refine Ar<|Aj<|Ax<|Af<|Ae I<|bk h fun P0 d2 h=>?_
 obtain ⟨z2,D2,E1,M1,d1,X1,Q1⟩:=Bh (AT h1_0 g0) d2
 have F1:d1 = [vU P0]:=X1; subst F1
 refine Ac (Bb 1 c0 I E1 I I M1)<|AR I (Q1 0 _ I)<|Ag I<|Ag I<|Aa<|Af<|Ae I<|Ae I<|bk h fun u0 q2 h=>Bj (.tuple #[vU u0.1,vU u0.2]) (bd 182) I (e2 I I) (fun p q=>dB_c n (g0.hL0 hL q) D0 P0 q2) I<|Ae I<|Ac (Ak I I)<|Ac (Ak I I)<|Ag I<|Ag I<|Aa<|Af<|Ae I<|Ae I<|Ae I<|Ac (Bl (i:=b0) (j:=c0) I I (by omega))<|bk h fun Q0 g2 h=>?_
 obtain ⟨V0,E2,x0,C0,g1,Y1,R1⟩:=BU (α:=Ua) g0 .hd v0 g2
 obtain ⟨X0,F2,G0⟩:=By (α:=Ua) g0 .hd C0
 obtain rfl:V0 = ⟨X0,0,none⟩:=by rw [G0] at x0; cases x0; rfl
 have G1:g1 = [vU Q0]:=Y1; subst G1
 refine Ac (Bb 1 (b0 + c0) I x0 I I C0)<|AR I (R1 0 _ I)<|Ae I<|bk h fun y0 s2 h=>Ac (FV.add64 (a:=Q0) (b:=u0.2) (c:=(0:Ua)) func183 I I I I I I I s2)<|Ae I<|Ac (Ak I I)<|Ac (Ak I I)<|Ag I<|Ag I<|Aa<|Af<|Ae I<|Ae I<|bk h fun U0 t2 h=>Ac (FV.add64 (a:=y0.1) (b:=s0) (c:=(0:Ua)) func183 I I I I I I I t2)<|Ae I<|Ac (Ak I I)<|Ac (Ak I I)<|Ag I<|Ag I<|Aa<|Ap<|Ae I<|Ae I<|Ae I<|Ac (Bl (i:=b0) (j:=c0) I I (by omega))<|Ae I<|Ae I<|Ae I<|Ac (FV.addU (a:=u0.1) (b:=y0.2) I I)<|Ae I<|Ac (FV.addU (a:=u0.1 + y0.2) (b:=U0.2) I I)<|Ac (Bb 1 (b0 + c0) I x0 I I C0)<|bk h fun v2 k2 h=>RG.acts' .plain (Cb (α:=Ua) (i:=b0 + c0) k2 g0 G0 (fun _=>.hd) v0 I I I I I I) fun R2 ⟨j1,u1,y1,A1⟩=>Ag I<|Aa<|AC<|Ap<|Ac (Bl (i:=c0) (j:=1) I I (by omega))<|Ae I<|Aa<|s1 ((u0.1 + y0.2) + U0.2,c0 + 1,v2,j1) u1 (Tt E0 y1) A1 h
 refine AX I ?_
 have h:=J1 _ h
 try dsimp only at h
 refine Ap<|Ae I<|Ae I<|Ae I<|Ac (Ba (xs:=a1) underlying128 I (AT h1_0 g0))<|Ac (Bl (i:=b0) (j:=a1.length) I I (by omega))<|Ae I<|bk h fun u2 j2 h=>?_
 obtain ⟨W0,G2,B0,I0,k1,Z1,K2⟩:=BU (α:=Ua) g0 .hd v0 j2
 obtain ⟨Y0,H2,H0⟩:=By (α:=Ua) g0 .hd I0
 obtain rfl:W0 = ⟨Y0,0,none⟩:=by rw [H0] at B0; cases B0; rfl
 have H1:k1 = [vU u2]:=Z1; subst H1
 refine Ac (Bb 1 (b0 + a1.length) I B0 I I I0)<|bk h fun x2 p2 h=>RG.acts' .plain (Cb (α:=Ua) (i:=b0 + a1.length) p2 g0 H0 (fun _=>.hd) v0 I I I I I I) fun U2 ⟨p1,v1,z1,B1⟩=>Aa<|AC<|Ap<|Ac (Bl (i:=b0) (j:=1) I I (by omega))<|Ae I<|Aa<|q1 (b0 + 1,x2,p1) v1 (Tt x1 (Tt E0 z1)) B1 h
 refine AX I ?_
 have h:=I1 _ h
 try dsimp only at h
 refine Af<|Ae I<|Ag I<|Aa<|Am I ?_
 have A0:=BA t0 .hd
 have J2:=BB t0 .hd
 have b2:=BC (α:=Ua) (v:=(.slice (some ⟨j0,0,none⟩) ((a0.length + a1.length:Nat):Int).toNat ((a0.length + a1.length:Nat):Int).toNat)) (xs:=d0) A0 L (Bg (α:=Ua) t0 .hd F0 hL)
 refine AW hb0 func149 I I ?_
 cases h
 exact ⟨A0.ag,fun p q=>⟨(.slice (some ⟨j0,0,none⟩) ((a0.length + a1.length:Nat):Int).toNat ((a0.length + a1.length:Nat):Int).toNat),I,A0.kd b2 q⟩⟩
def aQ_p (n:Nat) (a0:Ti) (a1:Ti):Oa Ti:=
  (aU_p n a0.fo a1.fo).bind fun b0=>(ay_p n (!(a0.fe == a1.fe)) b0).bind fun c0=>some c0
theorem aQ_c (n:Nat) {L w} (hL:hl L w) (a0:Ti) {v0_1:Vc} (h0_1:Rep.R w L [v0_1] a0.fo) (a1:Ti) {v1_1:Vc} (h1_1:Rep.R w L [v1_1] a1.fo)  {r:Ti} (h:aQ_p n a0 a1 = some r) :
 Cl 110 #[.agg #[.bool a0.fe,v0_1],.agg #[.bool a1.fe,v1_1]] w (ae w fun w' u=>∃ v0_1:Vc,u = .agg #[.bool r.fe,v0_1]/\Rep.R w' L [v0_1] r.fo):=by
 unfold aQ_p at h
 refine AF func110 I I I fun _ cs0 hb0=>Af<|RG.bx (AA w) I I fun Q0 C0 s0 F0=>RG.bx s0 I I fun R0 D0 t0 G0=>RG.nl [.bool false,vN] t0 fun U0 E0 d0 H0=>Aa<|Aj<|du 11 fun b0 c0=>Rv 0 b0 I c0 (fun _=>Bi 0 I)<|Rx 1 3088 b0 I c0 (AP I ((d0.memA .t2) 0 _ I))<|Rv 2 b0 I c0 (fun _=>Bi 0 I)<|Rx 3 3088 b0 I c0 (AP I ((d0.memA .t1) 0 _ I))<|Rv 4 b0 I c0 (fun _=>FV.neqB (a:=a0.fe) (b:=a1.fe) underlying4 I I)<|Rv 5 b0 I c0 (fun _=>Bi 1 I)<|Rx 6 3584 b0 I c0 (AP I ((d0.memA .t2) 1 _ I))<|Rv 7 b0 I c0 (fun _=>Bi 1 I)<|Rx 8 3584 b0 I c0 (AP I ((d0.memA .t1) 1 _ I))<|bk h fun Y0 A0 h=>Bs 9 1023 b0 I .plain (bd 149) I (e2 I I) (fun p q=>aU_c n (d0.hL hL q) (d0.km h0_1 q) (d0.km h1_1 q) A0) I fun V0 M0 x0 ⟨K0,hu_,z0⟩=>?_
 subst hu_
 obtain ⟨k0,I0⟩:=d0.agr x0
 refine bk h fun q0 B0 h=>Bs 10 2047 b0 I .plain (bd 148) I (e2 I I) (fun p q=>ay_c n (k0.hL hL q) (Aw z0 q) B0) I fun W0 P0 y0 ⟨j0,hu_,p0⟩=>?_
 subst hu_
 obtain ⟨u0,J0⟩:=k0.agr y0
 refine BG 11 4095 b0 I I .plain (AE (news:=[.bool q0.fe,j0]) u0 .hd I I I I I I (o2 I (AY p0))) fun X0 g0 v0=>AN (dk b0)<|Am I<|Au hb0 func110 I (.cons (.many (cs:=[.bool q0.fe,j0]) I I (g0.memA .hd)) .nil) I ?_
 cases h
 exact ⟨g0.ag,fun p q=>⟨j0,I,g0.kd (Ao p0 v0) q⟩⟩
def dC_p (n:Nat) (a0:Tj) (a1:Tj):Oa Int:=
  (aQ_p n a0.fy a1.fv).bind fun b0=>(aQ_p n a1.fy a0.fv).bind fun c0=>(df_p n b0 c0).bind fun d0=>some d0
theorem dC_c (n:Nat) {L w} (hL:hl L w) (a0:Tj) {v0_1:Vc} (h0_1:Rep.R w L [v0_1] a0.fy.fo) {v0_3:Vc} (h0_3:Rep.R w L [v0_3] a0.fv.fo) (a1:Tj) {v1_1:Vc} (h1_1:Rep.R w L [v1_1] a1.fy.fo) {v1_3:Vc} (h1_3:Rep.R w L [v1_3] a1.fv.fo)  {r:Int} (h:dC_p n a0 a1 = some r) :
 Cl 81 #[.agg #[.bool a0.fy.fe,v0_1,.bool a0.fv.fe,v0_3],.agg #[.bool a1.fy.fe,v1_1,.bool a1.fv.fe,v1_3]] w (ae w fun _ u=>u = vI r):=by
 unfold dC_p at h
 refine AF func81 I I I fun _ cs0 hb0=>Af<|RG.bx (AA w) I I fun M0 C0 k0 E0=>RG.bx k0 I I fun P0 D0 d0 F0=>Ag I<|Aa<|Aj<|du 12 fun b0 c0=>Rv 0 b0 I c0 (fun _=>Bi 0 I)<|Rx 1 3600 b0 I c0 (Bk (cs:=[.bool a0.fy.fe,v0_1]) I I (ah (d0.memA .t1) 0 2))<|Rv 2 b0 I c0 (fun _=>Bi 2 I)<|Rx 3 3600 b0 I c0 (Bk (cs:=[.bool a1.fv.fe,v1_3]) I I (ah (d0.memA .hd) 2 2))<|Rv 5 b0 I c0 (fun _=>Bi 0 I)<|Rx 6 3584 b0 I c0 (Bk (cs:=[.bool a1.fy.fe,v1_1]) I I (ah (d0.memA .hd) 0 2))<|Rv 7 b0 I c0 (fun _=>Bi 2 I)<|Rx 8 3584 b0 I c0 (Bk (cs:=[.bool a0.fv.fe,v0_3]) I I (ah (d0.memA .t1) 2 2))<|bk h fun z0 v0 h=>Bs 4 511 b0 I .plain (bd 110) I (e2 I I) (fun p q=>aQ_c n (d0.hL hL q) a0.fy (d0.km h0_1 q) a1.fv (d0.km h1_3 q) v0) I fun Q0 J0 q0 ⟨H0,hu_,t0⟩=>?_
 subst hu_
 obtain ⟨g0,G0⟩:=d0.agr q0
 refine bk h fun A0 x0 h=>Bs 9 1023 b0 I .plain (bd 110) I (e2 I I) (fun p q=>aQ_c n (g0.hL hL q) a1.fy (g0.km h1_1 q) a0.fv (g0.km h0_3 q) x0) I fun R0 K0 s0 ⟨I0,hu_,u0⟩=>?_
 subst hu_
 obtain ⟨j0,p0⟩:=g0.agr s0
 refine bk h fun B0 y0 h=>BV 10 2047 2048 (vI B0) b0 I c0 (bd 111) I (e2 I I) (fun p q=>df_c n (j0.hL0 hL q) z0 (j0.kd (Ao t0 p0) q) A0 (j0.kd u0 q) y0) I<|Rv 11 b0 I c0 (fun _=>Be I)<|AN (dk b0)<|Am I<|AW hb0 func81 I I ?_
 cases h
 exact j0.gv
theorem bK:ElT Tryz.prog 85 48 (Rep.size Ta) 128 (.agg zM) zL:=⟨underlying85,by kernel_rfl,rfl,rfl,rfl,rfl⟩
def dL_p (n:Nat) (a0:Ta) (a1:Ta):Oa (Int × Int):=
  (bn_p n ([a0,a1]:List Ta)).bind fun b0=>(if b0 = true then (bb_p n a0).bind fun c0=>(bb_p n a1).bind fun d0=>(dC_p n c0 d0).bind fun g0=>some (g0,(0:Int)) else some ((0:Int),(20:Int)))
theorem dL_c (n:Nat) {L w} (hL:hl L w) (a0:Ta) (a1:Ta)  {r:Int × Int} (h:dL_p n a0 a1 = some r) :
 Cl 49 #[.agg ((ab a0)).toArray,.agg ((ab a1)).toArray] w (ae w fun _ u=>u = .tuple #[vI r.1,vI r.2]):=by
 unfold dL_p at h
 refine AF func49 I I I fun _ cs0 hb0=>Af<|RG.bx (AA w) I I fun u1 M0 v0 W0=>RG.bx v0 I I fun v1 P0 j0 X0=>Ag I<|Ag I<|Aa<|Af<|Ac (AH I (j0.memA .t1))<|Ac (AH I (j0.memA .hd))<|BK (fst:=[]) (cap:=[]) (vs:=[.agg ((ab a0)).toArray,.agg ((ab a1)).toArray,.func (.func 81) #[] #[]]) .plain (bd 80) func80 I I I I (e3 I I I) I fun V0 s0 d1=>Af<|RG.bx j0 I I fun x1 Q0 x0 Y0=>RG.bx x0 I I fun y1 R0 k0 Z0=>Ag I<|Ag I<|Aa<|Aj<|Af<|Ac (AH I (k0.memA .t1))<|Ac (AH I (k0.memA .hd))<|Al .plain I (AL (α:=Ta) (xs:=([a0,a1]:List Ta)) (vs:=[.agg ((ab a0)).toArray,.agg ((ab a1)).toArray]) (ds' :=(ab a0 ++ ab a1)) I k0 bK I (e2 I I) (by kernel_rfl) I) fun z1 U0 c0 b1=>bk h fun I0 E0 h=>Bj (.bool I0) (bd 101) I (e1 I) (fun p q=>bn_c n (c0.hL0 hL q) (Aw (St.lend (α:=Ta) (L:=L) c0 .hd (AD (cs:=(ab a0 ++ ab a1)) (xs:=(([a0,a1]:List Ta):List Ta)) c0 L (Av (cs:=(ab a0)) (ds:=(ab a1)) (aY a0.fN a0.fD) (Av (cs:=(ab a1)) (ds:=[]) (aY a1.fN a1.fD) (AJ _ _)))) hL) q) E0) I<|Ac (Bu I)<|Aa<|MX.ifnb I h (fun u0 h=>?_) (fun u0 h=>?_)
 refine Ar<|Aj<|du 8 fun b0 g0=>Rv 0 b0 I g0 (fun _=>Ai I)<|Rx 1 244 b0 I g0 (AH I (c0.memA .t2))<|Rx 3 240 b0 I g0 (AH I (c0.memA .t1))<|bk h fun J0 F0 h=>Bs 2 15 b0 I .plain (bd 109) I (e1 I) (fun p q=>bb_c n (c0.hL hL q) a0 F0) I fun A1 q1 y0 ⟨g1,j1,hu_,A0,B0⟩=>?_
 subst hu_
 obtain ⟨p0,c1⟩:=c0.agr y0
 refine bk h fun K0 G0 h=>Bs 4 31 b0 I .plain (bd 109) I (e1 I) (fun p q=>bb_c n (p0.hL hL q) a1 G0) I fun B1 s1 z0 ⟨k1,p1,hu_,C0,D0⟩=>?_
 subst hu_
 obtain ⟨d0,q0⟩:=p0.agr z0
 refine bk h fun t0 H0 h=>BV 5 63 192 (vI t0) b0 I g0 (bd 81) I (e2 I I) (fun p q=>dC_c n (d0.hL0 hL q) J0 (d0.kd (Ao A0 q0) q) (d0.kd (Ao B0 q0) q) K0 (d0.kd C0 q) (d0.kd D0 q) H0) I<|Rv 6 b0 I g0 (fun _=>Be I)<|Rv 7 b0 I g0 (fun _=>Be I)<|AN (dk b0)<|Am I<|Au (u:=.tuple #[vI t0,vI 0]) s0 func80 I (.cons (.tmp I) (.cons (.tmp I) .nil)) I<|Ac (Ak I I)<|Ac (Ak I I)<|Ag I<|Ag I<|Aa<|Am I<|Au hb0 func49 I (.cons (.tmp I) (.cons (.tmp I) .nil)) I ?_
 cases h
 exact d0.gv
 refine Af<|Ag I<|Aa<|Af<|Ae I<|Ag I<|Ag I<|Aa<|Am I<|Au (u:=.tuple #[vI 0,vI 20]) s0 func80 I (.cons (.tmp I) (.cons (.tmp I) .nil)) I<|Ac (Ak I I)<|Ac (Ak I I)<|Ag I<|Ag I<|Aa<|Am I<|Au hb0 func49 I (.cons (.tmp I) (.cons (.tmp I) .nil)) I ?_
 cases h
 exact c0.gv
def dh_p (n:Nat) (a0:Ta) (a1:Ta):Oa (Except Tg Int):=
  (dL_p n a0 a1).bind fun b0=>(cr_p n b0.1 b0.2).bind fun d0=>exc d0 (fun g0=>some (.ok g0)) (fun c0=>some (.error c0))
theorem dh_c (n:Nat) {L w} (hL:hl L w) (a0:Ta) (a1:Ta)  {r:Except Tg Int} (h:dh_p n a0 a1 = some r) :
 Cl 72 #[.agg ((ab a0)).toArray,.agg ((ab a1)).toArray] w (aL w (fun (y:Int) _ u=>u = vI y) (fun e=>.iface 115 (.agg #[vI e.fA])) r):=by
 unfold dh_p at h
 refine BZ func72 I I I fun _ cs0 hb0 hp0=>Af<|RG.bx (AA w) I I fun z0 s0 g0 v0=>RG.bx g0 I I fun A0 t0 b0 x0=>Ag I<|Aa<|Af<|Ac (AH I (b0.memA .t1))<|Ac (AH I (b0.memA .hd))<|bk h fun d0 p0 h=>Bj (.tuple #[vI d0.1,vI d0.2]) (bd 49) I (e2 I I) (fun p q=>dL_c n (b0.hL0 hL q) a0 a1 p0) I<|Ac (Ak I I)<|Ac (Ak I I)<|xk h (fun u0 c0 h=>?_) (fun q0 c0 h=>?_)
 refine BE (fst:=[]) (cap:=[]) .plain (bd 48) I (e2 I I) (fun p q=>cr_c n (b0.hL0 hL q)  c0) fun B0 k0=>?_
 obtain ⟨j0,y0⟩:=b0.agr k0
 cases h
 exact Bo hp0 func72 ⟨j0.ag,I⟩
 refine Bj (vI q0) (bd 48) I (e2 I I) (fun p q=>Bm (cr_c n (b0.hL0 hL q)  c0)) I<|Ag I<|Aa<|Am I<|AW hb0 func72 I I ?_
 cases h
 exact ⟨b0.ag,fun p q=>aE I⟩
def ah_l1 (n:Nat) (q0:Nat) (k0:Int × (List Ta) -> Oa (((Except Tg (List Ta)) ⊕ (List Ta)) ⊕ (List Ta))):Int × (List Ta) -> Oa (((Except Tg (List Ta)) ⊕ (List Ta)) ⊕ (List Ta))
  | (b0,c0)=>(if ((q0:Nat):Int) < b0 then (idx c0 b0).bind fun g0=>(chk (b0 - 1)).bind fun s0=>(idx c0 s0).bind fun v0=>(dh_p n g0 v0).bind fun z0=>exc z0 (fun A0=>(if A0 < 0 then (chk (b0 - 1)).bind fun d0=>(chk (b0 - 1)).bind fun t0=>(idx c0 t0).bind fun x0=>(put c0 ((b0.toNat:Nat):Int) x0).bind fun j0=>(idx j0 d0).bind fun _x2280=>(put j0 ((d0.toNat:Nat):Int) g0).bind fun y0=>(chk (b0 - 1)).bind fun u0=>k0 (u0,y0) else some (.inr c0))) (fun p0=>some (.inl (.inl (.error p0)))) else some (.inr c0))
def ah_l2 (n:Nat) (k0:Nat) (j0:Nat) (d0:Int × (List Ta) -> Oa ((Except Tg (List Ta)) ⊕ (List Ta))):Int × (List Ta) -> Oa ((Except Tg (List Ta)) ⊕ (List Ta))
  | (b0,c0)=>(if b0 < ((k0:Nat):Int) then jn (fun q0=>(chk (b0 + 1)).bind fun p0=>d0 (p0,q0)) (fun g0=>thn (aj (ah_l1 n j0) n (b0,c0)) (g0)) else some (.inr c0))
def ah_l3 (n:Nat) (k0:List Ta) (_J1037:Nat × Nat × Int × Bool × Bool -> Oa (Except Tg (List Ta))):Nat × Nat × Int × Bool × Bool -> Oa (Except Tg (List Ta))
  | (b0,c0,q0,d0,_q1031)=>(chk (((c0:Nat):Int) - ((b0:Nat):Int))).bind fun g0=>(if g0 <= 12 then (chk (((b0:Nat):Int) + 1)).bind fun j0=>thn (aj (ah_l2 n c0 b0) n (j0,k0)) (fun p0=>some (.ok p0)) else (if q0 = 0 then none else (if d0 = true then none else none)))
def ah_l4 (n:Nat) (d0:List (Int × Int)) (g0:Nat × (List Ta) -> Oa ((Except Tg (List Ta)) ⊕ (List Ta))):Nat × (List Ta) -> Oa ((Except Tg (List Ta)) ⊕ (List Ta))
  | (b0,c0)=>(if b0 < d0.length then (d0[b0]?).bind fun k0=>(cW_p n k0).bind fun q0=>exc q0 (fun s0=>(app c0 ([s0]:List Ta)).bind fun p0=>g0 (b0 + 1,p0)) (fun j0=>some (.inl (.error j0))) else some (.inr c0))
def ah_p (n:Nat) (a0:Te) (a1:List Int) (a2:Int) (a3:Int) (a4:Int):Oa (Except Tg (List Ta)):=
  (ba_p n a0 a1 a2 a3 a4).bind fun d0=>exc d0 (fun g0=>thn (aj (ah_l4 n g0) n (0,([]:List Ta))) (fun b0=>(dF_p n (ac ((b0.length:Nat):Int))).bind fun j0=>aj (ah_l3 n b0) n (0,b0.length,j0,true,true))) (fun c0=>some (.error c0))
theorem ah_c (n:Nat) {L w} (hL:hl L w) (a0:Te) {v0_3:Vc} (h0_3:Rep.R w L [v0_3] a0.ft) {a1:List Int} {v1_0:Vc} (h1_0:Rep.R w L [v1_0] a1) {a2:Int} {a3:Int} {a4:Int}  {r:Except Tg (List Ta)} (h:ah_p n a0 a1 a2 a3 a4 = some r) :
 Cl 36 #[.agg #[vI a0.fh,vI a0.fc,vI a0.fj,v0_3],v1_0,vI a2,vI a3,vI a4] w (aL w (fun (y:List Ta) w' u=>∃ (v0_0:Vc) (cs0_0:List Vc),u = v0_0/\St w w' (aV w.heap.size [(48,Rep.size Ta,v0_0,y.length,cs0_0)])/\Cells w' (bl (aV w.heap.size [(48,Rep.size Ta,v0_0,y.length,cs0_0)]) ++ L) cs0_0 (y:List Ta)) (fun e=>.iface 115 (.agg #[vI e.fA])) r):=by
 unfold ah_p at h
 refine BZ func36 I I I fun _ cs0 hb0 hp0=>Af<|RG.bx (AA w) I I fun q6 z0 D0 V5=>Ag I<|Aa<|Af<|Ac (AH I (D0.memA .hd))<|Ae I<|Ae I<|Ae I<|Ae I<|xk h (fun Q5 q1 h=>?_) (fun W0 q1 h=>?_)
 refine BE (fst:=[]) (cap:=[]) .plain (bd 29) I (e5 I I I I I) (fun p q=>ba_c n (D0.hL hL q) a0 (D0.km h0_3 q) (D0.km h1_0 q) q1) fun y6 s3=>?_
 obtain ⟨R2,X5⟩:=D0.agr s3
 cases h
 exact Bo hp0 func36 ⟨R2.ag,I⟩
 refine jE (bd 29) I (e5 I I I I I) (fun p q=>Bm (ba_c n (D0.hL hL q) a0 (D0.km h0_3 q) (D0.km h1_0 q) q1)) I fun C6 U1 u3 ⟨p6,hu_,p1⟩=>?_
 subst hu_
 obtain ⟨y1,Z5⟩:=D0.agr u3
 refine BK (fst:=[]) (cap:=[]) (vs:=[U1,.func (.func 70) #[] #[]]) .plain (bd 69) func69 I I I I (e2 I I) I fun M5 z3 Z3=>Af<|Ag I<|Aa<|Aj<|Af<|Ae I ?_
 have c6:=AU p1
 refine Ac (Ba (xs:=W0) underlying76 I p1)<|Ae I<|Aa<|Ax ?_
 have z1:=y1.nilRow 48 (Rep.size Ta)
 refine tn h fun g6 R3 H1=>MX.lf (α:=Nat × (List Ta) × Vc × (List Vc)) (fun ⟨v0,k0,b0,A0⟩=>[(1,.func (.func 70) #[] #[]),(4,b0),(7,U1),(8,vn W0.length),(9,vn v0)]) (fun ⟨v0,k0,b0,A0⟩=>[rr w 48 Ta b0 k0.length A0,.cells z0 [vI a0.fh,vI a0.fc,vI a0.fj,v0_3] 37]) (fun ⟨v0,k0,b0,A0⟩ V1=>Cells V1 (bl [rr w 48 Ta b0 k0.length A0,.cells z0 [vI a0.fh,vI a0.fc,vI a0.fj,v0_3] 37] ++ L) A0 k0) (fun ⟨v0,k0,b0,A0⟩=>(v0,k0)) (0,([]:List Ta),vN,[]) R3 z1 (AD (cs:=[]) (xs:=([]:List Ta)) z1 L (AJ _ _)) ?_
 rintro c5 ⟨v0,k0,b0,A0⟩ V1 G2 J0 A1 C1 h
 unfold ah_l4 at h
 try dsimp only at h
 refine Af<|Ac (Bp (i:=v0) (j:=W0.length) I I)<|Aa<|Aj<|AQ I h (fun y2 h=>?_) (fun y2 h=>?_)
 refine Ar<|Aj<|Ax<|Af<|bk h fun U0 x4 h=>?_
 obtain ⟨Y4,q5,D3,K3,D5,b4,M3⟩:=Bh (Ao p1 (Tt (BW y1 48 (Rep.size Ta)) A1)) x4
 obtain rfl:=fO b4
 refine Ac (Bb 2 v0 I D3 I I K3)<|Ac (AH I M3)<|RG.nl [vI 0,vI 0] J0 fun s6 k5 K2 Y2=>AV [vI U0.1,vI U0.2] K2 .hd (ai I) fun t6 K0 Z2=>Aa<|Ap<|Ae I<|Ae I<|Ac (AH I (K0.memA .hd))<|xk h (fun P5 s1 h=>?_) (fun y0 s1 h=>?_)
 have h:=au h H1
 refine BE (fst:=[]) (cap:=[]) .plain (bd 70) I (e1 I) (fun p q=>cW_c n (K0.hL0 hL q) U0 s1) fun u6 q3=>?_
 obtain ⟨M2,W5⟩:=K0.agr q3
 refine Bo Z3 func69 ?_
 cases h
 exact Bo hp0 func36 ⟨M2.ag,I⟩
 refine Bj (.agg ((ab y0)).toArray) (bd 70) I (e1 I) (fun p q=>Bm (cW_c n (K0.hL0 hL q) U0 s1)) I<|Al .plain I (AL (α:=Ta) (xs:=([y0]:List Ta)) (vs:=[.agg ((ab y0)).toArray]) (ds' :=(ab y0)) I K0 bK I (e1 I) (by kernel_rfl) I) fun v6 p5 Y0 c3=>bk h fun W4 G4 h=>?_
 have Q1:=Tt Y2 (Tt Z2 c3)
 refine RG.doesL .plain I (Bf (α:=Ta) (ys:=([y0]:List Ta)) G4 Y0 (fun _ _=>.t2) bK I I (AB C1 Q1) (Src.row (α:=Ta) Y0 .hd (AD (cs:=(ab y0)) (xs:=(([y0]:List Ta):List Ta)) Y0 L (Av (cs:=(ab y0)) (ds:=[]) (aY y0.fN y0.fD) (AJ _ _))))) fun V4 x6 ⟨E2,P2,d3,A3⟩=>Ag I<|Aa<|AC<|Ap<|Ac (Bl (i:=v0) (j:=1) I I (by omega))<|Ae I<|Aa ?_
 obtain ⟨Q2,B1⟩:=AK P2 .d2
 exact G2 (v0 + 1,W4,V4,E2) Q2 (Tt A1 (Tt Q1 (Tt d3 B1))) (AB A3 B1) h
 refine AX I ?_
 have h:=aC h H1
 try dsimp only at h
 refine Af<|Ae I<|Ag I<|Aa<|Am I<|Au (u:=b0) z3 func69 I (.cons (.tmp I) .nil) I<|Ag I<|Aa<|Af<|Ae I<|BK (fst:=[]) (cap:=[]) (vs:=[b0,.func (.func 72) #[] #[]]) .plain (bd 71) func71 I I I I (e2 I I) I fun E5 x3 X3=>Af<|Ae I ?_
 have b6:k0.length <= 4294967296:=St.rowLe (α:=Ta) J0 .hd
 obtain ⟨Z4,s5,E3⟩:=St.rowV (α:=Ta) J0 .hd
 refine Ac (FV.lenV underlying85 I E3)<|Ag I<|Aa<|Ap<|Ae I<|Ae I<|Ae I<|Ac (FV.convU (i:=((k0.length:Nat):Int)) underlying3 underlying149 I)<|bk h fun u1 J4 h=>Bj (vI u1) (bd 96) I (e1 I) (fun p q=>dF_c n (J0.hL0 hL q) (ac ((k0.length:Nat):Int)) J4) I<|Ae I<|BK (fst:=[]) (cap:=[]) (vs:=[b0,vI 0,vn k0.length,vI u1,.func (.func 72) #[] #[]]) .plain (bd 95) func95 I I I I (e5 I I I I I) I fun F5 y3 Y3=>Af<|Ag I<|Aa<|Af<|Ag I<|Aa<|Ax<|MX.lo (α:=Nat × Nat × Int × Bool × Bool) (fun ⟨s0,t0,I0,P0,Q0⟩=>[(0,b0),(1,vn s0),(2,vn t0),(3,vI I0),(4,.func (.func 72) #[] #[]),(10,.bool P0),(11,.bool Q0)]) (fun ⟨s0,t0,I0,P0,Q0⟩=>[rr w 48 Ta b0 k0.length A0,.cells z0 [vI a0.fh,vI a0.fc,vI a0.fj,v0_3] 37]) (fun ⟨s0,t0,I0,P0,Q0⟩=>(s0,t0,I0,P0,Q0)) (0,k0.length,u1,true,true) h J0 ?_
 rintro b5 ⟨s0,t0,I0,P0,Q0⟩ D6 U5 J2 X2 h
 unfold ah_l3 at h
 try dsimp only at h
 refine Ax<|Af<|Ae I<|Ae I<|bk h fun K4 k4 h=>Ac (BQ (i:=((t0:Nat):Int)) (j:=((s0:Nat):Int)) I I k4)<|Ag I<|Aa<|Aj<|Af<|Ae I<|Ac (FV.leq (i:=K4) (j:=12) I I)<|Aa<|AQ I h (fun x2 h=>?_) (fun x2 h=>?_)
 refine Af<|Ae I<|Ae I<|Ae I<|Ae I<|BK (fst:=[]) (cap:=[]) (vs:=[b0,vn s0,vn t0,.func (.func 72) #[] #[]]) .plain (bd 127) func127 I I I I (e4 I I I I) I fun C5 v3 W3=>Af<|Ae I<|bk h fun M4 p4 h=>Ac (Bw (i:=((s0:Nat):Int)) (j:=1) I I p4)<|Ag I<|Aa<|Ax<|tn h fun j6 U3 I1=>MX.lf (α:=Int × (List Ta) × (List Vc)) (fun ⟨u0,E0,B0⟩=>[(0,b0),(1,vn s0),(2,vn t0),(3,.func (.func 72) #[] #[]),(8,vI u0)]) (fun ⟨u0,E0,B0⟩=>[rr w 48 Ta b0 E0.length B0,.cells z0 [vI a0.fh,vI a0.fc,vI a0.fj,v0_3] 37]) (fun ⟨u0,E0,B0⟩ W1=>Cells W1 (bl [rr w 48 Ta b0 E0.length B0,.cells z0 [vI a0.fh,vI a0.fc,vI a0.fj,v0_3] 37] ++ L) B0 E0) (fun ⟨u0,E0,B0⟩=>(u0,E0)) (M4,k0,A0) U3 J2 (AB C1 X2) ?_
 rintro d5 ⟨u0,E0,B0⟩ W1 H2 X0 b3 D1 h
 unfold ah_l2 at h
 try dsimp only at h
 refine Aj<|Af<|Ae I<|Ae I<|Ac (BO (i:=u0) (j:=((t0:Nat):Int)) I I)<|Aa<|AQ I h (fun z2 h=>?_) (fun z2 h=>?_)
 refine Ar<|Aj<|Ax<|Af<|Ae I<|Ag I<|Aa<|Ax<|MX.xf (α:=(List Ta) × (List Vc)) 2 (fun ⟨F0,G0⟩=>[(0,b0),(1,vn s0),(2,vn t0),(3,.func (.func 72) #[] #[]),(8,vI u0)]) (fun ⟨F0,G0⟩=>[rr w 48 Ta b0 F0.length G0,.cells z0 [vI a0.fh,vI a0.fc,vI a0.fj,v0_3] 37]) (fun ⟨F0,G0⟩ X1=>Cells X1 (bl [rr w 48 Ta b0 F0.length G0,.cells z0 [vI a0.fh,vI a0.fc,vI a0.fj,v0_3] 37] ++ L) G0 F0) (fun ⟨F0,G0⟩=>F0) X0 I h ?_ ?_
 rintro ⟨F0,G0⟩ X1 U2 g3 B3 h
 try dsimp only at h
 refine AC<|Ap<|Ae I<|bk h fun P4 q4 h=>Ac (Bw (i:=u0) (j:=1) I I q4)<|Ag I<|Aa<|H2 (P4,F0,G0) U2 (Tt b3 g3) B3 h
 intro g5 v1 h
 try dsimp only at h
 refine tn h fun k6 V3 j1=>MX.lf (α:=Int × (List Ta) × (List Vc)) (fun ⟨p0,x0,C0⟩=>[(0,b0),(1,vn s0),(2,vn t0),(3,.func (.func 72) #[] #[]),(8,vI u0),(9,vI p0)]) (fun ⟨p0,x0,C0⟩=>[rr w 48 Ta b0 x0.length C0,.cells z0 [vI a0.fh,vI a0.fc,vI a0.fj,v0_3] 37]) (fun ⟨p0,x0,C0⟩ Y1=>Cells Y1 (bl [rr w 48 Ta b0 x0.length C0,.cells z0 [vI a0.fh,vI a0.fc,vI a0.fj,v0_3] 37] ++ L) C0 x0) (fun ⟨p0,x0,C0⟩=>(p0,x0)) (u0,E0,B0) V3 X0 D1 ?_
 rintro j5 ⟨p0,x0,C0⟩ Y1 I2 q0 b1 H0 h
 unfold ah_l1 at h
 try dsimp only at h
 refine Aj<|Aj<|du 17 fun c0 g0=>Rv 0 c0 I g0 (fun _=>Ai I)<|Rv 1 c0 I g0 (fun _=>Ai I)<|Rv 2 c0 I g0 (fun _=>FV.gtr (i:=p0) (j:=((s0:Nat):Int)) I I)<|Rv 3 c0 I g0 (fun _=>Ai I)<|RD.ifd (s:=21) I h (fun A2 h=>?_) (fun A2 h=>?_)
 refine BJ 4 31 c0 I g0 (.yes I I) (fun _=>Ai I) I<|BJ 5 63 c0 I g0 (.yes I I) (fun _=>Ai I) I<|BJ 6 127 c0 I g0 (.yes I I) (fun _=>Ai I) I<|bk h fun V0 y4 h=>?_
 obtain ⟨k1,z4⟩:=aA y4
 obtain ⟨g2,t5,M0,R0,G5,c4,P1⟩:=BU (α:=Ta) q0 .hd H0 z4
 obtain ⟨q2,u5,F1⟩:=By (α:=Ta) q0 .hd R0
 obtain rfl:g2 = ⟨q2,0,none⟩:=by rw [F1] at M0; cases M0; rfl
 obtain rfl:=bw c4
 refine BJ 7 255 c0 I g0 (.yes I I) (fun _=>Bb 16 (p0.toNat) I M0 I k1 R0) I<|RD.val (i:=8) (m' :=511) (W:=114688) (tk c0) I g0 (.yes I I) (AH I P1) I<|BJ 9 1023 c0 I g0 (.yes I I) (fun _=>Ai I) I<|BJ 10 2047 c0 I g0 (.yes I I) (fun _=>Ai I) I<|bk h fun Q4 s4 h=>BJ 11 4095 c0 I g0 (.yes I I) (fun _=>BQ (i:=p0) (j:=1) I I s4) I<|bk h fun Z1 A4 h=>?_
 obtain ⟨H3,B4⟩:=aA A4
 obtain ⟨j2,v5,c1,J1,H5,d4,P3⟩:=BU (α:=Ta) q0 .hd H0 B4
 obtain ⟨s2,x5,F3⟩:=By (α:=Ta) q0 .hd J1
 obtain rfl:j2 = ⟨s2,0,none⟩:=by rw [F3] at c1; cases c1; rfl
 obtain rfl:=bw d4
 refine BJ 12 8191 c0 I g0 (.yes I I) (fun _=>Bb 16 (Q4.toNat) I c1 I H3 J1) I<|RD.val (i:=13) (m' :=16383) (W:=114688) (tk c0) I g0 (.yes I I) (AH I P3) I<|xk h (fun R5 t1 h=>?_) (fun c2 t1 h=>?_)
 have h:=au h j1
 have h:=au h I1
 refine BM (i:=14) (rk c0) (RO.callE (fst:=[]) (cap:=[]) I (.yes I I) (bd 72) I (e2 I I) (fun p q=>dh_c n (q0.hL0 hL q) V0 Z1 t1) (fun z6 t3=>?_))
 obtain ⟨V2,Y5⟩:=q0.agr t3
 refine Bo W3 func127<|Bo Y3 func95<|Bo X3 func71 ?_
 cases h
 exact Bo hp0 func36 ⟨V2.ag,I⟩
 refine RD.callq (i:=14) (m' :=32767) (W:=98304) (tk c0) I g0 (v:=vI c2) (fst:=[]) (cap:=[]) (.yes I I) (bd 72) I (e2 I I) (fun p q=>Bm (dh_c n (q0.hL0 hL q) V0 Z1 t1)) I<|BJ 15 65535 c0 I g0 (.yes I I) (fun _=>BO (i:=c2) (j:=0) I I) I<|Rv 16 c0 I g0 (fun _=>BN I I)<|AN (dk c0)<|AQ I h (fun B2 h=>?_) (fun B2 h=>?_)
 refine Ar<|Aj<|Ax<|du 15 fun d0 j0=>Rv 0 d0 I j0 (fun _=>Ai I)<|Rv 1 d0 I j0 (fun _=>Ai I)<|Rv 2 d0 I j0 (fun _=>Ai I)<|Rv 3 d0 I j0 (fun _=>Ai I)<|bk h fun R1 t4 h=>Rv 4 d0 I j0 (fun _=>BQ (i:=p0) (j:=1) I I t4)<|Rv 5 d0 I j0 (fun _=>Ai I)<|Rv 6 d0 I j0 (fun _=>Ai I)<|bk h fun R4 u4 h=>Rv 7 d0 I j0 (fun _=>BQ (i:=p0) (j:=1) I I u4)<|bk h fun b2 C4 h=>?_
 obtain ⟨I3,D4⟩:=aA C4
 obtain ⟨k2,y5,d1,K1,I5,g4,Q3⟩:=BU (α:=Ta) q0 .hd H0 D4
 obtain ⟨u2,z5,G3⟩:=By (α:=Ta) q0 .hd K1
 obtain rfl:k2 = ⟨u2,0,none⟩:=by rw [G3] at d1; cases d1; rfl
 obtain rfl:=bw g4
 refine Rv 8 d0 I j0 (fun _=>Bb 16 (R4.toNat) I d1 I I3 K1)<|Rx 9 245760 d0 I j0 (AH I Q3)<|Rv 10 d0 I j0 (fun _=>Ai I)<|Rv 11 d0 I j0 (fun _=>Ai I)<|Rv 12 d0 I j0 (fun _=>Bb 16 (p0.toNat) I M0 I k1 R0)<|Rx 13 245760 d0 I j0 (AH I P1)<|Rv 14 d0 I j0 (fun _=>Bb 16 (p0.toNat) I M0 I k1 R0)<|bk h fun F6 H4 h=>BM (i:=15) (rk d0) (RO.acts (m' :=65535) (sk d0) I I .plain (Cb (α:=Ta) (i:=p0.toNat) H4 q0 F1 (fun _=>.hd) H0 I I I I (aY b2.fN b2.fD) I) (fun A6 ⟨J5,Z0,j3,E1⟩=>?_))
 refine bk h fun E6 E4 h=>?_
 obtain ⟨J3,F4⟩:=aA E4
 obtain ⟨p2,A5,g1,M1,K5,j4,d6⟩:=BU (α:=Ta) Z0 .hd E1 F4
 obtain ⟨v2,B5,G1⟩:=By (α:=Ta) Z0 .hd M1
 obtain rfl:p2 = ⟨v2,0,none⟩:=by rw [G1] at g1; cases g1; rfl
 obtain rfl:=bw j4
 refine Rv 16 d0 I j0 (fun _=>Bb 16 (R1.toNat) I g1 I J3 M1)<|bk h fun X4 I4 h=>BM (i:=17) (rk d0) (RO.acts (m' :=262143) (sk d0) I I .plain (Cb (α:=Ta) (i:=R1.toNat) I4 Z0 G1 (fun _=>.hd) E1 I I I I (aY V0.fN V0.fD) I) (fun B6 ⟨F2,W2,k3,C3⟩=>?_))
 refine AN (dk d0)<|AC<|Ap<|Ae I<|bk h fun U4 v4 h=>Ac (BQ (i:=p0) (j:=1) I I v4)<|Ag I<|Aa<|I2 (U4,X4,F2) W2 (Tt b1 (Tt j3 k3)) C3 h
 refine AX I ?_
 have h:=aC h j1
 try dsimp only at h
 exact v1 (x0,C0) q0 b1 H0 h
 refine Br 65535 1 [(4,22),(5,23),(6,24),(7,25),(8,26),(9,27),(10,28),(11,29),(12,30),(13,31),(14,32),(15,33)] (F:=[(21,false)]) (U:=[]) c0 g0 (.cons I .nil) .nil ?_
 dsimp only [aF,List.map]
 refine Rv 16 c0 I g0 (fun _=>AZ I I)<|AN (dk c0)<|BF I<|AX I ?_
 have h:=aC h j1
 try dsimp only at h
 exact v1 (x0,C0) q0 b1 H0 h
 refine AX I ?_
 have h:=aC h I1
 try dsimp only at h
 refine MX.fin I<|Au (u:=.tuple #[]) v3 func127 I .nil I<|Aa<|Am I<|Au (u:=.tuple #[]) y3 func95 I .nil I<|Aa<|MX.fin I<|Au (u:=.tuple #[]) x3 func71 I .nil I<|Aa<|Af<|Ae I<|Ag I<|Aa<|Am I<|Au (u:=b0) hb0 func36 I (.cons (.tmp I) .nil) I ?_
 obtain ⟨x1,p3⟩:=AK X0 (.a0 .done)
 cases h
 exact ⟨x1.ag,fun p q=>aE ⟨b0,B0,I,x1.agree q,Cells.keep0 (AB D1 p3) q⟩⟩
 refine Ar<|Aj<|Af<|Ae I<|Ac (FV.eql (i:=I0) (j:=0) I I)<|Aa<|AQ I h (fun C2 h=>?_) (fun C2 h=>?_)
 refine Af<|Ae I<|Ae I<|Ae I<|Ae I ?_
 cases h
 refine Ar<|Aj<|Af<|Ae I<|Ac (Bu I)<|Aa<|MX.ifnb I h (fun D2 h=>?_) (fun D2 h=>?_)
 refine Ar<|Af<|Ae I<|Ae I<|Ae I<|Ae I ?_
 cases h
 refine Af<|Ae I<|Ae I<|Ae I<|Ae I ?_
 cases h
def bK_p (n:Nat) (a0:Tj) (a1:Int):Oa (Ta × Int):=
  (if a1 = 0 then (bS_p n a0).bind fun b0=>some (b0.1,b0.2) else some ((⟨(0,0,0,0,0,0,0,0),(0,0,0,0,0,0,0,0)⟩:Ta),a1))
theorem bK_c (n:Nat) {L w} (hL:hl L w) (a0:Tj) {v0_1:Vc} (h0_1:Rep.R w L [v0_1] a0.fy.fo) {v0_3:Vc} (h0_3:Rep.R w L [v0_3] a0.fv.fo) {a1:Int}  {r:Ta × Int} (h:bK_p n a0 a1 = some r) :
 Cl 97 #[.agg #[.bool a0.fy.fe,v0_1,.bool a0.fv.fe,v0_3],vI a1] w (ae w fun _ u=>u = .tuple #[.agg ((ab r.1)).toArray,vI r.2]):=by
 unfold bK_p at h
 refine AF func97 I I I fun _ cs0 hb0=>Af<|RG.bx (AA w) I I fun z0 s0 p0 u0=>RG.nl zL p0 fun A0 t0 b0 v0=>Ag I<|Aa<|Aj<|Af<|Ae I<|Ac (FV.neq (i:=a1) (j:=0) I I)<|Aa<|MX.ifn I h (fun j0 h=>?_) (fun j0 h=>?_)
 refine Ar<|Af<|Ac (AH I (b0.memA .t1))<|bk h fun c0 q0 h=>Bj (.tuple #[.agg ((ab c0.1)).toArray,vI c0.2]) (bd 120) I (e1 I) (fun p q=>bS_c n (b0.hL0 hL q) a0 (b0.k0 h0_1 q) (b0.k0 h0_3 q) q0) I<|Ac (Ak I I)<|Ac (Ak I I)<|AV (ab c0.1) b0 .hd (ai I) fun B0 d0 x0=>Ag I<|Aa<|Am I<|Au hb0 func97 I (.cons (.many (cs:=(ab c0.1)) I I (d0.memA .hd)) (.cons (.tmp I) .nil)) I ?_
 cases h
 exact d0.gv
 refine Af<|Ac (AS (vs:=[]) (u:=.agg zM) ak (fun p=>by kernel_rfl))<|Ae I<|AV zL b0 .hd (ai I) fun C0 g0 y0=>Ag I<|Aa<|Am I<|Au hb0 func97 I (.cons (.many (cs:=zL) I I (g0.memA .hd)) (.cons (.tmp I) .nil)) I ?_
 cases h
 exact g0.gv
def cv_p (n:Nat) (a0:Tj) (a1:Tj):Oa Tj:=
  (aQ_p n a0.fy a1.fv).bind fun b0=>(aQ_p n a1.fy a0.fv).bind fun c0=>(bR_p n b0 c0).bind fun d0=>(aQ_p n a0.fv a1.fv).bind fun g0=>(cu_p n d0 g0).bind fun j0=>some j0
theorem cv_c (n:Nat) {L w} (hL:hl L w) (a0:Tj) {v0_1:Vc} (h0_1:Rep.R w L [v0_1] a0.fy.fo) {v0_3:Vc} (h0_3:Rep.R w L [v0_3] a0.fv.fo) (a1:Tj) {v1_1:Vc} (h1_1:Rep.R w L [v1_1] a1.fy.fo) {v1_3:Vc} (h1_3:Rep.R w L [v1_3] a1.fv.fo)  {r:Tj} (h:cv_p n a0 a1 = some r) :
 Cl 137 #[.agg #[.bool a0.fy.fe,v0_1,.bool a0.fv.fe,v0_3],.agg #[.bool a1.fy.fe,v1_1,.bool a1.fv.fe,v1_3]] w (ae w fun w' u=>∃ v0_1 v0_3:Vc,u = .agg #[.bool r.fy.fe,v0_1,.bool r.fv.fe,v0_3]/\Rep.R w' L [v0_1] r.fy.fo/\Rep.R w' L [v0_3] r.fv.fo):=by
 unfold cv_p at h
 refine AF func137 I I I fun _ cs0 hb0=>Af<|RG.bx (AA w) I I fun F1 c1 z0 j1=>RG.bx z0 I I fun G1 d1 A0 k1=>RG.nl [.bool false,vN,.bool false,vN] A0 fun H1 g1 d0 p1=>Aa<|Aj<|du 17 fun b0 c0=>Rv 0 b0 I c0 (fun _=>Bi 0 I)<|Rx 1 230928 b0 I c0 (Bk (cs:=[.bool a0.fy.fe,v0_1]) I I (ah (d0.memA .t2) 0 2))<|Rv 2 b0 I c0 (fun _=>Bi 2 I)<|Rx 3 230928 b0 I c0 (Bk (cs:=[.bool a1.fv.fe,v1_3]) I I (ah (d0.memA .t1) 2 2))<|Rv 5 b0 I c0 (fun _=>Bi 0 I)<|Rx 6 230912 b0 I c0 (Bk (cs:=[.bool a1.fy.fe,v1_1]) I I (ah (d0.memA .t1) 0 2))<|Rv 7 b0 I c0 (fun _=>Bi 2 I)<|Rx 8 230912 b0 I c0 (Bk (cs:=[.bool a0.fv.fe,v0_3]) I I (ah (d0.memA .t2) 2 2))<|Rv 11 b0 I c0 (fun _=>Bi 2 I)<|Rx 12 229376 b0 I c0 (Bk (cs:=[.bool a0.fv.fe,v0_3]) I I (ah (d0.memA .t2) 2 2))<|Rv 13 b0 I c0 (fun _=>Bi 2 I)<|Rx 14 229376 b0 I c0 (Bk (cs:=[.bool a1.fv.fe,v1_3]) I I (ah (d0.memA .t1) 2 2))<|bk h fun X0 Q0 h=>Bs 4 31231 b0 I .plain (bd 110) I (e2 I I) (fun p q=>aQ_c n (d0.hL hL q) a0.fy (d0.km h0_1 q) a1.fv (d0.km h1_3 q) Q0) I fun I1 A1 E0 ⟨v1,hu_,J0⟩=>?_
 subst hu_
 obtain ⟨g0,q1⟩:=d0.agr E0
 refine bk h fun Y0 R0 h=>Bs 9 31743 b0 I .plain (bd 110) I (e2 I I) (fun p q=>aQ_c n (g0.hL hL q) a1.fy (g0.km h1_1 q) a0.fv (g0.km h0_3 q) R0) I fun J1 B1 F0 ⟨x1,hu_,K0⟩=>?_
 subst hu_
 obtain ⟨t0,C0⟩:=g0.agr F0
 refine bk h fun Z0 U0 h=>Bs 10 32767 b0 I .plain (bd 175) I (e2 I I) (fun p q=>bR_c n (t0.hL hL q) X0 (Aw (Ao J0 C0) q) Y0 (Aw K0 q) U0) I fun K1 C1 G0 ⟨y1,hu_,M0⟩=>?_
 subst hu_
 obtain ⟨j0,s1⟩:=t0.agr G0
 refine bk h fun b1 V0 h=>Bs 15 65535 b0 I .plain (bd 110) I (e2 I I) (fun p q=>aQ_c n (j0.hL hL q) a0.fv (j0.km h0_3 q) a1.fv (j0.km h1_3 q) V0) I fun M1 D1 H0 ⟨z1,hu_,P0⟩=>?_
 subst hu_
 obtain ⟨u0,D0⟩:=j0.agr H0
 refine bk h fun p0 W0 h=>Bs 16 131071 b0 I .plain (bd 118) I (e2 I I) (fun p q=>cu_c n (u0.hL hL q) Z0 (Aw (Ao M0 D0) q) b1 (Aw P0 q) W0) I fun P1 E1 I0 ⟨q0,s0,hu_,x0,y0⟩=>?_
 subst hu_
 obtain ⟨B0,u1⟩:=u0.agr I0
 refine BG 17 262143 b0 I I .plain (AE (news:=[.bool p0.fy.fe,q0,.bool p0.fv.fe,s0]) B0 .hd I I I I I I (o4 I (AY x0) I (AY y0))) fun Q1 k0 v0=>AN (dk b0)<|Am I<|Au hb0 func137 I (.cons (.many (cs:=[.bool p0.fy.fe,q0,.bool p0.fv.fe,s0]) I I (k0.memA .hd)) .nil) I ?_
 cases h
 exact ⟨k0.ag,fun p q=>⟨q0,s0,I,k0.kd (Ao x0 v0) q,k0.kd (Ao y0 v0) q⟩⟩
def cD_p (n:Nat) (a0:Tj):Oa Tj:=
  (bC_p n a0.fy).bind fun b0=>some (⟨b0,a0.fv⟩:Tj)
theorem cD_c (n:Nat) {L w} (hL:hl L w) (a0:Tj) {v0_1:Vc} (h0_1:Rep.R w L [v0_1] a0.fy.fo) {v0_3:Vc} (h0_3:Rep.R w L [v0_3] a0.fv.fo)  {r:Tj} (h:cD_p n a0 = some r) :
 Cl 138 #[.agg #[.bool a0.fy.fe,v0_1,.bool a0.fv.fe,v0_3]] w (ae w fun w' u=>∃ v0_1 v0_3:Vc,u = .agg #[.bool r.fy.fe,v0_1,.bool r.fv.fe,v0_3]/\Rep.R w' L [v0_1] r.fy.fo/\Rep.R w' L [v0_3] r.fv.fo):=by
 unfold cD_p at h
 refine AF func138 I I I fun _ cs0 hb0=>Af<|RG.bx (AA w) I I fun M0 D0 u0 H0=>RG.nl [.bool false,vN,.bool false,vN] u0 fun P0 E0 c0 I0=>Aa<|Aj<|du 6 fun b0 d0=>Rv 0 b0 I d0 (fun _=>Bi 0 I)<|Rx 1 100 b0 I d0 (Bk (cs:=[.bool a0.fy.fe,v0_1]) I I (ah (c0.memA .t1) 0 2))<|Rv 3 b0 I d0 (fun _=>Bi 2 I)<|Rx 4 96 b0 I d0 (Bk (cs:=[.bool a0.fv.fe,v0_3]) I I (ah (c0.memA .t1) 2 2))<|bk h fun p0 A0 h=>Bs 2 31 b0 I .plain (bd 160) I (e1 I) (fun p q=>bC_c n (c0.hL hL q) a0.fy (c0.km h0_1 q) A0) I fun Q0 K0 x0 ⟨g0,hu_,q0⟩=>?_
 subst hu_
 obtain ⟨s0,J0⟩:=c0.agr x0
 obtain ⟨B0,F0,y0,_⟩:=BR q0
 have t0:=AT h0_3 s0
 obtain ⟨C0,G0,z0,_⟩:=BR t0
 refine Rv 5 b0 I d0 (fun _=>AS (vs:=[.agg #[.bool p0.fe,g0],.agg #[.bool a0.fv.fe,v0_3]]) (u:=.agg #[.bool p0.fe,g0,.bool a0.fv.fe,v0_3]) (e2 I I) (fun p=>by rw [y0,z0]; try kernel_rfl))<|BG 6 127 b0 I I .plain (AE (news:=[.bool p0.fe,g0,.bool a0.fv.fe,v0_3]) s0 .hd I I I I I I (o4 I (AY q0) I (AY t0))) fun R0 j0 v0=>AN (dk b0)<|Am I<|Au hb0 func138 I (.cons (.many (cs:=[.bool p0.fe,g0,.bool a0.fv.fe,v0_3]) I I (j0.memA .hd)) .nil) I ?_
 cases h
 exact ⟨j0.ag,fun p q=>⟨g0,v0_3,I,j0.kd (Ao q0 v0) q,j0.k0 h0_3 q⟩⟩
def dj_p (n:Nat) (a0:Tj) (a1:Tj):Oa Tj:=
  (cD_p n a1).bind fun b0=>(cv_p n a0 b0).bind fun c0=>some c0
theorem dj_c (n:Nat) {L w} (hL:hl L w) (a0:Tj) {v0_1:Vc} (h0_1:Rep.R w L [v0_1] a0.fy.fo) {v0_3:Vc} (h0_3:Rep.R w L [v0_3] a0.fv.fo) (a1:Tj) {v1_1:Vc} (h1_1:Rep.R w L [v1_1] a1.fy.fo) {v1_3:Vc} (h1_3:Rep.R w L [v1_3] a1.fv.fo)  {r:Tj} (h:dj_p n a0 a1 = some r) :
 Cl 99 #[.agg #[.bool a0.fy.fe,v0_1,.bool a0.fv.fe,v0_3],.agg #[.bool a1.fy.fe,v1_1,.bool a1.fv.fe,v1_3]] w (ae w fun w' u=>∃ v0_1 v0_3:Vc,u = .agg #[.bool r.fy.fe,v0_1,.bool r.fv.fe,v0_3]/\Rep.R w' L [v0_1] r.fy.fo/\Rep.R w' L [v0_3] r.fv.fo):=by
 unfold dj_p at h
 refine AF func99 I I I fun _ cs0 hb0=>Af<|RG.bx (AA w) I I fun X0 G0 v0 J0=>RG.bx v0 I I fun Y0 H0 x0 K0=>RG.nl [.bool false,vN,.bool false,vN] x0 fun Z0 I0 b0 M0=>Aa<|Aj<|du 4 fun c0 u0=>Rx 0 24 c0 I u0 (AH I (b0.memA .t2))<|Rx 1 28 c0 I u0 (AH I (b0.memA .t1))<|bk h fun F0 D0 h=>Bs 2 7 c0 I .plain (bd 138) I (e1 I) (fun p q=>cD_c n (b0.hL hL q) a1 (b0.km h1_1 q) (b0.km h1_3 q) D0) I fun b1 V0 z0 ⟨R0,U0,hu_,B0,C0⟩=>?_
 subst hu_
 obtain ⟨d0,P0⟩:=b0.agr z0
 refine bk h fun j0 E0 h=>Bs 3 15 c0 I .plain (bd 137) I (e2 I I) (fun p q=>cv_c n (d0.hL hL q) a0 (d0.km h0_1 q) (d0.km h0_3 q) F0 (Aw B0 q) (Aw C0 q) E0) I fun c1 W0 A0 ⟨k0,p0,hu_,s0,t0⟩=>?_
 subst hu_
 obtain ⟨y0,Q0⟩:=d0.agr A0
 refine BG 4 31 c0 I I .plain (AE (news:=[.bool j0.fy.fe,k0,.bool j0.fv.fe,p0]) y0 .hd I I I I I I (o4 I (AY s0) I (AY t0))) fun d1 g0 q0=>AN (dk c0)<|Am I<|Au hb0 func99 I (.cons (.many (cs:=[.bool j0.fy.fe,k0,.bool j0.fv.fe,p0]) I I (g0.memA .hd)) .nil) I ?_
 cases h
 exact ⟨g0.ag,fun p q=>⟨k0,p0,I,g0.kd (Ao s0 q0) q,g0.kd (Ao t0 q0) q⟩⟩
def dR_p (n:Nat) (a0:Ta) (a1:Ta):Oa (Ta × Int):=
  (bn_p n ([a0,a1]:List Ta)).bind fun d0=>(if d0 = true then (bb_p n a0).bind fun g0=>(bb_p n a1).bind fun j0=>(dj_p n g0 j0).bind fun k0=>(bK_p n k0 (0:Int)).bind fun c0=>some (c0.1,c0.2) else (bK_p n (⟨(⟨false,([]:List Ua)⟩:Ti),(⟨false,([]:List Ua)⟩:Ti)⟩:Tj) (20:Int)).bind fun b0=>some (b0.1,b0.2))
theorem dR_c (n:Nat) {L w} (hL:hl L w) (a0:Ta) (a1:Ta)  {r:Ta × Int} (h:dR_p n a0 a1 = some r) :
 Cl 73 #[.agg ((ab a0)).toArray,.agg ((ab a1)).toArray] w (ae w fun _ u=>u = .tuple #[.agg ((ab r.1)).toArray,vI r.2]):=by
 unfold dR_p at h
 refine AF func73 I I I fun _ cs0 hb0=>Af<|RG.bx (AA w) I I fun j2 s1 I0 F1=>RG.bx I0 I I fun k2 u1 J0 G1=>RG.nl zL J0 fun p2 v1 s0 H1=>Ag I<|Aa<|Af<|Ac (AH I (s0.memA .t2))<|Ac (AH I (s0.memA .t1))<|BK (fst:=[]) (cap:=[]) (vs:=[.agg ((ab a0)).toArray,.agg ((ab a1)).toArray,.func (.func 99) #[] #[]]) .plain (bd 98) func98 I I I I (e3 I I I) I fun C1 E0 V1=>Af<|RG.bx s0 I I fun q2 x1 K0 I1=>RG.bx K0 I I fun s2 y1 M0 J1=>RG.nl [.bool false,vN,.bool false,vN] M0 fun u2 z1 t0 K1=>Ag I<|Aa<|Aj<|Af<|Ac (AH I (t0.memA .t2))<|Ac (AH I (t0.memA .t1))<|Al .plain I (AL (α:=Ta) (xs:=([a0,a1]:List Ta)) (vs:=[.agg ((ab a0)).toArray,.agg ((ab a1)).toArray]) (ds' :=(ab a0 ++ ab a1)) I t0 bK I (e2 I I) (by kernel_rfl) I) fun v2 A1 c0 M1=>?_
 refine bk h fun k1 b1 h=>Bj (.bool k1) (bd 101) I (e1 I) (fun p q=>bn_c n (c0.hL0 hL q) (Aw (St.lend (α:=Ta) (L:=L) c0 .hd (AD (cs:=(ab a0 ++ ab a1)) (xs:=(([a0,a1]:List Ta):List Ta)) c0 L (Av (cs:=(ab a0)) (ds:=(ab a1)) (aY a0.fN a0.fD) (Av (cs:=(ab a1)) (ds:=[]) (aY a1.fN a1.fD) (AJ _ _)))) hL) q) b1) I<|Ac (Bu I)<|Aa<|MX.ifnb I h (fun H0 h=>?_) (fun H0 h=>?_)
 refine Ar<|Aj<|du 6 fun b0 j0=>Rv 0 b0 I j0 (fun _=>Ai I)<|Rx 1 244 b0 I j0 (AH I (c0.memA .t3))<|Rx 3 240 b0 I j0 (AH I (c0.memA .t2))<|bk h fun p1 c1 h=>Bs 2 15 b0 I .plain (bd 109) I (e1 I) (fun p q=>bb_c n (c0.hL hL q) a0 c1) I fun x2 b2 Q0 ⟨W1,X1,hu_,V0,W0⟩=>?_
 subst hu_
 obtain ⟨y0,P1⟩:=c0.agr Q0
 refine bk h fun q1 d1 h=>Bs 4 31 b0 I .plain (bd 109) I (e1 I) (fun p q=>bb_c n (y0.hL hL q) a1 d1) I fun y2 c2 R0 ⟨Y1,Z1,hu_,X0,Y0⟩=>?_
 subst hu_
 obtain ⟨z0,C0⟩:=y0.agr R0
 refine bk h fun d0 g1 h=>Bs 5 63 b0 I .plain (bd 99) I (e2 I I) (fun p q=>dj_c n (z0.hL hL q) p1 (Aw (Ao V0 C0) q) (Aw (Ao W0 C0) q) q1 (Aw X0 q) (Aw Y0 q) g1) I fun z2 d2 U0 ⟨u0,v0,hu_,F0,G0⟩=>?_
 subst hu_
 obtain ⟨P0,Q1⟩:=z0.agr U0
 refine BG 6 127 b0 I I .plain (AE (news:=[.bool d0.fy.fe,u0,.bool d0.fv.fe,v0]) P0 .t1 I I I I I I (o4 I (AY F0) I (AY G0))) fun A2 g0 D0=>Rv 7 b0 I j0 (fun _=>Be I)<|AN (dk b0)<|Am I<|Au (u:=.tuple #[.agg #[.bool d0.fy.fe,u0,.bool d0.fv.fe,v0],vI 0]) E0 func98 I (.cons (.many (cs:=[.bool d0.fy.fe,u0,.bool d0.fv.fe,v0]) I I (g0.memA .t1)) (.cons (.tmp I) .nil)) I<|Ac (Ak I I)<|Ac (Ak I I)<|bk h fun p0 j1 h=>Bj (.tuple #[.agg ((ab p0.1)).toArray,vI p0.2]) (bd 97) I (e2 I I) (fun p q=>bK_c n (g0.hL0 hL q) d0 (g0.kd (Ao F0 D0) q) (g0.kd (Ao G0 D0) q) j1) I<|Ac (Ak I I)<|Ac (Ak I I)<|AV (ab p0.1) g0 .t4 (ai I) fun B2 A0 R1=>Ag I<|Aa<|Am I<|Au hb0 func73 I (.cons (.many (cs:=(ab p0.1)) I I (A0.memA .t4)) (.cons (.tmp I) .nil)) I ?_
 cases h
 exact A0.gv
 refine Af<|RG.nl [.bool false,vN,.bool false,vN] c0 fun C2 B1 B0 U1=>Aa<|Af<|Ac (AH I (B0.memA .hd))<|AV [.bool false,vN,.bool false,vN] B0 .t2 (ai I) fun D2 q0 D1=>Ag I<|Aa<|Am I<|Au (u:=.tuple #[.agg #[.bool false,vN,.bool false,vN],vI 20]) E0 func98 I (.cons (.many (cs:=[.bool false,vN,.bool false,vN]) I I (q0.memA .t2)) (.cons (.tmp I) .nil)) I<|Ac (Ak I I)<|Ac (Ak I I)<|bk h fun k0 Z0 h=>Bj (.tuple #[.agg ((ab k0.1)).toArray,vI k0.2]) (bd 97) I (e2 I I) (fun p q=>bK_c n (q0.hL0 hL q) (⟨(⟨false,([]:List Ua)⟩:Ti),(⟨false,([]:List Ua)⟩:Ti)⟩:Tj) (Aw (Rep.nilSlice _ _) q) (Aw (Rep.nilSlice _ _) q) Z0) I<|Ac (Ak I I)<|Ac (Ak I I)<|AV (ab k0.1) q0 .t5 (ai I) fun g2 x0 E1=>Ag I<|Aa<|Am I<|Au hb0 func73 I (.cons (.many (cs:=(ab k0.1)) I I (x0.memA .t5)) (.cons (.tmp I) .nil)) I ?_
 cases h
 exact x0.gv
def cE_p (n:Nat) (a0:Ta) (a1:Ta):Oa (Except Tg Ta):=
  (dR_p n a0 a1).bind fun b0=>(aB_p n b0.1 b0.2).bind fun d0=>exc d0 (fun g0=>some (.ok g0)) (fun c0=>some (.error c0))
theorem cE_c (n:Nat) {L w} (hL:hl L w) (a0:Ta) (a1:Ta)  {r:Except Tg Ta} (h:cE_p n a0 a1 = some r) :
 Cl 37 #[.agg ((ab a0)).toArray,.agg ((ab a1)).toArray] w (aL w (fun (y:Ta) _ u=>u = .agg ((ab y)).toArray) (fun e=>.iface 115 (.agg #[vI e.fA])) r):=by
 unfold cE_p at h
 refine BZ func37 I I I fun _ cs0 hb0 hp0=>Af<|RG.bx (AA w) I I fun E0 u0 k0 z0=>RG.bx k0 I I fun F0 v0 p0 A0=>RG.nl zL p0 fun G0 x0 b0 B0=>Aa<|Af<|Ac (AH I (b0.memA .t2))<|Ac (AH I (b0.memA .t1))<|bk h fun c0 t0 h=>Bj (.tuple #[.agg ((ab c0.1)).toArray,vI c0.2]) (bd 73) I (e2 I I) (fun p q=>dR_c n (b0.hL0 hL q) a0 a1 t0) I<|Ac (Ak I I)<|Ac (Ak I I)<|xk h (fun y0 d0 h=>?_) (fun g0 d0 h=>?_)
 refine BE (fst:=[]) (cap:=[]) .plain (bd 66) I (e2 I I) (fun p q=>aB_c n (b0.hL0 hL q) c0.1 d0) fun H0 s0=>?_
 obtain ⟨q0,C0⟩:=b0.agr s0
 cases h
 exact Bo hp0 func37 ⟨q0.ag,I⟩
 refine Bj (.agg ((ab g0)).toArray) (bd 66) I (e2 I I) (fun p q=>Bm (aB_c n (b0.hL0 hL q) c0.1 d0)) I<|AV (ab g0) b0 .hd (ai I) fun I0 j0 D0=>Aa<|Am I<|Au hb0 func37 I (.cons (.many (cs:=(ab g0)) I I (j0.memA .hd)) .nil) I ?_
 cases h
 exact ⟨j0.ag,fun p q=>aE I⟩
def dS_p (n:Nat) (a0:Ta) (a1:Ta):Oa (Ta × Int):=
  (bn_p n ([a0,a1]:List Ta)).bind fun d0=>(if d0 = true then (bb_p n a0).bind fun g0=>(bb_p n a1).bind fun j0=>(cv_p n g0 j0).bind fun k0=>(bK_p n k0 (0:Int)).bind fun c0=>some (c0.1,c0.2) else (bK_p n (⟨(⟨false,([]:List Ua)⟩:Ti),(⟨false,([]:List Ua)⟩:Ti)⟩:Tj) (20:Int)).bind fun b0=>some (b0.1,b0.2))
theorem dS_c (n:Nat) {L w} (hL:hl L w) (a0:Ta) (a1:Ta)  {r:Ta × Int} (h:dS_p n a0 a1 = some r) :
 Cl 100 #[.agg ((ab a0)).toArray,.agg ((ab a1)).toArray] w (ae w fun _ u=>u = .tuple #[.agg ((ab r.1)).toArray,vI r.2]):=by
 unfold dS_p at h
 refine AF func100 I I I fun _ cs0 hb0=>Af<|RG.bx (AA w) I I fun j2 s1 I0 F1=>RG.bx I0 I I fun k2 u1 J0 G1=>RG.nl zL J0 fun p2 v1 s0 H1=>Ag I<|Aa<|Af<|Ac (AH I (s0.memA .t2))<|Ac (AH I (s0.memA .t1))<|BK (fst:=[]) (cap:=[]) (vs:=[.agg ((ab a0)).toArray,.agg ((ab a1)).toArray,.func (.func 137) #[] #[]]) .plain (bd 98) func98 I I I I (e3 I I I) I fun C1 E0 V1=>Af<|RG.bx s0 I I fun q2 x1 K0 I1=>RG.bx K0 I I fun s2 y1 M0 J1=>RG.nl [.bool false,vN,.bool false,vN] M0 fun u2 z1 t0 K1=>Ag I<|Aa<|Aj<|Af<|Ac (AH I (t0.memA .t2))<|Ac (AH I (t0.memA .t1))<|Al .plain I (AL (α:=Ta) (xs:=([a0,a1]:List Ta)) (vs:=[.agg ((ab a0)).toArray,.agg ((ab a1)).toArray]) (ds' :=(ab a0 ++ ab a1)) I t0 bK I (e2 I I) (by kernel_rfl) I) fun v2 A1 c0 M1=>?_
 refine bk h fun k1 b1 h=>Bj (.bool k1) (bd 101) I (e1 I) (fun p q=>bn_c n (c0.hL0 hL q) (Aw (St.lend (α:=Ta) (L:=L) c0 .hd (AD (cs:=(ab a0 ++ ab a1)) (xs:=(([a0,a1]:List Ta):List Ta)) c0 L (Av (cs:=(ab a0)) (ds:=(ab a1)) (aY a0.fN a0.fD) (Av (cs:=(ab a1)) (ds:=[]) (aY a1.fN a1.fD) (AJ _ _)))) hL) q) b1) I<|Ac (Bu I)<|Aa<|MX.ifnb I h (fun H0 h=>?_) (fun H0 h=>?_)
 refine Ar<|Aj<|du 6 fun b0 j0=>Rv 0 b0 I j0 (fun _=>Ai I)<|Rx 1 244 b0 I j0 (AH I (c0.memA .t3))<|Rx 3 240 b0 I j0 (AH I (c0.memA .t2))<|bk h fun p1 c1 h=>Bs 2 15 b0 I .plain (bd 109) I (e1 I) (fun p q=>bb_c n (c0.hL hL q) a0 c1) I fun x2 b2 Q0 ⟨W1,X1,hu_,V0,W0⟩=>?_
 subst hu_
 obtain ⟨y0,P1⟩:=c0.agr Q0
 refine bk h fun q1 d1 h=>Bs 4 31 b0 I .plain (bd 109) I (e1 I) (fun p q=>bb_c n (y0.hL hL q) a1 d1) I fun y2 c2 R0 ⟨Y1,Z1,hu_,X0,Y0⟩=>?_
 subst hu_
 obtain ⟨z0,C0⟩:=y0.agr R0
 refine bk h fun d0 g1 h=>Bs 5 63 b0 I .plain (bd 137) I (e2 I I) (fun p q=>cv_c n (z0.hL hL q) p1 (Aw (Ao V0 C0) q) (Aw (Ao W0 C0) q) q1 (Aw X0 q) (Aw Y0 q) g1) I fun z2 d2 U0 ⟨u0,v0,hu_,F0,G0⟩=>?_
 subst hu_
 obtain ⟨P0,Q1⟩:=z0.agr U0
 refine BG 6 127 b0 I I .plain (AE (news:=[.bool d0.fy.fe,u0,.bool d0.fv.fe,v0]) P0 .t1 I I I I I I (o4 I (AY F0) I (AY G0))) fun A2 g0 D0=>Rv 7 b0 I j0 (fun _=>Be I)<|AN (dk b0)<|Am I<|Au (u:=.tuple #[.agg #[.bool d0.fy.fe,u0,.bool d0.fv.fe,v0],vI 0]) E0 func98 I (.cons (.many (cs:=[.bool d0.fy.fe,u0,.bool d0.fv.fe,v0]) I I (g0.memA .t1)) (.cons (.tmp I) .nil)) I<|Ac (Ak I I)<|Ac (Ak I I)<|bk h fun p0 j1 h=>Bj (.tuple #[.agg ((ab p0.1)).toArray,vI p0.2]) (bd 97) I (e2 I I) (fun p q=>bK_c n (g0.hL0 hL q) d0 (g0.kd (Ao F0 D0) q) (g0.kd (Ao G0 D0) q) j1) I<|Ac (Ak I I)<|Ac (Ak I I)<|AV (ab p0.1) g0 .t4 (ai I) fun B2 A0 R1=>Ag I<|Aa<|Am I<|Au hb0 func100 I (.cons (.many (cs:=(ab p0.1)) I I (A0.memA .t4)) (.cons (.tmp I) .nil)) I ?_
 cases h
 exact A0.gv
 refine Af<|RG.nl [.bool false,vN,.bool false,vN] c0 fun C2 B1 B0 U1=>Aa<|Af<|Ac (AH I (B0.memA .hd))<|AV [.bool false,vN,.bool false,vN] B0 .t2 (ai I) fun D2 q0 D1=>Ag I<|Aa<|Am I<|Au (u:=.tuple #[.agg #[.bool false,vN,.bool false,vN],vI 20]) E0 func98 I (.cons (.many (cs:=[.bool false,vN,.bool false,vN]) I I (q0.memA .t2)) (.cons (.tmp I) .nil)) I<|Ac (Ak I I)<|Ac (Ak I I)<|bk h fun k0 Z0 h=>Bj (.tuple #[.agg ((ab k0.1)).toArray,vI k0.2]) (bd 97) I (e2 I I) (fun p q=>bK_c n (q0.hL0 hL q) (⟨(⟨false,([]:List Ua)⟩:Ti),(⟨false,([]:List Ua)⟩:Ti)⟩:Tj) (Aw (Rep.nilSlice _ _) q) (Aw (Rep.nilSlice _ _) q) Z0) I<|Ac (Ak I I)<|Ac (Ak I I)<|AV (ab k0.1) q0 .t5 (ai I) fun g2 x0 E1=>Ag I<|Aa<|Am I<|Au hb0 func100 I (.cons (.many (cs:=(ab k0.1)) I I (x0.memA .t5)) (.cons (.tmp I) .nil)) I ?_
 cases h
 exact x0.gv
def dP_p (n:Nat) (a0:Ta) (a1:Ta):Oa (Except Tg Ta):=
  (dS_p n a0 a1).bind fun b0=>(aB_p n b0.1 b0.2).bind fun d0=>exc d0 (fun g0=>some (.ok g0)) (fun c0=>some (.error c0))
theorem dP_c (n:Nat) {L w} (hL:hl L w) (a0:Ta) (a1:Ta)  {r:Except Tg Ta} (h:dP_p n a0 a1 = some r) :
 Cl 74 #[.agg ((ab a0)).toArray,.agg ((ab a1)).toArray] w (aL w (fun (y:Ta) _ u=>u = .agg ((ab y)).toArray) (fun e=>.iface 115 (.agg #[vI e.fA])) r):=by
 unfold dP_p at h
 refine BZ func74 I I I fun _ cs0 hb0 hp0=>Af<|RG.bx (AA w) I I fun E0 u0 k0 z0=>RG.bx k0 I I fun F0 v0 p0 A0=>RG.nl zL p0 fun G0 x0 b0 B0=>Aa<|Af<|Ac (AH I (b0.memA .t2))<|Ac (AH I (b0.memA .t1))<|bk h fun c0 t0 h=>Bj (.tuple #[.agg ((ab c0.1)).toArray,vI c0.2]) (bd 100) I (e2 I I) (fun p q=>dS_c n (b0.hL0 hL q) a0 a1 t0) I<|Ac (Ak I I)<|Ac (Ak I I)<|xk h (fun y0 d0 h=>?_) (fun g0 d0 h=>?_)
 refine BE (fst:=[]) (cap:=[]) .plain (bd 66) I (e2 I I) (fun p q=>aB_c n (b0.hL0 hL q) c0.1 d0) fun H0 s0=>?_
 obtain ⟨q0,C0⟩:=b0.agr s0
 cases h
 exact Bo hp0 func74 ⟨q0.ag,I⟩
 refine Bj (.agg ((ab g0)).toArray) (bd 66) I (e2 I I) (fun p q=>Bm (aB_c n (b0.hL0 hL q) c0.1 d0)) I<|AV (ab g0) b0 .hd (ai I) fun I0 j0 D0=>Aa<|Am I<|Au hb0 func74 I (.cons (.many (cs:=(ab g0)) I I (j0.memA .hd)) .nil) I ?_
 cases h
 exact ⟨j0.ag,fun p q=>aE I⟩
def cw_p (n:Nat) (a0:Tj) (a1:Tj):Oa Tj:=
  (aQ_p n a0.fy a1.fv).bind fun b0=>(aQ_p n a0.fv a1.fy).bind fun c0=>(cu_p n b0 c0).bind fun d0=>some d0
theorem cw_c (n:Nat) {L w} (hL:hl L w) (a0:Tj) {v0_1:Vc} (h0_1:Rep.R w L [v0_1] a0.fy.fo) {v0_3:Vc} (h0_3:Rep.R w L [v0_3] a0.fv.fo) (a1:Tj) {v1_1:Vc} (h1_1:Rep.R w L [v1_1] a1.fy.fo) {v1_3:Vc} (h1_3:Rep.R w L [v1_3] a1.fv.fo)  {r:Tj} (h:cw_p n a0 a1 = some r) :
 Cl 102 #[.agg #[.bool a0.fy.fe,v0_1,.bool a0.fv.fe,v0_3],.agg #[.bool a1.fy.fe,v1_1,.bool a1.fv.fe,v1_3]] w (ae w fun w' u=>∃ v0_1 v0_3:Vc,u = .agg #[.bool r.fy.fe,v0_1,.bool r.fv.fe,v0_3]/\Rep.R w' L [v0_1] r.fy.fo/\Rep.R w' L [v0_3] r.fv.fo):=by
 unfold cw_p at h
 refine AF func102 I I I fun _ cs0 hb0=>Af<|RG.bx (AA w) I I fun g1 M0 x0 R0=>RG.bx x0 I I fun j1 P0 y0 U0=>RG.nl [.bool false,vN,.bool false,vN] y0 fun k1 Q0 c0 V0=>Aa<|Aj<|du 11 fun b0 d0=>Rv 0 b0 I d0 (fun _=>Bi 0 I)<|Rx 1 3600 b0 I d0 (Bk (cs:=[.bool a0.fy.fe,v0_1]) I I (ah (c0.memA .t2) 0 2))<|Rv 2 b0 I d0 (fun _=>Bi 2 I)<|Rx 3 3600 b0 I d0 (Bk (cs:=[.bool a1.fv.fe,v1_3]) I I (ah (c0.memA .t1) 2 2))<|Rv 5 b0 I d0 (fun _=>Bi 2 I)<|Rx 6 3584 b0 I d0 (Bk (cs:=[.bool a0.fv.fe,v0_3]) I I (ah (c0.memA .t2) 2 2))<|Rv 7 b0 I d0 (fun _=>Bi 0 I)<|Rx 8 3584 b0 I d0 (Bk (cs:=[.bool a1.fy.fe,v1_1]) I I (ah (c0.memA .t1) 0 2))<|bk h fun J0 G0 h=>Bs 4 511 b0 I .plain (bd 110) I (e2 I I) (fun p q=>aQ_c n (c0.hL hL q) a0.fy (c0.km h0_1 q) a1.fv (c0.km h1_3 q) G0) I fun p1 b1 B0 ⟨Y0,hu_,E0⟩=>?_
 subst hu_
 obtain ⟨g0,W0⟩:=c0.agr B0
 refine bk h fun K0 H0 h=>Bs 9 1023 b0 I .plain (bd 110) I (e2 I I) (fun p q=>aQ_c n (g0.hL hL q) a0.fv (g0.km h0_3 q) a1.fy (g0.km h1_1 q) H0) I fun q1 c1 C0 ⟨Z0,hu_,F0⟩=>?_
 subst hu_
 obtain ⟨s0,A0⟩:=g0.agr C0
 refine bk h fun k0 I0 h=>Bs 10 2047 b0 I .plain (bd 118) I (e2 I I) (fun p q=>cu_c n (s0.hL hL q) J0 (Aw (Ao E0 A0) q) K0 (Aw F0 q) I0) I fun s1 d1 D0 ⟨p0,q0,hu_,u0,v0⟩=>?_
 subst hu_
 obtain ⟨z0,X0⟩:=s0.agr D0
 refine BG 11 4095 b0 I I .plain (AE (news:=[.bool k0.fy.fe,p0,.bool k0.fv.fe,q0]) z0 .hd I I I I I I (o4 I (AY u0) I (AY v0))) fun u1 j0 t0=>AN (dk b0)<|Am I<|Au hb0 func102 I (.cons (.many (cs:=[.bool k0.fy.fe,p0,.bool k0.fv.fe,q0]) I I (j0.memA .hd)) .nil) I ?_
 cases h
 exact ⟨j0.ag,fun p q=>⟨p0,q0,I,j0.kd (Ao u0 t0) q,j0.kd (Ao v0 t0) q⟩⟩
def dT_p (n:Nat) (a0:Ta) (a1:Ta):Oa (Ta × Int):=
  (bn_p n ([a0,a1]:List Ta)).bind fun s0=>(if s0 = true then (if a1.fN = (0,0,0,0,0,0,0,0) then some ((⟨(0,0,0,0,0,0,0,0),(0,0,0,0,0,0,0,0)⟩:Ta),(7:Int)) else (bn_p n ([a0,a1]:List Ta)).bind fun t0=>(if t0 = true then (bb_p n a0).bind fun u0=>(bb_p n a1).bind fun v0=>(cw_p n u0 v0).bind fun x0=>(bK_p n x0 (0:Int)).bind fun b0=>some (b0.1,b0.2) else (bK_p n (⟨(⟨false,([]:List Ua)⟩:Ti),(⟨false,([]:List Ua)⟩:Ti)⟩:Tj) (20:Int)).bind fun c0=>some (c0.1,c0.2))) else (bn_p n ([a0,a1]:List Ta)).bind fun j0=>(if j0 = true then (bb_p n a0).bind fun k0=>(bb_p n a1).bind fun p0=>(cw_p n k0 p0).bind fun q0=>(bK_p n q0 (0:Int)).bind fun d0=>some (d0.1,d0.2) else (bK_p n (⟨(⟨false,([]:List Ua)⟩:Ti),(⟨false,([]:List Ua)⟩:Ti)⟩:Tj) (20:Int)).bind fun g0=>some (g0.1,g0.2)))
theorem dT_c (n:Nat) {L w} (hL:hl L w) (a0:Ta) (a1:Ta)  {r:Ta × Int} (h:dT_p n a0 a1 = some r) :
 Cl 75 #[.agg ((ab a0)).toArray,.agg ((ab a1)).toArray] w (ae w fun _ u=>u = .tuple #[.agg ((ab r.1)).toArray,vI r.2]):=by
 unfold dT_p at h
 refine AF func75 I I I fun _ cs0 hb0=>Af<|RG.bx (AA w) I I fun t4 K2 z1 q3=>RG.bx z1 I I fun D4 P2 C1 y3=>RG.nl zL C1 fun K4 R2 D0 D3=>Ag I<|Aa<|Aj<|Af<|Ac (AH I (D0.memA .t2))<|Ac (AH I (D0.memA .t1))<|Al .plain I (AL (α:=Ta) (xs:=([a0,a1]:List Ta)) (vs:=[.agg ((ab a0)).toArray,.agg ((ab a1)).toArray]) (ds' :=(ab a0 ++ ab a1)) I D0 bK I (e2 I I) (by kernel_rfl) I) fun M4 U2 b0 E3=>bk h fun C2 s2 h=>Bj (.bool C2) (bd 101) I (e1 I) (fun p q=>bn_c n (b0.hL0 hL q) (Aw (St.lend (α:=Ta) (L:=L) b0 .hd (AD (cs:=(ab a0 ++ ab a1)) (xs:=(([a0,a1]:List Ta):List Ta)) b0 L (Av (cs:=(ab a0)) (ds:=(ab a1)) (aY a0.fN a0.fD) (Av (cs:=(ab a1)) (ds:=[]) (aY a1.fN a1.fD) (AJ _ _)))) hL) q) s2) I<|Ae I<|RG.ifb (s:=10) I h (fun v1 h=>?_) (fun v1 h=>?_)
 refine RG.fg 0 I<|AG (Bk (cs:=(ao a1.fN)) I I (ah (b0.memA .t2) 0 8))<|AG (AS (vs:=[]) (u:=.agg zQ) ak (fun p=>by kernel_rfl))<|AG (FV.eqlV (v:=.agg ((ao a1.fN)).toArray) (u:=.agg zQ) I I (lV a1.fN (0,0,0,0,0,0,0,0)))<|Bn I I<|Aa<|AQ I h (fun x1 h=>?_) (fun x1 h=>?_)
 refine Af<|Ac (AS (vs:=[]) (u:=.agg zM) ak (fun p=>by kernel_rfl))<|AV zL b0 .t1 (ai I) fun P4 W0 F3=>Ag I<|Aa<|Am I<|Au hb0 func75 I (.cons (.many (cs:=zL) I I (W0.memA .t1)) (.cons (.tmp I) .nil)) I ?_
 cases h
 exact W0.gv
 refine Ar<|Af<|Ac (AH I (b0.memA .t3))<|Ac (AH I (b0.memA .t2))<|BK (fst:=[]) (cap:=[]) (vs:=[.agg ((ab a0)).toArray,.agg ((ab a1)).toArray,.func (.func 102) #[] #[]]) .plain (bd 98) func98 I I I I (e3 I I I) I fun b3 j1 Q3=>Af<|RG.bx b0 I I fun Q4 V2 E1 G3=>RG.bx E1 I I fun R4 W2 F1 H3=>RG.nl [.bool false,vN,.bool false,vN] F1 fun U4 X2 E0 I3=>Ag I<|Aa<|Aj<|Af<|Ac (AH I (E0.memA .t2))<|Ac (AH I (E0.memA .t1))<|Al .plain I (AL (α:=Ta) (xs:=([a0,a1]:List Ta)) (vs:=[.agg ((ab a0)).toArray,.agg ((ab a1)).toArray]) (ds' :=(ab a0 ++ ab a1)) I E0 bK I (e2 I I) (by kernel_rfl) I) fun V4 Y2 j0 J3=>bk h fun D2 u2 h=>Bj (.bool D2) (bd 101) I (e1 I) (fun p q=>bn_c n (j0.hL0 hL q) (Aw (St.lend (α:=Ta) (L:=L) j0 .hd (AD (cs:=(ab a0 ++ ab a1)) (xs:=(([a0,a1]:List Ta):List Ta)) j0 L (Av (cs:=(ab a0)) (ds:=(ab a1)) (aY a0.fN a0.fD) (Av (cs:=(ab a1)) (ds:=[]) (aY a1.fN a1.fD) (AJ _ _)))) hL) q) u2) I<|Ac (Bu I)<|Aa<|MX.ifnb I h (fun y1 h=>?_) (fun y1 h=>?_)
 refine Ar<|Aj<|du 6 fun d0 u0=>Rv 0 d0 I u0 (fun _=>Ai I)<|Rx 1 244 d0 I u0 (AH I (j0.memA .t3))<|Rx 3 240 d0 I u0 (AH I (j0.memA .t2))<|bk h fun E2 v2 h=>Bs 2 15 d0 I .plain (bd 109) I (e1 I) (fun p q=>bb_c n (j0.hL hL q) a0 v2) I fun W4 j4 K1 ⟨X3,Y3,hu_,W1,X1⟩=>?_
 subst hu_
 obtain ⟨X0,K3⟩:=j0.agr K1
 refine bk h fun F2 x2 h=>Bs 4 31 d0 I .plain (bd 109) I (e1 I) (fun p q=>bb_c n (X0.hL hL q) a1 x2) I fun X4 k4 M1 ⟨Z3,b4,hu_,Y1,Z1⟩=>?_
 subst hu_
 obtain ⟨Y0,c1⟩:=X0.agr M1
 refine bk h fun p0 y2 h=>Bs 5 63 d0 I .plain (bd 102) I (e2 I I) (fun p q=>cw_c n (Y0.hL hL q) E2 (Aw (Ao W1 c1) q) (Aw (Ao X1 c1) q) F2 (Aw Y1 q) (Aw Z1 q) y2) I fun Y4 p4 P1 ⟨H0,I0,hu_,q1,s1⟩=>?_
 subst hu_
 obtain ⟨G1,M3⟩:=Y0.agr P1
 refine BG 6 127 d0 I I .plain (AE (news:=[.bool p0.fy.fe,H0,.bool p0.fv.fe,I0]) G1 .t1 I I I I I I (o4 I (AY q1) I (AY s1))) fun Z4 s0 d1=>Rv 7 d0 I u0 (fun _=>Be I)<|AN (dk d0)<|Am I<|Au (u:=.tuple #[.agg #[.bool p0.fy.fe,H0,.bool p0.fv.fe,I0],vI 0]) j1 func98 I (.cons (.many (cs:=[.bool p0.fy.fe,H0,.bool p0.fv.fe,I0]) I I (s0.memA .t1)) (.cons (.tmp I) .nil)) I<|Ac (Ak I I)<|Ac (Ak I I)<|bk h fun v0 b2 h=>Bj (.tuple #[.agg ((ab v0.1)).toArray,vI v0.2]) (bd 97) I (e2 I I) (fun p q=>bK_c n (s0.hL0 hL q) p0 (s0.kd (Ao q1 d1) q) (s0.kd (Ao s1 d1) q) b2) I<|Ac (Ak I I)<|Ac (Ak I I)<|AV (ab v0.1) s0 .t5 (ai I) fun q4 J0 c3=>Ag I<|Aa<|Am I<|Au hb0 func75 I (.cons (.many (cs:=(ab v0.1)) I I (J0.memA .t5)) (.cons (.tmp I) .nil)) I ?_
 cases h
 exact J0.gv
 refine Af<|RG.nl [.bool false,vN,.bool false,vN] j0 fun s4 G2 K0 d3=>Aa<|Af<|Ac (AH I (K0.memA .hd))<|AV [.bool false,vN,.bool false,vN] K0 .t2 (ai I) fun u4 A0 g3=>Ag I<|Aa<|Am I<|Au (u:=.tuple #[.agg #[.bool false,vN,.bool false,vN],vI 20]) j1 func98 I (.cons (.many (cs:=[.bool false,vN,.bool false,vN]) I I (A0.memA .t2)) (.cons (.tmp I) .nil)) I<|Ac (Ak I I)<|Ac (Ak I I)<|bk h fun x0 c2 h=>Bj (.tuple #[.agg ((ab x0.1)).toArray,vI x0.2]) (bd 97) I (e2 I I) (fun p q=>bK_c n (A0.hL0 hL q) (⟨(⟨false,([]:List Ua)⟩:Ti),(⟨false,([]:List Ua)⟩:Ti)⟩:Tj) (Aw (Rep.nilSlice _ _) q) (Aw (Rep.nilSlice _ _) q) c2) I<|Ac (Ak I I)<|Ac (Ak I I)<|AV (ab x0.1) A0 .t6 (ai I) fun v4 M0 j3=>Ag I<|Aa<|Am I<|Au hb0 func75 I (.cons (.many (cs:=(ab x0.1)) I I (M0.memA .t6)) (.cons (.tmp I) .nil)) I ?_
 cases h
 exact M0.gv
 refine Aq<|Aq<|Aq<|Aq<|Bv I I<|Aa<|BF I<|Ar<|Af<|Ac (AH I (b0.memA .t3))<|Ac (AH I (b0.memA .t2))<|BK (fst:=[]) (cap:=[]) (vs:=[.agg ((ab a0)).toArray,.agg ((ab a1)).toArray,.func (.func 102) #[] #[]]) .plain (bd 98) func98 I I I I (e3 I I I) I fun Z2 g1 P3=>Af<|RG.bx b0 I I fun x4 H2 A1 k3=>RG.bx A1 I I fun y4 I2 B1 p3=>RG.nl [.bool false,vN,.bool false,vN] B1 fun z4 J2 B0 s3=>Ag I<|Aa<|Aj<|Af<|Ac (AH I (B0.memA .t2))<|Ac (AH I (B0.memA .t1))<|Al .plain I (AL (α:=Ta) (xs:=([a0,a1]:List Ta)) (vs:=[.agg ((ab a0)).toArray,.agg ((ab a1)).toArray]) (ds' :=(ab a0 ++ ab a1)) I B0 bK I (e2 I I) (by kernel_rfl) I) fun A4 M2 g0 u3=>bk h fun z2 d2 h=>Bj (.bool z2) (bd 101) I (e1 I) (fun p q=>bn_c n (g0.hL0 hL q) (Aw (St.lend (α:=Ta) (L:=L) g0 .hd (AD (cs:=(ab a0 ++ ab a1)) (xs:=(([a0,a1]:List Ta):List Ta)) g0 L (Av (cs:=(ab a0)) (ds:=(ab a1)) (aY a0.fN a0.fD) (Av (cs:=(ab a1)) (ds:=[]) (aY a1.fN a1.fD) (AJ _ _)))) hL) q) d2) I<|Ac (Bu I)<|Aa<|MX.ifnb I h (fun u1 h=>?_) (fun u1 h=>?_)
 refine Ar<|Aj<|du 6 fun c0 t0=>Rv 0 c0 I t0 (fun _=>Ai I)<|Rx 1 244 c0 I t0 (AH I (g0.memA .t3))<|Rx 3 240 c0 I t0 (AH I (g0.memA .t2))<|bk h fun A2 g2 h=>Bs 2 15 c0 I .plain (bd 109) I (e1 I) (fun p q=>bb_c n (g0.hL hL q) a0 g2) I fun B4 c4 H1 ⟨R3,U3,hu_,Q1,R1⟩=>?_
 subst hu_
 obtain ⟨P0,v3⟩:=g0.agr H1
 refine bk h fun B2 j2 h=>Bs 4 31 c0 I .plain (bd 109) I (e1 I) (fun p q=>bb_c n (P0.hL hL q) a1 j2) I fun C4 d4 I1 ⟨V3,W3,hu_,U1,V1⟩=>?_
 subst hu_
 obtain ⟨Q0,Z0⟩:=P0.agr I1
 refine bk h fun k0 k2 h=>Bs 5 63 c0 I .plain (bd 102) I (e2 I I) (fun p q=>cw_c n (Q0.hL hL q) A2 (Aw (Ao Q1 Z0) q) (Aw (Ao R1 Z0) q) B2 (Aw U1 q) (Aw V1 q) k2) I fun E4 g4 J1 ⟨F0,G0,hu_,k1,p1⟩=>?_
 subst hu_
 obtain ⟨D1,x3⟩:=Q0.agr J1
 refine BG 6 127 c0 I I .plain (AE (news:=[.bool k0.fy.fe,F0,.bool k0.fv.fe,G0]) D1 .t1 I I I I I I (o4 I (AY k1) I (AY p1))) fun F4 q0 b1=>Rv 7 c0 I t0 (fun _=>Be I)<|AN (dk c0)<|Am I<|Au (u:=.tuple #[.agg #[.bool k0.fy.fe,F0,.bool k0.fv.fe,G0],vI 0]) g1 func98 I (.cons (.many (cs:=[.bool k0.fy.fe,F0,.bool k0.fv.fe,G0]) I I (q0.memA .t1)) (.cons (.tmp I) .nil)) I<|Ac (Ak I I)<|Ac (Ak I I)<|bk h fun y0 p2 h=>Bj (.tuple #[.agg ((ab y0.1)).toArray,vI y0.2]) (bd 97) I (e2 I I) (fun p q=>bK_c n (q0.hL0 hL q) k0 (q0.kd (Ao k1 b1) q) (q0.kd (Ao p1 b1) q) p2) I<|Ac (Ak I I)<|Ac (Ak I I)<|AV (ab y0.1) q0 .t5 (ai I) fun G4 R0 z3=>Ag I<|Aa<|Am I<|Au hb0 func75 I (.cons (.many (cs:=(ab y0.1)) I I (R0.memA .t5)) (.cons (.tmp I) .nil)) I ?_
 cases h
 exact R0.gv
 refine Af<|RG.nl [.bool false,vN,.bool false,vN] g0 fun H4 Q2 U0 A3=>Aa<|Af<|Ac (AH I (U0.memA .hd))<|AV [.bool false,vN,.bool false,vN] U0 .t2 (ai I) fun I4 C0 B3=>Ag I<|Aa<|Am I<|Au (u:=.tuple #[.agg #[.bool false,vN,.bool false,vN],vI 20]) g1 func98 I (.cons (.many (cs:=[.bool false,vN,.bool false,vN]) I I (C0.memA .t2)) (.cons (.tmp I) .nil)) I<|Ac (Ak I I)<|Ac (Ak I I)<|bk h fun z0 q2 h=>Bj (.tuple #[.agg ((ab z0.1)).toArray,vI z0.2]) (bd 97) I (e2 I I) (fun p q=>bK_c n (C0.hL0 hL q) (⟨(⟨false,([]:List Ua)⟩:Ti),(⟨false,([]:List Ua)⟩:Ti)⟩:Tj) (Aw (Rep.nilSlice _ _) q) (Aw (Rep.nilSlice _ _) q) q2) I<|Ac (Ak I I)<|Ac (Ak I I)<|AV (ab z0.1) C0 .t6 (ai I) fun J4 V0 C3=>Ag I<|Aa<|Am I<|Au hb0 func75 I (.cons (.many (cs:=(ab z0.1)) I I (V0.memA .t6)) (.cons (.tmp I) .nil)) I ?_
 cases h
 exact V0.gv
def bU_l1 (n:Nat) (a0:List Ta) (D0:Nat × U16 -> Oa ((Except Tg Ta) ⊕ (U16))):Nat × U16 -> Oa ((Except Tg Ta) ⊕ (U16))
  | (c0,d0,g0,j0,k0,p0,q0,s0,t0,u0,v0,x0,y0,z0,A0,B0,C0)=>(if c0 < a0.length then (a0[c0]?).bind fun F0=>(dP_p n (⟨(d0,g0,j0,k0,p0,q0,s0,t0),(u0,v0,x0,y0,z0,A0,B0,C0)⟩:Ta) F0).bind fun G0=>exc G0 (fun b0=>D0 (c0 + 1,b0.fN.1,b0.fN.2.1,b0.fN.2.2.1,b0.fN.2.2.2.1,b0.fN.2.2.2.2.1,b0.fN.2.2.2.2.2.1,b0.fN.2.2.2.2.2.2.1,b0.fN.2.2.2.2.2.2.2,b0.fD.1,b0.fD.2.1,b0.fD.2.2.1,b0.fD.2.2.2.1,b0.fD.2.2.2.2.1,b0.fD.2.2.2.2.2.1,b0.fD.2.2.2.2.2.2.1,b0.fD.2.2.2.2.2.2.2)) (fun E0=>some (.inl (.error E0))) else some (.inr (d0,g0,j0,k0,p0,q0,s0,t0,u0,v0,x0,y0,z0,A0,B0,C0)))
def bU_p (n:Nat) (a0:List Ta):Oa (Except Tg Ta):=
  (bT_p n (0:Int) (1:Int)).bind fun G0=>exc G0 (fun b0=>thn (aj (bU_l1 n a0) n (0,b0.fN.1,b0.fN.2.1,b0.fN.2.2.1,b0.fN.2.2.2.1,b0.fN.2.2.2.2.1,b0.fN.2.2.2.2.2.1,b0.fN.2.2.2.2.2.2.1,b0.fN.2.2.2.2.2.2.2,b0.fD.1,b0.fD.2.1,b0.fD.2.2.1,b0.fD.2.2.2.1,b0.fD.2.2.2.2.1,b0.fD.2.2.2.2.2.1,b0.fD.2.2.2.2.2.2.1,b0.fD.2.2.2.2.2.2.2)) (fun (k0,p0,q0,s0,t0,u0,v0,x0,y0,z0,A0,B0,C0,D0,E0,F0)=>(bT_p n ((a0.length:Nat):Int) (1:Int)).bind fun H0=>exc H0 (fun I0=>(dT_p n (⟨(k0,p0,q0,s0,t0,u0,v0,x0),(y0,z0,A0,B0,C0,D0,E0,F0)⟩:Ta) I0).bind fun c0=>(aB_p n c0.1 c0.2).bind fun J0=>exc J0 (fun K0=>some (.ok K0)) (fun j0=>some (.error j0))) (fun g0=>some (.error g0)))) (fun d0=>some (.error d0))
theorem bU_c (n:Nat) {L w} (hL:hl L w) {a0:List Ta} {v0_0:Vc} (h0_0:Rep.R w L [v0_0] a0)  {r:Except Tg Ta} (h:bU_p n a0 = some r) :
 Cl 38 #[v0_0] w (aL w (fun (y:Ta) _ u=>u = .agg ((ab y)).toArray) (fun e=>.iface 115 (.agg #[vI e.fA])) r):=by
 unfold bU_p at h
 refine BZ func38 I I I fun _ cs0 hb0 hp0=>Af<|RG.nl zL (AA w) fun y2 V0 I0 g2=>Aa<|Af<|xk h (fun b2 K0 h=>?_) (fun c0 K0 h=>?_)
 refine BE (fst:=[]) (cap:=[]) .plain (bd 31) I (e2 I I) (fun p q=>bT_c n (I0.hL0 hL q)  K0) fun E2 H1=>?_
 obtain ⟨x1,s2⟩:=I0.agr H1
 cases h
 exact Bo hp0 func38 ⟨x1.ag,I⟩
 refine Bj (.agg ((ab c0)).toArray) (bd 31) I (e2 I I) (fun p q=>Bm (bT_c n (I0.hL0 hL q)  K0)) I<|RG.nl zL I0 fun H2 W0 y1 t2=>AV (ab c0) y1 .hd (ai I) fun I2 Y0 u2=>Aa<|Aj<|Af<|Ae I ?_
 have b1:=AT h0_0 Y0
 have v2:=AU b1
 refine Ac (Ba (xs:=a0) underlying85 I b1)<|Ae I<|Aa<|Ax<|tn h fun x2 M1 Z0=>MX.lo (α:=Nat × U16) (fun ⟨j0,p0,q0,s0,t0,u0,v0,x0,y0,z0,A0,B0,C0,D0,E0,F0,G0⟩=>[(0,v0_0),(2,vP V0),(3,vP W0),(7,v0_0),(8,vn a0.length),(9,vn j0)]) (fun ⟨j0,p0,q0,s0,t0,u0,v0,x0,y0,z0,A0,B0,C0,D0,E0,F0,G0⟩=>[.cells W0 [vU p0,vU q0,vU s0,vU t0,vU u0,vU v0,vU x0,vU y0,vU z0,vU A0,vU B0,vU C0,vU D0,vU E0,vU F0,vU G0] 48,.cells V0 zL 48]) (fun ⟨j0,p0,q0,s0,t0,u0,v0,x0,y0,z0,A0,B0,C0,D0,E0,F0,G0⟩=>(j0,p0,q0,s0,t0,u0,v0,x0,y0,z0,A0,B0,C0,D0,E0,F0,G0)) (0,c0.fN.1,c0.fN.2.1,c0.fN.2.2.1,c0.fN.2.2.2.1,c0.fN.2.2.2.2.1,c0.fN.2.2.2.2.2.1,c0.fN.2.2.2.2.2.2.1,c0.fN.2.2.2.2.2.2.2,c0.fD.1,c0.fD.2.1,c0.fD.2.2.1,c0.fD.2.2.2.1,c0.fD.2.2.2.2.1,c0.fD.2.2.2.2.2.1,c0.fD.2.2.2.2.2.2.1,c0.fD.2.2.2.2.2.2.2) M1 Y0 ?_
 rintro V1 ⟨j0,p0,q0,s0,t0,u0,v0,x0,y0,z0,A0,B0,C0,D0,E0,F0,G0⟩ J2 j1 d0 z1 h
 unfold bU_l1 at h
 try dsimp only at h
 refine Af<|Ac (Bp (i:=j0) (j:=a0.length) I I)<|Aa<|Aj<|AQ I h (fun g1 h=>?_) (fun g1 h=>?_)
 refine Ar<|Aj<|Ax<|Af<|bk h fun R0 Q1 h=>?_
 obtain ⟨U1,X1,I1,J1,Y1,P1,K1⟩:=Bh (AT h0_0 d0) Q1
 obtain rfl:=bw P1
 refine Ac (Bb 16 j0 I I1 I I J1)<|Ac (AH I K1)<|RG.nl zL d0 fun z2 W1 k1 A1=>AV (ab R0) k1 .hd (ai I) fun A2 H0 B1=>Aa<|Ap<|Ac (AH I (H0.memA .t1))<|Ac (AH I (H0.memA .hd))<|xk h (fun Z1 M0 h=>?_) (fun b0 M0 h=>?_)
 have h:=au h Z0
 refine BE (fst:=[]) (cap:=[]) .plain (bd 74) I (e2 I I) (fun p q=>dP_c n (H0.hL0 hL q) (⟨(p0,q0,s0,t0,u0,v0,x0,y0),(z0,A0,B0,C0,D0,E0,F0,G0)⟩:Ta) R0 M0) fun B2 E1=>?_
 obtain ⟨p1,j2⟩:=H0.agr E1
 cases h
 exact Bo hp0 func38 ⟨p1.ag,I⟩
 refine Bj (.agg ((ab b0)).toArray) (bd 74) I (e2 I I) (fun p q=>Bm (dP_c n (H0.hL0 hL q) (⟨(p0,q0,s0,t0,u0,v0,x0,y0),(z0,A0,B0,C0,D0,E0,F0,G0)⟩:Ta) R0 M0)) I<|AV (ab b0) H0 .t1 (ai I) fun C2 q1 C1=>Aa<|AC<|Ap<|Ac (Bl (i:=j0) (j:=1) I I (by omega))<|Ae I<|Aa ?_
 obtain ⟨s1,D1⟩:=AK q1 .d1
 exact j1 (j0 + 1,b0.fN.1,b0.fN.2.1,b0.fN.2.2.1,b0.fN.2.2.2.1,b0.fN.2.2.2.2.1,b0.fN.2.2.2.2.2.1,b0.fN.2.2.2.2.2.2.1,b0.fN.2.2.2.2.2.2.2,b0.fD.1,b0.fD.2.1,b0.fD.2.2.1,b0.fD.2.2.2.1,b0.fD.2.2.2.2.1,b0.fD.2.2.2.2.2.1,b0.fD.2.2.2.2.2.2.1,b0.fD.2.2.2.2.2.2.2) s1 (Tt z1 (Tt A1 (Tt B1 (Tt C1 D1)))) h
 refine AX I ?_
 have h:=aC h Z0
 try dsimp only at h
 refine Aj<|du 8 fun g0 k0=>Rx 0 496 g0 I k0 (AH I (d0.memA .hd))<|Rv 1 g0 I k0 (fun _=>Ai I)<|Rx 2 504 g0 I k0 (Ba (xs:=a0) underlying85 I (AT h0_0 d0))<|xk h (fun c2 P0 h=>?_) (fun c1 P0 h=>?_)
 refine BM (i:=3) (rk g0) (RO.callE (fst:=[]) (cap:=[]) I .plain (bd 31) I (e2 I I) (fun p q=>bT_c n (d0.hL0 hL q)  P0) (fun D2 F1=>?_))
 obtain ⟨u1,k2⟩:=d0.agr F1
 cases h
 exact Bo hp0 func38 ⟨u1.ag,I⟩
 refine BV 3 15 496 (.agg ((ab c1)).toArray) g0 I k0 (bd 31) I (e2 I I) (fun p q=>Bm (bT_c n (d0.hL0 hL q)  P0)) I<|bk h fun J0 R1 h=>BV 4 31 480 (.tuple #[.agg ((ab J0.1)).toArray,vI J0.2]) g0 I k0 (bd 75) I (e2 I I) (fun p q=>dT_c n (d0.hL0 hL q) (⟨(p0,q0,s0,t0,u0,v0,x0,y0),(z0,A0,B0,C0,D0,E0,F0,G0)⟩:Ta) c1 R1) I<|Rv 5 g0 I k0 (fun _=>Ak I I)<|Rv 6 g0 I k0 (fun _=>Ak I I)<|xk h (fun d2 Q0 h=>?_) (fun U0 Q0 h=>?_)
 refine BM (i:=7) (rk g0) (RO.callE (fst:=[]) (cap:=[]) I .plain (bd 66) I (e2 I I) (fun p q=>aB_c n (d0.hL0 hL q) J0.1 Q0) (fun F2 G1=>?_))
 obtain ⟨v1,p2⟩:=d0.agr G1
 cases h
 exact Bo hp0 func38 ⟨v1.ag,I⟩
 refine BV 7 255 256 (.agg ((ab U0)).toArray) g0 I k0 (bd 66) I (e2 I I) (fun p q=>Bm (aB_c n (d0.hL0 hL q) J0.1 Q0)) I<|BG 8 511 g0 I I .plain (AE (news:=(ab U0)) d0 .t1 I I I I I I (ai I)) fun G2 X0 q2=>AN (dk g0)<|Am I<|Au hb0 func38 I (.cons (.many (cs:=(ab U0)) I I (X0.memA .t1)) .nil) I ?_
 cases h
 exact ⟨X0.ag,fun p q=>aE I⟩
end Go.Proofs.YthffdckehlgmgaaGreatDoor
