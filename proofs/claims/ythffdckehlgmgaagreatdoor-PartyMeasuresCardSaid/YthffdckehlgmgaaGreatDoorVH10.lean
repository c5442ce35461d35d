import Derived.Test.YthffdckehlgmgaaGreatDoorVH8
namespace Go.Proofs.YthffdckehlgmgaaGreatDoor
open Go Go.RowKit Tryz
set_option maxRecDepth 4000
set_option maxHeartbeats 4000000

def bw_p (n:Nat) (a0:Tf) (a1:Tf):Oa (Tf × Tf):=
  (aA_p n a0.fD a1.fD).bind fun g0=>(aa_p n (!(a0.fe == a1.fe)) g0.1).bind fun b0=>(aa_p n a0.fe g0.2).bind fun c0=>(if c0.fe = true then (bc_p n c0 (⟨false,a1.fD⟩:Tf)).bind fun d0=>(if a1.fe = true then (aX_p n (1:Int)).bind fun j0=>(bc_p n b0 j0).bind fun k0=>some (k0,d0) else (aX_p n (1:Int)).bind fun p0=>(cg_p n b0 p0).bind fun q0=>some (q0,d0)) else some (b0,c0))
theorem bw_c (n:Nat) {L w} (hL:hl L w) (a0:Tf) {v0_1:Vc} (h0_1:Rep.R w L [v0_1] a0.fD) (a1:Tf) {v1_1:Vc} (h1_1:Rep.R w L [v1_1] a1.fD)  {r:Tf × Tf} (h:bw_p n a0 a1 = some r) :
 Cl 168 #[.agg #[.bool a0.fe,v0_1],.agg #[.bool a1.fe,v1_1]] w (ae w fun w' u=>∃ v0_1 v1_1:Vc,u = .tuple #[.agg #[.bool r.1.fe,v0_1],.agg #[.bool r.2.fe,v1_1]]/\Rep.R w' L [v0_1] r.1.fD/\Rep.R w' L [v1_1] r.2.fD):=by
 unfold bw_p at h
 refine AF func168 I I I fun _ cs0 hb0=>Af<|RG.bx (AA w) I I fun k6 H5 Q3 J5=>RG.bx Q3 I I fun p6 c2 R3 K5=>RG.nl [.bool false,vN] R3 fun z6 G0 Y3 P5=>RG.nl [.bool false,vN] Y3 fun A6 H0 z1 Q5=>Aa<|Af<|Bd 1 I<|AR I ((z1.memA .t3) 1 _ I)<|Bd 1 I<|AR I ((z1.memA .t2) 1 _ I)<|bk h fun P6 v5 h=>jE (bd 179) I (e2 I I) (fun w9 hw9=>aA_c n (z1.hL hL hw9) (z1.km h0_1 hw9) (z1.km h1_1 hw9) v5) I fun B6 g6 b5 ⟨W5,X5,hu_,R1,B0⟩=>?_
 subst hu_
 obtain ⟨Z0,R5⟩:=z1.agr b5
 refine Ae I<|Ac (Ak I I)<|Ac (Ak I I)<|Ag I<|Ag I<|Aa<|Aj<|du 13 fun b0 V0=>Rv 0 b0 I V0 (fun _=>Bi 0 I)<|Rx 1 25680 b0 I V0 (AP I ((Z0.memA .t3) 0 _ I))<|Rv 2 b0 I V0 (fun _=>Bi 0 I)<|Rx 3 25680 b0 I V0 (AP I ((Z0.memA .t2) 0 _ I))<|Rv 4 b0 I V0 (fun _=>FV.neqB (a:=a0.fe) (b:=a1.fe) underlying4 I I)<|Rv 5 b0 I V0 (fun _=>Ai I)<|Rv 7 b0 I V0 (fun _=>Bi 0 I)<|Rx 8 25600 b0 I V0 (AP I ((Z0.memA .t3) 0 _ I))<|Rv 9 b0 I V0 (fun _=>Ai I)<|bk h fun Y0 U1 h=>bk h fun y1 D0 h=>RD.mf (α:=Vc × Vc × Nat × Nat) (fun ⟨E0,M0,k1,p1⟩=>[(3,vP c2),(4,vP G0),(5,vP H0),(24,.agg #[.bool Y0.fe,E0]),(28,.agg #[.bool y1.fe,M0]),(8,vP p1),(9,vP k1)]) (fun ⟨E0,M0,k1,p1⟩=>[.cells k1 [.bool false,vN] 143,.cells p1 [.bool false,vN] 143,.cells H0 [.bool false,vN] 143,.cells G0 [.bool false,vN] 143,.cells c2 [.bool a1.fe,v1_1] 143]) (fun ⟨E0,M0,k1,p1⟩ J2=>Rep.R J2 (bl [.cells k1 [.bool false,vN] 143,.cells p1 [.bool false,vN] 143,.cells H0 [.bool false,vN] 143,.cells G0 [.bool false,vN] 143,.cells c2 [.bool a1.fe,v1_1] 143] ++ L) [E0] Y0.fD/\Rep.R J2 (bl [.cells k1 [.bool false,vN] 143,.cells p1 [.bool false,vN] 143,.cells H0 [.bool false,vN] 143,.cells G0 [.bool false,vN] 143,.cells c2 [.bool a1.fe,v1_1] 143] ++ L) [M0] y1.fD) Z0 2 8191 ?_ ?_
 rintro ⟨E0,M0,k1,p1⟩ J2 U3 M5 ⟨C1,s2⟩
 try dsimp only
 refine BG 13 16383 b0 I I .plain (AE (news:=[.bool Y0.fe,E0]) U3 .t1 I I I I I I (o2 I (AY C1))) fun q6 V3 s1=>BG 14 32767 b0 I I .plain (AE (news:=[.bool y1.fe,M0]) V3 .hd I I I I I I (o2 I (AY (Ao s2 s1)))) fun s6 x0 A1=>AN (dk b0)<|Aj<|Af<|Bd 0 I<|AR I ((x0.memA .hd) 0 _ I)<|Aa<|MX.ifb I h (fun M3 h=>?_) (fun M3 h=>?_)
 refine Af<|Ac (AH I (x0.memA .hd))<|Bd 1 I<|AR I ((x0.memA .t4) 1 _ I) ?_
 obtain ⟨G5,I5,q5,_⟩:=BR (AT h1_1 x0)
 refine Ac (AS (vs:=[v1_1]) (u:=.agg #[.bool false,v1_1]) (e1 I) (fun w9=>by rw [q5]; try kernel_rfl))<|bk h fun x1 s5 h=>jE (bd 147) I (e2 I I) (fun w9 hw9=>bc_c n (x0.hL hL hw9) y1 (Aw (Ao s2 (Tt s1 A1)) hw9) (⟨false,a1.fD⟩:Tf) (x0.km h1_1 hw9) s5) I fun t6 Y5 V4 ⟨W0,hu_,Q1⟩=>?_
 subst hu_
 obtain ⟨W3,U2⟩:=x0.agr V4
 refine AV [.bool x1.fe,W0] W3 .hd (o2 I (AY Q1)) fun u6 q1 B1=>Aa<|Af<|Bd 0 I<|AR I ((q1.memA .t4) 0 _ I)<|Aa<|MX.ifb I h (fun P3 h=>?_) (fun P3 h=>?_)
 refine du 3 fun V1 z5=>Rx 0 12 V1 I z5 (AH I (q1.memA .t1))<|bk h fun E5 t5 h=>Bs 1 3 V1 I .plain (bd 126) I (e1 I) (fun w9 hw9=>aX_c n (q1.hL hL hw9)  t5) I fun v6 Z5 W4 ⟨U5,hu_,k5⟩=>?_
 subst hu_
 obtain ⟨Q2,z2⟩:=q1.agr W4
 refine bk h fun Z1 u5 h=>Bs 2 7 V1 I .plain (bd 147) I (e2 I I) (fun w9 hw9=>bc_c n (Q2.hL hL hw9) Y0 (Aw (Ao C1 (Tt s1 (Tt A1 (Tt U2 (Tt B1 z2))))) hw9) E5 (Aw k5 hw9) u5) I fun x6 b6 X4 ⟨E1,hu_,u2⟩=>?_
 subst hu_
 obtain ⟨X3,V2⟩:=Q2.agr X4
 refine BG 3 15 V1 I I .plain (AE (news:=[.bool Z1.fe,E1]) X3 .t1 I I I I I I (o2 I (AY u2))) fun y6 H1 p2=>AN (dk V1)<|Aj<|du 2 fun b1 I3=>Rx 0 12 b1 I I3 (AH I (H1.memA .t1))<|RD.mo (α:=Unit) (fun ()=>[(4,vP G0),(5,vP H0),(45,.agg #[.bool x1.fe,W0])]) (fun ()=>[.cells H0 [.bool false,vN] 143,.cells G0 [.bool Z1.fe,E1] 143]) H1 1 7 ?_ ?_
 rintro ⟨⟩ J6 Z3 W2
 try dsimp only
 refine BG 3 15 b1 I I .plain (AE (news:=[.bool x1.fe,W0]) Z3 .hd I I I I I I (o2 I (AY (Ao Q1 (Tt B1 (Tt z2 (Tt V2 (Tt p2 W2)))))))) fun C6 I1 H4=>AN (dk b1)<|Am I<|Au hb0 func168 I (.cons (.many (cs:=[.bool Z1.fe,E1]) I I (I1.memA .t1)) (.cons (.many (cs:=[.bool x1.fe,W0]) I I (I1.memA .hd)) .nil)) I ?_
 cases h
 have v3:=Tt p2 (Tt W2 H4)
 exact ⟨I1.ag,fun w9 hw9=>⟨E1,W0,I,I1.kd (Ao u2 v3) hw9,I1.kd (Ao Q1 (Tt B1 (Tt z2 (Tt V2 v3)))) hw9⟩⟩
 intro K2
 refine Bz [1,2] (rk b1) ⟨?_,?_,trivial⟩
 refine RO.val (m' :=3) (sk b1) I .plain I (AH I (H1.memA .hd)) ?_
 have d5:=Ao u2 p2
 refine BG 2 7 b1 I I .plain (AE (news:=[.bool Z1.fe,E1]) H1 .t3 I I I I I I (o2 I (AY d5))) fun B5 d2 A2=>?_
 obtain ⟨b4,I4⟩:=AK d2 (.a2 (.a2 .done))
 exact K2 () b4 (Tt A2 I4)
 refine RO.now (m' :=5) (sk b1) I I .plain (AE (news:=[.bool Z1.fe,E1]) H1 .t3 I I I I I I (o2 I (AY (Ao u2 p2)))) fun B5 d2 A2=>Rx 1 8 b1 I I3 (AH I (d2.memA .hd)) ?_
 obtain ⟨c4,J4⟩:=AK d2 (.a2 (.a2 .done))
 exact K2 () c4 (Tt A2 J4)
 refine du 3 fun W1 A5=>Rx 0 12 W1 I A5 (AH I (q1.memA .t1))<|bk h fun F5 x5 h=>Bs 1 3 W1 I .plain (bd 126) I (e1 I) (fun w9 hw9=>aX_c n (q1.hL hL hw9)  x5) I fun D6 c6 Y4 ⟨V5,hu_,p5⟩=>?_
 subst hu_
 obtain ⟨R2,B2⟩:=q1.agr Y4
 refine bk h fun b2 y5 h=>Bs 2 7 W1 I .plain (bd 184) I (e2 I I) (fun w9 hw9=>cg_c n (R2.hL hL hw9) Y0 (Aw (Ao C1 (Tt s1 (Tt A1 (Tt U2 (Tt B1 B2))))) hw9) F5 (Aw p5 hw9) y5) I fun E6 d6 Z4 ⟨F1,hu_,v2⟩=>?_
 subst hu_
 obtain ⟨d4,X2⟩:=R2.agr Z4
 refine BG 3 15 W1 I I .plain (AE (news:=[.bool b2.fe,F1]) d4 .t1 I I I I I I (o2 I (AY v2))) fun F6 J1 q2=>AN (dk W1)<|Aj<|du 2 fun c1 J3=>Rx 0 12 c1 I J3 (AH I (J1.memA .t1))<|RD.mo (α:=Unit) (fun ()=>[(4,vP G0),(5,vP H0),(45,.agg #[.bool x1.fe,W0])]) (fun ()=>[.cells H0 [.bool false,vN] 143,.cells G0 [.bool b2.fe,F1] 143]) J1 1 7 ?_ ?_
 rintro ⟨⟩ K6 g4 Y2
 try dsimp only
 refine BG 3 15 c1 I I .plain (AE (news:=[.bool x1.fe,W0]) g4 .hd I I I I I I (o2 I (AY (Ao Q1 (Tt B1 (Tt B2 (Tt X2 (Tt q2 Y2)))))))) fun H6 K1 K4=>AN (dk c1)<|Am I<|Au hb0 func168 I (.cons (.many (cs:=[.bool b2.fe,F1]) I I (K1.memA .t1)) (.cons (.many (cs:=[.bool x1.fe,W0]) I I (K1.memA .hd)) .nil)) I ?_
 cases h
 have x3:=Tt q2 (Tt Y2 K4)
 exact ⟨K1.ag,fun w9 hw9=>⟨F1,W0,I,K1.kd (Ao v2 x3) hw9,K1.kd (Ao Q1 (Tt B1 (Tt B2 (Tt X2 x3)))) hw9⟩⟩
 intro M2
 refine Bz [1,2] (rk c1) ⟨?_,?_,trivial⟩
 refine RO.val (m' :=3) (sk c1) I .plain I (AH I (J1.memA .hd)) ?_
 have g5:=Ao v2 q2
 refine BG 2 7 c1 I I .plain (AE (news:=[.bool b2.fe,F1]) J1 .t3 I I I I I I (o2 I (AY g5))) fun C5 j2 C2=>?_
 obtain ⟨j4,M4⟩:=AK j2 (.a2 (.a2 .done))
 exact M2 () j4 (Tt C2 M4)
 refine RO.now (m' :=5) (sk c1) I I .plain (AE (news:=[.bool b2.fe,F1]) J1 .t3 I I I I I I (o2 I (AY (Ao v2 q2)))) fun C5 j2 C2=>Rx 1 8 c1 I J3 (AH I (j2.memA .hd)) ?_
 obtain ⟨k4,P4⟩:=AK j2 (.a2 (.a2 .done))
 exact M2 () k4 (Tt C2 P4)
 refine Ar<|Aj<|du 2 fun d1 K3=>Rx 0 12 d1 I K3 (AH I (x0.memA .t1))<|RD.mo (α:=Unit) (fun ()=>[(4,vP G0),(5,vP H0),(45,.agg #[.bool y1.fe,M0])]) (fun ()=>[.cells H0 [.bool false,vN] 143,.cells G0 [.bool Y0.fe,E0] 143]) x0 1 7 ?_ ?_
 rintro ⟨⟩ M6 p4 Q4
 try dsimp only
 have G2:=Tt s1 (Tt A1 Q4)
 refine BG 3 15 d1 I I .plain (AE (news:=[.bool y1.fe,M0]) p4 .hd I I I I I I (o2 I (AY (Ao s2 G2)))) fun I6 M1 Z2=>AN (dk d1)<|Am I<|Au hb0 func168 I (.cons (.many (cs:=[.bool Y0.fe,E0]) I I (M1.memA .t1)) (.cons (.many (cs:=[.bool y1.fe,M0]) I I (M1.memA .hd)) .nil)) I ?_
 cases h
 exact ⟨M1.ag,fun w9 hw9=>⟨E0,M0,I,M1.kd (Ao C1 (Tt G2 Z2)) hw9,M1.kd (Ao s2 (Tt G2 Z2)) hw9⟩⟩
 intro P2
 refine Bz [1,2] (rk d1) ⟨?_,?_,trivial⟩
 refine RO.val (m' :=3) (sk d1) I .plain I (AH I (x0.memA .hd)) ?_
 have j5:=Ao C1 (Tt s1 A1)
 refine BG 2 7 d1 I I .plain (AE (news:=[.bool Y0.fe,E0]) x0 .t3 I I I I I I (o2 I (AY j5))) fun D5 k2 D2=>?_
 obtain ⟨q4,R4⟩:=AK k2 (.a2 (.a2 .done))
 exact P2 () q4 (Tt D2 R4)
 refine RO.now (m' :=5) (sk d1) I I .plain (AE (news:=[.bool Y0.fe,E0]) x0 .t3 I I I I I I (o2 I (AY (Ao C1 (Tt s1 A1))))) fun D5 k2 D2=>Rx 1 8 d1 I K3 (AH I (k2.memA .hd)) ?_
 obtain ⟨s4,U4⟩:=AK k2 (.a2 (.a2 .done))
 exact P2 () s4 (Tt D2 U4)
 intro v0
 refine Bz [6,11,12] (rk b0) ⟨?_,?_,?_,trivial⟩
 refine RO.call (m' :=1023) (fst:=[]) (cap:=[]) (sk b0) I .plain (bd 169) I (e2 I I) (fun w9 hw9=>aa_c n (Z0.hL hL hw9) (Aw R1 hw9) U1) I fun G6 j6 c5 ⟨G1,hu_,D1⟩=>?_
 subst hu_
 obtain ⟨g2,z0⟩:=Z0.agr c5
 refine Bz [10,11,12] (rk b0) ⟨?_,?_,?_,trivial⟩
 have v1:=Ao B0 z0
 refine RO.call (m' :=2047) (fst:=[]) (cap:=[]) (sk b0) I .plain (bd 169) I (e2 I I) (fun w9 hw9=>aa_c n (g2.hL hL hw9) (Aw v1 hw9) D0) I fun y2 x2 Q0 ⟨P0,hu_,K0⟩=>?_
 subst hu_
 obtain ⟨I0,J0⟩:=g2.agr Q0
 refine Bz [11,12] (rk b0) ⟨?_,?_,trivial⟩
 refine BH (m' :=4095) (sk b0) I .plain I (Az [.bool false,vN] I0) fun j1 p0 j0 d0=>BS 12 8191 b0 I .plain I (Az [.bool false,vN] j0) fun g1 k0 g0 c0=>?_
 obtain ⟨u4,b3⟩:=AK g0 (.a0 (.a0 (.a0 (.a0 (.a0 .done)))))
 have y3:=Tt J0 (Tt d0 (Tt c0 b3))
 exact v0 (G1,P0,k0,p0) u4 (Tt z0 y3) ⟨(Ao D1 y3),(Ao K0 (Tt d0 (Tt c0 b3)))⟩
 refine BH (m' :=6143) (sk b0) I .plain I (Az [.bool false,vN] I0) fun g1 k0 g0 c0=>BS 11 8191 b0 I .plain I (Az [.bool false,vN] g0) fun j1 p0 j0 d0=>?_
 obtain ⟨v4,c3⟩:=AK j0 (.a1 (.a0 (.a0 (.a0 (.a0 .done)))))
 have z3:=Tt J0 (Tt c0 (Tt d0 c3))
 exact v0 (G1,P0,k0,p0) v4 (Tt z0 z3) ⟨(Ao D1 z3),(Ao K0 (Tt c0 (Tt d0 c3)))⟩
 refine BH (m' :=3071) (sk b0) I .plain I (Az [.bool false,vN] g2) fun j1 p0 j0 d0=>Bz [10,12] (rk b0) ⟨?_,?_,trivial⟩
 have v1:=Ao B0 (Tt z0 d0)
 refine RO.call (m' :=4095) (fst:=[]) (cap:=[]) (sk b0) I .plain (bd 169) I (e2 I I) (fun w9 hw9=>aa_c n (j0.hL hL hw9) (Aw v1 hw9) D0) I fun y2 x2 Q0 ⟨P0,hu_,K0⟩=>?_
 subst hu_
 obtain ⟨I0,J0⟩:=j0.agr Q0
 refine BS 12 8191 b0 I .plain I (Az [.bool false,vN] I0) fun g1 k0 g0 c0=>?_
 obtain ⟨x4,d3⟩:=AK g0 (.a0 (.a0 (.a0 (.a0 (.a0 .done)))))
 have A3:=Tt d0 (Tt J0 (Tt c0 d3))
 exact v0 (G1,P0,k0,p0) x4 (Tt z0 A3) ⟨(Ao D1 A3),(Ao K0 (Tt c0 d3))⟩
 refine BH (m' :=7167) (sk b0) I .plain I (Az [.bool false,vN] j0) fun g1 k0 g0 c0=>?_
 have u0:=Tt z0 (Tt d0 c0)
 have R0:=Ao B0 u0
 refine Bs 10 8191 b0 I .plain (bd 169) I (e2 I I) (fun w9 hw9=>aa_c n (g0.hL hL hw9) (Aw R0 hw9) D0) I fun Y1 X1 A0 ⟨F0,hu_,C0⟩=>?_
 subst hu_
 obtain ⟨y0,t0⟩:=g0.agr A0
 obtain ⟨y4,g3⟩:=AK y0 (.a0 (.a0 (.a0 (.a0 (.a0 .done)))))
 have B3:=Tt d0 (Tt c0 (Tt t0 g3))
 exact v0 (G1,F0,k0,p0) y4 (Tt z0 B3) ⟨(Ao D1 B3),(Ao C0 g3)⟩
 refine BH (m' :=5119) (sk b0) I .plain I (Az [.bool false,vN] g2) fun g1 k0 g0 c0=>Bz [10,11] (rk b0) ⟨?_,?_,trivial⟩
 have v1:=Ao B0 (Tt z0 c0)
 refine RO.call (m' :=6143) (fst:=[]) (cap:=[]) (sk b0) I .plain (bd 169) I (e2 I I) (fun w9 hw9=>aa_c n (g0.hL hL hw9) (Aw v1 hw9) D0) I fun y2 x2 Q0 ⟨P0,hu_,K0⟩=>?_
 subst hu_
 obtain ⟨I0,J0⟩:=g0.agr Q0
 refine BS 11 8191 b0 I .plain I (Az [.bool false,vN] I0) fun j1 p0 j0 d0=>?_
 obtain ⟨z4,j3⟩:=AK j0 (.a1 (.a0 (.a0 (.a0 (.a0 .done)))))
 have C3:=Tt c0 (Tt J0 (Tt d0 j3))
 exact v0 (G1,P0,k0,p0) z4 (Tt z0 C3) ⟨(Ao D1 C3),(Ao K0 (Tt d0 j3))⟩
 refine BH (m' :=7167) (sk b0) I .plain I (Az [.bool false,vN] g0) fun j1 p0 j0 d0=>?_
 have u0:=Tt z0 (Tt c0 d0)
 have R0:=Ao B0 u0
 refine Bs 10 8191 b0 I .plain (bd 169) I (e2 I I) (fun w9 hw9=>aa_c n (j0.hL hL hw9) (Aw R0 hw9) D0) I fun Y1 X1 A0 ⟨F0,hu_,C0⟩=>?_
 subst hu_
 obtain ⟨y0,t0⟩:=j0.agr A0
 obtain ⟨A4,k3⟩:=AK y0 (.a1 (.a0 (.a0 (.a0 (.a0 .done)))))
 have D3:=Tt c0 (Tt d0 (Tt t0 k3))
 exact v0 (G1,F0,k0,p0) A4 (Tt z0 D3) ⟨(Ao D1 D3),(Ao C0 k3)⟩
 refine BH (m' :=3007) (sk b0) I .plain I (Az [.bool false,vN] Z0) fun j1 p0 j0 d0=>Bz [6,12] (rk b0) ⟨?_,?_,trivial⟩
 have P1:=Ao R1 d0
 refine RO.call (m' :=3071) (fst:=[]) (cap:=[]) (sk b0) I .plain (bd 169) I (e2 I I) (fun w9 hw9=>aa_c n (j0.hL hL hw9) (Aw P1 hw9) U1) I fun I2 H2 u1 ⟨X0,hu_,U0⟩=>?_
 subst hu_
 obtain ⟨q0,s0⟩:=j0.agr u1
 refine Bz [10,12] (rk b0) ⟨?_,?_,trivial⟩
 have v1:=Ao B0 (Tt d0 s0)
 refine RO.call (m' :=4095) (fst:=[]) (cap:=[]) (sk b0) I .plain (bd 169) I (e2 I I) (fun w9 hw9=>aa_c n (q0.hL hL hw9) (Aw v1 hw9) D0) I fun y2 x2 Q0 ⟨P0,hu_,K0⟩=>?_
 subst hu_
 obtain ⟨I0,J0⟩:=q0.agr Q0
 refine BS 12 8191 b0 I .plain I (Az [.bool false,vN] I0) fun g1 k0 g0 c0=>?_
 obtain ⟨B4,p3⟩:=AK g0 (.a0 (.a0 (.a0 (.a0 (.a0 .done)))))
 have E3:=Tt J0 (Tt c0 p3)
 exact v0 (X0,P0,k0,p0) B4 (Tt d0 (Tt s0 E3)) ⟨(Ao U0 E3),(Ao K0 (Tt c0 p3))⟩
 refine BH (m' :=7167) (sk b0) I .plain I (Az [.bool false,vN] q0) fun g1 k0 g0 c0=>?_
 have u0:=Tt d0 (Tt s0 c0)
 have R0:=Ao B0 u0
 refine Bs 10 8191 b0 I .plain (bd 169) I (e2 I I) (fun w9 hw9=>aa_c n (g0.hL hL hw9) (Aw R0 hw9) D0) I fun Y1 X1 A0 ⟨F0,hu_,C0⟩=>?_
 subst hu_
 obtain ⟨y0,t0⟩:=g0.agr A0
 obtain ⟨C4,q3⟩:=AK y0 (.a0 (.a0 (.a0 (.a0 (.a0 .done)))))
 have F3:=Tt c0 (Tt t0 q3)
 exact v0 (X0,F0,k0,p0) C4 (Tt d0 (Tt s0 F3)) ⟨(Ao U0 F3),(Ao C0 q3)⟩
 refine BH (m' :=7103) (sk b0) I .plain I (Az [.bool false,vN] j0) fun g1 k0 g0 c0=>?_
 have P1:=Ao R1 (Tt d0 c0)
 refine Bs 6 7167 b0 I .plain (bd 169) I (e2 I I) (fun w9 hw9=>aa_c n (g0.hL hL hw9) (Aw P1 hw9) U1) I fun I2 H2 u1 ⟨X0,hu_,U0⟩=>?_
 subst hu_
 obtain ⟨q0,s0⟩:=g0.agr u1
 have u0:=Tt d0 (Tt c0 s0)
 have R0:=Ao B0 u0
 refine Bs 10 8191 b0 I .plain (bd 169) I (e2 I I) (fun w9 hw9=>aa_c n (q0.hL hL hw9) (Aw R0 hw9) D0) I fun Y1 X1 A0 ⟨F0,hu_,C0⟩=>?_
 subst hu_
 obtain ⟨y0,t0⟩:=q0.agr A0
 obtain ⟨D4,E2⟩:=AK y0 (.a0 (.a0 (.a0 (.a0 (.a0 .done)))))
 exact v0 (X0,F0,k0,p0) D4 (Tt u0 (Tt t0 E2)) ⟨(Ao U0 (Tt t0 E2)),(Ao C0 E2)⟩
 refine BH (m' :=5055) (sk b0) I .plain I (Az [.bool false,vN] Z0) fun g1 k0 g0 c0=>Bz [6,11] (rk b0) ⟨?_,?_,trivial⟩
 have P1:=Ao R1 c0
 refine RO.call (m' :=5119) (fst:=[]) (cap:=[]) (sk b0) I .plain (bd 169) I (e2 I I) (fun w9 hw9=>aa_c n (g0.hL hL hw9) (Aw P1 hw9) U1) I fun I2 H2 u1 ⟨X0,hu_,U0⟩=>?_
 subst hu_
 obtain ⟨q0,s0⟩:=g0.agr u1
 refine Bz [10,11] (rk b0) ⟨?_,?_,trivial⟩
 refine RO.call (m' :=6143) (fst:=[]) (cap:=[]) (sk b0) I .plain (bd 169) I (e2 I I) (fun w9 hw9=>aa_c n (q0.hL hL hw9) (Aw (Ao B0 (Tt c0 s0)) hw9) D0) I fun y2 x2 Q0 ⟨P0,hu_,K0⟩=>?_
 subst hu_
 obtain ⟨I0,J0⟩:=q0.agr Q0
 refine BS 11 8191 b0 I .plain I (Az [.bool false,vN] I0) fun j1 p0 j0 d0=>?_
 obtain ⟨E4,s3⟩:=AK j0 (.a1 (.a0 (.a0 (.a0 (.a0 .done)))))
 have G3:=Tt J0 (Tt d0 s3)
 exact v0 (X0,P0,k0,p0) E4 (Tt c0 (Tt s0 G3)) ⟨(Ao U0 G3),(Ao K0 (Tt d0 s3))⟩
 refine BH (m' :=7167) (sk b0) I .plain I (Az [.bool false,vN] q0) fun j1 p0 j0 d0=>?_
 have u0:=Tt c0 (Tt s0 d0)
 have R0:=Ao B0 u0
 refine Bs 10 8191 b0 I .plain (bd 169) I (e2 I I) (fun w9 hw9=>aa_c n (j0.hL hL hw9) (Aw R0 hw9) D0) I fun Y1 X1 A0 ⟨F0,hu_,C0⟩=>?_
 subst hu_
 obtain ⟨y0,t0⟩:=j0.agr A0
 obtain ⟨F4,u3⟩:=AK y0 (.a1 (.a0 (.a0 (.a0 (.a0 .done)))))
 have H3:=Tt d0 (Tt t0 u3)
 exact v0 (X0,F0,k0,p0) F4 (Tt c0 (Tt s0 H3)) ⟨(Ao U0 H3),(Ao C0 u3)⟩
 refine BH (m' :=7103) (sk b0) I .plain I (Az [.bool false,vN] g0) fun j1 p0 j0 d0=>Bs 6 7167 b0 I .plain (bd 169) I (e2 I I) (fun w9 hw9=>aa_c n (j0.hL hL hw9) (Aw (Ao R1 (Tt c0 d0)) hw9) U1) I fun I2 H2 u1 ⟨X0,hu_,U0⟩=>?_
 subst hu_
 obtain ⟨q0,s0⟩:=j0.agr u1
 have u0:=Tt c0 (Tt d0 s0)
 refine Bs 10 8191 b0 I .plain (bd 169) I (e2 I I) (fun w9 hw9=>aa_c n (q0.hL hL hw9) (Aw (Ao B0 u0) hw9) D0) I fun Y1 X1 A0 ⟨F0,hu_,C0⟩=>?_
 subst hu_
 obtain ⟨y0,t0⟩:=q0.agr A0
 obtain ⟨G4,F2⟩:=AK y0 (.a1 (.a0 (.a0 (.a0 (.a0 .done)))))
 exact v0 (X0,F0,k0,p0) G4 (Tt u0 (Tt t0 F2)) ⟨(Ao U0 (Tt t0 F2)),(Ao C0 F2)⟩
def aZ_p (n:Nat) (a0:Tf) (a1:Tf):Oa Th:=
  (aM_p n a0 a1).bind fun b0=>jn (fun (d0,g0)=>(bw_p n a0 (⟨d0,g0⟩:Tf)).bind fun k0=>(bw_p n a1 (⟨d0,g0⟩:Tf)).bind fun p0=>some (⟨k0.1,p0.1⟩:Th)) (fun c0=>(if a1.fe = true then (bD_p n b0).bind fun j0=>c0 (j0.fe,j0.fD) else c0 (b0.fe,b0.fD)))
theorem aZ_c (n:Nat) {L w} (hL:hl L w) (a0:Tf) {v0_1:Vc} (h0_1:Rep.R w L [v0_1] a0.fD) (a1:Tf) {v1_1:Vc} (h1_1:Rep.R w L [v1_1] a1.fD)  {r:Th} (h:aZ_p n a0 a1 = some r) :
 Cl 125 #[.agg #[.bool a0.fe,v0_1],.agg #[.bool a1.fe,v1_1]] w (ae w fun w' u=>∃ v0_1 v0_3:Vc,u = .agg #[.bool r.fN.fe,v0_1,.bool r.fD.fe,v0_3]/\Rep.R w' L [v0_1] r.fN.fD/\Rep.R w' L [v0_3] r.fD.fD):=by
 unfold aZ_p at h
 refine AF func125 I I I fun _ cs0 hb0=>Af<|RG.bx (AA w) I I fun M2 y0 z1 B2=>RG.bx z1 I I fun X2 z0 C1 C2=>RG.nl [.bool false,vN,.bool false,vN] C1 fun Y2 A0 g0 D2=>Aa<|Af<|Ac (AH I (g0.memA .t2))<|Ac (AH I (g0.memA .t1))<|bk h fun x0 c2 h=>jE (bd 144) I (e2 I I) (fun w9 hw9=>aM_c n (g0.hL hL hw9) a0 (g0.km h0_1 hw9) a1 (g0.km h1_1 hw9) c2) I fun Z2 H2 R1 ⟨q1,hu_,M0⟩=>?_
 subst hu_
 obtain ⟨D1,E2⟩:=g0.agr R1
 refine RG.nl [.bool false,vN] D1 fun b3 B0 E1 G0=>AV [.bool x0.fe,q1] E1 .hd (o2 I (AY (Ao M0 G0))) fun c3 j0 X0=>Aa<|Aj<|Af<|Bd 0 I<|AR I ((j0.memA .t2) 0 _ I)<|Aa<|MX.jf (α:=Bool × (List Int) × Vc) (fun ⟨b0,c0,d0⟩=>[(2,vP y0),(3,vP z0),(4,vP A0),(5,vP B0)]) (fun ⟨b0,c0,d0⟩=>[.cells B0 [.bool b0,d0] 143,.cells A0 [.bool false,vN,.bool false,vN] 145,.cells z0 [.bool a1.fe,v1_1] 143,.cells y0 [.bool a0.fe,v0_1] 143]) (fun ⟨b0,c0,d0⟩ s1=>Rep.R s1 (bl [.cells B0 [.bool b0,d0] 143,.cells A0 [.bool false,vN,.bool false,vN] 145,.cells z0 [.bool a1.fe,v1_1] 143,.cells y0 [.bool a0.fe,v0_1] 143] ++ L) [d0] c0) (fun ⟨b0,c0,d0⟩=>(b0,c0)) j0 h ?_ ?_
 rintro ⟨b0,c0,d0⟩ s1 t0 F2 k1 h
 try dsimp only at h
 refine Af<|Ac (AH I (t0.memA .t3))<|Ac (AH I (t0.memA .hd))<|bk h fun q0 d2 h=>jE (bd 168) I (e2 I I) (fun w9 hw9=>bw_c n (t0.hL hL hw9) a0 (t0.km h0_1 hw9) (⟨b0,c0⟩:Tf) (Aw k1 hw9) d2) I fun d3 I2 U1 ⟨p0,k2,hu_,P0,X1⟩=>?_
 subst hu_
 obtain ⟨F1,P1⟩:=t0.agr U1
 refine Ae I<|Ac (Ak I I)<|Ac (Ak I I)<|RG.nl [.bool false,vN] F1 fun g3 x2 G1 H0=>RG.nl [.bool false,vN] G1 fun j3 y2 H1 I0=>AV [.bool q0.1.fe,p0] H1 .t1 (o2 I (AY (Ao P0 (Tt H0 I0)))) fun k3 I1 Y0=>?_
 have g1:=Tt H0 (Tt I0 Y0)
 refine AV [.bool q0.2.fe,k2] I1 .hd (o2 I (AY (Ao X1 g1))) fun p3 u0 Z0=>Aa<|Af<|Ac (AH I (u0.memA .t4))<|Ac (AH I (u0.memA .t2))<|bk h fun s0 g2 h=>jE (bd 168) I (e2 I I) (fun w9 hw9=>bw_c n (u0.hL hL hw9) a1 (u0.km h1_1 hw9) (⟨b0,c0⟩:Tf) (Aw (Ao k1 (Tt P1 (Tt H0 (Tt I0 (Tt Y0 Z0))))) hw9) g2) I fun q3 J2 V1 ⟨k0,j2,hu_,K0,W1⟩=>?_
 subst hu_
 obtain ⟨J1,K1⟩:=u0.agr V1
 refine Ae I<|Ac (Ak I I)<|Ac (Ak I I)<|RG.nl [.bool false,vN] J1 fun K2 u2 v1 D0=>RG.nl [.bool false,vN] v1 fun P2 v2 x1 E0=>AV [.bool s0.1.fe,k0] x1 .t1 (o2 I (AY (Ao K0 (Tt D0 E0)))) fun Q2 y1 U0=>?_
 have J0:=Tt D0 (Tt E0 U0)
 refine AV [.bool s0.2.fe,j2] y1 .hd (o2 I (AY (Ao W1 J0))) fun R2 C0 F0=>Aa<|Af<|Ac (AH I (C0.memA .t3))<|Ac (AH I (C0.memA .t1)) ?_
 have d1:=Tt g1 (Tt Z0 (Tt K1 (Tt D0 (Tt E0 (Tt U0 F0)))))
 have b1:=Ao P0 d1
 obtain ⟨p2,z2,Y1,_⟩:=BR b1
 have c1:=Ao K0 (Tt J0 F0)
 obtain ⟨q2,A2,Z1,_⟩:=BR c1
 refine Ac (AS (vs:=[.agg #[.bool q0.1.fe,p0],.agg #[.bool s0.1.fe,k0]]) (u:=.agg #[.bool q0.1.fe,p0,.bool s0.1.fe,k0]) (e2 I I) (fun w9=>by rw [Y1,Z1]; try kernel_rfl))<|AV [.bool q0.1.fe,p0,.bool s0.1.fe,k0] C0 .t5 (o4 I (AY b1) I (AY c1)) fun U2 v0 V0=>Aa<|Am I<|Au hb0 func125 I (.cons (.many (cs:=[.bool q0.1.fe,p0,.bool s0.1.fe,k0]) I I (v0.memA .t5)) .nil) I ?_
 cases h
 exact ⟨v0.ag,fun w9 hw9=>⟨p0,k0,I,v0.kd (Ao P0 (Tt d1 V0)) hw9,v0.kd (Ao K0 (Tt J0 (Tt F0 V0))) hw9⟩⟩
 intro s2 R0 h
 try dsimp only at h
 refine MX.ifb I h (fun u1 h=>?_) (fun u1 h=>?_)
 refine Ap<|Ac (AH I (j0.memA .hd))<|bk h fun Q0 b2 h=>jE (bd 167) I (e1 I) (fun w9 hw9=>bD_c n (j0.hL hL hw9) x0 (Aw (Ao M0 (Tt G0 X0)) hw9) b2) I fun V2 G2 Q1 ⟨p1,hu_,j1⟩=>?_
 subst hu_
 obtain ⟨A1,M1⟩:=j0.agr Q1
 refine AV [.bool Q0.fe,p1] A1 .hd (o2 I (AY j1)) fun W2 B1 W0=>Aa<|R0 (Q0.fe,Q0.fD,p1) B1 (Tt M1 W0) (Ao j1 W0) h
 refine Ar<|R0 (x0.fe,x0.fD,q1) j0 (Bx _ _) (Ao M0 (Tt G0 X0)) h
def cS_p (n:Nat) (a0:Int) (a1:Int):Oa Th:=
  (aX_p n a0).bind fun b0=>(aX_p n a1).bind fun c0=>(aZ_p n b0 c0).bind fun d0=>some d0
theorem cS_c (n:Nat) {L w} (hL:hl L w) {a0:Int} {a1:Int}  {r:Th} (h:cS_p n a0 a1 = some r) :
 Cl 94 #[vI a0,vI a1] w (ae w fun w' u=>∃ v0_1 v0_3:Vc,u = .agg #[.bool r.fN.fe,v0_1,.bool r.fD.fe,v0_3]/\Rep.R w' L [v0_1] r.fN.fD/\Rep.R w' L [v0_3] r.fD.fD):=by
 unfold cS_p at h
 refine AF func94 I I I fun _ cs0 hb0=>Af<|RG.nl [.bool false,vN,.bool false,vN] (AA w) fun V0 H0 j0 I0=>Aa<|Af<|Ae I<|bk h fun F0 C0 h=>jE (bd 126) I (e1 I) (fun w9 hw9=>aX_c n (j0.hL hL hw9)  C0) I fun W0 Q0 x0 ⟨M0,hu_,A0⟩=>?_
 subst hu_
 obtain ⟨k0,J0⟩:=j0.agr x0
 refine Ae I<|bk h fun G0 D0 h=>jE (bd 126) I (e1 I) (fun w9 hw9=>aX_c n (k0.hL hL hw9)  D0) I fun X0 R0 y0 ⟨P0,hu_,B0⟩=>?_
 subst hu_
 obtain ⟨p0,v0⟩:=k0.agr y0
 refine bk h fun c0 E0 h=>jE (bd 125) I (e2 I I) (fun w9 hw9=>aZ_c n (p0.hL hL hw9) F0 (Aw (Ao A0 v0) hw9) G0 (Aw B0 hw9) E0) I fun Y0 U0 z0 ⟨d0,g0,hu_,s0,t0⟩=>?_
 subst hu_
 obtain ⟨u0,K0⟩:=p0.agr z0
 refine AV [.bool c0.fN.fe,d0,.bool c0.fD.fe,g0] u0 .hd (o4 I (AY s0) I (AY t0)) fun Z0 b0 q0=>Aa<|Am I<|Au hb0 func94 I (.cons (.many (cs:=[.bool c0.fN.fe,d0,.bool c0.fD.fe,g0]) I I (b0.memA .hd)) .nil) I ?_
 cases h
 exact ⟨b0.ag,fun w9 hw9=>⟨d0,g0,I,b0.kd (Ao s0 q0) hw9,b0.kd (Ao t0 q0) hw9⟩⟩
def dz_p (n:Nat) (a0:Int) (a1:Int):Oa (Ta × Int):=
  (if a1 = 0 then some ((⟨(0,0,0,0,0,0,0,0),(0,0,0,0,0,0,0,0)⟩:Ta),(7:Int)) else (cS_p n a0 a1).bind fun c0=>(bp_p n c0).bind fun b0=>some (b0.1,b0.2))
theorem dz_c (n:Nat) {L w} (hL:hl L w) {a0:Int} {a1:Int}  {r:Ta × Int} (h:dz_p n a0 a1 = some r) :
 Cl 68 #[vI a0,vI a1] w (ae w fun _ u=>u = .tuple #[.agg ((ab r.1)).toArray,vI r.2]):=by
 unfold dz_p at h
 refine AF func68 I I I fun _ cs0 hb0=>Af<|RG.nl zL (AA w) fun F0 x0 d0 y0=>Ag I<|Aa<|Aj<|Af<|Ae I<|Ac (FV.eql (i:=a1) (j:=0) I I)<|Aa<|AQ I h (fun k0 h=>?_) (fun k0 h=>?_)
 refine Af<|Ac (AS (vs:=[]) (u:=.agg zM) ak (fun w9=>by kernel_rfl))<|AV zL d0 .hd (ai I) fun G0 g0 z0=>Ag I<|Aa<|Am I<|Au hb0 func68 I (.cons (.many (cs:=zL) I I (g0.memA .hd)) (.cons (.tmp I) .nil)) I ?_
 cases h
 exact g0.gv
 refine Ar<|Af<|Ae I<|Ae I<|bk h fun v0 t0 h=>jE (bd 94) I (e2 I I) (fun w9 hw9=>cS_c n (d0.hL hL hw9)  t0) I fun H0 E0 p0 ⟨C0,D0,hu_,q0,s0⟩=>?_
 subst hu_
 obtain ⟨b0,A0⟩:=d0.agr p0
 refine bk h fun c0 u0 h=>Bj (.tuple #[.agg ((ab c0.1)).toArray,vI c0.2]) (bd 93) I (e1 I) (fun w9 hw9=>bp_c n (b0.hL0 hL hw9) v0 (b0.kd q0 hw9) (b0.kd s0 hw9) u0) I<|Ac (Ak I I)<|Ac (Ak I I)<|AV (ab c0.1) b0 .hd (ai I) fun I0 j0 B0=>Ag I<|Aa<|Am I<|Au hb0 func68 I (.cons (.many (cs:=(ab c0.1)) I I (j0.memA .hd)) (.cons (.tmp I) .nil)) I ?_
 cases h
 exact j0.gv
def aI_p (n:Nat) (a0:Int) (a1:Int):Oa Ta:=
  (dz_p n a0 a1).bind fun b0=>some b0.1
theorem aI_c (n:Nat) {L w} (hL:hl L w) {a0:Int} {a1:Int}  {r:Ta} (h:aI_p n a0 a1 = some r) :
 Cl 34 #[vI a0,vI a1] w (ae w fun _ u=>u = .agg ((ab r)).toArray):=by
 unfold aI_p at h
 refine AF func34 I I I fun _ cs0 hb0=>Af<|RG.nl zL (AA w) fun x0 p0 c0 s0=>Aa<|Af<|Ae I<|Ae I<|bk h fun b0 k0 h=>Bj (.tuple #[.agg ((ab b0.1)).toArray,vI b0.2]) (bd 68) I (e2 I I) (fun w9 hw9=>dz_c n (c0.hL0 hL hw9)  k0) I<|Ae I<|Ac (Ak I I)<|Ac (Ak I I)<|RG.nl zL c0 fun y0 q0 j0 t0=>AV (ab b0.1) j0 .hd (ai I) fun z0 d0 u0=>Ag I<|Aa<|Af<|Ac (AH I (d0.memA .hd))<|AV (ab b0.1) d0 .t1 (ai I) fun A0 g0 v0=>Aa<|Am I<|Au hb0 func34 I (.cons (.many (cs:=(ab b0.1)) I I (g0.memA .t1)) .nil) I ?_
 cases h
 exact g0.gv
def aV_l1 (n:Nat) (d0:(List (Int × Int)) × Int) (k0:Int × Int × Nat -> Oa (Int × Int)):Int × Int × Nat -> Oa (Int × Int)
  | (g0,j0,c0)=>(if c0 < d0.1.length then (d0.1[c0]?).bind fun b0=>(bv_p n b0.1 b0.2).bind fun u0=>(chk (g0 + u0)).bind fun p0=>(bv_p n b0.2 b0.1).bind fun v0=>(chk (p0 - v0)).bind fun q0=>(chk (j0 + b0.1)).bind fun s0=>(chk (s0 + b0.2)).bind fun t0=>k0 (q0,t0,c0 + 1) else some (j0,g0))
def aV_p (n:Nat) (a0:Te) (a1:List Int) (a2:Int) (a3:Int) (a4:Int):Oa (Ta × Int):=
  (ap_p n a0 a1 a2 a3 a4).bind fun b0=>(if b0.2 = 0 then Option.bind (aj (aV_l1 n b0) n (0,0,0)) (fun (j0,g0)=>(chk (2 * j0)).bind fun c0=>(aI_p n g0 c0).bind fun d0=>some (d0,(0:Int))) else some ((⟨(0,0,0,0,0,0,0,0),(0,0,0,0,0,0,0,0)⟩:Ta),b0.2))
theorem aV_c (n:Nat) {L w} (hL:hl L w) (a0:Te) {v0_3:Vc} (h0_3:Rep.R w L [v0_3] a0.ft) {a1:List Int} {v1_0:Vc} (h1_0:Rep.R w L [v1_0] a1) {a2:Int} {a3:Int} {a4:Int}  {r:Ta × Int} (h:aV_p n a0 a1 a2 a3 a4 = some r) :
 Cl 7 #[.agg #[vI a0.fh,vI a0.fc,vI a0.fj,v0_3],v1_0,vI a2,vI a3,vI a4] w (ae w fun _ u=>u = .tuple #[.agg ((ab r.1)).toArray,vI r.2]):=by
 unfold aV_p at h
 refine AF func7 I I I fun _ cs0 hb0=>Af<|RG.bx (AA w) I I fun Q1 B1 M0 G1=>RG.nl zL M0 fun V1 A0 u0 H1=>Ag I<|Aa<|Af<|Ac (AH I (u0.memA .t1))<|Ae I<|Ae I<|Ae I<|Ae I<|bk h fun x0 q1 h=>jE (bd 32) I (e5 I I I I I) (fun w9 hw9=>ap_c n (u0.hL hL hw9) a0 (u0.km h0_3 hw9) (u0.km h1_0 hw9) q1) I fun W1 P1 R0 ⟨y1,hu_,X0⟩=>?_
 subst hu_
 obtain ⟨D0,I1⟩:=u0.agr R0
 refine Ae I<|Ac (Ak I I)<|Ac (Ak I I)<|Ag I<|Ag I<|Aa<|Aj<|Af<|Ae I<|Ac (FV.neq (i:=x0.2) (j:=0) I I)<|Aa<|MX.ifn I h (fun I0 h=>?_) (fun I0 h=>?_)
 refine Ar<|Af<|Ag I<|Ag I<|Aa<|Aj<|Af<|Ag I<|Aa<|Ax ?_
 obtain ⟨P0,Q0⟩:=AK D0 (.a0 .done)
 obtain ⟨K1,V0,U0⟩:=aq h
 refine MX.lo (α:=Int × Int × Nat) (fun ⟨t0,k0,g0⟩=>[(10,vP A0),(12,y1),(14,vI t0),(15,vI k0),(16,vn g0)]) (fun ⟨t0,k0,g0⟩=>[.cells A0 zL 48]) (fun ⟨t0,k0,g0⟩=>(t0,k0,g0)) (0,0,0) V0 P0 ?_
 rintro A1 ⟨t0,k0,g0⟩ X1 K0 v0 E0 h
 unfold aV_l1 at h
 try dsimp only at h
 refine Aj<|Af<|Ae I<|Ae I ?_
 have y0:=Ao X0 (Tt Q0 E0)
 have J1:=AU y0
 refine Ac (Ba (xs:=x0.1) underlying81 I y0)<|Ac (Bp (i:=g0) (j:=x0.1.length) I I)<|Aa<|AQ I h (fun J0 h=>?_) (fun J0 h=>?_)
 refine Ar<|Aj<|Ax<|Aj<|du 26 fun b0 c0=>Rv 0 b0 I c0 (fun _=>Ai I)<|Rv 1 b0 I c0 (fun _=>Ai I)<|Rv 2 b0 I c0 (fun _=>Ai I)<|bk h fun F0 g1 h=>?_
 obtain ⟨z1,C1,p0,q0,D1,W0,s0⟩:=Bh y0 g1
 obtain rfl:=fO W0
 refine Rv 3 b0 I c0 (fun _=>Bb 2 g0 I p0 I I q0)<|Rv 4 b0 I c0 (fun _=>AO (m:=1) (k:=0) (len:=2) I I I I (by omega))<|Rx 5 58726400 b0 I c0 (AP I (s0 0 _ I))<|Rv 6 b0 I c0 (fun _=>Ai I)<|Rv 7 b0 I c0 (fun _=>Ai I)<|Rv 8 b0 I c0 (fun _=>Bb 2 g0 I p0 I I q0)<|Rv 9 b0 I c0 (fun _=>AO (m:=1) (k:=1) (len:=2) I I I I (by omega))<|Rx 10 58726400 b0 I c0 (AP I (s0 1 _ I))<|bk h fun G0 j1 h=>BV 11 4095 58724352 (vI G0) b0 I c0 (bd 33) I (e2 I I) (fun w9 hw9=>bv_c n (v0.hL0 hL hw9)  j1) I<|bk h fun s1 Y0 h=>Rv 12 b0 I c0 (fun _=>Bw (i:=t0) (j:=G0) I I Y0)<|Rv 13 b0 I c0 (fun _=>Ai I)<|Rv 14 b0 I c0 (fun _=>Ai I)<|Rv 15 b0 I c0 (fun _=>Bb 2 g0 I p0 I I q0)<|Rv 16 b0 I c0 (fun _=>AO (m:=1) (k:=1) (len:=2) I I I I (by omega))<|Rx 17 58720256 b0 I c0 (AP I (s0 1 _ I))<|Rv 18 b0 I c0 (fun _=>Ai I)<|Rv 19 b0 I c0 (fun _=>Ai I)<|Rv 20 b0 I c0 (fun _=>Bb 2 g0 I p0 I I q0)<|Rv 21 b0 I c0 (fun _=>AO (m:=1) (k:=0) (len:=2) I I I I (by omega))<|Rx 22 58720256 b0 I c0 (AP I (s0 0 _ I))<|bk h fun H0 k1 h=>BV 23 16777215 50331648 (vI H0) b0 I c0 (bd 33) I (e2 I I) (fun w9 hw9=>bv_c n (v0.hL0 hL hw9)  k1) I<|bk h fun u1 Z0 h=>Rv 24 b0 I c0 (fun _=>BQ (i:=s1) (j:=H0) I I Z0)<|Rv 25 b0 I c0 (fun _=>Be I)<|AN (dk b0)<|du 14 fun d0 j0=>Rv 0 d0 I j0 (fun _=>Ai I)<|Rv 1 d0 I j0 (fun _=>Ai I)<|Rv 2 d0 I j0 (fun _=>Ai I)<|Rv 3 d0 I j0 (fun _=>Bb 2 g0 I p0 I I q0)<|Rv 4 d0 I j0 (fun _=>AO (m:=1) (k:=0) (len:=2) I I I I (by omega))<|Rx 5 12352 d0 I j0 (AP I (s0 0 _ I))<|bk h fun v1 b1 h=>Rv 6 d0 I j0 (fun _=>Bw (i:=k0) (j:=F0.1) I I b1)<|Rv 7 d0 I j0 (fun _=>Ai I)<|Rv 8 d0 I j0 (fun _=>Ai I)<|Rv 9 d0 I j0 (fun _=>Bb 2 g0 I p0 I I q0)<|Rv 10 d0 I j0 (fun _=>AO (m:=1) (k:=1) (len:=2) I I I I (by omega))<|Rx 11 12288 d0 I j0 (AP I (s0 1 _ I))<|bk h fun x1 c1 h=>Rv 12 d0 I j0 (fun _=>Bw (i:=v1) (j:=F0.2) I I c1)<|Rv 13 d0 I j0 (fun _=>Be I)<|AN (dk d0)<|AC<|Ap<|Ae I<|Ac (Bl (i:=g0) (j:=1) I I (by omega))<|Ag I<|Aa<|K0 (u1,x1,g0 + 1) v0 E0 h
 refine AX I ?_
 have h:=U0 _ h
 try dsimp only at h
 refine Af<|Ae I<|Ae I<|bk h fun M1 d1 h=>Ac (FV.mulc (i:=2) (j:=k0) I I d1)<|bk h fun z0 p1 h=>Bj (.agg ((ab z0)).toArray) (bd 34) I (e2 I I) (fun w9 hw9=>aI_c n (v0.hL0 hL hw9)  p1) I<|AV (ab z0) v0 .hd (ai I) fun R1 B0 E1=>Ag I<|Aa<|Am I<|Au hb0 func7 I (.cons (.many (cs:=(ab z0)) I I (B0.memA .hd)) (.cons (.tmp I) .nil)) I ?_
 cases h
 exact B0.gv
 refine Af<|Ac (AS (vs:=[]) (u:=.agg zM) ak (fun w9=>by kernel_rfl))<|Ae I<|AV zL D0 .hd (ai I) fun U1 C0 F1=>Ag I<|Aa<|Am I<|Au hb0 func7 I (.cons (.many (cs:=zL) I I (C0.memA .hd)) (.cons (.tmp I) .nil)) I ?_
 cases h
 exact C0.gv
def a9_l1 (_n:Nat) (a0:U8) (g0:Nat × (List Int) -> Oa (List Int)):Nat × (List Int) -> Oa (List Int)
  | (b0,c0)=>(if b0 < 8 then (([a0.1,a0.2.1,a0.2.2.1,a0.2.2.2.1,a0.2.2.2.2.1,a0.2.2.2.2.2.1,a0.2.2.2.2.2.2.1,a0.2.2.2.2.2.2.2]:List Ua)[b0]?).bind fun d0=>(app c0 ([aB (d0 % (4294967296:Ua)),aB (d0 / (4294967296:Ua))]:List Int)).bind fun j0=>g0 (b0 + 1,j0) else some c0)
def a9_p (n:Nat) (a0:U8):Oa (List Int):=
  Option.bind (aj (a9_l1 n a0) n (0,([]:List Int))) (fun b0=>some b0)
theorem a9_c (n:Nat) {L w} (hL:hl L w) (a0:U8)  {r:List Int} (h:a9_p n a0 = some r) :
 Cl 177 #[.agg ((ao a0)).toArray] w (ae w fun w' u=>∃ v0_0:Vc,u = v0_0/\Rep.R w' L [v0_0] r):=by
 unfold a9_p at h
 refine AF func177 I I I fun _ cs0 hb0=>Af<|RG.bx (AA w) I I fun j1 s0 x0 Z0=>Ag I<|Aa<|Af<|Ag I<|Aa<|Aj<|Af<|Ag I<|Aa<|Ax ?_
 have y0:=x0.nilRow 3 (Rep.size Int)
 have b1:=BW x0 3 (Rep.size Int)
 obtain ⟨c1,P0,M0⟩:=aq h
 refine MX.lf (α:=Nat × (List Int) × Vc × (List Vc)) (fun ⟨d0,k0,j0,p0⟩=>[(1,vP s0),(3,j0),(4,vn d0)]) (fun ⟨d0,k0,j0,p0⟩=>[rr w 3 Int j0 k0.length p0,.cells s0 (ao a0) 46]) (fun ⟨d0,k0,j0,p0⟩ C0=>Cells C0 (bl [rr w 3 Int j0 k0.length p0,.cells s0 (ao a0) 46] ++ L) p0 k0) (fun ⟨d0,k0,j0,p0⟩=>(d0,k0)) (0,([]:List Int),vN,[]) P0 y0 (AD (cs:=[]) (xs:=([]:List Int)) y0 L (AJ _ _)) ?_
 rintro W0 ⟨d0,k0,j0,p0⟩ C0 F0 q0 J0 B0 h
 unfold a9_l1 at h
 try dsimp only at h
 refine Aj<|Af<|Ae I<|Ac (Bp (i:=d0) (j:=8) I I)<|Aa<|AQ I h (fun D0 h=>?_) (fun D0 h=>?_)
 refine Ar<|Aj<|Ax<|du 12 fun c0 g0=>Rv 0 c0 I g0 (fun _=>Ai I)<|Rv 1 c0 I g0 (fun _=>Ai I)<|bk h fun b0 t0 h=>Rv 2 c0 I g0 (fun _=>AO (m:=1) (k:=d0) (len:=8) I I I I (aU t0 I))<|Rx 3 14384 c0 I g0 (AP I ((aK (p:=⟨s0,0,none⟩) (cs:=([a0.1,a0.2.1,a0.2.2.1,a0.2.2.2.1,a0.2.2.2.2.1,a0.2.2.2.2.2.1,a0.2.2.2.2.2.2.1,a0.2.2.2.2.2.2.2]:List Ua).map (fun z9:Ua=>(vU z9:Vc)) ++ []) (i:=d0) (q0.memA .t1) (bJ (fun z9:Ua=>(vU z9:Vc)) t0)) 0 _ I))<|Rv 4 c0 I g0 (fun _=>FV.remU (a:=b0) (b:=(4294967296:Ua)) I I (by decide))<|Rv 5 c0 I g0 (fun _=>FV.convUI (a:=b0 % (4294967296:Ua)) underlying44 underlying3 I)<|Rv 6 c0 I g0 (fun _=>Ai I)<|Rv 7 c0 I g0 (fun _=>AO (m:=1) (k:=d0) (len:=8) I I I I (aU t0 I))<|Rx 8 15872 c0 I g0 (AP I ((aK (p:=⟨s0,0,none⟩) (cs:=([a0.1,a0.2.1,a0.2.2.1,a0.2.2.2.1,a0.2.2.2.2.1,a0.2.2.2.2.2.1,a0.2.2.2.2.2.2.1,a0.2.2.2.2.2.2.2]:List Ua).map (fun z9:Ua=>(vU z9:Vc)) ++ []) (i:=d0) (q0.memA .t1) (bJ (fun z9:Ua=>(vU z9:Vc)) t0)) 0 _ I))<|Rv 9 c0 I g0 (fun _=>FV.quoU (a:=b0) (b:=(4294967296:Ua)) I I (by decide))<|Rv 10 c0 I g0 (fun _=>FV.convUI (a:=b0 / (4294967296:Ua)) underlying44 underlying3 I)<|BS 11 4095 c0 I .plain I (AL (α:=Int) (xs:=([aB (b0 % (4294967296:Ua)),aB (b0 / (4294967296:Ua))]:List Int)) (vs:=[vI (aB (b0 % (4294967296:Ua))),vI (aB (b0 / (4294967296:Ua)))]) (ds' :=[vI (aB (b0 % (4294967296:Ua))),vI (aB (b0 / (4294967296:Ua)))]) I q0 ay I (e2 I I) (by kernel_rfl) I) fun k1 X0 v0 A0=>bk h fun V0 R0 h=>BM (i:=12) (rk c0) (BI (m' :=8191) (sk c0) I I .plain I (Bf (α:=Int) (ys:=([aB (b0 % (4294967296:Ua)),aB (b0 / (4294967296:Ua))]:List Int)) R0 v0 (fun _ _=>.t1) ay I I (AB B0 A0) (Src.row (α:=Int) v0 .hd (AD (cs:=[vI (aB (b0 % (4294967296:Ua))),vI (aB (b0 / (4294967296:Ua)))]) (xs:=(([aB (b0 % (4294967296:Ua)),aB (b0 / (4294967296:Ua))]:List Int):List Int)) v0 L (Av (cs:=[vI (aB (b0 % (4294967296:Ua)))]) (ds:=[vI (aB (b0 / (4294967296:Ua)))]) I (Av (cs:=[vI (aB (b0 / (4294967296:Ua)))]) (ds:=[]) I (AJ _ _)))))) (fun U0 g1 ⟨E0,G0,I0,K0⟩=>?_))
 refine Rv 13 c0 I g0 (fun _=>Be I)<|AN (dk c0)<|AC<|Ap<|Ae I<|Ac (Bl (i:=d0) (j:=1) I I (by omega))<|Ag I<|Aa ?_
 obtain ⟨H0,z0⟩:=AK G0 .d1
 exact F0 (d0 + 1,V0,U0,E0) H0 (Tt J0 (Tt A0 (Tt I0 z0))) (AB K0 z0) h
 refine AX I ?_
 have h:=M0 _ h
 try dsimp only at h
 refine Af<|Ae I<|Ag I<|Aa<|Am I ?_
 have u0:=BA q0 .hd
 have Y0:=BB q0 .hd
 have Q0:=BC (α:=Int) (v:=j0) (xs:=k0) u0 L (Bg (α:=Int) q0 .hd B0 hL)
 refine AW hb0 func177 I I ?_
 cases h
 exact ⟨u0.ag,fun w9 hw9=>⟨j0,I,u0.kd Q0 hw9⟩⟩
def aq_p (n:Nat) (a0:U8):Oa Tf:=
  (a9_p n a0).bind fun c0=>(if a0.2.2.2.2.2.2.2 < (9223372036854775808:Ua) then (aa_p n false c0).bind fun g0=>some g0 else (mk 17 (0:Int)).bind fun b0=>(b0[16]?).bind fun _x49=>(put b0 ((16:Nat):Int) (1:Int)).bind fun d0=>(az_p n c0).bind fun j0=>(ao_p n d0 j0).bind fun k0=>(aa_p n true k0).bind fun p0=>some p0)
theorem aq_c (n:Nat) {L w} (hL:hl L w) (a0:U8)  {r:Tf} (h:aq_p n a0 = some r) :
 Cl 142 #[.agg ((ao a0)).toArray] w (ae w fun w' u=>∃ v0_1:Vc,u = .agg #[.bool r.fe,v0_1]/\Rep.R w' L [v0_1] r.fD):=by
 unfold aq_p at h
 refine AF func142 I I I fun _ cs0 hb0=>Af<|RG.bx (AA w) I I fun g2 D1 J0 J1=>RG.nl [.bool false,vN] J0 fun j2 E1 c0 K1=>Aa<|Af<|Ac (AH I (c0.memA .t1))<|bk h fun A2 u1 h=>jE (bd 177) I (e1 I) (fun w9 hw9=>a9_c n (c0.hL hL hw9) a0 u1) I fun k2 Y1 W0 ⟨V1,hu_,A0⟩=>?_
 subst hu_
 obtain ⟨b0,M1⟩:=c0.agr W0
 refine Ag I<|Aa<|Aj<|Af<|Ac (AO (m:=1) (k:=7) (len:=8) I I I I (by omega))<|AR I ((b0.memA .t1) 7 _ I)<|Ac (FV.lssU (a:=a0.2.2.2.2.2.2.2) (b:=(9223372036854775808:Ua)) I I)<|Aa<|AQ I h (fun H0 h=>?_) (fun H0 h=>?_)
 refine Af<|Ae I<|bk h fun D0 v1 h=>jE (bd 169) I (e2 I I) (fun w9 hw9=>aa_c n (b0.hL hL hw9) (Aw A0 hw9) v1) I fun p2 Z1 X0 ⟨s0,hu_,B0⟩=>?_
 subst hu_
 obtain ⟨K0,P1⟩:=b0.agr X0
 refine AV [.bool D0.fe,s0] K0 .hd (o2 I (AY B0)) fun q2 d0 Q0=>Aa<|Am I<|Au hb0 func142 I (.cons (.many (cs:=[.bool D0.fe,s0]) I I (d0.memA .hd)) .nil) I ?_
 cases h
 exact ⟨d0.ag,fun w9 hw9=>⟨s0,I,d0.kd (Ao B0 Q0) hw9⟩⟩
 refine Ar<|Af<|bk h fun z2 q1 h=>RG.doesH .plain I (Does.mkH (α:=Int) (L:=L) q1 b0 ay I (fun _ _=>rfl)) fun A1 s2 ⟨H1,g0,R0,x0⟩=>Ag I<|Aa<|Af<|Ae I<|bk h fun B1 p1 h=>?_
 obtain ⟨F0,F1,q0,z0,I0,g1,U1⟩:=BU (α:=Int) g0 .hd x0 p1
 obtain ⟨G0,G1,y0⟩:=By (α:=Int) g0 .hd z0
 obtain rfl:F0 = ⟨G0,0,none⟩:=by rw [y0] at q0; cases q0; rfl
 have d1:I0 = [vI B1]:=g1; subst d1
 refine Ac (Bb 1 16 I q0 I I z0)<|bk h fun C1 s1 h=>RG.acts' .plain (Cb (α:=Int) (i:=16) s1 g0 y0 (fun _=>.hd) x0 I I I I I I) fun t2 ⟨I1,u0,U0,c1⟩=>Aa<|Af<|Ae I<|Ae I<|bk h fun B2 x1 h=>jE (bd 178) I (e1 I) (fun w9 hw9=>az_c n (u0.hL hL hw9) (Aw (Ao A0 (Tt R0 U0)) hw9) x1) I fun u2 b2 Y0 ⟨W1,hu_,j1⟩=>?_
 subst hu_
 obtain ⟨j0,V0⟩:=u0.agr Y0
 have k0:=BA j0 .hd
 refine bk h fun C2 y1 h=>jE (bd 166) I (e2 I I) (fun w9 hw9=>ao_c n (k0.hL hL hw9) (Aw (BC (α:=Int) (v:=A1) (xs:=C1) k0 L (Bg (α:=Int) j0 .hd (AB c1 V0) hL)) hw9) (Aw (Ao j1 (BB j0 .hd)) hw9) y1) I fun v2 c2 Z0 ⟨X1,hu_,k1⟩=>?_
 subst hu_
 obtain ⟨v0,Q1⟩:=k0.agr Z0
 refine bk h fun E0 z1 h=>jE (bd 169) I (e2 I I) (fun w9 hw9=>aa_c n (v0.hL hL hw9) (Aw k1 hw9) z1) I fun x2 d2 b1 ⟨t0,hu_,C0⟩=>?_
 subst hu_
 obtain ⟨M0,R1⟩:=v0.agr b1
 refine AV [.bool E0.fe,t0] M0 .hd (o2 I (AY C0)) fun y2 p0 P0=>Aa<|Am I<|Au hb0 func142 I (.cons (.many (cs:=[.bool E0.fe,t0]) I I (p0.memA .hd)) .nil) I ?_
 cases h
 exact ⟨p0.ag,fun w9 hw9=>⟨t0,I,p0.kd (Ao C0 P0) hw9⟩⟩
def cL_p (_n:Nat) (a0:Tf):Oa Bool:=
  (if a0.fD.length = 1 then (a0.fD[0]?).bind fun b0=>(if b0 = 1 then some (!a0.fe) else some false) else some false)
theorem cL_c (n:Nat) {L w} (_hL:hl L w) (a0:Tf) {v0_1:Vc} (h0_1:Rep.R w L [v0_1] a0.fD)  {r:Bool} (h:cL_p n a0 = some r) :
 Cl 143 #[.agg #[.bool a0.fe,v0_1]] w (ae w fun _ u=>u = .bool r):=by
 unfold cL_p at h
 refine AF func143 I I I fun _ cs0 hb0=>Af<|RG.bx (AA w) I I fun C0 y0 b0 A0=>Ag I<|Aa<|Af<|Bd 1 I<|AR I ((b0.memA .hd) 1 _ I) ?_
 have c0:=AT h0_1 b0
 have B0:=AU c0
 refine Ac (Ba (xs:=a0.fD) underlying38 I c0)<|Ac (BP (i:=a0.fD.length) (j:=1) I I)<|Ae I<|BD (s:=7) I h (fun g0 h=>?_) (fun g0 h=>?_)
 refine RG.fg 1 I<|AG (AP I ((b0.memA .hd) 1 _ I))<|bk h fun d0 v0 h=>?_
 obtain ⟨x0,z0,p0,s0,k0,u0,t0⟩:=Bh c0 v0
 have q0:k0 = [vI d0]:=u0; subst q0
 refine AG (Bb 1 0 I p0 I I s0)<|AG (AP I (t0 0 _ I))<|AG (FV.eql (i:=d0) (j:=1) I I)<|Bn I I<|Ae I<|BD (s:=14) I h (fun j0 h=>?_) (fun j0 h=>?_)
 refine RG.fg 0 I<|AG (AP I ((b0.memA .hd) 0 _ I))<|AG (Bu I)<|Bn I I<|Ag I<|Aa<|Am I<|AW hb0 func143 I I ?_
 cases h
 exact b0.gv
 refine Aq<|Aq<|Aq<|Bv I I<|Ag I<|Aa<|Am I<|AW hb0 func143 I I ?_
 cases h
 exact b0.gv
 refine Aq<|Aq<|Aq<|Aq<|Aq<|Bv I I<|Ae I<|Aq<|Aq<|Aq<|Bv I I<|Ag I<|Aa<|Am I<|AW hb0 func143 I I ?_
 cases h
 exact b0.gv
def ar_p (n:Nat) (a0:Ta):Oa Bool:=
  (aq_p n a0.fN).bind fun g0=>(aq_p n a0.fD).bind fun b0=>(if b0.fe = true then some false else (if 0 < b0.fD.length then (aM_p n g0 b0).bind fun c0=>(cL_p n c0).bind fun d0=>some d0 else some false))
theorem ar_c (n:Nat) {L w} (hL:hl L w) (a0:Ta)  {r:Bool} (h:ar_p n a0 = some r) :
 Cl 103 #[.agg ((ab a0)).toArray] w (ae w fun _ u=>u = .bool r):=by
 unfold ar_p at h
 refine AF func103 I I I fun _ cs0 hb0=>Af<|RG.bx (AA w) I I fun H2 A2 M0 B2=>Ag I<|Aa<|Aj<|du 8 fun b0 V0=>Rv 0 b0 I V0 (fun _=>Bi 0 I)<|Rx 1 804 b0 I V0 (Bk (cs:=(ao a0.fN)) I I (ah (M0.memA .hd) 0 8))<|Rv 3 b0 I V0 (fun _=>Bi 8 I)<|Rx 4 800 b0 I V0 (Bk (cs:=(ao a0.fD)) I I (ah (M0.memA .hd) 8 8))<|bk h fun Y0 U0 h=>bk h fun P0 C0 h=>RD.mf (α:=Vc × Vc × Nat × Nat) (fun ⟨Q0,R0,J0,K0⟩=>[(7,.agg #[.bool Y0.fe,Q0]),(10,.agg #[.bool P0.fe,R0]),(3,vP K0),(4,vP J0)]) (fun ⟨Q0,R0,J0,K0⟩=>[.cells J0 [.bool false,vN] 143,.cells K0 [.bool false,vN] 143]) (fun ⟨Q0,R0,J0,K0⟩ j1=>Rep.R j1 (bl [.cells J0 [.bool false,vN] 143,.cells K0 [.bool false,vN] 143] ++ L) [Q0] Y0.fD/\Rep.R j1 (bl [.cells J0 [.bool false,vN] 143,.cells K0 [.bool false,vN] 143] ++ L) [R0] P0.fD) M0 2 255 ?_ ?_
 rintro ⟨Q0,R0,J0,K0⟩ j1 V1 C2 ⟨P1,Q1⟩
 try dsimp only
 refine BG 8 511 b0 I I .plain (AE (news:=[.bool Y0.fe,Q0]) V1 .t1 I I I I I I (o2 I (AY P1))) fun I2 W1 b1=>BG 9 1023 b0 I I .plain (AE (news:=[.bool P0.fe,R0]) W1 .hd I I I I I I (o2 I (AY (Ao Q1 b1)))) fun J2 G0 k1=>AN (dk b0)<|Af<|Bd 0 I<|AR I ((G0.memA .hd) 0 _ I)<|Ac (Bu I)<|Ae I<|RG.ifnb (s:=14) I h (fun R1 h=>?_) (fun R1 h=>?_)
 refine Aq<|Aq<|Aq<|Aq<|Bv I I<|Ae I<|Aq<|Aq<|Aq<|Aq<|Bv I I<|Ag I<|Aa<|Am I<|AW hb0 func103 I I ?_
 cases h
 exact G0.gv
 refine RG.fg 1 I<|AG (AP I ((G0.memA .hd) 1 _ I)) ?_
 have g1:=Ao Q1 (Tt b1 k1)
 have E2:=AU g1
 refine AG (Ba (xs:=P0.fD) underlying38 I g1)<|AG (FV.gtrN (i:=P0.fD.length) (j:=0) I I)<|Bn I I<|Ae I<|BD (s:=20) I h (fun U1 h=>?_) (fun U1 h=>?_)
 refine AG (AH I (G0.memA .t1))<|AG (AH I (G0.memA .hd))<|bk h fun y2 v2 h=>Bc (fst:=[]) (cap:=[]) (.yes I I) (bd 144) I (e2 I I) (fun w9 hw9=>aM_c n (G0.hL hL hw9) Y0 (Aw (Ao P1 (Tt b1 k1)) hw9) P0 (Aw g1 hw9) v2) I fun K2 G2 t2 ⟨F2,hu_,u2⟩=>?_
 subst hu_
 obtain ⟨Z0,D2⟩:=G0.agr t2
 refine bk h fun z2 x2 h=>RG.callq' (v:=.bool z2) (fst:=[]) (cap:=[]) (.yes I I) (bd 143) I (e1 I) (fun w9 hw9=>cL_c n (Z0.hL0 hL hw9) y2 (Z0.kd u2 hw9) x2) I<|Bn I I<|Ag I<|Aa<|Am I<|AW hb0 func103 I I ?_
 cases h
 exact Z0.gv
 refine Aq<|Aq<|Aq<|Aq<|Bv I I<|Ag I<|Aa<|Am I<|AW hb0 func103 I I ?_
 cases h
 exact G0.gv
 intro B0
 refine Bz [2,6,7] (rk b0) ⟨?_,?_,?_,trivial⟩
 refine RO.call (m' :=31) (fst:=[]) (cap:=[]) (sk b0) I .plain (bd 142) I (e1 I) (fun w9 hw9=>aq_c n (M0.hL hL hw9) a0.fN U0) I fun X0 W0 F0 ⟨A0,hu_,z0⟩=>?_
 subst hu_
 obtain ⟨x0,y0⟩:=M0.agr F0
 refine Bz [5,6,7] (rk b0) ⟨?_,?_,?_,trivial⟩
 refine RO.call (m' :=63) (fst:=[]) (cap:=[]) (sk b0) I .plain (bd 142) I (e1 I) (fun w9 hw9=>aq_c n (x0.hL hL hw9) a0.fD C0) I fun E0 D0 t0 ⟨s0,hu_,q0⟩=>?_
 subst hu_
 obtain ⟨p0,j0⟩:=x0.agr t0
 refine Bz [6,7] (rk b0) ⟨?_,?_,trivial⟩
 refine BH (m' :=127) (sk b0) I .plain I (Az [.bool false,vN] p0) fun I0 v0 d0 k0=>BS 7 255 b0 I .plain I (Az [.bool false,vN] d0) fun H0 u0 c0 g0=>?_
 obtain ⟨X1,p1⟩:=AK c0 (.a0 (.a0 .done))
 have C1:=Tt j0 (Tt k0 (Tt g0 p1))
 exact B0 (A0,s0,u0,v0) X1 (Tt y0 C1) ⟨(Ao z0 C1),(Ao q0 (Tt k0 (Tt g0 p1)))⟩
 refine BH (m' :=191) (sk b0) I .plain I (Az [.bool false,vN] p0) fun H0 u0 c0 g0=>BS 6 255 b0 I .plain I (Az [.bool false,vN] c0) fun I0 v0 d0 k0=>?_
 obtain ⟨Y1,q1⟩:=AK d0 (.a1 (.a0 .done))
 have D1:=Tt j0 (Tt g0 (Tt k0 q1))
 exact B0 (A0,s0,u0,v0) Y1 (Tt y0 D1) ⟨(Ao z0 D1),(Ao q0 (Tt g0 (Tt k0 q1)))⟩
 refine BH (m' :=95) (sk b0) I .plain I (Az [.bool false,vN] x0) fun I0 v0 d0 k0=>Bz [5,7] (rk b0) ⟨?_,?_,trivial⟩
 refine RO.call (m' :=127) (fst:=[]) (cap:=[]) (sk b0) I .plain (bd 142) I (e1 I) (fun w9 hw9=>aq_c n (d0.hL hL hw9) a0.fD C0) I fun E0 D0 t0 ⟨s0,hu_,q0⟩=>?_
 subst hu_
 obtain ⟨p0,j0⟩:=d0.agr t0
 refine BS 7 255 b0 I .plain I (Az [.bool false,vN] p0) fun H0 u0 c0 g0=>?_
 obtain ⟨Z1,s1⟩:=AK c0 (.a0 (.a0 .done))
 have E1:=Tt k0 (Tt j0 (Tt g0 s1))
 exact B0 (A0,s0,u0,v0) Z1 (Tt y0 E1) ⟨(Ao z0 E1),(Ao q0 (Tt g0 s1))⟩
 refine BH (m' :=223) (sk b0) I .plain I (Az [.bool false,vN] d0) fun H0 u0 c0 g0=>Bs 5 255 b0 I .plain (bd 142) I (e1 I) (fun w9 hw9=>aq_c n (c0.hL hL hw9) a0.fD C0) I fun E0 D0 t0 ⟨s0,hu_,q0⟩=>?_
 subst hu_
 obtain ⟨p0,j0⟩:=c0.agr t0
 obtain ⟨b2,u1⟩:=AK p0 (.a0 (.a0 .done))
 have F1:=Tt k0 (Tt g0 (Tt j0 u1))
 exact B0 (A0,s0,u0,v0) b2 (Tt y0 F1) ⟨(Ao z0 F1),(Ao q0 u1)⟩
 refine BH (m' :=159) (sk b0) I .plain I (Az [.bool false,vN] x0) fun H0 u0 c0 g0=>Bz [5,6] (rk b0) ⟨?_,?_,trivial⟩
 refine RO.call (m' :=191) (fst:=[]) (cap:=[]) (sk b0) I .plain (bd 142) I (e1 I) (fun w9 hw9=>aq_c n (c0.hL hL hw9) a0.fD C0) I fun E0 D0 t0 ⟨s0,hu_,q0⟩=>?_
 subst hu_
 obtain ⟨p0,j0⟩:=c0.agr t0
 refine BS 6 255 b0 I .plain I (Az [.bool false,vN] p0) fun I0 v0 d0 k0=>?_
 obtain ⟨c2,v1⟩:=AK d0 (.a1 (.a0 .done))
 have G1:=Tt g0 (Tt j0 (Tt k0 v1))
 exact B0 (A0,s0,u0,v0) c2 (Tt y0 G1) ⟨(Ao z0 G1),(Ao q0 (Tt k0 v1))⟩
 refine BH (m' :=223) (sk b0) I .plain I (Az [.bool false,vN] c0) fun I0 v0 d0 k0=>Bs 5 255 b0 I .plain (bd 142) I (e1 I) (fun w9 hw9=>aq_c n (d0.hL hL hw9) a0.fD C0) I fun E0 D0 t0 ⟨s0,hu_,q0⟩=>?_
 subst hu_
 obtain ⟨p0,j0⟩:=d0.agr t0
 obtain ⟨d2,x1⟩:=AK p0 (.a1 (.a0 .done))
 have H1:=Tt g0 (Tt k0 (Tt j0 x1))
 exact B0 (A0,s0,u0,v0) d2 (Tt y0 H1) ⟨(Ao z0 H1),(Ao q0 x1)⟩
 refine BH (m' :=91) (sk b0) I .plain I (Az [.bool false,vN] M0) fun I0 v0 d0 k0=>Bz [2,7] (rk b0) ⟨?_,?_,trivial⟩
 refine RO.call (m' :=95) (fst:=[]) (cap:=[]) (sk b0) I .plain (bd 142) I (e1 I) (fun w9 hw9=>aq_c n (d0.hL hL hw9) a0.fN U0) I fun X0 W0 F0 ⟨A0,hu_,z0⟩=>?_
 subst hu_
 obtain ⟨x0,y0⟩:=d0.agr F0
 refine Bz [5,7] (rk b0) ⟨?_,?_,trivial⟩
 refine RO.call (m' :=127) (fst:=[]) (cap:=[]) (sk b0) I .plain (bd 142) I (e1 I) (fun w9 hw9=>aq_c n (x0.hL hL hw9) a0.fD C0) I fun E0 D0 t0 ⟨s0,hu_,q0⟩=>?_
 subst hu_
 obtain ⟨p0,j0⟩:=x0.agr t0
 refine BS 7 255 b0 I .plain I (Az [.bool false,vN] p0) fun H0 u0 c0 g0=>?_
 obtain ⟨g2,y1⟩:=AK c0 (.a0 (.a0 .done))
 have I1:=Tt j0 (Tt g0 y1)
 exact B0 (A0,s0,u0,v0) g2 (Tt k0 (Tt y0 I1)) ⟨(Ao z0 I1),(Ao q0 (Tt g0 y1))⟩
 refine BH (m' :=223) (sk b0) I .plain I (Az [.bool false,vN] x0) fun H0 u0 c0 g0=>Bs 5 255 b0 I .plain (bd 142) I (e1 I) (fun w9 hw9=>aq_c n (c0.hL hL hw9) a0.fD C0) I fun E0 D0 t0 ⟨s0,hu_,q0⟩=>?_
 subst hu_
 obtain ⟨p0,j0⟩:=c0.agr t0
 obtain ⟨j2,z1⟩:=AK p0 (.a0 (.a0 .done))
 have J1:=Tt g0 (Tt j0 z1)
 exact B0 (A0,s0,u0,v0) j2 (Tt k0 (Tt y0 J1)) ⟨(Ao z0 J1),(Ao q0 z1)⟩
 refine BH (m' :=219) (sk b0) I .plain I (Az [.bool false,vN] d0) fun H0 u0 c0 g0=>Bs 2 223 b0 I .plain (bd 142) I (e1 I) (fun w9 hw9=>aq_c n (c0.hL hL hw9) a0.fN U0) I fun X0 W0 F0 ⟨A0,hu_,z0⟩=>?_
 subst hu_
 obtain ⟨x0,y0⟩:=c0.agr F0
 refine Bs 5 255 b0 I .plain (bd 142) I (e1 I) (fun w9 hw9=>aq_c n (x0.hL hL hw9) a0.fD C0) I fun E0 D0 t0 ⟨s0,hu_,q0⟩=>?_
 subst hu_
 obtain ⟨p0,j0⟩:=x0.agr t0
 obtain ⟨k2,c1⟩:=AK p0 (.a0 (.a0 .done))
 exact B0 (A0,s0,u0,v0) k2 (Tt k0 (Tt g0 (Tt y0 (Tt j0 c1)))) ⟨(Ao z0 (Tt j0 c1)),(Ao q0 c1)⟩
 refine BH (m' :=155) (sk b0) I .plain I (Az [.bool false,vN] M0) fun H0 u0 c0 g0=>Bz [2,6] (rk b0) ⟨?_,?_,trivial⟩
 refine RO.call (m' :=159) (fst:=[]) (cap:=[]) (sk b0) I .plain (bd 142) I (e1 I) (fun w9 hw9=>aq_c n (c0.hL hL hw9) a0.fN U0) I fun X0 W0 F0 ⟨A0,hu_,z0⟩=>?_
 subst hu_
 obtain ⟨x0,y0⟩:=c0.agr F0
 refine Bz [5,6] (rk b0) ⟨?_,?_,trivial⟩
 refine RO.call (m' :=191) (fst:=[]) (cap:=[]) (sk b0) I .plain (bd 142) I (e1 I) (fun w9 hw9=>aq_c n (x0.hL hL hw9) a0.fD C0) I fun E0 D0 t0 ⟨s0,hu_,q0⟩=>?_
 subst hu_
 obtain ⟨p0,j0⟩:=x0.agr t0
 refine BS 6 255 b0 I .plain I (Az [.bool false,vN] p0) fun I0 v0 d0 k0=>?_
 obtain ⟨p2,A1⟩:=AK d0 (.a1 (.a0 .done))
 have K1:=Tt j0 (Tt k0 A1)
 exact B0 (A0,s0,u0,v0) p2 (Tt g0 (Tt y0 K1)) ⟨(Ao z0 K1),(Ao q0 (Tt k0 A1))⟩
 refine BH (m' :=223) (sk b0) I .plain I (Az [.bool false,vN] x0) fun I0 v0 d0 k0=>Bs 5 255 b0 I .plain (bd 142) I (e1 I) (fun w9 hw9=>aq_c n (d0.hL hL hw9) a0.fD C0) I fun E0 D0 t0 ⟨s0,hu_,q0⟩=>?_
 subst hu_
 obtain ⟨p0,j0⟩:=d0.agr t0
 obtain ⟨q2,B1⟩:=AK p0 (.a1 (.a0 .done))
 have M1:=Tt k0 (Tt j0 B1)
 exact B0 (A0,s0,u0,v0) q2 (Tt g0 (Tt y0 M1)) ⟨(Ao z0 M1),(Ao q0 B1)⟩
 refine BH (m' :=219) (sk b0) I .plain I (Az [.bool false,vN] c0) fun I0 v0 d0 k0=>Bs 2 223 b0 I .plain (bd 142) I (e1 I) (fun w9 hw9=>aq_c n (d0.hL hL hw9) a0.fN U0) I fun X0 W0 F0 ⟨A0,hu_,z0⟩=>?_
 subst hu_
 obtain ⟨x0,y0⟩:=d0.agr F0
 refine Bs 5 255 b0 I .plain (bd 142) I (e1 I) (fun w9 hw9=>aq_c n (x0.hL hL hw9) a0.fD C0) I fun E0 D0 t0 ⟨s0,hu_,q0⟩=>?_
 subst hu_
 obtain ⟨p0,j0⟩:=x0.agr t0
 obtain ⟨s2,d1⟩:=AK p0 (.a1 (.a0 .done))
 exact B0 (A0,s0,u0,v0) s2 (Tt g0 (Tt k0 (Tt y0 (Tt j0 d1)))) ⟨(Ao z0 (Tt j0 d1)),(Ao q0 d1)⟩
def aF_p (n:Nat) (a0:Ta):Oa Th:=
  (aq_p n a0.fN).bind fun b0=>(aq_p n a0.fD).bind fun c0=>some (⟨b0,c0⟩:Th)
theorem aF_c (n:Nat) {L w} (hL:hl L w) (a0:Ta)  {r:Th} (h:aF_p n a0 = some r) :
 Cl 105 #[.agg ((ab a0)).toArray] w (ae w fun w' u=>∃ v0_1 v0_3:Vc,u = .agg #[.bool r.fN.fe,v0_1,.bool r.fD.fe,v0_3]/\Rep.R w' L [v0_1] r.fN.fD/\Rep.R w' L [v0_3] r.fD.fD):=by
 unfold aF_p at h
 refine AF func105 I I I fun _ cs0 hb0=>Af<|RG.bx (AA w) I I fun X0 J0 z0 Q0=>RG.nl [.bool false,vN,.bool false,vN] z0 fun Y0 K0 j0 R0=>Aa<|Aj<|du 7 fun b0 c0=>Rv 0 b0 I c0 (fun _=>Bi 0 I)<|Rx 1 228 b0 I c0 (Bk (cs:=(ao a0.fN)) I I (ah (j0.memA .t1) 0 8))<|Rv 3 b0 I c0 (fun _=>Bi 8 I)<|Rx 4 224 b0 I c0 (Bk (cs:=(ao a0.fD)) I I (ah (j0.memA .t1) 8 8))<|bk h fun p0 F0 h=>Bs 2 31 b0 I .plain (bd 142) I (e1 I) (fun w9 hw9=>aq_c n (j0.hL hL hw9) a0.fN F0) I fun Z0 V0 B0 ⟨d0,hu_,y0⟩=>?_
 subst hu_
 obtain ⟨t0,U0⟩:=j0.agr B0
 refine bk h fun q0 G0 h=>Bs 5 63 b0 I .plain (bd 142) I (e1 I) (fun w9 hw9=>aq_c n (t0.hL hL hw9) a0.fD G0) I fun b1 W0 C0 ⟨g0,hu_,s0⟩=>?_
 subst hu_
 obtain ⟨A0,u0⟩:=t0.agr C0
 have x0:=Ao y0 u0
 obtain ⟨H0,M0,D0,_⟩:=BR x0
 obtain ⟨I0,P0,E0,_⟩:=BR s0
 refine Rv 6 b0 I c0 (fun _=>AS (vs:=[.agg #[.bool p0.fe,d0],.agg #[.bool q0.fe,g0]]) (u:=.agg #[.bool p0.fe,d0,.bool q0.fe,g0]) (e2 I I) (fun w9=>by rw [D0,E0]; try kernel_rfl))<|BG 7 255 b0 I I .plain (AE (news:=[.bool p0.fe,d0,.bool q0.fe,g0]) A0 .hd I I I I I I (o4 I (AY x0) I (AY s0))) fun c1 k0 v0=>AN (dk b0)<|Am I<|Au hb0 func105 I (.cons (.many (cs:=[.bool p0.fe,d0,.bool q0.fe,g0]) I I (k0.memA .hd)) .nil) I ?_
 cases h
 exact ⟨k0.ag,fun w9 hw9=>⟨d0,g0,I,k0.kd (Ao y0 (Tt u0 v0)) hw9,k0.kd (Ao s0 v0) hw9⟩⟩
def ax_l1 (_n:Nat) (a1:List Int) (c0:Nat) (a0:List Int) (q0:Ua × Nat × (List Int) -> Oa ((List Int) × Ua)):Ua × Nat × (List Int) -> Oa ((List Int) × Ua)
  | (d0,b0,g0)=>(if b0 < a1.length then (g0[c0 + b0]?).bind fun j0=>(a0[c0]?).bind fun k0=>(a1[b0]?).bind fun p0=>(put g0 ((c0 + b0:Nat):Int) (aB (((d0 + (ac j0)) + ((ac k0) * (ac p0))) % (4294967296:Ua)))).bind fun s0=>q0 (((d0 + (ac j0)) + ((ac k0) * (ac p0))) / (4294967296:Ua),b0 + 1,s0) else some (g0,d0))
def ax_l2 (n:Nat) (a0:List Int) (a1:List Int) (g0:Nat × (List Int) -> Oa (List Int)):Nat × (List Int) -> Oa (List Int)
  | (b0,c0)=>(if b0 < a0.length then Option.bind (aj (ax_l1 n a1 b0 a0) n (0,0,c0)) (fun (d0,j0)=>(d0[b0 + a1.length]?).bind fun _x537=>(put d0 ((b0 + a1.length:Nat):Int) (aB j0)).bind fun k0=>g0 (b0 + 1,k0)) else some c0)
def ax_p (n:Nat) (a0:List Int) (a1:List Int):Oa (List Int):=
  (mk ((a0.length + a1.length:Nat):Int) (0:Int)).bind fun b0=>Option.bind (aj (ax_l2 n a0 a1) n (0,b0)) (fun c0=>(az_p n c0).bind fun d0=>some d0)
theorem ax_c (n:Nat) {L w} (hL:hl L w) {a0:List Int} {v0_0:Vc} (h0_0:Rep.R w L [v0_0] a0) {a1:List Int} {v1_0:Vc} (h1_0:Rep.R w L [v1_0] a1)  {r:List Int} (h:ax_p n a0 a1 = some r) :
 Cl 180 #[v0_0,v1_0] w (ae w fun w' u=>∃ v0_0:Vc,u = v0_0/\Rep.R w' L [v0_0] r):=by
 unfold ax_p at h
 refine AF func180 I I I fun _ cs0 hb0=>Af<|Ag I<|Aa<|Af<|Ae I ?_
 have hl1:=AU h0_0
 refine Ac (Ba (xs:=a0) underlying38 I h0_0)<|Ae I ?_
 have hl2:=AU h1_0
 refine Ac (Ba (xs:=a1) underlying38 I h1_0)<|Ac (Bl (i:=a0.length) (j:=a1.length) I I (by omega))<|bk h fun V0 Q0 h=>Al .plain I (Does.mk (α:=Int) Q0 (AA w) ay I) fun V2 x0 G0 J2=>Ag I<|Aa<|Aj<|Af<|Ag I<|Aa<|Ax ?_
 obtain ⟨Q2,W1,K1⟩:=aq h
 refine MX.lf (α:=Nat × (List Int) × (List Vc)) (fun ⟨d0,k0,p0⟩=>[(0,v0_0),(1,v1_0),(5,(.slice (some ⟨x0,0,none⟩) ((a0.length + a1.length:Nat):Int).toNat ((a0.length + a1.length:Nat):Int).toNat)),(6,vn d0)]) (fun ⟨d0,k0,p0⟩=>[rr w 3 Int (.slice (some ⟨x0,0,none⟩) ((a0.length + a1.length:Nat):Int).toNat ((a0.length + a1.length:Nat):Int).toNat) k0.length p0]) (fun ⟨d0,k0,p0⟩ R0=>Cells R0 (bl [rr w 3 Int (.slice (some ⟨x0,0,none⟩) ((a0.length + a1.length:Nat):Int).toNat ((a0.length + a1.length:Nat):Int).toNat) k0.length p0] ++ L) p0 k0) (fun ⟨d0,k0,p0⟩=>(d0,k0)) (0,V0,(List.replicate ((a0.length + a1.length:Nat):Int).toNat [vI 0]).flatten) W1 G0 (AD (cs:=(List.replicate ((a0.length + a1.length:Nat):Int).toNat [vI 0]).flatten) (xs:=V0) G0 L (BY Q0 I)) ?_
 rintro B2 ⟨d0,k0,p0⟩ R0 s1 z0 y1 J0 h
 unfold ax_l2 at h
 try dsimp only at h
 refine Aj<|Af<|Ae I<|Ae I<|Ac (Ba (xs:=a0) underlying38 I (AT h0_0 z0))<|Ac (Bp (i:=d0) (j:=a0.length) I I)<|Aa<|AQ I h (fun b1 h=>?_) (fun b1 h=>?_)
 refine Ar<|Aj<|Ax<|Af<|Ag I<|Aa<|Aj<|Af<|Ag I<|Aa<|Ax ?_
 obtain ⟨R2,X1,M1⟩:=aq h
 refine MX.lf (α:=Ua × Nat × (List Int) × (List Vc)) (fun ⟨j0,g0,v0,y0⟩=>[(0,v0_0),(1,v1_0),(5,(.slice (some ⟨x0,0,none⟩) ((a0.length + a1.length:Nat):Int).toNat ((a0.length + a1.length:Nat):Int).toNat)),(6,vn d0),(7,vU j0),(8,vn g0)]) (fun ⟨j0,g0,v0,y0⟩=>[rr w 3 Int (.slice (some ⟨x0,0,none⟩) ((a0.length + a1.length:Nat):Int).toNat ((a0.length + a1.length:Nat):Int).toNat) v0.length y0]) (fun ⟨j0,g0,v0,y0⟩ U0=>Cells U0 (bl [rr w 3 Int (.slice (some ⟨x0,0,none⟩) ((a0.length + a1.length:Nat):Int).toNat ((a0.length + a1.length:Nat):Int).toNat) v0.length y0] ++ L) y0 v0) (fun ⟨j0,g0,v0,y0⟩=>(j0,g0,v0)) (0,0,k0,p0) X1 z0 J0 ?_
 rintro C2 ⟨j0,g0,v0,y0⟩ U0 u1 q0 I0 A0 h
 unfold ax_l1 at h
 try dsimp only at h
 refine Aj<|Af<|Ae I<|Ae I ?_
 have F0:=AT h1_0 q0
 refine Ac (Ba (xs:=a1) underlying38 I F0)<|Ac (Bp (i:=g0) (j:=a1.length) I I)<|Aa<|AQ I h (fun c1 h=>?_) (fun c1 h=>?_)
 refine Ar<|Aj<|Ax<|Aj<|du 22 fun b0 c0=>Rv 0 b0 I c0 (fun _=>Ai I)<|Rv 1 b0 I c0 (fun _=>Ai I)<|Rv 2 b0 I c0 (fun _=>Ai I)<|Rv 3 b0 I c0 (fun _=>Ai I)<|Rv 4 b0 I c0 (fun _=>Bl (i:=d0) (j:=g0) I I (by omega))<|bk h fun s0 g2 h=>?_
 obtain ⟨W0,D2,B0,E0,d1,Y1,R1⟩:=BU (α:=Int) q0 .hd A0 g2
 obtain ⟨Y0,E2,K0⟩:=By (α:=Int) q0 .hd E0
 obtain rfl:W0 = ⟨Y0,0,none⟩:=by rw [K0] at B0; cases B0; rfl
 have E1:d1 = [vI s0]:=Y1; subst E1
 refine Rv 5 b0 I c0 (fun _=>Bb 1 (d0 + g0) I B0 I I E0)<|Rx 6 3146112 b0 I c0 (AP I (R1 0 _ I))<|Rv 7 b0 I c0 (fun _=>FV.convU (i:=s0) underlying3 underlying44 I)<|Rv 8 b0 I c0 (fun _=>FV.addU (a:=j0) (b:=ac s0) I I)<|Rv 9 b0 I c0 (fun _=>Ai I)<|Rv 10 b0 I c0 (fun _=>Ai I)<|bk h fun t0 j2 h=>?_
 obtain ⟨z2,F2,F1,P1,g1,Z1,U1⟩:=Bh (AT h0_0 q0) j2
 have G1:g1 = [vI t0]:=Z1; subst G1
 refine Rv 11 b0 I c0 (fun _=>Bb 1 d0 I F1 I I P1)<|Rx 12 3678208 b0 I c0 (AP I (U1 0 _ I))<|Rv 13 b0 I c0 (fun _=>FV.convU (i:=t0) underlying3 underlying44 I)<|Rv 14 b0 I c0 (fun _=>Ai I)<|Rv 15 b0 I c0 (fun _=>Ai I)<|bk h fun u0 k2 h=>?_
 obtain ⟨A2,G2,H1,Q1,j1,b2,V1⟩:=Bh F0 k2
 have I1:j1 = [vI u0]:=b2; subst I1
 refine Rv 16 b0 I c0 (fun _=>Bb 1 g0 I H1 I I Q1)<|Rx 17 3932160 b0 I c0 (AP I (V1 0 _ I))<|Rv 18 b0 I c0 (fun _=>FV.convU (i:=u0) underlying3 underlying44 I)<|Rv 19 b0 I c0 (fun _=>FV.mulU (a:=ac t0) (b:=ac u0) I I)<|Rv 20 b0 I c0 (fun _=>FV.addU (a:=j0 + (ac s0)) (b:=(ac t0) * (ac u0)) I I)<|Rv 21 b0 I c0 (fun _=>Be I)<|AN (dk b0)<|Af<|Ae I<|Ae I<|Ae I<|Ac (Bl (i:=d0) (j:=g0) I I (by omega))<|Ae I<|Ac (FV.remU (a:=(j0 + (ac s0)) + ((ac t0) * (ac u0))) (b:=(4294967296:Ua)) I I (by decide))<|Ac (FV.convUI (a:=((j0 + (ac s0)) + ((ac t0) * (ac u0))) % (4294967296:Ua)) underlying44 underlying3 I)<|Ac (Bb 1 (d0 + g0) I B0 I I E0)<|bk h fun x2 q2 h=>RG.acts' .plain (Cb (α:=Int) (i:=d0 + g0) q2 q0 K0 (fun _=>.hd) A0 I I I I I I) fun W2 ⟨k1,v1,z1,C1⟩=>Aa<|Ap<|Ae I<|Ac (FV.quoU (a:=(j0 + (ac s0)) + ((ac t0) * (ac u0))) (b:=(4294967296:Ua)) I I (by decide))<|Ag I<|Aa<|AC<|Ap<|Ae I<|Ac (Bl (i:=g0) (j:=1) I I (by omega))<|Ag I<|Aa<|u1 (((j0 + (ac s0)) + ((ac t0) * (ac u0))) / (4294967296:Ua),g0 + 1,x2,k1) v1 (Tt I0 z1) C1 h
 refine AX I ?_
 have h:=M1 _ h
 try dsimp only at h
 refine Ap<|Ae I<|Ae I<|Ae I<|Ac (Ba (xs:=a1) underlying38 I F0)<|Ac (Bl (i:=d0) (j:=a1.length) I I (by omega))<|Ae I<|Ac (FV.convUI (a:=j0) underlying44 underlying3 I)<|bk h fun v2 p2 h=>?_
 obtain ⟨X0,H2,D0,P0,p1,c2,P2⟩:=BU (α:=Int) q0 .hd A0 p2
 obtain ⟨Z0,I2,M0⟩:=By (α:=Int) q0 .hd P0
 obtain rfl:X0 = ⟨Z0,0,none⟩:=by rw [M0] at D0; cases D0; rfl
 have J1:p1 = [vI v2]:=c2; subst J1
 refine Ac (Bb 1 (d0 + a1.length) I D0 I I P0)<|bk h fun y2 s2 h=>RG.acts' .plain (Cb (α:=Int) (i:=d0 + a1.length) s2 q0 M0 (fun _=>.hd) A0 I I I I I I) fun X2 ⟨q1,x1,A1,D1⟩=>Aa<|AC<|Ap<|Ae I<|Ac (Bl (i:=d0) (j:=1) I I (by omega))<|Ag I<|Aa<|s1 (d0 + 1,y2,q1) x1 (Tt y1 (Tt I0 A1)) D1 h
 refine AX I ?_
 have h:=K1 _ h
 try dsimp only at h
 refine Af<|Ae I ?_
 have C0:=BA z0 .hd
 have K2:=BB z0 .hd
 refine bk h fun Z2 t2 h=>jE (bd 178) I (e1 I) (fun w9 hw9=>az_c n (C0.hL hL hw9) (Aw (BC (α:=Int) (v:=(.slice (some ⟨x0,0,none⟩) ((a0.length + a1.length:Nat):Int).toNat ((a0.length + a1.length:Nat):Int).toNat)) (xs:=k0) C0 L (Bg (α:=Int) z0 .hd J0 hL)) hw9) t2) I fun Y2 u2 B1 ⟨U2,hu_,d2⟩=>?_
 subst hu_
 obtain ⟨H0,M2⟩:=C0.agr B1
 refine Ag I<|Aa<|Am I<|AW hb0 func180 I I ?_
 cases h
 exact ⟨H0.ag,fun w9 hw9=>⟨u2,I,H0.kd d2 hw9⟩⟩
def aC_p (n:Nat) (a0:Tf) (a1:Tf):Oa Tf:=
  (ax_p n a0.fD a1.fD).bind fun b0=>(aa_p n (!(a0.fe == a1.fe)) b0).bind fun c0=>some c0
theorem aC_c (n:Nat) {L w} (hL:hl L w) (a0:Tf) {v0_1:Vc} (h0_1:Rep.R w L [v0_1] a0.fD) (a1:Tf) {v1_1:Vc} (h1_1:Rep.R w L [v1_1] a1.fD)  {r:Tf} (h:aC_p n a0 a1 = some r) :
 Cl 146 #[.agg #[.bool a0.fe,v0_1],.agg #[.bool a1.fe,v1_1]] w (ae w fun w' u=>∃ v0_1:Vc,u = .agg #[.bool r.fe,v0_1]/\Rep.R w' L [v0_1] r.fD):=by
 unfold aC_p at h
 refine AF func146 I I I fun _ cs0 hb0=>Af<|RG.bx (AA w) I I fun Q0 C0 s0 F0=>RG.bx s0 I I fun R0 D0 t0 G0=>RG.nl [.bool false,vN] t0 fun U0 E0 d0 H0=>Aa<|Aj<|du 11 fun b0 c0=>Rv 0 b0 I c0 (fun _=>Bi 0 I)<|Rx 1 3088 b0 I c0 (AP I ((d0.memA .t2) 0 _ I))<|Rv 2 b0 I c0 (fun _=>Bi 0 I)<|Rx 3 3088 b0 I c0 (AP I ((d0.memA .t1) 0 _ I))<|Rv 4 b0 I c0 (fun _=>FV.neqB (a:=a0.fe) (b:=a1.fe) underlying4 I I)<|Rv 5 b0 I c0 (fun _=>Bi 1 I)<|Rx 6 3584 b0 I c0 (AP I ((d0.memA .t2) 1 _ I))<|Rv 7 b0 I c0 (fun _=>Bi 1 I)<|Rx 8 3584 b0 I c0 (AP I ((d0.memA .t1) 1 _ I))<|bk h fun Y0 A0 h=>Bs 9 1023 b0 I .plain (bd 180) I (e2 I I) (fun w9 hw9=>ax_c n (d0.hL hL hw9) (d0.km h0_1 hw9) (d0.km h1_1 hw9) A0) I fun V0 M0 x0 ⟨K0,hu_,z0⟩=>?_
 subst hu_
 obtain ⟨k0,I0⟩:=d0.agr x0
 refine bk h fun q0 B0 h=>Bs 10 2047 b0 I .plain (bd 169) I (e2 I I) (fun w9 hw9=>aa_c n (k0.hL hL hw9) (Aw z0 hw9) B0) I fun W0 P0 y0 ⟨j0,hu_,p0⟩=>?_
 subst hu_
 obtain ⟨u0,J0⟩:=k0.agr y0
 refine BG 11 4095 b0 I I .plain (AE (news:=[.bool q0.fe,j0]) u0 .hd I I I I I I (o2 I (AY p0))) fun X0 g0 v0=>AN (dk b0)<|Am I<|Au hb0 func146 I (.cons (.many (cs:=[.bool q0.fe,j0]) I I (g0.memA .hd)) .nil) I ?_
 cases h
 exact ⟨g0.ag,fun w9 hw9=>⟨j0,I,g0.kd (Ao p0 v0) hw9⟩⟩
def cy_p (n:Nat) (a0:Tf) (a1:Tf):Oa Int:=
  (cg_p n a0 a1).bind fun b0=>(if b0.fe = true then some (-1:Int) else (if 0 < b0.fD.length then some (1:Int) else some (0:Int)))
theorem cy_c (n:Nat) {L w} (hL:hl L w) (a0:Tf) {v0_1:Vc} (h0_1:Rep.R w L [v0_1] a0.fD) (a1:Tf) {v1_1:Vc} (h1_1:Rep.R w L [v1_1] a1.fD)  {r:Int} (h:cy_p n a0 a1 = some r) :
 Cl 152 #[.agg #[.bool a0.fe,v0_1],.agg #[.bool a1.fe,v1_1]] w (ae w fun _ u=>u = vI r):=by
 unfold cy_p at h
 refine AF func152 I I I fun _ cs0 hb0=>Af<|RG.bx (AA w) I I fun I0 A0 s0 D0=>RG.bx s0 I I fun J0 B0 b0 E0=>Ag I<|Aa<|Af<|Ac (AH I (b0.memA .t1))<|Ac (AH I (b0.memA .hd))<|bk h fun d0 y0 h=>jE (bd 184) I (e2 I I) (fun w9 hw9=>cg_c n (b0.hL hL hw9) a0 (b0.km h0_1 hw9) a1 (b0.km h1_1 hw9) y0) I fun K0 H0 x0 ⟨z0,hu_,k0⟩=>?_
 subst hu_
 obtain ⟨t0,F0⟩:=b0.agr x0
 refine RG.nl [.bool false,vN] t0 fun M0 C0 u0 g0=>AV [.bool d0.fe,z0] u0 .hd (o2 I (AY (Ao k0 g0))) fun P0 c0 v0=>Aa<|Aj<|Af<|Bd 0 I<|AR I ((c0.memA .hd) 0 _ I)<|Aa<|MX.ifb I h (fun p0 h=>?_) (fun p0 h=>?_)
 refine Af<|Ag I<|Aa<|Am I<|AW hb0 func152 I I ?_
 cases h
 exact c0.gv
 refine Ar<|Aj<|Af<|Bd 1 I<|AR I ((c0.memA .hd) 1 _ I) ?_
 have j0:=Ao k0 (Tt g0 v0)
 have G0:=AU j0
 refine Ac (Ba (xs:=d0.fD) underlying38 I j0)<|Ac (FV.gtrN (i:=d0.fD.length) (j:=0) I I)<|Aa<|AQ I h (fun q0 h=>?_) (fun q0 h=>?_)
 refine Af<|Ag I<|Aa<|Am I<|AW hb0 func152 I I ?_
 cases h
 exact c0.gv
 refine Ar<|Af<|Ag I<|Aa<|Am I<|AW hb0 func152 I I ?_
 cases h
 exact c0.gv
def cT_p (n:Nat) (a0:Th) (a1:Th):Oa Int:=
  (aC_p n a0.fN a1.fD).bind fun b0=>(aC_p n a1.fN a0.fD).bind fun c0=>(cy_p n b0 c0).bind fun d0=>some d0
theorem cT_c (n:Nat) {L w} (hL:hl L w) (a0:Th) {v0_1:Vc} (h0_1:Rep.R w L [v0_1] a0.fN.fD) {v0_3:Vc} (h0_3:Rep.R w L [v0_3] a0.fD.fD) (a1:Th) {v1_1:Vc} (h1_1:Rep.R w L [v1_1] a1.fN.fD) {v1_3:Vc} (h1_3:Rep.R w L [v1_3] a1.fD.fD)  {r:Int} (h:cT_p n a0 a1 = some r) :
 Cl 112 #[.agg #[.bool a0.fN.fe,v0_1,.bool a0.fD.fe,v0_3],.agg #[.bool a1.fN.fe,v1_1,.bool a1.fD.fe,v1_3]] w (ae w fun _ u=>u = vI r):=by
 unfold cT_p at h
 refine AF func112 I I I fun _ cs0 hb0=>Af<|RG.bx (AA w) I I fun M0 C0 k0 E0=>RG.bx k0 I I fun P0 D0 d0 F0=>Ag I<|Aa<|Aj<|du 12 fun b0 c0=>Rv 0 b0 I c0 (fun _=>Bi 0 I)<|Rx 1 3600 b0 I c0 (Bk (cs:=[.bool a0.fN.fe,v0_1]) I I (ah (d0.memA .t1) 0 2))<|Rv 2 b0 I c0 (fun _=>Bi 2 I)<|Rx 3 3600 b0 I c0 (Bk (cs:=[.bool a1.fD.fe,v1_3]) I I (ah (d0.memA .hd) 2 2))<|Rv 5 b0 I c0 (fun _=>Bi 0 I)<|Rx 6 3584 b0 I c0 (Bk (cs:=[.bool a1.fN.fe,v1_1]) I I (ah (d0.memA .hd) 0 2))<|Rv 7 b0 I c0 (fun _=>Bi 2 I)<|Rx 8 3584 b0 I c0 (Bk (cs:=[.bool a0.fD.fe,v0_3]) I I (ah (d0.memA .t1) 2 2))<|bk h fun z0 v0 h=>Bs 4 511 b0 I .plain (bd 146) I (e2 I I) (fun w9 hw9=>aC_c n (d0.hL hL hw9) a0.fN (d0.km h0_1 hw9) a1.fD (d0.km h1_3 hw9) v0) I fun Q0 J0 q0 ⟨H0,hu_,t0⟩=>?_
 subst hu_
 obtain ⟨g0,G0⟩:=d0.agr q0
 refine bk h fun A0 x0 h=>Bs 9 1023 b0 I .plain (bd 146) I (e2 I I) (fun w9 hw9=>aC_c n (g0.hL hL hw9) a1.fN (g0.km h1_1 hw9) a0.fD (g0.km h0_3 hw9) x0) I fun R0 K0 s0 ⟨I0,hu_,u0⟩=>?_
 subst hu_
 obtain ⟨j0,p0⟩:=g0.agr s0
 refine bk h fun B0 y0 h=>BV 10 2047 2048 (vI B0) b0 I c0 (bd 152) I (e2 I I) (fun w9 hw9=>cy_c n (j0.hL0 hL hw9) z0 (j0.kd (Ao t0 p0) hw9) A0 (j0.kd u0 hw9) y0) I<|Rv 11 b0 I c0 (fun _=>Be I)<|AN (dk b0)<|Am I<|AW hb0 func112 I I ?_
 cases h
 exact j0.gv
def cM_p (n:Nat) (a0:Ta) (a1:Ta):Oa (Int × Int):=
  (ar_p n a0).bind fun b0=>(if b0 = true then (ar_p n a1).bind fun c0=>(if c0 = true then (aF_p n a0).bind fun d0=>(aF_p n a1).bind fun g0=>(cT_p n d0 g0).bind fun j0=>some (j0,(0:Int)) else some ((0:Int),(20:Int))) else some ((0:Int),(20:Int)))
theorem cM_c (n:Nat) {L w} (hL:hl L w) (a0:Ta) (a1:Ta)  {r:Int × Int} (h:cM_p n a0 a1 = some r) :
 Cl 82 #[.agg ((ab a0)).toArray,.agg ((ab a1)).toArray] w (ae w fun _ u=>u = .tuple #[vI r.1,vI r.2]):=by
 unfold cM_p at h
 refine AF func82 I I I fun _ cs0 hb0=>Af<|RG.bx (AA w) I I fun b1 K0 s0 P0=>RG.bx s0 I I fun c1 M0 b0 Q0=>Ag I<|Ag I<|Aa<|Aj<|Af<|Ac (AH I (b0.memA .t1))<|bk h fun F0 A0 h=>Bj (.bool F0) (bd 103) I (e1 I) (fun w9 hw9=>ar_c n (b0.hL0 hL hw9) a0 A0) I<|Ac (Bu I)<|Ae I<|RG.ifnb (s:=9) I h (fun p0 h=>?_) (fun p0 h=>?_)
 refine AG (AH I (b0.memA .hd))<|bk h fun G0 B0 h=>RG.callq' (v:=.bool G0) (fst:=[]) (cap:=[]) (.yes I I) (bd 103) I (e1 I) (fun w9 hw9=>ar_c n (b0.hL0 hL hw9) a1 B0) I<|AG (Bu I)<|Bv I I<|Aa<|MX.ifnb I h (fun q0 h=>?_) (fun q0 h=>?_)
 refine Ar<|Aj<|du 7 fun c0 g0=>Rx 0 122 c0 I g0 (AH I (b0.memA .t1))<|Rx 2 120 c0 I g0 (AH I (b0.memA .hd))<|bk h fun H0 C0 h=>Bs 1 7 c0 I .plain (bd 105) I (e1 I) (fun w9 hw9=>aF_c n (b0.hL hL hw9) a0 C0) I fun d1 Y0 t0 ⟨U0,V0,hu_,v0,x0⟩=>?_
 subst hu_
 obtain ⟨j0,R0⟩:=b0.agr t0
 refine bk h fun I0 D0 h=>Bs 3 15 c0 I .plain (bd 105) I (e1 I) (fun w9 hw9=>aF_c n (j0.hL hL hw9) a1 D0) I fun g1 Z0 u0 ⟨W0,X0,hu_,y0,z0⟩=>?_
 subst hu_
 obtain ⟨d0,k0⟩:=j0.agr u0
 refine bk h fun J0 E0 h=>BV 4 31 96 (vI J0) c0 I g0 (bd 112) I (e2 I I) (fun w9 hw9=>cT_c n (d0.hL0 hL hw9) H0 (d0.kd (Ao v0 k0) hw9) (d0.kd (Ao x0 k0) hw9) I0 (d0.kd y0 hw9) (d0.kd z0 hw9) E0) I<|Rv 5 c0 I g0 (fun _=>Be I)<|Rv 6 c0 I g0 (fun _=>Be I)<|AN (dk c0)<|Am I<|Au hb0 func82 I (.cons (.tmp I) (.cons (.tmp I) .nil)) I ?_
 cases h
 exact d0.gv
 refine Af<|Ag I<|Ag I<|Aa<|Am I<|Au hb0 func82 I (.cons (.tmp I) (.cons (.tmp I) .nil)) I ?_
 cases h
 exact b0.gv
 refine Aq<|Aq<|Aq<|Bn I I<|Aa<|Bq I<|Af<|Ag I<|Ag I<|Aa<|Am I<|Au hb0 func82 I (.cons (.tmp I) (.cons (.tmp I) .nil)) I ?_
 cases h
 exact b0.gv
def co_p (n:Nat) (a0:Ta) (a1:Ta):Oa Int:=
  (cM_p n a0 a1).bind fun b0=>some b0.1
theorem co_c (n:Nat) {L w} (hL:hl L w) (a0:Ta) (a1:Ta)  {r:Int} (h:co_p n a0 a1 = some r) :
 Cl 50 #[.agg ((ab a0)).toArray,.agg ((ab a1)).toArray] w (ae w fun _ u=>u = vI r):=by
 unfold co_p at h
 refine AF func50 I I I fun _ cs0 hb0=>Af<|RG.bx (AA w) I I fun s0 j0 d0 p0=>RG.bx d0 I I fun t0 k0 b0 q0=>Ag I<|Aa<|Af<|Ac (AH I (b0.memA .t1))<|Ac (AH I (b0.memA .hd))<|bk h fun c0 g0 h=>Bj (.tuple #[vI c0.1,vI c0.2]) (bd 82) I (e2 I I) (fun w9 hw9=>cM_c n (b0.hL0 hL hw9) a0 a1 g0) I<|Ae I<|Ac (Ak I I)<|Ac (Ak I I)<|Ag I<|Ag I<|Aa<|Af<|Ae I<|Ag I<|Aa<|Am I<|AW hb0 func50 I I ?_
 cases h
 exact b0.gv
def ae_l1 (n:Nat) (c0:List Ta) (j0:Ta) (d0:Nat -> Oa Nat):Nat -> Oa Nat
  | b0=>(if b0 < c0.length then (c0[b0]?).bind fun g0=>(co_p n g0 j0).bind fun k0=>(if k0 < 0 then d0 (b0 + 1) else some b0) else some b0)
def ae_l2 (n:Nat) (a0:List (Int × Int)) (k0:Nat × (List Ta) -> Oa (List Ta)):Nat × (List Ta) -> Oa (List Ta)
  | (c0,b0)=>(if c0 < a0.length then (a0[c0]?).bind fun d0=>(chk (d0.1 + d0.2)).bind fun q0=>(aI_p n d0.1 q0).bind fun j0=>jn (fun g0=>(cut b0 0 ((g0:Nat):Int)).bind fun s0=>(cut b0 ((g0:Nat):Int) (b0.length:Int)).bind fun t0=>(app ([]:List Ta) s0).bind fun u0=>(app u0 ([j0]:List Ta)).bind fun v0=>(app v0 t0).bind fun x0=>k0 (c0 + 1,x0)) (fun p0=>Option.bind (aj (ae_l1 n b0 j0) n 0) (p0)) else some b0)
def ae_p (n:Nat) (a0:List (Int × Int)):Oa (List Ta):=
  Option.bind (aj (ae_l2 n a0) n (0,([]:List Ta))) (fun b0=>some b0)
theorem ae_c (n:Nat) {L w} (hL:hl L w) {a0:List (Int × Int)} {v0_0:Vc} (h0_0:Rep.R w L [v0_0] a0)  {r:List Ta} (h:ae_p n a0 = some r) :
 Cl 39 #[v0_0] w (ae w fun w' u=>∃ v0_0:Vc,u = v0_0/\Rep.R w' L [v0_0] r):=by
 unfold ae_p at h
 have hS0:=AA w
 refine AF func39 I I I fun _ cs0 hb0=>Af<|Ag I<|Aa<|Af<|Ag I<|Aa<|Aj<|Af<|Ag I<|Aa<|Ax ?_
 have R1:=hS0.nilRow 48 (Rep.size Ta)
 have X3:=BW hS0 48 (Rep.size Ta)
 obtain ⟨c4,d3,Y2⟩:=aq h
 refine MX.lf (α:=Nat × (List Ta) × Vc × (List Vc)) (fun ⟨q0,v0,u0,D0⟩=>[(0,v0_0),(3,u0),(4,vn q0)]) (fun ⟨q0,v0,u0,D0⟩=>[rr w 48 Ta u0 v0.length D0]) (fun ⟨q0,v0,u0,D0⟩ s2=>Cells s2 (bl [rr w 48 Ta u0 v0.length D0] ++ L) D0 v0) (fun ⟨q0,v0,u0,D0⟩=>(q0,v0)) (0,([]:List Ta),vN,[]) d3 R1 (AD (cs:=[]) (xs:=([]:List Ta)) R1 L (AJ _ _)) ?_
 rintro K3 ⟨q0,v0,u0,D0⟩ s2 A2 R0 P2 d2 h
 unfold ae_l2 at h
 try dsimp only at h
 refine Aj<|Af<|Ae I<|Ae I ?_
 have G1:=AT h0_0 R0
 have Z3:=AU G1
 refine Ac (Ba (xs:=a0) underlying81 I G1)<|Ac (Bp (i:=q0) (j:=a0.length) I I)<|Aa<|AQ I h (fun v2 h=>?_) (fun v2 h=>?_)
 refine Ar<|Aj<|Ax<|Aj<|du 18 fun d0 k0=>Rv 0 d0 I k0 (fun _=>Ai I)<|Rv 1 d0 I k0 (fun _=>Ai I)<|bk h fun t2 t3 h=>?_
 obtain ⟨I3,Q3,E1,F1,U3,j3,H1⟩:=Bh G1 t3
 obtain rfl:=fO j3
 refine Rv 2 d0 I k0 (fun _=>Bb 2 q0 I E1 I I F1)<|Rv 3 d0 I k0 (fun _=>AO (m:=1) (k:=0) (len:=2) I I I I (by omega))<|Rx 4 327680 d0 I k0 (AP I (H1 0 _ I))<|Rv 5 d0 I k0 (fun _=>Ai I)<|Rv 6 d0 I k0 (fun _=>Ai I)<|Rv 7 d0 I k0 (fun _=>Bb 2 q0 I E1 I I F1)<|Rv 8 d0 I k0 (fun _=>AO (m:=1) (k:=0) (len:=2) I I I I (by omega))<|Rx 9 360448 d0 I k0 (AP I (H1 0 _ I))<|Rv 10 d0 I k0 (fun _=>Ai I)<|Rv 11 d0 I k0 (fun _=>Ai I)<|Rv 12 d0 I k0 (fun _=>Bb 2 q0 I E1 I I F1)<|Rv 13 d0 I k0 (fun _=>AO (m:=1) (k:=1) (len:=2) I I I I (by omega))<|Rx 14 360448 d0 I k0 (AP I (H1 1 _ I))<|bk h fun g4 s3 h=>Rv 15 d0 I k0 (fun _=>Bw (i:=t2.1) (j:=t2.2) I I s3)<|bk h fun b0 A3 h=>BV 16 131071 262144 (.agg ((ab b0)).toArray) d0 I k0 (bd 34) I (e2 I I) (fun w9 hw9=>aI_c n (R0.hL0 hL hw9)  A3) I<|BS 17 262143 d0 I .plain I (Az zL R0) fun p4 j1 C2 V1=>BG 18 524287 d0 I I .plain (AE (news:=(ab b0)) C2 .hd I I I I I I (ai I)) fun q4 s1 W1=>AN (dk d0)<|Af<|Ag I<|Aa<|Aj<|Ax ?_
 have u1:=BA s1 .t1
 have p2:=BC (α:=Ta) (v:=u0) (xs:=v0) u1 L (Bg (α:=Ta) s1 .t1 (AB d2 (Tt V1 W1)) hL)
 refine MX.xo (α:=Nat) 2 (fun c1=>[(0,v0_0),(3,u0),(4,vn q0),(5,vP j1),(6,vn c1)]) (fun c1=>[.cells j1 (ab b0) 48]) (fun c1=>c1) u1 I h ?_ ?_
 rintro c1 u4 Y0 X1 h
 try dsimp only at h
 refine du 4 fun c0 J0=>Rv 1 c0 I J0 (fun _=>Ai I)<|Rv 2 c0 I J0 (fun _=>Ai I)<|bk h fun X0 v3 h=>?_
 have j2:=Ao p2 X1
 refine RD.vE 3 14 c0 I J0 .plain (FV.cutP (α:=Ta) v3 I I j2 I ⟨_,rfl⟩) I fun j4 V0=>Rv 8 c0 I J0 (fun _=>Ai I)<|Rv 9 c0 I J0 (fun _=>Ai I)<|bk h fun G3 x3 h=>RD.vE 10 1806 c0 I J0 .plain (FV.cutP (α:=Ta) x3 I I j2 ⟨_,rfl⟩ I) I fun C3 k3=>bk h fun p1 W0 h=>RD.mf (α:=Vc × (List Vc) × Vc × (List Vc)) (fun ⟨M0,F0,P0,G0⟩=>[(0,v0_0),(3,u0),(4,vn q0),(55,C3),(49,P0),(51,M0)]) (fun ⟨M0,F0,P0,G0⟩=>[rr w 48 Ta M0 (([b0]:List Ta).length) F0,rr w 48 Ta P0 p1.length G0]) (fun ⟨M0,F0,P0,G0⟩ M1=>Cells M1 (bl [rr w 48 Ta M0 (([b0]:List Ta).length) F0,rr w 48 Ta P0 p1.length G0] ++ L) F0 (([b0]:List Ta):List Ta)/\Cells M1 (bl [rr w 48 Ta M0 (([b0]:List Ta).length) F0,rr w 48 Ta P0 p1.length G0] ++ L) G0 (p1:List Ta)) Y0 3 1919 ?_ ?_
 rintro ⟨M0,F0,P0,G0⟩ M1 U1 Y1 ⟨R2,U2⟩
 try dsimp only
 refine bk h fun x4 y3 h=>BM (i:=7) (rk c0) (BI (m' :=2047) (sk c0) I I .plain I (Bf (α:=Ta) (ys:=([b0]:List Ta)) y3 U1 (fun _ _=>.t1) bK I I U2 (Src.row (α:=Ta) U1 .hd R2)) (fun k4 s4 ⟨V3,D2,Z1,V2⟩=>?_))
 refine bk h fun H3 z3 h=>BM (i:=11) (rk c0) (BI (m' :=4095) (sk c0) I I .plain I (Bf (α:=Ta) (ys:=G3) z3 D2 (fun _ _=>.t1) bK I I V2 (Ca (Ao k3 (Tt Y1 Z1)))) (fun D3 t4 ⟨z2,E2,Q2,W2⟩=>?_))
 refine Rv 12 c0 I J0 (fun _=>Be I)<|AN (dk c0)<|AC<|Ap<|Ae I<|Ac (Bl (i:=q0) (j:=1) I I (by omega))<|Ag I<|Aa ?_
 obtain ⟨F2,b2⟩:=AK E2 .d1
 exact A2 (q0 + 1,H3,D3,z2) F2 (Tt P2 (Tt V1 (Tt W1 (Tt (BB s1 .t1) (Tt X1 (Tt Y1 (Tt Z1 (Tt Q2 b2)))))))) (AB W2 b2) h
 intro Q0
 refine Bz [0,5] (rk c0) ⟨?_,?_,trivial⟩
 refine BH (m' :=1807) (sk c0) I .plain I (jB Ta Y0 bK) fun q2 P1 x0 t0=>?_
 have U0:=jD Ta x0 L
 refine Bz [4,5] (rk c0) ⟨?_,?_,trivial⟩
 have B0:=Ao V0 t0
 refine BI (m' :=1823) (sk c0) I I .plain I (Bf (α:=Ta) (ys:=X0) W0 x0 (fun _ _=>.hd) bK I I U0 (Ca B0)) fun K0 K1 ⟨E0,C0,H0,I0⟩=>BM (i:=5) (rk c0) (RO.val (m' :=1855) (sk c0) I .plain I (AH I (C0.memA .t1)) ?_)
 refine BS 6 1919 c0 I .plain I (AL (α:=Ta) (xs:=([b0]:List Ta)) (vs:=[.agg ((ab b0)).toArray]) (ds' :=(ab b0)) I C0 bK I (e1 I) (by kernel_rfl) I) fun g1 y0 j0 g0=>?_
 have A0:=AD (cs:=(ab b0)) (xs:=(([b0]:List Ta):List Ta)) j0 L (Av (cs:=(ab b0)) (ds:=[]) (aY b0.fN b0.fD) (AJ _ _))
 obtain ⟨G2,y1⟩:=AK j0 (.a0 (.a0 .done))
 exact Q0 ((vS y0 1),(ab b0),K0,E0) G2 (Tt t0 (Tt H0 (Tt g0 y1))) ⟨(AB A0 y1),(AB I0 (Tt g0 y1))⟩
 refine RO.val (m' :=1839) (sk c0) I .plain I (AH I (x0.memA .t1))<|Bz [4,6] (rk c0) ⟨?_,?_,trivial⟩
 have B0:=Ao V0 t0
 refine BI (m' :=1855) (sk c0) I I .plain I (Bf (α:=Ta) (ys:=X0) W0 x0 (fun _ _=>.hd) bK I I U0 (Ca B0)) fun K0 K1 ⟨E0,C0,H0,I0⟩=>BS 6 1919 c0 I .plain I (AL (α:=Ta) (xs:=([b0]:List Ta)) (vs:=[.agg ((ab b0)).toArray]) (ds' :=(ab b0)) I C0 bK I (e1 I) (by kernel_rfl) I) fun g1 y0 j0 g0=>?_
 have A0:=AD (cs:=(ab b0)) (xs:=(([b0]:List Ta):List Ta)) j0 L (Av (cs:=(ab b0)) (ds:=[]) (aY b0.fN b0.fD) (AJ _ _))
 obtain ⟨H2,z1⟩:=AK j0 (.a0 (.a0 .done))
 exact Q0 ((vS y0 1),(ab b0),K0,E0) H2 (Tt t0 (Tt H0 (Tt g0 z1))) ⟨(AB A0 z1),(AB I0 (Tt g0 z1))⟩
 refine BH (m' :=1903) (sk c0) I .plain I (AL (α:=Ta) (xs:=([b0]:List Ta)) (vs:=[.agg ((ab b0)).toArray]) (ds' :=(ab b0)) I x0 bK I (e1 I) (by kernel_rfl) I) fun g1 y0 j0 g0=>?_
 have A0:=AD (cs:=(ab b0)) (xs:=(([b0]:List Ta):List Ta)) j0 L (Av (cs:=(ab b0)) (ds:=[]) (aY b0.fN b0.fD) (AJ _ _))
 have B0:=Ao V0 (Tt t0 g0)
 have b3:=AB U0 g0
 refine BM (i:=4) (rk c0) (BI (m' :=1919) (sk c0) I I .plain I (Bf (α:=Ta) (ys:=X0) W0 j0 (fun _ _=>.t1) bK I I b3 (Ca B0)) (fun J1 E3 ⟨q1,v1,b1,D1⟩=>?_))
 obtain ⟨I2,A1⟩:=AK v1 (.a0 (.a0 .done))
 exact Q0 ((vS y0 1),(ab b0),J1,q1) I2 (Tt t0 (Tt g0 (Tt b1 A1))) ⟨(AB A0 (Tt b1 A1)),(AB D1 A1)⟩
 refine RO.val (m' :=1838) (sk c0) I .plain I (AH I (Y0.memA .hd))<|Bz [0,6] (rk c0) ⟨?_,?_,trivial⟩
 refine BH (m' :=1839) (sk c0) I .plain I (jB Ta Y0 bK) fun q2 P1 x0 t0=>?_
 have U0:=jD Ta x0 L
 refine Bz [4,6] (rk c0) ⟨?_,?_,trivial⟩
 have B0:=Ao V0 t0
 refine BI (m' :=1855) (sk c0) I I .plain I (Bf (α:=Ta) (ys:=X0) W0 x0 (fun _ _=>.hd) bK I I U0 (Ca B0)) fun K0 K1 ⟨E0,C0,H0,I0⟩=>BS 6 1919 c0 I .plain I (AL (α:=Ta) (xs:=([b0]:List Ta)) (vs:=[.agg ((ab b0)).toArray]) (ds' :=(ab b0)) I C0 bK I (e1 I) (by kernel_rfl) I) fun g1 y0 j0 g0=>?_
 have A0:=AD (cs:=(ab b0)) (xs:=(([b0]:List Ta):List Ta)) j0 L (Av (cs:=(ab b0)) (ds:=[]) (aY b0.fN b0.fD) (AJ _ _))
 obtain ⟨J2,B1⟩:=AK j0 (.a0 (.a0 .done))
 exact Q0 ((vS y0 1),(ab b0),K0,E0) J2 (Tt t0 (Tt H0 (Tt g0 B1))) ⟨(AB A0 B1),(AB I0 (Tt g0 B1))⟩
 refine BH (m' :=1903) (sk c0) I .plain I (AL (α:=Ta) (xs:=([b0]:List Ta)) (vs:=[.agg ((ab b0)).toArray]) (ds' :=(ab b0)) I x0 bK I (e1 I) (by kernel_rfl) I) fun g1 y0 j0 g0=>?_
 have A0:=AD (cs:=(ab b0)) (xs:=(([b0]:List Ta):List Ta)) j0 L (Av (cs:=(ab b0)) (ds:=[]) (aY b0.fN b0.fD) (AJ _ _))
 have B0:=Ao V0 (Tt t0 g0)
 refine BM (i:=4) (rk c0) (BI (m' :=1919) (sk c0) I I .plain I (Bf (α:=Ta) (ys:=X0) W0 j0 (fun _ _=>.t1) bK I I (AB U0 g0) (Ca B0)) (fun J1 E3 ⟨q1,v1,b1,D1⟩=>?_))
 obtain ⟨K2,C1⟩:=AK v1 (.a0 (.a0 .done))
 exact Q0 ((vS y0 1),(ab b0),J1,q1) K2 (Tt t0 (Tt g0 (Tt b1 C1))) ⟨(AB A0 (Tt b1 C1)),(AB D1 C1)⟩
 refine BH (m' :=1902) (sk c0) I .plain I (AL (α:=Ta) (xs:=([b0]:List Ta)) (vs:=[.agg ((ab b0)).toArray]) (ds' :=(ab b0)) I Y0 bK I (e1 I) (by kernel_rfl) I) fun g1 y0 j0 g0=>BS 0 1903 c0 I .plain I (jB Ta j0 bK) fun q2 P1 x0 t0=>BM (i:=4) (rk c0) (BI (m' :=1919) (sk c0) I I .plain I (Bf (α:=Ta) (ys:=X0) W0 x0 (fun _ _=>.hd) bK I I (jD Ta x0 L) (Ca (Ao V0 (Tt g0 t0)))) (fun K0 K1 ⟨E0,C0,H0,I0⟩=>?_))
 obtain ⟨M2,c2⟩:=AK C0 (.a1 (.a0 .done))
 have k2:=Tt t0 (Tt H0 c2)
 exact Q0 ((vS y0 1),(ab b0),K0,E0) M2 (Tt g0 k2) ⟨(AB (AD (cs:=(ab b0)) (xs:=(([b0]:List Ta):List Ta)) j0 L (Av (cs:=(ab b0)) (ds:=[]) (aY b0.fN b0.fD) (AJ _ _))) k2),(AB I0 c2)⟩
 intro M3 Q1 h
 try dsimp only at h
 obtain ⟨d4,g3,g2⟩:=aq h
 refine MX.lo (α:=Nat) (fun z0=>[(0,v0_0),(3,u0),(4,vn q0),(5,vP j1),(6,vn z0)]) (fun z0=>[.cells j1 (ab b0) 48]) (fun z0=>z0) 0 g3 u1 ?_
 rintro P3 z0 v4 B2 Z0 k1 h
 unfold ae_l1 at h
 try dsimp only at h
 refine Aj<|Aj<|du 13 fun p0 s0=>Rv 0 p0 I s0 (fun _=>Ai I)<|Rv 1 p0 I s0 (fun _=>Ai I) ?_
 have I1:=Ao p2 k1
 have b4:=AU I1
 refine Rx 2 8184 p0 I s0 (Ba (xs:=v0) underlying85 I I1)<|Rv 3 p0 I s0 (fun _=>Bp (i:=z0) (j:=v0.length) I I)<|Rv 4 p0 I s0 (fun _=>Ai I)<|RD.ifd (s:=34) I h (fun x2 h=>?_) (fun x2 h=>?_)
 refine BJ 5 63 p0 I s0 (.yes I I) (fun _=>Ai I) I<|BJ 6 127 p0 I s0 (.yes I I) (fun _=>Ai I) I<|bk h fun F3 u3 h=>?_
 obtain ⟨J3,R3,X2,Z2,W3,p3,c3⟩:=Bh I1 u3
 obtain rfl:=bw p3
 refine BJ 7 255 p0 I s0 (.yes I I) (fun _=>Bb 16 z0 I X2 I I Z2) I<|RD.val (i:=8) (m' :=511) (W:=7168) (tk p0) I s0 (.yes I I) (AH I c3) I<|RD.val (i:=9) (m' :=1023) (W:=7168) (tk p0) I s0 (.yes I I) (AH I (Z0.memA .hd)) I<|bk h fun u2 B3 h=>RD.callq (i:=10) (m' :=2047) (W:=6144) (tk p0) I s0 (v:=vI u2) (fst:=[]) (cap:=[]) (.yes I I) (bd 50) I (e2 I I) (fun w9 hw9=>co_c n (Z0.hL0 hL hw9) F3 b0 B3) I<|BJ 11 4095 p0 I s0 (.yes I I) (fun _=>BO (i:=u2) (j:=0) I I) I<|Rv 12 p0 I s0 (fun _=>BN I I)<|AN (dk p0)<|AQ I h (fun y2 h=>?_) (fun y2 h=>?_)
 refine Ar<|Ax<|Ap<|Ae I<|Ac (Bl (i:=z0) (j:=1) I I (by omega))<|Ag I<|Aa<|AC<|B2 (z0 + 1) Z0 k1 h
 refine AX I ?_
 have h:=g2 _ h
 try dsimp only at h
 exact Q1 z0 Z0 k1 h
 refine Br 4095 1 [(5,35),(6,36),(7,37),(8,38),(9,39),(10,40),(11,41)] (F:=[(34,false)]) (U:=[]) p0 s0 (.cons I .nil) .nil ?_
 dsimp only [aF,List.map]
 refine Rv 12 p0 I s0 (fun _=>AZ I I)<|AN (dk p0)<|BF I<|AX I ?_
 have h:=g2 _ h
 try dsimp only at h
 exact Q1 z0 Z0 k1 h
 refine AX I ?_
 have h:=Y2 _ h
 try dsimp only at h
 refine Af<|Ae I<|Ag I<|Aa<|Am I ?_
 have x1:=BA R0 .hd
 have Y3:=BB R0 .hd
 have q3:=BC (α:=Ta) (v:=u0) (xs:=v0) x1 L (Bg (α:=Ta) R0 .hd d2 hL)
 refine AW hb0 func39 I I ?_
 cases h
 exact ⟨x1.ag,fun w9 hw9=>⟨u0,I,x1.kd q3 hw9⟩⟩
def bM_p (n:Nat) (a0:Th) (a1:Th):Oa Th:=
  (aC_p n a0.fN a1.fD).bind fun b0=>(aC_p n a1.fN a0.fD).bind fun c0=>(bc_p n b0 c0).bind fun d0=>(aC_p n a0.fD a1.fD).bind fun g0=>(aZ_p n d0 g0).bind fun j0=>some j0
theorem bM_c (n:Nat) {L w} (hL:hl L w) (a0:Th) {v0_1:Vc} (h0_1:Rep.R w L [v0_1] a0.fN.fD) {v0_3:Vc} (h0_3:Rep.R w L [v0_3] a0.fD.fD) (a1:Th) {v1_1:Vc} (h1_1:Rep.R w L [v1_1] a1.fN.fD) {v1_3:Vc} (h1_3:Rep.R w L [v1_3] a1.fD.fD)  {r:Th} (h:bM_p n a0 a1 = some r) :
 Cl 108 #[.agg #[.bool a0.fN.fe,v0_1,.bool a0.fD.fe,v0_3],.agg #[.bool a1.fN.fe,v1_1,.bool a1.fD.fe,v1_3]] w (ae w fun w' u=>∃ v0_1 v0_3:Vc,u = .agg #[.bool r.fN.fe,v0_1,.bool r.fD.fe,v0_3]/\Rep.R w' L [v0_1] r.fN.fD/\Rep.R w' L [v0_3] r.fD.fD):=by
 unfold bM_p at h
 refine AF func108 I I I fun _ cs0 hb0=>Af<|RG.bx (AA w) I I fun F1 c1 z0 j1=>RG.bx z0 I I fun G1 d1 A0 k1=>RG.nl [.bool false,vN,.bool false,vN] A0 fun H1 g1 d0 p1=>Aa<|Aj<|du 17 fun b0 c0=>Rv 0 b0 I c0 (fun _=>Bi 0 I)<|Rx 1 230928 b0 I c0 (Bk (cs:=[.bool a0.fN.fe,v0_1]) I I (ah (d0.memA .t2) 0 2))<|Rv 2 b0 I c0 (fun _=>Bi 2 I)<|Rx 3 230928 b0 I c0 (Bk (cs:=[.bool a1.fD.fe,v1_3]) I I (ah (d0.memA .t1) 2 2))<|Rv 5 b0 I c0 (fun _=>Bi 0 I)<|Rx 6 230912 b0 I c0 (Bk (cs:=[.bool a1.fN.fe,v1_1]) I I (ah (d0.memA .t1) 0 2))<|Rv 7 b0 I c0 (fun _=>Bi 2 I)<|Rx 8 230912 b0 I c0 (Bk (cs:=[.bool a0.fD.fe,v0_3]) I I (ah (d0.memA .t2) 2 2))<|Rv 11 b0 I c0 (fun _=>Bi 2 I)<|Rx 12 229376 b0 I c0 (Bk (cs:=[.bool a0.fD.fe,v0_3]) I I (ah (d0.memA .t2) 2 2))<|Rv 13 b0 I c0 (fun _=>Bi 2 I)<|Rx 14 229376 b0 I c0 (Bk (cs:=[.bool a1.fD.fe,v1_3]) I I (ah (d0.memA .t1) 2 2))<|bk h fun X0 Q0 h=>Bs 4 31231 b0 I .plain (bd 146) I (e2 I I) (fun w9 hw9=>aC_c n (d0.hL hL hw9) a0.fN (d0.km h0_1 hw9) a1.fD (d0.km h1_3 hw9) Q0) I fun I1 A1 E0 ⟨v1,hu_,J0⟩=>?_
 subst hu_
 obtain ⟨g0,q1⟩:=d0.agr E0
 refine bk h fun Y0 R0 h=>Bs 9 31743 b0 I .plain (bd 146) I (e2 I I) (fun w9 hw9=>aC_c n (g0.hL hL hw9) a1.fN (g0.km h1_1 hw9) a0.fD (g0.km h0_3 hw9) R0) I fun J1 B1 F0 ⟨x1,hu_,K0⟩=>?_
 subst hu_
 obtain ⟨t0,C0⟩:=g0.agr F0
 refine bk h fun Z0 U0 h=>Bs 10 32767 b0 I .plain (bd 147) I (e2 I I) (fun w9 hw9=>bc_c n (t0.hL hL hw9) X0 (Aw (Ao J0 C0) hw9) Y0 (Aw K0 hw9) U0) I fun K1 C1 G0 ⟨y1,hu_,M0⟩=>?_
 subst hu_
 obtain ⟨j0,s1⟩:=t0.agr G0
 refine bk h fun b1 V0 h=>Bs 15 65535 b0 I .plain (bd 146) I (e2 I I) (fun w9 hw9=>aC_c n (j0.hL hL hw9) a0.fD (j0.km h0_3 hw9) a1.fD (j0.km h1_3 hw9) V0) I fun M1 D1 H0 ⟨z1,hu_,P0⟩=>?_
 subst hu_
 obtain ⟨u0,D0⟩:=j0.agr H0
 refine bk h fun p0 W0 h=>Bs 16 131071 b0 I .plain (bd 125) I (e2 I I) (fun w9 hw9=>aZ_c n (u0.hL hL hw9) Z0 (Aw (Ao M0 D0) hw9) b1 (Aw P0 hw9) W0) I fun P1 E1 I0 ⟨q0,s0,hu_,x0,y0⟩=>?_
 subst hu_
 obtain ⟨B0,u1⟩:=u0.agr I0
 refine BG 17 262143 b0 I I .plain (AE (news:=[.bool p0.fN.fe,q0,.bool p0.fD.fe,s0]) B0 .hd I I I I I I (o4 I (AY x0) I (AY y0))) fun Q1 k0 v0=>AN (dk b0)<|Am I<|Au hb0 func108 I (.cons (.many (cs:=[.bool p0.fN.fe,q0,.bool p0.fD.fe,s0]) I I (k0.memA .hd)) .nil) I ?_
 cases h
 exact ⟨k0.ag,fun w9 hw9=>⟨q0,s0,I,k0.kd (Ao x0 v0) hw9,k0.kd (Ao y0 v0) hw9⟩⟩
def cZ_p (n:Nat) (a0:Th):Oa Th:=
  (bD_p n a0.fN).bind fun b0=>some (⟨b0,a0.fD⟩:Th)
theorem cZ_c (n:Nat) {L w} (hL:hl L w) (a0:Th) {v0_1:Vc} (h0_1:Rep.R w L [v0_1] a0.fN.fD) {v0_3:Vc} (h0_3:Rep.R w L [v0_3] a0.fD.fD)  {r:Th} (h:cZ_p n a0 = some r) :
 Cl 145 #[.agg #[.bool a0.fN.fe,v0_1,.bool a0.fD.fe,v0_3]] w (ae w fun w' u=>∃ v0_1 v0_3:Vc,u = .agg #[.bool r.fN.fe,v0_1,.bool r.fD.fe,v0_3]/\Rep.R w' L [v0_1] r.fN.fD/\Rep.R w' L [v0_3] r.fD.fD):=by
 unfold cZ_p at h
 refine AF func145 I I I fun _ cs0 hb0=>Af<|RG.bx (AA w) I I fun M0 D0 u0 H0=>RG.nl [.bool false,vN,.bool false,vN] u0 fun P0 E0 c0 I0=>Aa<|Aj<|du 6 fun b0 d0=>Rv 0 b0 I d0 (fun _=>Bi 0 I)<|Rx 1 100 b0 I d0 (Bk (cs:=[.bool a0.fN.fe,v0_1]) I I (ah (c0.memA .t1) 0 2))<|Rv 3 b0 I d0 (fun _=>Bi 2 I)<|Rx 4 96 b0 I d0 (Bk (cs:=[.bool a0.fD.fe,v0_3]) I I (ah (c0.memA .t1) 2 2))<|bk h fun p0 A0 h=>Bs 2 31 b0 I .plain (bd 167) I (e1 I) (fun w9 hw9=>bD_c n (c0.hL hL hw9) a0.fN (c0.km h0_1 hw9) A0) I fun Q0 K0 x0 ⟨g0,hu_,q0⟩=>?_
 subst hu_
 obtain ⟨s0,J0⟩:=c0.agr x0
 obtain ⟨B0,F0,y0,_⟩:=BR q0
 have t0:=AT h0_3 s0
 obtain ⟨C0,G0,z0,_⟩:=BR t0
 refine Rv 5 b0 I d0 (fun _=>AS (vs:=[.agg #[.bool p0.fe,g0],.agg #[.bool a0.fD.fe,v0_3]]) (u:=.agg #[.bool p0.fe,g0,.bool a0.fD.fe,v0_3]) (e2 I I) (fun w9=>by rw [y0,z0]; try kernel_rfl))<|BG 6 127 b0 I I .plain (AE (news:=[.bool p0.fe,g0,.bool a0.fD.fe,v0_3]) s0 .hd I I I I I I (o4 I (AY q0) I (AY t0))) fun R0 j0 v0=>AN (dk b0)<|Am I<|Au hb0 func145 I (.cons (.many (cs:=[.bool p0.fe,g0,.bool a0.fD.fe,v0_3]) I I (j0.memA .hd)) .nil) I ?_
 cases h
 exact ⟨j0.ag,fun w9 hw9=>⟨g0,v0_3,I,j0.kd (Ao q0 v0) hw9,j0.k0 h0_3 hw9⟩⟩

def cU_p (n:Nat) (a0:Th) (a1:Th):Oa Th:=
  (cZ_p n a1).bind fun b0=>(bM_p n a0 b0).bind fun c0=>some c0
theorem cU_c (n:Nat) {L w} (hL:hl L w) (a0:Th) {v0_1:Vc} (h0_1:Rep.R w L [v0_1] a0.fN.fD) {v0_3:Vc} (h0_3:Rep.R w L [v0_3] a0.fD.fD) (a1:Th) {v1_1:Vc} (h1_1:Rep.R w L [v1_1] a1.fN.fD) {v1_3:Vc} (h1_3:Rep.R w L [v1_3] a1.fD.fD)  {r:Th} (h:cU_p n a0 a1 = some r) :
 Cl 104 #[.agg #[.bool a0.fN.fe,v0_1,.bool a0.fD.fe,v0_3],.agg #[.bool a1.fN.fe,v1_1,.bool a1.fD.fe,v1_3]] w (ae w fun w' u=>∃ v0_1 v0_3:Vc,u = .agg #[.bool r.fN.fe,v0_1,.bool r.fD.fe,v0_3]/\Rep.R w' L [v0_1] r.fN.fD/\Rep.R w' L [v0_3] r.fD.fD):=by
 unfold cU_p at h
 refine AF func104 I I I fun _ cs0 hb0=>Af<|RG.bx (AA w) I I fun X0 G0 v0 J0=>RG.bx v0 I I fun Y0 H0 x0 K0=>RG.nl [.bool false,vN,.bool false,vN] x0 fun Z0 I0 b0 M0=>Aa<|Aj<|du 4 fun c0 u0=>Rx 0 24 c0 I u0 (AH I (b0.memA .t2))<|Rx 1 28 c0 I u0 (AH I (b0.memA .t1))<|bk h fun F0 D0 h=>Bs 2 7 c0 I .plain (bd 145) I (e1 I) (fun p q=>cZ_c n (b0.hL hL q) a1 (b0.km h1_1 q) (b0.km h1_3 q) D0) I fun b1 V0 z0 ⟨R0,U0,hu_,B0,C0⟩=>?_
 subst hu_
 obtain ⟨d0,P0⟩:=b0.agr z0
 refine bk h fun j0 E0 h=>Bs 3 15 c0 I .plain (bd 108) I (e2 I I) (fun p q=>bM_c n (d0.hL hL q) a0 (d0.km h0_1 q) (d0.km h0_3 q) F0 (Aw B0 q) (Aw C0 q) E0) I fun c1 W0 A0 ⟨k0,p0,hu_,s0,t0⟩=>?_
 subst hu_
 obtain ⟨y0,Q0⟩:=d0.agr A0
 refine BG 4 31 c0 I I .plain (AE (news:=[.bool j0.fN.fe,k0,.bool j0.fD.fe,p0]) y0 .hd I I I I I I (o4 I (AY s0) I (AY t0))) fun d1 g0 q0=>AN (dk c0)<|Am I<|Au hb0 func104 I (.cons (.many (cs:=[.bool j0.fN.fe,k0,.bool j0.fD.fe,p0]) I I (g0.memA .hd)) .nil) I ?_
 cases h
 exact ⟨g0.ag,fun p q=>⟨k0,p0,I,g0.kd (Ao s0 q0) q,g0.kd (Ao t0 q0) q⟩⟩
def cN_p (n:Nat) (a0:Ta) (a1:Ta):Oa (Ta × Int):=
  (ar_p n a0).bind fun c0=>(if c0 = true then (ar_p n a1).bind fun d0=>(if d0 = true then (aF_p n a0).bind fun g0=>(aF_p n a1).bind fun j0=>(cU_p n g0 j0).bind fun k0=>(bp_p n k0).bind fun b0=>some (b0.1,b0.2) else some ((⟨(0,0,0,0,0,0,0,0),(0,0,0,0,0,0,0,0)⟩:Ta),(20:Int))) else some ((⟨(0,0,0,0,0,0,0,0),(0,0,0,0,0,0,0,0)⟩:Ta),(20:Int)))
theorem cN_c (n:Nat) {L w} (hL:hl L w) (a0:Ta) (a1:Ta)  {r:Ta × Int} (h:cN_p n a0 a1 = some r) :
 Cl 76 #[.agg ((ab a0)).toArray,.agg ((ab a1)).toArray] w (ae w fun _ u=>u = .tuple #[.agg ((ab r.1)).toArray,vI r.2]):=by
 unfold cN_p at h
 refine AF func76 I I I fun _ cs0 hb0=>Af<|RG.bx (AA w) I I fun F1 Z0 y0 d1=>RG.bx y0 I I fun G1 b1 z0 g1=>RG.nl zL z0 fun H1 c1 c0 j1=>Ag I<|Aa<|Aj<|Af<|Ac (AH I (c0.memA .t2))<|bk h fun U0 J0 h=>Bj (.bool U0) (bd 103) I (e1 I) (fun p q=>ar_c n (c0.hL0 hL q) a0 J0) I<|Ac (Bu I)<|Ae I<|RG.ifnb (s:=9) I h (fun v0 h=>?_) (fun v0 h=>?_)
 refine AG (AH I (c0.memA .t1))<|bk h fun V0 K0 h=>RG.callq' (v:=.bool V0) (fst:=[]) (cap:=[]) (.yes I I) (bd 103) I (e1 I) (fun p q=>ar_c n (c0.hL0 hL q) a1 K0) I<|AG (Bu I)<|Bv I I<|Aa<|MX.ifnb I h (fun x0 h=>?_) (fun x0 h=>?_)
 refine Ar<|Aj<|du 8 fun b0 d0=>Rx 0 1018 b0 I d0 (AH I (c0.memA .t2))<|Rx 2 1016 b0 I d0 (AH I (c0.memA .t1))<|bk h fun W0 M0 h=>Bs 1 7 b0 I .plain (bd 105) I (e1 I) (fun p q=>aF_c n (c0.hL hL q) a0 M0) I fun w32 C1 A0 ⟨v1,x1,hu_,D0,E0⟩=>?_
 subst hu_
 obtain ⟨k0,k1⟩:=c0.agr A0
 refine bk h fun X0 P0 h=>Bs 3 15 b0 I .plain (bd 105) I (e1 I) (fun p q=>aF_c n (k0.hL hL q) a1 P0) I fun I1 D1 B0 ⟨y1,z1,hu_,F0,G0⟩=>?_
 subst hu_
 obtain ⟨p0,u0⟩:=k0.agr B0
 refine bk h fun Y0 Q0 h=>Bs 4 31 b0 I .plain (bd 104) I (e2 I I) (fun p q=>cU_c n (p0.hL hL q) W0 (Aw (Ao D0 u0) q) (Aw (Ao E0 u0) q) X0 (Aw F0 q) (Aw G0 q) Q0) I fun J1 E1 C0 ⟨A1,B1,hu_,H0,I0⟩=>?_
 subst hu_
 obtain ⟨g0,p1⟩:=p0.agr C0
 refine bk h fun j0 R0 h=>BV 5 63 960 (.tuple #[.agg ((ab j0.1)).toArray,vI j0.2]) b0 I d0 (bd 93) I (e1 I) (fun p q=>bp_c n (g0.hL0 hL q) Y0 (g0.kd H0 q) (g0.kd I0 q) R0) I<|Rv 6 b0 I d0 (fun _=>Ak I I)<|Rv 7 b0 I d0 (fun _=>Ak I I)<|BG 8 511 b0 I I .plain (AE (news:=(ab j0.1)) g0 .hd I I I I I I (ai I)) fun K1 q0 q1=>Rv 9 b0 I d0 (fun _=>Be I)<|AN (dk b0)<|Am I<|Au hb0 func76 I (.cons (.many (cs:=(ab j0.1)) I I (q0.memA .hd)) (.cons (.tmp I) .nil)) I ?_
 cases h
 exact q0.gv
 refine Af<|Ac (AS (vs:=[]) (u:=.agg zM) ak (fun p=>by kernel_rfl))<|AV zL c0 .hd (ai I) fun M1 s0 s1=>Ag I<|Aa<|Am I<|Au hb0 func76 I (.cons (.many (cs:=zL) I I (s0.memA .hd)) (.cons (.tmp I) .nil)) I ?_
 cases h
 exact s0.gv
 refine Aq<|Aq<|Aq<|Bn I I<|Aa<|Bq I<|Af<|Ac (AS (vs:=[]) (u:=.agg zM) ak (fun p=>by kernel_rfl))<|AV zL c0 .hd (ai I) fun P1 t0 u1=>Ag I<|Aa<|Am I<|Au hb0 func76 I (.cons (.many (cs:=zL) I I (t0.memA .hd)) (.cons (.tmp I) .nil)) I ?_
 cases h
 exact t0.gv
def bq_p (n:Nat) (a0:Ta) (a1:Ta):Oa Ta:=
  (cN_p n a0 a1).bind fun b0=>some b0.1
theorem bq_c (n:Nat) {L w} (hL:hl L w) (a0:Ta) (a1:Ta)  {r:Ta} (h:bq_p n a0 a1 = some r) :
 Cl 40 #[.agg ((ab a0)).toArray,.agg ((ab a1)).toArray] w (ae w fun _ u=>u = .agg ((ab r)).toArray):=by
 unfold bq_p at h
 refine AF func40 I I I fun _ cs0 hb0=>Af<|RG.bx (AA w) I I fun D0 s0 j0 x0=>RG.bx j0 I I fun E0 t0 k0 y0=>RG.nl zL k0 fun F0 u0 c0 z0=>Aa<|Af<|Ac (AH I (c0.memA .t2))<|Ac (AH I (c0.memA .t1))<|bk h fun b0 q0 h=>Bj (.tuple #[.agg ((ab b0.1)).toArray,vI b0.2]) (bd 76) I (e2 I I) (fun p q=>cN_c n (c0.hL0 hL q) a0 a1 q0) I<|Ae I<|Ac (Ak I I)<|Ac (Ak I I)<|RG.nl zL c0 fun G0 v0 p0 A0=>AV (ab b0.1) p0 .hd (ai I) fun H0 d0 B0=>Ag I<|Aa<|Af<|Ac (AH I (d0.memA .hd))<|AV (ab b0.1) d0 .t1 (ai I) fun I0 g0 C0=>Aa<|Am I<|Au hb0 func40 I (.cons (.many (cs:=(ab b0.1)) I I (g0.memA .t1)) .nil) I ?_
 cases h
 exact g0.gv
def dc_p (_n:Nat) (a0:Th):Oa Bool:=
  some (decide (a0.fN.fD.length = 0))
theorem dc_c (n:Nat) {L w} (_hL:hl L w) (a0:Th) {v0_1:Vc} (h0_1:Rep.R w L [v0_1] a0.fN.fD) {v0_3:Vc} (_h0_3:Rep.R w L [v0_3] a0.fD.fD)  {r:Bool} (h:dc_p n a0 = some r) :
 Cl 106 #[.agg #[.bool a0.fN.fe,v0_1,.bool a0.fD.fe,v0_3]] w (ae w fun _ u=>u = .bool r):=by
 unfold dc_p at h
 refine AF func106 I I I fun _ cs0 hb0=>Af<|RG.bx (AA w) I I fun k0 d0 b0 g0=>Ag I<|Aa<|Af<|Bd 0 I<|Bd 1 I<|AR I ((cg (b0.memA .hd) 0) 1 _ I) ?_
 have c0:=AT h0_1 b0
 have j0:=AU c0
 refine Ac (Ba (xs:=a0.fN.fD) underlying38 I c0)<|Ac (BP (i:=a0.fN.fD.length) (j:=0) I I)<|Ag I<|Aa<|Am I<|AW hb0 func106 I I ?_
 cases h
 exact b0.gv
def cF_p (n:Nat) (a0:Th) (a1:Th):Oa Th:=
  (aC_p n a0.fN a1.fD).bind fun b0=>(aC_p n a0.fD a1.fN).bind fun c0=>(aZ_p n b0 c0).bind fun d0=>some d0
theorem cF_c (n:Nat) {L w} (hL:hl L w) (a0:Th) {v0_1:Vc} (h0_1:Rep.R w L [v0_1] a0.fN.fD) {v0_3:Vc} (h0_3:Rep.R w L [v0_3] a0.fD.fD) (a1:Th) {v1_1:Vc} (h1_1:Rep.R w L [v1_1] a1.fN.fD) {v1_3:Vc} (h1_3:Rep.R w L [v1_3] a1.fD.fD)  {r:Th} (h:cF_p n a0 a1 = some r) :
 Cl 107 #[.agg #[.bool a0.fN.fe,v0_1,.bool a0.fD.fe,v0_3],.agg #[.bool a1.fN.fe,v1_1,.bool a1.fD.fe,v1_3]] w (ae w fun w' u=>∃ v0_1 v0_3:Vc,u = .agg #[.bool r.fN.fe,v0_1,.bool r.fD.fe,v0_3]/\Rep.R w' L [v0_1] r.fN.fD/\Rep.R w' L [v0_3] r.fD.fD):=by
 unfold cF_p at h
 refine AF func107 I I I fun _ cs0 hb0=>Af<|RG.bx (AA w) I I fun g1 M0 x0 R0=>RG.bx x0 I I fun j1 P0 y0 U0=>RG.nl [.bool false,vN,.bool false,vN] y0 fun k1 Q0 c0 V0=>Aa<|Aj<|du 11 fun b0 d0=>Rv 0 b0 I d0 (fun _=>Bi 0 I)<|Rx 1 3600 b0 I d0 (Bk (cs:=[.bool a0.fN.fe,v0_1]) I I (ah (c0.memA .t2) 0 2))<|Rv 2 b0 I d0 (fun _=>Bi 2 I)<|Rx 3 3600 b0 I d0 (Bk (cs:=[.bool a1.fD.fe,v1_3]) I I (ah (c0.memA .t1) 2 2))<|Rv 5 b0 I d0 (fun _=>Bi 2 I)<|Rx 6 3584 b0 I d0 (Bk (cs:=[.bool a0.fD.fe,v0_3]) I I (ah (c0.memA .t2) 2 2))<|Rv 7 b0 I d0 (fun _=>Bi 0 I)<|Rx 8 3584 b0 I d0 (Bk (cs:=[.bool a1.fN.fe,v1_1]) I I (ah (c0.memA .t1) 0 2))<|bk h fun J0 G0 h=>Bs 4 511 b0 I .plain (bd 146) I (e2 I I) (fun p q=>aC_c n (c0.hL hL q) a0.fN (c0.km h0_1 q) a1.fD (c0.km h1_3 q) G0) I fun p1 b1 B0 ⟨Y0,hu_,E0⟩=>?_
 subst hu_
 obtain ⟨g0,W0⟩:=c0.agr B0
 refine bk h fun K0 H0 h=>Bs 9 1023 b0 I .plain (bd 146) I (e2 I I) (fun p q=>aC_c n (g0.hL hL q) a0.fD (g0.km h0_3 q) a1.fN (g0.km h1_1 q) H0) I fun q1 c1 C0 ⟨Z0,hu_,F0⟩=>?_
 subst hu_
 obtain ⟨s0,A0⟩:=g0.agr C0
 refine bk h fun k0 I0 h=>Bs 10 2047 b0 I .plain (bd 125) I (e2 I I) (fun p q=>aZ_c n (s0.hL hL q) J0 (Aw (Ao E0 A0) q) K0 (Aw F0 q) I0) I fun s1 d1 D0 ⟨p0,q0,hu_,u0,v0⟩=>?_
 subst hu_
 obtain ⟨z0,X0⟩:=s0.agr D0
 refine BG 11 4095 b0 I I .plain (AE (news:=[.bool k0.fN.fe,p0,.bool k0.fD.fe,q0]) z0 .hd I I I I I I (o4 I (AY u0) I (AY v0))) fun u1 j0 t0=>AN (dk b0)<|Am I<|Au hb0 func107 I (.cons (.many (cs:=[.bool k0.fN.fe,p0,.bool k0.fD.fe,q0]) I I (j0.memA .hd)) .nil) I ?_
 cases h
 exact ⟨j0.ag,fun p q=>⟨p0,q0,I,j0.kd (Ao u0 t0) q,j0.kd (Ao v0 t0) q⟩⟩
def cO_p (n:Nat) (a0:Ta) (a1:Ta):Oa (Ta × Int):=
  (ar_p n a0).bind fun d0=>(if d0 = true then (ar_p n a1).bind fun g0=>(if g0 = true then (aF_p n a1).bind fun b0=>(dc_p n b0).bind fun j0=>(if j0 = true then some ((⟨(0,0,0,0,0,0,0,0),(0,0,0,0,0,0,0,0)⟩:Ta),(7:Int)) else (aF_p n a0).bind fun k0=>(cF_p n k0 b0).bind fun p0=>(bp_p n p0).bind fun c0=>some (c0.1,c0.2)) else some ((⟨(0,0,0,0,0,0,0,0),(0,0,0,0,0,0,0,0)⟩:Ta),(20:Int))) else some ((⟨(0,0,0,0,0,0,0,0),(0,0,0,0,0,0,0,0)⟩:Ta),(20:Int)))
theorem cO_c (n:Nat) {L w} (hL:hl L w) (a0:Ta) (a1:Ta)  {r:Ta × Int} (h:cO_p n a0 a1 = some r) :
 Cl 77 #[.agg ((ab a0)).toArray,.agg ((ab a1)).toArray] w (ae w fun _ u=>u = .tuple #[.agg ((ab r.1)).toArray,vI r.2]):=by
 unfold cO_p at h
 refine AF func77 I I I fun _ cs0 hb0=>Af<|RG.bx (AA w) I I fun V1 v1 F0 A1=>RG.bx F0 I I fun W1 x1 G0 B1=>RG.nl zL G0 fun X1 y1 c0 C1=>Ag I<|Aa<|Aj<|Af<|Ac (AH I (c0.memA .t2))<|bk h fun k1 W0 h=>Bj (.bool k1) (bd 103) I (e1 I) (fun p q=>ar_c n (c0.hL0 hL q) a0 W0) I<|Ac (Bu I)<|Ae I<|RG.ifnb (s:=10) I h (fun C0 h=>?_) (fun C0 h=>?_)
 refine AG (AH I (c0.memA .t1))<|bk h fun p1 X0 h=>RG.callq' (v:=.bool p1) (fst:=[]) (cap:=[]) (.yes I I) (bd 103) I (e1 I) (fun p q=>ar_c n (c0.hL0 hL q) a1 X0) I<|AG (Bu I)<|Bv I I<|Aa<|MX.ifnb I h (fun D0 h=>?_) (fun D0 h=>?_)
 refine Ar<|Af<|Ac (AH I (c0.memA .t1))<|bk h fun p0 Y0 h=>jE (bd 105) I (e1 I) (fun p q=>aF_c n (c0.hL hL q) a1 Y0) I fun Y1 Q1 K0 ⟨g1,j1,hu_,t0,u0⟩=>?_
 subst hu_
 obtain ⟨H0,D1⟩:=c0.agr K0
 refine RG.nl [.bool false,vN,.bool false,vN] H0 fun Z1 z1 I0 j0=>AV [.bool p0.fN.fe,g1,.bool p0.fD.fe,j1] I0 .hd (o4 I (AY (Ao t0 j0)) I (AY (Ao u0 j0))) fun b2 d0 s0=>Aa<|Aj<|Af<|Ac (AH I (d0.memA .hd))<|bk h fun q1 Z0 h=>Bj (.bool q1) (bd 106) I (e1 I) (fun p q=>dc_c n (d0.hL0 hL q) p0 (d0.kd (Ao t0 (Tt j0 s0)) q) (d0.kd (Ao u0 (Tt j0 s0)) q) Z0) I<|Aa<|MX.ifb I h (fun E0 h=>?_) (fun E0 h=>?_)
 refine Af<|Ac (AS (vs:=[]) (u:=.agg zM) ak (fun p=>by kernel_rfl))<|AV zL d0 .t1 (ai I) fun c2 v0 E1=>Ag I<|Aa<|Am I<|Au hb0 func77 I (.cons (.many (cs:=zL) I I (v0.memA .t1)) (.cons (.tmp I) .nil)) I ?_
 cases h
 exact v0.gv
 refine Ar<|Aj<|du 7 fun b0 g0=>Rx 0 506 b0 I g0 (AH I (d0.memA .t3))<|Rx 2 504 b0 I g0 (AH I (d0.memA .hd))<|bk h fun s1 b1 h=>Bs 1 7 b0 I .plain (bd 105) I (e1 I) (fun p q=>aF_c n (d0.hL hL q) a0 b1) I fun d2 R1 M0 ⟨J1,K1,hu_,Q0,R0⟩=>?_
 subst hu_
 obtain ⟨x0,J0⟩:=d0.agr M0
 refine bk h fun u1 c1 h=>?_
 have B0:=Tt j0 (Tt s0 J0)
 refine Bs 3 15 b0 I .plain (bd 107) I (e2 I I) (fun p q=>cF_c n (x0.hL hL q) s1 (Aw Q0 q) (Aw R0 q) p0 (Aw (Ao t0 B0) q) (Aw (Ao u0 B0) q) c1) I fun g2 U1 P0 ⟨M1,P1,hu_,U0,V0⟩=>?_
 subst hu_
 obtain ⟨k0,F1⟩:=x0.agr P0
 refine bk h fun q0 d1 h=>BV 4 31 480 (.tuple #[.agg ((ab q0.1)).toArray,vI q0.2]) b0 I g0 (bd 93) I (e1 I) (fun p q=>bp_c n (k0.hL0 hL q) u1 (k0.kd U0 q) (k0.kd V0 q) d1) I<|Rv 5 b0 I g0 (fun _=>Ak I I)<|Rv 6 b0 I g0 (fun _=>Ak I I)<|BG 7 255 b0 I I .plain (AE (news:=(ab q0.1)) k0 .t1 I I I I I I (ai I)) fun j2 y0 G1=>Rv 8 b0 I g0 (fun _=>Be I)<|AN (dk b0)<|Am I<|Au hb0 func77 I (.cons (.many (cs:=(ab q0.1)) I I (y0.memA .t1)) (.cons (.tmp I) .nil)) I ?_
 cases h
 exact y0.gv
 refine Af<|Ac (AS (vs:=[]) (u:=.agg zM) ak (fun p=>by kernel_rfl))<|AV zL c0 .hd (ai I) fun k2 z0 H1=>Ag I<|Aa<|Am I<|Au hb0 func77 I (.cons (.many (cs:=zL) I I (z0.memA .hd)) (.cons (.tmp I) .nil)) I ?_
 cases h
 exact z0.gv
 refine Aq<|Aq<|Aq<|Bn I I<|Aa<|Bq I<|Af<|Ac (AS (vs:=[]) (u:=.agg zM) ak (fun p=>by kernel_rfl))<|AV zL c0 .hd (ai I) fun p2 A0 I1=>Ag I<|Aa<|Am I<|Au hb0 func77 I (.cons (.many (cs:=zL) I I (A0.memA .hd)) (.cons (.tmp I) .nil)) I ?_
 cases h
 exact A0.gv
def cb_p (n:Nat) (a0:Ta) (a1:Int):Oa Ta:=
  (aI_p n a1 (1:Int)).bind fun b0=>(cO_p n a0 b0).bind fun c0=>some c0.1
theorem cb_c (n:Nat) {L w} (hL:hl L w) (a0:Ta) {a1:Int}  {r:Ta} (h:cb_p n a0 a1 = some r) :
 Cl 42 #[.agg ((ab a0)).toArray,vI a1] w (ae w fun _ u=>u = .agg ((ab r)).toArray):=by
 unfold cb_p at h
 refine AF func42 I I I fun _ cs0 hb0=>Af<|RG.bx (AA w) I I fun E0 v0 q0 z0=>RG.nl zL q0 fun F0 x0 g0 A0=>Aa<|Aj<|du 8 fun b0 c0=>Rx 0 888 b0 I c0 (AH I (g0.memA .t1))<|Rv 1 b0 I c0 (fun _=>Ai I)<|bk h fun p0 t0 h=>BV 2 7 888 (.agg ((ab p0)).toArray) b0 I c0 (bd 34) I (e2 I I) (fun p q=>aI_c n (g0.hL0 hL q)  t0) I<|bk h fun d0 u0 h=>BV 3 15 880 (.tuple #[.agg ((ab d0.1)).toArray,vI d0.2]) b0 I c0 (bd 77) I (e2 I I) (fun p q=>cO_c n (g0.hL0 hL q) a0 p0 u0) I<|Rv 4 b0 I c0 (fun _=>Ai I)<|Rv 5 b0 I c0 (fun _=>Ak I I)<|Rv 6 b0 I c0 (fun _=>Ak I I)<|BS 7 255 b0 I .plain I (Az zL g0) fun G0 y0 s0 B0=>BG 8 511 b0 I I .plain (AE (news:=(ab d0.1)) s0 .hd I I I I I I (ai I)) fun H0 j0 C0=>Rv 9 b0 I c0 (fun _=>Be I)<|AN (dk b0)<|Af<|Ac (AH I (j0.memA .hd))<|AV (ab d0.1) j0 .t1 (ai I) fun w32 k0 D0=>Aa<|Am I<|Au hb0 func42 I (.cons (.many (cs:=(ab d0.1)) I I (k0.memA .t1)) .nil) I ?_
 cases h
 exact k0.gv
def cP_p (n:Nat) (a0:Ta) (a1:Ta):Oa (Ta × Int):=
  (ar_p n a0).bind fun c0=>(if c0 = true then (ar_p n a1).bind fun d0=>(if d0 = true then (aF_p n a0).bind fun g0=>(aF_p n a1).bind fun j0=>(bM_p n g0 j0).bind fun k0=>(bp_p n k0).bind fun b0=>some (b0.1,b0.2) else some ((⟨(0,0,0,0,0,0,0,0),(0,0,0,0,0,0,0,0)⟩:Ta),(20:Int))) else some ((⟨(0,0,0,0,0,0,0,0),(0,0,0,0,0,0,0,0)⟩:Ta),(20:Int)))
theorem cP_c (n:Nat) {L w} (hL:hl L w) (a0:Ta) (a1:Ta)  {r:Ta × Int} (h:cP_p n a0 a1 = some r) :
 Cl 78 #[.agg ((ab a0)).toArray,.agg ((ab a1)).toArray] w (ae w fun _ u=>u = .tuple #[.agg ((ab r.1)).toArray,vI r.2]):=by
 unfold cP_p at h
 refine AF func78 I I I fun _ cs0 hb0=>Af<|RG.bx (AA w) I I fun F1 Z0 y0 d1=>RG.bx y0 I I fun G1 b1 z0 g1=>RG.nl zL z0 fun H1 c1 c0 j1=>Ag I<|Aa<|Aj<|Af<|Ac (AH I (c0.memA .t2))<|bk h fun U0 J0 h=>Bj (.bool U0) (bd 103) I (e1 I) (fun p q=>ar_c n (c0.hL0 hL q) a0 J0) I<|Ac (Bu I)<|Ae I<|RG.ifnb (s:=9) I h (fun v0 h=>?_) (fun v0 h=>?_)
 refine AG (AH I (c0.memA .t1))<|bk h fun V0 K0 h=>RG.callq' (v:=.bool V0) (fst:=[]) (cap:=[]) (.yes I I) (bd 103) I (e1 I) (fun p q=>ar_c n (c0.hL0 hL q) a1 K0) I<|AG (Bu I)<|Bv I I<|Aa<|MX.ifnb I h (fun x0 h=>?_) (fun x0 h=>?_)
 refine Ar<|Aj<|du 8 fun b0 d0=>Rx 0 1018 b0 I d0 (AH I (c0.memA .t2))<|Rx 2 1016 b0 I d0 (AH I (c0.memA .t1))<|bk h fun W0 M0 h=>Bs 1 7 b0 I .plain (bd 105) I (e1 I) (fun p q=>aF_c n (c0.hL hL q) a0 M0) I fun w32 C1 A0 ⟨v1,x1,hu_,D0,E0⟩=>?_
 subst hu_
 obtain ⟨k0,k1⟩:=c0.agr A0
 refine bk h fun X0 P0 h=>Bs 3 15 b0 I .plain (bd 105) I (e1 I) (fun p q=>aF_c n (k0.hL hL q) a1 P0) I fun I1 D1 B0 ⟨y1,z1,hu_,F0,G0⟩=>?_
 subst hu_
 obtain ⟨p0,u0⟩:=k0.agr B0
 refine bk h fun Y0 Q0 h=>Bs 4 31 b0 I .plain (bd 108) I (e2 I I) (fun p q=>bM_c n (p0.hL hL q) W0 (Aw (Ao D0 u0) q) (Aw (Ao E0 u0) q) X0 (Aw F0 q) (Aw G0 q) Q0) I fun J1 E1 C0 ⟨A1,B1,hu_,H0,I0⟩=>?_
 subst hu_
 obtain ⟨g0,p1⟩:=p0.agr C0
 refine bk h fun j0 R0 h=>BV 5 63 960 (.tuple #[.agg ((ab j0.1)).toArray,vI j0.2]) b0 I d0 (bd 93) I (e1 I) (fun p q=>bp_c n (g0.hL0 hL q) Y0 (g0.kd H0 q) (g0.kd I0 q) R0) I<|Rv 6 b0 I d0 (fun _=>Ak I I)<|Rv 7 b0 I d0 (fun _=>Ak I I)<|BG 8 511 b0 I I .plain (AE (news:=(ab j0.1)) g0 .hd I I I I I I (ai I)) fun K1 q0 q1=>Rv 9 b0 I d0 (fun _=>Be I)<|AN (dk b0)<|Am I<|Au hb0 func78 I (.cons (.many (cs:=(ab j0.1)) I I (q0.memA .hd)) (.cons (.tmp I) .nil)) I ?_
 cases h
 exact q0.gv
 refine Af<|Ac (AS (vs:=[]) (u:=.agg zM) ak (fun p=>by kernel_rfl))<|AV zL c0 .hd (ai I) fun M1 s0 s1=>Ag I<|Aa<|Am I<|Au hb0 func78 I (.cons (.many (cs:=zL) I I (s0.memA .hd)) (.cons (.tmp I) .nil)) I ?_
 cases h
 exact s0.gv
 refine Aq<|Aq<|Aq<|Bn I I<|Aa<|Bq I<|Af<|Ac (AS (vs:=[]) (u:=.agg zM) ak (fun p=>by kernel_rfl))<|AV zL c0 .hd (ai I) fun P1 t0 u1=>Ag I<|Aa<|Am I<|Au hb0 func78 I (.cons (.many (cs:=zL) I I (t0.memA .hd)) (.cons (.tmp I) .nil)) I ?_
 cases h
 exact t0.gv
def bI_p (n:Nat) (a0:Ta) (a1:Ta):Oa Ta:=
  (cP_p n a0 a1).bind fun b0=>some b0.1
theorem bI_c (n:Nat) {L w} (hL:hl L w) (a0:Ta) (a1:Ta)  {r:Ta} (h:bI_p n a0 a1 = some r) :
 Cl 43 #[.agg ((ab a0)).toArray,.agg ((ab a1)).toArray] w (ae w fun _ u=>u = .agg ((ab r)).toArray):=by
 unfold bI_p at h
 refine AF func43 I I I fun _ cs0 hb0=>Af<|RG.bx (AA w) I I fun D0 s0 j0 x0=>RG.bx j0 I I fun E0 t0 k0 y0=>RG.nl zL k0 fun F0 u0 c0 z0=>Aa<|Af<|Ac (AH I (c0.memA .t2))<|Ac (AH I (c0.memA .t1))<|bk h fun b0 q0 h=>Bj (.tuple #[.agg ((ab b0.1)).toArray,vI b0.2]) (bd 78) I (e2 I I) (fun p q=>cP_c n (c0.hL0 hL q) a0 a1 q0) I<|Ae I<|Ac (Ak I I)<|Ac (Ak I I)<|RG.nl zL c0 fun G0 v0 p0 A0=>AV (ab b0.1) p0 .hd (ai I) fun H0 d0 B0=>Ag I<|Aa<|Af<|Ac (AH I (d0.memA .hd))<|AV (ab b0.1) d0 .t1 (ai I) fun I0 g0 C0=>Aa<|Am I<|Au hb0 func43 I (.cons (.many (cs:=(ab b0.1)) I I (g0.memA .t1)) .nil) I ?_
 cases h
 exact g0.gv
def aW_l1 (n:Nat) (a0:List Ta) (D0:Nat × U16 -> Oa (U16)):Nat × U16 -> Oa (U16)
  | (c0,d0,g0,j0,k0,p0,q0,s0,t0,u0,v0,x0,y0,z0,A0,B0,C0)=>(if c0 < a0.length then (a0[c0]?).bind fun E0=>(bI_p n (⟨(d0,g0,j0,k0,p0,q0,s0,t0),(u0,v0,x0,y0,z0,A0,B0,C0)⟩:Ta) E0).bind fun b0=>D0 (c0 + 1,b0.fN.1,b0.fN.2.1,b0.fN.2.2.1,b0.fN.2.2.2.1,b0.fN.2.2.2.2.1,b0.fN.2.2.2.2.2.1,b0.fN.2.2.2.2.2.2.1,b0.fN.2.2.2.2.2.2.2,b0.fD.1,b0.fD.2.1,b0.fD.2.2.1,b0.fD.2.2.2.1,b0.fD.2.2.2.2.1,b0.fD.2.2.2.2.2.1,b0.fD.2.2.2.2.2.2.1,b0.fD.2.2.2.2.2.2.2) else some (d0,g0,j0,k0,p0,q0,s0,t0,u0,v0,x0,y0,z0,A0,B0,C0))
def aW_p (n:Nat) (a0:List Ta):Oa Ta:=
  (aI_p n (0:Int) (1:Int)).bind fun b0=>Option.bind (aj (aW_l1 n a0) n (0,b0.fN.1,b0.fN.2.1,b0.fN.2.2.1,b0.fN.2.2.2.1,b0.fN.2.2.2.2.1,b0.fN.2.2.2.2.2.1,b0.fN.2.2.2.2.2.2.1,b0.fN.2.2.2.2.2.2.2,b0.fD.1,b0.fD.2.1,b0.fD.2.2.1,b0.fD.2.2.2.1,b0.fD.2.2.2.2.1,b0.fD.2.2.2.2.2.1,b0.fD.2.2.2.2.2.2.1,b0.fD.2.2.2.2.2.2.2)) (fun (c0,d0,g0,j0,k0,p0,q0,s0,t0,u0,v0,x0,y0,z0,A0,B0)=>(cb_p n (⟨(c0,d0,g0,j0,k0,p0,q0,s0),(t0,u0,v0,x0,y0,z0,A0,B0)⟩:Ta) ((a0.length:Nat):Int)).bind fun C0=>some C0)
theorem aW_c (n:Nat) {L w} (hL:hl L w) {a0:List Ta} {v0_0:Vc} (h0_0:Rep.R w L [v0_0] a0)  {r:Ta} (h:aW_p n a0 = some r) :
 Cl 41 #[v0_0] w (ae w fun _ u=>u = .agg ((ab r)).toArray):=by
 unfold aW_p at h
 refine AF func41 I I I fun _ cs0 hb0=>Af<|RG.nl zL (AA w) fun G1 J0 M0 B1=>Aa<|Af<|bk h fun c0 s1 h=>Bj (.agg ((ab c0)).toArray) (bd 34) I (e2 I I) (fun p q=>aI_c n (M0.hL0 hL q)  s1) I<|RG.nl zL M0 fun J1 K0 V0 C1=>AV (ab c0) V0 .hd (ai I) fun K1 W0 D1=>Aa<|Aj<|Af<|Ag I<|Aa<|Ax ?_
 obtain ⟨F1,g1,b1⟩:=aq h
 refine MX.lo (α:=Nat × U16) (fun ⟨d0,k0,p0,q0,s0,t0,u0,v0,x0,y0,z0,A0,B0,C0,D0,E0,F0⟩=>[(0,v0_0),(2,vP J0),(3,vP K0),(4,vn d0)]) (fun ⟨d0,k0,p0,q0,s0,t0,u0,v0,x0,y0,z0,A0,B0,C0,D0,E0,F0⟩=>[.cells K0 [vU k0,vU p0,vU q0,vU s0,vU t0,vU u0,vU v0,vU x0,vU y0,vU z0,vU A0,vU B0,vU C0,vU D0,vU E0,vU F0] 48,.cells J0 zL 48]) (fun ⟨d0,k0,p0,q0,s0,t0,u0,v0,x0,y0,z0,A0,B0,C0,D0,E0,F0⟩=>(d0,k0,p0,q0,s0,t0,u0,v0,x0,y0,z0,A0,B0,C0,D0,E0,F0)) (0,c0.fN.1,c0.fN.2.1,c0.fN.2.2.1,c0.fN.2.2.2.1,c0.fN.2.2.2.2.1,c0.fN.2.2.2.2.2.1,c0.fN.2.2.2.2.2.2.1,c0.fN.2.2.2.2.2.2.2,c0.fD.1,c0.fD.2.1,c0.fD.2.2.1,c0.fD.2.2.2.1,c0.fD.2.2.2.2.1,c0.fD.2.2.2.2.2.1,c0.fD.2.2.2.2.2.2.1,c0.fD.2.2.2.2.2.2.2) g1 W0 ?_
 rintro x1 ⟨d0,k0,p0,q0,s0,t0,u0,v0,x0,y0,z0,A0,B0,C0,D0,E0,F0⟩ M1 R0 j0 X0 h
 unfold aW_l1 at h
 try dsimp only at h
 refine Aj<|Af<|Ae I<|Ae I ?_
 have H0:=AT h0_0 j0
 have E1:=AU H0
 refine Ac (Ba (xs:=a0) underlying85 I H0)<|Ac (Bp (i:=d0) (j:=a0.length) I I)<|Aa<|AQ I h (fun Q0 h=>?_) (fun Q0 h=>?_)
 refine Ar<|Aj<|Ax<|du 6 fun g0 G0=>Rx 0 96 g0 I G0 (AH I (j0.memA .hd))<|Rv 1 g0 I G0 (fun _=>Ai I)<|Rv 2 g0 I G0 (fun _=>Ai I)<|bk h fun u1 k1 h=>?_
 obtain ⟨v1,y1,Z0,c1,z1,j1,d1⟩:=Bh H0 k1
 obtain rfl:=bw j1
 refine Rv 3 g0 I G0 (fun _=>Bb 16 d0 I Z0 I I c1)<|Rx 4 96 g0 I G0 (AH I d1)<|bk h fun b0 p1 h=>BV 5 63 64 (.agg ((ab b0)).toArray) g0 I G0 (bd 43) I (e2 I I) (fun p q=>bI_c n (j0.hL0 hL q) (⟨(k0,p0,q0,s0,t0,u0,v0,x0),(y0,z0,A0,B0,C0,D0,E0,F0)⟩:Ta) u1 p1) I<|BG 6 127 g0 I I .plain (AE (news:=(ab b0)) j0 .hd I I I I I I (ai I)) fun H1 U0 Y0=>AN (dk g0)<|AC<|Ap<|Ae I<|Ac (Bl (i:=d0) (j:=1) I I (by omega))<|Ag I<|Aa<|R0 (d0 + 1,b0.fN.1,b0.fN.2.1,b0.fN.2.2.1,b0.fN.2.2.2.1,b0.fN.2.2.2.2.1,b0.fN.2.2.2.2.2.1,b0.fN.2.2.2.2.2.2.1,b0.fN.2.2.2.2.2.2.2,b0.fD.1,b0.fD.2.1,b0.fD.2.2.1,b0.fD.2.2.2.1,b0.fD.2.2.2.2.1,b0.fD.2.2.2.2.2.1,b0.fD.2.2.2.2.2.2.1,b0.fD.2.2.2.2.2.2.2) U0 (Tt X0 Y0) h
 refine AX I ?_
 have h:=b1 _ h
 try dsimp only at h
 refine Af<|Ac (AH I (j0.memA .hd))<|Ae I<|Ac (Ba (xs:=a0) underlying85 I H0)<|bk h fun I0 q1 h=>Bj (.agg ((ab I0)).toArray) (bd 42) I (e2 I I) (fun p q=>cb_c n (j0.hL0 hL q) (⟨(k0,p0,q0,s0,t0,u0,v0,x0),(y0,z0,A0,B0,C0,D0,E0,F0)⟩:Ta) q1) I<|AV (ab I0) j0 .t1 (ai I) fun I1 P0 A1=>Aa<|Am I<|Au hb0 func41 I (.cons (.many (cs:=(ab I0)) I I (P0.memA .t1)) .nil) I ?_
 cases h
 exact P0.gv
def bJ_p (n:Nat) (a0:Te) (a1:List Int) (a2:Int) (a3:Int) (a4:Int):Oa (Ta × Int):=
  (ap_p n a0 a1 a2 a3 a4).bind fun c0=>(if c0.2 = 0 then (ae_p n c0.1).bind fun b0=>(aW_p n b0).bind fun k0=>(cj (((b0.length:Nat):Int) - 1) 2).bind fun d0=>(idx b0 d0).bind fun g0=>(b0[b0.length / 2]?).bind fun j0=>(bI_p n g0 j0).bind fun p0=>(cb_p n p0 (2:Int)).bind fun q0=>(bq_p n k0 q0).bind fun s0=>some (s0,(0:Int)) else some ((⟨(0,0,0,0,0,0,0,0),(0,0,0,0,0,0,0,0)⟩:Ta),c0.2))
theorem bJ_c (n:Nat) {L w} (hL:hl L w) (a0:Te) {v0_3:Vc} (h0_3:Rep.R w L [v0_3] a0.ft) {a1:List Int} {v1_0:Vc} (h1_0:Rep.R w L [v1_0] a1) {a2:Int} {a3:Int} {a4:Int}  {r:Ta × Int} (h:bJ_p n a0 a1 a2 a3 a4 = some r) :
 Cl 9 #[.agg #[vI a0.fh,vI a0.fc,vI a0.fj,v0_3],v1_0,vI a2,vI a3,vI a4] w (ae w fun _ u=>u = .tuple #[.agg ((ab r.1)).toArray,vI r.2]):=by
 unfold bJ_p at h
 refine AF func9 I I I fun _ cs0 hb0=>Af<|RG.bx (AA w) I I fun K1 q1 z0 z1=>RG.nl zL z0 fun M1 s1 j0 A1=>Ag I<|Aa<|Af<|Ac (AH I (j0.memA .t1))<|Ae I<|Ae I<|Ae I<|Ae I<|bk h fun j1 V0 h=>jE (bd 32) I (e5 I I I I I) (fun p q=>ap_c n (j0.hL hL q) a0 (j0.km h0_3 q) (j0.km h1_0 q) V0) I fun P1 I1 A0 ⟨G1,hu_,J0⟩=>?_
 subst hu_
 obtain ⟨p0,B1⟩:=j0.agr A0
 refine Ae I<|Ac (Ak I I)<|Ac (Ak I I)<|Ag I<|Ag I<|Aa<|Aj<|Af<|Ae I<|Ac (FV.neq (i:=j1.2) (j:=0) I I)<|Aa<|MX.ifn I h (fun y0 h=>?_) (fun y0 h=>?_)
 refine Ar<|Af<|Ae I<|bk h fun g0 W0 h=>jE (bd 39) I (e1 I) (fun p q=>ae_c n (p0.hL hL q) (Aw J0 q) W0) I fun Q1 J1 B0 ⟨H1,hu_,k0⟩=>?_
 subst hu_
 obtain ⟨d0,C1⟩:=p0.agr B0
 refine Ag I<|Aa<|Af<|Ae I ?_
 have F1:=AU k0
 refine Ac (Ba (xs:=g0) underlying85 I k0)<|Ag I<|Aa<|Aj<|du 16 fun b0 c0=>Rv 0 b0 I c0 (fun _=>Ai I)<|bk h fun u0 X0 h=>BV 1 3 253952 (.agg ((ab u0)).toArray) b0 I c0 (bd 41) I (e1 I) (fun p q=>aW_c n (d0.hL0 hL q) (d0.kd k0 q) X0) I<|Rv 2 b0 I c0 (fun _=>Ai I)<|Rv 3 b0 I c0 (fun _=>Ai I)<|Rv 4 b0 I c0 (fun _=>FV.subI (i:=((g0.length:Nat):Int)) (j:=1) I I (by omega))<|bk h fun c1 P0 h=>Rv 5 b0 I c0 (fun _=>FV.quoc (i:=((g0.length:Nat):Int) - 1) (j:=2) I I P0)<|bk h fun d1 Q0 h=>?_
 obtain ⟨E0,R0⟩:=aA Q0
 obtain ⟨k1,u1,C0,F0,x1,K0,H0⟩:=Bh k0 R0
 obtain rfl:=bw K0
 refine Rv 6 b0 I c0 (fun _=>Bb 16 (c1.toNat) I C0 I E0 F0)<|Rx 7 253952 b0 I c0 (AH I H0)<|Rv 8 b0 I c0 (fun _=>Ai I)<|Rv 9 b0 I c0 (fun _=>Ai I)<|Rv 10 b0 I c0 (fun _=>FV.quoN (i:=g0.length) (j:=2) I I I (by omega))<|bk h fun g1 U0 h=>?_
 obtain ⟨p1,v1,D0,G0,y1,M0,I0⟩:=Bh k0 U0
 obtain rfl:=bw M0
 refine Rv 11 b0 I c0 (fun _=>Bb 16 (g0.length / 2) I D0 I I G0)<|Rx 12 253952 b0 I c0 (AH I I0)<|bk h fun v0 Y0 h=>BV 13 16383 245760 (.agg ((ab v0)).toArray) b0 I c0 (bd 43) I (e2 I I) (fun p q=>bI_c n (d0.hL0 hL q) d1 g1 Y0) I<|bk h fun x0 Z0 h=>BV 14 32767 229376 (.agg ((ab x0)).toArray) b0 I c0 (bd 42) I (e2 I I) (fun p q=>cb_c n (d0.hL0 hL q) v0 Z0) I<|bk h fun q0 b1 h=>BV 15 65535 196608 (.agg ((ab q0)).toArray) b0 I c0 (bd 40) I (e2 I I) (fun p q=>bq_c n (d0.hL0 hL q) u0 x0 b1) I<|BG 16 131071 b0 I I .plain (AE (news:=(ab q0)) d0 .hd I I I I I I (ai I)) fun R1 s0 D1=>Rv 17 b0 I c0 (fun _=>Be I)<|AN (dk b0)<|Am I<|Au hb0 func9 I (.cons (.many (cs:=(ab q0)) I I (s0.memA .hd)) (.cons (.tmp I) .nil)) I ?_
 cases h
 exact s0.gv
 refine Af<|Ac (AS (vs:=[]) (u:=.agg zM) ak (fun p=>by kernel_rfl))<|Ae I<|AV zL p0 .hd (ai I) fun U1 t0 E1=>Ag I<|Aa<|Am I<|Au hb0 func9 I (.cons (.many (cs:=zL) I I (t0.memA .hd)) (.cons (.tmp I) .nil)) I ?_
 cases h
 exact t0.gv
def aL_l1 (n:Nat) (k0:List Ta) (g0:Int × (List Td) -> Oa (List Td)):Int × (List Td) -> Oa (List Td)
  | (c0,b0)=>(if 0 <= c0 then (aI_p n (1:Int) (2:Int)).bind fun E0=>(idx k0 c0).bind fun A0=>(bq_p n E0 A0).bind fun p0=>(if 0 < b0.length then (b0[b0.length - 1]?).bind fun d0=>(if d0.fB = p0 then (chk (d0.fF + 1)).bind fun s0=>(put b0 ((b0.length - 1:Nat):Int) (⟨d0.fB,s0,d0.fH⟩:Td)).bind fun q0=>(q0[b0.length - 1]?).bind fun j0=>(chk (j0.fH + 1)).bind fun t0=>(put q0 ((b0.length - 1:Nat):Int) (⟨j0.fB,j0.fF,t0⟩:Td)).bind fun B0=>(chk (c0 - 1)).bind fun u0=>g0 (u0,B0) else (chk (((k0.length:Nat):Int) - c0)).bind fun v0=>(app b0 ([(⟨p0,v0,(1:Int)⟩:Td)]:List Td)).bind fun C0=>(chk (c0 - 1)).bind fun x0=>g0 (x0,C0)) else (chk (((k0.length:Nat):Int) - c0)).bind fun y0=>(app b0 ([(⟨p0,y0,(1:Int)⟩:Td)]:List Td)).bind fun D0=>(chk (c0 - 1)).bind fun z0=>g0 (z0,D0)) else some b0)
def aL_p (n:Nat) (a0:Te) (a1:List Int) (a2:Int) (a3:Int) (a4:Int):Oa ((List Td) × Int):=
  (ap_p n a0 a1 a2 a3 a4).bind fun b0=>(if b0.2 = 0 then (ae_p n b0.1).bind fun c0=>Option.bind (aj (aL_l1 n c0) n (((c0.length:Nat):Int) - 1,([]:List Td))) (fun d0=>some (d0,(0:Int))) else some (([]:List Td),b0.2))
theorem aL_c (n:Nat) {L w} (hL:hl L w) (a0:Te) {v0_3:Vc} (h0_3:Rep.R w L [v0_3] a0.ft) {a1:List Int} {v1_0:Vc} (h1_0:Rep.R w L [v1_0] a1) {a2:Int} {a3:Int} {a4:Int}  {r:(List Td) × Int} (h:aL_p n a0 a1 a2 a3 a4 = some r) :
 Cl 11 #[.agg #[vI a0.fh,vI a0.fc,vI a0.fj,v0_3],v1_0,vI a2,vI a3,vI a4] w (ae w fun w' u=>∃ v0_0:Vc,u = .tuple #[v0_0,vI r.2]/\Rep.R w' L [v0_0] r.1):=by
 unfold aL_p at h
 refine AF func11 I I I fun _ cs0 hb0=>Af<|RG.bx (AA w) I I fun K4 R3 D0 v4=>Ag I<|Ag I<|Aa<|Af<|Ac (AH I (D0.memA .hd))<|Ae I<|Ae I<|Ae I<|Ae I<|bk h fun K3 v3 h=>jE (bd 32) I (e5 I I I I I) (fun p q=>ap_c n (D0.hL hL q) a0 (D0.km h0_3 q) (D0.km h1_0 q) v3) I fun M4 J4 s2 ⟨H4,hu_,M2⟩=>?_
 subst hu_
 obtain ⟨E0,x4⟩:=D0.agr s2
 refine Ae I<|Ac (Ak I I)<|Ac (Ak I I)<|Ag I<|Ag I<|Aa<|Aj<|Af<|Ae I<|Ac (FV.neq (i:=K3.2) (j:=0) I I)<|Aa<|MX.ifn I h (fun H1 h=>?_) (fun H1 h=>?_)
 refine Ar<|Af<|Ae I<|bk h fun v0 x3 h=>jE (bd 39) I (e1 I) (fun p q=>ae_c n (E0.hL hL q) (Aw M2 q) x3) I fun P4 F3 u2 ⟨I4,hu_,G0⟩=>?_
 subst hu_
 obtain ⟨c1,y4⟩:=E0.agr u2
 refine Ag I<|Aa<|Af<|Ag I<|Aa<|Aj<|Af<|Ae I ?_
 have C4:=AU G0
 refine Ac (Ba (xs:=v0) underlying85 I G0)<|Ac (FV.subI (i:=((v0.length:Nat):Int)) (j:=1) I I (by omega))<|Ag I<|Aa<|Ax ?_
 have g1:=c1.nilRow 57 (Rep.size Td)
 obtain ⟨R1,j1⟩:=AK g1 (.a0 .done)
 obtain ⟨G4,K2,F2⟩:=aq h
 refine MX.lf (α:=Int × (List Td) × Vc × (List Vc)) (fun ⟨j0,c0,s0,x0⟩=>[(14,F3),(15,s0),(16,vI j0)]) (fun ⟨j0,c0,s0,x0⟩=>[rr w 57 Td s0 c0.length x0]) (fun ⟨j0,c0,s0,x0⟩ B1=>Cells B1 (bl [rr w 57 Td s0 c0.length x0] ++ L) x0 c0) (fun ⟨j0,c0,s0,x0⟩=>(j0,c0)) (((v0.length:Nat):Int) - 1,([]:List Td),vN,[]) K2 R1 (AB (AD (cs:=[]) (xs:=([]:List Td)) g1 L (AJ _ _)) j1) ?_
 rintro Q3 ⟨j0,c0,s0,x0⟩ B1 P0 y0 I0 J0 h
 unfold aL_l1 at h
 try dsimp only at h
 refine Aj<|Af<|Ae I<|Ac (FV.geq (i:=j0) (j:=0) I I)<|Aa<|AQ I h (fun I1 h=>?_) (fun I1 h=>?_)
 refine Ar<|Aj<|Ax<|Aj<|du 7 fun t0 B0=>bk h fun C1 y3 h=>BV 0 1 160 (.agg ((ab C1)).toArray) t0 I B0 (bd 34) I (e2 I I) (fun p q=>aI_c n (y0.hL0 hL q)  y3) I<|Rv 1 t0 I B0 (fun _=>Ai I)<|Rv 2 t0 I B0 (fun _=>Ai I)<|bk h fun G3 k3 h=>?_
 obtain ⟨G2,p3⟩:=aA k3
 have Y0:=Tt (BW c1 57 (Rep.size Td)) (Tt j1 I0)
 obtain ⟨M3,X3,B2,H2,k4,P2,I2⟩:=Bh (Ao G0 Y0) p3
 obtain rfl:=bw P2
 refine Rv 3 t0 I B0 (fun _=>Bb 16 (j0.toNat) I B2 I G2 H2)<|Rx 4 160 t0 I B0 (AH I I2)<|bk h fun b0 z3 h=>BV 5 63 128 (.agg ((ab b0)).toArray) t0 I B0 (bd 40) I (e2 I I) (fun p q=>bq_c n (y0.hL0 hL q) C1 G3 z3) I<|BS 6 127 t0 I .plain I (Az zL y0) fun Q4 U3 U1 z0=>BG 7 255 t0 I I .plain (AE (news:=(ab b0)) U1 .hd I I I I I I (ai I)) fun R4 k0 A0=>AN (dk t0)<|Af<|Ae I ?_
 have D4:c0.length <= 4294967296:=St.rowLe (α:=Td) k0 .t1
 obtain ⟨P3,Y3,C2⟩:=St.rowV (α:=Td) k0 .t1
 refine Ac (FV.lenV underlying52 I C2)<|Ag I<|Aa<|Aj<|Aj<|du 12 fun d0 g0=>Rv 0 d0 I g0 (fun _=>Ai I)<|Rv 1 d0 I g0 (fun _=>FV.gtrN (i:=c0.length) (j:=0) I I)<|Rv 2 d0 I g0 (fun _=>Ai I)<|RD.ifd (s:=50) I h (fun J1 h=>?_) (fun J1 h=>?_)
 refine BJ 3 15 d0 I g0 (.yes I I) (fun _=>Ai I) I<|BJ 4 31 d0 I g0 (.yes I I) (fun _=>Ai I) I<|BJ 5 63 d0 I g0 (.yes I I) (fun _=>FV.subN (i:=c0.length) (j:=1) I I (by omega) (by omega)) I<|bk h fun u0 z1 h=>?_
 have X0:=AB J0 (Tt z0 A0)
 obtain ⟨D1,Z3,F0,M0,p4,Q2,v1⟩:=BU (α:=Td) k0 .t1 X0 z1
 obtain ⟨F1,b4,s1⟩:=By (α:=Td) k0 .t1 M0
 obtain rfl:D1 = ⟨F1,0,none⟩:=by rw [s1] at F0; cases F0; rfl
 obtain rfl:=dP Q2
 refine BJ 6 127 d0 I g0 (.yes I I) (fun _=>Bb 18 (c0.length - 1) I F0 I I M0) I<|BJ 7 255 d0 I g0 (.yes I I) (fun _=>Bi 0 I) I<|RD.val (i:=8) (m' :=511) (W:=3072) (tk d0) I g0 (.yes I I) (Bk (cs:=(ab u0.fB)) I I (ah v1 0 16)) I<|RD.val (i:=9) (m' :=1023) (W:=3072) (tk d0) I g0 (.yes I I) (AH I (k0.memA .hd)) I<|BJ 10 2047 d0 I g0 (.yes I I) (fun _=>FV.eqlV (v:=.agg ((ab u0.fB)).toArray) (u:=.agg ((ab b0)).toArray) I I (dC u0.fB b0)) I<|Rv 11 d0 I g0 (fun _=>BN I I)<|AN (dk d0)<|AQ I h (fun K1 h=>?_) (fun K1 h=>?_)
 refine Af<|Ae I<|Ae I<|Ac (FV.subN (i:=c0.length) (j:=1) I I (by omega) (by omega))<|Ac (Bb 18 (c0.length - 1) I F0 I I M0)<|Bd 16 I<|AR I (v1 16 _ I)<|bk h fun Z0 Y2 h=>Ac (Bw (i:=u0.fF) (j:=1) I I Y2)<|Ac (Bb 18 (c0.length - 1) I F0 I I M0)<|Bd 16 I ?_
 obtain ⟨c4,D2,A4,q4,R2,E4,z2⟩:=St.nthAt (α:=Td) k0 .t1 X0 z1 s1
 obtain rfl:=dP R2
 refine bk h fun b5 q3 h=>RG.acts' .plain (Acts.setPart (α:=Td) (i:=c0.length - 1) (tot:=16) (ds:=(il u0)) (news:=[vI Z0]) (full:=(ab u0.fB ++ ([vI Z0,vI u0.fH]:List Vc))) q3 k0 D2 (fun _=>.t1) X0 z2 I I I I I I (cS u0.fB Z0 u0.fH) I (o1 I)) fun U4 ⟨s4,H0,c2,V0⟩=>Aa<|Af<|Ae I<|Ae I<|Ac (FV.subN (i:=c0.length) (j:=1) I I (by omega) (by omega))<|bk h fun C0 A1 h=>?_
 obtain ⟨E1,d4,K0,W0,t4,U2,J2⟩:=BU (α:=Td) H0 .t1 V0 A1
 obtain ⟨G1,g4,u1⟩:=By (α:=Td) H0 .t1 W0
 obtain rfl:E1 = ⟨G1,0,none⟩:=by rw [u1] at K0; cases K0; rfl
 obtain rfl:=dP U2
 refine Ac (Bb 18 (c0.length - 1) I K0 I I W0)<|Bd 17 I<|AR I (J2 17 _ I)<|bk h fun b1 Z2 h=>Ac (Bw (i:=C0.fH) (j:=1) I I Z2)<|Ac (Bb 18 (c0.length - 1) I K0 I I W0)<|Bd 17 I ?_
 obtain ⟨j4,E2,B4,u4,V2,F4,A2⟩:=St.nthAt (α:=Td) H0 .t1 V0 A1 u1
 obtain rfl:=dP V2
 refine bk h fun H3 s3 h=>RG.acts' .plain (Acts.setPart (α:=Td) (i:=c0.length - 1) (tot:=17) (ds:=(il C0)) (news:=[vI b1]) (full:=(ab C0.fB ++ ([vI C0.fF,vI b1]:List Vc))) s3 H0 E2 (fun _=>.t1) V0 A2 I I I I I I (cS C0.fB C0.fF b1) I (o1 I)) fun V4 ⟨M1,V1,g2,v2⟩=>Aa<|AX I<|Ap<|Ae I<|bk h fun A3 b3 h=>Ac (BQ (i:=j0) (j:=1) I I b3)<|Ag I<|Aa ?_
 obtain ⟨W1,k1⟩:=AK V1 .d1
 exact P0 (A3,H3,s0,M1) W1 (Tt I0 (Tt z0 (Tt A0 (Tt c2 (Tt g2 k1))))) (AB v2 k1) h
 refine Ar<|Ap<|Ae I<|Ac (AH I (k0.memA .hd))<|Ae I<|Ac (Ba (xs:=v0) underlying85 I (Ao G0 (Tt Y0 (Tt z0 A0))))<|Ae I<|bk h fun p0 c3 h=>Ac (BQ (i:=((v0.length:Nat):Int)) (j:=j0) I I c3)<|Ac (AS (vs:=[.agg ((ab b0)).toArray,vI p0,vI 1]) (u:=.agg ((ab b0 ++ ([vI p0,vI 1]:List Vc))).toArray) (e3 I I I) (fun p=>by kernel_rfl))<|Al .plain I (AL (α:=Td) (xs:=([(⟨b0,p0,(1:Int)⟩:Td)]:List Td)) (vs:=[.agg ((ab b0 ++ ([vI p0,vI 1]:List Vc))).toArray]) (ds' :=(ab b0 ++ ([vI p0,vI 1]:List Vc))) I k0 iZ I (e1 I) (by kernel_rfl) I) fun W4 V3 Q0 j2=>bk h fun I3 t3 h=>?_
 have x1:=Tt z0 (Tt A0 j2)
 refine RG.doesL .plain I (Bf (α:=Td) (ys:=([(⟨b0,p0,(1:Int)⟩:Td)]:List Td)) t3 Q0 (fun _ _=>.t2) iZ I I (AB J0 x1) (Src.row (α:=Td) Q0 .hd (AD (cs:=(ab b0 ++ ([vI p0,vI 1]:List Vc))) (xs:=(([(⟨b0,p0,(1:Int)⟩:Td)]:List Td):List Td)) Q0 L (Av (cs:=(ab b0 ++ ([vI p0,vI 1]:List Vc))) (ds:=[]) (cS b0 p0 (1:Int)) (AJ _ _))))) fun D3 X4 ⟨P1,X1,k2,x2⟩=>Ag I<|Aa<|AC<|Ap<|Ae I<|bk h fun B3 d3 h=>Ac (BQ (i:=j0) (j:=1) I I d3)<|Ag I<|Aa ?_
 obtain ⟨Y1,p1⟩:=AK X1 .d2
 exact P0 (B3,I3,D3,P1) Y1 (Tt I0 (Tt x1 (Tt k2 p1))) (AB x2 p1) h
 refine Br 2047 1 [(3,51),(4,52),(5,53),(6,54),(7,55),(8,56),(9,57),(10,58)] (F:=[(50,false)]) (U:=[]) d0 g0 (.cons I .nil) .nil ?_
 dsimp only [aF,List.map]
 refine Rv 11 d0 I g0 (fun _=>AZ I I)<|AN (dk d0)<|BF I<|Ar<|Ap<|Ae I<|Ac (AH I (k0.memA .hd))<|Ae I<|Ac (Ba (xs:=v0) underlying85 I (Ao G0 (Tt Y0 (Tt z0 A0))))<|Ae I<|bk h fun q0 g3 h=>Ac (BQ (i:=((v0.length:Nat):Int)) (j:=j0) I I g3)<|Ac (AS (vs:=[.agg ((ab b0)).toArray,vI q0,vI 1]) (u:=.agg ((ab b0 ++ ([vI q0,vI 1]:List Vc))).toArray) (e3 I I I) (fun p=>by kernel_rfl))<|Al .plain I (AL (α:=Td) (xs:=([(⟨b0,q0,(1:Int)⟩:Td)]:List Td)) (vs:=[.agg ((ab b0 ++ ([vI q0,vI 1]:List Vc))).toArray]) (ds' :=(ab b0 ++ ([vI q0,vI 1]:List Vc))) I k0 iZ I (e1 I) (by kernel_rfl) I) fun Y4 W3 R0 p2=>bk h fun J3 u3 h=>?_
 have y1:=Tt z0 (Tt A0 p2)
 refine RG.doesL .plain I (Bf (α:=Td) (ys:=([(⟨b0,q0,(1:Int)⟩:Td)]:List Td)) u3 R0 (fun _ _=>.t2) iZ I I (AB J0 y1) (Src.row (α:=Td) R0 .hd (AD (cs:=(ab b0 ++ ([vI q0,vI 1]:List Vc))) (xs:=(([(⟨b0,q0,(1:Int)⟩:Td)]:List Td):List Td)) R0 L (Av (cs:=(ab b0 ++ ([vI q0,vI 1]:List Vc))) (ds:=[]) (cS b0 q0 (1:Int)) (AJ _ _))))) fun E3 Z4 ⟨Q1,Z1,q2,y2⟩=>Ag I<|Aa<|AC<|Ap<|Ae I<|bk h fun C3 j3 h=>Ac (BQ (i:=j0) (j:=1) I I j3)<|Ag I<|Aa ?_
 obtain ⟨b2,q1⟩:=AK Z1 .d2
 exact P0 (C3,J3,E3,Q1) b2 (Tt I0 (Tt y1 (Tt q2 q1))) (AB y2 q1) h
 refine AX I ?_
 have h:=F2 _ h
 try dsimp only at h
 refine Af<|Ae I<|Ag I<|Ag I<|Aa<|Am I ?_
 have U0:=BA y0 .hd
 have z4:=BB y0 .hd
 have W2:=BC (α:=Td) (v:=s0) (xs:=c0) U0 L (Bg (α:=Td) y0 .hd J0 hL)
 refine Au hb0 func11 I (.cons (.tmp I) (.cons (.tmp I) .nil)) I ?_
 cases h
 exact ⟨U0.ag,fun p q=>⟨s0,I,U0.kd W2 q⟩⟩
 refine Af<|Ae I<|Ag I<|Ag I<|Aa<|Am I ?_
 have X2:=Rep.nilAt (α:=Td) E0 L
 refine Au hb0 func11 I (.cons (.tmp I) (.cons (.tmp I) .nil)) I ?_
 cases h
 exact ⟨E0.ag,fun p q=>⟨vN,I,E0.kd X2 q⟩⟩
def aR_l1 (n:Nat) (c0:List Ta) (u0:Ta) (t0:Ta) (g0:Int × Nat -> Oa Int):Int × Nat -> Oa Int
  | (d0,b0)=>(if b0 < c0.length then (chk (d0 + 1)).bind fun j0=>(c0[b0]?).bind fun p0=>(bI_p n p0 u0).bind fun q0=>(co_p n q0 t0).bind fun s0=>(chk (j0 + s0)).bind fun k0=>g0 (k0,b0 + 1) else some d0)
def aR_p (n:Nat) (a0:Te) (a1:List Int) (a2:Int) (a3:Int) (a4:Int):Oa (Ta × Int):=
  (ap_p n a0 a1 a2 a3 a4).bind fun b0=>(if b0.2 = 0 then (ae_p n b0.1).bind fun c0=>(aI_p n (1:Int) (2:Int)).bind fun d0=>(aW_p n c0).bind fun p0=>(bq_p n d0 p0).bind fun q0=>Option.bind (aj (aR_l1 n c0 q0 d0) n (0,0)) (fun s0=>(chk (2 * ((c0.length:Nat):Int))).bind fun g0=>(aI_p n s0 g0).bind fun j0=>(bq_p n j0 d0).bind fun k0=>some (k0,(0:Int))) else some ((⟨(0,0,0,0,0,0,0,0),(0,0,0,0,0,0,0,0)⟩:Ta),b0.2))
theorem aR_c (n:Nat) {L w} (hL:hl L w) (a0:Te) {v0_3:Vc} (h0_3:Rep.R w L [v0_3] a0.ft) {a1:List Int} {v1_0:Vc} (h1_0:Rep.R w L [v1_0] a1) {a2:Int} {a3:Int} {a4:Int}  {r:Ta × Int} (h:aR_p n a0 a1 a2 a3 a4 = some r) :
 Cl 13 #[.agg #[vI a0.fh,vI a0.fc,vI a0.fj,v0_3],v1_0,vI a2,vI a3,vI a4] w (ae w fun _ u=>u = .tuple #[.agg ((ab r.1)).toArray,vI r.2]):=by
 unfold aR_p at h
 refine AF func13 I I I fun _ cs0 hb0=>Af<|RG.bx (AA w) I I fun B2 b2 Z0 g2=>RG.nl zL Z0 fun E2 C0 t0 p2=>Ag I<|Aa<|Af<|Ac (AH I (t0.memA .t1))<|Ae I<|Ae I<|Ae I<|Ae I<|bk h fun X1 J1 h=>jE (bd 32) I (e5 I I I I I) (fun p q=>ap_c n (t0.hL hL q) a0 (t0.km h0_3 q) (t0.km h1_0 q) J1) I fun F2 A2 p1 ⟨y2,hu_,A1⟩=>?_
 subst hu_
 obtain ⟨A0,q2⟩:=t0.agr p1
 refine Ae I<|Ac (Ak I I)<|Ac (Ak I I)<|Ag I<|Ag I<|Aa<|Aj<|Af<|Ae I<|Ac (FV.neq (i:=X1.2) (j:=0) I I)<|Aa<|MX.ifn I h (fun W0 h=>?_) (fun W0 h=>?_)
 refine Ar<|Af<|Ae I<|bk h fun v0 K1 h=>jE (bd 39) I (e1 I) (fun p q=>ae_c n (A0.hL hL q) (Aw A1 q) K1) I fun G2 V1 q1 ⟨z2,hu_,M0⟩=>?_
 subst hu_
 obtain ⟨H0,s2⟩:=A0.agr q1
 refine Ag I<|Aa<|Af<|bk h fun q0 M1 h=>Bj (.agg ((ab q0)).toArray) (bd 34) I (e2 I I) (fun p q=>aI_c n (H0.hL0 hL q)  M1) I<|RG.nl zL H0 fun H2 D0 b1 J0=>AV (ab q0) b1 .hd (ai I) fun I2 u0 K0=>Aa<|Aj<|du 5 fun p0 y0=>Rx 0 40 p0 I y0 (AH I (u0.memA .hd))<|Rv 1 p0 I y0 (fun _=>Ai I)<|bk h fun U0 P1 h=>BV 2 7 40 (.agg ((ab U0)).toArray) p0 I y0 (bd 41) I (e1 I) (fun p q=>aW_c n (u0.hL0 hL q) (u0.kd (Ao M0 (Tt J0 K0)) q) P1) I<|bk h fun z0 Q1 h=>BV 3 15 32 (.agg ((ab z0)).toArray) p0 I y0 (bd 40) I (e2 I I) (fun p q=>bq_c n (u0.hL0 hL q) q0 U0 Q1) I<|BS 4 31 p0 I .plain I (Az zL u0) fun J2 E0 c1 j1=>BG 5 63 p0 I I .plain (AE (news:=(ab z0)) c1 .hd I I I I I I (ai I)) fun K2 d1 k1=>AN (dk p0)<|Af<|Ag I<|Aa<|Aj<|Af<|Ag I<|Aa<|Ax ?_
 obtain ⟨Y0,g1⟩:=AK d1 (.a0 (.a0 (.a0 .done)))
 obtain ⟨v2,y1,u1⟩:=aq h
 refine MX.lo (α:=Int × Nat) (fun ⟨s0,j0⟩=>[(10,vP C0),(14,V1),(15,vP D0),(16,vP E0),(17,vI s0),(18,vn j0)]) (fun ⟨s0,j0⟩=>[.cells E0 (ab z0) 48,.cells D0 (ab q0) 48,.cells C0 zL 48]) (fun ⟨s0,j0⟩=>(s0,j0)) (0,0) y1 Y0 ?_
 rintro Z1 ⟨s0,j0⟩ M2 X0 g0 I0 h
 unfold aR_l1 at h
 try dsimp only at h
 refine Aj<|Af<|Ae I<|Ae I ?_
 have x0:=Ao M0 (Tt J0 (Tt K0 (Tt j1 (Tt k1 (Tt g1 I0)))))
 have u2:=AU x0
 refine Ac (Ba (xs:=v0) underlying85 I x0)<|Ac (Bp (i:=j0) (j:=v0.length) I I)<|Aa<|AQ I h (fun V0 h=>?_) (fun V0 h=>?_)
 refine Ar<|Aj<|Ax<|du 12 fun b0 c0=>Rv 0 b0 I c0 (fun _=>Ai I)<|bk h fun R1 B1 h=>Rv 1 b0 I c0 (fun _=>Bw (i:=s0) (j:=1) I I B1)<|Rv 2 b0 I c0 (fun _=>Ai I)<|Rv 3 b0 I c0 (fun _=>Ai I)<|bk h fun W1 E1 h=>?_
 obtain ⟨Y1,c2,s1,v1,d2,z1,x1⟩:=Bh x0 E1
 obtain rfl:=bw z1
 refine Rv 4 b0 I c0 (fun _=>Bb 16 j0 I s1 I I v1)<|Rx 5 3712 b0 I c0 (AH I x1)<|Rx 6 3712 b0 I c0 (AH I (g0.memA .hd))<|bk h fun P0 F1 h=>BV 7 255 3584 (.agg ((ab P0)).toArray) b0 I c0 (bd 43) I (e2 I I) (fun p q=>bI_c n (g0.hL0 hL q) W1 z0 F1) I<|Rx 8 3584 b0 I c0 (AH I (g0.memA .t1))<|bk h fun Q0 G1 h=>BV 9 1023 3072 (vI Q0) b0 I c0 (bd 50) I (e2 I I) (fun p q=>co_c n (g0.hL0 hL q) P0 q0 G1) I<|bk h fun U1 C1 h=>Rv 10 b0 I c0 (fun _=>Bw (i:=R1) (j:=Q0) I I C1)<|Rv 11 b0 I c0 (fun _=>Be I)<|AN (dk b0)<|AC<|Ap<|Ae I<|Ac (Bl (i:=j0) (j:=1) I I (by omega))<|Ag I<|Aa<|X0 (U1,j0 + 1) g0 I0 h
 refine AX I ?_
 have h:=u1 _ h
 try dsimp only at h
 refine Aj<|du 7 fun d0 k0=>Rv 0 d0 I k0 (fun _=>Ai I)<|Rv 1 d0 I k0 (fun _=>Ai I)<|Rx 2 472 d0 I k0 (Ba (xs:=v0) underlying85 I x0)<|bk h fun x2 D1 h=>Rv 3 d0 I k0 (fun _=>FV.mulc (i:=2) (j:=((v0.length:Nat):Int)) I I D1)<|bk h fun R0 H1 h=>BV 4 31 448 (.agg ((ab R0)).toArray) d0 I k0 (bd 34) I (e2 I I) (fun p q=>aI_c n (g0.hL0 hL q)  H1) I<|Rx 5 448 d0 I k0 (AH I (g0.memA .t1))<|bk h fun B0 I1 h=>BV 6 127 384 (.agg ((ab B0)).toArray) d0 I k0 (bd 40) I (e2 I I) (fun p q=>bq_c n (g0.hL0 hL q) R0 q0 I1) I<|BG 7 255 d0 I I .plain (AE (news:=(ab B0)) g0 .t2 I I I I I I (ai I)) fun C2 F0 j2=>Rv 8 d0 I k0 (fun _=>Be I)<|AN (dk d0)<|Am I<|Au hb0 func13 I (.cons (.many (cs:=(ab B0)) I I (F0.memA .t2)) (.cons (.tmp I) .nil)) I ?_
 cases h
 exact F0.gv
 refine Af<|Ac (AS (vs:=[]) (u:=.agg zM) ak (fun p=>by kernel_rfl))<|Ae I<|AV zL A0 .hd (ai I) fun D2 G0 k2=>Ag I<|Aa<|Am I<|Au hb0 func13 I (.cons (.many (cs:=zL) I I (G0.memA .hd)) (.cons (.tmp I) .nil)) I ?_
 cases h
 exact G0.gv
def aj_l1 (n:Nat) (a4:Int) (a5:Int) (b0:Tk) (d0:(List Tk) × Int) (x0:Nat -> Oa ((Bool ⊕ Unit) ⊕ Unit)):Nat -> Oa ((Bool ⊕ Unit) ⊕ Unit)
  | g0=>(if g0 < 3 then (([((0:Int),(1:Int)),((2:Int),(1:Int)),(a4,a5)]:List (Int × Int))[g0]?).bind fun c0=>(cQ_p n b0.fr b0.fp d0.2 c0.1 c0.2).bind fun j0=>(aV_p n b0.fr b0.fp d0.2 c0.1 c0.2).bind fun k0=>(cJ_p n b0.fr b0.fp d0.2 c0.1 c0.2).bind fun p0=>(bJ_p n b0.fr b0.fp d0.2 c0.1 c0.2).bind fun q0=>(if j0.1 = k0.1 then (if j0.2 = k0.2 then (if p0.1 = q0.1 then (if p0.2 = q0.2 then (cK_p n b0.fr b0.fp d0.2 c0.1 c0.2).bind fun s0=>(aL_p n b0.fr b0.fp d0.2 c0.1 c0.2).bind fun t0=>(dA_p n b0.fr b0.fp d0.2 c0.1 c0.2).bind fun u0=>(aR_p n b0.fr b0.fp d0.2 c0.1 c0.2).bind fun v0=>(ai_p n s0.1 t0.1).bind fun y0=>(if y0 = true then (if s0.2 = t0.2 then (if u0.1 = v0.1 then (if u0.2 = v0.2 then x0 (g0 + 1) else some (.inl (.inl false))) else some (.inl (.inl false))) else some (.inl (.inl false))) else some (.inl (.inl false))) else some (.inl (.inl false))) else some (.inl (.inl false))) else some (.inl (.inl false))) else some (.inl (.inl false))) else some (.inr ()))
def aj_l2 (n:Nat) (c0:(List Tk) × Int) (a4:Int) (a5:Int) (d0:Nat -> Oa (Bool ⊕ Unit)):Nat -> Oa (Bool ⊕ Unit)
  | b0=>(if b0 < c0.1.length then (c0.1[b0]?).bind fun g0=>thn (aj (aj_l1 n a4 a5 g0 c0) n 0) (fun _=>d0 (b0 + 1)) else some (.inr ()))
def aj_p (n:Nat) (a0:Tm) (a1:Tl) (a2:Tn) (a3:Tn) (a4:Int) (a5:Int):Oa Bool:=
  (cR_p n).bind fun b0=>(if b0 = true then (ck_p n a0 a1 a2 a3).bind fun c0=>thn (aj (aj_l2 n c0 a4 a5) n 0) (fun _=>some true) else some false)
theorem aj_c (n:Nat) {L w} (hL:hl L w) (a0:Tm) {v0_1:Vc} (h0_1:Rep.R w L [v0_1] a0.fC) {v0_2:Vc} (h0_2:Rep.R w L [v0_2] a0.fMore) {v0_3:Vc} (h0_3:Rep.R w L [v0_3] a0.fLabels) (a1:Tl) {v1_4:Vc} (h1_4:Rep.R w L [v1_4] a1.fNums) (a2:Tn) (a3:Tn) {a4:Int} {a5:Int}  {r:Bool} (h:aj_p n a0 a1 a2 a3 a4 a5 = some r) :
 Cl 3 #[.agg #[.int .u8 (a0.fN.toNat:Int),v0_1,v0_2,v0_3,.int .u8 (a0.fK.toNat:Int)],.agg #[.int .u8 (a1.fh.toNat:Int),.int .u8 (a1.fc.toNat:Int),.int .u8 (a1.fj.toNat:Int),.int .u8 (a1.fu.toNat:Int),v1_4],.agg #[.int .u8 (a2.fG.toNat:Int),.int .u8 (a2.fB.toNat:Int),vI a2.fN],.agg #[.int .u8 (a3.fG.toNat:Int),.int .u8 (a3.fB.toNat:Int),vI a3.fN],vI a4,vI a5] w (ae w fun _ u=>u = .bool r):=by
 unfold aj_p at h
 refine AF func3 I I I fun _ cs0 hb0=>Af<|RG.bx (AA w) I I fun x4 E3 c2 X3=>RG.bx c2 I I fun y4 F3 d2 Y3=>RG.bx d2 I I fun z4 G3 g2 Z3=>RG.bx g2 I I fun A4 H3 d0 b4=>Ag I<|Aa<|Aj<|Af<|bk h fun x3 Z2 h=>Bj (.bool x3) (bd 4) I ak (fun p q=>cR_c n (d0.hL0 hL q)  Z2) I<|Ac (Bu I)<|Aa<|MX.ifnb I h (fun J1 h=>?_) (fun J1 h=>?_)
 refine Ar<|Af<|Ac (AH I (d0.memA .t3))<|Ac (AH I (d0.memA .t2))<|Ac (AH I (d0.memA .t1))<|Ac (AH I (d0.memA .hd))<|bk h fun C0 b3 h=>jE (bd 5) I (e4 I I I I) (fun p q=>ck_c n (d0.hL hL q) a0 (d0.km h0_1 q) (d0.km h0_2 q) (d0.km h0_3 q) a1 (d0.km h1_4 q) a2 a3 b3) I fun B4 s4 G2 ⟨H1,hu_,g1⟩=>?_
 subst hu_
 obtain ⟨p2,c4⟩:=d0.agr G2
 refine Ae I<|Ac (Ak I I)<|Ac (Ak I I)<|Ag I<|Ag I<|Aa<|Aj<|Af<|Ae I ?_
 have d4:=AU g1
 refine Ac (Ba (xs:=C0.1) underlying32 I g1)<|Ae I<|Aa<|Ax ?_
 obtain ⟨j2,D2⟩:=AK p2 .done
 refine tn h fun g4 P2 p0=>MX.lo (α:=Nat) (fun j0=>[(4,vI a4),(5,vI a5),(14,vI C0.2),(41,H1),(42,vn C0.1.length),(43,vn j0)]) (fun j0=>[]) (fun j0=>j0) 0 P2 j2 ?_
 rintro C3 j0 Z4 Z1 k1 q1 h
 unfold aj_l2 at h
 try dsimp only at h
 refine Af<|Ac (Bp (i:=j0) (j:=C0.1.length) I I)<|Aa<|Aj<|AQ I h (fun K1 h=>?_) (fun K1 h=>?_)
 refine Ar<|Aj<|Ax<|Af<|bk h fun b0 Y2 h=>?_
 obtain ⟨B3,U3,J2,K2,V3,R2,M2⟩:=Bh (Ao g1 (Tt D2 q1)) Y2
 obtain ⟨k0,G1,rfl,s0,t0⟩:=op_Tk R2
 refine Ac (Bb 5 j0 I J2 I I K2)<|Ac (AH I M2)<|RG.nl [vI 0,vI 0,vI 0,vN,vN] k1 fun C4 j1 k2 M0=>AV [vI b0.fr.fh,vI b0.fr.fc,vI b0.fr.fj,k0,G1] k2 .hd (o5 I I I (AY (Ao s0 M0)) (AY (Ao t0 M0))) fun D4 q2 s1=>Aa<|Af<|Ac (AS (vs:=[vI 0,vI 1]) (u:=.agg #[vI 0,vI 1]) (e2 I I) (fun p=>by kernel_rfl))<|Ac (AS (vs:=[vI 2,vI 1]) (u:=.agg #[vI 2,vI 1]) (e2 I I) (fun p=>by kernel_rfl))<|Ae I<|Ae I<|Ac (AS (vs:=[vI a4,vI a5]) (u:=.agg #[vI a4,vI a5]) (e2 I I) (fun p=>by kernel_rfl))<|Ac (AS (vs:=[.agg #[vI 0,vI 1],.agg #[vI 2,vI 1],.agg #[vI a4,vI a5]]) (u:=.agg #[vI 0,vI 1,vI 2,vI 1,vI a4,vI a5]) (e3 I I I) (fun p=>by kernel_rfl))<|Ae I<|Aa<|Ax<|tn h fun j4 Q2 q0=>MX.lo (α:=Nat) (fun B0=>[(4,vI a4),(5,vI a5),(14,vI C0.2),(41,H1),(42,vn C0.1.length),(43,vn j0),(16,vP j1),(52,.agg #[vI 0,vI 1,vI 2,vI 1,vI a4,vI a5]),(53,vn B0)]) (fun B0=>[.cells j1 [vI b0.fr.fh,vI b0.fr.fc,vI b0.fr.fj,k0,G1] 41]) (fun B0=>B0) 0 Q2 q2 ?_
 rintro D3 B0 b5 b2 p1 U0 h
 unfold aj_l1 at h
 try dsimp only at h
 refine Af<|Ac (Bp (i:=B0) (j:=3) I I)<|Aa<|Aj<|AQ I h (fun M1 h=>?_) (fun M1 h=>?_)
 refine Ar<|Aj<|Ax<|Af<|bk h fun I1 v3 h=>RG.valE .plain I (FV.idxR (L:=[]) (css:=[[vI 0,vI 1],[vI 2,vI 1],[vI a4,vI a5]]) (xs:=([((0:Int),(1:Int)),((2:Int),(1:Int)),(a4,a5)]:List (Int × Int))) (len:=3) I I I I I I I (.cons (cW (0:Int) (1:Int)) (.cons (cW (2:Int) (1:Int)) (.cons (cW a4 a5) .nil))) v3) fun k4 ⟨W3,X2,U2⟩=>?_
 subst X2
 obtain rfl:=fO U2
 refine RG.nl [vI 0,vI 0] p1 fun E4 I3 s2 u1=>AV [vI I1.1,vI I1.2] s2 .hd (ai I) fun F4 u0 v1=>Aa<|Af<|Bd 0 I<|Ac (Bk (cs:=[vI b0.fr.fh,vI b0.fr.fc,vI b0.fr.fj,k0]) I I (ah (u0.memA .t1) 0 4))<|Bd 4 I<|AR I ((u0.memA .t1) 4 _ I)<|Ae I<|Ac (AO (m:=1) (k:=0) (len:=2) I I I I (by omega))<|AR I ((u0.memA .hd) 0 _ I)<|Ac (AO (m:=1) (k:=1) (len:=2) I I I I (by omega))<|AR I ((u0.memA .hd) 1 _ I)<|bk h fun E0 c3 h=>?_
 have Y0:=Tt M0 (Tt s1 (Tt U0 (Tt u1 v1)))
 refine Bj (.tuple #[.agg ((ab E0.1)).toArray,vI E0.2]) (bd 6) I (e5 I I I I I) (fun p q=>cQ_c n (u0.hL0 hL q) b0.fr (u0.kd (Ao s0 Y0) q) (u0.kd (Ao t0 Y0) q) c3) I<|Ae I<|Ac (Ak I I)<|Ac (Ak I I)<|RG.nl zL u0 fun G4 J3 u2 x1=>AV (ab E0.1) u2 .hd (ai I) fun H4 v0 y1=>Ag I<|Aa<|Af<|Bd 0 I<|Ac (Bk (cs:=[vI b0.fr.fh,vI b0.fr.fc,vI b0.fr.fj,k0]) I I (ah (v0.memA .t2) 0 4))<|Bd 4 I<|AR I ((v0.memA .t2) 4 _ I)<|Ae I<|Ac (AO (m:=1) (k:=0) (len:=2) I I I I (by omega))<|AR I ((v0.memA .t1) 0 _ I)<|Ac (AO (m:=1) (k:=1) (len:=2) I I I I (by omega))<|AR I ((v0.memA .t1) 1 _ I)<|bk h fun F0 d3 h=>?_
 have Z0:=Tt Y0 (Tt x1 y1)
 refine Bj (.tuple #[.agg ((ab F0.1)).toArray,vI F0.2]) (bd 7) I (e5 I I I I I) (fun p q=>aV_c n (v0.hL0 hL q) b0.fr (v0.kd (Ao s0 Z0) q) (v0.kd (Ao t0 Z0) q) d3) I<|Ae I<|Ac (Ak I I)<|Ac (Ak I I)<|RG.nl zL v0 fun I4 K3 v2 z1=>AV (ab F0.1) v2 .hd (ai I) fun J4 x0 A1=>Ag I<|Aa<|Af<|Bd 0 I<|Ac (Bk (cs:=[vI b0.fr.fh,vI b0.fr.fc,vI b0.fr.fj,k0]) I I (ah (x0.memA .t3) 0 4))<|Bd 4 I<|AR I ((x0.memA .t3) 4 _ I)<|Ae I<|Ac (AO (m:=1) (k:=0) (len:=2) I I I I (by omega))<|AR I ((x0.memA .t2) 0 _ I)<|Ac (AO (m:=1) (k:=1) (len:=2) I I I I (by omega))<|AR I ((x0.memA .t2) 1 _ I)<|bk h fun G0 g3 h=>?_
 have b1:=Tt Z0 (Tt z1 A1)
 refine Bj (.tuple #[.agg ((ab G0.1)).toArray,vI G0.2]) (bd 8) I (e5 I I I I I) (fun p q=>cJ_c n (x0.hL0 hL q) b0.fr (x0.kd (Ao s0 b1) q) (x0.kd (Ao t0 b1) q) g3) I<|Ae I<|Ac (Ak I I)<|Ac (Ak I I)<|RG.nl zL x0 fun K4 M3 x2 B1=>AV (ab G0.1) x2 .hd (ai I) fun M4 y0 C1=>Ag I<|Aa<|Af<|Bd 0 I<|Ac (Bk (cs:=[vI b0.fr.fh,vI b0.fr.fc,vI b0.fr.fj,k0]) I I (ah (y0.memA .t4) 0 4))<|Bd 4 I<|AR I ((y0.memA .t4) 4 _ I)<|Ae I<|Ac (AO (m:=1) (k:=0) (len:=2) I I I I (by omega))<|AR I ((y0.memA .t3) 0 _ I)<|Ac (AO (m:=1) (k:=1) (len:=2) I I I I (by omega))<|AR I ((y0.memA .t3) 1 _ I)<|bk h fun H0 j3 h=>?_
 have c1:=Tt b1 (Tt B1 C1)
 refine Bj (.tuple #[.agg ((ab H0.1)).toArray,vI H0.2]) (bd 9) I (e5 I I I I I) (fun p q=>bJ_c n (y0.hL0 hL q) b0.fr (y0.kd (Ao s0 c1) q) (y0.kd (Ao t0 c1) q) j3) I<|Ae I<|Ac (Ak I I)<|Ac (Ak I I)<|RG.nl zL y0 fun P4 P3 y2 D1=>AV (ab H0.1) y2 .hd (ai I) fun Q4 c0 E1=>Ag I<|Aa<|Aj<|Af<|Ac (AH I (c0.memA .t3))<|Ac (AH I (c0.memA .t2))<|Ac (FV.neqV (xs:=((ab E0.1)).toArray) (ys:=((ab F0.1)).toArray) I I (by kernel_rfl) (dC E0.1 F0.1))<|Ae I<|RG.ifn (s:=111) I h (fun P1 h=>?_) (fun P1 h=>?_)
 refine AG (Ai I)<|AG (Ai I)<|AG (FV.neq (i:=E0.2) (j:=F0.2) I I)<|Bv I I<|Ae I<|RG.ifn (s:=116) I h (fun Q1 h=>?_) (fun Q1 h=>?_)
 refine AG (AH I (c0.memA .t1))<|AG (AH I (c0.memA .hd))<|AG (FV.neqV (xs:=((ab G0.1)).toArray) (ys:=((ab H0.1)).toArray) I I (by kernel_rfl) (dC G0.1 H0.1))<|Bv I I<|Ae I<|RG.ifn (s:=121) I h (fun R1 h=>?_) (fun R1 h=>?_)
 refine AG (Ai I)<|AG (Ai I)<|AG (FV.neq (i:=G0.2) (j:=H0.2) I I)<|Bv I I<|Aa<|MX.ifn I h (fun U1 h=>?_) (fun U1 h=>?_)
 refine Ar<|Af<|Bd 0 I<|Ac (Bk (cs:=[vI b0.fr.fh,vI b0.fr.fc,vI b0.fr.fj,k0]) I I (ah (c0.memA .t5) 0 4))<|Bd 4 I<|AR I ((c0.memA .t5) 4 _ I)<|Ae I<|Ac (AO (m:=1) (k:=0) (len:=2) I I I I (by omega))<|AR I ((c0.memA .t4) 0 _ I)<|Ac (AO (m:=1) (k:=1) (len:=2) I I I I (by omega))<|AR I ((c0.memA .t4) 1 _ I)<|bk h fun y3 k3 h=>?_
 have K0:=Tt c1 (Tt D1 E1)
 refine jE (bd 10) I (e5 I I I I I) (fun p q=>cK_c n (c0.hL hL q) b0.fr (Aw (Ao s0 K0) q) (Aw (Ao t0 K0) q) k3) I fun R4 u4 H2 ⟨p4,hu_,V2⟩=>?_
 subst hu_
 obtain ⟨D0,P0⟩:=c0.agr H2
 refine Ae I<|Ac (Ak I I)<|Ac (Ak I I)<|Ag I<|Ag I<|Aa<|Af<|Bd 0 I<|Ac (Bk (cs:=[vI b0.fr.fh,vI b0.fr.fc,vI b0.fr.fj,k0]) I I (ah (D0.memA .t5) 0 4))<|Bd 4 I<|AR I ((D0.memA .t5) 4 _ I)<|Ae I<|Ac (AO (m:=1) (k:=0) (len:=2) I I I I (by omega))<|AR I ((D0.memA .t4) 0 _ I)<|Ac (AO (m:=1) (k:=1) (len:=2) I I I I (by omega))<|AR I ((D0.memA .t4) 1 _ I)<|bk h fun z3 p3 h=>jE (bd 11) I (e5 I I I I I) (fun p q=>aL_c n (D0.hL hL q) b0.fr (Aw (Ao s0 (Tt K0 P0)) q) (Aw (Ao t0 (Tt K0 P0)) q) p3) I fun U4 v4 I2 ⟨q4,hu_,W2⟩=>?_
 subst hu_
 obtain ⟨z0,V0⟩:=D0.agr I2
 refine Ae I<|Ac (Ak I I)<|Ac (Ak I I)<|Ag I<|Ag I<|Aa<|Af<|Bd 0 I<|Ac (Bk (cs:=[vI b0.fr.fh,vI b0.fr.fc,vI b0.fr.fj,k0]) I I (ah (z0.memA .t5) 0 4))<|Bd 4 I<|AR I ((z0.memA .t5) 4 _ I)<|Ae I<|Ac (AO (m:=1) (k:=0) (len:=2) I I I I (by omega))<|AR I ((z0.memA .t4) 0 _ I)<|Ac (AO (m:=1) (k:=1) (len:=2) I I I I (by omega))<|AR I ((z0.memA .t4) 1 _ I)<|bk h fun I0 q3 h=>?_
 have d1:=Tt K0 (Tt P0 V0)
 refine Bj (.tuple #[.agg ((ab I0.1)).toArray,vI I0.2]) (bd 12) I (e5 I I I I I) (fun p q=>dA_c n (z0.hL0 hL q) b0.fr (z0.kd (Ao s0 d1) q) (z0.kd (Ao t0 d1) q) q3) I<|Ae I<|Ac (Ak I I)<|Ac (Ak I I)<|RG.nl zL z0 fun V4 Q3 z2 Q0=>AV (ab I0.1) z2 .hd (ai I) fun W4 A0 R0=>Ag I<|Aa<|Af<|Bd 0 I<|Ac (Bk (cs:=[vI b0.fr.fh,vI b0.fr.fc,vI b0.fr.fj,k0]) I I (ah (A0.memA .t6) 0 4))<|Bd 4 I<|AR I ((A0.memA .t6) 4 _ I)<|Ae I<|Ac (AO (m:=1) (k:=0) (len:=2) I I I I (by omega))<|AR I ((A0.memA .t5) 0 _ I)<|Ac (AO (m:=1) (k:=1) (len:=2) I I I I (by omega))<|AR I ((A0.memA .t5) 1 _ I)<|bk h fun J0 s3 h=>?_
 have F1:=Tt d1 (Tt Q0 R0)
 refine Bj (.tuple #[.agg ((ab J0.1)).toArray,vI J0.2]) (bd 13) I (e5 I I I I I) (fun p q=>aR_c n (A0.hL0 hL q) b0.fr (A0.kd (Ao s0 F1) q) (A0.kd (Ao t0 F1) q) s3) I<|Ae I<|Ac (Ak I I)<|Ac (Ak I I)<|RG.nl zL A0 fun X4 R3 A2 W0=>AV (ab J0.1) A2 .hd (ai I) fun Y4 g0 X0=>Ag I<|Aa<|Af<|Ae I<|Ae I<|bk h fun A3 u3 h=>Bj (.bool A3) (bd 14) I (e2 I I) (fun p q=>ai_c n (g0.hL0 hL q) (g0.kd (Ao V2 (Tt V0 (Tt Q0 (Tt R0 (Tt W0 X0))))) q) (g0.kd (Ao W2 (Tt Q0 (Tt R0 (Tt W0 X0)))) q) u3) I<|Ac (Bu I)<|Ae I<|RG.ifnb (s:=182) I h (fun V1 h=>?_) (fun V1 h=>?_)
 refine AG (Ai I)<|AG (Ai I)<|AG (FV.neq (i:=y3.2) (j:=z3.2) I I)<|Bv I I<|Ae I<|RG.ifn (s:=187) I h (fun W1 h=>?_) (fun W1 h=>?_)
 refine AG (AH I (g0.memA .t1))<|AG (AH I (g0.memA .hd))<|AG (FV.neqV (xs:=((ab I0.1)).toArray) (ys:=((ab J0.1)).toArray) I I (by kernel_rfl) (dC I0.1 J0.1))<|Bv I I<|Ae I<|RG.ifn (s:=192) I h (fun X1 h=>?_) (fun X1 h=>?_)
 refine AG (Ai I)<|AG (Ai I)<|AG (FV.neq (i:=I0.2) (j:=J0.2) I I)<|Bv I I<|Aa<|MX.ifn I h (fun Y1 h=>?_) (fun Y1 h=>?_)
 refine Ar<|AC<|Ap<|Ac (Bl (i:=B0) (j:=1) I I (by omega))<|Ae I<|Aa ?_
 obtain ⟨B2,E2⟩:=AK g0 .d7
 exact b2 (B0 + 1) B2 (Tt U0 (Tt u1 (Tt v1 (Tt x1 (Tt y1 (Tt z1 (Tt A1 (Tt B1 (Tt C1 (Tt D1 (Tt E1 (Tt P0 (Tt V0 (Tt Q0 (Tt R0 (Tt W0 (Tt X0 E2))))))))))))))))) h
 refine Af<|Ag I<|Aa ?_
 have h:=au h q0
 have h:=au h p0
 refine Am I<|AW hb0 func3 I I ?_
 cases h
 exact g0.gv
 refine Aq<|Aq<|Aq<|Bn I I<|Aa<|Bq I<|Af<|Ag I<|Aa ?_
 have h:=au h q0
 have h:=au h p0
 refine Am I<|AW hb0 func3 I I ?_
 cases h
 exact g0.gv
 refine Aq<|Aq<|Aq<|Bn I I<|Ae I<|Aq<|Aq<|Aq<|Bn I I<|Aa<|Bq I<|Af<|Ag I<|Aa ?_
 have h:=au h q0
 have h:=au h p0
 refine Am I<|AW hb0 func3 I I ?_
 cases h
 exact g0.gv
 refine Aq<|Aq<|Aq<|Bn I I<|Ae I<|Aq<|Aq<|Aq<|Bn I I<|Ae I<|Aq<|Aq<|Aq<|Bn I I<|Aa<|Bq I<|Af<|Ag I<|Aa ?_
 have h:=au h q0
 have h:=au h p0
 refine Am I<|AW hb0 func3 I I ?_
 cases h
 exact g0.gv
 refine Af<|Ag I<|Aa ?_
 have h:=au h q0
 have h:=au h p0
 refine Am I<|AW hb0 func3 I I ?_
 cases h
 exact c0.gv
 refine Aq<|Aq<|Aq<|Bn I I<|Aa<|Bq I<|Af<|Ag I<|Aa ?_
 have h:=au h q0
 have h:=au h p0
 refine Am I<|AW hb0 func3 I I ?_
 cases h
 exact c0.gv
 refine Aq<|Aq<|Aq<|Bn I I<|Ae I<|Aq<|Aq<|Aq<|Bn I I<|Aa<|Bq I<|Af<|Ag I<|Aa ?_
 have h:=au h q0
 have h:=au h p0
 refine Am I<|AW hb0 func3 I I ?_
 cases h
 exact c0.gv
 refine Aq<|Aq<|Aq<|Bn I I<|Ae I<|Aq<|Aq<|Aq<|Bn I I<|Ae I<|Aq<|Aq<|Aq<|Bn I I<|Aa<|Bq I<|Af<|Ag I<|Aa ?_
 have h:=au h q0
 have h:=au h p0
 refine Am I<|AW hb0 func3 I I ?_
 cases h
 exact c0.gv
 refine AX I ?_
 have h:=aC h q0
 try dsimp only at h
 refine AC<|Ap<|Ac (Bl (i:=j0) (j:=1) I I (by omega))<|Ae I<|Aa ?_
 obtain ⟨C2,F2⟩:=AK p1 .done
 exact Z1 (j0 + 1) C2 (Tt q1 (Tt M0 (Tt s1 (Tt U0 F2)))) h
 refine AX I ?_
 have h:=aC h p0
 try dsimp only at h
 refine Af<|Ag I<|Aa<|Am I<|AW hb0 func3 I I ?_
 cases h
 exact k1.gv
 refine Af<|Ag I<|Aa<|Am I<|AW hb0 func3 I I ?_
 cases h
 exact d0.gv
end Go.Proofs.YthffdckehlgmgaaGreatDoor
