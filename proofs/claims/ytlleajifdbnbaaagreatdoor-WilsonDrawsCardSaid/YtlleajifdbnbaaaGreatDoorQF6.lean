import Derived.Test.YtlleajifdbnbaaaGreatDoorQF4
namespace Go.Proofs.YtlleajifdbnbaaaGreatDoor
open Go Go.RowKit Tryz
set_option maxRecDepth 4000
set_option maxHeartbeats 4000000

def bg_p (n:Nat) (a0:Tc) (a1:Tc):Option (Tc × Tc):=
  (aI_p n a0.fD a1.fD).bind fun g0=>(ac_p n (!(a0.fe == a1.fe)) g0.1).bind fun b0=>(ac_p n a0.fe g0.2).bind fun c0=>(if c0.fe = true then (aR_p n c0 (⟨false,a1.fD⟩:Tc)).bind fun d0=>(if a1.fe = true then (ar_p n (1:Int)).bind fun j0=>(aR_p n b0 j0).bind fun k0=>some (k0,d0) else (ar_p n (1:Int)).bind fun p0=>(aX_p n b0 p0).bind fun q0=>some (q0,d0)) else some (b0,c0))
theorem bg_c (n:Nat) {L w} (hL:hl L w) (a0:Tc) {v0_1:Value} (h0_1:Rep.R w L [v0_1] a0.fD) (a1:Tc) {v1_1:Value} (h1_1:Rep.R w L [v1_1] a1.fD)  {r:Tc × Tc} (h:bg_p n a0 a1 = some r) :
 Cl 73 #[.agg #[.bool a0.fe,v0_1],.agg #[.bool a1.fe,v1_1]] w (ah w fun w' u=>∃ v0_1 v1_1:Value,u = .tuple #[.agg #[.bool r.1.fe,v0_1],.agg #[.bool r.2.fe,v1_1]]/\Rep.R w' L [v0_1] r.1.fD/\Rep.R w' L [v1_1] r.2.fD):=by
 unfold bg_p at h
 refine AG func73 rfl rfl rfl fun _ cs0 hb0=>Af<|RG.bx (AF w) rfl rfl fun k6 H5 Q3 J5=>RG.bx Q3 rfl rfl fun p6 c2 R3 K5=>RG.nl [.bool false,vN] R3 fun z6 G0 Y3 P5=>RG.nl [.bool false,vN] Y3 fun A6 H0 z1 Q5=>Aa<|Af<|AT 1 rfl<|AA rfl ((z1.memA .t3) 1 _ rfl)<|AT 1 rfl<|AA rfl ((z1.memA .t2) 1 _ rfl)<|bk h fun P6 v5 h=>jE (bd 94) rfl (e2 rfl rfl) (fun w9 hw9=>aI_c n (z1.hL hL hw9) (z1.km h0_1 hw9) (z1.km h1_1 hw9) v5) rfl fun B6 g6 b5 ⟨W5,X5,hu_,R1,B0⟩=>?_
 subst hu_
 obtain ⟨Z0,R5⟩:=z1.agr b5
 refine Ac rfl<|Ab (Am rfl rfl)<|Ab (Am rfl rfl)<|Ae rfl<|Ae rfl<|Aa<|Aj<|du 13 fun b0 V0=>Rv 0 b0 rfl V0 (fun _=>BB 0 rfl)<|Rx 1 25680 b0 rfl V0 (AM rfl ((Z0.memA .t3) 0 _ rfl))<|Rv 2 b0 rfl V0 (fun _=>BB 0 rfl)<|Rx 3 25680 b0 rfl V0 (AM rfl ((Z0.memA .t2) 0 _ rfl))<|Rv 4 b0 rfl V0 (fun _=>FV.neqB (a:=a0.fe) (b:=a1.fe) underlying4 rfl rfl)<|Rv 5 b0 rfl V0 (fun _=>Ag rfl)<|Rv 7 b0 rfl V0 (fun _=>BB 0 rfl)<|Rx 8 25600 b0 rfl V0 (AM rfl ((Z0.memA .t3) 0 _ rfl))<|Rv 9 b0 rfl V0 (fun _=>Ag rfl)<|bk h fun Y0 U1 h=>bk h fun y1 D0 h=>RD.mf (α:=Value × Value × Nat × Nat) (fun ⟨E0,M0,k1,p1⟩=>[(3,vP c2),(4,vP G0),(5,vP H0),(24,.agg #[.bool Y0.fe,E0]),(28,.agg #[.bool y1.fe,M0]),(8,vP p1),(9,vP k1)]) (fun ⟨E0,M0,k1,p1⟩=>[.cells k1 [.bool false,vN] 121,.cells p1 [.bool false,vN] 121,.cells H0 [.bool false,vN] 121,.cells G0 [.bool false,vN] 121,.cells c2 [.bool a1.fe,v1_1] 121]) (fun ⟨E0,M0,k1,p1⟩ J2=>Rep.R J2 (bl [.cells k1 [.bool false,vN] 121,.cells p1 [.bool false,vN] 121,.cells H0 [.bool false,vN] 121,.cells G0 [.bool false,vN] 121,.cells c2 [.bool a1.fe,v1_1] 121] ++ L) [E0] Y0.fD/\Rep.R J2 (bl [.cells k1 [.bool false,vN] 121,.cells p1 [.bool false,vN] 121,.cells H0 [.bool false,vN] 121,.cells G0 [.bool false,vN] 121,.cells c2 [.bool a1.fe,v1_1] 121] ++ L) [M0] y1.fD) Z0 2 8191 ?_ ?_
 rintro ⟨E0,M0,k1,p1⟩ J2 U3 M5 ⟨C1,s2⟩
 try dsimp only
 refine RD.nw 13 16383 b0 rfl rfl .plain (AP (news:=[.bool Y0.fe,E0]) U3 .t1 rfl rfl rfl rfl rfl rfl (o2 rfl (By C1))) fun q6 V3 s1=>RD.nw 14 32767 b0 rfl rfl .plain (AP (news:=[.bool y1.fe,M0]) V3 .hd rfl rfl rfl rfl rfl rfl (o2 rfl (By (Aw s2 s1)))) fun s6 x0 A1=>AZ (dk b0)<|Aj<|Af<|AT 0 rfl<|AA rfl ((x0.memA .hd) 0 _ rfl)<|Aa<|MX.ifb rfl h (fun M3 h=>?_) (fun M3 h=>?_)
 refine Af<|Ab (AK rfl (x0.memA .hd))<|AT 1 rfl<|AA rfl ((x0.memA .t4) 1 _ rfl) ?_
 obtain ⟨G5,I5,q5,_⟩:=Rep.sl (Be h1_1 x0)
 refine Ab (AL (vs:=[v1_1]) (u:=.agg #[.bool false,v1_1]) (e1 rfl) (fun w9=>by rw [q5]; try kernel_rfl))<|bk h fun x1 s5 h=>jE (bd 96) rfl (e2 rfl rfl) (fun w9 hw9=>aR_c n (x0.hL hL hw9) y1 (Ax (Aw s2 (Tt s1 A1)) hw9) (⟨false,a1.fD⟩:Tc) (x0.km h1_1 hw9) s5) rfl fun t6 Y5 V4 ⟨W0,hu_,Q1⟩=>?_
 subst hu_
 obtain ⟨W3,U2⟩:=x0.agr V4
 refine AX [.bool x1.fe,W0] W3 .hd (o2 rfl (By Q1)) fun u6 q1 B1=>Aa<|Af<|AT 0 rfl<|AA rfl ((q1.memA .t4) 0 _ rfl)<|Aa<|MX.ifb rfl h (fun P3 h=>?_) (fun P3 h=>?_)
 refine du 3 fun V1 z5=>Rx 0 12 V1 rfl z5 (AK rfl (q1.memA .t1))<|bk h fun E5 t5 h=>RD.cl 1 3 V1 rfl .plain (bd 75) rfl (e1 rfl) (fun w9 hw9=>ar_c n (q1.hL hL hw9)  t5) rfl fun v6 Z5 W4 ⟨U5,hu_,k5⟩=>?_
 subst hu_
 obtain ⟨Q2,z2⟩:=q1.agr W4
 refine bk h fun Z1 u5 h=>RD.cl 2 7 V1 rfl .plain (bd 96) rfl (e2 rfl rfl) (fun w9 hw9=>aR_c n (Q2.hL hL hw9) Y0 (Ax (Aw C1 (Tt s1 (Tt A1 (Tt U2 (Tt B1 z2))))) hw9) E5 (Ax k5 hw9) u5) rfl fun x6 b6 X4 ⟨E1,hu_,u2⟩=>?_
 subst hu_
 obtain ⟨X3,V2⟩:=Q2.agr X4
 refine RD.nw 3 15 V1 rfl rfl .plain (AP (news:=[.bool Z1.fe,E1]) X3 .t1 rfl rfl rfl rfl rfl rfl (o2 rfl (By u2))) fun y6 H1 p2=>AZ (dk V1)<|Aj<|du 2 fun b1 I3=>Rx 0 12 b1 rfl I3 (AK rfl (H1.memA .t1))<|RD.mo (α:=Unit) (fun ()=>[(4,vP G0),(5,vP H0),(45,.agg #[.bool x1.fe,W0])]) (fun ()=>[.cells H0 [.bool false,vN] 121,.cells G0 [.bool Z1.fe,E1] 121]) H1 1 7 ?_ ?_
 rintro ⟨⟩ J6 Z3 W2
 try dsimp only
 refine RD.nw 3 15 b1 rfl rfl .plain (AP (news:=[.bool x1.fe,W0]) Z3 .hd rfl rfl rfl rfl rfl rfl (o2 rfl (By (Aw Q1 (Tt B1 (Tt z2 (Tt V2 (Tt p2 W2)))))))) fun C6 I1 H4=>AZ (dk b1)<|Aq rfl<|Av hb0 func73 rfl (.cons (.many (cs:=[.bool Z1.fe,E1]) rfl rfl (I1.memA .t1)) (.cons (.many (cs:=[.bool x1.fe,W0]) rfl rfl (I1.memA .hd)) .nil)) rfl ?_
 cases h
 have v3:=Tt p2 (Tt W2 H4)
 exact ⟨I1.ag,fun w9 hw9=>⟨E1,W0,rfl,I1.kd (Aw u2 v3) hw9,I1.kd (Aw Q1 (Tt B1 (Tt z2 (Tt V2 v3)))) hw9⟩⟩
 intro K2
 refine RD.each [1,2] (rk b1) ⟨?_,?_,trivial⟩
 refine RO.val (m' :=3) (sk b1) rfl .plain rfl (AK rfl (H1.memA .hd)) ?_
 have d5:=Aw u2 p2
 refine RD.nw 2 7 b1 rfl rfl .plain (AP (news:=[.bool Z1.fe,E1]) H1 .t3 rfl rfl rfl rfl rfl rfl (o2 rfl (By d5))) fun B5 d2 A2=>?_
 obtain ⟨b4,I4⟩:=AH d2 (.a2 (.a2 .done))
 exact K2 () b4 (Tt A2 I4)
 refine RO.now (m' :=5) (sk b1) rfl rfl .plain (AP (news:=[.bool Z1.fe,E1]) H1 .t3 rfl rfl rfl rfl rfl rfl (o2 rfl (By (Aw u2 p2)))) fun B5 d2 A2=>Rx 1 8 b1 rfl I3 (AK rfl (d2.memA .hd)) ?_
 obtain ⟨c4,J4⟩:=AH d2 (.a2 (.a2 .done))
 exact K2 () c4 (Tt A2 J4)
 refine du 3 fun W1 A5=>Rx 0 12 W1 rfl A5 (AK rfl (q1.memA .t1))<|bk h fun F5 x5 h=>RD.cl 1 3 W1 rfl .plain (bd 75) rfl (e1 rfl) (fun w9 hw9=>ar_c n (q1.hL hL hw9)  x5) rfl fun D6 c6 Y4 ⟨V5,hu_,p5⟩=>?_
 subst hu_
 obtain ⟨R2,B2⟩:=q1.agr Y4
 refine bk h fun b2 y5 h=>RD.cl 2 7 W1 rfl .plain (bd 97) rfl (e2 rfl rfl) (fun w9 hw9=>aX_c n (R2.hL hL hw9) Y0 (Ax (Aw C1 (Tt s1 (Tt A1 (Tt U2 (Tt B1 B2))))) hw9) F5 (Ax p5 hw9) y5) rfl fun E6 d6 Z4 ⟨F1,hu_,v2⟩=>?_
 subst hu_
 obtain ⟨d4,X2⟩:=R2.agr Z4
 refine RD.nw 3 15 W1 rfl rfl .plain (AP (news:=[.bool b2.fe,F1]) d4 .t1 rfl rfl rfl rfl rfl rfl (o2 rfl (By v2))) fun F6 J1 q2=>AZ (dk W1)<|Aj<|du 2 fun c1 J3=>Rx 0 12 c1 rfl J3 (AK rfl (J1.memA .t1))<|RD.mo (α:=Unit) (fun ()=>[(4,vP G0),(5,vP H0),(45,.agg #[.bool x1.fe,W0])]) (fun ()=>[.cells H0 [.bool false,vN] 121,.cells G0 [.bool b2.fe,F1] 121]) J1 1 7 ?_ ?_
 rintro ⟨⟩ K6 g4 Y2
 try dsimp only
 refine RD.nw 3 15 c1 rfl rfl .plain (AP (news:=[.bool x1.fe,W0]) g4 .hd rfl rfl rfl rfl rfl rfl (o2 rfl (By (Aw Q1 (Tt B1 (Tt B2 (Tt X2 (Tt q2 Y2)))))))) fun H6 K1 K4=>AZ (dk c1)<|Aq rfl<|Av hb0 func73 rfl (.cons (.many (cs:=[.bool b2.fe,F1]) rfl rfl (K1.memA .t1)) (.cons (.many (cs:=[.bool x1.fe,W0]) rfl rfl (K1.memA .hd)) .nil)) rfl ?_
 cases h
 have x3:=Tt q2 (Tt Y2 K4)
 exact ⟨K1.ag,fun w9 hw9=>⟨F1,W0,rfl,K1.kd (Aw v2 x3) hw9,K1.kd (Aw Q1 (Tt B1 (Tt B2 (Tt X2 x3)))) hw9⟩⟩
 intro M2
 refine RD.each [1,2] (rk c1) ⟨?_,?_,trivial⟩
 refine RO.val (m' :=3) (sk c1) rfl .plain rfl (AK rfl (J1.memA .hd)) ?_
 have g5:=Aw v2 q2
 refine RD.nw 2 7 c1 rfl rfl .plain (AP (news:=[.bool b2.fe,F1]) J1 .t3 rfl rfl rfl rfl rfl rfl (o2 rfl (By g5))) fun C5 j2 C2=>?_
 obtain ⟨j4,M4⟩:=AH j2 (.a2 (.a2 .done))
 exact M2 () j4 (Tt C2 M4)
 refine RO.now (m' :=5) (sk c1) rfl rfl .plain (AP (news:=[.bool b2.fe,F1]) J1 .t3 rfl rfl rfl rfl rfl rfl (o2 rfl (By (Aw v2 q2)))) fun C5 j2 C2=>Rx 1 8 c1 rfl J3 (AK rfl (j2.memA .hd)) ?_
 obtain ⟨k4,P4⟩:=AH j2 (.a2 (.a2 .done))
 exact M2 () k4 (Tt C2 P4)
 refine Ao<|Aj<|du 2 fun d1 K3=>Rx 0 12 d1 rfl K3 (AK rfl (x0.memA .t1))<|RD.mo (α:=Unit) (fun ()=>[(4,vP G0),(5,vP H0),(45,.agg #[.bool y1.fe,M0])]) (fun ()=>[.cells H0 [.bool false,vN] 121,.cells G0 [.bool Y0.fe,E0] 121]) x0 1 7 ?_ ?_
 rintro ⟨⟩ M6 p4 Q4
 try dsimp only
 have G2:=Tt s1 (Tt A1 Q4)
 refine RD.nw 3 15 d1 rfl rfl .plain (AP (news:=[.bool y1.fe,M0]) p4 .hd rfl rfl rfl rfl rfl rfl (o2 rfl (By (Aw s2 G2)))) fun I6 M1 Z2=>AZ (dk d1)<|Aq rfl<|Av hb0 func73 rfl (.cons (.many (cs:=[.bool Y0.fe,E0]) rfl rfl (M1.memA .t1)) (.cons (.many (cs:=[.bool y1.fe,M0]) rfl rfl (M1.memA .hd)) .nil)) rfl ?_
 cases h
 exact ⟨M1.ag,fun w9 hw9=>⟨E0,M0,rfl,M1.kd (Aw C1 (Tt G2 Z2)) hw9,M1.kd (Aw s2 (Tt G2 Z2)) hw9⟩⟩
 intro P2
 refine RD.each [1,2] (rk d1) ⟨?_,?_,trivial⟩
 refine RO.val (m' :=3) (sk d1) rfl .plain rfl (AK rfl (x0.memA .hd)) ?_
 have j5:=Aw C1 (Tt s1 A1)
 refine RD.nw 2 7 d1 rfl rfl .plain (AP (news:=[.bool Y0.fe,E0]) x0 .t3 rfl rfl rfl rfl rfl rfl (o2 rfl (By j5))) fun D5 k2 D2=>?_
 obtain ⟨q4,R4⟩:=AH k2 (.a2 (.a2 .done))
 exact P2 () q4 (Tt D2 R4)
 refine RO.now (m' :=5) (sk d1) rfl rfl .plain (AP (news:=[.bool Y0.fe,E0]) x0 .t3 rfl rfl rfl rfl rfl rfl (o2 rfl (By (Aw C1 (Tt s1 A1))))) fun D5 k2 D2=>Rx 1 8 d1 rfl K3 (AK rfl (k2.memA .hd)) ?_
 obtain ⟨s4,U4⟩:=AH k2 (.a2 (.a2 .done))
 exact P2 () s4 (Tt D2 U4)
 intro v0
 refine RD.each [6,11,12] (rk b0) ⟨?_,?_,?_,trivial⟩
 refine RO.call (m' :=1023) (fst:=[]) (cap:=[]) (sk b0) rfl .plain (bd 95) rfl (e2 rfl rfl) (fun w9 hw9=>ac_c n (Z0.hL hL hw9) (Ax R1 hw9) U1) rfl fun G6 j6 c5 ⟨G1,hu_,D1⟩=>?_
 subst hu_
 obtain ⟨g2,z0⟩:=Z0.agr c5
 refine RD.each [10,11,12] (rk b0) ⟨?_,?_,?_,trivial⟩
 have v1:=Aw B0 z0
 refine RO.call (m' :=2047) (fst:=[]) (cap:=[]) (sk b0) rfl .plain (bd 95) rfl (e2 rfl rfl) (fun w9 hw9=>ac_c n (g2.hL hL hw9) (Ax v1 hw9) D0) rfl fun y2 x2 Q0 ⟨P0,hu_,K0⟩=>?_
 subst hu_
 obtain ⟨I0,J0⟩:=g2.agr Q0
 refine RD.each [11,12] (rk b0) ⟨?_,?_,trivial⟩
 refine RO.new (m' :=4095) (sk b0) rfl .plain rfl (AC [.bool false,vN] I0) fun j1 p0 j0 d0=>RD.nu 12 8191 b0 rfl .plain rfl (AC [.bool false,vN] j0) fun g1 k0 g0 c0=>?_
 obtain ⟨u4,b3⟩:=AH g0 (.a0 (.a0 (.a0 (.a0 (.a0 .done)))))
 have y3:=Tt J0 (Tt d0 (Tt c0 b3))
 exact v0 (G1,P0,k0,p0) u4 (Tt z0 y3) ⟨(Aw D1 y3),(Aw K0 (Tt d0 (Tt c0 b3)))⟩
 refine RO.new (m' :=6143) (sk b0) rfl .plain rfl (AC [.bool false,vN] I0) fun g1 k0 g0 c0=>RD.nu 11 8191 b0 rfl .plain rfl (AC [.bool false,vN] g0) fun j1 p0 j0 d0=>?_
 obtain ⟨v4,c3⟩:=AH j0 (.a1 (.a0 (.a0 (.a0 (.a0 .done)))))
 have z3:=Tt J0 (Tt c0 (Tt d0 c3))
 exact v0 (G1,P0,k0,p0) v4 (Tt z0 z3) ⟨(Aw D1 z3),(Aw K0 (Tt c0 (Tt d0 c3)))⟩
 refine RO.new (m' :=3071) (sk b0) rfl .plain rfl (AC [.bool false,vN] g2) fun j1 p0 j0 d0=>RD.each [10,12] (rk b0) ⟨?_,?_,trivial⟩
 have v1:=Aw B0 (Tt z0 d0)
 refine RO.call (m' :=4095) (fst:=[]) (cap:=[]) (sk b0) rfl .plain (bd 95) rfl (e2 rfl rfl) (fun w9 hw9=>ac_c n (j0.hL hL hw9) (Ax v1 hw9) D0) rfl fun y2 x2 Q0 ⟨P0,hu_,K0⟩=>?_
 subst hu_
 obtain ⟨I0,J0⟩:=j0.agr Q0
 refine RD.nu 12 8191 b0 rfl .plain rfl (AC [.bool false,vN] I0) fun g1 k0 g0 c0=>?_
 obtain ⟨x4,d3⟩:=AH g0 (.a0 (.a0 (.a0 (.a0 (.a0 .done)))))
 have A3:=Tt d0 (Tt J0 (Tt c0 d3))
 exact v0 (G1,P0,k0,p0) x4 (Tt z0 A3) ⟨(Aw D1 A3),(Aw K0 (Tt c0 d3))⟩
 refine RO.new (m' :=7167) (sk b0) rfl .plain rfl (AC [.bool false,vN] j0) fun g1 k0 g0 c0=>?_
 have u0:=Tt z0 (Tt d0 c0)
 have R0:=Aw B0 u0
 refine RD.cl 10 8191 b0 rfl .plain (bd 95) rfl (e2 rfl rfl) (fun w9 hw9=>ac_c n (g0.hL hL hw9) (Ax R0 hw9) D0) rfl fun Y1 X1 A0 ⟨F0,hu_,C0⟩=>?_
 subst hu_
 obtain ⟨y0,t0⟩:=g0.agr A0
 obtain ⟨y4,g3⟩:=AH y0 (.a0 (.a0 (.a0 (.a0 (.a0 .done)))))
 have B3:=Tt d0 (Tt c0 (Tt t0 g3))
 exact v0 (G1,F0,k0,p0) y4 (Tt z0 B3) ⟨(Aw D1 B3),(Aw C0 g3)⟩
 refine RO.new (m' :=5119) (sk b0) rfl .plain rfl (AC [.bool false,vN] g2) fun g1 k0 g0 c0=>RD.each [10,11] (rk b0) ⟨?_,?_,trivial⟩
 have v1:=Aw B0 (Tt z0 c0)
 refine RO.call (m' :=6143) (fst:=[]) (cap:=[]) (sk b0) rfl .plain (bd 95) rfl (e2 rfl rfl) (fun w9 hw9=>ac_c n (g0.hL hL hw9) (Ax v1 hw9) D0) rfl fun y2 x2 Q0 ⟨P0,hu_,K0⟩=>?_
 subst hu_
 obtain ⟨I0,J0⟩:=g0.agr Q0
 refine RD.nu 11 8191 b0 rfl .plain rfl (AC [.bool false,vN] I0) fun j1 p0 j0 d0=>?_
 obtain ⟨z4,j3⟩:=AH j0 (.a1 (.a0 (.a0 (.a0 (.a0 .done)))))
 have C3:=Tt c0 (Tt J0 (Tt d0 j3))
 exact v0 (G1,P0,k0,p0) z4 (Tt z0 C3) ⟨(Aw D1 C3),(Aw K0 (Tt d0 j3))⟩
 refine RO.new (m' :=7167) (sk b0) rfl .plain rfl (AC [.bool false,vN] g0) fun j1 p0 j0 d0=>?_
 have u0:=Tt z0 (Tt c0 d0)
 have R0:=Aw B0 u0
 refine RD.cl 10 8191 b0 rfl .plain (bd 95) rfl (e2 rfl rfl) (fun w9 hw9=>ac_c n (j0.hL hL hw9) (Ax R0 hw9) D0) rfl fun Y1 X1 A0 ⟨F0,hu_,C0⟩=>?_
 subst hu_
 obtain ⟨y0,t0⟩:=j0.agr A0
 obtain ⟨A4,k3⟩:=AH y0 (.a1 (.a0 (.a0 (.a0 (.a0 .done)))))
 have D3:=Tt c0 (Tt d0 (Tt t0 k3))
 exact v0 (G1,F0,k0,p0) A4 (Tt z0 D3) ⟨(Aw D1 D3),(Aw C0 k3)⟩
 refine RO.new (m' :=3007) (sk b0) rfl .plain rfl (AC [.bool false,vN] Z0) fun j1 p0 j0 d0=>RD.each [6,12] (rk b0) ⟨?_,?_,trivial⟩
 have P1:=Aw R1 d0
 refine RO.call (m' :=3071) (fst:=[]) (cap:=[]) (sk b0) rfl .plain (bd 95) rfl (e2 rfl rfl) (fun w9 hw9=>ac_c n (j0.hL hL hw9) (Ax P1 hw9) U1) rfl fun I2 H2 u1 ⟨X0,hu_,U0⟩=>?_
 subst hu_
 obtain ⟨q0,s0⟩:=j0.agr u1
 refine RD.each [10,12] (rk b0) ⟨?_,?_,trivial⟩
 have v1:=Aw B0 (Tt d0 s0)
 refine RO.call (m' :=4095) (fst:=[]) (cap:=[]) (sk b0) rfl .plain (bd 95) rfl (e2 rfl rfl) (fun w9 hw9=>ac_c n (q0.hL hL hw9) (Ax v1 hw9) D0) rfl fun y2 x2 Q0 ⟨P0,hu_,K0⟩=>?_
 subst hu_
 obtain ⟨I0,J0⟩:=q0.agr Q0
 refine RD.nu 12 8191 b0 rfl .plain rfl (AC [.bool false,vN] I0) fun g1 k0 g0 c0=>?_
 obtain ⟨B4,p3⟩:=AH g0 (.a0 (.a0 (.a0 (.a0 (.a0 .done)))))
 have E3:=Tt J0 (Tt c0 p3)
 exact v0 (X0,P0,k0,p0) B4 (Tt d0 (Tt s0 E3)) ⟨(Aw U0 E3),(Aw K0 (Tt c0 p3))⟩
 refine RO.new (m' :=7167) (sk b0) rfl .plain rfl (AC [.bool false,vN] q0) fun g1 k0 g0 c0=>?_
 have u0:=Tt d0 (Tt s0 c0)
 have R0:=Aw B0 u0
 refine RD.cl 10 8191 b0 rfl .plain (bd 95) rfl (e2 rfl rfl) (fun w9 hw9=>ac_c n (g0.hL hL hw9) (Ax R0 hw9) D0) rfl fun Y1 X1 A0 ⟨F0,hu_,C0⟩=>?_
 subst hu_
 obtain ⟨y0,t0⟩:=g0.agr A0
 obtain ⟨C4,q3⟩:=AH y0 (.a0 (.a0 (.a0 (.a0 (.a0 .done)))))
 have F3:=Tt c0 (Tt t0 q3)
 exact v0 (X0,F0,k0,p0) C4 (Tt d0 (Tt s0 F3)) ⟨(Aw U0 F3),(Aw C0 q3)⟩
 refine RO.new (m' :=7103) (sk b0) rfl .plain rfl (AC [.bool false,vN] j0) fun g1 k0 g0 c0=>?_
 have P1:=Aw R1 (Tt d0 c0)
 refine RD.cl 6 7167 b0 rfl .plain (bd 95) rfl (e2 rfl rfl) (fun w9 hw9=>ac_c n (g0.hL hL hw9) (Ax P1 hw9) U1) rfl fun I2 H2 u1 ⟨X0,hu_,U0⟩=>?_
 subst hu_
 obtain ⟨q0,s0⟩:=g0.agr u1
 have u0:=Tt d0 (Tt c0 s0)
 have R0:=Aw B0 u0
 refine RD.cl 10 8191 b0 rfl .plain (bd 95) rfl (e2 rfl rfl) (fun w9 hw9=>ac_c n (q0.hL hL hw9) (Ax R0 hw9) D0) rfl fun Y1 X1 A0 ⟨F0,hu_,C0⟩=>?_
 subst hu_
 obtain ⟨y0,t0⟩:=q0.agr A0
 obtain ⟨D4,E2⟩:=AH y0 (.a0 (.a0 (.a0 (.a0 (.a0 .done)))))
 exact v0 (X0,F0,k0,p0) D4 (Tt u0 (Tt t0 E2)) ⟨(Aw U0 (Tt t0 E2)),(Aw C0 E2)⟩
 refine RO.new (m' :=5055) (sk b0) rfl .plain rfl (AC [.bool false,vN] Z0) fun g1 k0 g0 c0=>RD.each [6,11] (rk b0) ⟨?_,?_,trivial⟩
 have P1:=Aw R1 c0
 refine RO.call (m' :=5119) (fst:=[]) (cap:=[]) (sk b0) rfl .plain (bd 95) rfl (e2 rfl rfl) (fun w9 hw9=>ac_c n (g0.hL hL hw9) (Ax P1 hw9) U1) rfl fun I2 H2 u1 ⟨X0,hu_,U0⟩=>?_
 subst hu_
 obtain ⟨q0,s0⟩:=g0.agr u1
 refine RD.each [10,11] (rk b0) ⟨?_,?_,trivial⟩
 refine RO.call (m' :=6143) (fst:=[]) (cap:=[]) (sk b0) rfl .plain (bd 95) rfl (e2 rfl rfl) (fun w9 hw9=>ac_c n (q0.hL hL hw9) (Ax (Aw B0 (Tt c0 s0)) hw9) D0) rfl fun y2 x2 Q0 ⟨P0,hu_,K0⟩=>?_
 subst hu_
 obtain ⟨I0,J0⟩:=q0.agr Q0
 refine RD.nu 11 8191 b0 rfl .plain rfl (AC [.bool false,vN] I0) fun j1 p0 j0 d0=>?_
 obtain ⟨E4,s3⟩:=AH j0 (.a1 (.a0 (.a0 (.a0 (.a0 .done)))))
 have G3:=Tt J0 (Tt d0 s3)
 exact v0 (X0,P0,k0,p0) E4 (Tt c0 (Tt s0 G3)) ⟨(Aw U0 G3),(Aw K0 (Tt d0 s3))⟩
 refine RO.new (m' :=7167) (sk b0) rfl .plain rfl (AC [.bool false,vN] q0) fun j1 p0 j0 d0=>?_
 have u0:=Tt c0 (Tt s0 d0)
 have R0:=Aw B0 u0
 refine RD.cl 10 8191 b0 rfl .plain (bd 95) rfl (e2 rfl rfl) (fun w9 hw9=>ac_c n (j0.hL hL hw9) (Ax R0 hw9) D0) rfl fun Y1 X1 A0 ⟨F0,hu_,C0⟩=>?_
 subst hu_
 obtain ⟨y0,t0⟩:=j0.agr A0
 obtain ⟨F4,u3⟩:=AH y0 (.a1 (.a0 (.a0 (.a0 (.a0 .done)))))
 have H3:=Tt d0 (Tt t0 u3)
 exact v0 (X0,F0,k0,p0) F4 (Tt c0 (Tt s0 H3)) ⟨(Aw U0 H3),(Aw C0 u3)⟩
 refine RO.new (m' :=7103) (sk b0) rfl .plain rfl (AC [.bool false,vN] g0) fun j1 p0 j0 d0=>RD.cl 6 7167 b0 rfl .plain (bd 95) rfl (e2 rfl rfl) (fun w9 hw9=>ac_c n (j0.hL hL hw9) (Ax (Aw R1 (Tt c0 d0)) hw9) U1) rfl fun I2 H2 u1 ⟨X0,hu_,U0⟩=>?_
 subst hu_
 obtain ⟨q0,s0⟩:=j0.agr u1
 have u0:=Tt c0 (Tt d0 s0)
 refine RD.cl 10 8191 b0 rfl .plain (bd 95) rfl (e2 rfl rfl) (fun w9 hw9=>ac_c n (q0.hL hL hw9) (Ax (Aw B0 u0) hw9) D0) rfl fun Y1 X1 A0 ⟨F0,hu_,C0⟩=>?_
 subst hu_
 obtain ⟨y0,t0⟩:=q0.agr A0
 obtain ⟨G4,F2⟩:=AH y0 (.a1 (.a0 (.a0 (.a0 (.a0 .done)))))
 exact v0 (X0,F0,k0,p0) G4 (Tt u0 (Tt t0 F2)) ⟨(Aw U0 (Tt t0 F2)),(Aw C0 F2)⟩
def aD_l1 (_n:Nat) (a1:List Int) (c0:Nat) (a0:List Int) (q0:UInt64 × Nat × (List Int) -> Option ((List Int) × UInt64)):UInt64 × Nat × (List Int) -> Option ((List Int) × UInt64)
  | (d0,b0,g0)=>(if b0 < a1.length then (g0[c0 + b0]?).bind fun j0=>(a0[c0]?).bind fun k0=>(a1[b0]?).bind fun p0=>(put g0 ((c0 + b0:Nat):Int) (ab (((d0 + (ae j0)) + ((ae k0) * (ae p0))) % (4294967296:UInt64)))).bind fun s0=>q0 (((d0 + (ae j0)) + ((ae k0) * (ae p0))) / (4294967296:UInt64),b0 + 1,s0) else some (g0,d0))
def aD_l2 (n:Nat) (a0:List Int) (a1:List Int) (g0:Nat × (List Int) -> Option (List Int)):Nat × (List Int) -> Option (List Int)
  | (b0,c0)=>(if b0 < a0.length then Option.bind (ac (aD_l1 n a1 b0 a0) n (0,0,c0)) (fun (d0,j0)=>(d0[b0 + a1.length]?).bind fun _x537=>(put d0 ((b0 + a1.length:Nat):Int) (ab j0)).bind fun k0=>g0 (b0 + 1,k0)) else some c0)
def aD_p (n:Nat) (a0:List Int) (a1:List Int):Option (List Int):=
  (mk ((a0.length + a1.length:Nat):Int) (0:Int)).bind fun b0=>Option.bind (ac (aD_l2 n a0 a1) n (0,b0)) (fun c0=>(aq_p n c0).bind fun d0=>some d0)
theorem aD_c (n:Nat) {L w} (hL:hl L w) {a0:List Int} {v0_0:Value} (h0_0:Rep.R w L [v0_0] a0) {a1:List Int} {v1_0:Value} (h1_0:Rep.R w L [v1_0] a1)  {r:List Int} (h:aD_p n a0 a1 = some r) :
 Cl 98 #[v0_0,v1_0] w (ah w fun w' u=>∃ v0_0:Value,u = v0_0/\Rep.R w' L [v0_0] r):=by
 unfold aD_p at h
 refine AG func98 rfl rfl rfl fun _ cs0 hb0=>Af<|Ae rfl<|Aa<|Af<|Ac rfl ?_
 have hl1:a0.length <= 281474976710656:=AY h0_0
 refine Ab (Bh (xs:=a0) underlying41 rfl h0_0)<|Ac rfl ?_
 have hl2:a1.length <= 281474976710656:=AY h1_0
 refine Ab (Bh (xs:=a1) underlying41 rfl h1_0)<|Ab (AW (i:=a0.length) (j:=a1.length) rfl rfl (by omega))<|bk h fun V0 Q0 h=>Au .plain rfl (Does.mk (α:=Int) Q0 (AF w) aq rfl) fun V2 x0 G0 J2=>Ae rfl<|Aa<|Aj<|Af<|Ae rfl<|Aa<|Ar ?_
 obtain ⟨Q2,W1,K1⟩:=ai h
 refine MX.lf (α:=Nat × (List Int) × (List Value)) (fun ⟨d0,k0,p0⟩=>[(0,v0_0),(1,v1_0),(5,(.slice (some ⟨x0,0,none⟩) ((a0.length + a1.length:Nat):Int).toNat ((a0.length + a1.length:Nat):Int).toNat)),(6,vI ((d0:Nat):Int))]) (fun ⟨d0,k0,p0⟩=>[rr w 3 Int (.slice (some ⟨x0,0,none⟩) ((a0.length + a1.length:Nat):Int).toNat ((a0.length + a1.length:Nat):Int).toNat) k0.length p0]) (fun ⟨d0,k0,p0⟩ R0=>Cells R0 (bl [rr w 3 Int (.slice (some ⟨x0,0,none⟩) ((a0.length + a1.length:Nat):Int).toNat ((a0.length + a1.length:Nat):Int).toNat) k0.length p0] ++ L) p0 k0) (fun ⟨d0,k0,p0⟩=>(d0,k0)) (0,V0,(List.replicate ((a0.length + a1.length:Nat):Int).toNat [vI 0]).flatten) W1 G0 (AE (cs:=(List.replicate ((a0.length + a1.length:Nat):Int).toNat [vI 0]).flatten) (xs:=V0) G0 L (Cells.mk Q0 rfl)) ?_
 rintro B2 ⟨d0,k0,p0⟩ R0 s1 z0 y1 J0 h
 unfold aD_l2 at h
 try dsimp only at h
 refine Aj<|Af<|Ac rfl<|Ac rfl<|Ab (Bh (xs:=a0) underlying41 rfl (Be h0_0 z0))<|Ab (Bq (i:=d0) (j:=a0.length) rfl rfl)<|Aa<|AN rfl h (fun b1 h=>?_) (fun b1 h=>?_)
 refine Ao<|Aj<|Ar<|Af<|Ae rfl<|Aa<|Aj<|Af<|Ae rfl<|Aa<|Ar ?_
 obtain ⟨R2,X1,M1⟩:=ai h
 refine MX.lf (α:=UInt64 × Nat × (List Int) × (List Value)) (fun ⟨j0,g0,v0,y0⟩=>[(0,v0_0),(1,v1_0),(5,(.slice (some ⟨x0,0,none⟩) ((a0.length + a1.length:Nat):Int).toNat ((a0.length + a1.length:Nat):Int).toNat)),(6,vI ((d0:Nat):Int)),(7,vU j0),(8,vI ((g0:Nat):Int))]) (fun ⟨j0,g0,v0,y0⟩=>[rr w 3 Int (.slice (some ⟨x0,0,none⟩) ((a0.length + a1.length:Nat):Int).toNat ((a0.length + a1.length:Nat):Int).toNat) v0.length y0]) (fun ⟨j0,g0,v0,y0⟩ U0=>Cells U0 (bl [rr w 3 Int (.slice (some ⟨x0,0,none⟩) ((a0.length + a1.length:Nat):Int).toNat ((a0.length + a1.length:Nat):Int).toNat) v0.length y0] ++ L) y0 v0) (fun ⟨j0,g0,v0,y0⟩=>(j0,g0,v0)) (0,0,k0,p0) X1 z0 J0 ?_
 rintro C2 ⟨j0,g0,v0,y0⟩ U0 u1 q0 I0 A0 h
 unfold aD_l1 at h
 try dsimp only at h
 refine Aj<|Af<|Ac rfl<|Ac rfl ?_
 have F0:=Be h1_0 q0
 refine Ab (Bh (xs:=a1) underlying41 rfl F0)<|Ab (Bq (i:=g0) (j:=a1.length) rfl rfl)<|Aa<|AN rfl h (fun c1 h=>?_) (fun c1 h=>?_)
 refine Ao<|Aj<|Ar<|Aj<|du 22 fun b0 c0=>Rv 0 b0 rfl c0 (fun _=>Ag rfl)<|Rv 1 b0 rfl c0 (fun _=>Ag rfl)<|Rv 2 b0 rfl c0 (fun _=>Ag rfl)<|Rv 3 b0 rfl c0 (fun _=>Ag rfl)<|Rv 4 b0 rfl c0 (fun _=>AW (i:=d0) (j:=g0) rfl rfl (by omega))<|bk h fun s0 g2 h=>?_
 obtain ⟨W0,D2,B0,E0,d1,Y1,R1⟩:=St.nth (α:=Int) q0 .hd A0 g2
 obtain ⟨Y0,E2,K0⟩:=St.nthOwn (α:=Int) q0 .hd E0
 obtain rfl:W0 = ⟨Y0,0,none⟩:=by rw [K0] at B0; cases B0; rfl
 have E1:d1 = [vI s0]:=Y1; subst E1
 refine Rv 5 b0 rfl c0 (fun _=>Bk 1 (d0 + g0) rfl B0 rfl rfl E0)<|Rx 6 3146112 b0 rfl c0 (AM rfl (R1 0 _ rfl))<|Rv 7 b0 rfl c0 (fun _=>FV.convU (i:=s0) underlying3 underlying26 rfl)<|Rv 8 b0 rfl c0 (fun _=>FV.addU (a:=j0) (b:=ae s0) rfl rfl)<|Rv 9 b0 rfl c0 (fun _=>Ag rfl)<|Rv 10 b0 rfl c0 (fun _=>Ag rfl)<|bk h fun t0 j2 h=>?_
 obtain ⟨z2,F2,F1,P1,g1,Z1,U1⟩:=Bm (Be h0_0 q0) j2
 have G1:g1 = [vI t0]:=Z1; subst G1
 refine Rv 11 b0 rfl c0 (fun _=>Bk 1 d0 rfl F1 rfl rfl P1)<|Rx 12 3678208 b0 rfl c0 (AM rfl (U1 0 _ rfl))<|Rv 13 b0 rfl c0 (fun _=>FV.convU (i:=t0) underlying3 underlying26 rfl)<|Rv 14 b0 rfl c0 (fun _=>Ag rfl)<|Rv 15 b0 rfl c0 (fun _=>Ag rfl)<|bk h fun u0 k2 h=>?_
 obtain ⟨A2,G2,H1,Q1,j1,b2,V1⟩:=Bm F0 k2
 have I1:j1 = [vI u0]:=b2; subst I1
 refine Rv 16 b0 rfl c0 (fun _=>Bk 1 g0 rfl H1 rfl rfl Q1)<|Rx 17 3932160 b0 rfl c0 (AM rfl (V1 0 _ rfl))<|Rv 18 b0 rfl c0 (fun _=>FV.convU (i:=u0) underlying3 underlying26 rfl)<|Rv 19 b0 rfl c0 (fun _=>FV.mulU (a:=ae t0) (b:=ae u0) rfl rfl)<|Rv 20 b0 rfl c0 (fun _=>FV.addU (a:=j0 + (ae s0)) (b:=(ae t0) * (ae u0)) rfl rfl)<|Rv 21 b0 rfl c0 (fun _=>Ba rfl)<|AZ (dk b0)<|Af<|Ac rfl<|Ac rfl<|Ac rfl<|Ab (AW (i:=d0) (j:=g0) rfl rfl (by omega))<|Ac rfl<|Ab (FV.remU (a:=(j0 + (ae s0)) + ((ae t0) * (ae u0))) (b:=(4294967296:UInt64)) rfl rfl (by decide))<|Ab (FV.convUI (a:=((j0 + (ae s0)) + ((ae t0) * (ae u0))) % (4294967296:UInt64)) underlying26 underlying3 rfl)<|Ab (Bk 1 (d0 + g0) rfl B0 rfl rfl E0)<|bk h fun x2 q2 h=>RG.acts' .plain (Acts.set (α:=Int) (i:=d0 + g0) q2 q0 K0 (fun _=>.hd) A0 rfl rfl rfl rfl rfl rfl) fun W2 ⟨k1,v1,z1,C1⟩=>Aa<|Ak<|Ac rfl<|Ab (FV.quoU (a:=(j0 + (ae s0)) + ((ae t0) * (ae u0))) (b:=(4294967296:UInt64)) rfl rfl (by decide))<|Ae rfl<|Aa<|Ap<|Ak<|Ac rfl<|Ab (AW (i:=g0) (j:=1) rfl rfl (by omega))<|Ae rfl<|Aa<|u1 (((j0 + (ae s0)) + ((ae t0) * (ae u0))) / (4294967296:UInt64),g0 + 1,x2,k1) v1 (Tt I0 z1) C1 h
 refine AV rfl ?_
 have h:=M1 _ h
 try dsimp only at h
 refine Ak<|Ac rfl<|Ac rfl<|Ac rfl<|Ab (Bh (xs:=a1) underlying41 rfl F0)<|Ab (AW (i:=d0) (j:=a1.length) rfl rfl (by omega))<|Ac rfl<|Ab (FV.convUI (a:=j0) underlying26 underlying3 rfl)<|bk h fun v2 p2 h=>?_
 obtain ⟨X0,H2,D0,P0,p1,c2,P2⟩:=St.nth (α:=Int) q0 .hd A0 p2
 obtain ⟨Z0,I2,M0⟩:=St.nthOwn (α:=Int) q0 .hd P0
 obtain rfl:X0 = ⟨Z0,0,none⟩:=by rw [M0] at D0; cases D0; rfl
 have J1:p1 = [vI v2]:=c2; subst J1
 refine Ab (Bk 1 (d0 + a1.length) rfl D0 rfl rfl P0)<|bk h fun y2 s2 h=>RG.acts' .plain (Acts.set (α:=Int) (i:=d0 + a1.length) s2 q0 M0 (fun _=>.hd) A0 rfl rfl rfl rfl rfl rfl) fun X2 ⟨q1,x1,A1,D1⟩=>Aa<|Ap<|Ak<|Ac rfl<|Ab (AW (i:=d0) (j:=1) rfl rfl (by omega))<|Ae rfl<|Aa<|s1 (d0 + 1,y2,q1) x1 (Tt y1 (Tt I0 A1)) D1 h
 refine AV rfl ?_
 have h:=K1 _ h
 try dsimp only at h
 refine Af<|Ac rfl ?_
 have C0:=Bt z0 .hd
 have K2:=Bu z0 .hd
 refine bk h fun Z2 t2 h=>jE (bd 108) rfl (e1 rfl) (fun w9 hw9=>aq_c n (C0.hL hL hw9) (Ax (Bv (α:=Int) (v:=(.slice (some ⟨x0,0,none⟩) ((a0.length + a1.length:Nat):Int).toNat ((a0.length + a1.length:Nat):Int).toNat)) (xs:=k0) C0 L (Bf (α:=Int) z0 .hd J0 hL)) hw9) t2) rfl fun Y2 u2 B1 ⟨U2,hu_,d2⟩=>?_
 subst hu_
 obtain ⟨H0,M2⟩:=C0.agr B1
 refine Ae rfl<|Aa<|Aq rfl<|AQ hb0 func98 rfl rfl ?_
 cases h
 exact ⟨H0.ag,fun w9 hw9=>⟨u2,rfl,H0.kd d2 hw9⟩⟩
def aM_p (n:Nat) (a0:Tc) (a1:Tc):Option Tc:=
  (aD_p n a0.fD a1.fD).bind fun b0=>(ac_p n (!(a0.fe == a1.fe)) b0).bind fun c0=>some c0
theorem aM_c (n:Nat) {L w} (hL:hl L w) (a0:Tc) {v0_1:Value} (h0_1:Rep.R w L [v0_1] a0.fD) (a1:Tc) {v1_1:Value} (h1_1:Rep.R w L [v1_1] a1.fD)  {r:Tc} (h:aM_p n a0 a1 = some r) :
 Cl 76 #[.agg #[.bool a0.fe,v0_1],.agg #[.bool a1.fe,v1_1]] w (ah w fun w' u=>∃ v0_1:Value,u = .agg #[.bool r.fe,v0_1]/\Rep.R w' L [v0_1] r.fD):=by
 unfold aM_p at h
 refine AG func76 rfl rfl rfl fun _ cs0 hb0=>Af<|RG.bx (AF w) rfl rfl fun Q0 C0 s0 F0=>RG.bx s0 rfl rfl fun R0 D0 t0 G0=>RG.nl [.bool false,vN] t0 fun U0 E0 d0 H0=>Aa<|Aj<|du 11 fun b0 c0=>Rv 0 b0 rfl c0 (fun _=>BB 0 rfl)<|Rx 1 3088 b0 rfl c0 (AM rfl ((d0.memA .t2) 0 _ rfl))<|Rv 2 b0 rfl c0 (fun _=>BB 0 rfl)<|Rx 3 3088 b0 rfl c0 (AM rfl ((d0.memA .t1) 0 _ rfl))<|Rv 4 b0 rfl c0 (fun _=>FV.neqB (a:=a0.fe) (b:=a1.fe) underlying4 rfl rfl)<|Rv 5 b0 rfl c0 (fun _=>BB 1 rfl)<|Rx 6 3584 b0 rfl c0 (AM rfl ((d0.memA .t2) 1 _ rfl))<|Rv 7 b0 rfl c0 (fun _=>BB 1 rfl)<|Rx 8 3584 b0 rfl c0 (AM rfl ((d0.memA .t1) 1 _ rfl))<|bk h fun Y0 A0 h=>RD.cl 9 1023 b0 rfl .plain (bd 98) rfl (e2 rfl rfl) (fun w9 hw9=>aD_c n (d0.hL hL hw9) (d0.km h0_1 hw9) (d0.km h1_1 hw9) A0) rfl fun V0 M0 x0 ⟨K0,hu_,z0⟩=>?_
 subst hu_
 obtain ⟨k0,I0⟩:=d0.agr x0
 refine bk h fun q0 B0 h=>RD.cl 10 2047 b0 rfl .plain (bd 95) rfl (e2 rfl rfl) (fun w9 hw9=>ac_c n (k0.hL hL hw9) (Ax z0 hw9) B0) rfl fun W0 P0 y0 ⟨j0,hu_,p0⟩=>?_
 subst hu_
 obtain ⟨u0,J0⟩:=k0.agr y0
 refine RD.nw 11 4095 b0 rfl rfl .plain (AP (news:=[.bool q0.fe,j0]) u0 .hd rfl rfl rfl rfl rfl rfl (o2 rfl (By p0))) fun X0 g0 v0=>AZ (dk b0)<|Aq rfl<|Av hb0 func76 rfl (.cons (.many (cs:=[.bool q0.fe,j0]) rfl rfl (g0.memA .hd)) .nil) rfl ?_
 cases h
 exact ⟨g0.ag,fun w9 hw9=>⟨j0,rfl,g0.kd (Aw p0 v0) hw9⟩⟩
def aO_l1 (n:Nat) (a1:Int) (a0:Tc) (j0:Int × Bool × (List Int) -> Option (Bool × (List Int))):Int × Bool × (List Int) -> Option (Bool × (List Int))
  | (g0,b0,c0)=>(if g0 < a1 then (aM_p n (⟨b0,c0⟩:Tc) a0).bind fun d0=>(chk (g0 + 1)).bind fun k0=>j0 (k0,d0.fe,d0.fD) else some (b0,c0))
def aO_p (n:Nat) (a0:Tc) (a1:Int):Option Tc:=
  (ar_p n (1:Int)).bind fun b0=>Option.bind (ac (aO_l1 n a1 a0) n (0,b0.fe,b0.fD)) (fun (c0,d0)=>some (⟨c0,d0⟩:Tc))
theorem aO_c (n:Nat) {L w} (hL:hl L w) (a0:Tc) {v0_1:Value} (h0_1:Rep.R w L [v0_1] a0.fD) {a1:Int}  {r:Tc} (h:aO_p n a0 a1 = some r) :
 Cl 74 #[.agg #[.bool a0.fe,v0_1],vI a1] w (ah w fun w' u=>∃ v0_1:Value,u = .agg #[.bool r.fe,v0_1]/\Rep.R w' L [v0_1] r.fD):=by
 unfold aO_p at h
 refine AG func74 rfl rfl rfl fun _ cs0 hb0=>Af<|RG.bx (AF w) rfl rfl fun z1 k0 I0 k1=>RG.nl [.bool false,vN] I0 fun A1 p0 x0 p1=>Aa<|Af<|bk h fun u0 c1 h=>jE (bd 75) rfl (e1 rfl) (fun w9 hw9=>ar_c n (x0.hL hL hw9)  c1) rfl fun B1 u1 W0 ⟨C0,hu_,B0⟩=>?_
 subst hu_
 obtain ⟨J0,q1⟩:=x0.agr W0
 refine RG.nl [.bool false,vN] J0 fun C1 q0 K0 z0=>AX [.bool u0.fe,C0] K0 .hd (o2 rfl (By (Aw B0 z0))) fun D1 M0 R0=>Aa<|Aj<|Af<|Ae rfl<|Aa<|Ar ?_
 obtain ⟨s1,Z0,Y0⟩:=ai h
 refine MX.lf (α:=Int × Bool × (List Int) × Value) (fun ⟨d0,b0,j0,c0⟩=>[(1,vI a1),(2,vP k0),(4,vP p0),(5,vP q0),(6,vI d0)]) (fun ⟨d0,b0,j0,c0⟩=>[.cells q0 [.bool b0,c0] 121,.cells p0 [.bool false,vN] 121,.cells k0 [.bool a0.fe,v0_1] 121]) (fun ⟨d0,b0,j0,c0⟩ E0=>Rep.R E0 (bl [.cells q0 [.bool b0,c0] 121,.cells p0 [.bool false,vN] 121,.cells k0 [.bool a0.fe,v0_1] 121] ++ L) [c0] j0) (fun ⟨d0,b0,j0,c0⟩=>(d0,b0,j0)) (0,u0.fe,u0.fD,C0) Z0 M0 (Aw B0 (Tt z0 R0)) ?_
 rintro j1 ⟨d0,b0,j0,c0⟩ E0 G0 g0 U0 t0 h
 unfold aO_l1 at h
 try dsimp only at h
 refine Aj<|Af<|Ac rfl<|Ac rfl<|Ab (FV.lss (i:=d0) (j:=a1) rfl rfl)<|Aa<|AN rfl h (fun F0 h=>?_) (fun F0 h=>?_)
 refine Ao<|Aj<|Ar<|Ak<|Ab (AK rfl (g0.memA .hd))<|Ab (AK rfl (g0.memA .t2))<|bk h fun v0 d1 h=>jE (bd 76) rfl (e2 rfl rfl) (fun w9 hw9=>aM_c n (g0.hL hL hw9) (⟨b0,j0⟩:Tc) (Ax t0 hw9) a0 (g0.km h0_1 hw9) d1) rfl fun E1 v1 X0 ⟨D0,hu_,A0⟩=>?_
 subst hu_
 obtain ⟨P0,V0⟩:=g0.agr X0
 refine AX [.bool v0.fe,D0] P0 .hd (o2 rfl (By A0)) fun x1 H0 y0=>Aa<|Ap<|Ak<|Ac rfl<|bk h fun g1 b1 h=>Ab (Bp (i:=d0) (j:=1) rfl rfl b1)<|Ae rfl<|Aa<|G0 (g1,v0.fe,v0.fD,D0) H0 (Tt U0 (Tt V0 y0)) (Aw A0 y0) h
 refine AV rfl ?_
 have h:=Y0 _ h
 try dsimp only at h
 refine Af<|Ab (AK rfl (g0.memA .hd))<|AX [.bool b0,c0] g0 .t1 (o2 rfl (By t0)) fun y1 s0 Q0=>Aa<|Aq rfl<|Av hb0 func74 rfl (.cons (.many (cs:=[.bool b0,c0]) rfl rfl (s0.memA .t1)) .nil) rfl ?_
 cases h
 exact ⟨s0.ag,fun w9 hw9=>⟨c0,rfl,s0.kd (Aw t0 Q0) hw9⟩⟩
def bn_p (_n:Nat) (a0:Ta):Option (UInt64 × Ta):=
  (some ((a0.fc + (11400714819323198485:UInt64)) ^^^ ((a0.fc + (11400714819323198485:UInt64)) / (1073741824:UInt64)))).bind fun b0=>(some ((b0 * (13787848793156543929:UInt64)) ^^^ ((b0 * (13787848793156543929:UInt64)) / (134217728:UInt64)))).bind fun c0=>(some ((c0 * (10723151780598845931:UInt64)) ^^^ ((c0 * (10723151780598845931:UInt64)) / (2147483648:UInt64)))).bind fun d0=>some (d0,(⟨a0.fc + (11400714819323198485:UInt64)⟩:Ta))
theorem bn_c (n:Nat) {L w} (_hL:hl L w) (a0:Ta)  {r:UInt64 × Ta} (h:bn_p n a0 = some r) :
 Cl 77 #[.agg #[vU a0.fc]] w (ah w fun _ u=>u = .tuple #[vU r.1,.agg #[vU r.2.fc]]):=by
 unfold bn_p at h
 refine AG func77 rfl rfl rfl fun _ cs0 hb0=>Af<|RG.bx (AF w) rfl rfl fun z0 s0 j0 u0=>Ae rfl<|RG.nl [vW 0] j0 fun A0 t0 d0 v0=>Aa<|Af<|AT 0 rfl<|AA rfl ((d0.memA .t1) 0 _ rfl)<|Ab (FV.addU (a:=a0.fc) (b:=(11400714819323198485:UInt64)) rfl rfl)<|Ae rfl<|Aa<|Af<|Ac rfl<|Ae rfl<|Aa<|Af<|Ac rfl<|Ac rfl<|Ab (FV.quoU (a:=a0.fc + (11400714819323198485:UInt64)) (b:=(1073741824:UInt64)) rfl rfl (by decide))<|bk h fun b0 k0 h=>Ab (FV.as (FV.xorU (a:=a0.fc + (11400714819323198485:UInt64)) (b:=(a0.fc + (11400714819323198485:UInt64)) / (1073741824:UInt64)) rfl rfl) (congrArg (fun z:UInt64=>Value.int .u64 (z.toNat:Int)) (Option.some.inj k0)))<|Ab (FV.mulU (a:=b0) (b:=(13787848793156543929:UInt64)) rfl rfl)<|Ae rfl<|Aa<|Af<|Ac rfl<|Ac rfl<|Ab (FV.quoU (a:=b0 * (13787848793156543929:UInt64)) (b:=(134217728:UInt64)) rfl rfl (by decide))<|bk h fun c0 p0 h=>Ab (FV.as (FV.xorU (a:=b0 * (13787848793156543929:UInt64)) (b:=(b0 * (13787848793156543929:UInt64)) / (134217728:UInt64)) rfl rfl) (congrArg (fun z:UInt64=>Value.int .u64 (z.toNat:Int)) (Option.some.inj p0)))<|Ab (FV.mulU (a:=c0) (b:=(10723151780598845931:UInt64)) rfl rfl)<|Ae rfl<|Aa<|Af<|Ac rfl<|Ac rfl<|Ab (FV.quoU (a:=c0 * (10723151780598845931:UInt64)) (b:=(2147483648:UInt64)) rfl rfl (by decide))<|bk h fun y0 q0 h=>Ab (FV.as (FV.xorU (a:=c0 * (10723151780598845931:UInt64)) (b:=(c0 * (10723151780598845931:UInt64)) / (2147483648:UInt64)) rfl rfl) (congrArg (fun z:UInt64=>Value.int .u64 (z.toNat:Int)) (Option.some.inj q0)))<|Ac rfl<|Ab (AL (vs:=[vW ((a0.fc + (11400714819323198485:UInt64)).toNat:Int)]) (u:=.agg #[vW ((a0.fc + (11400714819323198485:UInt64)).toNat:Int)]) (e1 rfl) (fun w9=>by kernel_rfl))<|Ae rfl<|RG.now .plain (AP (news:=[vW ((a0.fc + (11400714819323198485:UInt64)).toNat:Int)]) d0 .hd rfl rfl rfl rfl rfl (.refl 1) (o1 rfl)) fun B0 g0 x0=>?_
 refine Aa<|Aq rfl<|Av hb0 func77 rfl (.cons (.tmp rfl) (.cons (.many (cs:=[vW ((a0.fc + (11400714819323198485:UInt64)).toNat:Int)]) rfl rfl (g0.memA .hd)) .nil)) rfl ?_
 cases h
 exact g0.gv
def a9_p (n:Nat) (a0:Tc) (a1:Tc):Option Int:=
  (aX_p n a0 a1).bind fun b0=>(if b0.fe = true then some (-1:Int) else (if 0 < b0.fD.length then some (1:Int) else some (0:Int)))
theorem a9_c (n:Nat) {L w} (hL:hl L w) (a0:Tc) {v0_1:Value} (h0_1:Rep.R w L [v0_1] a0.fD) (a1:Tc) {v1_1:Value} (h1_1:Rep.R w L [v1_1] a1.fD)  {r:Int} (h:a9_p n a0 a1 = some r) :
 Cl 78 #[.agg #[.bool a0.fe,v0_1],.agg #[.bool a1.fe,v1_1]] w (ah w fun _ u=>u = vI r):=by
 unfold a9_p at h
 refine AG func78 rfl rfl rfl fun _ cs0 hb0=>Af<|RG.bx (AF w) rfl rfl fun I0 A0 s0 D0=>RG.bx s0 rfl rfl fun J0 B0 b0 E0=>Ae rfl<|Aa<|Af<|Ab (AK rfl (b0.memA .t1))<|Ab (AK rfl (b0.memA .hd))<|bk h fun d0 y0 h=>jE (bd 97) rfl (e2 rfl rfl) (fun w9 hw9=>aX_c n (b0.hL hL hw9) a0 (b0.km h0_1 hw9) a1 (b0.km h1_1 hw9) y0) rfl fun K0 H0 x0 ⟨z0,hu_,k0⟩=>?_
 subst hu_
 obtain ⟨t0,F0⟩:=b0.agr x0
 refine RG.nl [.bool false,vN] t0 fun M0 C0 u0 g0=>AX [.bool d0.fe,z0] u0 .hd (o2 rfl (By (Aw k0 g0))) fun P0 c0 v0=>Aa<|Aj<|Af<|AT 0 rfl<|AA rfl ((c0.memA .hd) 0 _ rfl)<|Aa<|MX.ifb rfl h (fun p0 h=>?_) (fun p0 h=>?_)
 refine Af<|Ae rfl<|Aa<|Aq rfl<|AQ hb0 func78 rfl rfl ?_
 cases h
 exact c0.gv
 refine Ao<|Aj<|Af<|AT 1 rfl<|AA rfl ((c0.memA .hd) 1 _ rfl) ?_
 have j0:=Aw k0 (Tt g0 v0)
 have G0:d0.fD.length <= 281474976710656:=AY j0
 refine Ab (Bh (xs:=d0.fD) underlying41 rfl j0)<|Ab (FV.gtrN (i:=d0.fD.length) (j:=0) rfl rfl)<|Aa<|AN rfl h (fun q0 h=>?_) (fun q0 h=>?_)
 refine Af<|Ae rfl<|Aa<|Aq rfl<|AQ hb0 func78 rfl rfl ?_
 cases h
 exact c0.gv
 refine Ao<|Af<|Ae rfl<|Aa<|Aq rfl<|AQ hb0 func78 rfl rfl ?_
 cases h
 exact c0.gv
def dc (x:U8):List Value:=[vU x.1,vU x.2.1,vU x.2.2.1,vU x.2.2.2.1,vU x.2.2.2.2.1,vU x.2.2.2.2.2.1,vU x.2.2.2.2.2.2.1,vU x.2.2.2.2.2.2.2]
def aP_l1 (_n:Nat) (a0:U8) (g0:Nat × (List Int) -> Option (List Int)):Nat × (List Int) -> Option (List Int)
  | (b0,c0)=>(if b0 < 8 then (([a0.1,a0.2.1,a0.2.2.1,a0.2.2.2.1,a0.2.2.2.2.1,a0.2.2.2.2.2.1,a0.2.2.2.2.2.2.1,a0.2.2.2.2.2.2.2]:List UInt64)[b0]?).bind fun d0=>(app c0 ([ab (d0 % (4294967296:UInt64)),ab (d0 / (4294967296:UInt64))]:List Int)).bind fun j0=>g0 (b0 + 1,j0) else some c0)
def aP_p (n:Nat) (a0:U8):Option (List Int):=
  Option.bind (ac (aP_l1 n a0) n (0,([]:List Int))) (fun b0=>some b0)
theorem aP_c (n:Nat) {L w} (hL:hl L w) (a0:U8)  {r:List Int} (h:aP_p n a0 = some r) :
 Cl 111 #[.agg ((dc a0)).toArray] w (ah w fun w' u=>∃ v0_0:Value,u = v0_0/\Rep.R w' L [v0_0] r):=by
 unfold aP_p at h
 refine AG func111 rfl rfl rfl fun _ cs0 hb0=>Af<|RG.bx (AF w) rfl rfl fun j1 s0 x0 Z0=>Ae rfl<|Aa<|Af<|Ae rfl<|Aa<|Aj<|Af<|Ae rfl<|Aa<|Ar ?_
 have y0:=x0.nilRow 3 (Rep.size Int)
 have b1:=St.nilRowT x0 3 (Rep.size Int)
 obtain ⟨c1,P0,M0⟩:=ai h
 refine MX.lf (α:=Nat × (List Int) × Value × (List Value)) (fun ⟨d0,k0,j0,p0⟩=>[(1,vP s0),(3,j0),(4,vI ((d0:Nat):Int))]) (fun ⟨d0,k0,j0,p0⟩=>[rr w 3 Int j0 k0.length p0,.cells s0 (dc a0) 155]) (fun ⟨d0,k0,j0,p0⟩ C0=>Cells C0 (bl [rr w 3 Int j0 k0.length p0,.cells s0 (dc a0) 155] ++ L) p0 k0) (fun ⟨d0,k0,j0,p0⟩=>(d0,k0)) (0,([]:List Int),vN,[]) P0 y0 (AE (cs:=[]) (xs:=([]:List Int)) y0 L (AJ _ _)) ?_
 rintro W0 ⟨d0,k0,j0,p0⟩ C0 F0 q0 J0 B0 h
 unfold aP_l1 at h
 try dsimp only at h
 refine Aj<|Af<|Ac rfl<|Ab (Bq (i:=d0) (j:=8) rfl rfl)<|Aa<|AN rfl h (fun D0 h=>?_) (fun D0 h=>?_)
 refine Ao<|Aj<|Ar<|du 12 fun c0 g0=>Rv 0 c0 rfl g0 (fun _=>Ag rfl)<|Rv 1 c0 rfl g0 (fun _=>Ag rfl)<|bk h fun b0 t0 h=>Rv 2 c0 rfl g0 (fun _=>AB (m:=1) (k:=d0) (len:=8) rfl rfl rfl rfl (ii t0 rfl))<|Rx 3 14384 c0 rfl g0 (AM rfl ((dO (p:=⟨s0,0,none⟩) (cs:=([a0.1,a0.2.1,a0.2.2.1,a0.2.2.2.1,a0.2.2.2.2.1,a0.2.2.2.2.2.1,a0.2.2.2.2.2.2.1,a0.2.2.2.2.2.2.2]:List UInt64).map (fun z9:UInt64=>(vU z9:Value)) ++ []) (i:=d0) (q0.memA .t1) (ge (fun z9:UInt64=>(vU z9:Value)) t0)) 0 _ rfl))<|Rv 4 c0 rfl g0 (fun _=>FV.remU (a:=b0) (b:=(4294967296:UInt64)) rfl rfl (by decide))<|Rv 5 c0 rfl g0 (fun _=>FV.convUI (a:=b0 % (4294967296:UInt64)) underlying26 underlying3 rfl)<|Rv 6 c0 rfl g0 (fun _=>Ag rfl)<|Rv 7 c0 rfl g0 (fun _=>AB (m:=1) (k:=d0) (len:=8) rfl rfl rfl rfl (ii t0 rfl))<|Rx 8 15872 c0 rfl g0 (AM rfl ((dO (p:=⟨s0,0,none⟩) (cs:=([a0.1,a0.2.1,a0.2.2.1,a0.2.2.2.1,a0.2.2.2.2.1,a0.2.2.2.2.2.1,a0.2.2.2.2.2.2.1,a0.2.2.2.2.2.2.2]:List UInt64).map (fun z9:UInt64=>(vU z9:Value)) ++ []) (i:=d0) (q0.memA .t1) (ge (fun z9:UInt64=>(vU z9:Value)) t0)) 0 _ rfl))<|Rv 9 c0 rfl g0 (fun _=>FV.quoU (a:=b0) (b:=(4294967296:UInt64)) rfl rfl (by decide))<|Rv 10 c0 rfl g0 (fun _=>FV.convUI (a:=b0 / (4294967296:UInt64)) underlying26 underlying3 rfl)<|RD.nu 11 4095 c0 rfl .plain rfl (AO (α:=Int) (xs:=([ab (b0 % (4294967296:UInt64)),ab (b0 / (4294967296:UInt64))]:List Int)) (vs:=[vI (ab (b0 % (4294967296:UInt64))),vI (ab (b0 / (4294967296:UInt64)))]) (ds' :=[vI (ab (b0 % (4294967296:UInt64))),vI (ab (b0 / (4294967296:UInt64)))]) rfl q0 aq rfl (e2 rfl rfl) (by kernel_rfl) rfl) fun k1 X0 v0 A0=>bk h fun V0 R0 h=>RD.one (i:=12) (rk c0) (RO.doesL (m' :=8191) (sk c0) rfl rfl .plain rfl (Bw (α:=Int) (ys:=([ab (b0 % (4294967296:UInt64)),ab (b0 / (4294967296:UInt64))]:List Int)) R0 v0 (fun _ _=>.t1) aq rfl rfl (Az B0 A0) (Src.row (α:=Int) v0 .hd (AE (cs:=[vI (ab (b0 % (4294967296:UInt64))),vI (ab (b0 / (4294967296:UInt64)))]) (xs:=(([ab (b0 % (4294967296:UInt64)),ab (b0 / (4294967296:UInt64))]:List Int):List Int)) v0 L (Ay (cs:=[vI (ab (b0 % (4294967296:UInt64)))]) (ds:=[vI (ab (b0 / (4294967296:UInt64)))]) rfl (Ay (cs:=[vI (ab (b0 / (4294967296:UInt64)))]) (ds:=[]) rfl (AJ _ _)))))) (fun U0 g1 ⟨E0,G0,I0,K0⟩=>?_))
 refine RD.one (i:=13) (rk c0) (RO.val (m' :=16383) (sk c0) rfl .plain rfl (Ba rfl) ?_)
 refine AZ (dk c0)<|Ap<|Ak<|Ac rfl<|Ab (AW (i:=d0) (j:=1) rfl rfl (by omega))<|Ae rfl<|Aa ?_
 obtain ⟨H0,z0⟩:=AH G0 .d1
 exact F0 (d0 + 1,V0,U0,E0) H0 (Tt J0 (Tt A0 (Tt I0 z0))) (Az K0 z0) h
 refine AV rfl ?_
 have h:=M0 _ h
 try dsimp only at h
 refine Af<|Ac rfl<|Ae rfl<|Aa<|Aq rfl ?_
 have u0:=Bt q0 .hd
 have Y0:=Bu q0 .hd
 have Q0:=Bv (α:=Int) (v:=j0) (xs:=k0) u0 L (Bf (α:=Int) q0 .hd B0 hL)
 refine AQ hb0 func111 rfl rfl ?_
 cases h
 exact ⟨u0.ag,fun w9 hw9=>⟨j0,rfl,u0.kd Q0 hw9⟩⟩
def bs_p (n:Nat) (a0:U8):Option Tc:=
  (aP_p n a0).bind fun c0=>(if a0.2.2.2.2.2.2.2 < (9223372036854775808:UInt64) then (ac_p n false c0).bind fun g0=>some g0 else (mk 17 (0:Int)).bind fun b0=>(b0[16]?).bind fun _x49=>(put b0 ((16:Nat):Int) (1:Int)).bind fun d0=>(aq_p n c0).bind fun j0=>(au_p n d0 j0).bind fun k0=>(ac_p n true k0).bind fun p0=>some p0)
theorem bs_c (n:Nat) {L w} (hL:hl L w) (a0:U8)  {r:Tc} (h:bs_p n a0 = some r) :
 Cl 99 #[.agg ((dc a0)).toArray] w (ah w fun w' u=>∃ v0_1:Value,u = .agg #[.bool r.fe,v0_1]/\Rep.R w' L [v0_1] r.fD):=by
 unfold bs_p at h
 refine AG func99 rfl rfl rfl fun _ cs0 hb0=>Af<|RG.bx (AF w) rfl rfl fun g2 D1 J0 J1=>RG.nl [.bool false,vN] J0 fun j2 E1 c0 K1=>Aa<|Af<|Ab (AK rfl (c0.memA .t1))<|bk h fun A2 u1 h=>jE (bd 111) rfl (e1 rfl) (fun w9 hw9=>aP_c n (c0.hL hL hw9) a0 u1) rfl fun k2 Y1 W0 ⟨V1,hu_,A0⟩=>?_
 subst hu_
 obtain ⟨b0,M1⟩:=c0.agr W0
 refine Ae rfl<|Aa<|Aj<|Af<|Ab (AB (m:=1) (k:=7) (len:=8) rfl rfl rfl rfl (by omega))<|AA rfl ((b0.memA .t1) 7 _ rfl)<|Ab (FV.lssU (a:=a0.2.2.2.2.2.2.2) (b:=(9223372036854775808:UInt64)) rfl rfl)<|Aa<|AN rfl h (fun H0 h=>?_) (fun H0 h=>?_)
 refine Af<|Ac rfl<|bk h fun D0 v1 h=>jE (bd 95) rfl (e2 rfl rfl) (fun w9 hw9=>ac_c n (b0.hL hL hw9) (Ax A0 hw9) v1) rfl fun p2 Z1 X0 ⟨s0,hu_,B0⟩=>?_
 subst hu_
 obtain ⟨K0,P1⟩:=b0.agr X0
 refine AX [.bool D0.fe,s0] K0 .hd (o2 rfl (By B0)) fun q2 d0 Q0=>Aa<|Aq rfl<|Av hb0 func99 rfl (.cons (.many (cs:=[.bool D0.fe,s0]) rfl rfl (d0.memA .hd)) .nil) rfl ?_
 cases h
 exact ⟨d0.ag,fun w9 hw9=>⟨s0,rfl,d0.kd (Aw B0 Q0) hw9⟩⟩
 refine Ao<|Af<|bk h fun z2 q1 h=>RG.doesH .plain rfl (Does.mkH (α:=Int) (L:=L) q1 b0 aq rfl (fun _ _=>rfl)) fun A1 s2 ⟨H1,g0,R0,x0⟩=>Ae rfl<|Aa<|Af<|Ac rfl<|bk h fun B1 p1 h=>?_
 obtain ⟨F0,F1,q0,z0,I0,g1,U1⟩:=St.nth (α:=Int) g0 .hd x0 p1
 obtain ⟨G0,G1,y0⟩:=St.nthOwn (α:=Int) g0 .hd z0
 obtain rfl:F0 = ⟨G0,0,none⟩:=by rw [y0] at q0; cases q0; rfl
 have d1:I0 = [vI B1]:=g1; subst d1
 refine Ab (Bk 1 16 rfl q0 rfl rfl z0)<|bk h fun C1 s1 h=>RG.acts' .plain (Acts.set (α:=Int) (i:=16) s1 g0 y0 (fun _=>.hd) x0 rfl rfl rfl rfl rfl rfl) fun t2 ⟨I1,u0,U0,c1⟩=>Aa<|Af<|Ac rfl<|Ac rfl<|bk h fun B2 x1 h=>jE (bd 108) rfl (e1 rfl) (fun w9 hw9=>aq_c n (u0.hL hL hw9) (Ax (Aw A0 (Tt R0 U0)) hw9) x1) rfl fun u2 b2 Y0 ⟨W1,hu_,j1⟩=>?_
 subst hu_
 obtain ⟨j0,V0⟩:=u0.agr Y0
 have k0:=Bt j0 .hd
 refine bk h fun C2 y1 h=>jE (bd 107) rfl (e2 rfl rfl) (fun w9 hw9=>au_c n (k0.hL hL hw9) (Ax (Bv (α:=Int) (v:=A1) (xs:=C1) k0 L (Bf (α:=Int) j0 .hd (Az c1 V0) hL)) hw9) (Ax (Aw j1 (Bu j0 .hd)) hw9) y1) rfl fun v2 c2 Z0 ⟨X1,hu_,k1⟩=>?_
 subst hu_
 obtain ⟨v0,Q1⟩:=k0.agr Z0
 refine bk h fun E0 z1 h=>jE (bd 95) rfl (e2 rfl rfl) (fun w9 hw9=>ac_c n (v0.hL hL hw9) (Ax k1 hw9) z1) rfl fun x2 d2 b1 ⟨t0,hu_,C0⟩=>?_
 subst hu_
 obtain ⟨M0,R1⟩:=v0.agr b1
 refine AX [.bool E0.fe,t0] M0 .hd (o2 rfl (By C0)) fun y2 p0 P0=>Aa<|Aq rfl<|Av hb0 func99 rfl (.cons (.many (cs:=[.bool E0.fe,t0]) rfl rfl (p0.memA .hd)) .nil) rfl ?_
 cases h
 exact ⟨p0.ag,fun w9 hw9=>⟨t0,rfl,p0.kd (Aw C0 P0) hw9⟩⟩
def ba_p (n:Nat) (a0:UInt64):Option Tc:=
  (bs_p n (a0,0,0,0,0,0,0,0)).bind fun b0=>some b0
theorem ba_c (n:Nat) {L w} (hL:hl L w) (a0:UInt64)  {r:Tc} (h:ba_p n a0 = some r) :
 Cl 79 #[vU a0] w (ah w fun w' u=>∃ v0_1:Value,u = .agg #[.bool r.fe,v0_1]/\Rep.R w' L [v0_1] r.fD):=by
 unfold ba_p at h
 refine AG func79 rfl rfl rfl fun _ cs0 hb0=>Af<|RG.nl [.bool false,vN] (AF w) fun y0 t0 d0 u0=>Aa<|Af<|Ac rfl<|Ab (AL (vs:=[vU a0]) (u:=.agg #[vU a0,vW 0,vW 0,vW 0,vW 0,vW 0,vW 0,vW 0]) (e1 rfl) (fun w9=>by kernel_rfl))<|bk h fun j0 s0 h=>jE (bd 99) rfl (e1 rfl) (fun w9 hw9=>bs_c n (d0.hL hL hw9) (a0,0,0,0,0,0,0,0) s0) rfl fun z0 x0 q0 ⟨c0,hu_,g0⟩=>?_
 subst hu_
 obtain ⟨k0,v0⟩:=d0.agr q0
 refine AX [.bool j0.fe,c0] k0 .hd (o2 rfl (By g0)) fun A0 b0 p0=>Aa<|Aq rfl<|Av hb0 func79 rfl (.cons (.many (cs:=[.bool j0.fe,c0]) rfl rfl (b0.memA .hd)) .nil) rfl ?_
 cases h
 exact ⟨b0.ag,fun w9 hw9=>⟨c0,rfl,b0.kd (Aw g0 p0) hw9⟩⟩
def aw_l1 (n:Nat) (q0:Tc) (a1:Int) (d0:Nat × UInt64 -> Option ((Int × Ta × Int) ⊕ Unit)):Nat × UInt64 -> Option ((Int × Ta × Int) ⊕ Unit)
  | (c0,j0)=>(if c0 < 200 then (bn_p n (⟨j0⟩:Ta)).bind fun b0=>(ba_p n b0.1).bind fun k0=>(a9_p n k0 q0).bind fun p0=>(if p0 < 0 then (cY b0.1 (ae a1)).bind fun g0=>some (.inl (ab g0,b0.2,(0:Int))) else d0 (c0 + 1,b0.2.fc)) else some (.inr ()))
def aw_p (n:Nat) (a0:Ta) (a1:Int):Option (Int × Ta × Int):=
  (if a1 < 1 then some ((0:Int),(⟨(0:UInt64)⟩:Ta),(2:Int)) else (ar_p n (2:Int)).bind fun b0=>(aO_p n b0 (64:Int)).bind fun c0=>(ar_p n a1).bind fun g0=>(bg_p n c0 g0).bind fun j0=>(ar_p n a1).bind fun d0=>(aM_p n j0.1 d0).bind fun k0=>thn (ac (aw_l1 n k0 a1) n (0,a0.fc)) (fun _=>some ((0:Int),(⟨(0:UInt64)⟩:Ta),(9:Int))))
theorem aw_c (n:Nat) {L w} (hL:hl L w) (a0:Ta) {a1:Int}  {r:Int × Ta × Int} (h:aw_p n a0 a1 = some r) :
 Cl 58 #[.agg #[vU a0.fc],vI a1] w (ah w fun _ u=>u = .tuple #[vI r.1,.agg #[vU r.2.1.fc],vI r.2.2]):=by
 unfold aw_p at h
 refine AG func58 rfl rfl rfl fun _ cs0 hb0=>Af<|RG.bx (AF w) rfl rfl fun j4 A0 X1 F3=>Ae rfl<|RG.nl [vW 0] X1 fun k4 B0 M0 J3=>Ae rfl<|Aa<|Aj<|Af<|Ac rfl<|Ab (FV.lss (i:=a1) (j:=1) rfl rfl)<|Aa<|AN rfl h (fun V1 h=>?_) (fun V1 h=>?_)
 refine Af<|Ab (AL (vs:=[]) (u:=.agg #[vW 0]) aj (fun w9=>by kernel_rfl))<|Ae rfl<|AX [vW 0] M0 .hd (o1 rfl) fun y4 q1 K3=>Ae rfl<|Aa<|Aq rfl<|Av hb0 func58 rfl (.cons (.tmp rfl) (.cons (.many (cs:=[vW 0]) rfl rfl (q1.memA .hd)) (.cons (.tmp rfl) .nil))) rfl ?_
 cases h
 exact q1.gv
 refine Ao<|Af<|bk h fun y3 Y2 h=>jE (bd 75) rfl (e1 rfl) (fun w9 hw9=>ar_c n (M0.hL hL hw9)  Y2) rfl fun z4 Z3 D2 ⟨V3,hu_,K2⟩=>?_
 subst hu_
 obtain ⟨s1,M3⟩:=M0.agr D2
 refine bk h fun z3 Z2 h=>jE (bd 74) rfl (e2 rfl rfl) (fun w9 hw9=>aO_c n (s1.hL hL hw9) y3 (Ax K2 hw9) Z2) rfl fun A4 b4 E2 ⟨W3,hu_,M2⟩=>?_
 subst hu_
 obtain ⟨u1,P3⟩:=s1.agr E2
 refine Ac rfl<|bk h fun A3 b3 h=>jE (bd 75) rfl (e1 rfl) (fun w9 hw9=>ar_c n (u1.hL hL hw9)  b3) rfl fun B4 c4 F2 ⟨X3,hu_,P2⟩=>?_
 subst hu_
 obtain ⟨v1,z2⟩:=u1.agr F2
 refine bk h fun D0 c3 h=>jE (bd 73) rfl (e2 rfl rfl) (fun w9 hw9=>bg_c n (v1.hL hL hw9) z3 (Ax (Aw M2 z2) hw9) A3 (Ax P2 hw9) c3) rfl fun C4 d4 G2 ⟨j3,k3,hu_,I0,Q2⟩=>?_
 subst hu_
 obtain ⟨p2,Q3⟩:=v1.agr G2
 refine Ac rfl<|Ab (Am rfl rfl)<|Ab (Am rfl rfl)<|RG.nl [.bool false,vN] p2 fun D4 D3 q2 F1=>RG.nl [.bool false,vN] q2 fun E4 E3 s2 G1=>AX [.bool D0.1.fe,j3] s2 .t1 (o2 rfl (By (Aw I0 (Tt F1 G1)))) fun G4 v2 B2=>?_
 have G0:=Tt F1 (Tt G1 B2)
 refine AX [.bool D0.2.fe,k3] v2 .hd (o2 rfl (By (Aw Q2 G0))) fun H4 C0 U0=>Aa<|Aj<|du 5 fun b0 K1=>Rx 0 40 b0 rfl K1 (AK rfl (C0.memA .t1))<|Rv 1 b0 rfl K1 (fun _=>Ag rfl)<|bk h fun g1 J1 h=>bk h fun E0 b1 h=>RD.mf (α:=Value × Nat) (fun ⟨t0,j0⟩=>[(1,vI a1),(2,vP A0),(5,vP B0),(27,.agg #[.bool E0.fe,t0]),(9,vP j0)]) (fun ⟨t0,j0⟩=>[.cells j0 [.bool false,vN] 121,.cells B0 [vW 0] 30,.cells A0 [vU a0.fc] 30]) (fun ⟨t0,j0⟩ P1=>Rep.R P1 (bl [.cells j0 [.bool false,vN] 121,.cells B0 [vW 0] 30,.cells A0 [vU a0.fc] 30] ++ L) [t0] E0.fD) C0 1 31 ?_ ?_
 rintro ⟨t0,j0⟩ P1 Y1 G3 I1
 try dsimp only
 refine RD.nw 5 63 b0 rfl rfl .plain (AP (news:=[.bool E0.fe,t0]) Y1 .hd rfl rfl rfl rfl rfl rfl (o2 rfl (By I1))) fun p4 Z1 x2=>AZ (dk b0)<|Aj<|Af<|Ae rfl<|Aa<|Ar<|tn h fun R3 I2 H1=>MX.lo (α:=Nat × UInt64) (fun ⟨k0,y0⟩=>[(1,vI a1),(2,vP A0),(5,vP B0),(9,vP j0),(10,vI ((k0:Nat):Int))]) (fun ⟨k0,y0⟩=>[.cells j0 [.bool E0.fe,t0] 121,.cells B0 [vW 0] 30,.cells A0 [vU y0] 30]) (fun ⟨k0,y0⟩=>(k0,y0)) (0,a0.fc) I2 Z1 ?_
 rintro B3 ⟨k0,y0⟩ I4 W1 F0 x1 h
 unfold aw_l1 at h
 try dsimp only at h
 refine Aj<|Af<|Ac rfl<|Ab (Bq (i:=k0) (j:=200) rfl rfl)<|Aa<|AN rfl h (fun R1 h=>?_) (fun R1 h=>?_)
 refine Ao<|Aj<|Ar<|Af<|Ab (AK rfl (F0.memA .t2))<|bk h fun g0 V2 h=>BA (.tuple #[vU g0.1,.agg #[vU g0.2.fc]]) (bd 77) rfl (e1 rfl) (fun w9 hw9=>bn_c n (F0.hL0 hL hw9) (⟨y0⟩:Ta) V2) rfl<|Ac rfl<|Ab (Am rfl rfl)<|Ab (Am rfl rfl)<|RG.nl [vW 0] F0 fun q4 C3 b2 y1=>Ae rfl<|AX [vU g0.2.fc] b2 .hd (o1 rfl) fun s4 j1 z1=>Aa<|Af<|Ab (AK rfl (j1.memA .hd))<|AX [vU g0.2.fc] j1 .t3 (o1 rfl) fun t4 P0 A1=>Aa<|Aj<|du 5 fun x0 J0=>Rv 0 x0 rfl J0 (fun _=>Ag rfl)<|Rx 2 24 x0 rfl J0 (AK rfl (P0.memA .t1))<|bk h fun x3 W2 h=>RD.cl 1 7 x0 rfl .plain (bd 79) rfl (e1 rfl) (fun w9 hw9=>ba_c n (P0.hL hL hw9) g0.1 W2) rfl fun u4 Y3 C2 ⟨U3,hu_,J2⟩=>?_
 subst hu_
 obtain ⟨u0,B1⟩:=P0.agr C2
 refine bk h fun Q1 X2 h=>RD.cq 3 15 16 (vI Q1) x0 rfl J0 (bd 78) rfl (e2 rfl rfl) (fun w9 hw9=>a9_c n (u0.hL0 hL hw9) x3 (u0.kd J2 hw9) E0 (u0.kd (Aw I1 (Tt x2 (Tt x1 (Tt y1 (Tt z1 (Tt A1 B1)))))) hw9) X2) rfl<|Rv 4 x0 rfl J0 (fun _=>FV.lss (i:=Q1) (j:=0) rfl rfl)<|AZ (dk x0)<|AN rfl h (fun U1 h=>?_) (fun U1 h=>?_)
 refine Aj<|du 7 fun c0 s0=>Rv 0 c0 rfl s0 (fun _=>Ag rfl)<|Rv 1 c0 rfl s0 (fun _=>Ag rfl)<|Rv 2 c0 rfl s0 (fun _=>FV.convU (i:=a1) underlying3 underlying26 rfl)<|bk h fun d3 U2 h=>Rv 3 c0 rfl s0 (fun _=>FV.remV (a:=g0.1) (b:=ae a1) rfl rfl U2)<|Rv 4 c0 rfl s0 (fun _=>FV.convUI (a:=d3) underlying26 underlying3 rfl)<|Rx 5 384 c0 rfl s0 (AK rfl (u0.memA .t3))<|Rv 6 c0 rfl s0 (fun _=>Ba rfl)<|RD.nw 7 255 c0 rfl rfl .plain (AP (news:=[vU g0.2.fc]) u0 .t2 rfl rfl rfl rfl rfl rfl (o1 rfl)) fun v4 k1 H3=>RD.one (i:=8) (rk c0) (RO.val (m' :=511) (sk c0) rfl .plain rfl (Ba rfl) ?_)
 refine AZ (dk c0) ?_
 have h:=ao h H1
 refine Aq rfl<|Av hb0 func58 rfl (.cons (.tmp rfl) (.cons (.many (cs:=[vU g0.2.fc]) rfl rfl (k1.memA .t2)) (.cons (.tmp rfl) .nil))) rfl ?_
 cases h
 exact k1.gv
 refine Ao<|Ap<|Ak<|Ac rfl<|Ab (AW (i:=k0) (j:=1) rfl rfl (by omega))<|Ae rfl<|Aa ?_
 obtain ⟨c2,y2⟩:=AH u0 .d1
 exact W1 (k0 + 1,g0.2.fc) c2 (Tt x1 (Tt y1 (Tt z1 (Tt A1 (Tt B1 y2))))) h
 refine AV rfl ?_
 have h:=aI h H1
 try dsimp only at h
 refine Af<|Ab (AL (vs:=[]) (u:=.agg #[vW 0]) aj (fun w9=>by kernel_rfl))<|Ae rfl<|AX [vW 0] F0 .t1 (o1 rfl) fun x4 p1 I3=>Ae rfl<|Aa<|Aq rfl<|Av hb0 func58 rfl (.cons (.tmp rfl) (.cons (.many (cs:=[vW 0]) rfl rfl (p1.memA .t1)) (.cons (.tmp rfl) .nil))) rfl ?_
 cases h
 exact p1.gv
 intro K0
 refine RD.each [2,4] (rk b0) ⟨?_,?_,trivial⟩
 refine RO.call (m' :=7) (fst:=[]) (cap:=[]) (sk b0) rfl .plain (bd 75) rfl (e1 rfl) (fun w9 hw9=>ar_c n (C0.hL hL hw9)  J1) rfl fun u3 q3 V0 ⟨g3,hu_,H0⟩=>?_
 subst hu_
 obtain ⟨v0,q0⟩:=C0.agr V0
 refine RD.each [3,4] (rk b0) ⟨?_,?_,trivial⟩
 have Y0:=Tt G0 (Tt U0 q0)
 have X0:=Aw I0 Y0
 refine RO.call (m' :=15) (fst:=[]) (cap:=[]) (sk b0) rfl .plain (bd 76) rfl (e2 rfl rfl) (fun w9 hw9=>aM_c n (v0.hL hL hw9) D0.1 (Ax X0 hw9) g1 (Ax H0 hw9) b1) rfl fun v3 s3 W0 ⟨c1,hu_,Z0⟩=>?_
 subst hu_
 obtain ⟨Q0,R0⟩:=v0.agr W0
 refine RD.nu 4 31 b0 rfl .plain rfl (AC [.bool false,vN] Q0) fun M1 z0 p0 d0=>?_
 obtain ⟨g2,C1⟩:=AH p0 (.a0 .d2)
 exact K0 (c1,z0) g2 (Tt q0 (Tt R0 (Tt d0 C1))) (Aw Z0 (Tt d0 C1))
 refine RO.new (m' :=23) (sk b0) rfl .plain rfl (AC [.bool false,vN] v0) fun M1 z0 p0 d0=>?_
 have Y0:=Tt G0 (Tt U0 (Tt q0 d0))
 have X0:=Aw I0 Y0
 refine RD.cl 3 31 b0 rfl .plain (bd 76) rfl (e2 rfl rfl) (fun w9 hw9=>aM_c n (p0.hL hL hw9) D0.1 (Ax X0 hw9) g1 (Ax (Aw H0 d0) hw9) b1) rfl fun F4 g4 H2 ⟨p3,hu_,R2⟩=>?_
 subst hu_
 obtain ⟨u2,A2⟩:=p0.agr H2
 obtain ⟨j2,D1⟩:=AH u2 (.a0 .d2)
 exact K0 (p3,z0) j2 (Tt q0 (Tt d0 (Tt A2 D1))) (Aw R2 D1)
 refine RO.new (m' :=19) (sk b0) rfl .plain rfl (AC [.bool false,vN] C0) fun M1 z0 p0 d0=>RD.cl 2 23 b0 rfl .plain (bd 75) rfl (e1 rfl) (fun w9 hw9=>ar_c n (p0.hL hL hw9)  J1) rfl fun u3 q3 V0 ⟨g3,hu_,H0⟩=>?_
 subst hu_
 obtain ⟨v0,q0⟩:=p0.agr V0
 refine RD.cl 3 31 b0 rfl .plain (bd 76) rfl (e2 rfl rfl) (fun w9 hw9=>aM_c n (v0.hL hL hw9) D0.1 (Ax (Aw I0 (Tt G0 (Tt U0 (Tt d0 q0)))) hw9) g1 (Ax H0 hw9) b1) rfl fun v3 s3 W0 ⟨c1,hu_,Z0⟩=>?_
 subst hu_
 obtain ⟨Q0,R0⟩:=v0.agr W0
 obtain ⟨k2,E1⟩:=AH Q0 (.a0 .d2)
 exact K0 (c1,z0) k2 (Tt d0 (Tt q0 (Tt R0 E1))) (Aw Z0 E1)
def aE_l1 (n:Nat) (a3:UInt64) (a5:Int) (a0:Tb) (a1:UInt64) (k0:(List Int) × UInt64 -> Option (((List Int) × Ta × Int) ⊕ ((List Int) × UInt64))):(List Int) × UInt64 -> Option (((List Int) × Ta × Int) ⊕ ((List Int) × UInt64))
  | (b0,d0)=>(idx b0 (((b0.length:Nat):Int) - 1)).bind fun g0=>(ak_p n a3 g0).bind fun s0=>(if s0 = true then some (.inr (b0,d0)) else (if (((b0.length:Nat):Int) - 1) = a5 then some (.inl (([]:List Int),(⟨(0:UInt64)⟩:Ta),(9:Int))) else (aH_p n a0 a1 g0).bind fun j0=>(aw_p n (⟨d0⟩:Ta) ((j0.length:Nat):Int)).bind fun c0=>(if c0.2.2 = 0 then (idx j0 c0.1).bind fun p0=>(app b0 ([p0]:List Int)).bind fun q0=>k0 (q0,c0.2.1.fc) else some (.inl (([]:List Int),(⟨(0:UInt64)⟩:Ta),c0.2.2)))))
def aE_p (n:Nat) (a0:Tb) (a1:UInt64) (a2:Int) (a3:UInt64) (a4:Ta) (a5:Int):Option ((List Int) × Ta × Int):=
  thn (ac (aE_l1 n a3 a5 a0 a1) n (([a2]:List Int),a4.fc)) (fun (c0,b0)=>some (c0,(⟨b0⟩:Ta),(0:Int)))
theorem aE_c (n:Nat) {L w} (hL:hl L w) (a0:Tb) {v0_1:Value} (h0_1:Rep.R w L [v0_1] a0.fh) (a1:UInt64) {a2:Int} (a3:UInt64) (a4:Ta) {a5:Int}  {r:(List Int) × Ta × Int} (h:aE_p n a0 a1 a2 a3 a4 a5 = some r) :
 Cl 28 #[.agg #[vI a0.fN,v0_1],vU a1,vI a2,vU a3,.agg #[vU a4.fc],vI a5] w (ah w fun w' u=>∃ v0_0:Value,u = .tuple #[v0_0,.agg #[vU r.2.1.fc],vI r.2.2]/\Rep.R w' L [v0_0] r.1):=by
 unfold aE_p at h
 refine AG func28 rfl rfl rfl fun _ cs0 hb0=>Af<|RG.bx (AF w) rfl rfl fun s3 z0 v1 W2=>RG.bx v1 rfl rfl fun u3 A0 x1 X2=>Ae rfl<|RG.nl [vW 0] x1 fun v3 B0 y1 Y2=>Ae rfl<|Aa<|Af<|Ac rfl<|Au .plain rfl (jA a2 (vI a2) y1 aq (e1 rfl)) fun y3 d1 M0 c3=>Ae rfl<|Aa<|Aj<|Ar<|tn h fun k3 Z1 H0=>MX.lf (α:=(List Int) × UInt64 × Value × (List Value)) (fun ⟨b0,g0,k0,s0⟩=>[(1,vU a1),(3,vU a3),(5,vI a5),(6,vP z0),(10,vP A0),(13,vP B0),(15,k0)]) (fun ⟨b0,g0,k0,s0⟩=>[rr w 3 Int k0 b0.length s0,.cells B0 [vW 0] 30,.cells A0 [vU g0] 30,.cells z0 [vI a0.fN,v0_1] 34]) (fun ⟨b0,g0,k0,s0⟩ Y0=>Cells Y0 (bl [rr w 3 Int k0 b0.length s0,.cells B0 [vW 0] 30,.cells A0 [vU g0] 30,.cells z0 [vI a0.fN,v0_1] 34] ++ L) s0 b0) (fun ⟨b0,g0,k0,s0⟩=>(b0,g0)) (([a2]:List Int),a4.fc,(vS d1 1),[vI a2]) Z1 M0 (jC a2 (vI a2) M0 L rfl) ?_
 rintro I2 ⟨b0,g0,k0,s0⟩ Y0 u1 c0 D1 G0 h
 unfold aE_l1 at h
 try dsimp only at h
 refine Aj<|Af<|Ac rfl<|Ac rfl<|Ac rfl ?_
 have g3:b0.length <= 4294967296:=St.rowLe (α:=Int) c0 .hd
 obtain ⟨E2,M2,K1⟩:=St.rowV (α:=Int) c0 .hd
 refine Ab (FV.lenV underlying41 rfl K1)<|Ab (FV.subI (i:=((b0.length:Nat):Int)) (j:=1) rfl rfl (by omega))<|bk h fun B2 p2 h=>?_
 obtain ⟨V0,q2⟩:=au p2
 obtain ⟨b1,P2,y0,I0,p1,b2,W0⟩:=St.nth (α:=Int) c0 .hd G0 q2
 obtain ⟨c1,Q2,M1⟩:=St.nthOwn (α:=Int) c0 .hd I0
 obtain rfl:b1 = ⟨c1,0,none⟩:=by rw [M1] at y0; cases y0; rfl
 have P1:p1 = [vI B2]:=b2; subst P1
 refine Ab (FV.idxAddr (m:=1) (i:=(((b0.length:Nat):Int) - 1).toNat) rfl rfl y0 rfl V0 I0)<|AA rfl (W0 0 _ rfl)<|bk h fun D2 x2 h=>BA (.bool D2) (bd 26) rfl (e2 rfl rfl) (fun w9 hw9=>ak_c n (c0.hL0 hL hw9) a3 x2) rfl<|Ab (FV.not rfl)<|Aa<|MX.ifnb rfl h (fun g1 h=>?_) (fun g1 h=>?_)
 refine AV rfl ?_
 have h:=aI h H0
 try dsimp only at h
 refine Aj<|du 3 fun t0 K0=>Rv 0 t0 rfl K0 (fun _=>Ag rfl)<|Rx 1 24 t0 rfl K0 (AK rfl (c0.memA .t2))<|Rv 2 t0 rfl K0 (fun _=>Ba rfl)<|RD.nw 3 15 t0 rfl rfl .plain (AP (news:=[vU g0]) c0 .t1 rfl rfl rfl rfl rfl rfl (o1 rfl)) fun x3 C0 E1=>RD.one (i:=4) (rk t0) (RO.val (m' :=31) (sk t0) rfl .plain rfl (Ba rfl) ?_)
 refine AZ (dk t0)<|Aq rfl ?_
 have u0:=Bt C0 .hd
 have Z2:=Bu C0 .hd
 have c2:=Bv (α:=Int) (v:=k0) (xs:=b0) u0 L (Bf (α:=Int) C0 .hd (Az G0 E1) hL)
 refine Av hb0 func28 rfl (.cons (.tmp rfl) (.cons (.many (cs:=[vU g0]) rfl rfl (u0.memA .hd)) (.cons (.tmp rfl) .nil))) rfl ?_
 cases h
 exact ⟨u0.ag,fun w9 hw9=>⟨k0,rfl,u0.kd c2 hw9⟩⟩
 refine Ao<|Ar<|Aj<|Af<|Ac rfl ?_
 obtain ⟨F2,R2,Q1⟩:=St.rowV (α:=Int) c0 .hd
 refine Ab (FV.lenV underlying41 rfl Q1)<|Ab (FV.subI (i:=((b0.length:Nat):Int)) (j:=1) rfl rfl (by omega))<|Ac rfl<|Ab (Br (i:=((b0.length:Nat):Int) - 1) (j:=a5) rfl rfl)<|Aa<|AN rfl h (fun j1 h=>?_) (fun j1 h=>?_)
 refine Af<|Ab (AL (vs:=[]) (u:=.agg #[vW 0]) aj (fun w9=>by kernel_rfl))<|Ae rfl<|AX [vW 0] c0 .t1 (o1 rfl) fun z3 v0 b3=>Ae rfl<|Aa ?_
 have h:=ao h H0
 refine Aq rfl ?_
 have g2:=Bo (α:=Int) v0 L
 refine Av hb0 func28 rfl (.cons (.tmp rfl) (.cons (.many (cs:=[vW 0]) rfl rfl (v0.memA .t1)) (.cons (.tmp rfl) .nil))) rfl ?_
 cases h
 exact ⟨v0.ag,fun w9 hw9=>⟨vN,rfl,v0.kd g2 hw9⟩⟩
 refine Ao<|Aj<|du 10 fun d0 j0=>Rx 0 768 d0 rfl j0 (AK rfl (c0.memA .t3))<|Rv 1 d0 rfl j0 (fun _=>Ag rfl)<|Rv 2 d0 rfl j0 (fun _=>Ag rfl)<|Rv 3 d0 rfl j0 (fun _=>Ag rfl) ?_
 obtain ⟨G2,U2,R1⟩:=St.rowV (α:=Int) c0 .hd
 refine Rx 4 992 d0 rfl j0 (FV.lenV underlying41 rfl R1)<|Rv 5 d0 rfl j0 (fun _=>FV.subI (i:=((b0.length:Nat):Int)) (j:=1) rfl rfl (by omega))<|Rv 6 d0 rfl j0 (fun _=>FV.idxAddr (m:=1) (i:=(((b0.length:Nat):Int) - 1).toNat) rfl rfl y0 rfl V0 I0)<|Rx 7 768 d0 rfl j0 (AM rfl (W0 0 _ rfl))<|bk h fun Z0 y2 h=>RD.cl 8 511 d0 rfl .plain (bd 57) rfl (e3 rfl rfl rfl) (fun w9 hw9=>aH_c n (c0.hL hL hw9) a0 (c0.km h0_1 hw9) a1 y2) rfl fun A3 q3 I1 ⟨p3,hu_,J0⟩=>?_
 subst hu_
 obtain ⟨D0,F1⟩:=c0.agr I1
 refine Rv 9 d0 rfl j0 (fun _=>Ba rfl)<|AZ (dk d0)<|Af<|Ab (AK rfl (D0.memA .t2))<|Ac rfl ?_
 have j3:Z0.length <= 281474976710656:=AY J0
 refine Ab (Bh (xs:=Z0) underlying41 rfl J0)<|bk h fun q0 z2 h=>BA (.tuple #[vI q0.1,.agg #[vU q0.2.1.fc],vI q0.2.2]) (bd 58) rfl (e2 rfl rfl) (fun w9 hw9=>aw_c n (D0.hL0 hL hw9) (⟨g0⟩:Ta) z2) rfl<|Ac rfl<|Ab (Am rfl rfl)<|Ab (Am rfl rfl)<|Ab (Am rfl rfl)<|RG.nl [vW 0] D0 fun B3 J2 z1 P0=>Ae rfl<|AX [vU q0.2.1.fc] z1 .hd (o1 rfl) fun C3 E0 Q0=>Ae rfl<|Aa<|Aj<|Af<|Ac rfl<|Ab (FV.neq (i:=q0.2.2) (j:=0) rfl rfl)<|Aa<|MX.ifn rfl h (fun k1 h=>?_) (fun k1 h=>?_)
 refine Ao<|Af<|Ab (AK rfl (E0.memA .hd))<|AX [vU q0.2.1.fc] E0 .t3 (o1 rfl) fun D3 A1 R0=>Aa<|Ak<|Ac rfl<|Ac rfl<|Ac rfl<|bk h fun p0 s2 h=>?_
 obtain ⟨W1,u2⟩:=au s2
 obtain ⟨H2,V2,U1,X1,q1,j2,Y1⟩:=Bm (Aw J0 (Tt P0 (Tt Q0 R0))) u2
 have V1:q1 = [vI p0]:=j2; subst V1
 refine Ab (Bk 1 (q0.1.toNat) rfl U1 rfl W1 X1)<|AA rfl (Y1 0 _ rfl)<|Au .plain rfl (jA p0 (vI p0) A1 aq (e1 rfl)) fun E3 K2 F0 G1=>bk h fun C2 v2 h=>?_
 have X0:=Tt F1 (Tt P0 (Tt Q0 (Tt R0 G1)))
 refine Bz .plain rfl (Bw (α:=Int) (ys:=([p0]:List Int)) v2 F0 (fun _ _=>.t2) aq rfl rfl (Az G0 X0) (Src.row (α:=Int) F0 .hd (jC p0 (vI p0) F0 L rfl))) fun A2 F3 ⟨s1,B1,H1,J1⟩=>Ae rfl<|Aa<|Ap ?_
 obtain ⟨C1,U0⟩:=AH B1 .d2
 exact u1 (C2,q0.2.1.fc,A2,s1) C1 (Tt D1 (Tt X0 (Tt H1 U0))) (Az J1 U0) h
 refine Af<|Ab (AL (vs:=[]) (u:=.agg #[vW 0]) aj (fun w9=>by kernel_rfl))<|Ac rfl<|Ae rfl<|AX [vW 0] E0 .t2 (o1 rfl) fun G3 x0 d3=>Ae rfl<|Aa ?_
 have h:=ao h H0
 refine Aq rfl ?_
 have k2:=Bo (α:=Int) x0 L
 refine Av hb0 func28 rfl (.cons (.tmp rfl) (.cons (.many (cs:=[vW 0]) rfl rfl (x0.memA .t2)) (.cons (.tmp rfl) .nil))) rfl ?_
 cases h
 exact ⟨x0.ag,fun w9 hw9=>⟨vN,rfl,x0.kd k2 hw9⟩⟩
def aJ_l1 (n:Nat) (a0:Tb) (a1:UInt64) (g0:UInt64 × Int × (List UInt64) -> Option (List UInt64)):UInt64 × Int × (List UInt64) -> Option (List UInt64)
  | (c0,b0,d0)=>(if b0 < a0.fN then (ak_p n a1 b0).bind fun t0=>(if t0 = true then (ak_p n c0 b0).bind fun u0=>(if u0 = true then (chk (b0 + 1)).bind fun k0=>g0 (c0,k0,d0) else (ao_p n a0 a1 b0 (-1:Int)).bind fun j0=>(app d0 ([j0]:List UInt64)).bind fun s0=>(chk (b0 + 1)).bind fun p0=>g0 (c0 ||| j0,p0,s0)) else (chk (b0 + 1)).bind fun q0=>g0 (c0,q0,d0)) else some d0)
def aJ_p (n:Nat) (a0:Tb) (a1:UInt64):Option (List UInt64):=
  Option.bind (ac (aJ_l1 n a0 a1) n (0,0,([]:List UInt64))) (fun b0=>some b0)
theorem aJ_c (n:Nat) {L w} (hL:hl L w) (a0:Tb) {v0_1:Value} (h0_1:Rep.R w L [v0_1] a0.fh) (a1:UInt64)  {r:List UInt64} (h:aJ_p n a0 a1 = some r) :
 Cl 62 #[.agg #[vI a0.fN,v0_1],vU a1] w (ah w fun w' u=>∃ v0_0:Value,u = v0_0/\Rep.R w' L [v0_0] r):=by
 unfold aJ_p at h
 refine AG func62 rfl rfl rfl fun _ cs0 hb0=>Af<|RG.bx (AF w) rfl rfl fun C1 t0 z0 y1=>Ae rfl<|Aa<|Af<|Ae rfl<|Aa<|Af<|Ae rfl<|Aa<|Aj<|Af<|Ae rfl<|Aa<|Ar ?_
 have A0:=z0.nilRow 26 (Rep.size UInt64)
 have z1:=St.nilRowT z0 26 (Rep.size UInt64)
 obtain ⟨A1,Q0,P0⟩:=ai h
 refine MX.lf (α:=UInt64 × Int × (List UInt64) × Value × (List Value)) (fun ⟨c0,p0,g0,d0,q0⟩=>[(1,vU a1),(2,vP t0),(5,d0),(6,vU c0),(7,vI p0)]) (fun ⟨c0,p0,g0,d0,q0⟩=>[rr w 26 UInt64 d0 g0.length q0,.cells t0 [vI a0.fN,v0_1] 34]) (fun ⟨c0,p0,g0,d0,q0⟩ D0=>Cells D0 (bl [rr w 26 UInt64 d0 g0.length q0,.cells t0 [vI a0.fN,v0_1] 34] ++ L) q0 g0) (fun ⟨c0,p0,g0,d0,q0⟩=>(c0,p0,g0)) (0,0,([]:List UInt64),vN,[]) Q0 A0 (AE (cs:=[]) (xs:=([]:List UInt64)) A0 L (AJ _ _)) ?_
 rintro u1 ⟨c0,p0,g0,d0,q0⟩ D0 u0 b0 y0 s0 h
 unfold aJ_l1 at h
 try dsimp only at h
 refine Aj<|Af<|Ac rfl<|AT 0 rfl<|AA rfl ((b0.memA .t1) 0 _ rfl)<|Ab (FV.lss (i:=p0) (j:=a0.fN) rfl rfl)<|Aa<|AN rfl h (fun F0 h=>?_) (fun F0 h=>?_)
 refine Ao<|Aj<|Ar<|Af<|Ac rfl<|Ac rfl<|bk h fun q1 Z0 h=>BA (.bool q1) (bd 26) rfl (e2 rfl rfl) (fun w9 hw9=>ak_c n (b0.hL0 hL hw9) a1 Z0) rfl<|Ac rfl<|RG.ifb (s:=18) rfl h (fun G0 h=>?_) (fun G0 h=>?_)
 refine Al (Ag rfl)<|Al (Ag rfl)<|bk h fun s1 b1 h=>RG.callq' (v:=.bool s1) (fst:=[]) (cap:=[]) (.yes rfl rfl) (bd 26) rfl (e2 rfl rfl) (fun w9 hw9=>ak_c n (b0.hL0 hL hw9) c0 b1) rfl<|Al (FV.not rfl)<|Bd rfl rfl<|Aa<|MX.ifnb rfl h (fun E0 h=>?_) (fun E0 h=>?_)
 refine Ao<|Ap<|Ak<|Ac rfl<|bk h fun c1 U0 h=>Ab (Bp (i:=p0) (j:=1) rfl rfl U0)<|Ae rfl<|Aa<|u0 (c0,c1,g0,d0,q0) b0 y0 s0 h
 refine Af<|Ab (AK rfl (b0.memA .t1))<|Ac rfl<|Ac rfl<|bk h fun j0 Y0 h=>BA (vU j0) (bd 27) rfl (e4 rfl rfl rfl rfl) (fun w9 hw9=>ao_c n (b0.hL0 hL hw9) a0 (b0.k0 h0_1 hw9) a1 Y0) rfl<|Ae rfl<|Aa<|Af<|Ac rfl<|Ac rfl<|Au .plain rfl (jA j0 (vU j0) b0 eS (e1 rfl)) fun B1 v1 v0 B0=>bk h fun p1 X0 h=>Bz .plain rfl (Bw (α:=UInt64) (ys:=([j0]:List UInt64)) X0 v0 (fun _ _=>.t1) eS rfl rfl (Az s0 B0) (Src.row (α:=UInt64) v0 .hd (jC j0 (vU j0) v0 L rfl))) fun k1 D1 ⟨H0,I0,K0,M0⟩=>Ae rfl<|Aa<|Ak<|Ac rfl<|Ac rfl<|Ab (FV.orU (a:=c0) (b:=j0) rfl rfl)<|Ae rfl<|Aa<|Ap<|Ak<|Ac rfl<|bk h fun g1 V0 h=>Ab (Bp (i:=p0) (j:=1) rfl rfl V0)<|Ae rfl<|Aa ?_
 obtain ⟨J0,C0⟩:=AH I0 .d1
 exact u0 (c0 ||| j0,g1,p1,k1,H0) J0 (Tt y0 (Tt B0 (Tt K0 C0))) (Az M0 C0) h
 refine Ah<|Ah<|Ah<|Ah<|Bb rfl rfl<|Aa<|Bl rfl<|Ao<|Ap<|Ak<|Ac rfl<|bk h fun j1 W0 h=>Ab (Bp (i:=p0) (j:=1) rfl rfl W0)<|Ae rfl<|Aa<|u0 (c0,j1,g0,d0,q0) b0 y0 s0 h
 refine AV rfl ?_
 have h:=P0 _ h
 try dsimp only at h
 refine Af<|Ac rfl<|Ae rfl<|Aa<|Aq rfl ?_
 have x0:=Bt b0 .hd
 have x1:=Bu b0 .hd
 have R0:=Bv (α:=UInt64) (v:=d0) (xs:=g0) x0 L (Bf (α:=UInt64) b0 .hd s0 hL)
 refine AQ hb0 func62 rfl rfl ?_
 cases h
 exact ⟨x0.ag,fun w9 hw9=>⟨d0,rfl,x0.kd R0 hw9⟩⟩
def a8_p (n:Nat) (a0:Tb) (a1:UInt64):Option Bool:=
  (aJ_p n a0 a1).bind fun b0=>some (decide (b0.length = 1))
theorem a8_c (n:Nat) {L w} (hL:hl L w) (a0:Tb) {v0_1:Value} (h0_1:Rep.R w L [v0_1] a0.fh) (a1:UInt64)  {r:Bool} (h:a8_p n a0 a1 = some r) :
 Cl 33 #[.agg #[vI a0.fN,v0_1],vU a1] w (ah w fun _ u=>u = .bool r):=by
 unfold a8_p at h
 refine AG func33 rfl rfl rfl fun _ cs0 hb0=>Af<|RG.bx (AF w) rfl rfl fun x0 p0 b0 q0=>Ae rfl<|Aa<|Af<|Ab (AK rfl (b0.memA .hd))<|Ac rfl<|bk h fun c0 k0 h=>jE (bd 62) rfl (e2 rfl rfl) (fun w9 hw9=>aJ_c n (b0.hL hL hw9) a0 (b0.km h0_1 hw9) a1 k0) rfl fun y0 v0 j0 ⟨u0,hu_,d0⟩=>?_
 subst hu_
 obtain ⟨g0,s0⟩:=b0.agr j0
 have t0:c0.length <= 281474976710656:=AY d0
 refine Ab (Bh (xs:=c0) underlying104 rfl d0)<|Ab (FV.eqlN (i:=c0.length) (j:=1) rfl rfl)<|Ae rfl<|Aa<|Aq rfl<|AQ hb0 func33 rfl rfl ?_
 cases h
 exact g0.gv
def am_l1 (_n:Nat) (a0:List Int) (g0:Int) (c0:Int -> Option Int):Int -> Option Int
  | b0=>(idx a0 b0).bind fun j0=>(if j0 = g0 then some b0 else (chk (b0 - 1)).bind fun d0=>c0 d0)
def am_l2 (n:Nat) (a0:List Int) (d0:(List Int) -> Option (List Int)):(List Int) -> Option (List Int)
  | b0=>(idx b0 (((b0.length:Nat):Int) - 1)).bind fun c0=>(idx a0 (((a0.length:Nat):Int) - 1)).bind fun j0=>(if c0 = j0 then some b0 else Option.bind (ac (am_l1 n a0 c0) n (((a0.length:Nat):Int) - 1)) (fun q0=>(chk (q0 + 1)).bind fun g0=>(idx a0 g0).bind fun k0=>(app b0 ([k0]:List Int)).bind fun p0=>d0 p0))
def am_p (n:Nat) (a0:List Int):Option (List Int):=
  (a0[0]?).bind fun x1=>Option.bind (ac (am_l2 n a0) n ([x1]:List Int)) (fun b0=>some b0)
theorem am_c (n:Nat) {L w} (hL:hl L w) {a0:List Int} {v0_0:Value} (h0_0:Rep.R w L [v0_0] a0)  {r:List Int} (h:am_p n a0 = some r) :
 Cl 35 #[v0_0] w (ah w fun w' u=>∃ v0_0:Value,u = v0_0/\Rep.R w' L [v0_0] r):=by
 unfold am_p at h
 refine AG func35 rfl rfl rfl fun _ cs0 hb0=>Af<|Ae rfl<|Aa<|Af<|Ac rfl<|bk h fun x1 hx1 h=>?_
 obtain ⟨A2,c3,he4,hk5,cs6,hr7,hm8⟩:=Bm h0_0 hx1
 have he9:cs6 = [vI x1]:=hr7; subst he9
 refine Ab (Bk 1 0 rfl he4 rfl rfl hk5)<|AA rfl (hm8 0 _ rfl)<|Au .plain rfl (AO (α:=Int) (xs:=([x1]:List Int)) (vs:=[vI x1]) (ds' :=[vI x1]) rfl (AF w) aq rfl (e1 rfl) (by kernel_rfl) rfl) fun j3 P0 C0 X2=>Ae rfl<|Aa<|Aj<|Ar ?_
 obtain ⟨d3,V1,F1⟩:=ai h
 refine MX.lf (α:=(List Int) × Value × (List Value)) (fun ⟨b0,g0,k0⟩=>[(0,v0_0),(3,g0)]) (fun ⟨b0,g0,k0⟩=>[rr w 3 Int g0 b0.length k0]) (fun ⟨b0,g0,k0⟩ I0=>Cells I0 (bl [rr w 3 Int g0 b0.length k0] ++ L) k0 b0) (fun ⟨b0,g0,k0⟩=>b0) (([x1]:List Int),(vS P0 1),[vI x1]) V1 C0 (jC x1 (vI x1) C0 L rfl) ?_
 rintro I2 ⟨b0,g0,k0⟩ I0 b1 j0 k1 A0 h
 unfold am_l2 at h
 try dsimp only at h
 refine Aj<|Aj<|du 13 fun c0 d0=>Rv 0 c0 rfl d0 (fun _=>Ag rfl)<|Rv 1 c0 rfl d0 (fun _=>Ag rfl) ?_
 have Z2:b0.length <= 4294967296:=St.rowLe (α:=Int) j0 .hd
 obtain ⟨D2,M2,s1⟩:=St.rowV (α:=Int) j0 .hd
 refine Rx 2 4152 c0 rfl d0 (FV.lenV underlying41 rfl s1)<|Rv 3 c0 rfl d0 (fun _=>FV.subI (i:=((b0.length:Nat):Int)) (j:=1) rfl rfl (by omega))<|bk h fun u0 j2 h=>?_
 obtain ⟨F0,k2⟩:=au j2
 obtain ⟨M0,P2,s0,B0,V0,X1,G0⟩:=St.nth (α:=Int) j0 .hd A0 k2
 obtain ⟨Q0,Q2,u1⟩:=St.nthOwn (α:=Int) j0 .hd B0
 obtain rfl:M0 = ⟨Q0,0,none⟩:=by rw [u1] at s0; cases s0; rfl
 have v1:V0 = [vI u0]:=X1; subst v1
 refine Rv 4 c0 rfl d0 (fun _=>FV.idxAddr (m:=1) (i:=(((b0.length:Nat):Int) - 1).toNat) rfl rfl s0 rfl F0 B0)<|Rx 5 4096 c0 rfl d0 (AM rfl (G0 0 _ rfl))<|Rv 6 c0 rfl d0 (fun _=>Ag rfl)<|Rv 7 c0 rfl d0 (fun _=>Ag rfl) ?_
 have t0:=Be h0_0 j0
 have b3:a0.length <= 281474976710656:=AY t0
 refine Rx 8 7680 c0 rfl d0 (Bh (xs:=a0) underlying41 rfl t0)<|Rv 9 c0 rfl d0 (fun _=>FV.subI (i:=((a0.length:Nat):Int)) (j:=1) rfl rfl (by omega))<|bk h fun J0 p2 h=>?_
 obtain ⟨H1,q2⟩:=au p2
 obtain ⟨E2,R2,y1,K1,W0,Y1,Q1⟩:=Bm t0 q2
 have z1:W0 = [vI J0]:=Y1; subst z1
 refine Rv 10 c0 rfl d0 (fun _=>FV.idxAddr (m:=1) (i:=(((a0.length:Nat):Int) - 1).toNat) rfl rfl y1 rfl H1 K1)<|Rx 11 4096 c0 rfl d0 (AM rfl (Q1 0 _ rfl))<|Rv 12 c0 rfl d0 (fun _=>FV.neq (i:=u0) (j:=J0) rfl rfl)<|AZ (dk c0)<|MX.ifn rfl h (fun R0 h=>?_) (fun R0 h=>?_)
 refine AV rfl ?_
 have h:=F1 _ h
 try dsimp only at h
 refine Af<|Ac rfl<|Ae rfl<|Aa<|Aq rfl ?_
 have v0:=Bt j0 .hd
 have Y2:=Bu j0 .hd
 have Z1:=Bv (α:=Int) (v:=g0) (xs:=b0) v0 L (Bf (α:=Int) j0 .hd A0 hL)
 refine AQ hb0 func35 rfl rfl ?_
 cases h
 exact ⟨v0.ag,fun w9 hw9=>⟨g0,rfl,v0.kd Z1 hw9⟩⟩
 refine Ao<|Ar<|Af<|Ac rfl<|Ac rfl ?_
 obtain ⟨F2,U2,A1⟩:=St.rowV (α:=Int) j0 .hd
 refine Ab (FV.lenV underlying41 rfl A1)<|Ab (FV.subI (i:=((b0.length:Nat):Int)) (j:=1) rfl rfl (by omega))<|Ab (FV.idxAddr (m:=1) (i:=(((b0.length:Nat):Int) - 1).toNat) rfl rfl s0 rfl F0 B0)<|AA rfl (G0 0 _ rfl)<|Ae rfl<|Aa<|Af<|Ac rfl<|Ab (Bh (xs:=a0) underlying41 rfl t0)<|Ab (FV.subI (i:=((a0.length:Nat):Int)) (j:=1) rfl rfl (by omega))<|Ae rfl<|Aa<|Aj<|Ar ?_
 obtain ⟨g3,W1,G1⟩:=ai h
 refine MX.lo (α:=Int) (fun q0=>[(0,v0_0),(3,g0),(4,vI u0),(5,vI q0)]) (fun q0=>[rr w 3 Int g0 b0.length k0]) (fun q0=>q0) (((a0.length:Nat):Int) - 1) W1 j0 ?_
 rintro J2 q0 q3 c1 x0 z0 h
 unfold am_l1 at h
 try dsimp only at h
 refine Aj<|Af<|Ac rfl<|Ac rfl<|bk h fun K0 s2 h=>?_
 obtain ⟨I1,t2⟩:=au s2
 have H0:=Be h0_0 x0
 obtain ⟨G2,V2,B1,M1,X0,b2,R1⟩:=Bm H0 t2
 have C1:X0 = [vI K0]:=b2; subst C1
 refine Ab (Bk 1 (q0.toNat) rfl B1 rfl I1 M1)<|AA rfl (R1 0 _ rfl)<|Ac rfl<|Ab (FV.neq (i:=K0) (j:=u0) rfl rfl)<|Aa<|MX.ifn rfl h (fun U0 h=>?_) (fun U0 h=>?_)
 refine AV rfl ?_
 have h:=G1 _ h
 try dsimp only at h
 refine Ak<|Ac rfl<|Ac rfl<|Ac rfl<|bk h fun y2 d2 h=>Ab (Bp (i:=q0) (j:=1) rfl rfl d2)<|bk h fun p0 u2 h=>?_
 obtain ⟨J1,v2⟩:=au u2
 obtain ⟨H2,W2,D1,P1,Y0,c2,U1⟩:=Bm H0 v2
 have E1:Y0 = [vI p0]:=c2; subst E1
 refine Ab (Bk 1 (y2.toNat) rfl D1 rfl J1 P1)<|AA rfl (U1 0 _ rfl)<|Au .plain rfl (jA p0 (vI p0) x0 aq (e1 rfl)) fun k3 K2 y0 D0=>bk h fun C2 x2 h=>Bz .plain rfl (Bw (α:=Int) (ys:=([p0]:List Int)) x2 y0 (fun _ _=>.t1) aq rfl rfl (Az A0 (Tt z0 D0)) (Src.row (α:=Int) y0 .hd (jC p0 (vI p0) y0 L rfl))) fun B2 p3 ⟨Z0,g1,p1,q1⟩=>Ae rfl<|Aa<|Ap ?_
 obtain ⟨j1,E0⟩:=AH g1 .d1
 exact b1 (C2,B2,Z0) j1 (Tt k1 (Tt z0 (Tt D0 (Tt p1 E0)))) (Az q1 E0) h
 refine Ao<|Ar<|Ak<|Ac rfl<|bk h fun z2 g2 h=>Ab (FV.subc (i:=q0) (j:=1) rfl rfl g2)<|Ae rfl<|Aa<|Ap<|c1 z2 x0 z0 h

def aL_l1 (_n:Nat) (a0:List Int) (a1:Int) (g0:Bool × Nat × (List Int) -> Option (Bool × (List Int))):Bool × Nat × (List Int) -> Option (Bool × (List Int))
  | (c0,b0,d0)=>(if b0 < a0.length then (if c0 = true then (a0[b0]?).bind fun q0=>(app d0 ([q0]:List Int)).bind fun s0=>g0 (c0,b0 + 1,s0) else (a0[b0]?).bind fun k0=>jn (fun (p0,t0)=>(app t0 ([k0]:List Int)).bind fun u0=>g0 (p0,b0 + 1,u0)) (fun j0=>(if a1 < k0 then (app d0 ([a1]:List Int)).bind fun v0=>j0 (true,v0) else j0 (c0,d0)))) else some (c0,d0))
def aL_p (n:Nat) (a0:List Int) (a1:Int):Option (List Int):=
  Option.bind (ac (aL_l1 n a0 a1) n (false,0,([]:List Int))) (fun (c0,b0)=>(if c0 = true then some b0 else (app b0 ([a1]:List Int)).bind fun d0=>some d0))
theorem aL_c (n:Nat) {L w} (hL:hl L w) {a0:List Int} {v0_0:Value} (h0_0:Rep.R w L [v0_0] a0) {a1:Int}  {r:List Int} (h:aL_p n a0 a1 = some r) :
 Cl 36 #[v0_0,vI a1] w (ah w fun w' u=>∃ v0_0:Value,u = v0_0/\Rep.R w' L [v0_0] r):=by
 unfold aL_p at h
 have hS0:=AF w
 refine AG func36 rfl rfl rfl fun _ cs0 hb0=>Af<|Ae rfl<|Aa<|Af<|Ae rfl<|Aa<|Af<|Ae rfl<|Aa<|Aj<|Af<|Ae rfl<|Aa<|Ar ?_
 have I0:=hS0.nilRow 3 (Rep.size Int)
 have b3:=St.nilRowT hS0 3 (Rep.size Int)
 obtain ⟨k3,k2,Y1⟩:=ai h
 refine MX.lf (α:=Bool × Nat × (List Int) × Value × (List Value)) (fun ⟨p0,b0,g0,c0,k0⟩=>[(0,v0_0),(1,vI a1),(5,c0),(6,.bool p0),(7,vI ((b0:Nat):Int))]) (fun ⟨p0,b0,g0,c0,k0⟩=>[rr w 3 Int c0 g0.length k0]) (fun ⟨p0,b0,g0,c0,k0⟩ Y0=>Cells Y0 (bl [rr w 3 Int c0 g0.length k0] ++ L) k0 g0) (fun ⟨p0,b0,g0,c0,k0⟩=>(p0,b0,g0)) (false,0,([]:List Int),vN,[]) k2 I0 (AE (cs:=[]) (xs:=([]:List Int)) I0 L (AJ _ _)) ?_
 rintro M2 ⟨p0,b0,g0,c0,k0⟩ Y0 G0 j0 K0 x0 h
 unfold aL_l1 at h
 try dsimp only at h
 refine Aj<|Af<|Ac rfl<|Ac rfl ?_
 have y0:=Be h0_0 j0
 have j3:a0.length <= 281474976710656:=AY y0
 refine Ab (Bh (xs:=a0) underlying41 rfl y0)<|Ab (Bq (i:=b0) (j:=a0.length) rfl rfl)<|Aa<|AN rfl h (fun b1 h=>?_) (fun b1 h=>?_)
 refine Ao<|Aj<|Ar<|Aj<|Af<|Ac rfl<|Ab (FV.not rfl)<|Ac rfl<|RG.ifnb (s:=16) rfl h (fun c1 h=>?_) (fun c1 h=>?_)
 refine Ah<|Ah<|Ah<|Ah<|Ah<|Ah<|Bb rfl rfl<|Aa<|Bl rfl<|Ao<|Ak<|Ac rfl<|Ac rfl<|Ac rfl<|bk h fun q0 v2 h=>?_
 obtain ⟨I2,W2,Q1,Z1,k1,p2,d2⟩:=Bm y0 v2
 have R1:k1 = [vI q0]:=p2; subst R1
 refine Ab (Bk 1 b0 rfl Q1 rfl rfl Z1)<|AA rfl (d2 0 _ rfl)<|Au .plain rfl (jA q0 (vI q0) j0 aq (e1 rfl)) fun p3 Q2 z0 M0=>bk h fun E2 x2 h=>Bz .plain rfl (Bw (α:=Int) (ys:=([q0]:List Int)) x2 z0 (fun _ _=>.t1) aq rfl rfl (Az x0 M0) (Src.row (α:=Int) z0 .hd (jC q0 (vI q0) z0 L rfl))) fun B2 q3 ⟨p1,x1,D1,I1⟩=>Ae rfl<|Aa<|Ap<|Ak<|Ac rfl<|Ab (AW (i:=b0) (j:=1) rfl rfl (by omega))<|Ae rfl<|Aa ?_
 obtain ⟨y1,P0⟩:=AH x1 .d1
 exact G0 (p0,b0 + 1,E2,B2,p1) y1 (Tt K0 (Tt M0 (Tt D1 P0))) (Az I1 P0) h
 refine Al (Ag rfl)<|Al (Ag rfl)<|bk h fun d0 W0 h=>?_
 obtain ⟨J2,X2,U1,b2,q1,q2,g2⟩:=Bm y0 W0
 have V1:q1 = [vI d0]:=q2; subst V1
 refine Al (Bk 1 b0 rfl U1 rfl rfl b2)<|Al (AM rfl (g2 0 _ rfl))<|Al (Ag rfl)<|Al (FV.gtr (i:=d0) (j:=a1) rfl rfl)<|Bd rfl rfl<|Aa<|MX.jf (α:=Bool × (List Int) × Value × (List Value)) (fun ⟨u0,s0,v0,t0⟩=>[(0,v0_0),(1,vI a1),(5,v0),(6,.bool u0),(7,vI ((b0:Nat):Int))]) (fun ⟨u0,s0,v0,t0⟩=>[rr w 3 Int v0 s0.length t0]) (fun ⟨u0,s0,v0,t0⟩ Z0=>Cells Z0 (bl [rr w 3 Int v0 s0.length t0] ++ L) t0 s0) (fun ⟨u0,s0,v0,t0⟩=>(u0,s0)) j0 h ?_ ?_
 rintro ⟨u0,s0,v0,t0⟩ Z0 J0 E1 J1 h
 try dsimp only at h
 refine Ak<|Ac rfl<|Ac rfl<|Ac rfl ?_
 obtain ⟨K2,Y2,W1,c2,s1,s2,j2⟩:=Bm (Be h0_0 J0) W0
 have X1:s1 = [vI d0]:=s2; subst X1
 refine Ab (Bk 1 b0 rfl W1 rfl rfl c2)<|AA rfl (j2 0 _ rfl)<|Au .plain rfl (jA d0 (vI d0) J0 aq (e1 rfl)) fun s3 R2 A0 Q0=>bk h fun F2 y2 h=>Bz .plain rfl (Bw (α:=Int) (ys:=([d0]:List Int)) y2 A0 (fun _ _=>.t1) aq rfl rfl (Az J1 Q0) (Src.row (α:=Int) A0 .hd (jC d0 (vI d0) A0 L rfl))) fun C2 t3 ⟨u1,z1,F1,K1⟩=>Ae rfl<|Aa<|Ap<|Ak<|Ac rfl<|Ab (AW (i:=b0) (j:=1) rfl rfl (by omega))<|Ae rfl<|Aa ?_
 obtain ⟨A1,R0⟩:=AH z1 .d1
 exact G0 (u0,b0 + 1,F2,C2,u1) A1 (Tt K0 (Tt E1 (Tt Q0 (Tt F1 R0)))) (Az K1 R0) h
 intro P2 H0 h
 try dsimp only at h
 refine AN rfl h (fun g1 h=>?_) (fun g1 h=>?_)
 refine Af<|Ac rfl<|Ac rfl<|Au .plain rfl (jA a1 (vI a1) j0 aq (e1 rfl)) fun u3 U2 B0 U0=>bk h fun G2 z2 h=>Bz .plain rfl (Bw (α:=Int) (ys:=([a1]:List Int)) z2 B0 (fun _ _=>.t1) aq rfl rfl (Az x0 U0) (Src.row (α:=Int) B0 .hd (jC a1 (vI a1) B0 L rfl))) fun D2 v3 ⟨v1,B1,G1,M1⟩=>Ae rfl<|Aa<|Ak<|Ae rfl<|Aa ?_
 obtain ⟨C1,V0⟩:=AH B1 .d1
 exact H0 (true,G2,D2,v1) C1 (Tt U0 (Tt G1 V0)) (Az M1 V0) h
 refine Ao<|H0 (p0,g0,c0,k0) j0 (Bs _ _) x0 h
 refine AV rfl ?_
 have h:=Y1 _ h
 try dsimp only at h
 refine Aj<|Af<|Ac rfl<|Ab (FV.not rfl)<|Aa<|MX.ifnb rfl h (fun j1 h=>?_) (fun j1 h=>?_)
 refine Ao<|Af<|Ac rfl<|Ae rfl<|Aa<|Aq rfl ?_
 have C0:=Bt j0 .hd
 have c3:=Bu j0 .hd
 have t2:=Bv (α:=Int) (v:=c0) (xs:=g0) C0 L (Bf (α:=Int) j0 .hd x0 hL)
 refine AQ hb0 func36 rfl rfl ?_
 cases h
 exact ⟨C0.ag,fun p q=>⟨c0,rfl,C0.kd t2 q⟩⟩
 refine Ak<|Ac rfl<|Ac rfl<|Au .plain rfl (jA a1 (vI a1) j0 aq (e1 rfl)) fun x3 V2 D0 H1=>bk h fun H2 A2 h=>Bz .plain rfl (Bw (α:=Int) (ys:=([a1]:List Int)) A2 D0 (fun _ _=>.t1) aq rfl rfl (Az x0 H1) (Src.row (α:=Int) D0 .hd (jC a1 (vI a1) D0 L rfl))) fun X0 y3 ⟨Z2,E0,d3,P1⟩=>Ae rfl<|Aa<|Af<|Ac rfl<|Ae rfl<|Aa<|Aq rfl ?_
 have F0:=Bt E0 .t1
 have g3:=Bu E0 .t1
 have u2:=Bv (α:=Int) (v:=X0) (xs:=H2) F0 L (Bf (α:=Int) E0 .t1 P1 hL)
 refine AQ hb0 func36 rfl rfl ?_
 cases h
 exact ⟨F0.ag,fun p q=>⟨X0,rfl,F0.kd u2 q⟩⟩
def aG_l1 (_n:Nat) (a0:Tb) (a1:Int) (a2:Int) (d0:Nat -> Option (Int ⊕ Unit)):Nat -> Option (Int ⊕ Unit)
  | b0=>(if b0 < a0.fh.length then (a0.fh[b0]?).bind fun c0=>(if c0.1 = a1 then (if c0.2 = a2 then some (.inl ((b0:Nat):Int)) else (if c0.1 = a2 then (if c0.2 = a1 then some (.inl ((b0:Nat):Int)) else d0 (b0 + 1)) else d0 (b0 + 1))) else (if c0.1 = a2 then (if c0.2 = a1 then some (.inl ((b0:Nat):Int)) else d0 (b0 + 1)) else d0 (b0 + 1))) else some (.inr ()))
def aG_p (n:Nat) (a0:Tb) (a1:Int) (a2:Int):Option Int:=
  thn (ac (aG_l1 n a0 a1 a2) n 0) (fun _=>some (-1:Int))
theorem aG_c (n:Nat) {L w} (_hL:hl L w) (a0:Tb) {v0_1:Value} (h0_1:Rep.R w L [v0_1] a0.fh) {a1:Int} {a2:Int}  {r:Int} (h:aG_p n a0 a1 a2 = some r) :
 Cl 37 #[.agg #[vI a0.fN,v0_1],vI a1,vI a2] w (ah w fun _ u=>u = vI r):=by
 unfold aG_p at h
 refine AG func37 rfl rfl rfl fun _ cs0 hb0=>Af<|RG.bx (AF w) rfl rfl fun q1 u0 D0 j1=>Ae rfl<|Aa<|Aj<|Af<|Ae rfl<|Aa<|Ar<|tn h fun p1 V0 s0=>MX.lo (α:=Nat) (fun b0=>[(1,vI a1),(2,vI a2),(3,vP u0),(7,vI ((b0:Nat):Int))]) (fun b0=>[.cells u0 [vI a0.fN,v0_1] 34]) (fun b0=>b0) 0 V0 D0 ?_
 rintro Z0 b0 v1 j0 g0 k0 h
 unfold aG_l1 at h
 try dsimp only at h
 refine Aj<|Af<|Ac rfl<|AT 1 rfl<|AA rfl ((g0.memA .hd) 1 _ rfl) ?_
 have t0:=Be h0_1 g0
 have k1:a0.fh.length <= 281474976710656:=AY t0
 refine Ab (Bh (xs:=a0.fh) underlying32 rfl t0)<|Ab (Bq (i:=b0) (j:=a0.fh.length) rfl rfl)<|Aa<|AN rfl h (fun v0 h=>?_) (fun v0 h=>?_)
 refine Ao<|Aj<|Ar<|Af<|AT 1 rfl<|AA rfl ((g0.memA .hd) 1 _ rfl)<|Ac rfl<|bk h fun d0 X0 h=>?_
 obtain ⟨Y0,c1,Q0,R0,g1,W0,U0⟩:=Bm t0 X0
 obtain rfl:=aU W0
 refine Ab (Bk 2 b0 rfl Q0 rfl rfl R0)<|Ab (AK rfl U0)<|RG.nl [vI 0,vI 0] g0 fun s1 b1 E0 p0=>AX [vI d0.1,vI d0.2] E0 .hd (ck rfl) fun u1 c0 q0=>Aa<|Af<|Ab (AB (m:=1) (k:=0) (len:=2) rfl rfl rfl rfl (by omega))<|AA rfl ((c0.memA .hd) 0 _ rfl)<|Ac rfl<|Ab (Br (i:=d0.1) (j:=a1) rfl rfl)<|Ac rfl<|Bn (s:=25) rfl h (fun x0 h=>?_) (fun x0 h=>?_)
 refine Al (AB (m:=1) (k:=1) (len:=2) rfl rfl rfl rfl (by omega))<|Al (AM rfl ((c0.memA .hd) 1 _ rfl))<|Al (Ag rfl)<|Al (Br (i:=d0.2) (j:=a2) rfl rfl)<|Bd rfl rfl<|Ac rfl<|Bn (s:=31) rfl h (fun y0 h=>?_) (fun y0 h=>?_)
 refine Ah<|Ah<|Ah<|Ah<|Ah<|Bg<|Bg<|Bg<|Bg<|Ah<|Bd rfl rfl<|Aa<|AS rfl<|Af<|Ac rfl<|Ae rfl<|Aa ?_
 have h:=ao h s0
 refine Aq rfl<|AQ hb0 func37 rfl rfl ?_
 cases h
 exact c0.gv
 refine Al (AB (m:=1) (k:=0) (len:=2) rfl rfl rfl rfl (by omega))<|Al (AM rfl ((c0.memA .hd) 0 _ rfl))<|Al (Ag rfl)<|Al (Br (i:=d0.1) (j:=a2) rfl rfl)<|Al (Ag rfl)<|Bn (s:=36) rfl h (fun z0 h=>?_) (fun z0 h=>?_)
 refine Al (AB (m:=1) (k:=1) (len:=2) rfl rfl rfl rfl (by omega))<|Al (AM rfl ((c0.memA .hd) 1 _ rfl))<|Al (Ag rfl)<|Al (Br (i:=d0.2) (j:=a1) rfl rfl)<|Al (Bj rfl rfl)<|Bb rfl rfl<|Aa<|AN rfl h (fun A0 h=>?_) (fun A0 h=>?_)
 refine Af<|Ac rfl<|Ae rfl<|Aa ?_
 have h:=ao h s0
 refine Aq rfl<|AQ hb0 func37 rfl rfl ?_
 cases h
 exact c0.gv
 refine Ao<|Ap<|Ak<|Ac rfl<|Ab (AW (i:=b0) (j:=1) rfl rfl (by omega))<|Ae rfl<|Aa ?_
 obtain ⟨F0,J0⟩:=AH c0 .d1
 exact j0 (b0 + 1) F0 (Tt k0 (Tt p0 (Tt q0 J0))) h
 refine Ah<|Ah<|Ah<|Ah<|Al (AD rfl rfl)<|Bb rfl rfl<|Aa<|Bl rfl<|Ao<|Ap<|Ak<|Ac rfl<|Ab (AW (i:=b0) (j:=1) rfl rfl (by omega))<|Ae rfl<|Aa ?_
 obtain ⟨G0,K0⟩:=AH c0 .d1
 exact j0 (b0 + 1) G0 (Tt k0 (Tt p0 (Tt q0 K0))) h
 refine Ah<|Ah<|Ah<|Ah<|Bb rfl rfl<|Ac rfl<|Al (AB (m:=1) (k:=0) (len:=2) rfl rfl rfl rfl (by omega))<|Al (AM rfl ((c0.memA .hd) 0 _ rfl))<|Al (Ag rfl)<|Al (Br (i:=d0.1) (j:=a2) rfl rfl)<|Al (Ag rfl)<|Bn (s:=36) rfl h (fun B0 h=>?_) (fun B0 h=>?_)
 refine Al (AB (m:=1) (k:=1) (len:=2) rfl rfl rfl rfl (by omega))<|Al (AM rfl ((c0.memA .hd) 1 _ rfl))<|Al (Ag rfl)<|Al (Br (i:=d0.2) (j:=a1) rfl rfl)<|Al (Bj rfl rfl)<|Bb rfl rfl<|Aa<|AN rfl h (fun C0 h=>?_) (fun C0 h=>?_)
 refine Af<|Ac rfl<|Ae rfl<|Aa ?_
 have h:=ao h s0
 refine Aq rfl<|AQ hb0 func37 rfl rfl ?_
 cases h
 exact c0.gv
 refine Ao<|Ap<|Ak<|Ac rfl<|Ab (AW (i:=b0) (j:=1) rfl rfl (by omega))<|Ae rfl<|Aa ?_
 obtain ⟨H0,M0⟩:=AH c0 .d1
 exact j0 (b0 + 1) H0 (Tt k0 (Tt p0 (Tt q0 M0))) h
 refine Ah<|Ah<|Ah<|Ah<|Al (AD rfl rfl)<|Bb rfl rfl<|Aa<|Bl rfl<|Ao<|Ap<|Ak<|Ac rfl<|Ab (AW (i:=b0) (j:=1) rfl rfl (by omega))<|Ae rfl<|Aa ?_
 obtain ⟨I0,P0⟩:=AH c0 .d1
 exact j0 (b0 + 1) I0 (Tt k0 (Tt p0 (Tt q0 P0))) h
 refine AV rfl ?_
 have h:=aI h s0
 try dsimp only at h
 refine Af<|Ae rfl<|Aa<|Aq rfl<|AQ hb0 func37 rfl rfl ?_
 cases h
 exact g0.gv
def ae_l1 (n:Nat) (d0:List Int) (a0:Tb) (p0:(List Int) × UInt64 × Nat -> Option ((List Int) × UInt64)):(List Int) × UInt64 × Nat -> Option ((List Int) × UInt64)
  | (c0,j0,b0)=>(if b0 < d0.length then (d0[b0]?).bind fun k0=>(aA_p n k0).bind fun t0=>jn (fun s0=>p0 (s0,j0 ||| t0,b0 + 1)) (fun g0=>(if 0 < b0 then (d0[b0 - 1]?).bind fun q0=>(aG_p n a0 q0 k0).bind fun u0=>(aL_p n c0 u0).bind fun v0=>g0 v0 else g0 c0)) else some (c0,j0))
def ae_l2 (n:Nat) (a0:Tb) (a1:UInt64) (p0:(List Int) × UInt64 × Int × Int × UInt64 -> Option (((List Int) × Ta × Int) ⊕ ((List Int) × UInt64))):(List Int) × UInt64 × Int × Int × UInt64 -> Option (((List Int) × Ta × Int) ⊕ ((List Int) × UInt64))
  | (g0,c0,k0,b0,d0)=>(if b0 < a0.fN then (ak_p n a1 b0).bind fun z0=>(if z0 = true then (ak_p n c0 b0).bind fun A0=>(if A0 = true then (chk (b0 + 1)).bind fun q0=>p0 (g0,c0,k0,q0,d0) else (if c0 = (0:UInt64) then (aA_p n b0).bind fun B0=>(chk (b0 + 1)).bind fun s0=>p0 (g0,B0,k0,s0,d0) else (aE_p n a0 a1 b0 c0 (⟨d0⟩:Ta) k0).bind fun j0=>(if j0.2.2 = 0 then (chk (k0 - (((j0.1.length:Nat):Int) - 1))).bind fun t0=>(am_p n j0.1).bind fun C0=>Option.bind (ac (ae_l1 n C0 a0) n (g0,c0,0)) (fun (y0,x0)=>(chk (b0 + 1)).bind fun u0=>p0 (y0,x0,t0,u0,j0.2.1.fc)) else some (.inl (([]:List Int),(⟨(0:UInt64)⟩:Ta),j0.2.2))))) else (chk (b0 + 1)).bind fun v0=>p0 (g0,c0,k0,v0,d0)) else some (.inr (g0,d0)))
def ae_p (n:Nat) (a0:Tb) (a1:UInt64) (a2:Ta):Option ((List Int) × Ta × Int):=
  (a6_p n a0 a1).bind fun b0=>(if b0 = 0 then (if a1 = (0:UInt64) then some (([]:List Int),(⟨(0:UInt64)⟩:Ta),(2:Int)) else (a8_p n a0 a1).bind fun g0=>(if g0 = true then thn (ac (ae_l2 n a0 a1) n (([]:List Int),0,10000,0,a2.fc)) (fun (d0,c0)=>some (d0,(⟨c0⟩:Ta),(0:Int))) else some (([]:List Int),(⟨(0:UInt64)⟩:Ta),(4:Int)))) else some (([]:List Int),(⟨(0:UInt64)⟩:Ta),b0))
theorem ae_c (n:Nat) {L w} (hL:hl L w) (a0:Tb) {v0_1:Value} (h0_1:Rep.R w L [v0_1] a0.fh) (a1:UInt64) (a2:Ta)  {r:(List Int) × Ta × Int} (h:ae_p n a0 a1 a2 = some r) :
 Cl 12 #[.agg #[vI a0.fN,v0_1],vU a1,.agg #[vU a2.fc]] w (ah w fun w' u=>∃ v0_0:Value,u = .tuple #[v0_0,.agg #[vU r.2.1.fc],vI r.2.2]/\Rep.R w' L [v0_0] r.1):=by
 unfold ae_p at h
 refine AG func12 rfl rfl rfl fun _ cs0 hb0=>Af<|RG.bx (AF w) rfl rfl fun A4 z0 b2 b4=>RG.bx b2 rfl rfl fun B4 A0 c2 c4=>Ae rfl<|RG.nl [vW 0] c2 fun C4 B0 t0 d4=>Ae rfl<|Aa<|Aj<|Af<|Ab (AK rfl (t0.memA .t2))<|Ac rfl<|bk h fun G1 p3 h=>BA (vI G1) (bd 25) rfl (e2 rfl rfl) (fun p q=>a6_c n (t0.hL0 hL q) a0 (t0.k0 h0_1 q) a1 p3) rfl<|Ae rfl<|Aa<|Af<|Ac rfl<|Ab (FV.neq (i:=G1) (j:=0) rfl rfl)<|Aa<|MX.ifn rfl h (fun I1 h=>?_) (fun I1 h=>?_)
 refine Ao<|Aj<|Af<|Ac rfl<|Ab (FV.eqlU (a:=a1) (b:=(0:UInt64)) rfl rfl)<|Aa<|AN rfl h (fun J1 h=>?_) (fun J1 h=>?_)
 refine Af<|Ab (AL (vs:=[]) (u:=.agg #[vW 0]) aj (fun p=>by kernel_rfl))<|Ae rfl<|AX [vW 0] t0 .hd (o1 rfl) fun D4 K0 g4=>Ae rfl<|Aa<|Aq rfl ?_
 have K2:=Bo (α:=Int) K0 L
 refine Av hb0 func12 rfl (.cons (.tmp rfl) (.cons (.many (cs:=[vW 0]) rfl rfl (K0.memA .hd)) (.cons (.tmp rfl) .nil))) rfl ?_
 cases h
 exact ⟨K0.ag,fun p q=>⟨vN,rfl,K0.kd K2 q⟩⟩
 refine Ao<|Aj<|Af<|Ab (AK rfl (t0.memA .t2))<|Ac rfl<|bk h fun I3 q3 h=>BA (.bool I3) (bd 33) rfl (e2 rfl rfl) (fun p q=>a8_c n (t0.hL0 hL q) a0 (t0.k0 h0_1 q) a1 q3) rfl<|Ab (FV.not rfl)<|Aa<|MX.ifnb rfl h (fun K1 h=>?_) (fun K1 h=>?_)
 refine Ao<|Af<|Ae rfl<|Aa<|Af<|Ae rfl<|Ae rfl<|Aa<|Aj<|Af<|Ae rfl<|Aa<|Ar<|tn h fun t4 I2 y1=>MX.lf (α:=(List Int) × UInt64 × Int × Int × UInt64 × Value) (fun ⟨x0,q0,y0,p0,j0,u0⟩=>[(1,vU a1),(3,vP z0),(5,vP A0),(7,vP B0),(10,u0),(11,vU q0),(12,vI y0),(13,vI p0)]) (fun ⟨x0,q0,y0,p0,j0,u0⟩=>[.cells B0 [vW 0] 30,.cells A0 [vU j0] 30,.cells z0 [vI a0.fN,v0_1] 34]) (fun ⟨x0,q0,y0,p0,j0,u0⟩ D1=>Rep.R D1 (bl [.cells B0 [vW 0] 30,.cells A0 [vU j0] 30,.cells z0 [vI a0.fN,v0_1] 34] ++ L) [u0] x0) (fun ⟨x0,q0,y0,p0,j0,u0⟩=>(x0,q0,y0,p0,j0)) (([]:List Int),0,10000,0,a2.fc,vN) I2 t0 (Bo (α:=Int) t0 L) ?_
 rintro U3 ⟨x0,q0,y0,p0,j0,u0⟩ D1 J0 d0 R0 I0 h
 unfold ae_l2 at h
 try dsimp only at h
 refine Aj<|Af<|Ac rfl<|AT 0 rfl<|AA rfl ((d0.memA .t2) 0 _ rfl)<|Ab (FV.lss (i:=p0) (j:=a0.fN) rfl rfl)<|Aa<|AN rfl h (fun M1 h=>?_) (fun M1 h=>?_)
 refine Ao<|Aj<|Ar<|Aj<|Af<|Ac rfl<|Ac rfl<|bk h fun J3 s3 h=>BA (.bool J3) (bd 26) rfl (e2 rfl rfl) (fun p q=>ak_c n (d0.hL0 hL q) a1 s3) rfl<|Ab (FV.not rfl)<|Ac rfl<|RG.ifnb (s:=44) rfl h (fun P1 h=>?_) (fun P1 h=>?_)
 refine Al (Ag rfl)<|Al (Ag rfl)<|bk h fun K3 t3 h=>RG.callq' (v:=.bool K3) (fst:=[]) (cap:=[]) (.yes rfl rfl) (bd 26) rfl (e2 rfl rfl) (fun p q=>ak_c n (d0.hL0 hL q) q0 t3) rfl<|Bb rfl rfl<|Aa<|MX.ifb rfl h (fun Q1 h=>?_) (fun Q1 h=>?_)
 refine AV rfl<|Ak<|Ac rfl<|bk h fun B3 Z2 h=>Ab (Bp (i:=p0) (j:=1) rfl rfl Z2)<|Ae rfl<|Aa<|J0 (x0,q0,y0,B3,j0,u0) d0 R0 I0 h
 refine Ao<|Aj<|Af<|Ac rfl<|Ab (FV.eqlU (a:=q0) (b:=(0:UInt64)) rfl rfl)<|Aa<|AN rfl h (fun R1 h=>?_) (fun R1 h=>?_)
 refine Af<|Ac rfl<|bk h fun H1 u3 h=>BA (vU H1) (bd 34) rfl (e1 rfl) (fun p q=>aA_c n (d0.hL0 hL q)  u3) rfl<|Ae rfl<|Aa<|AV rfl<|Ak<|Ac rfl<|bk h fun C3 b3 h=>Ab (Bp (i:=p0) (j:=1) rfl rfl b3)<|Ae rfl<|Aa<|J0 (x0,H1,y0,C3,j0,u0) d0 R0 I0 h
 refine Ao<|Af<|Ab (AK rfl (d0.memA .t2))<|Ac rfl<|Ac rfl<|Ac rfl<|Ab (AK rfl (d0.memA .t1))<|Ac rfl<|bk h fun s0 v3 h=>jE (bd 28) rfl (e6 rfl rfl rfl rfl rfl rfl) (fun p q=>aE_c n (d0.hL hL q) a0 (d0.km h0_1 q) a1 q0 (⟨j0⟩:Ta) v3) rfl fun E4 z4 z2 ⟨v4,hu_,M2⟩=>?_
 subst hu_
 obtain ⟨d2,s2⟩:=d0.agr z2
 refine Ac rfl<|Ab (Am rfl rfl)<|Ab (Am rfl rfl)<|Ab (Am rfl rfl)<|RG.nl [vW 0] d2 fun F4 X3 g2 q1=>Ae rfl<|AX [vU s0.2.1.fc] g2 .hd (o1 rfl) fun G4 W0 s1=>Ae rfl<|Aa<|Aj<|Af<|Ac rfl<|Ab (FV.neq (i:=s0.2.2) (j:=0) rfl rfl)<|Aa<|MX.ifn rfl h (fun U1 h=>?_) (fun U1 h=>?_)
 refine Ao<|Af<|Ab (AK rfl (W0.memA .hd))<|AX [vU s0.2.1.fc] W0 .t2 (o1 rfl) fun H4 p1 u1=>Aa<|Af<|Ac rfl<|Ac rfl ?_
 have Z0:=Aw M2 (Tt q1 (Tt s1 u1))
 have q4:s0.1.length <= 281474976710656:=AY Z0
 refine Ab (Bh (xs:=s0.1) underlying41 rfl Z0)<|Ab (FV.subI (i:=((s0.1.length:Nat):Int)) (j:=1) rfl rfl (by omega))<|bk h fun g1 c3 h=>Ab (FV.subc (i:=y0) (j:=((s0.1.length:Nat):Int) - 1) rfl rfl c3)<|Ae rfl<|Aa<|Af<|Ac rfl<|bk h fun j1 x3 h=>jE (bd 35) rfl (e1 rfl) (fun p q=>am_c n (p1.hL hL q) (Ax Z0 q) x3) rfl fun I4 C1 A2 ⟨x4,hu_,P2⟩=>?_
 subst hu_
 obtain ⟨j2,u2⟩:=p1.agr A2
 refine Ae rfl<|Aa<|Af<|Ae rfl<|Aa<|Ar ?_
 obtain ⟨k2,v1⟩:=AH j2 .d1
 have B1:=Tt s2 (Tt q1 (Tt s1 (Tt u1 (Tt u2 v1))))
 obtain ⟨u4,J2,F2⟩:=ai h
 refine MX.lf (α:=(List Int) × UInt64 × Nat × Value) (fun ⟨E0,v0,b0,D0⟩=>[(1,vU a1),(3,vP z0),(5,vP A0),(7,vP B0),(10,D0),(11,vU v0),(12,vI g1),(13,vI p0),(17,C1),(18,vI ((b0:Nat):Int))]) (fun ⟨E0,v0,b0,D0⟩=>[.cells B0 [vW 0] 30,.cells A0 [vU s0.2.1.fc] 30,.cells z0 [vI a0.fN,v0_1] 34]) (fun ⟨E0,v0,b0,D0⟩ E1=>Rep.R E1 (bl [.cells B0 [vW 0] 30,.cells A0 [vU s0.2.1.fc] 30,.cells z0 [vI a0.fN,v0_1] 34] ++ L) [D0] E0) (fun ⟨E0,v0,b0,D0⟩=>(E0,v0,b0)) (x0,q0,0,u0) J2 k2 (Aw I0 B1) ?_
 rintro V3 ⟨E0,v0,b0,D0⟩ E1 Z1 C0 Y0 b1 h
 unfold ae_l1 at h
 try dsimp only at h
 refine Aj<|Af<|Ac rfl<|Ac rfl ?_
 have U0:=Aw P2 (Tt v1 Y0)
 have s4:j1.length <= 281474976710656:=AY U0
 refine Ab (Bh (xs:=j1) underlying41 rfl U0)<|Ab (Bq (i:=b0) (j:=j1.length) rfl rfl)<|Aa<|AN rfl h (fun V1 h=>?_) (fun V1 h=>?_)
 refine Ao<|Aj<|Ar<|Af<|Ac rfl<|Ac rfl<|Ac rfl<|bk h fun G3 j3 h=>?_
 obtain ⟨Q3,Y3,x1,z1,X1,Q2,A1⟩:=Bm U0 j3
 have C2:X1 = [vI G3]:=Q2; subst C2
 refine Ab (Bk 1 b0 rfl x1 rfl rfl z1)<|AA rfl (A1 0 _ rfl)<|bk h fun V0 y3 h=>BA (vU V0) (bd 34) rfl (e1 rfl) (fun p q=>aA_c n (C0.hL0 hL q)  y3) rfl<|Ab (FV.orU (a:=v0) (b:=V0) rfl rfl)<|Ae rfl<|Aa<|Af<|Ac rfl<|Ab (FV.gtrN (i:=b0) (j:=0) rfl rfl)<|Aa<|MX.jf (α:=(List Int) × Value) (fun ⟨H0,G0⟩=>[(1,vU a1),(3,vP z0),(5,vP A0),(7,vP B0),(10,G0),(11,vW ((v0 ||| V0).toNat:Int)),(12,vI g1),(13,vI p0),(17,C1),(18,vI ((b0:Nat):Int))]) (fun ⟨H0,G0⟩=>[.cells B0 [vW 0] 30,.cells A0 [vU s0.2.1.fc] 30,.cells z0 [vI a0.fN,v0_1] 34]) (fun ⟨H0,G0⟩ F1=>Rep.R F1 (bl [.cells B0 [vW 0] 30,.cells A0 [vU s0.2.1.fc] 30,.cells z0 [vI a0.fN,v0_1] 34] ++ L) [G0] H0) (fun ⟨H0,G0⟩=>H0) C0 h ?_ ?_
 rintro ⟨H0,G0⟩ F1 p2 v2 R2 h
 try dsimp only at h
 refine Ap<|Ak<|Ac rfl<|Ab (AW (i:=b0) (j:=1) rfl rfl (by omega))<|Ae rfl<|Aa<|Z1 (H0,v0 ||| V0,b0 + 1,G0) p2 (Tt Y0 v2) R2 h
 intro W3 k1 h
 try dsimp only at h
 refine AN rfl h (fun W1 h=>?_) (fun W1 h=>?_)
 refine du 14 fun c0 g0=>Rv 0 c0 rfl g0 (fun _=>Ag rfl)<|Rx 1 14336 c0 rfl g0 (AK rfl (C0.memA .t2))<|Rv 2 c0 rfl g0 (fun _=>Ag rfl)<|Rv 3 c0 rfl g0 (fun _=>Ag rfl)<|Rv 4 c0 rfl g0 (fun _=>FV.subN (i:=b0) (j:=1) rfl rfl (by omega) (by omega))<|bk h fun H3 k3 h=>?_
 obtain ⟨R3,Z3,D2,G2,Y1,U2,H2⟩:=Bm U0 k3
 have E2:Y1 = [vI H3]:=U2; subst E2
 refine Rv 5 c0 rfl g0 (fun _=>Bk 1 (b0 - 1) rfl D2 rfl rfl G2)<|Rx 6 14336 c0 rfl g0 (AM rfl (H2 0 _ rfl))<|Rv 7 c0 rfl g0 (fun _=>Ag rfl)<|Rv 8 c0 rfl g0 (fun _=>Ag rfl)<|Rv 9 c0 rfl g0 (fun _=>Bk 1 b0 rfl x1 rfl rfl z1)<|Rx 10 14336 c0 rfl g0 (AM rfl (A1 0 _ rfl))<|bk h fun M3 z3 h=>RD.cq 11 4095 12288 (vI M3) c0 rfl g0 (bd 37) rfl (e3 rfl rfl rfl) (fun p q=>aG_c n (C0.hL0 hL q) a0 (C0.k0 h0_1 q) z3) rfl<|bk h fun P3 A3 h=>RD.cl 12 8191 c0 rfl .plain (bd 36) rfl (e2 rfl rfl) (fun p q=>aL_c n (C0.hL hL q) (Ax b1 q) A3) rfl fun J4 F3 B2 ⟨y4,hu_,V2⟩=>?_
 subst hu_
 obtain ⟨q2,x2⟩:=C0.agr B2
 refine Rv 13 c0 rfl g0 (fun _=>Ba rfl)<|AZ (dk c0)<|k1 (P3,F3) q2 x2 V2 h
 refine Ao<|k1 (E0,D0) C0 (Bs _ _) b1 h
 refine AV rfl ?_
 have h:=F2 _ h
 try dsimp only at h
 refine Ap<|Ak<|Ac rfl<|bk h fun D3 d3 h=>Ab (Bp (i:=p0) (j:=1) rfl rfl d3)<|Ae rfl<|Aa<|J0 (E0,v0,g1,D3,s0.2.1.fc,D0) C0 (Tt R0 (Tt B1 Y0)) b1 h
 refine Af<|Ab (AL (vs:=[]) (u:=.agg #[vW 0]) aj (fun p=>by kernel_rfl))<|Ac rfl<|Ae rfl<|AX [vW 0] W0 .t1 (o1 rfl) fun K4 M0 j4=>Ae rfl<|Aa ?_
 have h:=ao h y1
 refine Aq rfl ?_
 have W2:=Bo (α:=Int) M0 L
 refine Av hb0 func12 rfl (.cons (.tmp rfl) (.cons (.many (cs:=[vW 0]) rfl rfl (M0.memA .t1)) (.cons (.tmp rfl) .nil))) rfl ?_
 cases h
 exact ⟨M0.ag,fun p q=>⟨vN,rfl,M0.kd W2 q⟩⟩
 refine Ah<|Ah<|Ah<|Bd rfl rfl<|Aa<|AS rfl<|AV rfl<|Ak<|Ac rfl<|bk h fun E3 g3 h=>Ab (Bp (i:=p0) (j:=1) rfl rfl g3)<|Ae rfl<|Aa<|J0 (x0,q0,y0,E3,j0,u0) d0 R0 I0 h
 refine AV rfl ?_
 have h:=aI h y1
 try dsimp only at h
 refine Aj<|du 3 fun F0 c1=>Rv 0 F0 rfl c1 (fun _=>Ag rfl)<|Rx 1 24 F0 rfl c1 (AK rfl (d0.memA .t1))<|Rv 2 F0 rfl c1 (fun _=>Ba rfl)<|RD.nw 3 15 F0 rfl rfl .plain (AP (news:=[vU j0]) d0 .hd rfl rfl rfl rfl rfl rfl (o1 rfl)) fun M4 X0 y2=>RD.one (i:=4) (rk F0) (RO.val (m' :=31) (sk F0) rfl .plain rfl (Ba rfl) ?_)
 refine AZ (dk F0)<|Aq rfl<|Av hb0 func12 rfl (.cons (.tmp rfl) (.cons (.many (cs:=[vU j0]) rfl rfl (X0.memA .hd)) (.cons (.tmp rfl) .nil))) rfl ?_
 cases h
 exact ⟨X0.ag,fun p q=>⟨u0,rfl,X0.kd (Aw I0 y2) q⟩⟩
 refine Af<|Ab (AL (vs:=[]) (u:=.agg #[vW 0]) aj (fun p=>by kernel_rfl))<|Ae rfl<|AX [vW 0] t0 .hd (o1 rfl) fun P4 P0 k4=>Ae rfl<|Aa<|Aq rfl ?_
 have X2:=Bo (α:=Int) P0 L
 refine Av hb0 func12 rfl (.cons (.tmp rfl) (.cons (.many (cs:=[vW 0]) rfl rfl (P0.memA .hd)) (.cons (.tmp rfl) .nil))) rfl ?_
 cases h
 exact ⟨P0.ag,fun p q=>⟨vN,rfl,P0.kd X2 q⟩⟩
 refine Af<|Ab (AL (vs:=[]) (u:=.agg #[vW 0]) aj (fun p=>by kernel_rfl))<|Ac rfl<|Ae rfl<|AX [vW 0] t0 .hd (o1 rfl) fun Q4 Q0 p4=>Ae rfl<|Aa<|Aq rfl ?_
 have Y2:=Bo (α:=Int) Q0 L
 refine Av hb0 func12 rfl (.cons (.tmp rfl) (.cons (.many (cs:=[vW 0]) rfl rfl (Q0.memA .hd)) (.cons (.tmp rfl) .nil))) rfl ?_
 cases h
 exact ⟨Q0.ag,fun p q=>⟨vN,rfl,Q0.kd Y2 q⟩⟩
def aT_p (n:Nat) (a0:Td) (a1:TBend) (a2:UInt64) (a3:Ta):Option Bool:=
  (bf_p n).bind fun z0=>(if z0 = true then (aa_p n a0).bind fun b0=>(aL b0.fN).bind fun c0=>(bj_p n a1 b0 (a2 &&& ((shlU (1:UInt64) c0) - (1:UInt64)))).bind fun d0=>(ab_p n b0 (a2 &&& ((shlU (1:UInt64) c0) - (1:UInt64))) a3).bind fun u0=>(ae_p n b0 (a2 &&& ((shlU (1:UInt64) c0) - (1:UInt64))) a3).bind fun g0=>(ai_p n u0.1 g0.1).bind fun v0=>(if v0 = true then (if u0.2.1.fc = g0.2.1.fc then (if u0.2.2 = g0.2.2 then (ab_p n b0 ((shlU (1:UInt64) c0) - (1:UInt64)) a3).bind fun j0=>(ae_p n b0 ((shlU (1:UInt64) c0) - (1:UInt64)) a3).bind fun k0=>(ai_p n j0.1 k0.1).bind fun x0=>(if x0 = true then (if j0.2.1.fc = k0.2.1.fc then (if j0.2.2 = k0.2.2 then (ab_p n b0 a2 a3).bind fun p0=>(ae_p n b0 a2 a3).bind fun q0=>(ai_p n p0.1 q0.1).bind fun y0=>(if y0 = true then (if p0.2.1.fc = q0.2.1.fc then (if p0.2.2 = q0.2.2 then (ab_p n d0.1 d0.2 a3).bind fun s0=>(ae_p n d0.1 d0.2 a3).bind fun t0=>(ai_p n s0.1 t0.1).bind fun A0=>(if A0 = true then (if s0.2.1.fc = t0.2.1.fc then (if s0.2.2 = t0.2.2 then some true else some false) else some false) else some false) else some false) else some false) else some false) else some false) else some false) else some false) else some false) else some false) else some false) else some false)
theorem aT_c (n:Nat) {L w} (hL:hl L w) (a0:Td) {v0_3:Value} (h0_3:Rep.R w L [v0_3] a0.fm) (a1:TBend) (a2:UInt64) (a3:Ta) (hG0:Glob 0 tab0 w)  {r:Bool} (h:aT_p n a0 a1 a2 a3 = some r) :
 Cl 4 #[.agg #[.int .u8 (a0.fj.toNat:Int),.int .u8 (a0.fl.toNat:Int),.int .u16 (a0.fk.toNat:Int),v0_3],.agg #[.int .u8 (a1.fWhat.toNat:Int),vI a1.fN,vU a1.fSet],vU a2,.agg #[vU a3.fc]] w (ah w fun _ u=>u = .bool r):=by
 unfold aT_p at h
 refine AG func4 rfl rfl rfl fun _ cs0 hb0=>Af<|RG.bx (AF w) rfl rfl fun u6 b5 E2 G5=>RG.bx E2 rfl rfl fun D6 j5 K2 H5=>RG.bx K2 rfl rfl fun M6 s5 u0 I5=>Ae rfl<|Aa<|Aj<|Af<|bk h fun M4 B4 h=>BA (.bool M4) (bd 5) rfl aj (fun p q=>bf_c n (u0.hL0 hL q) (hG0.keep (u0.ag.trans q)) B4) rfl<|Ab (FV.not rfl)<|Aa<|MX.ifnb rfl h (fun y2 h=>?_) (fun y2 h=>?_)
 refine Ao<|Af<|Ab (AK rfl (u0.memA .t2))<|bk h fun b0 D4 h=>jE (bd 6) rfl (e1 rfl) (fun p q=>aa_c n (u0.hL hL q) a0 (u0.km h0_3 q) D4) rfl fun d7 k6 K3 ⟨c0,hu_,j0⟩=>?_
 subst hu_
 obtain ⟨p3,K5⟩:=u0.agr K3
 refine RG.nl [vI 0,vN] p3 fun k7 x5 q3 y1=>AX [vI b0.fN,c0] q3 .hd (o2 rfl (By (Aw j0 y1))) fun p7 E0 X1=>Aa<|Af<|AT 0 rfl<|AA rfl ((E0.memA .hd) 0 _ rfl)<|bk h fun d0 Q3 h=>Ab (FV.shlI (a:=(1:UInt64)) (i:=b0.fN) rfl rfl Q3)<|Ab (FV.subU (a:=shlU (1:UInt64) d0) (b:=(1:UInt64)) rfl rfl)<|Ae rfl<|Aa<|Af<|Ab (AK rfl (E0.memA .t2))<|Ab (AK rfl (E0.memA .hd))<|Ac rfl<|Ac rfl<|Ab (FV.andU (a:=a2) (b:=(shlU (1:UInt64) d0) - (1:UInt64)) rfl rfl)<|bk h fun g0 G4 h=>jE (bd 7) rfl (e3 rfl rfl rfl) (fun p q=>bj_c n (E0.hL hL q) a1 b0 (Ax (Aw j0 (Tt y1 X1)) q) (a2 &&& ((shlU (1:UInt64) d0) - (1:UInt64))) G4) rfl fun q7 p6 M3 ⟨k0,hu_,G0⟩=>?_
 subst hu_
 obtain ⟨s3,C3⟩:=E0.agr M3
 refine Ac rfl<|Ab (Am rfl rfl)<|Ab (Am rfl rfl)<|RG.nl [vI 0,vN] s3 fun s7 y5 u3 M0=>AX [vI g0.1.fN,k0] u3 .hd (o2 rfl (By (Aw G0 M0))) fun t7 F0 z1=>Ae rfl<|Aa<|Aj<|Af<|Ab (AK rfl (F0.memA .t1))<|Ac rfl<|Ac rfl<|Ab (FV.andU (a:=a2) (b:=(shlU (1:UInt64) d0) - (1:UInt64)) rfl rfl) ?_
 have E1:=Tt y1 (Tt X1 (Tt C3 (Tt M0 z1)))
 have P0:=Aw j0 E1
 obtain ⟨Q4,A5,c4,_⟩:=Rep.sl P0
 refine Ab (AL (vs:=[.agg #[vI b0.fN,c0],vW ((a2 &&& ((shlU (1:UInt64) d0) - (1:UInt64))).toNat:Int)]) (u:=.agg #[vI b0.fN,c0,vW ((a2 &&& ((shlU (1:UInt64) d0) - (1:UInt64))).toNat:Int)]) (e2 rfl rfl) (fun p=>by rw [c4]; try kernel_rfl))<|Ab (AK rfl (F0.memA .t1))<|Ac rfl ?_
 obtain ⟨R4,B5,d4,_⟩:=Rep.sl P0
 refine Ab (AL (vs:=[.agg #[vI b0.fN,c0],vW (((shlU (1:UInt64) d0) - (1:UInt64)).toNat:Int)]) (u:=.agg #[vI b0.fN,c0,vW (((shlU (1:UInt64) d0) - (1:UInt64)).toNat:Int)]) (e2 rfl rfl) (fun p=>by rw [d4]; try kernel_rfl))<|Ab (AK rfl (F0.memA .t1))<|Ac rfl ?_
 obtain ⟨U4,C5,g4,_⟩:=Rep.sl P0
 refine Ab (AL (vs:=[.agg #[vI b0.fN,c0],vU a2]) (u:=.agg #[vI b0.fN,c0,vU a2]) (e2 rfl rfl) (fun p=>by rw [g4]; try kernel_rfl))<|Ab (AK rfl (F0.memA .hd))<|Ac rfl ?_
 have Z1:=Aw G0 (Tt M0 z1)
 obtain ⟨V4,D5,j4,_⟩:=Rep.sl Z1
 refine Ab (AL (vs:=[.agg #[vI g0.1.fN,k0],vU g0.2]) (u:=.agg #[vI g0.1.fN,k0,vU g0.2]) (e2 rfl rfl) (fun p=>by rw [j4]; try kernel_rfl)) ?_
 obtain ⟨W4,E5,k4,_⟩:=Rep.sl P0
 obtain ⟨X4,F5,p4,_⟩:=Rep.sl Z1
 refine Ab (AL (vs:=[.agg #[vI b0.fN,c0,vW ((a2 &&& ((shlU (1:UInt64) d0) - (1:UInt64))).toNat:Int)],.agg #[vI b0.fN,c0,vW (((shlU (1:UInt64) d0) - (1:UInt64)).toNat:Int)],.agg #[vI b0.fN,c0,vU a2],.agg #[vI g0.1.fN,k0,vU g0.2]]) (u:=.agg #[vI b0.fN,c0,vW ((a2 &&& ((shlU (1:UInt64) d0) - (1:UInt64))).toNat:Int),vI b0.fN,c0,vW (((shlU (1:UInt64) d0) - (1:UInt64)).toNat:Int),vI b0.fN,c0,vU a2,vI g0.1.fN,k0,vU g0.2]) (e4 rfl rfl rfl rfl) (fun p=>by rw [k4,p4]; try kernel_rfl))<|Ac rfl<|Aa<|Ar<|MX.loop1<|Af<|Ab (Bq (i:=0) (j:=4) rfl rfl)<|Aa<|Aj<|AS rfl<|Ao<|Aj<|Ar<|Af<|Ab (FV.idxN (cs:=[vI b0.fN,c0,vW ((a2 &&& ((shlU (1:UInt64) d0) - (1:UInt64))).toNat:Int),vI b0.fN,c0,vW (((shlU (1:UInt64) d0) - (1:UInt64)).toNat:Int),vI b0.fN,c0,vU a2,vI g0.1.fN,k0,vU g0.2]) (k:=0) (m:=3) (len:=4) rfl rfl rfl rfl rfl (by omega) rfl)<|RG.nl [vI 0,vN,vW 0] F0 fun u7 z5 v3 A1=>AX [vI b0.fN,c0,vW ((a2 &&& ((shlU (1:UInt64) d0) - (1:UInt64))).toNat:Int)] v3 .hd (o3 rfl (By (Aw j0 (Tt E1 A1))) rfl) fun v7 z0 Y1=>Aa<|Af<|AT 0 rfl<|Ab (FV.loadN (cs:=[vI b0.fN,c0]) rfl rfl (aA (z0.memA .hd) 0 2))<|AT 2 rfl<|AA rfl ((z0.memA .hd) 2 _ rfl)<|Ab (AK rfl (z0.memA .t3))<|bk h fun Z0 H4 h=>?_
 have d2:=Tt E1 (Tt A1 Y1)
 refine jE (bd 11) rfl (e3 rfl rfl rfl) (fun p q=>ab_c n (z0.hL hL q) b0 (Ax (Aw j0 d2) q) (a2 &&& ((shlU (1:UInt64) d0) - (1:UInt64))) a3 (hG0.keep (z0.ag.trans q)) H4) rfl fun x7 q6 P3 ⟨M5,hu_,R3⟩=>?_
 subst hu_
 obtain ⟨x3,F1⟩:=z0.agr P3
 refine Ac rfl<|Ab (Am rfl rfl)<|Ab (Am rfl rfl)<|Ab (Am rfl rfl)<|RG.nl [vW 0] x3 fun s6 Y4 C2 b1=>Ae rfl<|AX [vU Z0.2.1.fc] C2 .hd (o1 rfl) fun t6 A0 c1=>Ae rfl<|Aa<|Af<|AT 0 rfl<|Ab (FV.loadN (cs:=[vI b0.fN,c0]) rfl rfl (aA (A0.memA .t1) 0 2))<|AT 2 rfl<|AA rfl ((A0.memA .t1) 2 _ rfl)<|Ab (AK rfl (A0.memA .t4))<|bk h fun Q0 q4 h=>?_
 have b2:=Tt d2 (Tt F1 (Tt b1 c1))
 refine jE (bd 12) rfl (e3 rfl rfl rfl) (fun p q=>ae_c n (A0.hL hL q) b0 (Ax (Aw j0 b2) q) (a2 &&& ((shlU (1:UInt64) d0) - (1:UInt64))) a3 q4) rfl fun v6 Y5 D3 ⟨P5,hu_,U3⟩=>?_
 subst hu_
 obtain ⟨D2,d1⟩:=A0.agr D3
 refine Ac rfl<|Ab (Am rfl rfl)<|Ab (Am rfl rfl)<|Ab (Am rfl rfl)<|RG.nl [vW 0] D2 fun x6 Z4 F2 H0=>Ae rfl<|AX [vU Q0.2.1.fc] F2 .hd (o1 rfl) fun y6 p0 I0=>Ae rfl<|Aa<|Af<|Ac rfl<|Ac rfl<|bk h fun I4 s4 h=>BA (.bool I4) (bd 10) rfl (e2 rfl rfl) (fun p q=>ai_c n (p0.hL0 hL q) (p0.kd (Aw R3 (Tt b1 (Tt c1 (Tt d1 (Tt H0 I0))))) q) (p0.kd (Aw U3 (Tt H0 I0)) q) s4) rfl<|Ab (FV.not rfl)<|Ac rfl<|RG.ifnb (s:=80) rfl h (fun g2 h=>?_) (fun g2 h=>?_)
 refine Al (AK rfl (p0.memA .t1))<|Al (AK rfl (p0.memA .hd))<|Al (FV.neqV (xs:=([vU Z0.2.1.fc]).toArray) (ys:=([vU Q0.2.1.fc]).toArray) rfl rfl (by kernel_rfl) (bD Z0.2.1.fc Q0.2.1.fc))<|Bb rfl rfl<|Ac rfl<|RG.ifn (s:=85) rfl h (fun j2 h=>?_) (fun j2 h=>?_)
 refine Al (Ag rfl)<|Al (Ag rfl)<|Al (FV.neq (i:=Z0.2.2) (j:=Q0.2.2) rfl rfl)<|Bb rfl rfl<|Aa<|MX.ifn rfl h (fun k2 h=>?_) (fun k2 h=>?_)
 refine Ao<|Ap<|Ak<|Ab (FV.add (i:=0) (j:=1) (r:=1) rfl rfl (by decide))<|Ac rfl<|Aa<|MX.again1 ?_
 obtain ⟨G2,G1⟩:=AH p0 (.a5 .done)
 refine Af<|Ab (Bq (i:=1) (j:=4) rfl rfl)<|Aa<|Aj<|AS rfl<|Ao<|Aj<|Ar<|Af<|Ab (FV.idxN (cs:=[vI b0.fN,c0,vW ((a2 &&& ((shlU (1:UInt64) d0) - (1:UInt64))).toNat:Int),vI b0.fN,c0,vW (((shlU (1:UInt64) d0) - (1:UInt64)).toNat:Int),vI b0.fN,c0,vU a2,vI g0.1.fN,k0,vU g0.2]) (k:=1) (m:=3) (len:=4) rfl rfl rfl rfl rfl (by omega) rfl)<|RG.nl [vI 0,vN,vW 0] G2 fun z6 c5 H2 H1=>?_
 have B1:=Tt b2 (Tt d1 (Tt H0 (Tt I0 (Tt G1 H1))))
 refine AX [vI b0.fN,c0,vW (((shlU (1:UInt64) d0) - (1:UInt64)).toNat:Int)] H2 .hd (o3 rfl (By (Aw j0 B1)) rfl) fun A6 v0 g1=>Aa<|Af<|AT 0 rfl<|Ab (FV.loadN (cs:=[vI b0.fN,c0]) rfl rfl (aA (v0.memA .hd) 0 2))<|AT 2 rfl<|AA rfl ((v0.memA .hd) 2 _ rfl)<|Ab (AK rfl (v0.memA .t1))<|bk h fun R0 u4 h=>jE (bd 11) rfl (e3 rfl rfl rfl) (fun p q=>ab_c n (v0.hL hL q) b0 (Ax (Aw j0 (Tt B1 g1)) q) ((shlU (1:UInt64) d0) - (1:UInt64)) a3 (hG0.keep (v0.ag.trans q)) u4) rfl fun B6 Z5 E3 ⟨Q5,hu_,V3⟩=>?_
 subst hu_
 obtain ⟨I2,I1⟩:=v0.agr E3
 refine Ac rfl<|Ab (Am rfl rfl)<|Ab (Am rfl rfl)<|Ab (Am rfl rfl)<|RG.nl [vW 0] I2 fun C6 d5 J2 j1=>Ae rfl<|AX [vU R0.2.1.fc] J2 .hd (o1 rfl) fun E6 B0 k1=>Ae rfl<|Aa<|Af<|AT 0 rfl<|Ab (FV.loadN (cs:=[vI b0.fN,c0]) rfl rfl (aA (B0.memA .t1) 0 2))<|AT 2 rfl<|AA rfl ((B0.memA .t1) 2 _ rfl)<|Ab (AK rfl (B0.memA .t2))<|bk h fun U0 v4 h=>?_
 have c2:=Tt B1 (Tt g1 (Tt I1 (Tt j1 k1)))
 refine jE (bd 12) rfl (e3 rfl rfl rfl) (fun p q=>ae_c n (B0.hL hL q) b0 (Ax (Aw j0 c2) q) ((shlU (1:UInt64) d0) - (1:UInt64)) a3 v4) rfl fun F6 b6 F3 ⟨R5,hu_,W3⟩=>?_
 subst hu_
 obtain ⟨M2,p1⟩:=B0.agr F3
 refine Ac rfl<|Ab (Am rfl rfl)<|Ab (Am rfl rfl)<|Ab (Am rfl rfl)<|RG.nl [vW 0] M2 fun G6 g5 P2 J0=>Ae rfl<|AX [vU U0.2.1.fc] P2 .hd (o1 rfl) fun H6 q0 K0=>Ae rfl<|Aa<|Af<|Ac rfl<|Ac rfl<|bk h fun J4 x4 h=>BA (.bool J4) (bd 10) rfl (e2 rfl rfl) (fun p q=>ai_c n (q0.hL0 hL q) (q0.kd (Aw V3 (Tt j1 (Tt k1 (Tt p1 (Tt J0 K0))))) q) (q0.kd (Aw W3 (Tt J0 K0)) q) x4) rfl<|Ab (FV.not rfl)<|Ac rfl<|RG.ifnb (s:=80) rfl h (fun p2 h=>?_) (fun p2 h=>?_)
 refine Al (AK rfl (q0.memA .t1))<|Al (AK rfl (q0.memA .hd))<|Al (FV.neqV (xs:=([vU R0.2.1.fc]).toArray) (ys:=([vU U0.2.1.fc]).toArray) rfl rfl (by kernel_rfl) (bD R0.2.1.fc U0.2.1.fc))<|Bb rfl rfl<|Ac rfl<|RG.ifn (s:=85) rfl h (fun q2 h=>?_) (fun q2 h=>?_)
 refine Al (Ag rfl)<|Al (Ag rfl)<|Al (FV.neq (i:=R0.2.2) (j:=U0.2.2) rfl rfl)<|Bb rfl rfl<|Aa<|MX.ifn rfl h (fun s2 h=>?_) (fun s2 h=>?_)
 refine Ao<|Ap<|Ak<|Ab (FV.add (i:=1) (j:=1) (r:=2) rfl rfl (by decide))<|Ac rfl<|Aa<|MX.again1 ?_
 obtain ⟨Q2,J1⟩:=AH q0 .d3
 refine Af<|Ab (Bq (i:=2) (j:=4) rfl rfl)<|Aa<|Aj<|AS rfl<|Ao<|Aj<|Ar<|Af<|Ab (FV.idxN (cs:=[vI b0.fN,c0,vW ((a2 &&& ((shlU (1:UInt64) d0) - (1:UInt64))).toNat:Int),vI b0.fN,c0,vW (((shlU (1:UInt64) d0) - (1:UInt64)).toNat:Int),vI b0.fN,c0,vU a2,vI g0.1.fN,k0,vU g0.2]) (k:=2) (m:=3) (len:=4) rfl rfl rfl rfl rfl (by omega) rfl)<|RG.nl [vI 0,vN,vW 0] Q2 fun I6 k5 R2 K1=>?_
 have C1:=Tt c2 (Tt p1 (Tt J0 (Tt K0 (Tt J1 K1))))
 refine AX [vI b0.fN,c0,vU a2] R2 .hd (o3 rfl (By (Aw j0 C1)) rfl) fun J6 x0 q1=>Aa<|Af<|AT 0 rfl<|Ab (FV.loadN (cs:=[vI b0.fN,c0]) rfl rfl (aA (x0.memA .hd) 0 2))<|AT 2 rfl<|AA rfl ((x0.memA .hd) 2 _ rfl)<|Ab (AK rfl (x0.memA .t1))<|bk h fun V0 y4 h=>jE (bd 11) rfl (e3 rfl rfl rfl) (fun p q=>ab_c n (x0.hL hL q) b0 (Ax (Aw j0 (Tt C1 q1)) q) a2 a3 (hG0.keep (x0.ag.trans q)) y4) rfl fun K6 c6 G3 ⟨U5,hu_,X3⟩=>?_
 subst hu_
 obtain ⟨U2,M1⟩:=x0.agr G3
 refine Ac rfl<|Ab (Am rfl rfl)<|Ab (Am rfl rfl)<|Ab (Am rfl rfl)<|RG.nl [vW 0] U2 fun P6 p5 V2 s1=>Ae rfl<|AX [vU V0.2.1.fc] V2 .hd (o1 rfl) fun Q6 C0 u1=>Ae rfl<|Aa<|Af<|AT 0 rfl<|Ab (FV.loadN (cs:=[vI b0.fN,c0]) rfl rfl (aA (C0.memA .t1) 0 2))<|AT 2 rfl<|AA rfl ((C0.memA .t1) 2 _ rfl)<|Ab (AK rfl (C0.memA .t2))<|bk h fun W0 z4 h=>jE (bd 12) rfl (e3 rfl rfl rfl) (fun p q=>ae_c n (C0.hL hL q) b0 (Ax (Aw j0 (Tt C1 (Tt q1 (Tt M1 (Tt s1 u1))))) q) a2 a3 z4) rfl fun R6 d6 H3 ⟨V5,hu_,Y3⟩=>?_
 subst hu_
 obtain ⟨W2,P1⟩:=C0.agr H3
 refine Ac rfl<|Ab (Am rfl rfl)<|Ab (Am rfl rfl)<|Ab (Am rfl rfl)<|RG.nl [vW 0] W2 fun U6 q5 X2 v1=>Ae rfl<|AX [vU W0.2.1.fc] X2 .hd (o1 rfl) fun V6 s0 x1=>Ae rfl<|Aa<|Af<|Ac rfl<|Ac rfl<|bk h fun K4 A4 h=>BA (.bool K4) (bd 10) rfl (e2 rfl rfl) (fun p q=>ai_c n (s0.hL0 hL q) (s0.kd (Aw X3 (Tt s1 (Tt u1 (Tt P1 (Tt v1 x1))))) q) (s0.kd (Aw Y3 (Tt v1 x1)) q) A4) rfl<|Ab (FV.not rfl)<|Ac rfl<|RG.ifnb (s:=80) rfl h (fun u2 h=>?_) (fun u2 h=>?_)
 refine Al (AK rfl (s0.memA .t1))<|Al (AK rfl (s0.memA .hd))<|Al (FV.neqV (xs:=([vU V0.2.1.fc]).toArray) (ys:=([vU W0.2.1.fc]).toArray) rfl rfl (by kernel_rfl) (bD V0.2.1.fc W0.2.1.fc))<|Bb rfl rfl<|Ac rfl<|RG.ifn (s:=85) rfl h (fun v2 h=>?_) (fun v2 h=>?_)
 refine Al (Ag rfl)<|Al (Ag rfl)<|Al (FV.neq (i:=V0.2.2) (j:=W0.2.2) rfl rfl)<|Bb rfl rfl<|Aa<|MX.ifn rfl h (fun x2 h=>?_) (fun x2 h=>?_)
 refine Ao<|Ap<|Ak<|Ab (FV.add (i:=2) (j:=1) (r:=3) rfl rfl (by decide))<|Ac rfl<|Aa<|MX.again1 ?_
 obtain ⟨Y2,y3⟩:=AH s0 .d3
 refine Af<|Ab (Bq (i:=3) (j:=4) rfl rfl)<|Aa<|Aj<|AS rfl<|Ao<|Aj<|Ar<|Af<|Ab (FV.idxN (cs:=[vI b0.fN,c0,vW ((a2 &&& ((shlU (1:UInt64) d0) - (1:UInt64))).toNat:Int),vI b0.fN,c0,vW (((shlU (1:UInt64) d0) - (1:UInt64)).toNat:Int),vI b0.fN,c0,vU a2,vI g0.1.fN,k0,vU g0.2]) (k:=3) (m:=3) (len:=4) rfl rfl rfl rfl rfl (by omega) rfl)<|RG.nl [vI 0,vN,vW 0] Y2 fun W6 t5 Z2 z3=>?_
 have D1:=Tt M0 (Tt z1 (Tt A1 (Tt Y1 (Tt F1 (Tt b1 (Tt c1 (Tt d1 (Tt H0 (Tt I0 (Tt G1 (Tt H1 (Tt g1 (Tt I1 (Tt j1 (Tt k1 (Tt p1 (Tt J0 (Tt K0 (Tt J1 (Tt K1 (Tt q1 (Tt M1 (Tt s1 (Tt u1 (Tt P1 (Tt v1 (Tt x1 (Tt y3 z3))))))))))))))))))))))))))))
 refine AX [vI g0.1.fN,k0,vU g0.2] Z2 .hd (o3 rfl (By (Aw G0 D1)) rfl) fun X6 y0 Q1=>Aa<|Af<|AT 0 rfl<|Ab (FV.loadN (cs:=[vI g0.1.fN,k0]) rfl rfl (aA (y0.memA .hd) 0 2))<|AT 2 rfl<|AA rfl ((y0.memA .hd) 2 _ rfl)<|Ab (AK rfl (y0.memA .t1))<|bk h fun X0 C4 h=>jE (bd 11) rfl (e3 rfl rfl rfl) (fun p q=>ab_c n (y0.hL hL q) g0.1 (Ax (Aw G0 (Tt D1 Q1)) q) g0.2 a3 (hG0.keep (y0.ag.trans q)) C4) rfl fun Y6 g6 I3 ⟨W5,hu_,Z3⟩=>?_
 subst hu_
 obtain ⟨b3,A3⟩:=y0.agr I3
 refine Ac rfl<|Ab (Am rfl rfl)<|Ab (Am rfl rfl)<|Ab (Am rfl rfl)<|RG.nl [vW 0] b3 fun Z6 u5 c3 R1=>Ae rfl<|AX [vU X0.2.1.fc] c3 .hd (o1 rfl) fun b7 D0 U1=>Ae rfl<|Aa<|Af<|AT 0 rfl<|Ab (FV.loadN (cs:=[vI g0.1.fN,k0]) rfl rfl (aA (D0.memA .t1) 0 2))<|AT 2 rfl<|AA rfl ((D0.memA .t1) 2 _ rfl)<|Ab (AK rfl (D0.memA .t2))<|bk h fun Y0 E4 h=>jE (bd 12) rfl (e3 rfl rfl rfl) (fun p q=>ae_c n (D0.hL hL q) g0.1 (Ax (Aw G0 (Tt D1 (Tt Q1 (Tt A3 (Tt R1 U1))))) q) g0.2 a3 E4) rfl fun c7 j6 J3 ⟨X5,hu_,b4⟩=>?_
 subst hu_
 obtain ⟨g3,B3⟩:=D0.agr J3
 refine Ac rfl<|Ab (Am rfl rfl)<|Ab (Am rfl rfl)<|Ab (Am rfl rfl)<|RG.nl [vW 0] g3 fun g7 v5 j3 V1=>Ae rfl<|AX [vU Y0.2.1.fc] j3 .hd (o1 rfl) fun j7 t0 W1=>Ae rfl<|Aa<|Af<|Ac rfl<|Ac rfl<|bk h fun P4 F4 h=>BA (.bool P4) (bd 10) rfl (e2 rfl rfl) (fun p q=>ai_c n (t0.hL0 hL q) (t0.kd (Aw Z3 (Tt R1 (Tt U1 (Tt B3 (Tt V1 W1))))) q) (t0.kd (Aw b4 (Tt V1 W1)) q) F4) rfl<|Ab (FV.not rfl)<|Ac rfl<|RG.ifnb (s:=80) rfl h (fun z2 h=>?_) (fun z2 h=>?_)
 refine Al (AK rfl (t0.memA .t1))<|Al (AK rfl (t0.memA .hd))<|Al (FV.neqV (xs:=([vU X0.2.1.fc]).toArray) (ys:=([vU Y0.2.1.fc]).toArray) rfl rfl (by kernel_rfl) (bD X0.2.1.fc Y0.2.1.fc))<|Bb rfl rfl<|Ac rfl<|RG.ifn (s:=85) rfl h (fun A2 h=>?_) (fun A2 h=>?_)
 refine Al (Ag rfl)<|Al (Ag rfl)<|Al (FV.neq (i:=X0.2.2) (j:=Y0.2.2) rfl rfl)<|Bb rfl rfl<|Aa<|MX.ifn rfl h (fun B2 h=>?_) (fun B2 h=>?_)
 refine Ao<|Ap<|Ak<|Ab (FV.add (i:=3) (j:=1) (r:=4) rfl rfl (by decide))<|Ac rfl<|Aa<|MX.again1 ?_
 obtain ⟨k3,J5⟩:=AH t0 .d3
 refine Af<|Ab (Bq (i:=4) (j:=4) rfl rfl)<|Aa<|Aj<|Bl rfl<|AV rfl<|Af<|Ae rfl<|Aa<|Aq rfl<|AQ hb0 func4 rfl rfl ?_
 cases h
 exact k3.gv
 refine Af<|Ae rfl<|Aa<|Aq rfl<|AQ hb0 func4 rfl rfl ?_
 cases h
 exact t0.gv
 refine Ah<|Ah<|Ah<|Bd rfl rfl<|Aa<|AS rfl<|Af<|Ae rfl<|Aa<|Aq rfl<|AQ hb0 func4 rfl rfl ?_
 cases h
 exact t0.gv
 refine Ah<|Ah<|Ah<|Bd rfl rfl<|Ac rfl<|Ah<|Ah<|Ah<|Bd rfl rfl<|Aa<|AS rfl<|Af<|Ae rfl<|Aa<|Aq rfl<|AQ hb0 func4 rfl rfl ?_
 cases h
 exact t0.gv
 refine Af<|Ae rfl<|Aa<|Aq rfl<|AQ hb0 func4 rfl rfl ?_
 cases h
 exact s0.gv
 refine Ah<|Ah<|Ah<|Bd rfl rfl<|Aa<|AS rfl<|Af<|Ae rfl<|Aa<|Aq rfl<|AQ hb0 func4 rfl rfl ?_
 cases h
 exact s0.gv
 refine Ah<|Ah<|Ah<|Bd rfl rfl<|Ac rfl<|Ah<|Ah<|Ah<|Bd rfl rfl<|Aa<|AS rfl<|Af<|Ae rfl<|Aa<|Aq rfl<|AQ hb0 func4 rfl rfl ?_
 cases h
 exact s0.gv
 refine Af<|Ae rfl<|Aa<|Aq rfl<|AQ hb0 func4 rfl rfl ?_
 cases h
 exact q0.gv
 refine Ah<|Ah<|Ah<|Bd rfl rfl<|Aa<|AS rfl<|Af<|Ae rfl<|Aa<|Aq rfl<|AQ hb0 func4 rfl rfl ?_
 cases h
 exact q0.gv
 refine Ah<|Ah<|Ah<|Bd rfl rfl<|Ac rfl<|Ah<|Ah<|Ah<|Bd rfl rfl<|Aa<|AS rfl<|Af<|Ae rfl<|Aa<|Aq rfl<|AQ hb0 func4 rfl rfl ?_
 cases h
 exact q0.gv
 refine Af<|Ae rfl<|Aa<|Aq rfl<|AQ hb0 func4 rfl rfl ?_
 cases h
 exact p0.gv
 refine Ah<|Ah<|Ah<|Bd rfl rfl<|Aa<|AS rfl<|Af<|Ae rfl<|Aa<|Aq rfl<|AQ hb0 func4 rfl rfl ?_
 cases h
 exact p0.gv
 refine Ah<|Ah<|Ah<|Bd rfl rfl<|Ac rfl<|Ah<|Ah<|Ah<|Bd rfl rfl<|Aa<|AS rfl<|Af<|Ae rfl<|Aa<|Aq rfl<|AQ hb0 func4 rfl rfl ?_
 cases h
 exact p0.gv
 refine Af<|Ae rfl<|Aa<|Aq rfl<|AQ hb0 func4 rfl rfl ?_
 cases h
 exact u0.gv
end Go.Proofs.YtlleajifdbnbaaaGreatDoor
