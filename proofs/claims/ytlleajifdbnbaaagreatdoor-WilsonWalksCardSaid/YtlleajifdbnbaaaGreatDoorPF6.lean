import Derived.Test.YtlleajifdbnbaaaGreatDoorPF4
namespace Go.Proofs.YtlleajifdbnbaaaGreatDoor
open Go Go.RowKit Tryz
set_option maxRecDepth 4000
set_option maxHeartbeats 4000000

def a9_p (n:Nat) (a0:Tc) (a1:Tc):Option (Tc × Tc):=
  (aE_p n a0.fD a1.fD).bind fun g0=>(ab_p n (!(a0.fe == a1.fe)) g0.1).bind fun b0=>(ab_p n a0.fe g0.2).bind fun c0=>(if c0.fe = true then (aN_p n c0 (⟨false,a1.fD⟩:Tc)).bind fun d0=>(if a1.fe = true then (ak_p n (1:Int)).bind fun j0=>(aN_p n b0 j0).bind fun k0=>some (k0,d0) else (ak_p n (1:Int)).bind fun p0=>(aT_p n b0 p0).bind fun q0=>some (q0,d0)) else some (b0,c0))
theorem a9_c (n:Nat) {L w} (hL:hl L w) (a0:Tc) {v0_1:Value} (h0_1:Rep.R w L [v0_1] a0.fD) (a1:Tc) {v1_1:Value} (h1_1:Rep.R w L [v1_1] a1.fD)  {r:Tc × Tc} (h:a9_p n a0 a1 = some r) :
 Cl 73 #[.agg #[.bool a0.fe,v0_1],.agg #[.bool a1.fe,v1_1]] w (ah w fun w' u=>∃ v0_1 v1_1:Value,u = .tuple #[.agg #[.bool r.1.fe,v0_1],.agg #[.bool r.2.fe,v1_1]]/\Rep.R w' L [v0_1] r.1.fD/\Rep.R w' L [v1_1] r.2.fD):=by
 unfold a9_p at h
 refine AG func73 rfl rfl rfl fun _ cs0 hb0=>Af<|RG.bx (AF w) rfl rfl fun k6 H5 Q3 J5=>RG.bx Q3 rfl rfl fun p6 c2 R3 K5=>RG.nl [.bool false,vN] R3 fun z6 G0 Y3 P5=>RG.nl [.bool false,vN] Y3 fun A6 H0 z1 Q5=>Aa<|Af<|AT 1 rfl<|AA rfl ((z1.memA .t3) 1 _ rfl)<|AT 1 rfl<|AA rfl ((z1.memA .t2) 1 _ rfl)<|bk h fun P6 v5 h=>jE (bd 94) rfl (e2 rfl rfl) (fun w9 hw9=>aE_c n (z1.hL hL hw9) (z1.km h0_1 hw9) (z1.km h1_1 hw9) v5) rfl fun B6 g6 b5 ⟨W5,X5,hu_,R1,B0⟩=>?_
 subst hu_
 obtain ⟨Z0,R5⟩:=z1.agr b5
 refine Ac rfl<|Ab (Am rfl rfl)<|Ab (Am rfl rfl)<|Ae rfl<|Ae rfl<|Aa<|Aj<|du 13 fun b0 V0=>Rv 0 b0 rfl V0 (fun _=>BB 0 rfl)<|Rx 1 25680 b0 rfl V0 (AM rfl ((Z0.memA .t3) 0 _ rfl))<|Rv 2 b0 rfl V0 (fun _=>BB 0 rfl)<|Rx 3 25680 b0 rfl V0 (AM rfl ((Z0.memA .t2) 0 _ rfl))<|Rv 4 b0 rfl V0 (fun _=>FV.neqB (a:=a0.fe) (b:=a1.fe) underlying4 rfl rfl)<|Rv 5 b0 rfl V0 (fun _=>Ag rfl)<|Rv 7 b0 rfl V0 (fun _=>BB 0 rfl)<|Rx 8 25600 b0 rfl V0 (AM rfl ((Z0.memA .t3) 0 _ rfl))<|Rv 9 b0 rfl V0 (fun _=>Ag rfl)<|bk h fun Y0 U1 h=>bk h fun y1 D0 h=>RD.mf (α:=Value × Value × Nat × Nat) (fun ⟨E0,M0,k1,p1⟩=>[(3,vP c2),(4,vP G0),(5,vP H0),(24,.agg #[.bool Y0.fe,E0]),(28,.agg #[.bool y1.fe,M0]),(8,vP p1),(9,vP k1)]) (fun ⟨E0,M0,k1,p1⟩=>[.cells k1 [.bool false,vN] 121,.cells p1 [.bool false,vN] 121,.cells H0 [.bool false,vN] 121,.cells G0 [.bool false,vN] 121,.cells c2 [.bool a1.fe,v1_1] 121]) (fun ⟨E0,M0,k1,p1⟩ J2=>Rep.R J2 (bl [.cells k1 [.bool false,vN] 121,.cells p1 [.bool false,vN] 121,.cells H0 [.bool false,vN] 121,.cells G0 [.bool false,vN] 121,.cells c2 [.bool a1.fe,v1_1] 121] ++ L) [E0] Y0.fD/\Rep.R J2 (bl [.cells k1 [.bool false,vN] 121,.cells p1 [.bool false,vN] 121,.cells H0 [.bool false,vN] 121,.cells G0 [.bool false,vN] 121,.cells c2 [.bool a1.fe,v1_1] 121] ++ L) [M0] y1.fD) Z0 2 8191 ?_ ?_
 rintro ⟨E0,M0,k1,p1⟩ J2 U3 M5 ⟨C1,s2⟩
 try dsimp only
 refine RD.nw 13 16383 b0 rfl rfl .plain (AP (news:=[.bool Y0.fe,E0]) U3 .t1 rfl rfl rfl rfl rfl rfl (o2 rfl (By C1))) fun q6 V3 s1=>RD.nw 14 32767 b0 rfl rfl .plain (AP (news:=[.bool y1.fe,M0]) V3 .hd rfl rfl rfl rfl rfl rfl (o2 rfl (By (Aw s2 s1)))) fun s6 x0 A1=>AZ (dk b0)<|Aj<|Af<|AT 0 rfl<|AA rfl ((x0.memA .hd) 0 _ rfl)<|Aa<|MX.ifb rfl h (fun M3 h=>?_) (fun M3 h=>?_)
 refine Af<|Ab (AK rfl (x0.memA .hd))<|AT 1 rfl<|AA rfl ((x0.memA .t4) 1 _ rfl) ?_
 obtain ⟨G5,I5,q5,_⟩:=Rep.sl (Be h1_1 x0)
 refine Ab (AL (vs:=[v1_1]) (u:=.agg #[.bool false,v1_1]) (e1 rfl) (fun w9=>by rw [q5]; try kernel_rfl))<|bk h fun x1 s5 h=>jE (bd 96) rfl (e2 rfl rfl) (fun w9 hw9=>aN_c n (x0.hL hL hw9) y1 (Ax (Aw s2 (Tt s1 A1)) hw9) (⟨false,a1.fD⟩:Tc) (x0.km h1_1 hw9) s5) rfl fun t6 Y5 V4 ⟨W0,hu_,Q1⟩=>?_
 subst hu_
 obtain ⟨W3,U2⟩:=x0.agr V4
 refine AX [.bool x1.fe,W0] W3 .hd (o2 rfl (By Q1)) fun u6 q1 B1=>Aa<|Af<|AT 0 rfl<|AA rfl ((q1.memA .t4) 0 _ rfl)<|Aa<|MX.ifb rfl h (fun P3 h=>?_) (fun P3 h=>?_)
 refine du 3 fun V1 z5=>Rx 0 12 V1 rfl z5 (AK rfl (q1.memA .t1))<|bk h fun E5 t5 h=>RD.cl 1 3 V1 rfl .plain (bd 75) rfl (e1 rfl) (fun w9 hw9=>ak_c n (q1.hL hL hw9)  t5) rfl fun v6 Z5 W4 ⟨U5,hu_,k5⟩=>?_
 subst hu_
 obtain ⟨Q2,z2⟩:=q1.agr W4
 refine bk h fun Z1 u5 h=>RD.cl 2 7 V1 rfl .plain (bd 96) rfl (e2 rfl rfl) (fun w9 hw9=>aN_c n (Q2.hL hL hw9) Y0 (Ax (Aw C1 (Tt s1 (Tt A1 (Tt U2 (Tt B1 z2))))) hw9) E5 (Ax k5 hw9) u5) rfl fun x6 b6 X4 ⟨E1,hu_,u2⟩=>?_
 subst hu_
 obtain ⟨X3,V2⟩:=Q2.agr X4
 refine RD.nw 3 15 V1 rfl rfl .plain (AP (news:=[.bool Z1.fe,E1]) X3 .t1 rfl rfl rfl rfl rfl rfl (o2 rfl (By u2))) fun y6 H1 p2=>AZ (dk V1)<|Aj<|du 2 fun b1 I3=>Rx 0 12 b1 rfl I3 (AK rfl (H1.memA .t1))<|RD.mo (α:=Unit) (fun ()=>[(4,vP G0),(5,vP H0),(45,.agg #[.bool x1.fe,W0])]) (fun ()=>[.cells H0 [.bool false,vN] 121,.cells G0 [.bool Z1.fe,E1] 121]) H1 1 7 ?_ ?_
 rintro ⟨⟩ J6 Z3 W2
 try dsimp only
 refine RD.nw 3 15 b1 rfl rfl .plain (AP (news:=[.bool x1.fe,W0]) Z3 .hd rfl rfl rfl rfl rfl rfl (o2 rfl (By (Aw Q1 (Tt B1 (Tt z2 (Tt V2 (Tt p2 W2)))))))) fun C6 I1 H4=>AZ (dk b1)<|Aq rfl<|Av hb0 func73 rfl (.cons (.many (cs:=[.bool Z1.fe,E1]) rfl rfl (I1.memA .t1)) (.cons (.many (cs:=[.bool x1.fe,W0]) rfl rfl (I1.memA .hd)) .nil)) rfl ?_
 cases h
 have v3:=Tt p2 (Tt W2 H4)
 exact ⟨I1.ag,fun w9 hw9=>⟨E1,W0,rfl,I1.kd (Aw u2 v3) hw9,I1.kd (Aw Q1 (Tt B1 (Tt z2 (Tt V2 v3)))) hw9⟩⟩
 intro K2
 refine RD.each [1,2] (rk b1) ⟨?_,?_,trivial⟩
 refine RO.val (m' :=3) (sk b1) rfl .plain rfl (AK rfl (H1.memA .hd)) ?_
 have d5:=Aw u2 p2
 refine RD.nw 2 7 b1 rfl rfl .plain (AP (news:=[.bool Z1.fe,E1]) H1 .t3 rfl rfl rfl rfl rfl rfl (o2 rfl (By d5))) fun B5 d2 A2=>?_
 obtain ⟨b4,I4⟩:=AH d2 (.a2 (.a2 .done))
 exact K2 () b4 (Tt A2 I4)
 refine RO.now (m' :=5) (sk b1) rfl rfl .plain (AP (news:=[.bool Z1.fe,E1]) H1 .t3 rfl rfl rfl rfl rfl rfl (o2 rfl (By (Aw u2 p2)))) fun B5 d2 A2=>Rx 1 8 b1 rfl I3 (AK rfl (d2.memA .hd)) ?_
 obtain ⟨c4,J4⟩:=AH d2 (.a2 (.a2 .done))
 exact K2 () c4 (Tt A2 J4)
 refine du 3 fun W1 A5=>Rx 0 12 W1 rfl A5 (AK rfl (q1.memA .t1))<|bk h fun F5 x5 h=>RD.cl 1 3 W1 rfl .plain (bd 75) rfl (e1 rfl) (fun w9 hw9=>ak_c n (q1.hL hL hw9)  x5) rfl fun D6 c6 Y4 ⟨V5,hu_,p5⟩=>?_
 subst hu_
 obtain ⟨R2,B2⟩:=q1.agr Y4
 refine bk h fun b2 y5 h=>RD.cl 2 7 W1 rfl .plain (bd 97) rfl (e2 rfl rfl) (fun w9 hw9=>aT_c n (R2.hL hL hw9) Y0 (Ax (Aw C1 (Tt s1 (Tt A1 (Tt U2 (Tt B1 B2))))) hw9) F5 (Ax p5 hw9) y5) rfl fun E6 d6 Z4 ⟨F1,hu_,v2⟩=>?_
 subst hu_
 obtain ⟨d4,X2⟩:=R2.agr Z4
 refine RD.nw 3 15 W1 rfl rfl .plain (AP (news:=[.bool b2.fe,F1]) d4 .t1 rfl rfl rfl rfl rfl rfl (o2 rfl (By v2))) fun F6 J1 q2=>AZ (dk W1)<|Aj<|du 2 fun c1 J3=>Rx 0 12 c1 rfl J3 (AK rfl (J1.memA .t1))<|RD.mo (α:=Unit) (fun ()=>[(4,vP G0),(5,vP H0),(45,.agg #[.bool x1.fe,W0])]) (fun ()=>[.cells H0 [.bool false,vN] 121,.cells G0 [.bool b2.fe,F1] 121]) J1 1 7 ?_ ?_
 rintro ⟨⟩ K6 g4 Y2
 try dsimp only
 refine RD.nw 3 15 c1 rfl rfl .plain (AP (news:=[.bool x1.fe,W0]) g4 .hd rfl rfl rfl rfl rfl rfl (o2 rfl (By (Aw Q1 (Tt B1 (Tt B2 (Tt X2 (Tt q2 Y2)))))))) fun H6 K1 K4=>AZ (dk c1)<|Aq rfl<|Av hb0 func73 rfl (.cons (.many (cs:=[.bool b2.fe,F1]) rfl rfl (K1.memA .t1)) (.cons (.many (cs:=[.bool x1.fe,W0]) rfl rfl (K1.memA .hd)) .nil)) rfl ?_
 cases h
 have x3:=Tt q2 (Tt Y2 K4)
 exact ⟨K1.ag,fun w9 hw9=>⟨F1,W0,rfl,K1.kd (Aw v2 x3) hw9,K1.kd (Aw Q1 (Tt B1 (Tt B2 (Tt X2 x3)))) hw9⟩⟩
 intro M2
 refine RD.each [1,2] (rk c1) ⟨?_,?_,trivial⟩
 refine RO.val (m' :=3) (sk c1) rfl .plain rfl (AK rfl (J1.memA .hd)) ?_
 have g5:=Aw v2 q2
 refine RD.nw 2 7 c1 rfl rfl .plain (AP (news:=[.bool b2.fe,F1]) J1 .t3 rfl rfl rfl rfl rfl rfl (o2 rfl (By g5))) fun C5 j2 C2=>?_
 obtain ⟨j4,M4⟩:=AH j2 (.a2 (.a2 .done))
 exact M2 () j4 (Tt C2 M4)
 refine RO.now (m' :=5) (sk c1) rfl rfl .plain (AP (news:=[.bool b2.fe,F1]) J1 .t3 rfl rfl rfl rfl rfl rfl (o2 rfl (By (Aw v2 q2)))) fun C5 j2 C2=>Rx 1 8 c1 rfl J3 (AK rfl (j2.memA .hd)) ?_
 obtain ⟨k4,P4⟩:=AH j2 (.a2 (.a2 .done))
 exact M2 () k4 (Tt C2 P4)
 refine Ao<|Aj<|du 2 fun d1 K3=>Rx 0 12 d1 rfl K3 (AK rfl (x0.memA .t1))<|RD.mo (α:=Unit) (fun ()=>[(4,vP G0),(5,vP H0),(45,.agg #[.bool y1.fe,M0])]) (fun ()=>[.cells H0 [.bool false,vN] 121,.cells G0 [.bool Y0.fe,E0] 121]) x0 1 7 ?_ ?_
 rintro ⟨⟩ M6 p4 Q4
 try dsimp only
 have G2:=Tt s1 (Tt A1 Q4)
 refine RD.nw 3 15 d1 rfl rfl .plain (AP (news:=[.bool y1.fe,M0]) p4 .hd rfl rfl rfl rfl rfl rfl (o2 rfl (By (Aw s2 G2)))) fun I6 M1 Z2=>AZ (dk d1)<|Aq rfl<|Av hb0 func73 rfl (.cons (.many (cs:=[.bool Y0.fe,E0]) rfl rfl (M1.memA .t1)) (.cons (.many (cs:=[.bool y1.fe,M0]) rfl rfl (M1.memA .hd)) .nil)) rfl ?_
 cases h
 exact ⟨M1.ag,fun w9 hw9=>⟨E0,M0,rfl,M1.kd (Aw C1 (Tt G2 Z2)) hw9,M1.kd (Aw s2 (Tt G2 Z2)) hw9⟩⟩
 intro P2
 refine RD.each [1,2] (rk d1) ⟨?_,?_,trivial⟩
 refine RO.val (m' :=3) (sk d1) rfl .plain rfl (AK rfl (x0.memA .hd)) ?_
 have j5:=Aw C1 (Tt s1 A1)
 refine RD.nw 2 7 d1 rfl rfl .plain (AP (news:=[.bool Y0.fe,E0]) x0 .t3 rfl rfl rfl rfl rfl rfl (o2 rfl (By j5))) fun D5 k2 D2=>?_
 obtain ⟨q4,R4⟩:=AH k2 (.a2 (.a2 .done))
 exact P2 () q4 (Tt D2 R4)
 refine RO.now (m' :=5) (sk d1) rfl rfl .plain (AP (news:=[.bool Y0.fe,E0]) x0 .t3 rfl rfl rfl rfl rfl rfl (o2 rfl (By (Aw C1 (Tt s1 A1))))) fun D5 k2 D2=>Rx 1 8 d1 rfl K3 (AK rfl (k2.memA .hd)) ?_
 obtain ⟨s4,U4⟩:=AH k2 (.a2 (.a2 .done))
 exact P2 () s4 (Tt D2 U4)
 intro v0
 refine RD.each [6,11,12] (rk b0) ⟨?_,?_,?_,trivial⟩
 refine RO.call (m' :=1023) (fst:=[]) (cap:=[]) (sk b0) rfl .plain (bd 95) rfl (e2 rfl rfl) (fun w9 hw9=>ab_c n (Z0.hL hL hw9) (Ax R1 hw9) U1) rfl fun G6 j6 c5 ⟨G1,hu_,D1⟩=>?_
 subst hu_
 obtain ⟨g2,z0⟩:=Z0.agr c5
 refine RD.each [10,11,12] (rk b0) ⟨?_,?_,?_,trivial⟩
 have v1:=Aw B0 z0
 refine RO.call (m' :=2047) (fst:=[]) (cap:=[]) (sk b0) rfl .plain (bd 95) rfl (e2 rfl rfl) (fun w9 hw9=>ab_c n (g2.hL hL hw9) (Ax v1 hw9) D0) rfl fun y2 x2 Q0 ⟨P0,hu_,K0⟩=>?_
 subst hu_
 obtain ⟨I0,J0⟩:=g2.agr Q0
 refine RD.each [11,12] (rk b0) ⟨?_,?_,trivial⟩
 refine RO.new (m' :=4095) (sk b0) rfl .plain rfl (AC [.bool false,vN] I0) fun j1 p0 j0 d0=>RD.nu 12 8191 b0 rfl .plain rfl (AC [.bool false,vN] j0) fun g1 k0 g0 c0=>?_
 obtain ⟨u4,b3⟩:=AH g0 (.a0 (.a0 (.a0 (.a0 (.a0 .done)))))
 have y3:=Tt J0 (Tt d0 (Tt c0 b3))
 exact v0 (G1,P0,k0,p0) u4 (Tt z0 y3) ⟨(Aw D1 y3),(Aw K0 (Tt d0 (Tt c0 b3)))⟩
 refine RO.new (m' :=6143) (sk b0) rfl .plain rfl (AC [.bool false,vN] I0) fun g1 k0 g0 c0=>RD.nu 11 8191 b0 rfl .plain rfl (AC [.bool false,vN] g0) fun j1 p0 j0 d0=>?_
 obtain ⟨v4,c3⟩:=AH j0 (.a1 (.a0 (.a0 (.a0 (.a0 .done)))))
 have z3:=Tt J0 (Tt c0 (Tt d0 c3))
 exact v0 (G1,P0,k0,p0) v4 (Tt z0 z3) ⟨(Aw D1 z3),(Aw K0 (Tt c0 (Tt d0 c3)))⟩
 refine RO.new (m' :=3071) (sk b0) rfl .plain rfl (AC [.bool false,vN] g2) fun j1 p0 j0 d0=>RD.each [10,12] (rk b0) ⟨?_,?_,trivial⟩
 have v1:=Aw B0 (Tt z0 d0)
 refine RO.call (m' :=4095) (fst:=[]) (cap:=[]) (sk b0) rfl .plain (bd 95) rfl (e2 rfl rfl) (fun w9 hw9=>ab_c n (j0.hL hL hw9) (Ax v1 hw9) D0) rfl fun y2 x2 Q0 ⟨P0,hu_,K0⟩=>?_
 subst hu_
 obtain ⟨I0,J0⟩:=j0.agr Q0
 refine RD.nu 12 8191 b0 rfl .plain rfl (AC [.bool false,vN] I0) fun g1 k0 g0 c0=>?_
 obtain ⟨x4,d3⟩:=AH g0 (.a0 (.a0 (.a0 (.a0 (.a0 .done)))))
 have A3:=Tt d0 (Tt J0 (Tt c0 d3))
 exact v0 (G1,P0,k0,p0) x4 (Tt z0 A3) ⟨(Aw D1 A3),(Aw K0 (Tt c0 d3))⟩
 refine RO.new (m' :=7167) (sk b0) rfl .plain rfl (AC [.bool false,vN] j0) fun g1 k0 g0 c0=>?_
 have u0:=Tt z0 (Tt d0 c0)
 have R0:=Aw B0 u0
 refine RD.cl 10 8191 b0 rfl .plain (bd 95) rfl (e2 rfl rfl) (fun w9 hw9=>ab_c n (g0.hL hL hw9) (Ax R0 hw9) D0) rfl fun Y1 X1 A0 ⟨F0,hu_,C0⟩=>?_
 subst hu_
 obtain ⟨y0,t0⟩:=g0.agr A0
 obtain ⟨y4,g3⟩:=AH y0 (.a0 (.a0 (.a0 (.a0 (.a0 .done)))))
 have B3:=Tt d0 (Tt c0 (Tt t0 g3))
 exact v0 (G1,F0,k0,p0) y4 (Tt z0 B3) ⟨(Aw D1 B3),(Aw C0 g3)⟩
 refine RO.new (m' :=5119) (sk b0) rfl .plain rfl (AC [.bool false,vN] g2) fun g1 k0 g0 c0=>RD.each [10,11] (rk b0) ⟨?_,?_,trivial⟩
 have v1:=Aw B0 (Tt z0 c0)
 refine RO.call (m' :=6143) (fst:=[]) (cap:=[]) (sk b0) rfl .plain (bd 95) rfl (e2 rfl rfl) (fun w9 hw9=>ab_c n (g0.hL hL hw9) (Ax v1 hw9) D0) rfl fun y2 x2 Q0 ⟨P0,hu_,K0⟩=>?_
 subst hu_
 obtain ⟨I0,J0⟩:=g0.agr Q0
 refine RD.nu 11 8191 b0 rfl .plain rfl (AC [.bool false,vN] I0) fun j1 p0 j0 d0=>?_
 obtain ⟨z4,j3⟩:=AH j0 (.a1 (.a0 (.a0 (.a0 (.a0 .done)))))
 have C3:=Tt c0 (Tt J0 (Tt d0 j3))
 exact v0 (G1,P0,k0,p0) z4 (Tt z0 C3) ⟨(Aw D1 C3),(Aw K0 (Tt d0 j3))⟩
 refine RO.new (m' :=7167) (sk b0) rfl .plain rfl (AC [.bool false,vN] g0) fun j1 p0 j0 d0=>?_
 have u0:=Tt z0 (Tt c0 d0)
 have R0:=Aw B0 u0
 refine RD.cl 10 8191 b0 rfl .plain (bd 95) rfl (e2 rfl rfl) (fun w9 hw9=>ab_c n (j0.hL hL hw9) (Ax R0 hw9) D0) rfl fun Y1 X1 A0 ⟨F0,hu_,C0⟩=>?_
 subst hu_
 obtain ⟨y0,t0⟩:=j0.agr A0
 obtain ⟨A4,k3⟩:=AH y0 (.a1 (.a0 (.a0 (.a0 (.a0 .done)))))
 have D3:=Tt c0 (Tt d0 (Tt t0 k3))
 exact v0 (G1,F0,k0,p0) A4 (Tt z0 D3) ⟨(Aw D1 D3),(Aw C0 k3)⟩
 refine RO.new (m' :=3007) (sk b0) rfl .plain rfl (AC [.bool false,vN] Z0) fun j1 p0 j0 d0=>RD.each [6,12] (rk b0) ⟨?_,?_,trivial⟩
 have P1:=Aw R1 d0
 refine RO.call (m' :=3071) (fst:=[]) (cap:=[]) (sk b0) rfl .plain (bd 95) rfl (e2 rfl rfl) (fun w9 hw9=>ab_c n (j0.hL hL hw9) (Ax P1 hw9) U1) rfl fun I2 H2 u1 ⟨X0,hu_,U0⟩=>?_
 subst hu_
 obtain ⟨q0,s0⟩:=j0.agr u1
 refine RD.each [10,12] (rk b0) ⟨?_,?_,trivial⟩
 have v1:=Aw B0 (Tt d0 s0)
 refine RO.call (m' :=4095) (fst:=[]) (cap:=[]) (sk b0) rfl .plain (bd 95) rfl (e2 rfl rfl) (fun w9 hw9=>ab_c n (q0.hL hL hw9) (Ax v1 hw9) D0) rfl fun y2 x2 Q0 ⟨P0,hu_,K0⟩=>?_
 subst hu_
 obtain ⟨I0,J0⟩:=q0.agr Q0
 refine RD.nu 12 8191 b0 rfl .plain rfl (AC [.bool false,vN] I0) fun g1 k0 g0 c0=>?_
 obtain ⟨B4,p3⟩:=AH g0 (.a0 (.a0 (.a0 (.a0 (.a0 .done)))))
 have E3:=Tt J0 (Tt c0 p3)
 exact v0 (X0,P0,k0,p0) B4 (Tt d0 (Tt s0 E3)) ⟨(Aw U0 E3),(Aw K0 (Tt c0 p3))⟩
 refine RO.new (m' :=7167) (sk b0) rfl .plain rfl (AC [.bool false,vN] q0) fun g1 k0 g0 c0=>?_
 have u0:=Tt d0 (Tt s0 c0)
 have R0:=Aw B0 u0
 refine RD.cl 10 8191 b0 rfl .plain (bd 95) rfl (e2 rfl rfl) (fun w9 hw9=>ab_c n (g0.hL hL hw9) (Ax R0 hw9) D0) rfl fun Y1 X1 A0 ⟨F0,hu_,C0⟩=>?_
 subst hu_
 obtain ⟨y0,t0⟩:=g0.agr A0
 obtain ⟨C4,q3⟩:=AH y0 (.a0 (.a0 (.a0 (.a0 (.a0 .done)))))
 have F3:=Tt c0 (Tt t0 q3)
 exact v0 (X0,F0,k0,p0) C4 (Tt d0 (Tt s0 F3)) ⟨(Aw U0 F3),(Aw C0 q3)⟩
 refine RO.new (m' :=7103) (sk b0) rfl .plain rfl (AC [.bool false,vN] j0) fun g1 k0 g0 c0=>?_
 have P1:=Aw R1 (Tt d0 c0)
 refine RD.cl 6 7167 b0 rfl .plain (bd 95) rfl (e2 rfl rfl) (fun w9 hw9=>ab_c n (g0.hL hL hw9) (Ax P1 hw9) U1) rfl fun I2 H2 u1 ⟨X0,hu_,U0⟩=>?_
 subst hu_
 obtain ⟨q0,s0⟩:=g0.agr u1
 have u0:=Tt d0 (Tt c0 s0)
 have R0:=Aw B0 u0
 refine RD.cl 10 8191 b0 rfl .plain (bd 95) rfl (e2 rfl rfl) (fun w9 hw9=>ab_c n (q0.hL hL hw9) (Ax R0 hw9) D0) rfl fun Y1 X1 A0 ⟨F0,hu_,C0⟩=>?_
 subst hu_
 obtain ⟨y0,t0⟩:=q0.agr A0
 obtain ⟨D4,E2⟩:=AH y0 (.a0 (.a0 (.a0 (.a0 (.a0 .done)))))
 exact v0 (X0,F0,k0,p0) D4 (Tt u0 (Tt t0 E2)) ⟨(Aw U0 (Tt t0 E2)),(Aw C0 E2)⟩
 refine RO.new (m' :=5055) (sk b0) rfl .plain rfl (AC [.bool false,vN] Z0) fun g1 k0 g0 c0=>RD.each [6,11] (rk b0) ⟨?_,?_,trivial⟩
 have P1:=Aw R1 c0
 refine RO.call (m' :=5119) (fst:=[]) (cap:=[]) (sk b0) rfl .plain (bd 95) rfl (e2 rfl rfl) (fun w9 hw9=>ab_c n (g0.hL hL hw9) (Ax P1 hw9) U1) rfl fun I2 H2 u1 ⟨X0,hu_,U0⟩=>?_
 subst hu_
 obtain ⟨q0,s0⟩:=g0.agr u1
 refine RD.each [10,11] (rk b0) ⟨?_,?_,trivial⟩
 refine RO.call (m' :=6143) (fst:=[]) (cap:=[]) (sk b0) rfl .plain (bd 95) rfl (e2 rfl rfl) (fun w9 hw9=>ab_c n (q0.hL hL hw9) (Ax (Aw B0 (Tt c0 s0)) hw9) D0) rfl fun y2 x2 Q0 ⟨P0,hu_,K0⟩=>?_
 subst hu_
 obtain ⟨I0,J0⟩:=q0.agr Q0
 refine RD.nu 11 8191 b0 rfl .plain rfl (AC [.bool false,vN] I0) fun j1 p0 j0 d0=>?_
 obtain ⟨E4,s3⟩:=AH j0 (.a1 (.a0 (.a0 (.a0 (.a0 .done)))))
 have G3:=Tt J0 (Tt d0 s3)
 exact v0 (X0,P0,k0,p0) E4 (Tt c0 (Tt s0 G3)) ⟨(Aw U0 G3),(Aw K0 (Tt d0 s3))⟩
 refine RO.new (m' :=7167) (sk b0) rfl .plain rfl (AC [.bool false,vN] q0) fun j1 p0 j0 d0=>?_
 have u0:=Tt c0 (Tt s0 d0)
 have R0:=Aw B0 u0
 refine RD.cl 10 8191 b0 rfl .plain (bd 95) rfl (e2 rfl rfl) (fun w9 hw9=>ab_c n (j0.hL hL hw9) (Ax R0 hw9) D0) rfl fun Y1 X1 A0 ⟨F0,hu_,C0⟩=>?_
 subst hu_
 obtain ⟨y0,t0⟩:=j0.agr A0
 obtain ⟨F4,u3⟩:=AH y0 (.a1 (.a0 (.a0 (.a0 (.a0 .done)))))
 have H3:=Tt d0 (Tt t0 u3)
 exact v0 (X0,F0,k0,p0) F4 (Tt c0 (Tt s0 H3)) ⟨(Aw U0 H3),(Aw C0 u3)⟩
 refine RO.new (m' :=7103) (sk b0) rfl .plain rfl (AC [.bool false,vN] g0) fun j1 p0 j0 d0=>RD.cl 6 7167 b0 rfl .plain (bd 95) rfl (e2 rfl rfl) (fun w9 hw9=>ab_c n (j0.hL hL hw9) (Ax (Aw R1 (Tt c0 d0)) hw9) U1) rfl fun I2 H2 u1 ⟨X0,hu_,U0⟩=>?_
 subst hu_
 obtain ⟨q0,s0⟩:=j0.agr u1
 have u0:=Tt c0 (Tt d0 s0)
 refine RD.cl 10 8191 b0 rfl .plain (bd 95) rfl (e2 rfl rfl) (fun w9 hw9=>ab_c n (q0.hL hL hw9) (Ax (Aw B0 u0) hw9) D0) rfl fun Y1 X1 A0 ⟨F0,hu_,C0⟩=>?_
 subst hu_
 obtain ⟨y0,t0⟩:=q0.agr A0
 obtain ⟨G4,F2⟩:=AH y0 (.a1 (.a0 (.a0 (.a0 (.a0 .done)))))
 exact v0 (X0,F0,k0,p0) G4 (Tt u0 (Tt t0 F2)) ⟨(Aw U0 (Tt t0 F2)),(Aw C0 F2)⟩
def aA_l1 (_n:Nat) (a1:List Int) (c0:Nat) (a0:List Int) (q0:UInt64 × Nat × (List Int) -> Option ((List Int) × UInt64)):UInt64 × Nat × (List Int) -> Option ((List Int) × UInt64)
  | (d0,b0,g0)=>(if b0 < a1.length then (g0[c0 + b0]?).bind fun j0=>(a0[c0]?).bind fun k0=>(a1[b0]?).bind fun p0=>(put g0 ((c0 + b0:Nat):Int) (ab (((d0 + (ac j0)) + ((ac k0) * (ac p0))) % (4294967296:UInt64)))).bind fun s0=>q0 (((d0 + (ac j0)) + ((ac k0) * (ac p0))) / (4294967296:UInt64),b0 + 1,s0) else some (g0,d0))
def aA_l2 (n:Nat) (a0:List Int) (a1:List Int) (g0:Nat × (List Int) -> Option (List Int)):Nat × (List Int) -> Option (List Int)
  | (b0,c0)=>(if b0 < a0.length then Option.bind (ae (aA_l1 n a1 b0 a0) n (0,0,c0)) (fun (d0,j0)=>(d0[b0 + a1.length]?).bind fun _x537=>(put d0 ((b0 + a1.length:Nat):Int) (ab j0)).bind fun k0=>g0 (b0 + 1,k0)) else some c0)
def aA_p (n:Nat) (a0:List Int) (a1:List Int):Option (List Int):=
  (mk ((a0.length + a1.length:Nat):Int) (0:Int)).bind fun b0=>Option.bind (ae (aA_l2 n a0 a1) n (0,b0)) (fun c0=>(aj_p n c0).bind fun d0=>some d0)
theorem aA_c (n:Nat) {L w} (hL:hl L w) {a0:List Int} {v0_0:Value} (h0_0:Rep.R w L [v0_0] a0) {a1:List Int} {v1_0:Value} (h1_0:Rep.R w L [v1_0] a1)  {r:List Int} (h:aA_p n a0 a1 = some r) :
 Cl 98 #[v0_0,v1_0] w (ah w fun w' u=>∃ v0_0:Value,u = v0_0/\Rep.R w' L [v0_0] r):=by
 unfold aA_p at h
 refine AG func98 rfl rfl rfl fun _ cs0 hb0=>Af<|Ae rfl<|Aa<|Af<|Ac rfl ?_
 have hl1:a0.length <= 281474976710656:=AY h0_0
 refine Ab (Bh (xs:=a0) underlying41 rfl h0_0)<|Ac rfl ?_
 have hl2:a1.length <= 281474976710656:=AY h1_0
 refine Ab (Bh (xs:=a1) underlying41 rfl h1_0)<|Ab (AW (i:=a0.length) (j:=a1.length) rfl rfl (by omega))<|bk h fun V0 Q0 h=>Au .plain rfl (Does.mk (α:=Int) Q0 (AF w) ar rfl) fun V2 x0 G0 J2=>Ae rfl<|Aa<|Aj<|Af<|Ae rfl<|Aa<|Ar ?_
 obtain ⟨Q2,W1,K1⟩:=aj h
 refine MX.lf (α:=Nat × (List Int) × (List Value)) (fun ⟨d0,k0,p0⟩=>[(0,v0_0),(1,v1_0),(5,(.slice (some ⟨x0,0,none⟩) ((a0.length + a1.length:Nat):Int).toNat ((a0.length + a1.length:Nat):Int).toNat)),(6,vI ((d0:Nat):Int))]) (fun ⟨d0,k0,p0⟩=>[rr w 3 Int (.slice (some ⟨x0,0,none⟩) ((a0.length + a1.length:Nat):Int).toNat ((a0.length + a1.length:Nat):Int).toNat) k0.length p0]) (fun ⟨d0,k0,p0⟩ R0=>Cells R0 (bl [rr w 3 Int (.slice (some ⟨x0,0,none⟩) ((a0.length + a1.length:Nat):Int).toNat ((a0.length + a1.length:Nat):Int).toNat) k0.length p0] ++ L) p0 k0) (fun ⟨d0,k0,p0⟩=>(d0,k0)) (0,V0,(List.replicate ((a0.length + a1.length:Nat):Int).toNat [vI 0]).flatten) W1 G0 (AE (cs:=(List.replicate ((a0.length + a1.length:Nat):Int).toNat [vI 0]).flatten) (xs:=V0) G0 L (Cells.mk Q0 rfl)) ?_
 rintro B2 ⟨d0,k0,p0⟩ R0 s1 z0 y1 J0 h
 unfold aA_l2 at h
 try dsimp only at h
 refine Aj<|Af<|Ac rfl<|Ac rfl<|Ab (Bh (xs:=a0) underlying41 rfl (Be h0_0 z0))<|Ab (Bq (i:=d0) (j:=a0.length) rfl rfl)<|Aa<|AN rfl h (fun b1 h=>?_) (fun b1 h=>?_)
 refine Ao<|Aj<|Ar<|Af<|Ae rfl<|Aa<|Aj<|Af<|Ae rfl<|Aa<|Ar ?_
 obtain ⟨R2,X1,M1⟩:=aj h
 refine MX.lf (α:=UInt64 × Nat × (List Int) × (List Value)) (fun ⟨j0,g0,v0,y0⟩=>[(0,v0_0),(1,v1_0),(5,(.slice (some ⟨x0,0,none⟩) ((a0.length + a1.length:Nat):Int).toNat ((a0.length + a1.length:Nat):Int).toNat)),(6,vI ((d0:Nat):Int)),(7,vU j0),(8,vI ((g0:Nat):Int))]) (fun ⟨j0,g0,v0,y0⟩=>[rr w 3 Int (.slice (some ⟨x0,0,none⟩) ((a0.length + a1.length:Nat):Int).toNat ((a0.length + a1.length:Nat):Int).toNat) v0.length y0]) (fun ⟨j0,g0,v0,y0⟩ U0=>Cells U0 (bl [rr w 3 Int (.slice (some ⟨x0,0,none⟩) ((a0.length + a1.length:Nat):Int).toNat ((a0.length + a1.length:Nat):Int).toNat) v0.length y0] ++ L) y0 v0) (fun ⟨j0,g0,v0,y0⟩=>(j0,g0,v0)) (0,0,k0,p0) X1 z0 J0 ?_
 rintro C2 ⟨j0,g0,v0,y0⟩ U0 u1 q0 I0 A0 h
 unfold aA_l1 at h
 try dsimp only at h
 refine Aj<|Af<|Ac rfl<|Ac rfl ?_
 have F0:=Be h1_0 q0
 refine Ab (Bh (xs:=a1) underlying41 rfl F0)<|Ab (Bq (i:=g0) (j:=a1.length) rfl rfl)<|Aa<|AN rfl h (fun c1 h=>?_) (fun c1 h=>?_)
 refine Ao<|Aj<|Ar<|Aj<|du 22 fun b0 c0=>Rv 0 b0 rfl c0 (fun _=>Ag rfl)<|Rv 1 b0 rfl c0 (fun _=>Ag rfl)<|Rv 2 b0 rfl c0 (fun _=>Ag rfl)<|Rv 3 b0 rfl c0 (fun _=>Ag rfl)<|Rv 4 b0 rfl c0 (fun _=>AW (i:=d0) (j:=g0) rfl rfl (by omega))<|bk h fun s0 g2 h=>?_
 obtain ⟨W0,D2,B0,E0,d1,Y1,R1⟩:=St.nth (α:=Int) q0 .hd A0 g2
 obtain ⟨Y0,E2,K0⟩:=St.nthOwn (α:=Int) q0 .hd E0
 obtain rfl:W0 = ⟨Y0,0,none⟩:=by rw [K0] at B0; cases B0; rfl
 have E1:d1 = [vI s0]:=Y1; subst E1
 refine Rv 5 b0 rfl c0 (fun _=>Bk 1 (d0 + g0) rfl B0 rfl rfl E0)<|Rx 6 3146112 b0 rfl c0 (AM rfl (R1 0 _ rfl))<|Rv 7 b0 rfl c0 (fun _=>FV.convU (i:=s0) underlying3 underlying26 rfl)<|Rv 8 b0 rfl c0 (fun _=>FV.addU (a:=j0) (b:=ac s0) rfl rfl)<|Rv 9 b0 rfl c0 (fun _=>Ag rfl)<|Rv 10 b0 rfl c0 (fun _=>Ag rfl)<|bk h fun t0 j2 h=>?_
 obtain ⟨z2,F2,F1,P1,g1,Z1,U1⟩:=Bm (Be h0_0 q0) j2
 have G1:g1 = [vI t0]:=Z1; subst G1
 refine Rv 11 b0 rfl c0 (fun _=>Bk 1 d0 rfl F1 rfl rfl P1)<|Rx 12 3678208 b0 rfl c0 (AM rfl (U1 0 _ rfl))<|Rv 13 b0 rfl c0 (fun _=>FV.convU (i:=t0) underlying3 underlying26 rfl)<|Rv 14 b0 rfl c0 (fun _=>Ag rfl)<|Rv 15 b0 rfl c0 (fun _=>Ag rfl)<|bk h fun u0 k2 h=>?_
 obtain ⟨A2,G2,H1,Q1,j1,b2,V1⟩:=Bm F0 k2
 have I1:j1 = [vI u0]:=b2; subst I1
 refine Rv 16 b0 rfl c0 (fun _=>Bk 1 g0 rfl H1 rfl rfl Q1)<|Rx 17 3932160 b0 rfl c0 (AM rfl (V1 0 _ rfl))<|Rv 18 b0 rfl c0 (fun _=>FV.convU (i:=u0) underlying3 underlying26 rfl)<|Rv 19 b0 rfl c0 (fun _=>FV.mulU (a:=ac t0) (b:=ac u0) rfl rfl)<|Rv 20 b0 rfl c0 (fun _=>FV.addU (a:=j0 + (ac s0)) (b:=(ac t0) * (ac u0)) rfl rfl)<|Rv 21 b0 rfl c0 (fun _=>Ba rfl)<|AZ (dk b0)<|Af<|Ac rfl<|Ac rfl<|Ac rfl<|Ab (AW (i:=d0) (j:=g0) rfl rfl (by omega))<|Ac rfl<|Ab (FV.remU (a:=(j0 + (ac s0)) + ((ac t0) * (ac u0))) (b:=(4294967296:UInt64)) rfl rfl (by decide))<|Ab (FV.convUI (a:=((j0 + (ac s0)) + ((ac t0) * (ac u0))) % (4294967296:UInt64)) underlying26 underlying3 rfl)<|Ab (Bk 1 (d0 + g0) rfl B0 rfl rfl E0)<|bk h fun x2 q2 h=>RG.acts' .plain (Acts.set (α:=Int) (i:=d0 + g0) q2 q0 K0 (fun _=>.hd) A0 rfl rfl rfl rfl rfl rfl) fun W2 ⟨k1,v1,z1,C1⟩=>Aa<|Ak<|Ac rfl<|Ab (FV.quoU (a:=(j0 + (ac s0)) + ((ac t0) * (ac u0))) (b:=(4294967296:UInt64)) rfl rfl (by decide))<|Ae rfl<|Aa<|Ap<|Ak<|Ac rfl<|Ab (AW (i:=g0) (j:=1) rfl rfl (by omega))<|Ae rfl<|Aa<|u1 (((j0 + (ac s0)) + ((ac t0) * (ac u0))) / (4294967296:UInt64),g0 + 1,x2,k1) v1 (Tt I0 z1) C1 h
 refine AV rfl ?_
 have h:=M1 _ h
 try dsimp only at h
 refine Ak<|Ac rfl<|Ac rfl<|Ac rfl<|Ab (Bh (xs:=a1) underlying41 rfl F0)<|Ab (AW (i:=d0) (j:=a1.length) rfl rfl (by omega))<|Ac rfl<|Ab (FV.convUI (a:=j0) underlying26 underlying3 rfl)<|bk h fun v2 p2 h=>?_
 obtain ⟨X0,H2,D0,P0,p1,c2,P2⟩:=St.nth (α:=Int) q0 .hd A0 p2
 obtain ⟨Z0,I2,M0⟩:=St.nthOwn (α:=Int) q0 .hd P0
 obtain rfl:X0 = ⟨Z0,0,none⟩:=by rw [M0] at D0; cases D0; rfl
 have J1:p1 = [vI v2]:=c2; subst J1
 refine Ab (Bk 1 (d0 + a1.length) rfl D0 rfl rfl P0)<|bk h fun y2 s2 h=>RG.acts' .plain (Acts.set (α:=Int) (i:=d0 + a1.length) s2 q0 M0 (fun _=>.hd) A0 rfl rfl rfl rfl rfl rfl) fun X2 ⟨q1,x1,A1,D1⟩=>Aa<|Ap<|Ak<|Ac rfl<|Ab (AW (i:=d0) (j:=1) rfl rfl (by omega))<|Ae rfl<|Aa<|s1 (d0 + 1,y2,q1) x1 (Tt y1 (Tt I0 A1)) D1 h
 refine AV rfl ?_
 have h:=K1 _ h
 try dsimp only at h
 refine Af<|Ac rfl ?_
 have C0:=Bt z0 .hd
 have K2:=Bu z0 .hd
 refine bk h fun Z2 t2 h=>jE (bd 108) rfl (e1 rfl) (fun w9 hw9=>aj_c n (C0.hL hL hw9) (Ax (Bv (α:=Int) (v:=(.slice (some ⟨x0,0,none⟩) ((a0.length + a1.length:Nat):Int).toNat ((a0.length + a1.length:Nat):Int).toNat)) (xs:=k0) C0 L (Bf (α:=Int) z0 .hd J0 hL)) hw9) t2) rfl fun Y2 u2 B1 ⟨U2,hu_,d2⟩=>?_
 subst hu_
 obtain ⟨H0,M2⟩:=C0.agr B1
 refine Ae rfl<|Aa<|Aq rfl<|AQ hb0 func98 rfl rfl ?_
 cases h
 exact ⟨H0.ag,fun w9 hw9=>⟨u2,rfl,H0.kd d2 hw9⟩⟩
def aG_p (n:Nat) (a0:Tc) (a1:Tc):Option Tc:=
  (aA_p n a0.fD a1.fD).bind fun b0=>(ab_p n (!(a0.fe == a1.fe)) b0).bind fun c0=>some c0
theorem aG_c (n:Nat) {L w} (hL:hl L w) (a0:Tc) {v0_1:Value} (h0_1:Rep.R w L [v0_1] a0.fD) (a1:Tc) {v1_1:Value} (h1_1:Rep.R w L [v1_1] a1.fD)  {r:Tc} (h:aG_p n a0 a1 = some r) :
 Cl 76 #[.agg #[.bool a0.fe,v0_1],.agg #[.bool a1.fe,v1_1]] w (ah w fun w' u=>∃ v0_1:Value,u = .agg #[.bool r.fe,v0_1]/\Rep.R w' L [v0_1] r.fD):=by
 unfold aG_p at h
 refine AG func76 rfl rfl rfl fun _ cs0 hb0=>Af<|RG.bx (AF w) rfl rfl fun Q0 C0 s0 F0=>RG.bx s0 rfl rfl fun R0 D0 t0 G0=>RG.nl [.bool false,vN] t0 fun U0 E0 d0 H0=>Aa<|Aj<|du 11 fun b0 c0=>Rv 0 b0 rfl c0 (fun _=>BB 0 rfl)<|Rx 1 3088 b0 rfl c0 (AM rfl ((d0.memA .t2) 0 _ rfl))<|Rv 2 b0 rfl c0 (fun _=>BB 0 rfl)<|Rx 3 3088 b0 rfl c0 (AM rfl ((d0.memA .t1) 0 _ rfl))<|Rv 4 b0 rfl c0 (fun _=>FV.neqB (a:=a0.fe) (b:=a1.fe) underlying4 rfl rfl)<|Rv 5 b0 rfl c0 (fun _=>BB 1 rfl)<|Rx 6 3584 b0 rfl c0 (AM rfl ((d0.memA .t2) 1 _ rfl))<|Rv 7 b0 rfl c0 (fun _=>BB 1 rfl)<|Rx 8 3584 b0 rfl c0 (AM rfl ((d0.memA .t1) 1 _ rfl))<|bk h fun Y0 A0 h=>RD.cl 9 1023 b0 rfl .plain (bd 98) rfl (e2 rfl rfl) (fun w9 hw9=>aA_c n (d0.hL hL hw9) (d0.km h0_1 hw9) (d0.km h1_1 hw9) A0) rfl fun V0 M0 x0 ⟨K0,hu_,z0⟩=>?_
 subst hu_
 obtain ⟨k0,I0⟩:=d0.agr x0
 refine bk h fun q0 B0 h=>RD.cl 10 2047 b0 rfl .plain (bd 95) rfl (e2 rfl rfl) (fun w9 hw9=>ab_c n (k0.hL hL hw9) (Ax z0 hw9) B0) rfl fun W0 P0 y0 ⟨j0,hu_,p0⟩=>?_
 subst hu_
 obtain ⟨u0,J0⟩:=k0.agr y0
 refine RD.nw 11 4095 b0 rfl rfl .plain (AP (news:=[.bool q0.fe,j0]) u0 .hd rfl rfl rfl rfl rfl rfl (o2 rfl (By p0))) fun X0 g0 v0=>AZ (dk b0)<|Aq rfl<|Av hb0 func76 rfl (.cons (.many (cs:=[.bool q0.fe,j0]) rfl rfl (g0.memA .hd)) .nil) rfl ?_
 cases h
 exact ⟨g0.ag,fun w9 hw9=>⟨j0,rfl,g0.kd (Aw p0 v0) hw9⟩⟩
def aK_l1 (n:Nat) (a1:Int) (a0:Tc) (j0:Int × Bool × (List Int) -> Option (Bool × (List Int))):Int × Bool × (List Int) -> Option (Bool × (List Int))
  | (g0,b0,c0)=>(if g0 < a1 then (aG_p n (⟨b0,c0⟩:Tc) a0).bind fun d0=>(chk (g0 + 1)).bind fun k0=>j0 (k0,d0.fe,d0.fD) else some (b0,c0))
def aK_p (n:Nat) (a0:Tc) (a1:Int):Option Tc:=
  (ak_p n (1:Int)).bind fun b0=>Option.bind (ae (aK_l1 n a1 a0) n (0,b0.fe,b0.fD)) (fun (c0,d0)=>some (⟨c0,d0⟩:Tc))
theorem aK_c (n:Nat) {L w} (hL:hl L w) (a0:Tc) {v0_1:Value} (h0_1:Rep.R w L [v0_1] a0.fD) {a1:Int}  {r:Tc} (h:aK_p n a0 a1 = some r) :
 Cl 74 #[.agg #[.bool a0.fe,v0_1],vI a1] w (ah w fun w' u=>∃ v0_1:Value,u = .agg #[.bool r.fe,v0_1]/\Rep.R w' L [v0_1] r.fD):=by
 unfold aK_p at h
 refine AG func74 rfl rfl rfl fun _ cs0 hb0=>Af<|RG.bx (AF w) rfl rfl fun z1 k0 I0 k1=>RG.nl [.bool false,vN] I0 fun A1 p0 x0 p1=>Aa<|Af<|bk h fun u0 c1 h=>jE (bd 75) rfl (e1 rfl) (fun w9 hw9=>ak_c n (x0.hL hL hw9)  c1) rfl fun B1 u1 W0 ⟨C0,hu_,B0⟩=>?_
 subst hu_
 obtain ⟨J0,q1⟩:=x0.agr W0
 refine RG.nl [.bool false,vN] J0 fun C1 q0 K0 z0=>AX [.bool u0.fe,C0] K0 .hd (o2 rfl (By (Aw B0 z0))) fun D1 M0 R0=>Aa<|Aj<|Af<|Ae rfl<|Aa<|Ar ?_
 obtain ⟨s1,Z0,Y0⟩:=aj h
 refine MX.lf (α:=Int × Bool × (List Int) × Value) (fun ⟨d0,b0,j0,c0⟩=>[(1,vI a1),(2,vP k0),(4,vP p0),(5,vP q0),(6,vI d0)]) (fun ⟨d0,b0,j0,c0⟩=>[.cells q0 [.bool b0,c0] 121,.cells p0 [.bool false,vN] 121,.cells k0 [.bool a0.fe,v0_1] 121]) (fun ⟨d0,b0,j0,c0⟩ E0=>Rep.R E0 (bl [.cells q0 [.bool b0,c0] 121,.cells p0 [.bool false,vN] 121,.cells k0 [.bool a0.fe,v0_1] 121] ++ L) [c0] j0) (fun ⟨d0,b0,j0,c0⟩=>(d0,b0,j0)) (0,u0.fe,u0.fD,C0) Z0 M0 (Aw B0 (Tt z0 R0)) ?_
 rintro j1 ⟨d0,b0,j0,c0⟩ E0 G0 g0 U0 t0 h
 unfold aK_l1 at h
 try dsimp only at h
 refine Aj<|Af<|Ac rfl<|Ac rfl<|Ab (FV.lss (i:=d0) (j:=a1) rfl rfl)<|Aa<|AN rfl h (fun F0 h=>?_) (fun F0 h=>?_)
 refine Ao<|Aj<|Ar<|Ak<|Ab (AK rfl (g0.memA .hd))<|Ab (AK rfl (g0.memA .t2))<|bk h fun v0 d1 h=>jE (bd 76) rfl (e2 rfl rfl) (fun w9 hw9=>aG_c n (g0.hL hL hw9) (⟨b0,j0⟩:Tc) (Ax t0 hw9) a0 (g0.km h0_1 hw9) d1) rfl fun E1 v1 X0 ⟨D0,hu_,A0⟩=>?_
 subst hu_
 obtain ⟨P0,V0⟩:=g0.agr X0
 refine AX [.bool v0.fe,D0] P0 .hd (o2 rfl (By A0)) fun x1 H0 y0=>Aa<|Ap<|Ak<|Ac rfl<|bk h fun g1 b1 h=>Ab (Bp (i:=d0) (j:=1) rfl rfl b1)<|Ae rfl<|Aa<|G0 (g1,v0.fe,v0.fD,D0) H0 (Tt U0 (Tt V0 y0)) (Aw A0 y0) h
 refine AV rfl ?_
 have h:=Y0 _ h
 try dsimp only at h
 refine Af<|Ab (AK rfl (g0.memA .hd))<|AX [.bool b0,c0] g0 .t1 (o2 rfl (By t0)) fun y1 s0 Q0=>Aa<|Aq rfl<|Av hb0 func74 rfl (.cons (.many (cs:=[.bool b0,c0]) rfl rfl (s0.memA .t1)) .nil) rfl ?_
 cases h
 exact ⟨s0.ag,fun w9 hw9=>⟨c0,rfl,s0.kd (Aw t0 Q0) hw9⟩⟩
def bf_p (_n:Nat) (a0:Ta):Option (UInt64 × Ta):=
  (some ((a0.fc + (11400714819323198485:UInt64)) ^^^ ((a0.fc + (11400714819323198485:UInt64)) / (1073741824:UInt64)))).bind fun b0=>(some ((b0 * (13787848793156543929:UInt64)) ^^^ ((b0 * (13787848793156543929:UInt64)) / (134217728:UInt64)))).bind fun c0=>(some ((c0 * (10723151780598845931:UInt64)) ^^^ ((c0 * (10723151780598845931:UInt64)) / (2147483648:UInt64)))).bind fun d0=>some (d0,(⟨a0.fc + (11400714819323198485:UInt64)⟩:Ta))
theorem bf_c (n:Nat) {L w} (_hL:hl L w) (a0:Ta)  {r:UInt64 × Ta} (h:bf_p n a0 = some r) :
 Cl 77 #[.agg #[vU a0.fc]] w (ah w fun _ u=>u = .tuple #[vU r.1,.agg #[vU r.2.fc]]):=by
 unfold bf_p at h
 refine AG func77 rfl rfl rfl fun _ cs0 hb0=>Af<|RG.bx (AF w) rfl rfl fun z0 s0 j0 u0=>Ae rfl<|RG.nl [vW 0] j0 fun A0 t0 d0 v0=>Aa<|Af<|AT 0 rfl<|AA rfl ((d0.memA .t1) 0 _ rfl)<|Ab (FV.addU (a:=a0.fc) (b:=(11400714819323198485:UInt64)) rfl rfl)<|Ae rfl<|Aa<|Af<|Ac rfl<|Ae rfl<|Aa<|Af<|Ac rfl<|Ac rfl<|Ab (FV.quoU (a:=a0.fc + (11400714819323198485:UInt64)) (b:=(1073741824:UInt64)) rfl rfl (by decide))<|bk h fun b0 k0 h=>Ab (FV.as (FV.xorU (a:=a0.fc + (11400714819323198485:UInt64)) (b:=(a0.fc + (11400714819323198485:UInt64)) / (1073741824:UInt64)) rfl rfl) (congrArg (fun z:UInt64=>Value.int .u64 (z.toNat:Int)) (Option.some.inj k0)))<|Ab (FV.mulU (a:=b0) (b:=(13787848793156543929:UInt64)) rfl rfl)<|Ae rfl<|Aa<|Af<|Ac rfl<|Ac rfl<|Ab (FV.quoU (a:=b0 * (13787848793156543929:UInt64)) (b:=(134217728:UInt64)) rfl rfl (by decide))<|bk h fun c0 p0 h=>Ab (FV.as (FV.xorU (a:=b0 * (13787848793156543929:UInt64)) (b:=(b0 * (13787848793156543929:UInt64)) / (134217728:UInt64)) rfl rfl) (congrArg (fun z:UInt64=>Value.int .u64 (z.toNat:Int)) (Option.some.inj p0)))<|Ab (FV.mulU (a:=c0) (b:=(10723151780598845931:UInt64)) rfl rfl)<|Ae rfl<|Aa<|Af<|Ac rfl<|Ac rfl<|Ab (FV.quoU (a:=c0 * (10723151780598845931:UInt64)) (b:=(2147483648:UInt64)) rfl rfl (by decide))<|bk h fun y0 q0 h=>Ab (FV.as (FV.xorU (a:=c0 * (10723151780598845931:UInt64)) (b:=(c0 * (10723151780598845931:UInt64)) / (2147483648:UInt64)) rfl rfl) (congrArg (fun z:UInt64=>Value.int .u64 (z.toNat:Int)) (Option.some.inj q0)))<|Ac rfl<|Ab (AL (vs:=[vW ((a0.fc + (11400714819323198485:UInt64)).toNat:Int)]) (u:=.agg #[vW ((a0.fc + (11400714819323198485:UInt64)).toNat:Int)]) (e1 rfl) (fun w9=>by kernel_rfl))<|Ae rfl<|RG.now .plain (AP (news:=[vW ((a0.fc + (11400714819323198485:UInt64)).toNat:Int)]) d0 .hd rfl rfl rfl rfl rfl (.refl 1) (o1 rfl)) fun B0 g0 x0=>?_
 refine Aa<|Aq rfl<|Av hb0 func77 rfl (.cons (.tmp rfl) (.cons (.many (cs:=[vW ((a0.fc + (11400714819323198485:UInt64)).toNat:Int)]) rfl rfl (g0.memA .hd)) .nil)) rfl ?_
 cases h
 exact g0.gv
def aY_p (n:Nat) (a0:Tc) (a1:Tc):Option Int:=
  (aT_p n a0 a1).bind fun b0=>(if b0.fe = true then some (-1:Int) else (if 0 < b0.fD.length then some (1:Int) else some (0:Int)))
theorem aY_c (n:Nat) {L w} (hL:hl L w) (a0:Tc) {v0_1:Value} (h0_1:Rep.R w L [v0_1] a0.fD) (a1:Tc) {v1_1:Value} (h1_1:Rep.R w L [v1_1] a1.fD)  {r:Int} (h:aY_p n a0 a1 = some r) :
 Cl 78 #[.agg #[.bool a0.fe,v0_1],.agg #[.bool a1.fe,v1_1]] w (ah w fun _ u=>u = vI r):=by
 unfold aY_p at h
 refine AG func78 rfl rfl rfl fun _ cs0 hb0=>Af<|RG.bx (AF w) rfl rfl fun I0 A0 s0 D0=>RG.bx s0 rfl rfl fun J0 B0 b0 E0=>Ae rfl<|Aa<|Af<|Ab (AK rfl (b0.memA .t1))<|Ab (AK rfl (b0.memA .hd))<|bk h fun d0 y0 h=>jE (bd 97) rfl (e2 rfl rfl) (fun w9 hw9=>aT_c n (b0.hL hL hw9) a0 (b0.km h0_1 hw9) a1 (b0.km h1_1 hw9) y0) rfl fun K0 H0 x0 ⟨z0,hu_,k0⟩=>?_
 subst hu_
 obtain ⟨t0,F0⟩:=b0.agr x0
 refine RG.nl [.bool false,vN] t0 fun M0 C0 u0 g0=>AX [.bool d0.fe,z0] u0 .hd (o2 rfl (By (Aw k0 g0))) fun P0 c0 v0=>Aa<|Aj<|Af<|AT 0 rfl<|AA rfl ((c0.memA .hd) 0 _ rfl)<|Aa<|MX.ifb rfl h (fun p0 h=>?_) (fun p0 h=>?_)
 refine Af<|Ae rfl<|Aa<|Aq rfl<|AQ hb0 func78 rfl rfl ?_
 cases h
 exact c0.gv
 refine Ao<|Aj<|Af<|AT 1 rfl<|AA rfl ((c0.memA .hd) 1 _ rfl) ?_
 have j0:=Aw k0 (Tt g0 v0)
 have G0:d0.fD.length <= 281474976710656:=AY j0
 refine Ab (Bh (xs:=d0.fD) underlying41 rfl j0)<|Ab (FV.gtrN (i:=d0.fD.length) (j:=0) rfl rfl)<|Aa<|AN rfl h (fun q0 h=>?_) (fun q0 h=>?_)
 refine Af<|Ae rfl<|Aa<|Aq rfl<|AQ hb0 func78 rfl rfl ?_
 cases h
 exact c0.gv
 refine Ao<|Af<|Ae rfl<|Aa<|Aq rfl<|AQ hb0 func78 rfl rfl ?_
 cases h
 exact c0.gv
def cT (x:U8):List Value:=[vU x.1,vU x.2.1,vU x.2.2.1,vU x.2.2.2.1,vU x.2.2.2.2.1,vU x.2.2.2.2.2.1,vU x.2.2.2.2.2.2.1,vU x.2.2.2.2.2.2.2]
def aL_l1 (_n:Nat) (a0:U8) (g0:Nat × (List Int) -> Option (List Int)):Nat × (List Int) -> Option (List Int)
  | (b0,c0)=>(if b0 < 8 then (([a0.1,a0.2.1,a0.2.2.1,a0.2.2.2.1,a0.2.2.2.2.1,a0.2.2.2.2.2.1,a0.2.2.2.2.2.2.1,a0.2.2.2.2.2.2.2]:List UInt64)[b0]?).bind fun d0=>(app c0 ([ab (d0 % (4294967296:UInt64)),ab (d0 / (4294967296:UInt64))]:List Int)).bind fun j0=>g0 (b0 + 1,j0) else some c0)
def aL_p (n:Nat) (a0:U8):Option (List Int):=
  Option.bind (ae (aL_l1 n a0) n (0,([]:List Int))) (fun b0=>some b0)
theorem aL_c (n:Nat) {L w} (hL:hl L w) (a0:U8)  {r:List Int} (h:aL_p n a0 = some r) :
 Cl 111 #[.agg ((cT a0)).toArray] w (ah w fun w' u=>∃ v0_0:Value,u = v0_0/\Rep.R w' L [v0_0] r):=by
 unfold aL_p at h
 refine AG func111 rfl rfl rfl fun _ cs0 hb0=>Af<|RG.bx (AF w) rfl rfl fun j1 s0 x0 Z0=>Ae rfl<|Aa<|Af<|Ae rfl<|Aa<|Aj<|Af<|Ae rfl<|Aa<|Ar ?_
 have y0:=x0.nilRow 3 (Rep.size Int)
 have b1:=St.nilRowT x0 3 (Rep.size Int)
 obtain ⟨c1,P0,M0⟩:=aj h
 refine MX.lf (α:=Nat × (List Int) × Value × (List Value)) (fun ⟨d0,k0,j0,p0⟩=>[(1,vP s0),(3,j0),(4,vI ((d0:Nat):Int))]) (fun ⟨d0,k0,j0,p0⟩=>[rr w 3 Int j0 k0.length p0,.cells s0 (cT a0) 155]) (fun ⟨d0,k0,j0,p0⟩ C0=>Cells C0 (bl [rr w 3 Int j0 k0.length p0,.cells s0 (cT a0) 155] ++ L) p0 k0) (fun ⟨d0,k0,j0,p0⟩=>(d0,k0)) (0,([]:List Int),vN,[]) P0 y0 (AE (cs:=[]) (xs:=([]:List Int)) y0 L (AJ _ _)) ?_
 rintro W0 ⟨d0,k0,j0,p0⟩ C0 F0 q0 J0 B0 h
 unfold aL_l1 at h
 try dsimp only at h
 refine Aj<|Af<|Ac rfl<|Ab (Bq (i:=d0) (j:=8) rfl rfl)<|Aa<|AN rfl h (fun D0 h=>?_) (fun D0 h=>?_)
 refine Ao<|Aj<|Ar<|du 12 fun c0 g0=>Rv 0 c0 rfl g0 (fun _=>Ag rfl)<|Rv 1 c0 rfl g0 (fun _=>Ag rfl)<|bk h fun b0 t0 h=>Rv 2 c0 rfl g0 (fun _=>AB (m:=1) (k:=d0) (len:=8) rfl rfl rfl rfl (gK t0 rfl))<|Rx 3 14384 c0 rfl g0 (AM rfl ((dI (p:=⟨s0,0,none⟩) (cs:=([a0.1,a0.2.1,a0.2.2.1,a0.2.2.2.1,a0.2.2.2.2.1,a0.2.2.2.2.2.1,a0.2.2.2.2.2.2.1,a0.2.2.2.2.2.2.2]:List UInt64).map (fun z9:UInt64=>(vU z9:Value)) ++ []) (i:=d0) (q0.memA .t1) (fT (fun z9:UInt64=>(vU z9:Value)) t0)) 0 _ rfl))<|Rv 4 c0 rfl g0 (fun _=>FV.remU (a:=b0) (b:=(4294967296:UInt64)) rfl rfl (by decide))<|Rv 5 c0 rfl g0 (fun _=>FV.convUI (a:=b0 % (4294967296:UInt64)) underlying26 underlying3 rfl)<|Rv 6 c0 rfl g0 (fun _=>Ag rfl)<|Rv 7 c0 rfl g0 (fun _=>AB (m:=1) (k:=d0) (len:=8) rfl rfl rfl rfl (gK t0 rfl))<|Rx 8 15872 c0 rfl g0 (AM rfl ((dI (p:=⟨s0,0,none⟩) (cs:=([a0.1,a0.2.1,a0.2.2.1,a0.2.2.2.1,a0.2.2.2.2.1,a0.2.2.2.2.2.1,a0.2.2.2.2.2.2.1,a0.2.2.2.2.2.2.2]:List UInt64).map (fun z9:UInt64=>(vU z9:Value)) ++ []) (i:=d0) (q0.memA .t1) (fT (fun z9:UInt64=>(vU z9:Value)) t0)) 0 _ rfl))<|Rv 9 c0 rfl g0 (fun _=>FV.quoU (a:=b0) (b:=(4294967296:UInt64)) rfl rfl (by decide))<|Rv 10 c0 rfl g0 (fun _=>FV.convUI (a:=b0 / (4294967296:UInt64)) underlying26 underlying3 rfl)<|RD.nu 11 4095 c0 rfl .plain rfl (AO (α:=Int) (xs:=([ab (b0 % (4294967296:UInt64)),ab (b0 / (4294967296:UInt64))]:List Int)) (vs:=[vI (ab (b0 % (4294967296:UInt64))),vI (ab (b0 / (4294967296:UInt64)))]) (ds' :=[vI (ab (b0 % (4294967296:UInt64))),vI (ab (b0 / (4294967296:UInt64)))]) rfl q0 ar rfl (e2 rfl rfl) (by kernel_rfl) rfl) fun k1 X0 v0 A0=>bk h fun V0 R0 h=>RD.one (i:=12) (rk c0) (RO.doesL (m' :=8191) (sk c0) rfl rfl .plain rfl (Bw (α:=Int) (ys:=([ab (b0 % (4294967296:UInt64)),ab (b0 / (4294967296:UInt64))]:List Int)) R0 v0 (fun _ _=>.t1) ar rfl rfl (Az B0 A0) (Src.row (α:=Int) v0 .hd (AE (cs:=[vI (ab (b0 % (4294967296:UInt64))),vI (ab (b0 / (4294967296:UInt64)))]) (xs:=(([ab (b0 % (4294967296:UInt64)),ab (b0 / (4294967296:UInt64))]:List Int):List Int)) v0 L (Ay (cs:=[vI (ab (b0 % (4294967296:UInt64)))]) (ds:=[vI (ab (b0 / (4294967296:UInt64)))]) rfl (Ay (cs:=[vI (ab (b0 / (4294967296:UInt64)))]) (ds:=[]) rfl (AJ _ _)))))) (fun U0 g1 ⟨E0,G0,I0,K0⟩=>?_))
 refine RD.one (i:=13) (rk c0) (RO.val (m' :=16383) (sk c0) rfl .plain rfl (Ba rfl) ?_)
 refine AZ (dk c0)<|Ap<|Ak<|Ac rfl<|Ab (AW (i:=d0) (j:=1) rfl rfl (by omega))<|Ae rfl<|Aa ?_
 obtain ⟨H0,z0⟩:=AH G0 .d1
 exact F0 (d0 + 1,V0,U0,E0) H0 (Tt J0 (Tt A0 (Tt I0 z0))) (Az K0 z0) h
 refine AV rfl ?_
 have h:=M0 _ h
 try dsimp only at h
 refine Af<|Ac rfl<|Ae rfl<|Aa<|Aq rfl ?_
 have u0:=Bt q0 .hd
 have Y0:=Bu q0 .hd
 have Q0:=Bv (α:=Int) (v:=j0) (xs:=k0) u0 L (Bf (α:=Int) q0 .hd B0 hL)
 refine AQ hb0 func111 rfl rfl ?_
 cases h
 exact ⟨u0.ag,fun w9 hw9=>⟨j0,rfl,u0.kd Q0 hw9⟩⟩
def bo_p (n:Nat) (a0:U8):Option Tc:=
  (aL_p n a0).bind fun c0=>(if a0.2.2.2.2.2.2.2 < (9223372036854775808:UInt64) then (ab_p n false c0).bind fun g0=>some g0 else (mk 17 (0:Int)).bind fun b0=>(b0[16]?).bind fun _x49=>(put b0 ((16:Nat):Int) (1:Int)).bind fun d0=>(aj_p n c0).bind fun j0=>(ao_p n d0 j0).bind fun k0=>(ab_p n true k0).bind fun p0=>some p0)
theorem bo_c (n:Nat) {L w} (hL:hl L w) (a0:U8)  {r:Tc} (h:bo_p n a0 = some r) :
 Cl 99 #[.agg ((cT a0)).toArray] w (ah w fun w' u=>∃ v0_1:Value,u = .agg #[.bool r.fe,v0_1]/\Rep.R w' L [v0_1] r.fD):=by
 unfold bo_p at h
 refine AG func99 rfl rfl rfl fun _ cs0 hb0=>Af<|RG.bx (AF w) rfl rfl fun g2 D1 J0 J1=>RG.nl [.bool false,vN] J0 fun j2 E1 c0 K1=>Aa<|Af<|Ab (AK rfl (c0.memA .t1))<|bk h fun A2 u1 h=>jE (bd 111) rfl (e1 rfl) (fun w9 hw9=>aL_c n (c0.hL hL hw9) a0 u1) rfl fun k2 Y1 W0 ⟨V1,hu_,A0⟩=>?_
 subst hu_
 obtain ⟨b0,M1⟩:=c0.agr W0
 refine Ae rfl<|Aa<|Aj<|Af<|Ab (AB (m:=1) (k:=7) (len:=8) rfl rfl rfl rfl (by omega))<|AA rfl ((b0.memA .t1) 7 _ rfl)<|Ab (FV.lssU (a:=a0.2.2.2.2.2.2.2) (b:=(9223372036854775808:UInt64)) rfl rfl)<|Aa<|AN rfl h (fun H0 h=>?_) (fun H0 h=>?_)
 refine Af<|Ac rfl<|bk h fun D0 v1 h=>jE (bd 95) rfl (e2 rfl rfl) (fun w9 hw9=>ab_c n (b0.hL hL hw9) (Ax A0 hw9) v1) rfl fun p2 Z1 X0 ⟨s0,hu_,B0⟩=>?_
 subst hu_
 obtain ⟨K0,P1⟩:=b0.agr X0
 refine AX [.bool D0.fe,s0] K0 .hd (o2 rfl (By B0)) fun q2 d0 Q0=>Aa<|Aq rfl<|Av hb0 func99 rfl (.cons (.many (cs:=[.bool D0.fe,s0]) rfl rfl (d0.memA .hd)) .nil) rfl ?_
 cases h
 exact ⟨d0.ag,fun w9 hw9=>⟨s0,rfl,d0.kd (Aw B0 Q0) hw9⟩⟩
 refine Ao<|Af<|bk h fun z2 q1 h=>RG.doesH .plain rfl (Does.mkH (α:=Int) (L:=L) q1 b0 ar rfl (fun _ _=>rfl)) fun A1 s2 ⟨H1,g0,R0,x0⟩=>Ae rfl<|Aa<|Af<|Ac rfl<|bk h fun B1 p1 h=>?_
 obtain ⟨F0,F1,q0,z0,I0,g1,U1⟩:=St.nth (α:=Int) g0 .hd x0 p1
 obtain ⟨G0,G1,y0⟩:=St.nthOwn (α:=Int) g0 .hd z0
 obtain rfl:F0 = ⟨G0,0,none⟩:=by rw [y0] at q0; cases q0; rfl
 have d1:I0 = [vI B1]:=g1; subst d1
 refine Ab (Bk 1 16 rfl q0 rfl rfl z0)<|bk h fun C1 s1 h=>RG.acts' .plain (Acts.set (α:=Int) (i:=16) s1 g0 y0 (fun _=>.hd) x0 rfl rfl rfl rfl rfl rfl) fun t2 ⟨I1,u0,U0,c1⟩=>Aa<|Af<|Ac rfl<|Ac rfl<|bk h fun B2 x1 h=>jE (bd 108) rfl (e1 rfl) (fun w9 hw9=>aj_c n (u0.hL hL hw9) (Ax (Aw A0 (Tt R0 U0)) hw9) x1) rfl fun u2 b2 Y0 ⟨W1,hu_,j1⟩=>?_
 subst hu_
 obtain ⟨j0,V0⟩:=u0.agr Y0
 have k0:=Bt j0 .hd
 refine bk h fun C2 y1 h=>jE (bd 107) rfl (e2 rfl rfl) (fun w9 hw9=>ao_c n (k0.hL hL hw9) (Ax (Bv (α:=Int) (v:=A1) (xs:=C1) k0 L (Bf (α:=Int) j0 .hd (Az c1 V0) hL)) hw9) (Ax (Aw j1 (Bu j0 .hd)) hw9) y1) rfl fun v2 c2 Z0 ⟨X1,hu_,k1⟩=>?_
 subst hu_
 obtain ⟨v0,Q1⟩:=k0.agr Z0
 refine bk h fun E0 z1 h=>jE (bd 95) rfl (e2 rfl rfl) (fun w9 hw9=>ab_c n (v0.hL hL hw9) (Ax k1 hw9) z1) rfl fun x2 d2 b1 ⟨t0,hu_,C0⟩=>?_
 subst hu_
 obtain ⟨M0,R1⟩:=v0.agr b1
 refine AX [.bool E0.fe,t0] M0 .hd (o2 rfl (By C0)) fun y2 p0 P0=>Aa<|Aq rfl<|Av hb0 func99 rfl (.cons (.many (cs:=[.bool E0.fe,t0]) rfl rfl (p0.memA .hd)) .nil) rfl ?_
 cases h
 exact ⟨p0.ag,fun w9 hw9=>⟨t0,rfl,p0.kd (Aw C0 P0) hw9⟩⟩
def aZ_p (n:Nat) (a0:UInt64):Option Tc:=
  (bo_p n (a0,0,0,0,0,0,0,0)).bind fun b0=>some b0
theorem aZ_c (n:Nat) {L w} (hL:hl L w) (a0:UInt64)  {r:Tc} (h:aZ_p n a0 = some r) :
 Cl 79 #[vU a0] w (ah w fun w' u=>∃ v0_1:Value,u = .agg #[.bool r.fe,v0_1]/\Rep.R w' L [v0_1] r.fD):=by
 unfold aZ_p at h
 refine AG func79 rfl rfl rfl fun _ cs0 hb0=>Af<|RG.nl [.bool false,vN] (AF w) fun y0 t0 d0 u0=>Aa<|Af<|Ac rfl<|Ab (AL (vs:=[vU a0]) (u:=.agg #[vU a0,vW 0,vW 0,vW 0,vW 0,vW 0,vW 0,vW 0]) (e1 rfl) (fun w9=>by kernel_rfl))<|bk h fun j0 s0 h=>jE (bd 99) rfl (e1 rfl) (fun w9 hw9=>bo_c n (d0.hL hL hw9) (a0,0,0,0,0,0,0,0) s0) rfl fun z0 x0 q0 ⟨c0,hu_,g0⟩=>?_
 subst hu_
 obtain ⟨k0,v0⟩:=d0.agr q0
 refine AX [.bool j0.fe,c0] k0 .hd (o2 rfl (By g0)) fun A0 b0 p0=>Aa<|Aq rfl<|Av hb0 func79 rfl (.cons (.many (cs:=[.bool j0.fe,c0]) rfl rfl (b0.memA .hd)) .nil) rfl ?_
 cases h
 exact ⟨b0.ag,fun w9 hw9=>⟨c0,rfl,b0.kd (Aw g0 p0) hw9⟩⟩
def ar_l1 (n:Nat) (q0:Tc) (a1:Int) (d0:Nat × UInt64 -> Option ((Int × Ta × Int) ⊕ Unit)):Nat × UInt64 -> Option ((Int × Ta × Int) ⊕ Unit)
  | (c0,j0)=>(if c0 < 200 then (bf_p n (⟨j0⟩:Ta)).bind fun b0=>(aZ_p n b0.1).bind fun k0=>(aY_p n k0 q0).bind fun p0=>(if p0 < 0 then (cy b0.1 (ac a1)).bind fun g0=>some (.inl (ab g0,b0.2,(0:Int))) else d0 (c0 + 1,b0.2.fc)) else some (.inr ()))
def ar_p (n:Nat) (a0:Ta) (a1:Int):Option (Int × Ta × Int):=
  (if a1 < 1 then some ((0:Int),(⟨(0:UInt64)⟩:Ta),(2:Int)) else (ak_p n (2:Int)).bind fun b0=>(aK_p n b0 (64:Int)).bind fun c0=>(ak_p n a1).bind fun g0=>(a9_p n c0 g0).bind fun j0=>(ak_p n a1).bind fun d0=>(aG_p n j0.1 d0).bind fun k0=>thn (ae (ar_l1 n k0 a1) n (0,a0.fc)) (fun _=>some ((0:Int),(⟨(0:UInt64)⟩:Ta),(9:Int))))
theorem ar_c (n:Nat) {L w} (hL:hl L w) (a0:Ta) {a1:Int}  {r:Int × Ta × Int} (h:ar_p n a0 a1 = some r) :
 Cl 58 #[.agg #[vU a0.fc],vI a1] w (ah w fun _ u=>u = .tuple #[vI r.1,.agg #[vU r.2.1.fc],vI r.2.2]):=by
 unfold ar_p at h
 refine AG func58 rfl rfl rfl fun _ cs0 hb0=>Af<|RG.bx (AF w) rfl rfl fun j4 A0 X1 F3=>Ae rfl<|RG.nl [vW 0] X1 fun k4 B0 M0 J3=>Ae rfl<|Aa<|Aj<|Af<|Ac rfl<|Ab (FV.lss (i:=a1) (j:=1) rfl rfl)<|Aa<|AN rfl h (fun V1 h=>?_) (fun V1 h=>?_)
 refine Af<|Ab (AL (vs:=[]) (u:=.agg #[vW 0]) ai (fun w9=>by kernel_rfl))<|Ae rfl<|AX [vW 0] M0 .hd (o1 rfl) fun y4 q1 K3=>Ae rfl<|Aa<|Aq rfl<|Av hb0 func58 rfl (.cons (.tmp rfl) (.cons (.many (cs:=[vW 0]) rfl rfl (q1.memA .hd)) (.cons (.tmp rfl) .nil))) rfl ?_
 cases h
 exact q1.gv
 refine Ao<|Af<|bk h fun y3 Y2 h=>jE (bd 75) rfl (e1 rfl) (fun w9 hw9=>ak_c n (M0.hL hL hw9)  Y2) rfl fun z4 Z3 D2 ⟨V3,hu_,K2⟩=>?_
 subst hu_
 obtain ⟨s1,M3⟩:=M0.agr D2
 refine bk h fun z3 Z2 h=>jE (bd 74) rfl (e2 rfl rfl) (fun w9 hw9=>aK_c n (s1.hL hL hw9) y3 (Ax K2 hw9) Z2) rfl fun A4 b4 E2 ⟨W3,hu_,M2⟩=>?_
 subst hu_
 obtain ⟨u1,P3⟩:=s1.agr E2
 refine Ac rfl<|bk h fun A3 b3 h=>jE (bd 75) rfl (e1 rfl) (fun w9 hw9=>ak_c n (u1.hL hL hw9)  b3) rfl fun B4 c4 F2 ⟨X3,hu_,P2⟩=>?_
 subst hu_
 obtain ⟨v1,z2⟩:=u1.agr F2
 refine bk h fun D0 c3 h=>jE (bd 73) rfl (e2 rfl rfl) (fun w9 hw9=>a9_c n (v1.hL hL hw9) z3 (Ax (Aw M2 z2) hw9) A3 (Ax P2 hw9) c3) rfl fun C4 d4 G2 ⟨j3,k3,hu_,I0,Q2⟩=>?_
 subst hu_
 obtain ⟨p2,Q3⟩:=v1.agr G2
 refine Ac rfl<|Ab (Am rfl rfl)<|Ab (Am rfl rfl)<|RG.nl [.bool false,vN] p2 fun D4 D3 q2 F1=>RG.nl [.bool false,vN] q2 fun E4 E3 s2 G1=>AX [.bool D0.1.fe,j3] s2 .t1 (o2 rfl (By (Aw I0 (Tt F1 G1)))) fun G4 v2 B2=>?_
 have G0:=Tt F1 (Tt G1 B2)
 refine AX [.bool D0.2.fe,k3] v2 .hd (o2 rfl (By (Aw Q2 G0))) fun H4 C0 U0=>Aa<|Aj<|du 5 fun b0 K1=>Rx 0 40 b0 rfl K1 (AK rfl (C0.memA .t1))<|Rv 1 b0 rfl K1 (fun _=>Ag rfl)<|bk h fun g1 J1 h=>bk h fun E0 b1 h=>RD.mf (α:=Value × Nat) (fun ⟨t0,j0⟩=>[(1,vI a1),(2,vP A0),(5,vP B0),(27,.agg #[.bool E0.fe,t0]),(9,vP j0)]) (fun ⟨t0,j0⟩=>[.cells j0 [.bool false,vN] 121,.cells B0 [vW 0] 30,.cells A0 [vU a0.fc] 30]) (fun ⟨t0,j0⟩ P1=>Rep.R P1 (bl [.cells j0 [.bool false,vN] 121,.cells B0 [vW 0] 30,.cells A0 [vU a0.fc] 30] ++ L) [t0] E0.fD) C0 1 31 ?_ ?_
 rintro ⟨t0,j0⟩ P1 Y1 G3 I1
 try dsimp only
 refine RD.nw 5 63 b0 rfl rfl .plain (AP (news:=[.bool E0.fe,t0]) Y1 .hd rfl rfl rfl rfl rfl rfl (o2 rfl (By I1))) fun p4 Z1 x2=>AZ (dk b0)<|Aj<|Af<|Ae rfl<|Aa<|Ar<|tn h fun R3 I2 H1=>MX.lo (α:=Nat × UInt64) (fun ⟨k0,y0⟩=>[(1,vI a1),(2,vP A0),(5,vP B0),(9,vP j0),(10,vI ((k0:Nat):Int))]) (fun ⟨k0,y0⟩=>[.cells j0 [.bool E0.fe,t0] 121,.cells B0 [vW 0] 30,.cells A0 [vU y0] 30]) (fun ⟨k0,y0⟩=>(k0,y0)) (0,a0.fc) I2 Z1 ?_
 rintro B3 ⟨k0,y0⟩ I4 W1 F0 x1 h
 unfold ar_l1 at h
 try dsimp only at h
 refine Aj<|Af<|Ac rfl<|Ab (Bq (i:=k0) (j:=200) rfl rfl)<|Aa<|AN rfl h (fun R1 h=>?_) (fun R1 h=>?_)
 refine Ao<|Aj<|Ar<|Af<|Ab (AK rfl (F0.memA .t2))<|bk h fun g0 V2 h=>BA (.tuple #[vU g0.1,.agg #[vU g0.2.fc]]) (bd 77) rfl (e1 rfl) (fun w9 hw9=>bf_c n (F0.hL0 hL hw9) (⟨y0⟩:Ta) V2) rfl<|Ac rfl<|Ab (Am rfl rfl)<|Ab (Am rfl rfl)<|RG.nl [vW 0] F0 fun q4 C3 b2 y1=>Ae rfl<|AX [vU g0.2.fc] b2 .hd (o1 rfl) fun s4 j1 z1=>Aa<|Af<|Ab (AK rfl (j1.memA .hd))<|AX [vU g0.2.fc] j1 .t3 (o1 rfl) fun t4 P0 A1=>Aa<|Aj<|du 5 fun x0 J0=>Rv 0 x0 rfl J0 (fun _=>Ag rfl)<|Rx 2 24 x0 rfl J0 (AK rfl (P0.memA .t1))<|bk h fun x3 W2 h=>RD.cl 1 7 x0 rfl .plain (bd 79) rfl (e1 rfl) (fun w9 hw9=>aZ_c n (P0.hL hL hw9) g0.1 W2) rfl fun u4 Y3 C2 ⟨U3,hu_,J2⟩=>?_
 subst hu_
 obtain ⟨u0,B1⟩:=P0.agr C2
 refine bk h fun Q1 X2 h=>RD.cq 3 15 16 (vI Q1) x0 rfl J0 (bd 78) rfl (e2 rfl rfl) (fun w9 hw9=>aY_c n (u0.hL0 hL hw9) x3 (u0.kd J2 hw9) E0 (u0.kd (Aw I1 (Tt x2 (Tt x1 (Tt y1 (Tt z1 (Tt A1 B1)))))) hw9) X2) rfl<|Rv 4 x0 rfl J0 (fun _=>FV.lss (i:=Q1) (j:=0) rfl rfl)<|AZ (dk x0)<|AN rfl h (fun U1 h=>?_) (fun U1 h=>?_)
 refine Aj<|du 7 fun c0 s0=>Rv 0 c0 rfl s0 (fun _=>Ag rfl)<|Rv 1 c0 rfl s0 (fun _=>Ag rfl)<|Rv 2 c0 rfl s0 (fun _=>FV.convU (i:=a1) underlying3 underlying26 rfl)<|bk h fun d3 U2 h=>Rv 3 c0 rfl s0 (fun _=>FV.remV (a:=g0.1) (b:=ac a1) rfl rfl U2)<|Rv 4 c0 rfl s0 (fun _=>FV.convUI (a:=d3) underlying26 underlying3 rfl)<|Rx 5 384 c0 rfl s0 (AK rfl (u0.memA .t3))<|Rv 6 c0 rfl s0 (fun _=>Ba rfl)<|RD.nw 7 255 c0 rfl rfl .plain (AP (news:=[vU g0.2.fc]) u0 .t2 rfl rfl rfl rfl rfl rfl (o1 rfl)) fun v4 k1 H3=>RD.one (i:=8) (rk c0) (RO.val (m' :=511) (sk c0) rfl .plain rfl (Ba rfl) ?_)
 refine AZ (dk c0) ?_
 have h:=am h H1
 refine Aq rfl<|Av hb0 func58 rfl (.cons (.tmp rfl) (.cons (.many (cs:=[vU g0.2.fc]) rfl rfl (k1.memA .t2)) (.cons (.tmp rfl) .nil))) rfl ?_
 cases h
 exact k1.gv
 refine Ao<|Ap<|Ak<|Ac rfl<|Ab (AW (i:=k0) (j:=1) rfl rfl (by omega))<|Ae rfl<|Aa ?_
 obtain ⟨c2,y2⟩:=AH u0 .d1
 exact W1 (k0 + 1,g0.2.fc) c2 (Tt x1 (Tt y1 (Tt z1 (Tt A1 (Tt B1 y2))))) h
 refine AV rfl ?_
 have h:=aP h H1
 try dsimp only at h
 refine Af<|Ab (AL (vs:=[]) (u:=.agg #[vW 0]) ai (fun w9=>by kernel_rfl))<|Ae rfl<|AX [vW 0] F0 .t1 (o1 rfl) fun x4 p1 I3=>Ae rfl<|Aa<|Aq rfl<|Av hb0 func58 rfl (.cons (.tmp rfl) (.cons (.many (cs:=[vW 0]) rfl rfl (p1.memA .t1)) (.cons (.tmp rfl) .nil))) rfl ?_
 cases h
 exact p1.gv
 intro K0
 refine RD.each [2,4] (rk b0) ⟨?_,?_,trivial⟩
 refine RO.call (m' :=7) (fst:=[]) (cap:=[]) (sk b0) rfl .plain (bd 75) rfl (e1 rfl) (fun w9 hw9=>ak_c n (C0.hL hL hw9)  J1) rfl fun u3 q3 V0 ⟨g3,hu_,H0⟩=>?_
 subst hu_
 obtain ⟨v0,q0⟩:=C0.agr V0
 refine RD.each [3,4] (rk b0) ⟨?_,?_,trivial⟩
 have Y0:=Tt G0 (Tt U0 q0)
 have X0:=Aw I0 Y0
 refine RO.call (m' :=15) (fst:=[]) (cap:=[]) (sk b0) rfl .plain (bd 76) rfl (e2 rfl rfl) (fun w9 hw9=>aG_c n (v0.hL hL hw9) D0.1 (Ax X0 hw9) g1 (Ax H0 hw9) b1) rfl fun v3 s3 W0 ⟨c1,hu_,Z0⟩=>?_
 subst hu_
 obtain ⟨Q0,R0⟩:=v0.agr W0
 refine RD.nu 4 31 b0 rfl .plain rfl (AC [.bool false,vN] Q0) fun M1 z0 p0 d0=>?_
 obtain ⟨g2,C1⟩:=AH p0 (.a0 .d2)
 exact K0 (c1,z0) g2 (Tt q0 (Tt R0 (Tt d0 C1))) (Aw Z0 (Tt d0 C1))
 refine RO.new (m' :=23) (sk b0) rfl .plain rfl (AC [.bool false,vN] v0) fun M1 z0 p0 d0=>?_
 have Y0:=Tt G0 (Tt U0 (Tt q0 d0))
 have X0:=Aw I0 Y0
 refine RD.cl 3 31 b0 rfl .plain (bd 76) rfl (e2 rfl rfl) (fun w9 hw9=>aG_c n (p0.hL hL hw9) D0.1 (Ax X0 hw9) g1 (Ax (Aw H0 d0) hw9) b1) rfl fun F4 g4 H2 ⟨p3,hu_,R2⟩=>?_
 subst hu_
 obtain ⟨u2,A2⟩:=p0.agr H2
 obtain ⟨j2,D1⟩:=AH u2 (.a0 .d2)
 exact K0 (p3,z0) j2 (Tt q0 (Tt d0 (Tt A2 D1))) (Aw R2 D1)
 refine RO.new (m' :=19) (sk b0) rfl .plain rfl (AC [.bool false,vN] C0) fun M1 z0 p0 d0=>RD.cl 2 23 b0 rfl .plain (bd 75) rfl (e1 rfl) (fun w9 hw9=>ak_c n (p0.hL hL hw9)  J1) rfl fun u3 q3 V0 ⟨g3,hu_,H0⟩=>?_
 subst hu_
 obtain ⟨v0,q0⟩:=p0.agr V0
 refine RD.cl 3 31 b0 rfl .plain (bd 76) rfl (e2 rfl rfl) (fun w9 hw9=>aG_c n (v0.hL hL hw9) D0.1 (Ax (Aw I0 (Tt G0 (Tt U0 (Tt d0 q0)))) hw9) g1 (Ax H0 hw9) b1) rfl fun v3 s3 W0 ⟨c1,hu_,Z0⟩=>?_
 subst hu_
 obtain ⟨Q0,R0⟩:=v0.agr W0
 obtain ⟨k2,E1⟩:=AH Q0 (.a0 .d2)
 exact K0 (c1,z0) k2 (Tt d0 (Tt q0 (Tt R0 E1))) (Aw Z0 E1)
def aw_l1 (n:Nat) (a3:UInt64) (a5:Int) (a0:Tb) (a1:UInt64) (k0:(List Int) × UInt64 -> Option (((List Int) × Ta × Int) ⊕ ((List Int) × UInt64))):(List Int) × UInt64 -> Option (((List Int) × Ta × Int) ⊕ ((List Int) × UInt64))
  | (b0,d0)=>(idx b0 (((b0.length:Nat):Int) - 1)).bind fun g0=>(ap_p n a3 g0).bind fun s0=>(if s0 = true then some (.inr (b0,d0)) else (if (((b0.length:Nat):Int) - 1) = a5 then some (.inl (([]:List Int),(⟨(0:UInt64)⟩:Ta),(9:Int))) else (aD_p n a0 a1 g0).bind fun j0=>(ar_p n (⟨d0⟩:Ta) ((j0.length:Nat):Int)).bind fun c0=>(if c0.2.2 = 0 then (idx j0 c0.1).bind fun p0=>(app b0 ([p0]:List Int)).bind fun q0=>k0 (q0,c0.2.1.fc) else some (.inl (([]:List Int),(⟨(0:UInt64)⟩:Ta),c0.2.2)))))
def aw_p (n:Nat) (a0:Tb) (a1:UInt64) (a2:Int) (a3:UInt64) (a4:Ta) (a5:Int):Option ((List Int) × Ta × Int):=
  thn (ae (aw_l1 n a3 a5 a0 a1) n (([a2]:List Int),a4.fc)) (fun (c0,b0)=>some (c0,(⟨b0⟩:Ta),(0:Int)))
theorem aw_c (n:Nat) {L w} (hL:hl L w) (a0:Tb) {v0_1:Value} (h0_1:Rep.R w L [v0_1] a0.fh) (a1:UInt64) {a2:Int} (a3:UInt64) (a4:Ta) {a5:Int}  {r:(List Int) × Ta × Int} (h:aw_p n a0 a1 a2 a3 a4 a5 = some r) :
 Cl 28 #[.agg #[vI a0.fN,v0_1],vU a1,vI a2,vU a3,.agg #[vU a4.fc],vI a5] w (ah w fun w' u=>∃ v0_0:Value,u = .tuple #[v0_0,.agg #[vU r.2.1.fc],vI r.2.2]/\Rep.R w' L [v0_0] r.1):=by
 unfold aw_p at h
 refine AG func28 rfl rfl rfl fun _ cs0 hb0=>Af<|RG.bx (AF w) rfl rfl fun s3 z0 v1 W2=>RG.bx v1 rfl rfl fun u3 A0 x1 X2=>Ae rfl<|RG.nl [vW 0] x1 fun v3 B0 y1 Y2=>Ae rfl<|Aa<|Af<|Ac rfl<|Au .plain rfl (jA a2 (vI a2) y1 ar (e1 rfl)) fun y3 d1 M0 c3=>Ae rfl<|Aa<|Aj<|Ar<|tn h fun k3 Z1 H0=>MX.lf (α:=(List Int) × UInt64 × Value × (List Value)) (fun ⟨b0,g0,k0,s0⟩=>[(1,vU a1),(3,vU a3),(5,vI a5),(6,vP z0),(10,vP A0),(13,vP B0),(15,k0)]) (fun ⟨b0,g0,k0,s0⟩=>[rr w 3 Int k0 b0.length s0,.cells B0 [vW 0] 30,.cells A0 [vU g0] 30,.cells z0 [vI a0.fN,v0_1] 34]) (fun ⟨b0,g0,k0,s0⟩ Y0=>Cells Y0 (bl [rr w 3 Int k0 b0.length s0,.cells B0 [vW 0] 30,.cells A0 [vU g0] 30,.cells z0 [vI a0.fN,v0_1] 34] ++ L) s0 b0) (fun ⟨b0,g0,k0,s0⟩=>(b0,g0)) (([a2]:List Int),a4.fc,(vS d1 1),[vI a2]) Z1 M0 (jC a2 (vI a2) M0 L rfl) ?_
 rintro I2 ⟨b0,g0,k0,s0⟩ Y0 u1 c0 D1 G0 h
 unfold aw_l1 at h
 try dsimp only at h
 refine Aj<|Af<|Ac rfl<|Ac rfl<|Ac rfl ?_
 have g3:b0.length <= 4294967296:=St.rowLe (α:=Int) c0 .hd
 obtain ⟨E2,M2,K1⟩:=St.rowV (α:=Int) c0 .hd
 refine Ab (FV.lenV underlying41 rfl K1)<|Ab (FV.subI (i:=((b0.length:Nat):Int)) (j:=1) rfl rfl (by omega))<|bk h fun B2 p2 h=>?_
 obtain ⟨V0,q2⟩:=av p2
 obtain ⟨b1,P2,y0,I0,p1,b2,W0⟩:=St.nth (α:=Int) c0 .hd G0 q2
 obtain ⟨c1,Q2,M1⟩:=St.nthOwn (α:=Int) c0 .hd I0
 obtain rfl:b1 = ⟨c1,0,none⟩:=by rw [M1] at y0; cases y0; rfl
 have P1:p1 = [vI B2]:=b2; subst P1
 refine Ab (FV.idxAddr (m:=1) (i:=(((b0.length:Nat):Int) - 1).toNat) rfl rfl y0 rfl V0 I0)<|AA rfl (W0 0 _ rfl)<|bk h fun D2 x2 h=>BA (.bool D2) (bd 26) rfl (e2 rfl rfl) (fun w9 hw9=>ap_c n (c0.hL0 hL hw9) a3 x2) rfl<|Ab (FV.not rfl)<|Aa<|MX.ifnb rfl h (fun g1 h=>?_) (fun g1 h=>?_)
 refine AV rfl ?_
 have h:=aP h H0
 try dsimp only at h
 refine Aj<|du 3 fun t0 K0=>Rv 0 t0 rfl K0 (fun _=>Ag rfl)<|Rx 1 24 t0 rfl K0 (AK rfl (c0.memA .t2))<|Rv 2 t0 rfl K0 (fun _=>Ba rfl)<|RD.nw 3 15 t0 rfl rfl .plain (AP (news:=[vU g0]) c0 .t1 rfl rfl rfl rfl rfl rfl (o1 rfl)) fun x3 C0 E1=>RD.one (i:=4) (rk t0) (RO.val (m' :=31) (sk t0) rfl .plain rfl (Ba rfl) ?_)
 refine AZ (dk t0)<|Aq rfl ?_
 have u0:=Bt C0 .hd
 have Z2:=Bu C0 .hd
 have c2:=Bv (α:=Int) (v:=k0) (xs:=b0) u0 L (Bf (α:=Int) C0 .hd (Az G0 E1) hL)
 refine Av hb0 func28 rfl (.cons (.tmp rfl) (.cons (.many (cs:=[vU g0]) rfl rfl (u0.memA .hd)) (.cons (.tmp rfl) .nil))) rfl ?_
 cases h
 exact ⟨u0.ag,fun w9 hw9=>⟨k0,rfl,u0.kd c2 hw9⟩⟩
 refine Ao<|Ar<|Aj<|Af<|Ac rfl ?_
 obtain ⟨F2,R2,Q1⟩:=St.rowV (α:=Int) c0 .hd
 refine Ab (FV.lenV underlying41 rfl Q1)<|Ab (FV.subI (i:=((b0.length:Nat):Int)) (j:=1) rfl rfl (by omega))<|Ac rfl<|Ab (Br (i:=((b0.length:Nat):Int) - 1) (j:=a5) rfl rfl)<|Aa<|AN rfl h (fun j1 h=>?_) (fun j1 h=>?_)
 refine Af<|Ab (AL (vs:=[]) (u:=.agg #[vW 0]) ai (fun w9=>by kernel_rfl))<|Ae rfl<|AX [vW 0] c0 .t1 (o1 rfl) fun z3 v0 b3=>Ae rfl<|Aa ?_
 have h:=am h H0
 refine Aq rfl ?_
 have g2:=Bo (α:=Int) v0 L
 refine Av hb0 func28 rfl (.cons (.tmp rfl) (.cons (.many (cs:=[vW 0]) rfl rfl (v0.memA .t1)) (.cons (.tmp rfl) .nil))) rfl ?_
 cases h
 exact ⟨v0.ag,fun w9 hw9=>⟨vN,rfl,v0.kd g2 hw9⟩⟩
 refine Ao<|Aj<|du 10 fun d0 j0=>Rx 0 768 d0 rfl j0 (AK rfl (c0.memA .t3))<|Rv 1 d0 rfl j0 (fun _=>Ag rfl)<|Rv 2 d0 rfl j0 (fun _=>Ag rfl)<|Rv 3 d0 rfl j0 (fun _=>Ag rfl) ?_
 obtain ⟨G2,U2,R1⟩:=St.rowV (α:=Int) c0 .hd
 refine Rx 4 992 d0 rfl j0 (FV.lenV underlying41 rfl R1)<|Rv 5 d0 rfl j0 (fun _=>FV.subI (i:=((b0.length:Nat):Int)) (j:=1) rfl rfl (by omega))<|Rv 6 d0 rfl j0 (fun _=>FV.idxAddr (m:=1) (i:=(((b0.length:Nat):Int) - 1).toNat) rfl rfl y0 rfl V0 I0)<|Rx 7 768 d0 rfl j0 (AM rfl (W0 0 _ rfl))<|bk h fun Z0 y2 h=>RD.cl 8 511 d0 rfl .plain (bd 57) rfl (e3 rfl rfl rfl) (fun w9 hw9=>aD_c n (c0.hL hL hw9) a0 (c0.km h0_1 hw9) a1 y2) rfl fun A3 q3 I1 ⟨p3,hu_,J0⟩=>?_
 subst hu_
 obtain ⟨D0,F1⟩:=c0.agr I1
 refine Rv 9 d0 rfl j0 (fun _=>Ba rfl)<|AZ (dk d0)<|Af<|Ab (AK rfl (D0.memA .t2))<|Ac rfl ?_
 have j3:Z0.length <= 281474976710656:=AY J0
 refine Ab (Bh (xs:=Z0) underlying41 rfl J0)<|bk h fun q0 z2 h=>BA (.tuple #[vI q0.1,.agg #[vU q0.2.1.fc],vI q0.2.2]) (bd 58) rfl (e2 rfl rfl) (fun w9 hw9=>ar_c n (D0.hL0 hL hw9) (⟨g0⟩:Ta) z2) rfl<|Ac rfl<|Ab (Am rfl rfl)<|Ab (Am rfl rfl)<|Ab (Am rfl rfl)<|RG.nl [vW 0] D0 fun B3 J2 z1 P0=>Ae rfl<|AX [vU q0.2.1.fc] z1 .hd (o1 rfl) fun C3 E0 Q0=>Ae rfl<|Aa<|Aj<|Af<|Ac rfl<|Ab (FV.neq (i:=q0.2.2) (j:=0) rfl rfl)<|Aa<|MX.ifn rfl h (fun k1 h=>?_) (fun k1 h=>?_)
 refine Ao<|Af<|Ab (AK rfl (E0.memA .hd))<|AX [vU q0.2.1.fc] E0 .t3 (o1 rfl) fun D3 A1 R0=>Aa<|Ak<|Ac rfl<|Ac rfl<|Ac rfl<|bk h fun p0 s2 h=>?_
 obtain ⟨W1,u2⟩:=av s2
 obtain ⟨H2,V2,U1,X1,q1,j2,Y1⟩:=Bm (Aw J0 (Tt P0 (Tt Q0 R0))) u2
 have V1:q1 = [vI p0]:=j2; subst V1
 refine Ab (Bk 1 (q0.1.toNat) rfl U1 rfl W1 X1)<|AA rfl (Y1 0 _ rfl)<|Au .plain rfl (jA p0 (vI p0) A1 ar (e1 rfl)) fun E3 K2 F0 G1=>bk h fun C2 v2 h=>?_
 have X0:=Tt F1 (Tt P0 (Tt Q0 (Tt R0 G1)))
 refine Bz .plain rfl (Bw (α:=Int) (ys:=([p0]:List Int)) v2 F0 (fun _ _=>.t2) ar rfl rfl (Az G0 X0) (Src.row (α:=Int) F0 .hd (jC p0 (vI p0) F0 L rfl))) fun A2 F3 ⟨s1,B1,H1,J1⟩=>Ae rfl<|Aa<|Ap ?_
 obtain ⟨C1,U0⟩:=AH B1 .d2
 exact u1 (C2,q0.2.1.fc,A2,s1) C1 (Tt D1 (Tt X0 (Tt H1 U0))) (Az J1 U0) h
 refine Af<|Ab (AL (vs:=[]) (u:=.agg #[vW 0]) ai (fun w9=>by kernel_rfl))<|Ac rfl<|Ae rfl<|AX [vW 0] E0 .t2 (o1 rfl) fun G3 x0 d3=>Ae rfl<|Aa ?_
 have h:=am h H0
 refine Aq rfl ?_
 have k2:=Bo (α:=Int) x0 L
 refine Av hb0 func28 rfl (.cons (.tmp rfl) (.cons (.many (cs:=[vW 0]) rfl rfl (x0.memA .t2)) (.cons (.tmp rfl) .nil))) rfl ?_
 cases h
 exact ⟨x0.ag,fun w9 hw9=>⟨vN,rfl,x0.kd k2 hw9⟩⟩
def aq_p (n:Nat) (a0:Tb) (a1:UInt64) (a2:Int) (a3:UInt64) (a4:Ta):Option ((List Int) × Ta × Int):=
  (aI_p n a0 a1).bind fun c0=>(if c0 = 0 then (aI_p n a0 a3).bind fun d0=>(if d0 = 0 then (if a2 < 0 then some (([]:List Int),(⟨(0:UInt64)⟩:Ta),(2:Int)) else (if a0.fN <= a2 then some (([]:List Int),(⟨(0:UInt64)⟩:Ta),(2:Int)) else (ap_p n a1 a2).bind fun g0=>(if g0 = true then (ah_p n a0 a1 a2 (-1:Int)).bind fun j0=>(if (j0 &&& a3) = (0:UInt64) then some (([]:List Int),(⟨(0:UInt64)⟩:Ta),(4:Int)) else (aw_p n a0 a1 a2 a3 a4 (10000:Int)).bind fun b0=>some (b0.1,b0.2.1,b0.2.2)) else some (([]:List Int),(⟨(0:UInt64)⟩:Ta),(2:Int))))) else some (([]:List Int),(⟨(0:UInt64)⟩:Ta),d0)) else some (([]:List Int),(⟨(0:UInt64)⟩:Ta),c0))
theorem aq_c (n:Nat) {L w} (hL:hl L w) (a0:Tb) {v0_1:Value} (h0_1:Rep.R w L [v0_1] a0.fh) (a1:UInt64) {a2:Int} (a3:UInt64) (a4:Ta)  {r:(List Int) × Ta × Int} (h:aq_p n a0 a1 a2 a3 a4 = some r) :
 Cl 9 #[.agg #[vI a0.fN,v0_1],vU a1,vI a2,vU a3,.agg #[vU a4.fc]] w (ah w fun w' u=>∃ v0_0:Value,u = .tuple #[v0_0,.agg #[vU r.2.1.fc],vI r.2.2]/\Rep.R w' L [v0_0] r.1):=by
 unfold aq_p at h
 refine AG func9 rfl rfl rfl fun _ cs0 hb0=>Af<|RG.bx (AF w) rfl rfl fun C1 d1 E0 k1=>RG.bx E0 rfl rfl fun D1 g1 F0 p1=>Ae rfl<|RG.nl [vW 0] F0 fun E1 j1 b0 q1=>Ae rfl<|Aa<|Aj<|Af<|Ab (AK rfl (b0.memA .t2))<|Ac rfl<|bk h fun u0 V0 h=>BA (vI u0) (bd 25) rfl (e2 rfl rfl) (fun w9 hw9=>aI_c n (b0.hL0 hL hw9) a0 (b0.k0 h0_1 hw9) a1 V0) rfl<|Ae rfl<|Aa<|Af<|Ac rfl<|Ab (FV.neq (i:=u0) (j:=0) rfl rfl)<|Aa<|MX.ifn rfl h (fun y0 h=>?_) (fun y0 h=>?_)
 refine Ao<|Aj<|Af<|Ab (AK rfl (b0.memA .t2))<|Ac rfl<|bk h fun v0 W0 h=>BA (vI v0) (bd 25) rfl (e2 rfl rfl) (fun w9 hw9=>aI_c n (b0.hL0 hL hw9) a0 (b0.k0 h0_1 hw9) a3 W0) rfl<|Ae rfl<|Aa<|Af<|Ac rfl<|Ab (FV.neq (i:=v0) (j:=0) rfl rfl)<|Aa<|MX.ifn rfl h (fun z0 h=>?_) (fun z0 h=>?_)
 refine Ao<|Aj<|Af<|Ac rfl<|Ab (FV.lss (i:=a2) (j:=0) rfl rfl)<|Ac rfl<|Bn (s:=31) rfl h (fun A0 h=>?_) (fun A0 h=>?_)
 refine Ah<|Ah<|Ah<|Ah<|Bd rfl rfl<|Ac rfl<|Ah<|Ah<|Ah<|Ah<|Bd rfl rfl<|Aa<|AS rfl<|Af<|Ab (AL (vs:=[]) (u:=.agg #[vW 0]) ai (fun w9=>by kernel_rfl))<|Ae rfl<|AX [vW 0] b0 .hd (o1 rfl) fun F1 c0 s1=>Ae rfl<|Aa<|Aq rfl ?_
 have J0:=Bo (α:=Int) c0 L
 refine Av hb0 func9 rfl (.cons (.tmp rfl) (.cons (.many (cs:=[vW 0]) rfl rfl (c0.memA .hd)) (.cons (.tmp rfl) .nil))) rfl ?_
 cases h
 exact ⟨c0.ag,fun w9 hw9=>⟨vN,rfl,c0.kd J0 hw9⟩⟩
 refine Al (Ag rfl)<|RG.fg 0 rfl<|Al (AM rfl ((b0.memA .t2) 0 _ rfl))<|Al (FV.geq (i:=a2) (j:=a0.fN) rfl rfl)<|Bb rfl rfl<|Ac rfl<|Bn (s:=37) rfl h (fun B0 h=>?_) (fun B0 h=>?_)
 refine Ah<|Ah<|Ah<|Ah<|Bd rfl rfl<|Aa<|AS rfl<|Af<|Ab (AL (vs:=[]) (u:=.agg #[vW 0]) ai (fun w9=>by kernel_rfl))<|Ae rfl<|AX [vW 0] b0 .hd (o1 rfl) fun G1 d0 u1=>Ae rfl<|Aa<|Aq rfl ?_
 have K0:=Bo (α:=Int) d0 L
 refine Av hb0 func9 rfl (.cons (.tmp rfl) (.cons (.many (cs:=[vW 0]) rfl rfl (d0.memA .hd)) (.cons (.tmp rfl) .nil))) rfl ?_
 cases h
 exact ⟨d0.ag,fun w9 hw9=>⟨vN,rfl,d0.kd K0 hw9⟩⟩
 refine Al (Ag rfl)<|Al (Ag rfl)<|bk h fun c1 X0 h=>RG.callq' (v:=.bool c1) (fst:=[]) (cap:=[]) (.yes rfl rfl) (bd 26) rfl (e2 rfl rfl) (fun w9 hw9=>ap_c n (b0.hL0 hL hw9) a1 X0) rfl<|Al (FV.not rfl)<|Bb rfl rfl<|Aa<|MX.ifnb rfl h (fun C0 h=>?_) (fun C0 h=>?_)
 refine Ao<|Aj<|Af<|Ab (AK rfl (b0.memA .t2))<|Ac rfl<|Ac rfl<|bk h fun t0 Y0 h=>BA (vU t0) (bd 27) rfl (e4 rfl rfl rfl rfl) (fun w9 hw9=>ah_c n (b0.hL0 hL hw9) a0 (b0.k0 h0_1 hw9) a1 Y0) rfl<|Ac rfl<|Ab (FV.andU (a:=t0) (b:=a3) rfl rfl)<|Ab (FV.eqlU (a:=t0 &&& a3) (b:=(0:UInt64)) rfl rfl)<|Aa<|AN rfl h (fun D0 h=>?_) (fun D0 h=>?_)
 refine Af<|Ab (AL (vs:=[]) (u:=.agg #[vW 0]) ai (fun w9=>by kernel_rfl))<|Ae rfl<|AX [vW 0] b0 .hd (o1 rfl) fun H1 g0 v1=>Ae rfl<|Aa<|Aq rfl ?_
 have M0:=Bo (α:=Int) g0 L
 refine Av hb0 func9 rfl (.cons (.tmp rfl) (.cons (.many (cs:=[vW 0]) rfl rfl (g0.memA .hd)) (.cons (.tmp rfl) .nil))) rfl ?_
 cases h
 exact ⟨g0.ag,fun w9 hw9=>⟨vN,rfl,g0.kd M0 hw9⟩⟩
 refine Ao<|Af<|Ab (AK rfl (b0.memA .t2))<|Ac rfl<|Ac rfl<|Ac rfl<|Ab (AK rfl (b0.memA .t1))<|bk h fun x0 Z0 h=>jE (bd 28) rfl (e6 rfl rfl rfl rfl rfl rfl) (fun w9 hw9=>aw_c n (b0.hL hL hw9) a0 (b0.km h0_1 hw9) a1 a3 a4 Z0) rfl fun I1 B1 I0 ⟨b1,hu_,P0⟩=>?_
 subst hu_
 obtain ⟨G0,x1⟩:=b0.agr I0
 refine Ab (Am rfl rfl)<|Ab (Am rfl rfl)<|Ab (Am rfl rfl)<|Ae rfl<|AX [vU x0.2.1.fc] G0 .hd (o1 rfl) fun J1 s0 H0=>Ae rfl<|Aa<|Aq rfl<|Av hb0 func9 rfl (.cons (.tmp rfl) (.cons (.many (cs:=[vU x0.2.1.fc]) rfl rfl (s0.memA .hd)) (.cons (.tmp rfl) .nil))) rfl ?_
 cases h
 exact ⟨s0.ag,fun w9 hw9=>⟨b1,rfl,s0.kd (Aw P0 H0) hw9⟩⟩
 refine Af<|Ab (AL (vs:=[]) (u:=.agg #[vW 0]) ai (fun w9=>by kernel_rfl))<|Ae rfl<|AX [vW 0] b0 .hd (o1 rfl) fun K1 j0 y1=>Ae rfl<|Aa<|Aq rfl ?_
 have Q0:=Bo (α:=Int) j0 L
 refine Av hb0 func9 rfl (.cons (.tmp rfl) (.cons (.many (cs:=[vW 0]) rfl rfl (j0.memA .hd)) (.cons (.tmp rfl) .nil))) rfl ?_
 cases h
 exact ⟨j0.ag,fun w9 hw9=>⟨vN,rfl,j0.kd Q0 hw9⟩⟩
 refine Af<|Ab (AL (vs:=[]) (u:=.agg #[vW 0]) ai (fun w9=>by kernel_rfl))<|Ac rfl<|Ae rfl<|AX [vW 0] b0 .hd (o1 rfl) fun M1 p0 z1=>Ae rfl<|Aa<|Aq rfl ?_
 have R0:=Bo (α:=Int) p0 L
 refine Av hb0 func9 rfl (.cons (.tmp rfl) (.cons (.many (cs:=[vW 0]) rfl rfl (p0.memA .hd)) (.cons (.tmp rfl) .nil))) rfl ?_
 cases h
 exact ⟨p0.ag,fun w9 hw9=>⟨vN,rfl,p0.kd R0 hw9⟩⟩
 refine Af<|Ab (AL (vs:=[]) (u:=.agg #[vW 0]) ai (fun w9=>by kernel_rfl))<|Ac rfl<|Ae rfl<|AX [vW 0] b0 .hd (o1 rfl) fun P1 q0 A1=>Ae rfl<|Aa<|Aq rfl ?_
 have U0:=Bo (α:=Int) q0 L
 refine Av hb0 func9 rfl (.cons (.tmp rfl) (.cons (.many (cs:=[vW 0]) rfl rfl (q0.memA .hd)) (.cons (.tmp rfl) .nil))) rfl ?_
 cases h
 exact ⟨q0.ag,fun w9 hw9=>⟨vN,rfl,q0.kd U0 hw9⟩⟩
def aP_p (n:Nat) (a0:Td) (a1:TBend) (a2:UInt64) (a3:UInt64) (a4:Int) (a5:Ta):Option Bool:=
  (a8_p n).bind fun y0=>(if y0 = true then (aa_p n a0).bind fun c0=>(aK c0.fN).bind fun b0=>(bb_p n a1 c0 (a2 &&& ((shlU (1:UInt64) b0) - (1:UInt64)))).bind fun d0=>(cy (ac a4) (ac c0.fN)).bind fun t0=>(ac_p n c0 (a2 &&& ((shlU (1:UInt64) b0) - (1:UInt64))) (ab t0) (a3 &&& ((shlU (1:UInt64) b0) - (1:UInt64))) a5).bind fun s0=>(aq_p n c0 (a2 &&& ((shlU (1:UInt64) b0) - (1:UInt64))) (ab t0) (a3 &&& ((shlU (1:UInt64) b0) - (1:UInt64))) a5).bind fun g0=>(ae_p n s0.1 g0.1).bind fun u0=>(if u0 = true then (if s0.2.1.fc = g0.2.1.fc then (if s0.2.2 = g0.2.2 then (ac_p n c0 a2 a4 a3 a5).bind fun j0=>(aq_p n c0 a2 a4 a3 a5).bind fun k0=>(ae_p n j0.1 k0.1).bind fun v0=>(if v0 = true then (if j0.2.1.fc = k0.2.1.fc then (if j0.2.2 = k0.2.2 then (ac_p n d0.1 d0.2 (ab ((ac a4) % (12:UInt64))) (a3 &&& ((shlU (1:UInt64) b0) - (1:UInt64))) a5).bind fun p0=>(aq_p n d0.1 d0.2 (ab ((ac a4) % (12:UInt64))) (a3 &&& ((shlU (1:UInt64) b0) - (1:UInt64))) a5).bind fun q0=>(ae_p n p0.1 q0.1).bind fun x0=>(if x0 = true then (if p0.2.1.fc = q0.2.1.fc then (if p0.2.2 = q0.2.2 then some true else some false) else some false) else some false) else some false) else some false) else some false) else some false) else some false) else some false) else some false)
theorem aP_c (n:Nat) {L w} (hL:hl L w) (a0:Td) {v0_3:Value} (h0_3:Rep.R w L [v0_3] a0.fm) (a1:TBend) (a2:UInt64) (a3:UInt64) {a4:Int} (a5:Ta) (hG0:Glob 0 tab0 w)  {r:Bool} (h:aP_p n a0 a1 a2 a3 a4 a5 = some r) :
 Cl 3 #[.agg #[.int .u8 (a0.fj.toNat:Int),.int .u8 (a0.fl.toNat:Int),.int .u16 (a0.fk.toNat:Int),v0_3],.agg #[.int .u8 (a1.fWhat.toNat:Int),vI a1.fN,vU a1.fSet],vU a2,vU a3,vI a4,.agg #[vU a5.fc]] w (ah w fun _ u=>u = .bool r):=by
 unfold aP_p at h
 refine AG func3 rfl rfl rfl fun _ cs0 hb0=>Af<|RG.bx (AF w) rfl rfl fun q5 j4 d2 H4=>RG.bx d2 rfl rfl fun A5 s4 s2 I4=>RG.bx s2 rfl rfl fun I5 y4 D0 J4=>Ae rfl<|Aa<|Aj<|Af<|bk h fun W3 K3 h=>BA (.bool W3) (bd 5) rfl ai (fun w9 hw9=>a8_c n (D0.hL0 hL hw9) (hG0.keep (D0.ag.trans hw9)) K3) rfl<|Ab (FV.not rfl)<|Aa<|MX.ifnb rfl h (fun Z1 h=>?_) (fun Z1 h=>?_)
 refine Ao<|Af<|Ab (AK rfl (D0.memA .t2))<|bk h fun g0 M3 h=>jE (bd 6) rfl (e1 rfl) (fun w9 hw9=>aa_c n (D0.hL hL hw9) a0 (D0.km h0_3 hw9) M3) rfl fun R5 d5 Z2 ⟨k0,hu_,u0⟩=>?_
 subst hu_
 obtain ⟨E2,M4⟩:=D0.agr Z2
 refine RG.nl [vI 0,vN] E2 fun U5 z4 F2 g1=>AX [vI g0.fN,k0] F2 .hd (o2 rfl (By (Aw u0 g1))) fun V5 E0 G1=>Aa<|Af<|AT 0 rfl<|AA rfl ((E0.memA .hd) 0 _ rfl)<|bk h fun b0 g3 h=>Ab (FV.shlI (a:=(1:UInt64)) (i:=g0.fN) rfl rfl g3)<|Ab (FV.subU (a:=shlU (1:UInt64) b0) (b:=(1:UInt64)) rfl rfl)<|Ae rfl<|Aa<|Af<|Ab (AK rfl (E0.memA .t2))<|Ab (AK rfl (E0.memA .hd))<|Ac rfl<|Ac rfl<|Ab (FV.andU (a:=a2) (b:=(shlU (1:UInt64) b0) - (1:UInt64)) rfl rfl)<|bk h fun j0 P3 h=>jE (bd 7) rfl (e3 rfl rfl rfl) (fun w9 hw9=>bb_c n (E0.hL hL hw9) a1 g0 (Ax (Aw u0 (Tt g1 G1)) hw9) (a2 &&& ((shlU (1:UInt64) b0) - (1:UInt64))) P3) rfl fun W5 g5 b3 ⟨p0,hu_,G0⟩=>?_
 subst hu_
 obtain ⟨G2,R2⟩:=E0.agr b3
 refine Ac rfl<|Ab (Am rfl rfl)<|Ab (Am rfl rfl)<|RG.nl [vI 0,vN] G2 fun X5 A4 H2 J0=>AX [vI j0.1.fN,p0] H2 .hd (o2 rfl (By (Aw G0 J0))) fun Y5 F0 j1=>Ae rfl<|Aa<|Aj<|Aj<|du 32 fun c0 d0=>Rx 0 1073758208 c0 rfl d0 (AK rfl (F0.memA .t1))<|Rv 1 c0 rfl d0 (fun _=>Ag rfl)<|Rv 2 c0 rfl d0 (fun _=>Ag rfl)<|Rv 3 c0 rfl d0 (fun _=>FV.andU (a:=a2) (b:=(shlU (1:UInt64) b0) - (1:UInt64)) rfl rfl)<|Rv 4 c0 rfl d0 (fun _=>Ag rfl)<|Rv 5 c0 rfl d0 (fun _=>Ag rfl)<|Rv 6 c0 rfl d0 (fun _=>FV.andU (a:=a3) (b:=(shlU (1:UInt64) b0) - (1:UInt64)) rfl rfl)<|Rv 7 c0 rfl d0 (fun _=>Ag rfl)<|Rv 8 c0 rfl d0 (fun _=>FV.convU (i:=a4) underlying3 underlying38 rfl)<|Rv 9 c0 rfl d0 (fun _=>BB 0 rfl)<|Rx 10 1073772544 c0 rfl d0 (AM rfl ((F0.memA .t1) 0 _ rfl))<|Rv 11 c0 rfl d0 (fun _=>FV.convU (i:=g0.fN) underlying3 underlying38 rfl)<|bk h fun v0 v3 h=>Rv 12 c0 rfl d0 (fun _=>FV.remV (a:=ac a4) (b:=ac g0.fN) rfl rfl v3)<|Rv 13 c0 rfl d0 (fun _=>FV.convUI (a:=v0) underlying38 underlying3 rfl) ?_
 have u1:=Tt g1 (Tt G1 (Tt R2 (Tt J0 j1)))
 have p1:=Aw u0 u1
 obtain ⟨X3,C4,x3,_⟩:=Rep.sl p1
 refine Rv 14 c0 rfl d0 (fun _=>AL (vs:=[.agg #[vI g0.fN,k0],vW ((a2 &&& ((shlU (1:UInt64) b0) - (1:UInt64))).toNat:Int),vW ((a3 &&& ((shlU (1:UInt64) b0) - (1:UInt64))).toNat:Int),vI (ab v0)]) (u:=.agg #[vI g0.fN,k0,vW ((a2 &&& ((shlU (1:UInt64) b0) - (1:UInt64))).toNat:Int),vW ((a3 &&& ((shlU (1:UInt64) b0) - (1:UInt64))).toNat:Int),vI (ab v0)]) (e4 rfl rfl rfl rfl) (fun w9=>by rw [x3]; try kernel_rfl))<|Rx 15 1074266112 c0 rfl d0 (AK rfl (F0.memA .t1))<|Rv 16 c0 rfl d0 (fun _=>Ag rfl)<|Rv 17 c0 rfl d0 (fun _=>Ag rfl)<|Rv 18 c0 rfl d0 (fun _=>Ag rfl) ?_
 obtain ⟨Y3,D4,y3,_⟩:=Rep.sl p1
 refine Rv 19 c0 rfl d0 (fun _=>AL (vs:=[.agg #[vI g0.fN,k0],vU a2,vU a3,vI a4]) (u:=.agg #[vI g0.fN,k0,vU a2,vU a3,vI a4]) (e4 rfl rfl rfl rfl) (fun w9=>by rw [y3]; try kernel_rfl))<|Rx 20 1610612736 c0 rfl d0 (AK rfl (F0.memA .hd))<|Rv 21 c0 rfl d0 (fun _=>Ag rfl)<|Rv 22 c0 rfl d0 (fun _=>Ag rfl)<|Rv 23 c0 rfl d0 (fun _=>Ag rfl)<|Rv 24 c0 rfl d0 (fun _=>FV.andU (a:=a3) (b:=(shlU (1:UInt64) b0) - (1:UInt64)) rfl rfl)<|Rv 25 c0 rfl d0 (fun _=>Ag rfl)<|Rv 26 c0 rfl d0 (fun _=>FV.convU (i:=a4) underlying3 underlying38 rfl)<|Rv 27 c0 rfl d0 (fun _=>FV.remU (a:=ac a4) (b:=(12:UInt64)) rfl rfl (by decide))<|Rv 28 c0 rfl d0 (fun _=>FV.convUI (a:=(ac a4) % (12:UInt64)) underlying38 underlying3 rfl) ?_
 have I1:=Aw G0 (Tt J0 j1)
 obtain ⟨Z3,E4,z3,_⟩:=Rep.sl I1
 refine Rv 29 c0 rfl d0 (fun _=>AL (vs:=[.agg #[vI j0.1.fN,p0],vU j0.2,vW ((a3 &&& ((shlU (1:UInt64) b0) - (1:UInt64))).toNat:Int),vI (ab ((ac a4) % (12:UInt64)))]) (u:=.agg #[vI j0.1.fN,p0,vU j0.2,vW ((a3 &&& ((shlU (1:UInt64) b0) - (1:UInt64))).toNat:Int),vI (ab ((ac a4) % (12:UInt64)))]) (e4 rfl rfl rfl rfl) (fun w9=>by rw [z3]; try kernel_rfl)) ?_
 obtain ⟨b4,F4,A3,_⟩:=Rep.sl p1
 obtain ⟨c4,G4,B3,_⟩:=Rep.sl I1
 refine Rv 30 c0 rfl d0 (fun _=>AL (vs:=[.agg #[vI g0.fN,k0,vW ((a2 &&& ((shlU (1:UInt64) b0) - (1:UInt64))).toNat:Int),vW ((a3 &&& ((shlU (1:UInt64) b0) - (1:UInt64))).toNat:Int),vI (ab v0)],.agg #[vI g0.fN,k0,vU a2,vU a3,vI a4],.agg #[vI j0.1.fN,p0,vU j0.2,vW ((a3 &&& ((shlU (1:UInt64) b0) - (1:UInt64))).toNat:Int),vI (ab ((ac a4) % (12:UInt64)))]]) (u:=.agg #[vI g0.fN,k0,vW ((a2 &&& ((shlU (1:UInt64) b0) - (1:UInt64))).toNat:Int),vW ((a3 &&& ((shlU (1:UInt64) b0) - (1:UInt64))).toNat:Int),vI (ab v0),vI g0.fN,k0,vU a2,vU a3,vI a4,vI j0.1.fN,p0,vU j0.2,vW ((a3 &&& ((shlU (1:UInt64) b0) - (1:UInt64))).toNat:Int),vI (ab ((ac a4) % (12:UInt64)))]) (e3 rfl rfl rfl) (fun w9=>by rw [A3,B3]; try kernel_rfl))<|Rv 31 c0 rfl d0 (fun _=>Ag rfl)<|AZ (dk c0)<|Ar<|MX.loop1<|Af<|Ab (Bq (i:=0) (j:=3) rfl rfl)<|Aa<|Aj<|AS rfl<|Ao<|Aj<|Ar<|Af<|Ab (FV.idxN (cs:=[vI g0.fN,k0,vW ((a2 &&& ((shlU (1:UInt64) b0) - (1:UInt64))).toNat:Int),vW ((a3 &&& ((shlU (1:UInt64) b0) - (1:UInt64))).toNat:Int),vI (ab v0),vI g0.fN,k0,vU a2,vU a3,vI a4,vI j0.1.fN,p0,vU j0.2,vW ((a3 &&& ((shlU (1:UInt64) b0) - (1:UInt64))).toNat:Int),vI (ab ((ac a4) % (12:UInt64)))]) (k:=0) (m:=5) (len:=3) rfl rfl rfl rfl rfl (by omega) rfl)<|RG.nl [vI 0,vN,vW 0,vW 0,vI 0] F0 fun Z5 B4 I2 k1=>AX [vI g0.fN,k0,vW ((a2 &&& ((shlU (1:UInt64) b0) - (1:UInt64))).toNat:Int),vW ((a3 &&& ((shlU (1:UInt64) b0) - (1:UInt64))).toNat:Int),vI (ab v0)] I2 .hd (o5 rfl (By (Aw u0 (Tt u1 k1))) rfl rfl rfl) fun b6 z0 H1=>Aa<|Af<|AT 0 rfl<|Ab (FV.loadN (cs:=[vI g0.fN,k0]) rfl rfl (ay (z0.memA .hd) 0 2))<|AT 2 rfl<|AA rfl ((z0.memA .hd) 2 _ rfl)<|AT 4 rfl<|AA rfl ((z0.memA .hd) 4 _ rfl)<|AT 3 rfl<|AA rfl ((z0.memA .hd) 3 _ rfl)<|Ab (AK rfl (z0.memA .t3))<|bk h fun U0 Q3 h=>?_
 have K1:=Tt u1 (Tt k1 H1)
 refine jE (bd 8) rfl (e5 rfl rfl rfl rfl rfl) (fun w9 hw9=>ac_c n (z0.hL hL hw9) g0 (Ax (Aw u0 K1) hw9) (a2 &&& ((shlU (1:UInt64) b0) - (1:UInt64))) (a3 &&& ((shlU (1:UInt64) b0) - (1:UInt64))) a5 (hG0.keep (z0.ag.trans hw9)) Q3) rfl fun c6 j5 c3 ⟨P4,hu_,j3⟩=>?_
 subst hu_
 obtain ⟨J2,v1⟩:=z0.agr c3
 refine Ac rfl<|Ab (Am rfl rfl)<|Ab (Am rfl rfl)<|Ab (Am rfl rfl)<|RG.nl [vW 0] J2 fun k5 d4 b2 V0=>Ae rfl<|AX [vU U0.2.1.fc] b2 .hd (o1 rfl) fun p5 A0 W0=>Ae rfl<|Aa<|Af<|AT 0 rfl<|Ab (FV.loadN (cs:=[vI g0.fN,k0]) rfl rfl (ay (A0.memA .t1) 0 2))<|AT 2 rfl<|AA rfl ((A0.memA .t1) 2 _ rfl)<|AT 4 rfl<|AA rfl ((A0.memA .t1) 4 _ rfl)<|AT 3 rfl<|AA rfl ((A0.memA .t1) 3 _ rfl)<|Ab (AK rfl (A0.memA .t4))<|bk h fun K0 C3 h=>?_
 have J1:=Tt K1 (Tt v1 (Tt V0 W0))
 refine jE (bd 9) rfl (e5 rfl rfl rfl rfl rfl) (fun w9 hw9=>aq_c n (A0.hL hL hw9) g0 (Ax (Aw u0 J1) hw9) (a2 &&& ((shlU (1:UInt64) b0) - (1:UInt64))) (a3 &&& ((shlU (1:UInt64) b0) - (1:UInt64))) a5 C3) rfl fun s5 X4 U2 ⟨Q4,hu_,k3⟩=>?_
 subst hu_
 obtain ⟨c2,X0⟩:=A0.agr U2
 refine Ac rfl<|Ab (Am rfl rfl)<|Ab (Am rfl rfl)<|Ab (Am rfl rfl)<|RG.nl [vW 0] c2 fun t5 g4 g2 H0=>Ae rfl<|AX [vU K0.2.1.fc] g2 .hd (o1 rfl) fun u5 q0 I0=>Ae rfl<|Aa<|Af<|Ac rfl<|Ac rfl<|bk h fun R3 D3 h=>BA (.bool R3) (bd 10) rfl (e2 rfl rfl) (fun w9 hw9=>ae_c n (q0.hL0 hL hw9) (q0.kd (Aw j3 (Tt V0 (Tt W0 (Tt X0 (Tt H0 I0))))) hw9) (q0.kd (Aw k3 (Tt H0 I0)) hw9) D3) rfl<|Ab (FV.not rfl)<|Ac rfl<|RG.ifnb (s:=108) rfl h (fun M1 h=>?_) (fun M1 h=>?_)
 refine Al (AK rfl (q0.memA .t1))<|Al (AK rfl (q0.memA .hd))<|Al (FV.neqV (xs:=([vU U0.2.1.fc]).toArray) (ys:=([vU K0.2.1.fc]).toArray) rfl rfl (by kernel_rfl) (bO U0.2.1.fc K0.2.1.fc))<|Bb rfl rfl<|Ac rfl<|RG.ifn (s:=113) rfl h (fun P1 h=>?_) (fun P1 h=>?_)
 refine Al (Ag rfl)<|Al (Ag rfl)<|Al (FV.neq (i:=U0.2.2) (j:=K0.2.2) rfl rfl)<|Bb rfl rfl<|Aa<|MX.ifn rfl h (fun Q1 h=>?_) (fun Q1 h=>?_)
 refine Ao<|Ap<|Ak<|Ab (FV.add (i:=0) (j:=1) (r:=1) rfl rfl (by decide))<|Ac rfl<|Aa<|MX.again1 ?_
 obtain ⟨j2,x1⟩:=AH q0 (.a5 .done)
 refine Af<|Ab (Bq (i:=1) (j:=3) rfl rfl)<|Aa<|Aj<|AS rfl<|Ao<|Aj<|Ar<|Af<|Ab (FV.idxN (cs:=[vI g0.fN,k0,vW ((a2 &&& ((shlU (1:UInt64) b0) - (1:UInt64))).toNat:Int),vW ((a3 &&& ((shlU (1:UInt64) b0) - (1:UInt64))).toNat:Int),vI (ab v0),vI g0.fN,k0,vU a2,vU a3,vI a4,vI j0.1.fN,p0,vU j0.2,vW ((a3 &&& ((shlU (1:UInt64) b0) - (1:UInt64))).toNat:Int),vI (ab ((ac a4) % (12:UInt64)))]) (k:=1) (m:=5) (len:=3) rfl rfl rfl rfl rfl (by omega) rfl)<|RG.nl [vI 0,vN,vW 0,vW 0,vI 0] j2 fun v5 k4 k2 y1=>?_
 have q1:=Tt J1 (Tt X0 (Tt H0 (Tt I0 (Tt x1 y1))))
 refine AX [vI g0.fN,k0,vU a2,vU a3,vI a4] k2 .hd (o5 rfl (By (Aw u0 q1)) rfl rfl rfl) fun x5 x0 Y0=>Aa<|Af<|AT 0 rfl<|Ab (FV.loadN (cs:=[vI g0.fN,k0]) rfl rfl (ay (x0.memA .hd) 0 2))<|AT 2 rfl<|AA rfl ((x0.memA .hd) 2 _ rfl)<|AT 4 rfl<|AA rfl ((x0.memA .hd) 4 _ rfl)<|AT 3 rfl<|AA rfl ((x0.memA .hd) 3 _ rfl)<|Ab (AK rfl (x0.memA .t1))<|bk h fun M0 E3 h=>jE (bd 8) rfl (e5 rfl rfl rfl rfl rfl) (fun w9 hw9=>ac_c n (x0.hL hL hw9) g0 (Ax (Aw u0 (Tt q1 Y0)) hw9) a2 a3 a5 (hG0.keep (x0.ag.trans hw9)) E3) rfl fun y5 Y4 V2 ⟨R4,hu_,p3⟩=>?_
 subst hu_
 obtain ⟨p2,z1⟩:=x0.agr V2
 refine Ac rfl<|Ab (Am rfl rfl)<|Ab (Am rfl rfl)<|Ab (Am rfl rfl)<|RG.nl [vW 0] p2 fun z5 p4 q2 Z0=>Ae rfl<|AX [vU M0.2.1.fc] q2 .hd (o1 rfl) fun B5 B0 b1=>Ae rfl<|Aa<|Af<|AT 0 rfl<|Ab (FV.loadN (cs:=[vI g0.fN,k0]) rfl rfl (ay (B0.memA .t1) 0 2))<|AT 2 rfl<|AA rfl ((B0.memA .t1) 2 _ rfl)<|AT 4 rfl<|AA rfl ((B0.memA .t1) 4 _ rfl)<|AT 3 rfl<|AA rfl ((B0.memA .t1) 3 _ rfl)<|Ab (AK rfl (B0.memA .t2))<|bk h fun P0 F3 h=>jE (bd 9) rfl (e5 rfl rfl rfl rfl rfl) (fun w9 hw9=>aq_c n (B0.hL hL hw9) g0 (Ax (Aw u0 (Tt q1 (Tt Y0 (Tt z1 (Tt Z0 b1))))) hw9) a2 a3 a5 F3) rfl fun C5 Z4 W2 ⟨U4,hu_,q3⟩=>?_
 subst hu_
 obtain ⟨u2,A1⟩:=B0.agr W2
 refine Ac rfl<|Ab (Am rfl rfl)<|Ab (Am rfl rfl)<|Ab (Am rfl rfl)<|RG.nl [vW 0] u2 fun D5 q4 v2 c1=>Ae rfl<|AX [vU P0.2.1.fc] v2 .hd (o1 rfl) fun E5 s0 d1=>Ae rfl<|Aa<|Af<|Ac rfl<|Ac rfl<|bk h fun U3 G3 h=>BA (.bool U3) (bd 10) rfl (e2 rfl rfl) (fun w9 hw9=>ae_c n (s0.hL0 hL hw9) (s0.kd (Aw p3 (Tt Z0 (Tt b1 (Tt A1 (Tt c1 d1))))) hw9) (s0.kd (Aw q3 (Tt c1 d1)) hw9) G3) rfl<|Ab (FV.not rfl)<|Ac rfl<|RG.ifnb (s:=108) rfl h (fun R1 h=>?_) (fun R1 h=>?_)
 refine Al (AK rfl (s0.memA .t1))<|Al (AK rfl (s0.memA .hd))<|Al (FV.neqV (xs:=([vU M0.2.1.fc]).toArray) (ys:=([vU P0.2.1.fc]).toArray) rfl rfl (by kernel_rfl) (bO M0.2.1.fc P0.2.1.fc))<|Bb rfl rfl<|Ac rfl<|RG.ifn (s:=113) rfl h (fun U1 h=>?_) (fun U1 h=>?_)
 refine Al (Ag rfl)<|Al (Ag rfl)<|Al (FV.neq (i:=M0.2.2) (j:=P0.2.2) rfl rfl)<|Bb rfl rfl<|Aa<|MX.ifn rfl h (fun V1 h=>?_) (fun V1 h=>?_)
 refine Ao<|Ap<|Ak<|Ab (FV.add (i:=1) (j:=1) (r:=2) rfl rfl (by decide))<|Ac rfl<|Aa<|MX.again1 ?_
 obtain ⟨x2,K2⟩:=AH s0 .d3
 refine Af<|Ab (Bq (i:=2) (j:=3) rfl rfl)<|Aa<|Aj<|AS rfl<|Ao<|Aj<|Ar<|Af<|Ab (FV.idxN (cs:=[vI g0.fN,k0,vW ((a2 &&& ((shlU (1:UInt64) b0) - (1:UInt64))).toNat:Int),vW ((a3 &&& ((shlU (1:UInt64) b0) - (1:UInt64))).toNat:Int),vI (ab v0),vI g0.fN,k0,vU a2,vU a3,vI a4,vI j0.1.fN,p0,vU j0.2,vW ((a3 &&& ((shlU (1:UInt64) b0) - (1:UInt64))).toNat:Int),vI (ab ((ac a4) % (12:UInt64)))]) (k:=2) (m:=5) (len:=3) rfl rfl rfl rfl rfl (by omega) rfl)<|RG.nl [vI 0,vN,vW 0,vW 0,vI 0] x2 fun F5 u4 y2 M2=>?_
 have s1:=Tt J0 (Tt j1 (Tt k1 (Tt H1 (Tt v1 (Tt V0 (Tt W0 (Tt X0 (Tt H0 (Tt I0 (Tt x1 (Tt y1 (Tt Y0 (Tt z1 (Tt Z0 (Tt b1 (Tt A1 (Tt c1 (Tt d1 (Tt K2 M2)))))))))))))))))))
 refine AX [vI j0.1.fN,p0,vU j0.2,vW ((a3 &&& ((shlU (1:UInt64) b0) - (1:UInt64))).toNat:Int),vI (ab ((ac a4) % (12:UInt64)))] y2 .hd (o5 rfl (By (Aw G0 s1)) rfl rfl rfl) fun G5 y0 B1=>Aa<|Af<|AT 0 rfl<|Ab (FV.loadN (cs:=[vI j0.1.fN,p0]) rfl rfl (ay (y0.memA .hd) 0 2))<|AT 2 rfl<|AA rfl ((y0.memA .hd) 2 _ rfl)<|AT 4 rfl<|AA rfl ((y0.memA .hd) 4 _ rfl)<|AT 3 rfl<|AA rfl ((y0.memA .hd) 3 _ rfl)<|Ab (AK rfl (y0.memA .t1))<|bk h fun Q0 H3 h=>jE (bd 8) rfl (e5 rfl rfl rfl rfl rfl) (fun w9 hw9=>ac_c n (y0.hL hL hw9) j0.1 (Ax (Aw G0 (Tt s1 B1)) hw9) j0.2 (a3 &&& ((shlU (1:UInt64) b0) - (1:UInt64))) a5 (hG0.keep (y0.ag.trans hw9)) H3) rfl fun H5 b5 X2 ⟨V4,hu_,s3⟩=>?_
 subst hu_
 obtain ⟨z2,P2⟩:=y0.agr X2
 refine Ac rfl<|Ab (Am rfl rfl)<|Ab (Am rfl rfl)<|Ab (Am rfl rfl)<|RG.nl [vW 0] z2 fun J5 v4 A2 C1=>Ae rfl<|AX [vU Q0.2.1.fc] A2 .hd (o1 rfl) fun K5 C0 D1=>Ae rfl<|Aa<|Af<|AT 0 rfl<|Ab (FV.loadN (cs:=[vI j0.1.fN,p0]) rfl rfl (ay (C0.memA .t1) 0 2))<|AT 2 rfl<|AA rfl ((C0.memA .t1) 2 _ rfl)<|AT 4 rfl<|AA rfl ((C0.memA .t1) 4 _ rfl)<|AT 3 rfl<|AA rfl ((C0.memA .t1) 3 _ rfl)<|Ab (AK rfl (C0.memA .t2))<|bk h fun R0 I3 h=>jE (bd 9) rfl (e5 rfl rfl rfl rfl rfl) (fun w9 hw9=>aq_c n (C0.hL hL hw9) j0.1 (Ax (Aw G0 (Tt s1 (Tt B1 (Tt P2 (Tt C1 D1))))) hw9) j0.2 (a3 &&& ((shlU (1:UInt64) b0) - (1:UInt64))) a5 I3) rfl fun M5 c5 Y2 ⟨W4,hu_,u3⟩=>?_
 subst hu_
 obtain ⟨B2,Q2⟩:=C0.agr Y2
 refine Ac rfl<|Ab (Am rfl rfl)<|Ab (Am rfl rfl)<|Ab (Am rfl rfl)<|RG.nl [vW 0] B2 fun P5 x4 C2 E1=>Ae rfl<|AX [vU R0.2.1.fc] C2 .hd (o1 rfl) fun Q5 t0 F1=>Ae rfl<|Aa<|Af<|Ac rfl<|Ac rfl<|bk h fun V3 J3 h=>BA (.bool V3) (bd 10) rfl (e2 rfl rfl) (fun w9 hw9=>ae_c n (t0.hL0 hL hw9) (t0.kd (Aw s3 (Tt C1 (Tt D1 (Tt Q2 (Tt E1 F1))))) hw9) (t0.kd (Aw u3 (Tt E1 F1)) hw9) J3) rfl<|Ab (FV.not rfl)<|Ac rfl<|RG.ifnb (s:=108) rfl h (fun W1 h=>?_) (fun W1 h=>?_)
 refine Al (AK rfl (t0.memA .t1))<|Al (AK rfl (t0.memA .hd))<|Al (FV.neqV (xs:=([vU Q0.2.1.fc]).toArray) (ys:=([vU R0.2.1.fc]).toArray) rfl rfl (by kernel_rfl) (bO Q0.2.1.fc R0.2.1.fc))<|Bb rfl rfl<|Ac rfl<|RG.ifn (s:=113) rfl h (fun X1 h=>?_) (fun X1 h=>?_)
 refine Al (Ag rfl)<|Al (Ag rfl)<|Al (FV.neq (i:=Q0.2.2) (j:=R0.2.2) rfl rfl)<|Bb rfl rfl<|Aa<|MX.ifn rfl h (fun Y1 h=>?_) (fun Y1 h=>?_)
 refine Ao<|Ap<|Ak<|Ab (FV.add (i:=2) (j:=1) (r:=3) rfl rfl (by decide))<|Ac rfl<|Aa<|MX.again1 ?_
 obtain ⟨D2,K4⟩:=AH t0 .d3
 refine Af<|Ab (Bq (i:=3) (j:=3) rfl rfl)<|Aa<|Aj<|Bl rfl<|AV rfl<|Af<|Ae rfl<|Aa<|Aq rfl<|AQ hb0 func3 rfl rfl ?_
 cases h
 exact D2.gv
 refine Af<|Ae rfl<|Aa<|Aq rfl<|AQ hb0 func3 rfl rfl ?_
 cases h
 exact t0.gv
 refine Ah<|Ah<|Ah<|Bd rfl rfl<|Aa<|AS rfl<|Af<|Ae rfl<|Aa<|Aq rfl<|AQ hb0 func3 rfl rfl ?_
 cases h
 exact t0.gv
 refine Ah<|Ah<|Ah<|Bd rfl rfl<|Ac rfl<|Ah<|Ah<|Ah<|Bd rfl rfl<|Aa<|AS rfl<|Af<|Ae rfl<|Aa<|Aq rfl<|AQ hb0 func3 rfl rfl ?_
 cases h
 exact t0.gv
 refine Af<|Ae rfl<|Aa<|Aq rfl<|AQ hb0 func3 rfl rfl ?_
 cases h
 exact s0.gv
 refine Ah<|Ah<|Ah<|Bd rfl rfl<|Aa<|AS rfl<|Af<|Ae rfl<|Aa<|Aq rfl<|AQ hb0 func3 rfl rfl ?_
 cases h
 exact s0.gv
 refine Ah<|Ah<|Ah<|Bd rfl rfl<|Ac rfl<|Ah<|Ah<|Ah<|Bd rfl rfl<|Aa<|AS rfl<|Af<|Ae rfl<|Aa<|Aq rfl<|AQ hb0 func3 rfl rfl ?_
 cases h
 exact s0.gv
 refine Af<|Ae rfl<|Aa<|Aq rfl<|AQ hb0 func3 rfl rfl ?_
 cases h
 exact q0.gv
 refine Ah<|Ah<|Ah<|Bd rfl rfl<|Aa<|AS rfl<|Af<|Ae rfl<|Aa<|Aq rfl<|AQ hb0 func3 rfl rfl ?_
 cases h
 exact q0.gv
 refine Ah<|Ah<|Ah<|Bd rfl rfl<|Ac rfl<|Ah<|Ah<|Ah<|Bd rfl rfl<|Aa<|AS rfl<|Af<|Ae rfl<|Aa<|Aq rfl<|AQ hb0 func3 rfl rfl ?_
 cases h
 exact q0.gv
 refine Af<|Ae rfl<|Aa<|Aq rfl<|AQ hb0 func3 rfl rfl ?_
 cases h
 exact D0.gv

end Go.Proofs.YtlleajifdbnbaaaGreatDoor
