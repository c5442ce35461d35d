import Derived.Test.YtkommhmbkbhmlaaGreatQO10
namespace Go.Proofs.YtkommhmbkbhmlaaGreat
open Go Go.RowKit Tryz
set_option maxRecDepth 4000
set_option maxHeartbeats 4000000

def bs_p (n:Nat) (a0:Ti) (a1:Th) (a2:Th):Option Bool:=
  (bZ_p n).bind fun P0=>(if P0 = true then (al_p n a0).bind fun p0=>(aA_p n a1).bind fun C0=>(aD_p n a1).bind fun q0=>(bt_p n p0 C0).bind fun s0=>(ab_p n (-1:Int) (1:Int)).bind fun F0=>(bv_p n p0 F0).bind fun v0=>(cQ_p n C0).bind fun G0=>(bt_p n v0.1 G0.1).bind fun t0=>(cj_p n ([s0.1,s0.2.1,t0.1]:List Ta)).bind fun x0=>jn (fun D0=>(if D0 = true then some false else (aC_p n p0 q0).bind fun j0=>(ab_p n (0:Int) (1:Int)).bind fun H0=>(if q0 = H0 then (bA_p n j0.1 j0.2 (2:Int)).bind fun I0=>some I0 else (bt_p n p0 j0.1).bind fun k0=>(cJ_p n k0.1 k0.2.1).bind fun y0=>(ci_p n y0.1 q0).bind fun z0=>(ci_p n k0.1 q0).bind fun A0=>jn (fun E0=>(if E0 = true then some false else (aD_p n a2).bind fun u0=>(ab_p n (0:Int) (1:Int)).bind fun J0=>(if u0 = J0 then some true else (aC_p n p0 u0).bind fun B0=>(ci_p n q0 u0).bind fun c0=>(ci_p n j0.1 B0.1).bind fun d0=>(if B0.2 = 0 then (if c0.2 = 0 then (if d0.2 = 0 then (if c0.1 < 0 then (if d0.1 <= 0 then some true else (if 0 < c0.1 then (if 0 <= d0.1 then some true else (if c0.1 = 0 then some (decide (d0.1 = 0)) else some false)) else (if c0.1 = 0 then some (decide (d0.1 = 0)) else some false))) else (if 0 < c0.1 then (if 0 <= d0.1 then some true else (if c0.1 = 0 then some (decide (d0.1 = 0)) else some false)) else (if c0.1 = 0 then some (decide (d0.1 = 0)) else some false))) else some false) else some false) else some false)))) (fun b0=>(if j0.2 = 0 then (if k0.2.2 = 0 then (if y0.2 = 0 then (if z0.2 = 0 then (if A0.2 = 0 then (if z0.1 < 0 then b0 true else (if 0 <= A0.1 then b0 true else (ab_p n (0:Int) (1:Int)).bind fun K0=>b0 (decide (k0.2.1 = K0)))) else b0 true) else b0 true) else b0 true) else b0 true) else b0 true))))) (fun g0=>(if s0.2.2 = 0 then (if v0.2 = 0 then (if t0.2.2 = 0 then (if x0.2 = 0 then (if t0.2.1 = s0.2.1 then (ab_p n (1:Int) (1:Int)).bind fun M0=>g0 (!(decide (x0.1 = M0))) else g0 true) else g0 true) else g0 true) else g0 true) else g0 true)) else some false)
theorem bs_c (n:Nat) {L w} (hL:hl L w) (a0:Ti) {v0_0:Value} (h0_0:Rep.R w L [v0_0] a0.fL) (a1:Th) {v1_1:Value} (h1_1:Rep.R w L [v1_1] a1.fN.fBits) {v1_4:Value} (h1_4:Rep.R w L [v1_4] a1.fD.fBits) (a2:Th) {v2_1:Value} (h2_1:Rep.R w L [v2_1] a2.fN.fBits) {v2_4:Value} (h2_4:Rep.R w L [v2_4] a2.fD.fBits)  {r:Bool} (h:bs_p n a0 a1 a2 = some r) :
 Cl 9 #[.agg #[v0_0],.agg #[.bool a1.fN.fc,v1_1,.int .u32 (a1.fN.fo.toNat:Int),.bool a1.fD.fc,v1_4,.int .u32 (a1.fD.fo.toNat:Int)],.agg #[.bool a2.fN.fc,v2_1,.int .u32 (a2.fN.fo.toNat:Int),.bool a2.fD.fc,v2_4,.int .u32 (a2.fD.fo.toNat:Int)]] w (aj w fun _ u=>u = .bool r):=by
 unfold bs_p at h
 refine AI func9 rfl rfl rfl fun _ cs0 hb0=>Ae<|RG.bx (AH w) rfl rfl fun y7 J6 F3 d7=>RG.bx F3 rfl rfl fun z7 K6 G3 g7=>RG.bx G3 rfl rfl fun A7 X0 B0 p7=>Ag rfl<|Aa<|Ak<|Ae<|bk h fun F6 B6 h=>Be (.bool F6) (bd 12) rfl ar (fun p q=>bZ_c n (B0.hL0 hL q)  B6) rfl<|Ab (FV.not rfl)<|Aa<|MX.ifnb rfl h (fun E3 h=>?_) (fun E3 h=>?_)
 refine Au<|Ak<|du 9 fun p0 z0=>Rx 0 1834 p0 rfl z0 (Aw rfl (B0.memA .t2))<|Rx 2 1832 p0 rfl z0 (Aw rfl (B0.memA .t1))<|Rx 4 1824 p0 rfl z0 (Aw rfl (B0.memA .t1))<|bk h fun G6 u1 h=>bk h fun U0 v1 h=>bk h fun v0 x1 h=>RD.mf (α:=Value × Nat × Nat) (fun ⟨Z0,H0,c1⟩=>[(5,vP X0),(36,Z0),(38,.agg ((ab U0)).toArray),(40,.agg ((ab v0)).toArray),(8,vP c1),(9,vP H0)]) (fun ⟨Z0,H0,c1⟩=>[.cells H0 zL 34,.cells c1 zL 34,.cells X0 [.bool a2.fN.fc,v2_1,.int .u32 (a2.fN.fo.toNat:Int),.bool a2.fD.fc,v2_4,.int .u32 (a2.fD.fo.toNat:Int)] 79]) (fun ⟨Z0,H0,c1⟩ H2=>Rep.R H2 (bl [.cells H0 zL 34,.cells c1 zL 34,.cells X0 [.bool a2.fN.fc,v2_1,.int .u32 (a2.fN.fo.toNat:Int),.bool a2.fD.fc,v2_4,.int .u32 (a2.fD.fo.toNat:Int)] 79] ++ L) [Z0] G6) B0 3 255 ?_ ?_
 rintro ⟨Z0,H0,c1⟩ H2 H3 j7 s1
 try dsimp only
 refine Rv 8 p0 rfl z0 (fun _=>Bf rfl)<|Bs 9 1023 p0 rfl rfl .plain (AB (news:=(ab U0)) H3 .t1 rfl rfl rfl rfl rfl rfl (ai rfl)) fun B7 I3 q2=>Bs 10 2047 p0 rfl rfl .plain (AB (news:=(ab v0)) I3 .hd rfl rfl rfl rfl rfl rfl (ai rfl)) fun C7 D1 s2=>AF (dk p0)<|Ae<|Ac rfl<|Ab (Aw rfl (D1.memA .t1))<|bk h fun q0 W5 h=>Be (.tuple #[.agg ((ab q0.1)).toArray,.agg ((ab q0.2.1)).toArray,vI q0.2.2]) (bd 27) rfl (e2 rfl rfl) (fun p q=>bt_c n (D1.hL0 hL q) (D1.kd (Af s1 (Tt q2 s2)) q) U0 W5) rfl<|Ac rfl<|Ab (Ah rfl rfl)<|Ab (Ah rfl rfl)<|Ab (Ah rfl rfl)<|RG.nl zL D1 fun D7 M6 J3 J4=>RG.nl zL J3 fun E7 P6 K3 K4=>AL (ab q0.1) K3 .t1 (ai rfl) fun F7 M3 M4=>AL (ab q0.2.1) M3 .hd (ai rfl) fun G7 Z1 P4=>Ag rfl<|Aa<|Ae<|Ac rfl<|bk h fun I2 X5 h=>Be (.agg ((ab I2)).toArray) (bd 15) rfl (e2 rfl rfl) (fun p q=>ab_c n (Z1.hL0 hL q)  X5) rfl<|bk h fun D6 Y5 h=>?_
 have B2:=Tt q2 (Tt s2 (Tt J4 (Tt K4 (Tt M4 P4))))
 refine jE (bd 29) rfl (e2 rfl rfl) (fun p q=>bv_c n (Z1.hL hL q) (Ai (Af s1 B2) q) I2 Y5) rfl fun H7 v7 R5 ⟨u7,hu_,U5⟩=>?_
 subst hu_
 obtain ⟨b2,Q4⟩:=Z1.agr R5
 refine Ac rfl<|Ab (Ah rfl rfl)<|Ab (Ah rfl rfl)<|Ag rfl<|Ag rfl<|Aa<|Ae<|Ab (Aw rfl (b2.memA .t3))<|bk h fun U1 Z5 h=>Be (.tuple #[.agg ((ab U1.1)).toArray,vI U1.2]) (bd 55) rfl (e1 rfl) (fun p q=>cQ_c n (b2.hL0 hL q) U0 Z5) rfl<|Ac rfl<|Ab (Ah rfl rfl)<|Ab (Ah rfl rfl)<|RG.nl zL b2 fun I7 Q6 P3 u2=>AL (ab U1.1) P3 .hd (ai rfl) fun J7 E1 v2=>Ag rfl<|Aa<|Ae<|Ac rfl<|Ab (Aw rfl (E1.memA .hd))<|bk h fun t0 b6 h=>Be (.tuple #[.agg ((ab t0.1)).toArray,.agg ((ab t0.2.1)).toArray,vI t0.2.2]) (bd 27) rfl (e2 rfl rfl) (fun p q=>bt_c n (E1.hL0 hL q) (E1.kd (Af U5 (Tt u2 v2)) q) U1.1 b6) rfl<|Ac rfl<|Ab (Ah rfl rfl)<|Ab (Ah rfl rfl)<|Ab (Ah rfl rfl)<|RG.nl zL E1 fun K7 R6 Q3 R4=>RG.nl zL Q3 fun M7 U6 R3 U4=>AL (ab t0.1) R3 .t1 (ai rfl) fun P7 U3 V4=>AL (ab t0.2.1) U3 .hd (ai rfl) fun Q7 F1 W4=>Ag rfl<|Aa<|Ae<|Ab (Aw rfl (F1.memA .t4))<|Ab (Aw rfl (F1.memA .t3))<|Ab (Aw rfl (F1.memA .t1)) ?_
 refine Al .plain rfl (AP (α:=Ta) (xs:=([q0.1,q0.2.1,t0.1]:List Ta)) (vs:=[.agg ((ab q0.1)).toArray,.agg ((ab q0.2.1)).toArray,.agg ((ab t0.1)).toArray]) (ds' :=(ab q0.1 ++ ab q0.2.1 ++ ab t0.1)) rfl F1 eF rfl (e3 rfl rfl rfl) (by kernel_rfl) rfl) fun R7 V6 G1 X4=>bk h fun b1 c6 h=>Be (.tuple #[.agg ((ab b1.1)).toArray,vI b1.2]) (bd 56) rfl (e1 rfl) (fun p q=>cj_c n (G1.hL0 hL q) (Ai (St.lend (α:=Ta) (L:=L) G1 .hd (AJ (cs:=(ab q0.1 ++ ab q0.2.1 ++ ab t0.1)) (xs:=(([q0.1,q0.2.1,t0.1]:List Ta):List Ta)) G1 L (AD (cs:=(ab q0.1)) (ds:=(ab q0.2.1 ++ ab t0.1)) (bn q0.1.fN q0.1.fD) (AD (cs:=(ab q0.2.1)) (ds:=(ab t0.1)) (bn q0.2.1.fN q0.2.1.fD) (AD (cs:=(ab t0.1)) (ds:=[]) (bn t0.1.fN t0.1.fD) (AN _ _))))) hL) q) c6) rfl<|Ac rfl<|Ab (Ah rfl rfl)<|Ab (Ah rfl rfl)<|RG.nl zL G1 fun U7 W6 V3 Y4=>AL (ab b1.1) V3 .hd (ai rfl) fun V7 C0 Z4=>Ag rfl<|Aa<|Ak<|Ak<|MX.jo (α:=Bool) (fun y1=>[(5,vP X0),(9,vP H0),(7,Z0),(97,.bool y1)]) (fun y1=>[.cells H0 (ab v0) 34,.cells X0 [.bool a2.fN.fc,v2_1,.int .u32 (a2.fN.fo.toNat:Int),.bool a2.fD.fc,v2_4,.int .u32 (a2.fD.fo.toNat:Int)] 79]) (fun y1=>y1) C0 h ?_ ?_
 rintro y1 t8 q1 b5 h
 try dsimp only at h
 refine MX.ifb rfl h (fun J2 h=>?_) (fun J2 h=>?_)
 refine Ae<|Ag rfl<|Aa<|Aq rfl<|Bk hb0 func9 rfl rfl ?_
 cases h
 exact q1.gv
 refine Au<|Ae<|Ac rfl<|Ab (Aw rfl (q1.memA .hd))<|bk h fun W0 d6 h=>?_
 have C2:=Tt B2 (Tt Q4 (Tt u2 (Tt v2 (Tt R4 (Tt U4 (Tt V4 (Tt W4 (Tt X4 (Tt Y4 (Tt Z4 b5))))))))))
 refine Be (.tuple #[.agg ((ab W0.1)).toArray,vI W0.2]) (bd 21) rfl (e2 rfl rfl) (fun p q=>aC_c n (q1.hL0 hL q) (q1.kd (Af s1 C2) q) v0 d6) rfl<|Ac rfl<|Ab (Ah rfl rfl)<|Ab (Ah rfl rfl)<|RG.nl zL q1 fun W7 p2 W3 c5=>AL (ab W0.1) W3 .hd (ai rfl) fun C6 I0 d5=>Ag rfl<|Aa<|Ak<|Ak<|du 3 fun J1 d2=>Rx 0 4 J1 rfl d2 (Aw rfl (I0.memA .t1))<|bk h fun j2 g6 h=>RD.cq 1 3 4 (.agg ((ab j2)).toArray) J1 rfl d2 (bd 15) rfl (e2 rfl rfl) (fun p q=>ab_c n (I0.hL0 hL q)  g6) rfl<|Rv 2 J1 rfl d2 (fun _=>FV.eqlV (v:=.agg ((ab v0)).toArray) (u:=.agg ((ab j2)).toArray) rfl rfl (cd v0 j2))<|AF (dk J1)<|AT rfl h (fun K2 h=>?_) (fun K2 h=>?_)
 refine Ak<|du 5 fun k1 I1=>Rx 1 24 k1 rfl I1 (Aw rfl (I0.memA .hd))<|Rv 2 k1 rfl I1 (fun _=>Am rfl)<|AW 0 7 k1 rfl .plain (bd 18) rfl (e1 rfl) (fun p q=>Calls.gives (cS_c n (I0.hL hL q) (2:Int)) fun (w8:World) (u8:Value) ⟨b0_,hu_,s_⟩=>(⟨b0_,hu_,s_.from q⟩:∃ C1:Nat,u8 = Value.func (.func 74) #[] #[vP C1]/\St C6 w8 [.cells C1 [vI 2] 27])) rfl fun X7 x7 t7 ⟨C1,V5,G2⟩=>?_
 subst V5
 have c2:=bJ I0 G2
 have k7:=dm I0 G2
 refine bk h fun E6 j6 h=>RD.callq (i:=3) (m' :=15) (W:=16) (tk k1) rfl I1 (v:=.bool E6) (fst:=[]) (cap:=[vP C1]) .plain (bd 74) rfl (e2 rfl rfl) (fun p q=>bA_c n (c2.hL0 hL q) W0.1 (aH q (c2.memA .hd)) j6) rfl<|Rv 4 k1 rfl I1 (fun _=>Bf rfl)<|AF (dk k1)<|Aq rfl<|Bk hb0 func9 rfl rfl ?_
 cases h
 exact c2.gv
 refine Au<|Ae<|Ac rfl<|Ab (Aw rfl (I0.memA .hd))<|bk h fun A0 k6 h=>?_
 have D2:=Tt C2 (Tt c5 d5)
 refine Be (.tuple #[.agg ((ab A0.1)).toArray,.agg ((ab A0.2.1)).toArray,vI A0.2.2]) (bd 27) rfl (e2 rfl rfl) (fun p q=>bt_c n (I0.hL0 hL q) (I0.kd (Af s1 D2) q) W0.1 k6) rfl<|Ac rfl<|Ab (Ah rfl rfl)<|Ab (Ah rfl rfl)<|Ab (Ah rfl rfl)<|RG.nl zL I0 fun Y7 X6 X3 g5=>RG.nl zL X3 fun Z7 Y6 Y3 j5=>AL (ab A0.1) Y3 .t1 (ai rfl) fun b8 Z3 k5=>AL (ab A0.2.1) Z3 .hd (ai rfl) fun c8 H1 p5=>Ag rfl<|Aa<|Ae<|Ab (Aw rfl (H1.memA .t1))<|Ab (Aw rfl (H1.memA .hd))<|bk h fun A1 p6 h=>Be (.tuple #[.agg ((ab A1.1)).toArray,vI A1.2]) (bd 52) rfl (e2 rfl rfl) (fun p q=>cJ_c n (H1.hL0 hL q) A0.1 A0.2.1 p6) rfl<|Ac rfl<|Ab (Ah rfl rfl)<|Ab (Ah rfl rfl)<|RG.nl zL H1 fun g8 Z6 b4 q5=>AL (ab A1.1) b4 .hd (ai rfl) fun j8 u0 s5=>Ag rfl<|Aa<|Ae<|Ab (Aw rfl (u0.memA .hd))<|Ab (Aw rfl (u0.memA .t4))<|bk h fun V1 q6 h=>Be (.tuple #[vI V1.1,vI V1.2]) (bd 54) rfl (e2 rfl rfl) (fun p q=>ci_c n (u0.hL0 hL q) A1.1 v0 q6) rfl<|Ac rfl<|Ab (Ah rfl rfl)<|Ab (Ah rfl rfl)<|Ag rfl<|Ag rfl<|Aa<|Ae<|Ab (Aw rfl (u0.memA .t2))<|Ab (Aw rfl (u0.memA .t4))<|bk h fun W1 s6 h=>Be (.tuple #[vI W1.1,vI W1.2]) (bd 54) rfl (e2 rfl rfl) (fun p q=>ci_c n (u0.hL0 hL q) A0.1 v0 s6) rfl ?_
 refine Ac rfl<|Ab (Ah rfl rfl)<|Ab (Ah rfl rfl)<|Ag rfl<|Ag rfl<|Aa<|Ak<|Ak<|MX.jo (α:=Bool) (fun z1=>[(5,vP X0),(9,vP H0),(7,Z0),(22,vP p2),(166,.bool z1)]) (fun z1=>[.cells p2 (ab W0.1) 34,.cells H0 (ab v0) 34,.cells X0 [.bool a2.fN.fc,v2_1,.int .u32 (a2.fN.fo.toNat:Int),.bool a2.fD.fc,v2_4,.int .u32 (a2.fD.fo.toNat:Int)] 79]) (fun z1=>z1) u0 h ?_ ?_
 rintro z1 v8 j1 u5 h
 try dsimp only at h
 refine MX.ifb rfl h (fun M2 h=>?_) (fun M2 h=>?_)
 refine Ae<|Ag rfl<|Aa<|Aq rfl<|Bk hb0 func9 rfl rfl ?_
 cases h
 exact j1.gv
 refine Au<|Ae<|Ab (Aw rfl (j1.memA .t2))<|bk h fun p1 t6 h=>Be (.agg ((ab p1)).toArray) (bd 48) rfl (e1 rfl) (fun p q=>aD_c n (j1.hL0 hL q) a2 (j1.k0 h2_1 q) (j1.k0 h2_4 q) t6) rfl<|RG.nl zL j1 fun k8 b7 c4 v5=>AL (ab p1) c4 .hd (ai rfl) fun p8 Y0 x5=>Aa<|Ak<|Ak<|du 3 fun K1 g2=>Rx 0 4 K1 rfl g2 (Aw rfl (Y0.memA .hd))<|bk h fun k2 u6 h=>RD.cq 1 3 4 (.agg ((ab k2)).toArray) K1 rfl g2 (bd 15) rfl (e2 rfl rfl) (fun p q=>ab_c n (Y0.hL0 hL q)  u6) rfl<|Rv 2 K1 rfl g2 (fun _=>FV.eqlV (v:=.agg ((ab p1)).toArray) (u:=.agg ((ab k2)).toArray) rfl rfl (cd p1 k2))<|AF (dk K1)<|AT rfl h (fun P2 h=>?_) (fun P2 h=>?_)
 refine Ae<|Ag rfl<|Aa<|Aq rfl<|Bk hb0 func9 rfl rfl ?_
 cases h
 exact Y0.gv
 refine Au<|Ae<|Ac rfl<|Ab (Aw rfl (Y0.memA .hd))<|bk h fun B1 v6 h=>Be (.tuple #[.agg ((ab B1.1)).toArray,vI B1.2]) (bd 21) rfl (e2 rfl rfl) (fun p q=>aC_c n (Y0.hL0 hL q) (Y0.kd (Af s1 (Tt D2 (Tt g5 (Tt j5 (Tt k5 (Tt p5 (Tt q5 (Tt s5 (Tt u5 (Tt v5 x5)))))))))) q) p1 v6) rfl<|Ac rfl<|Ab (Ah rfl rfl)<|Ab (Ah rfl rfl)<|RG.nl zL Y0 fun q8 c7 d4 q7=>AL (ab B1.1) d4 .hd (ai rfl) fun s8 s0 s7=>Ag rfl<|Aa<|Ae<|Ab (Aw rfl (s0.memA .t3))<|Ab (Aw rfl (s0.memA .t1))<|bk h fun P0 x6 h=>Be (.tuple #[vI P0.1,vI P0.2]) (bd 54) rfl (e2 rfl rfl) (fun p q=>ci_c n (s0.hL0 hL q) v0 p1 x6) rfl<|Ac rfl<|Ab (Ah rfl rfl)<|Ab (Ah rfl rfl)<|Ag rfl<|Ag rfl<|Aa<|Ae<|Ab (Aw rfl (s0.memA .t2))<|Ab (Aw rfl (s0.memA .hd))<|bk h fun Q0 y6 h=>Be (.tuple #[vI Q0.1,vI Q0.2]) (bd 54) rfl (e2 rfl rfl) (fun p q=>ci_c n (s0.hL0 hL q) W0.1 B1.1 y6) rfl<|Ac rfl<|Ab (Ah rfl rfl)<|Ab (Ah rfl rfl)<|Ag rfl<|Ag rfl<|Aa<|Ak<|Ap<|Ac rfl<|Ab (FV.eql (i:=B1.2) (j:=0) rfl rfl)<|Ac rfl<|RG.ifd (s:=192) rfl h (fun Q2 h=>?_) (fun Q2 h=>?_)
 refine AO (Am rfl)<|AO (FV.eql (i:=P0.2) (j:=0) rfl rfl)<|BN rfl rfl<|Ac rfl<|RG.ifd (s:=196) rfl h (fun R2 h=>?_) (fun R2 h=>?_)
 refine AO (Am rfl)<|AO (FV.eql (i:=Q0.2) (j:=0) rfl rfl)<|BN rfl rfl<|Ac rfl<|RG.ifd (s:=200) rfl h (fun U2 h=>?_) (fun U2 h=>?_)
 refine AO (Am rfl)<|AO (FV.lss (i:=P0.1) (j:=0) rfl rfl)<|AO (Am rfl)<|RG.ifd (s:=203) rfl h (fun V2 h=>?_) (fun V2 h=>?_)
 refine AO (Am rfl)<|AO (FV.leq (i:=Q0.1) (j:=0) rfl rfl)<|AO (AV rfl rfl)<|AO (Am rfl)<|RG.ifd (s:=207) rfl h (fun W2 h=>?_) (fun W2 h=>?_)
 refine Av<|Av<|Av<|BL<|BL<|Av<|AO (AV rfl rfl)<|AO (Am rfl)<|Av<|Av<|Av<|BL<|BL<|Av<|AO (AV rfl rfl)<|BN rfl rfl<|Ag rfl<|Aa<|Aq rfl<|Bk hb0 func9 rfl rfl ?_
 cases h
 exact s0.gv
 refine AO (Am rfl)<|AO (FV.gtr (i:=P0.1) (j:=0) rfl rfl)<|AO (Am rfl)<|RG.ifd (s:=210) rfl h (fun X2 h=>?_) (fun X2 h=>?_)
 refine AO (Am rfl)<|AO (FV.geq (i:=Q0.1) (j:=0) rfl rfl)<|AO (AV rfl rfl)<|AO (AS rfl rfl)<|AO (Am rfl)<|RG.ifd (s:=215) rfl h (fun Y2 h=>?_) (fun Y2 h=>?_)
 refine Av<|Av<|Av<|BL<|BL<|Av<|AO (AV rfl rfl)<|BN rfl rfl<|Ag rfl<|Aa<|Aq rfl<|Bk hb0 func9 rfl rfl ?_
 cases h
 exact s0.gv
 refine AO (Am rfl)<|AO (FV.eql (i:=P0.1) (j:=0) rfl rfl)<|AO (Am rfl)<|RG.ifd (s:=218) rfl h (fun Z2 h=>?_) (fun Z2 h=>?_)
 refine AO (Am rfl)<|AO (FV.eql (i:=Q0.1) (j:=0) rfl rfl)<|AO (AV rfl rfl)<|AO (AS rfl rfl)<|BN rfl rfl<|Ag rfl<|Aa<|Aq rfl<|Bk hb0 func9 rfl rfl ?_
 cases h
 exact s0.gv
 refine Av<|Av<|AO (AS rfl rfl)<|AO (AS rfl rfl)<|BN rfl rfl<|Ag rfl<|Aa<|Aq rfl<|Bk hb0 func9 rfl rfl ?_
 cases h
 exact s0.gv
 refine Av<|Av<|AO (AS rfl rfl)<|AO (AS rfl rfl)<|AO (Am rfl)<|AO (Am rfl)<|AO (FV.eql (i:=P0.1) (j:=0) rfl rfl)<|AO (Am rfl)<|RG.ifd (s:=218) rfl h (fun b3 h=>?_) (fun b3 h=>?_)
 refine AO (Am rfl)<|AO (FV.eql (i:=Q0.1) (j:=0) rfl rfl)<|AO (AV rfl rfl)<|AO (AS rfl rfl)<|BN rfl rfl<|Ag rfl<|Aa<|Aq rfl<|Bk hb0 func9 rfl rfl ?_
 cases h
 exact s0.gv
 refine Av<|Av<|AO (AS rfl rfl)<|AO (AS rfl rfl)<|BN rfl rfl<|Ag rfl<|Aa<|Aq rfl<|Bk hb0 func9 rfl rfl ?_
 cases h
 exact s0.gv
 refine Av<|Av<|AO (AS rfl rfl)<|AO (Am rfl)<|AO (Am rfl)<|AO (FV.gtr (i:=P0.1) (j:=0) rfl rfl)<|AO (Am rfl)<|RG.ifd (s:=210) rfl h (fun c3 h=>?_) (fun c3 h=>?_)
 refine AO (Am rfl)<|AO (FV.geq (i:=Q0.1) (j:=0) rfl rfl)<|AO (AV rfl rfl)<|AO (AS rfl rfl)<|AO (Am rfl)<|RG.ifd (s:=215) rfl h (fun g3 h=>?_) (fun g3 h=>?_)
 refine Av<|Av<|Av<|BL<|BL<|Av<|AO (AV rfl rfl)<|BN rfl rfl<|Ag rfl<|Aa<|Aq rfl<|Bk hb0 func9 rfl rfl ?_
 cases h
 exact s0.gv
 refine AO (Am rfl)<|AO (FV.eql (i:=P0.1) (j:=0) rfl rfl)<|AO (Am rfl)<|RG.ifd (s:=218) rfl h (fun j3 h=>?_) (fun j3 h=>?_)
 refine AO (Am rfl)<|AO (FV.eql (i:=Q0.1) (j:=0) rfl rfl)<|AO (AV rfl rfl)<|AO (AS rfl rfl)<|BN rfl rfl<|Ag rfl<|Aa<|Aq rfl<|Bk hb0 func9 rfl rfl ?_
 cases h
 exact s0.gv
 refine Av<|Av<|AO (AS rfl rfl)<|AO (AS rfl rfl)<|BN rfl rfl<|Ag rfl<|Aa<|Aq rfl<|Bk hb0 func9 rfl rfl ?_
 cases h
 exact s0.gv
 refine Av<|Av<|AO (AS rfl rfl)<|AO (AS rfl rfl)<|AO (Am rfl)<|AO (Am rfl)<|AO (FV.eql (i:=P0.1) (j:=0) rfl rfl)<|AO (Am rfl)<|RG.ifd (s:=218) rfl h (fun k3 h=>?_) (fun k3 h=>?_)
 refine AO (Am rfl)<|AO (FV.eql (i:=Q0.1) (j:=0) rfl rfl)<|AO (AV rfl rfl)<|AO (AS rfl rfl)<|BN rfl rfl<|Ag rfl<|Aa<|Aq rfl<|Bk hb0 func9 rfl rfl ?_
 cases h
 exact s0.gv
 refine Av<|Av<|AO (AS rfl rfl)<|AO (AS rfl rfl)<|BN rfl rfl<|Ag rfl<|Aa<|Aq rfl<|Bk hb0 func9 rfl rfl ?_
 cases h
 exact s0.gv
 refine Av<|Av<|Av<|BL<|BL<|Av<|Av<|BL<|BL<|BL<|BL<|BL<|BL<|Av<|Av<|BL<|BL<|BL<|BL<|BL<|BL<|Av<|BG rfl rfl<|Ag rfl<|Aa<|Aq rfl<|Bk hb0 func9 rfl rfl ?_
 cases h
 exact s0.gv
 refine Av<|Av<|BG rfl rfl<|Ac rfl<|Av<|Av<|Av<|BL<|BL<|Av<|Av<|BL<|BL<|BL<|BL<|BL<|BL<|Av<|Av<|BL<|BL<|BL<|BL<|BL<|BL<|Av<|BG rfl rfl<|Ag rfl<|Aa<|Aq rfl<|Bk hb0 func9 rfl rfl ?_
 cases h
 exact s0.gv
 refine Av<|Av<|BG rfl rfl<|Ac rfl<|Av<|Av<|BG rfl rfl<|Ac rfl<|Av<|Av<|Av<|BL<|BL<|Av<|Av<|BL<|BL<|BL<|BL<|BL<|BL<|Av<|Av<|BL<|BL<|BL<|BL<|BL<|BL<|Av<|BG rfl rfl<|Ag rfl<|Aa<|Aq rfl<|Bk hb0 func9 rfl rfl ?_
 cases h
 exact s0.gv
 intro I6 V0 h
 try dsimp only at h
 refine du 31 fun b0 c0=>Rv 0 b0 rfl c0 (fun _=>Am rfl)<|Rv 1 b0 rfl c0 (fun _=>BH (i:=W0.2) (j:=0) rfl rfl)<|Rv 2 b0 rfl c0 (fun _=>Am rfl)<|RD.ifn (s:=138) rfl h (fun p3 h=>?_) (fun p3 h=>?_)
 refine BJ 3 15 b0 rfl c0 (.yes rfl rfl) (fun _=>Am rfl) rfl<|BJ 4 31 b0 rfl c0 (.yes rfl rfl) (fun _=>BH (i:=A0.2.2) (j:=0) rfl rfl) rfl<|Rv 5 b0 rfl c0 (fun _=>AS rfl rfl)<|Rv 6 b0 rfl c0 (fun _=>Am rfl)<|RD.ifn (s:=142) rfl h (fun q3 h=>?_) (fun q3 h=>?_)
 refine BJ 7 255 b0 rfl c0 (.yes rfl rfl) (fun _=>Am rfl) rfl<|BJ 8 511 b0 rfl c0 (.yes rfl rfl) (fun _=>BH (i:=A1.2) (j:=0) rfl rfl) rfl<|Rv 9 b0 rfl c0 (fun _=>AS rfl rfl)<|Rv 10 b0 rfl c0 (fun _=>Am rfl)<|RD.ifn (s:=146) rfl h (fun s3 h=>?_) (fun s3 h=>?_)
 refine BJ 11 4095 b0 rfl c0 (.yes rfl rfl) (fun _=>Am rfl) rfl<|BJ 12 8191 b0 rfl c0 (.yes rfl rfl) (fun _=>BH (i:=V1.2) (j:=0) rfl rfl) rfl<|Rv 13 b0 rfl c0 (fun _=>AS rfl rfl)<|Rv 14 b0 rfl c0 (fun _=>Am rfl)<|RD.ifn (s:=150) rfl h (fun u3 h=>?_) (fun u3 h=>?_)
 refine BJ 15 65535 b0 rfl c0 (.yes rfl rfl) (fun _=>Am rfl) rfl<|BJ 16 131071 b0 rfl c0 (.yes rfl rfl) (fun _=>BH (i:=W1.2) (j:=0) rfl rfl) rfl<|Rv 17 b0 rfl c0 (fun _=>AS rfl rfl)<|Rv 18 b0 rfl c0 (fun _=>Am rfl)<|RD.ifn (s:=154) rfl h (fun v3 h=>?_) (fun v3 h=>?_)
 refine BJ 19 1048575 b0 rfl c0 (.yes rfl rfl) (fun _=>Am rfl) rfl<|BJ 20 2097151 b0 rfl c0 (.yes rfl rfl) (fun _=>FV.lss (i:=V1.1) (j:=0) rfl rfl) rfl<|Rv 21 b0 rfl c0 (fun _=>AS rfl rfl)<|Rv 22 b0 rfl c0 (fun _=>Am rfl)<|RD.ifd (s:=158) rfl h (fun x3 h=>?_) (fun x3 h=>?_)
 refine AZ 33554431 6 [(23,159),(24,160)] (F:=[(158,true)]) (U:=[]) b0 c0 (.cons rfl .nil) .nil ?_
 dsimp only [az,List.map]
 refine Rv 25 b0 rfl c0 (fun _=>AV rfl rfl)<|Rv 26 b0 rfl c0 (fun _=>Am rfl)<|AZ 1073741823 1 [(27,163),(28,164),(29,165)] (F:=[(162,true)]) (U:=[]) b0 c0 (.cons rfl .nil) .nil ?_
 dsimp only [az,List.map]
 refine Rv 30 b0 rfl c0 (fun _=>AV rfl rfl)<|AF (dk b0) ?_
 obtain ⟨g4,y5⟩:=Ay u0 .d3
 exact V0 true g4 y5 h
 refine BJ 23 16777215 b0 rfl c0 (.yes rfl rfl) (fun _=>Am rfl) rfl<|BJ 24 33554431 b0 rfl c0 (.yes rfl rfl) (fun _=>FV.geq (i:=W1.1) (j:=0) rfl rfl) rfl<|Rv 25 b0 rfl c0 (fun _=>AS rfl rfl)<|Rv 26 b0 rfl c0 (fun _=>Am rfl)<|RD.ifd (s:=162) rfl h (fun y3 h=>?_) (fun y3 h=>?_)
 refine AZ 1073741823 1 [(27,163),(28,164),(29,165)] (F:=[(162,true)]) (U:=[]) b0 c0 (.cons rfl .nil) .nil ?_
 dsimp only [az,List.map]
 refine Rv 30 b0 rfl c0 (fun _=>AV rfl rfl)<|AF (dk b0) ?_
 obtain ⟨j4,z5⟩:=Ay u0 .d3
 exact V0 true j4 z5 h
 refine RD.val (i:=27) (m' :=268435455) (W:=1610612736) (tk b0) rfl c0 (.yes rfl rfl) (Aw rfl (u0.memA .t1)) rfl<|bk h fun X1 z6 h=>RD.callq (i:=28) (m' :=536870911) (W:=1610612736) (tk b0) rfl c0 (v:=.agg ((ab X1)).toArray) (fst:=[]) (cap:=[]) (.yes rfl rfl) (bd 15) rfl (e2 rfl rfl) (fun p q=>ab_c n (u0.hL0 hL q)  z6) rfl<|BJ 29 1073741823 b0 rfl c0 (.yes rfl rfl) (fun _=>FV.eqlV (v:=.agg ((ab A0.2.1)).toArray) (u:=.agg ((ab X1)).toArray) rfl rfl (cd A0.2.1 X1)) rfl<|Rv 30 b0 rfl c0 (fun _=>AS rfl rfl)<|AF (dk b0) ?_
 obtain ⟨k4,A5⟩:=Ay u0 .d3
 exact V0 (decide (A0.2.1 = X1)) k4 A5 h
 refine AZ 2097151 10 [(19,155),(20,156)] (F:=[(154,true)]) (U:=[]) b0 c0 (.cons rfl .nil) .nil ?_
 dsimp only [az,List.map]
 refine Rv 21 b0 rfl c0 (fun _=>AV rfl rfl)<|Rv 22 b0 rfl c0 (fun _=>Am rfl)<|AZ 33554431 6 [(23,159),(24,160)] (F:=[(158,true)]) (U:=[]) b0 c0 (.cons rfl .nil) .nil ?_
 dsimp only [az,List.map]
 refine Rv 25 b0 rfl c0 (fun _=>AV rfl rfl)<|Rv 26 b0 rfl c0 (fun _=>Am rfl)<|AZ 1073741823 1 [(27,163),(28,164),(29,165)] (F:=[(162,true)]) (U:=[]) b0 c0 (.cons rfl .nil) .nil ?_
 dsimp only [az,List.map]
 refine Rv 30 b0 rfl c0 (fun _=>AV rfl rfl)<|AF (dk b0) ?_
 obtain ⟨p4,B5⟩:=Ay u0 .d3
 exact V0 true p4 B5 h
 refine AZ 131071 14 [(15,151),(16,152)] (F:=[(150,true)]) (U:=[]) b0 c0 (.cons rfl .nil) .nil ?_
 dsimp only [az,List.map]
 refine Rv 17 b0 rfl c0 (fun _=>AV rfl rfl)<|Rv 18 b0 rfl c0 (fun _=>Am rfl)<|AZ 2097151 10 [(19,155),(20,156)] (F:=[(154,true)]) (U:=[]) b0 c0 (.cons rfl .nil) .nil ?_
 dsimp only [az,List.map]
 refine Rv 21 b0 rfl c0 (fun _=>AV rfl rfl)<|Rv 22 b0 rfl c0 (fun _=>Am rfl)<|AZ 33554431 6 [(23,159),(24,160)] (F:=[(158,true)]) (U:=[]) b0 c0 (.cons rfl .nil) .nil ?_
 dsimp only [az,List.map]
 refine Rv 25 b0 rfl c0 (fun _=>AV rfl rfl)<|Rv 26 b0 rfl c0 (fun _=>Am rfl)<|AZ 1073741823 1 [(27,163),(28,164),(29,165)] (F:=[(162,true)]) (U:=[]) b0 c0 (.cons rfl .nil) .nil ?_
 dsimp only [az,List.map]
 refine Rv 30 b0 rfl c0 (fun _=>AV rfl rfl)<|AF (dk b0) ?_
 obtain ⟨q4,C5⟩:=Ay u0 .d3
 exact V0 true q4 C5 h
 refine AZ 8191 18 [(11,147),(12,148)] (F:=[(146,true)]) (U:=[]) b0 c0 (.cons rfl .nil) .nil ?_
 dsimp only [az,List.map]
 refine Rv 13 b0 rfl c0 (fun _=>AV rfl rfl)<|Rv 14 b0 rfl c0 (fun _=>Am rfl)<|AZ 131071 14 [(15,151),(16,152)] (F:=[(150,true)]) (U:=[]) b0 c0 (.cons rfl .nil) .nil ?_
 dsimp only [az,List.map]
 refine Rv 17 b0 rfl c0 (fun _=>AV rfl rfl)<|Rv 18 b0 rfl c0 (fun _=>Am rfl)<|AZ 2097151 10 [(19,155),(20,156)] (F:=[(154,true)]) (U:=[]) b0 c0 (.cons rfl .nil) .nil ?_
 dsimp only [az,List.map]
 refine Rv 21 b0 rfl c0 (fun _=>AV rfl rfl)<|Rv 22 b0 rfl c0 (fun _=>Am rfl)<|AZ 33554431 6 [(23,159),(24,160)] (F:=[(158,true)]) (U:=[]) b0 c0 (.cons rfl .nil) .nil ?_
 dsimp only [az,List.map]
 refine Rv 25 b0 rfl c0 (fun _=>AV rfl rfl)<|Rv 26 b0 rfl c0 (fun _=>Am rfl)<|AZ 1073741823 1 [(27,163),(28,164),(29,165)] (F:=[(162,true)]) (U:=[]) b0 c0 (.cons rfl .nil) .nil ?_
 dsimp only [az,List.map]
 refine Rv 30 b0 rfl c0 (fun _=>AV rfl rfl)<|AF (dk b0) ?_
 obtain ⟨s4,D5⟩:=Ay u0 .d3
 exact V0 true s4 D5 h
 refine AZ 511 22 [(7,143),(8,144)] (F:=[(142,true)]) (U:=[]) b0 c0 (.cons rfl .nil) .nil ?_
 dsimp only [az,List.map]
 refine Rv 9 b0 rfl c0 (fun _=>AV rfl rfl)<|Rv 10 b0 rfl c0 (fun _=>Am rfl)<|AZ 8191 18 [(11,147),(12,148)] (F:=[(146,true)]) (U:=[]) b0 c0 (.cons rfl .nil) .nil ?_
 dsimp only [az,List.map]
 refine Rv 13 b0 rfl c0 (fun _=>AV rfl rfl)<|Rv 14 b0 rfl c0 (fun _=>Am rfl)<|AZ 131071 14 [(15,151),(16,152)] (F:=[(150,true)]) (U:=[]) b0 c0 (.cons rfl .nil) .nil ?_
 dsimp only [az,List.map]
 refine Rv 17 b0 rfl c0 (fun _=>AV rfl rfl)<|Rv 18 b0 rfl c0 (fun _=>Am rfl)<|AZ 2097151 10 [(19,155),(20,156)] (F:=[(154,true)]) (U:=[]) b0 c0 (.cons rfl .nil) .nil ?_
 dsimp only [az,List.map]
 refine Rv 21 b0 rfl c0 (fun _=>AV rfl rfl)<|Rv 22 b0 rfl c0 (fun _=>Am rfl)<|AZ 33554431 6 [(23,159),(24,160)] (F:=[(158,true)]) (U:=[]) b0 c0 (.cons rfl .nil) .nil ?_
 dsimp only [az,List.map]
 refine Rv 25 b0 rfl c0 (fun _=>AV rfl rfl)<|Rv 26 b0 rfl c0 (fun _=>Am rfl)<|AZ 1073741823 1 [(27,163),(28,164),(29,165)] (F:=[(162,true)]) (U:=[]) b0 c0 (.cons rfl .nil) .nil ?_
 dsimp only [az,List.map]
 refine Rv 30 b0 rfl c0 (fun _=>AV rfl rfl)<|AF (dk b0) ?_
 obtain ⟨u4,E5⟩:=Ay u0 .d3
 exact V0 true u4 E5 h
 refine AZ 31 26 [(3,139),(4,140)] (F:=[(138,true)]) (U:=[]) b0 c0 (.cons rfl .nil) .nil ?_
 dsimp only [az,List.map]
 refine Rv 5 b0 rfl c0 (fun _=>AV rfl rfl)<|Rv 6 b0 rfl c0 (fun _=>Am rfl)<|AZ 511 22 [(7,143),(8,144)] (F:=[(142,true)]) (U:=[]) b0 c0 (.cons rfl .nil) .nil ?_
 dsimp only [az,List.map]
 refine Rv 9 b0 rfl c0 (fun _=>AV rfl rfl)<|Rv 10 b0 rfl c0 (fun _=>Am rfl)<|AZ 8191 18 [(11,147),(12,148)] (F:=[(146,true)]) (U:=[]) b0 c0 (.cons rfl .nil) .nil ?_
 dsimp only [az,List.map]
 refine Rv 13 b0 rfl c0 (fun _=>AV rfl rfl)<|Rv 14 b0 rfl c0 (fun _=>Am rfl)<|AZ 131071 14 [(15,151),(16,152)] (F:=[(150,true)]) (U:=[]) b0 c0 (.cons rfl .nil) .nil ?_
 dsimp only [az,List.map]
 refine Rv 17 b0 rfl c0 (fun _=>AV rfl rfl)<|Rv 18 b0 rfl c0 (fun _=>Am rfl)<|AZ 2097151 10 [(19,155),(20,156)] (F:=[(154,true)]) (U:=[]) b0 c0 (.cons rfl .nil) .nil ?_
 dsimp only [az,List.map]
 refine Rv 21 b0 rfl c0 (fun _=>AV rfl rfl)<|Rv 22 b0 rfl c0 (fun _=>Am rfl)<|AZ 33554431 6 [(23,159),(24,160)] (F:=[(158,true)]) (U:=[]) b0 c0 (.cons rfl .nil) .nil ?_
 dsimp only [az,List.map]
 refine Rv 25 b0 rfl c0 (fun _=>AV rfl rfl)<|Rv 26 b0 rfl c0 (fun _=>Am rfl)<|AZ 1073741823 1 [(27,163),(28,164),(29,165)] (F:=[(162,true)]) (U:=[]) b0 c0 (.cons rfl .nil) .nil ?_
 dsimp only [az,List.map]
 refine Rv 30 b0 rfl c0 (fun _=>AV rfl rfl)<|AF (dk b0) ?_
 obtain ⟨v4,F5⟩:=Ay u0 .d3
 exact V0 true v4 F5 h
 intro H6 d1 h
 try dsimp only at h
 refine du 24 fun d0 g0=>Rv 0 d0 rfl g0 (fun _=>Am rfl)<|Rv 1 d0 rfl g0 (fun _=>BH (i:=q0.2.2) (j:=0) rfl rfl)<|Rv 2 d0 rfl g0 (fun _=>Am rfl)<|RD.ifn (s:=76) rfl h (fun z3 h=>?_) (fun z3 h=>?_)
 refine BJ 3 15 d0 rfl g0 (.yes rfl rfl) (fun _=>Am rfl) rfl<|BJ 4 31 d0 rfl g0 (.yes rfl rfl) (fun _=>BH (i:=D6.2) (j:=0) rfl rfl) rfl<|Rv 5 d0 rfl g0 (fun _=>AS rfl rfl)<|Rv 6 d0 rfl g0 (fun _=>Am rfl)<|RD.ifn (s:=80) rfl h (fun A3 h=>?_) (fun A3 h=>?_)
 refine BJ 7 255 d0 rfl g0 (.yes rfl rfl) (fun _=>Am rfl) rfl<|BJ 8 511 d0 rfl g0 (.yes rfl rfl) (fun _=>BH (i:=t0.2.2) (j:=0) rfl rfl) rfl<|Rv 9 d0 rfl g0 (fun _=>AS rfl rfl)<|Rv 10 d0 rfl g0 (fun _=>Am rfl)<|RD.ifn (s:=84) rfl h (fun B3 h=>?_) (fun B3 h=>?_)
 refine BJ 11 4095 d0 rfl g0 (.yes rfl rfl) (fun _=>Am rfl) rfl<|BJ 12 8191 d0 rfl g0 (.yes rfl rfl) (fun _=>BH (i:=b1.2) (j:=0) rfl rfl) rfl<|Rv 13 d0 rfl g0 (fun _=>AS rfl rfl)<|Rv 14 d0 rfl g0 (fun _=>Am rfl)<|RD.ifn (s:=88) rfl h (fun C3 h=>?_) (fun C3 h=>?_)
 refine RD.val (i:=15) (m' :=65535) (W:=16646144) (tk d0) rfl g0 (.yes rfl rfl) (Aw rfl (C0.memA .t2)) rfl<|RD.val (i:=16) (m' :=131071) (W:=16646144) (tk d0) rfl g0 (.yes rfl rfl) (Aw rfl (C0.memA .t5)) rfl<|BJ 17 262143 d0 rfl g0 (.yes rfl rfl) (fun _=>FV.neqV (xs:=((ab t0.2.1)).toArray) (ys:=((ab q0.2.1)).toArray) rfl rfl (by kernel_rfl) (cd t0.2.1 q0.2.1)) rfl<|Rv 18 d0 rfl g0 (fun _=>AS rfl rfl)<|Rv 19 d0 rfl g0 (fun _=>Am rfl)<|RD.ifn (s:=93) rfl h (fun D3 h=>?_) (fun D3 h=>?_)
 refine RD.val (i:=20) (m' :=2097151) (W:=12582912) (tk d0) rfl g0 (.yes rfl rfl) (Aw rfl (C0.memA .hd)) rfl<|bk h fun Y1 A6 h=>RD.callq (i:=21) (m' :=4194303) (W:=12582912) (tk d0) rfl g0 (v:=.agg ((ab Y1)).toArray) (fst:=[]) (cap:=[]) (.yes rfl rfl) (bd 15) rfl (e2 rfl rfl) (fun p q=>ab_c n (C0.hL0 hL q)  A6) rfl<|BJ 22 8388607 d0 rfl g0 (.yes rfl rfl) (fun _=>FV.neqV (xs:=((ab b1.1)).toArray) (ys:=((ab Y1)).toArray) rfl rfl (by kernel_rfl) (cd b1.1 Y1)) rfl<|Rv 23 d0 rfl g0 (fun _=>AS rfl rfl)<|AF (dk d0) ?_
 obtain ⟨x4,G5⟩:=Ay C0 (.a7 .d8)
 exact d1 (!(decide (b1.1 = Y1))) x4 G5 h
 refine AZ 8388607 1 [(20,94),(21,95),(22,96)] (F:=[(93,true)]) (U:=[]) d0 g0 (.cons rfl .nil) .nil ?_
 dsimp only [az,List.map]
 refine Rv 23 d0 rfl g0 (fun _=>AV rfl rfl)<|AF (dk d0) ?_
 obtain ⟨y4,H5⟩:=Ay C0 (.a7 .d8)
 exact d1 true y4 H5 h
 refine AZ 262143 6 [(15,89),(16,90),(17,91)] (F:=[(88,true)]) (U:=[]) d0 g0 (.cons rfl .nil) .nil ?_
 dsimp only [az,List.map]
 refine Rv 18 d0 rfl g0 (fun _=>AV rfl rfl)<|Rv 19 d0 rfl g0 (fun _=>Am rfl)<|AZ 8388607 1 [(20,94),(21,95),(22,96)] (F:=[(93,true)]) (U:=[]) d0 g0 (.cons rfl .nil) .nil ?_
 dsimp only [az,List.map]
 refine Rv 23 d0 rfl g0 (fun _=>AV rfl rfl)<|AF (dk d0) ?_
 obtain ⟨z4,I5⟩:=Ay C0 (.a7 .d8)
 exact d1 true z4 I5 h
 refine AZ 8191 11 [(11,85),(12,86)] (F:=[(84,true)]) (U:=[]) d0 g0 (.cons rfl .nil) .nil ?_
 dsimp only [az,List.map]
 refine Rv 13 d0 rfl g0 (fun _=>AV rfl rfl)<|Rv 14 d0 rfl g0 (fun _=>Am rfl)<|AZ 262143 6 [(15,89),(16,90),(17,91)] (F:=[(88,true)]) (U:=[]) d0 g0 (.cons rfl .nil) .nil ?_
 dsimp only [az,List.map]
 refine Rv 18 d0 rfl g0 (fun _=>AV rfl rfl)<|Rv 19 d0 rfl g0 (fun _=>Am rfl)<|AZ 8388607 1 [(20,94),(21,95),(22,96)] (F:=[(93,true)]) (U:=[]) d0 g0 (.cons rfl .nil) .nil ?_
 dsimp only [az,List.map]
 refine Rv 23 d0 rfl g0 (fun _=>AV rfl rfl)<|AF (dk d0) ?_
 obtain ⟨A4,J5⟩:=Ay C0 (.a7 .d8)
 exact d1 true A4 J5 h
 refine AZ 511 15 [(7,81),(8,82)] (F:=[(80,true)]) (U:=[]) d0 g0 (.cons rfl .nil) .nil ?_
 dsimp only [az,List.map]
 refine Rv 9 d0 rfl g0 (fun _=>AV rfl rfl)<|Rv 10 d0 rfl g0 (fun _=>Am rfl)<|AZ 8191 11 [(11,85),(12,86)] (F:=[(84,true)]) (U:=[]) d0 g0 (.cons rfl .nil) .nil ?_
 dsimp only [az,List.map]
 refine Rv 13 d0 rfl g0 (fun _=>AV rfl rfl)<|Rv 14 d0 rfl g0 (fun _=>Am rfl)<|AZ 262143 6 [(15,89),(16,90),(17,91)] (F:=[(88,true)]) (U:=[]) d0 g0 (.cons rfl .nil) .nil ?_
 dsimp only [az,List.map]
 refine Rv 18 d0 rfl g0 (fun _=>AV rfl rfl)<|Rv 19 d0 rfl g0 (fun _=>Am rfl)<|AZ 8388607 1 [(20,94),(21,95),(22,96)] (F:=[(93,true)]) (U:=[]) d0 g0 (.cons rfl .nil) .nil ?_
 dsimp only [az,List.map]
 refine Rv 23 d0 rfl g0 (fun _=>AV rfl rfl)<|AF (dk d0) ?_
 obtain ⟨B4,K5⟩:=Ay C0 (.a7 .d8)
 exact d1 true B4 K5 h
 refine AZ 31 19 [(3,77),(4,78)] (F:=[(76,true)]) (U:=[]) d0 g0 (.cons rfl .nil) .nil ?_
 dsimp only [az,List.map]
 refine Rv 5 d0 rfl g0 (fun _=>AV rfl rfl)<|Rv 6 d0 rfl g0 (fun _=>Am rfl)<|AZ 511 15 [(7,81),(8,82)] (F:=[(80,true)]) (U:=[]) d0 g0 (.cons rfl .nil) .nil ?_
 dsimp only [az,List.map]
 refine Rv 9 d0 rfl g0 (fun _=>AV rfl rfl)<|Rv 10 d0 rfl g0 (fun _=>Am rfl)<|AZ 8191 11 [(11,85),(12,86)] (F:=[(84,true)]) (U:=[]) d0 g0 (.cons rfl .nil) .nil ?_
 dsimp only [az,List.map]
 refine Rv 13 d0 rfl g0 (fun _=>AV rfl rfl)<|Rv 14 d0 rfl g0 (fun _=>Am rfl)<|AZ 262143 6 [(15,89),(16,90),(17,91)] (F:=[(88,true)]) (U:=[]) d0 g0 (.cons rfl .nil) .nil ?_
 dsimp only [az,List.map]
 refine Rv 18 d0 rfl g0 (fun _=>AV rfl rfl)<|Rv 19 d0 rfl g0 (fun _=>Am rfl)<|AZ 8388607 1 [(20,94),(21,95),(22,96)] (F:=[(93,true)]) (U:=[]) d0 g0 (.cons rfl .nil) .nil ?_
 dsimp only [az,List.map]
 refine Rv 23 d0 rfl g0 (fun _=>AV rfl rfl)<|AF (dk d0) ?_
 obtain ⟨C4,M5⟩:=Ay C0 (.a7 .d8)
 exact d1 true C4 M5 h
 intro g1
 refine BC [1,6,7] (rk p0) ⟨?_,?_,?_,trivial⟩
 refine RO.call (m' :=23) (fst:=[]) (cap:=[]) (sk p0) rfl .plain (bd 33) rfl (e1 rfl) (fun p q=>al_c n (B0.hL hL q) a0 (B0.km h0_0 q) u1) rfl fun R1 M0 R0 ⟨M1,hu_,K0⟩=>?_
 subst hu_
 obtain ⟨j0,J0⟩:=B0.agr R0
 refine RD.cq 3 31 1824 (.agg ((ab U0)).toArray) p0 rfl z0 (bd 42) rfl (e1 rfl) (fun p q=>aA_c n (j0.hL0 hL q) a1 (j0.k0 h1_1 q) (j0.k0 h1_4 q) v1) rfl<|RD.cq 5 63 1792 (.agg ((ab v0)).toArray) p0 rfl z0 (bd 48) rfl (e1 rfl) (fun p q=>aD_c n (j0.hL0 hL q) a1 (j0.k0 h1_1 q) (j0.k0 h1_4 q) x1) rfl<|BC [6,7] (rk p0) ⟨?_,?_,trivial⟩
 refine RO.new (m' :=127) (sk p0) rfl .plain rfl (Ar zL j0) fun P1 F0 x0 D0=>RD.nu 7 255 p0 rfl .plain rfl (Ar zL x0) fun Q1 G0 y0 E0=>?_
 obtain ⟨D4,P5⟩:=Ay y0 (.a0 (.a0 (.a0 .done)))
 have E2:=Tt D0 (Tt E0 P5)
 exact g1 (M0,G0,F0) D4 (Tt J0 E2) (Af K0 E2)
 refine RO.new (m' :=191) (sk p0) rfl .plain rfl (Ar zL j0) fun Q1 G0 y0 E0=>RD.nu 6 255 p0 rfl .plain rfl (Ar zL y0) fun P1 F0 x0 D0=>?_
 obtain ⟨E4,Q5⟩:=Ay x0 (.a1 (.a0 (.a0 .done)))
 have F2:=Tt E0 (Tt D0 Q5)
 exact g1 (M0,G0,F0) E4 (Tt J0 F2) (Af K0 F2)
 refine RO.new (m' :=85) (sk p0) rfl .plain rfl (Ar zL B0) fun P1 F0 x0 D0=>BC [1,7] (rk p0) ⟨?_,?_,trivial⟩
 refine RO.call (m' :=87) (fst:=[]) (cap:=[]) (sk p0) rfl .plain (bd 33) rfl (e1 rfl) (fun p q=>al_c n (x0.hL hL q) a0 (x0.km h0_0 q) u1) rfl fun R1 M0 R0 ⟨M1,hu_,K0⟩=>?_
 subst hu_
 obtain ⟨j0,J0⟩:=x0.agr R0
 refine RD.cq 3 95 1824 (.agg ((ab U0)).toArray) p0 rfl z0 (bd 42) rfl (e1 rfl) (fun p q=>aA_c n (j0.hL0 hL q) a1 (j0.k0 h1_1 q) (j0.k0 h1_4 q) v1) rfl<|RD.cq 5 127 1792 (.agg ((ab v0)).toArray) p0 rfl z0 (bd 48) rfl (e1 rfl) (fun p q=>aD_c n (j0.hL0 hL q) a1 (j0.k0 h1_1 q) (j0.k0 h1_4 q) x1) rfl<|RD.nu 7 255 p0 rfl .plain rfl (Ar zL j0) fun Q1 G0 y0 E0=>?_
 obtain ⟨F4,x2⟩:=Ay y0 (.a0 (.a0 (.a0 .done)))
 exact g1 (M0,G0,F0) F4 (Tt D0 (Tt J0 (Tt E0 x2))) (Af K0 (Tt E0 x2))
 refine RO.new (m' :=213) (sk p0) rfl .plain rfl (Ar zL x0) fun Q1 G0 y0 E0=>AW 1 215 p0 rfl .plain (bd 33) rfl (e1 rfl) (fun p q=>al_c n (y0.hL hL q) a0 (y0.km h0_0 q) u1) rfl fun R1 M0 R0 ⟨M1,hu_,K0⟩=>?_
 subst hu_
 obtain ⟨j0,J0⟩:=y0.agr R0
 refine RD.cq 3 223 1824 (.agg ((ab U0)).toArray) p0 rfl z0 (bd 42) rfl (e1 rfl) (fun p q=>aA_c n (j0.hL0 hL q) a1 (j0.k0 h1_1 q) (j0.k0 h1_4 q) v1) rfl<|RD.cq 5 255 1792 (.agg ((ab v0)).toArray) p0 rfl z0 (bd 48) rfl (e1 rfl) (fun p q=>aD_c n (j0.hL0 hL q) a1 (j0.k0 h1_1 q) (j0.k0 h1_4 q) x1) rfl ?_
 obtain ⟨G4,y2⟩:=Ay j0 (.a0 (.a0 (.a0 .done)))
 exact g1 (M0,G0,F0) G4 (Tt D0 (Tt E0 (Tt J0 y2))) (Af K0 y2)
 refine RO.new (m' :=149) (sk p0) rfl .plain rfl (Ar zL B0) fun Q1 G0 y0 E0=>BC [1,6] (rk p0) ⟨?_,?_,trivial⟩
 refine RO.call (m' :=151) (fst:=[]) (cap:=[]) (sk p0) rfl .plain (bd 33) rfl (e1 rfl) (fun p q=>al_c n (y0.hL hL q) a0 (y0.km h0_0 q) u1) rfl fun R1 M0 R0 ⟨M1,hu_,K0⟩=>?_
 subst hu_
 obtain ⟨j0,J0⟩:=y0.agr R0
 refine RD.cq 3 159 1824 (.agg ((ab U0)).toArray) p0 rfl z0 (bd 42) rfl (e1 rfl) (fun p q=>aA_c n (j0.hL0 hL q) a1 (j0.k0 h1_1 q) (j0.k0 h1_4 q) v1) rfl<|RD.cq 5 191 1792 (.agg ((ab v0)).toArray) p0 rfl z0 (bd 48) rfl (e1 rfl) (fun p q=>aD_c n (j0.hL0 hL q) a1 (j0.k0 h1_1 q) (j0.k0 h1_4 q) x1) rfl<|RD.nu 6 255 p0 rfl .plain rfl (Ar zL j0) fun P1 F0 x0 D0=>?_
 obtain ⟨H4,z2⟩:=Ay x0 (.a1 (.a0 (.a0 .done)))
 exact g1 (M0,G0,F0) H4 (Tt E0 (Tt J0 (Tt D0 z2))) (Af K0 (Tt D0 z2))
 refine RO.new (m' :=213) (sk p0) rfl .plain rfl (Ar zL y0) fun P1 F0 x0 D0=>AW 1 215 p0 rfl .plain (bd 33) rfl (e1 rfl) (fun p q=>al_c n (x0.hL hL q) a0 (x0.km h0_0 q) u1) rfl fun R1 M0 R0 ⟨M1,hu_,K0⟩=>?_
 subst hu_
 obtain ⟨j0,J0⟩:=x0.agr R0
 refine RD.cq 3 223 1824 (.agg ((ab U0)).toArray) p0 rfl z0 (bd 42) rfl (e1 rfl) (fun p q=>aA_c n (j0.hL0 hL q) a1 (j0.k0 h1_1 q) (j0.k0 h1_4 q) v1) rfl<|RD.cq 5 255 1792 (.agg ((ab v0)).toArray) p0 rfl z0 (bd 48) rfl (e1 rfl) (fun p q=>aD_c n (j0.hL0 hL q) a1 (j0.k0 h1_1 q) (j0.k0 h1_4 q) x1) rfl ?_
 obtain ⟨I4,A2⟩:=Ay j0 (.a1 (.a0 (.a0 .done)))
 exact g1 (M0,G0,F0) I4 (Tt E0 (Tt D0 (Tt J0 A2))) (Af K0 A2)
 refine Ae<|Ag rfl<|Aa<|Aq rfl<|Bk hb0 func9 rfl rfl ?_
 cases h
 exact B0.gv
end Go.Proofs.YtkommhmbkbhmlaaGreat
