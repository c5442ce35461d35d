import Derived.Test.YtkommhmbkbhmlaaGreatSM10
namespace Go.Proofs.YtkommhmbkbhmlaaGreat
open Go Go.RowKit Tryz
set_option maxRecDepth 4000
set_option maxHeartbeats 4000000

def bs_p (n:Nat) (a0:Ti) (a1:Ti) (a2:Th):Option Bool:=
  (cg_p n).bind fun J0=>(if J0 = true then (ak_p n a0).bind fun c0=>(ak_p n a1).bind fun q0=>(aF_p n a2).bind fun d0=>(bq_p n c0 q0).bind fun g0=>(bq_p n q0 c0).bind fun t0=>(bD_p n c0 d0).bind fun s0=>(br_p n c0 d0).bind fun j0=>jn (fun I0=>(if I0 = true then some false else (aP_p n c0).bind fun k0=>(ax_p n c0).bind fun p0=>(if k0.2 = 0 then (if p0.2 = 0 then (aP_p n q0).bind fun u0=>(ax_p n q0).bind fun v0=>(if u0.2 = 0 then (if v0.2 = 0 then (aP_p n g0.1).bind fun x0=>(ax_p n g0.1).bind fun y0=>(if x0.2 = 0 then (if y0.2 = 0 then (aP_p n s0.1).bind fun z0=>(ax_p n s0.1).bind fun A0=>(if z0.2 = 0 then (if A0.2 = 0 then (aP_p n j0.1).bind fun B0=>(ax_p n j0.1).bind fun C0=>(if B0.2 = 0 then (if C0.2 = 0 then (cE_p n d0 d0).bind fun K0=>(cA_p n k0.1 u0.1).bind fun D0=>(cA_p n p0.1 v0.1).bind fun E0=>(cA_p n k0.1 d0).bind fun F0=>(cE_p n k0.1 d0).bind fun G0=>(cE_p n p0.1 K0.1).bind fun H0=>(if D0.2 = 0 then (if E0.2 = 0 then (if F0.2 = 0 then (if G0.2 = 0 then (if H0.2 = 0 then (if x0.1 = D0.1 then (if y0.1 = E0.1 then (if z0.1 = F0.1 then (if A0.1 = p0.1 then (if B0.1 = G0.1 then some (decide (C0.1 = H0.1)) else some false) else some false) else some false) else some false) else some false) else some false) else some false) else some false) else some false) else some false) else some false) else some false) else some false) else some false) else some false) else some false) else some false) else some false) else some false) else some false))) (fun b0=>(if g0.2 = 0 then (if t0.2 = 0 then (if s0.2 = 0 then (if j0.2 = 0 then (bR_p n g0.1 t0.1).bind fun M0=>(if M0 = true then (aA_p n g0.1).bind fun P0=>(if P0 = 0 then (aA_p n j0.1).bind fun Q0=>b0 (!(decide (Q0 = 0))) else b0 true) else b0 true) else b0 true) else b0 true) else b0 true) else b0 true)) else some false)
theorem bs_c (n:Nat) {L w} (hL:hl L w) (a0:Ti) {v0_0:Value} (h0_0:Rep.R w L [v0_0] a0.fL) (a1:Ti) {v1_0:Value} (h1_0:Rep.R w L [v1_0] a1.fL) (a2:Th) {v2_1:Value} (h2_1:Rep.R w L [v2_1] a2.fN.fBits) {v2_4:Value} (h2_4:Rep.R w L [v2_4] a2.fD.fBits)  {r:Bool} (h:bs_p n a0 a1 a2 = some r) :
 Cl 7 #[.agg #[v0_0],.agg #[v1_0],.agg #[.bool a2.fN.fe,v2_1,.int .u32 (a2.fN.fp.toNat:Int),.bool a2.fD.fe,v2_4,.int .u32 (a2.fD.fp.toNat:Int)]] w (ak w fun _ u=>u = .bool r):=by
 unfold bs_p at h
 refine AI func7 rfl rfl rfl fun _ cs0 hb0=>Ae<|RG.bx (AH w) rfl rfl fun P9 z8 v5 d9=>RG.bx v5 rfl rfl fun Q9 A8 x5 g9=>RG.bx x5 rfl rfl fun w21 D8 Q0 k9=>Ag rfl<|Aa<|Ak<|Ae<|bk h fun j8 v7 h=>Bb (.bool j8) (bd 12) rfl ar (fun p q=>cg_c n (Q0.hL0 hL q)  v7) rfl<|Ab (FV.not rfl)<|Aa<|MX.ifnb rfl h (fun G4 h=>?_) (fun G4 h=>?_)
 refine Av<|Ak<|du 9 fun p0 W0=>Rx 0 938 p0 rfl W0 (Aw rfl (Q0.memA .t2))<|Rx 2 936 p0 rfl W0 (Aw rfl (Q0.memA .t1))<|Rx 4 928 p0 rfl W0 (Aw rfl (Q0.memA .hd))<|bk h fun k8 y4 h=>bk h fun p8 B3 h=>bk h fun x0 C3 h=>RD.mf (α:=Value × Value × Nat) (fun ⟨s0,t0,q0⟩=>[(37,s0),(39,t0),(41,.agg ((aa x0)).toArray),(9,vP q0)]) (fun ⟨s0,t0,q0⟩=>[.cells q0 zL 34]) (fun ⟨s0,t0,q0⟩ D3=>Rep.R D3 (bl [.cells q0 zL 34] ++ L) [s0] k8/\Rep.R D3 (bl [.cells q0 zL 34] ++ L) [t0] p8) Q0 3 127 ?_ ?_
 rintro ⟨s0,t0,q0⟩ D3 y5 j9 ⟨k1,C1⟩
 try dsimp only
 refine Rv 7 p0 rfl W0 (fun _=>Bc rfl)<|Rv 8 p0 rfl W0 (fun _=>Bc rfl)<|Bq 9 1023 p0 rfl rfl .plain (AC (news:=(aa x0)) y5 .hd rfl rfl rfl rfl rfl rfl (ai rfl)) fun R9 K3 y1=>AG (dk p0)<|Ae<|Ac rfl<|Ac rfl<|bk h fun b8 j7 h=>jE (bd 24) rfl (e2 rfl rfl) (fun p q=>bq_c n (K3.hL hL q) (Ai (Ah k1 y1) q) (Ai (Ah C1 y1) q) j7) rfl fun U9 I9 U6 ⟨H0,hu_,A2⟩=>?_
 subst hu_
 obtain ⟨M3,X2⟩:=K3.agr U6
 refine Ac rfl<|Ab (Af rfl rfl)<|Ab (Af rfl rfl)<|Ag rfl<|Ag rfl<|Aa<|Ae<|Ac rfl<|Ac rfl<|bk h fun c8 k7 h=>jE (bd 24) rfl (e2 rfl rfl) (fun p q=>bq_c n (M3.hL hL q) (Ai (Ah C1 (Tt y1 X2)) q) (Ai (Ah k1 (Tt y1 X2)) q) k7) rfl fun V9 J9 V6 ⟨H9,hu_,Y6⟩=>?_
 subst hu_
 obtain ⟨G2,Y2⟩:=M3.agr V6
 refine Ac rfl<|Ab (Af rfl rfl)<|Ab (Af rfl rfl)<|Ag rfl<|Ag rfl<|Aa<|Ae<|Ac rfl<|Ab (Aw rfl (G2.memA .hd))<|bk h fun d8 p7 h=>?_
 have y3:=Tt y1 (Tt X2 Y2)
 refine jE (bd 23) rfl (e2 rfl rfl) (fun p q=>bD_c n (G2.hL hL q) (Ai (Ah k1 y3) q) x0 p7) rfl fun W9 K9 W6 ⟨I0,hu_,A3⟩=>?_
 subst hu_
 obtain ⟨H2,z1⟩:=G2.agr W6
 refine Ac rfl<|Ab (Af rfl rfl)<|Ab (Af rfl rfl)<|Ag rfl<|Ag rfl<|Aa<|Ae<|Ac rfl<|Ab (Aw rfl (H2.memA .hd))<|bk h fun g8 q7 h=>jE (bd 29) rfl (e2 rfl rfl) (fun p q=>br_c n (H2.hL hL q) (Ai (Ah k1 (Tt y3 z1)) q) x0 q7) rfl fun X9 M9 X6 ⟨J0,hu_,B2⟩=>?_
 subst hu_
 obtain ⟨z0,A1⟩:=H2.agr X6
 refine Ac rfl<|Ab (Af rfl rfl)<|Ab (Af rfl rfl)<|Ag rfl<|Ag rfl<|Aa<|Ak<|Ak<|MX.jo (α:=Bool) (fun J1=>[(9,vP q0),(7,s0),(8,t0),(10,H0),(14,I0),(16,J0),(95,.bool J1)]) (fun J1=>[.cells q0 (aa x0) 34]) (fun J1=>J1) z0 h ?_ ?_
 rintro J1 d01 P3 c2 h
 try dsimp only at h
 refine MX.ifb rfl h (fun D4 h=>?_) (fun D4 h=>?_)
 refine Ae<|Ag rfl<|Aa<|Ar rfl<|Be hb0 func7 rfl rfl ?_
 cases h
 exact P3.gv
 refine Av<|Ae<|RG.nl [vW 0,vW 0,vW 0,vW 0,vW 0,vW 0,vW 0,vW 0,vW 0,vW 0,vW 0,vW 0,vW 0,vW 0,vW 0,vW 0,vW 0,vW 0,vW 0,vW 0,vW 0,vW 0,vW 0,vW 0,vW 0,vW 0,vW 0,vW 0,vW 0,vW 0,vW 0,vW 0,vW 0,vW 0,vW 0,vW 0,vW 0,vW 0,vW 0,vW 0,vW 0,vW 0,vW 0,vW 0,vW 0,vW 0,vW 0,vW 0,vW 0,vW 0,vW 0,vW 0,vW 0,vW 0,vW 0,vW 0,vW 0,vW 0,vW 0,vW 0,vW 0,vW 0,vW 0,vW 0,vW 0,vW 0,vW 0,vW 0,vW 0,vW 0,vW 0,vW 0,vW 0,vW 0,vW 0,vW 0,vW 0,vW 0,vW 0,vW 0] P3 fun Y9 P0 z5 g2=>RG.nl [vW 0,vW 0,vW 0,vW 0,vW 0,vW 0,vW 0,vW 0,vW 0,vW 0,vW 0,vW 0,vW 0,vW 0,vW 0,vW 0,vW 0,vW 0,vW 0,vW 0,vW 0,vW 0,vW 0,vW 0,vW 0,vW 0,vW 0,vW 0,vW 0,vW 0,vW 0,vW 0,vW 0,vW 0,vW 0,vW 0,vW 0,vW 0,vW 0,vW 0,vW 0,vW 0,vW 0,vW 0,vW 0,vW 0,vW 0,vW 0,vW 0,vW 0,vW 0,vW 0,vW 0,vW 0,vW 0,vW 0,vW 0,vW 0,vW 0,vW 0,vW 0,vW 0,vW 0,vW 0,vW 0,vW 0,vW 0,vW 0,vW 0,vW 0,vW 0,vW 0,vW 0,vW 0,vW 0,vW 0,vW 0,vW 0,vW 0,vW 0] z5 fun Z9 A0 I2 j2=>Aa<|Ak<|Ae<|Ac rfl<|Ac rfl<|Ac rfl<|Ac rfl<|Ac rfl ?_
 have z3:=Tt y3 (Tt z1 (Tt A1 (Tt c2 (Tt g2 j2))))
 have b4:=Ah k1 z3
 obtain ⟨s8,X8,Z6,_⟩:=Bp b4
 obtain ⟨t8,Y8,b7,_⟩:=Bp (Ah C1 z3)
 have d4:=Tt Y2 (Tt z1 (Tt A1 (Tt c2 (Tt g2 j2))))
 obtain ⟨u8,Z8,c7,_⟩:=Bp (Ah A2 d4)
 have g4:=Tt A1 (Tt c2 (Tt g2 j2))
 obtain ⟨v8,b9,d7,_⟩:=Bp (Ah A3 g4)
 have j4:=Tt c2 (Tt g2 j2)
 obtain ⟨x8,c9,g7,_⟩:=Bp (Ah B2 j4)
 refine Ab (AR (vs:=[s0,t0,H0,I0,J0]) (u:=.agg #[s0,t0,H0,I0,J0]) (e5 rfl rfl rfl rfl rfl) (fun p=>by rw [Z6,b7,c7,d7,g7]; try kernel_rfl))<|Ac rfl<|Aa<|Ax<|MX.loop1<|Ae<|Ab (AY (i:=0) (j:=5) rfl rfl)<|Aa<|Ak<|AU rfl<|Av<|Ak<|Ax<|Ae<|Ac rfl<|Ab (FV.idx1 (cs:=[s0,t0,H0,I0,J0]) (k:=0) (m:=1) (len:=5) rfl rfl rfl rfl rfl (by omega) rfl)<|Ag rfl<|Ag rfl<|Aa<|Ae<|Ac rfl<|bk h fun b0 s7 h=>Bb (.tuple #[.agg ((aa b0.1)).toArray,vI b0.2]) (bd 19) rfl (e1 rfl) (fun p q=>aP_c n (I2.hL0 hL q) (I2.kd b4 q) s7) rfl<|Ac rfl<|Ab (Af rfl rfl)<|Ab (Af rfl rfl)<|RG.nl zL I2 fun b00 B8 A5 k2=>AJ (aa b0.1) A5 .hd (ai rfl) fun c00 J2 p2=>Ag rfl<|Aa<|Ae<|Ac rfl<|bk h fun c0 u7 h=>?_
 have k4:=Tt z3 (Tt k2 p2)
 refine Bb (.tuple #[.agg ((aa c0.1)).toArray,vI c0.2]) (bd 20) rfl (e1 rfl) (fun p q=>ax_c n (J2.hL0 hL q) (J2.kd (Ah k1 k4) q) u7) rfl<|Ac rfl<|Ab (Af rfl rfl)<|Ab (Af rfl rfl)<|RG.nl zL J2 fun d00 C8 B5 q2=>AJ (aa c0.1) B5 .hd (ai rfl) fun g00 Y0 s2=>Ag rfl<|Aa<|Ak<|Ae<|Ac rfl<|Ab (Bw (i:=b0.2) (j:=0) rfl rfl)<|Ac rfl<|RG.ifn (s:=118) rfl h (fun E4 h=>?_) (fun E4 h=>?_)
 refine AQ (Aq rfl)<|AQ (Bw (i:=c0.2) (j:=0) rfl rfl)<|Bd rfl rfl<|Aa<|BN rfl h (fun F4 h=>?_) (fun F4 h=>?_)
 refine Av<|du 5 fun C0 E1=>Rv 0 C0 rfl E1 (fun _=>Aq rfl)<|Rv 1 C0 rfl E1 (fun _=>Aq rfl)<|Rx 2 240 C0 rfl E1 (Aw rfl (Y0.memA .t1))<|Rv 4 C0 rfl E1 (fun _=>AP (m:=16) (k:=0) (len:=5) rfl rfl rfl rfl (by omega))<|RD.mo (α:=Unit) (fun ()=>[(9,vP q0),(18,vP P0),(19,vP A0),(101,.agg #[s0,t0,H0,I0,J0]),(102,vI 0),(123,vI 0),(125,.agg ((aa c0.1)).toArray)]) (fun ()=>[.cells A0 [vW 0,vW 0,vW 0,vW 0,vW 0,vW 0,vW 0,vW 0,vW 0,vW 0,vW 0,vW 0,vW 0,vW 0,vW 0,vW 0,vW 0,vW 0,vW 0,vW 0,vW 0,vW 0,vW 0,vW 0,vW 0,vW 0,vW 0,vW 0,vW 0,vW 0,vW 0,vW 0,vW 0,vW 0,vW 0,vW 0,vW 0,vW 0,vW 0,vW 0,vW 0,vW 0,vW 0,vW 0,vW 0,vW 0,vW 0,vW 0,vW 0,vW 0,vW 0,vW 0,vW 0,vW 0,vW 0,vW 0,vW 0,vW 0,vW 0,vW 0,vW 0,vW 0,vW 0,vW 0,vW 0,vW 0,vW 0,vW 0,vW 0,vW 0,vW 0,vW 0,vW 0,vW 0,vW 0,vW 0,vW 0,vW 0,vW 0,vW 0] 87,.cells P0 (aa b0.1 ++ ([vW 0,vW 0,vW 0,vW 0,vW 0,vW 0,vW 0,vW 0,vW 0,vW 0,vW 0,vW 0,vW 0,vW 0,vW 0,vW 0,vW 0,vW 0,vW 0,vW 0,vW 0,vW 0,vW 0,vW 0,vW 0,vW 0,vW 0,vW 0,vW 0,vW 0,vW 0,vW 0,vW 0,vW 0,vW 0,vW 0,vW 0,vW 0,vW 0,vW 0,vW 0,vW 0,vW 0,vW 0,vW 0,vW 0,vW 0,vW 0,vW 0,vW 0,vW 0,vW 0,vW 0,vW 0,vW 0,vW 0,vW 0,vW 0,vW 0,vW 0,vW 0,vW 0,vW 0,vW 0]:List Value)) 87,.cells q0 (aa x0) 34]) Y0 2 63 ?_ ?_
 rintro ⟨⟩ g01 C5 u2
 try dsimp only
 refine BH (i:=6) (rk C0) (BM (m' :=127) (sk C0) rfl .plain rfl (AP (m:=16) (k:=0) (len:=5) rfl rfl rfl rfl (by omega)) ?_)
 refine Bq 7 255 C0 rfl rfl .plain (Bu (j:=0) (old:=[vW 0,vW 0,vW 0,vW 0,vW 0,vW 0,vW 0,vW 0,vW 0,vW 0,vW 0,vW 0,vW 0,vW 0,vW 0,vW 0,vW 0,vW 0,vW 0,vW 0,vW 0,vW 0,vW 0,vW 0,vW 0,vW 0,vW 0,vW 0,vW 0,vW 0,vW 0,vW 0,vW 0,vW 0,vW 0,vW 0,vW 0,vW 0,vW 0,vW 0,vW 0,vW 0,vW 0,vW 0,vW 0,vW 0,vW 0,vW 0,vW 0,vW 0,vW 0,vW 0,vW 0,vW 0,vW 0,vW 0,vW 0,vW 0,vW 0,vW 0,vW 0,vW 0,vW 0,vW 0,vW 0,vW 0,vW 0,vW 0,vW 0,vW 0,vW 0,vW 0,vW 0,vW 0,vW 0,vW 0,vW 0,vW 0,vW 0,vW 0]) (news:=(aa c0.1)) (new' :=(aa c0.1 ++ ([vW 0,vW 0,vW 0,vW 0,vW 0,vW 0,vW 0,vW 0,vW 0,vW 0,vW 0,vW 0,vW 0,vW 0,vW 0,vW 0,vW 0,vW 0,vW 0,vW 0,vW 0,vW 0,vW 0,vW 0,vW 0,vW 0,vW 0,vW 0,vW 0,vW 0,vW 0,vW 0,vW 0,vW 0,vW 0,vW 0,vW 0,vW 0,vW 0,vW 0,vW 0,vW 0,vW 0,vW 0,vW 0,vW 0,vW 0,vW 0,vW 0,vW 0,vW 0,vW 0,vW 0,vW 0,vW 0,vW 0,vW 0,vW 0,vW 0,vW 0,vW 0,vW 0,vW 0,vW 0]:List Value))) C5 .hd rfl rfl rfl rfl rfl rfl (ai rfl) rfl) fun k00 K2 v2=>AG (dk C0)<|Ay<|Ao<|Ab (FV.add (i:=0) (j:=1) (r:=1) rfl rfl (by decide))<|Ac rfl<|Aa<|BA<|Ae<|Ab (AY (i:=1) (j:=5) rfl rfl)<|Aa<|Ak<|AU rfl<|Av<|Ak<|Ax<|Ae<|Ac rfl<|Ab (FV.idx1 (cs:=[s0,t0,H0,I0,J0]) (k:=1) (m:=1) (len:=5) rfl rfl rfl rfl rfl (by omega) rfl)<|Ag rfl<|Ag rfl<|Aa<|Ae<|Ac rfl<|bk h fun d0 x7 h=>?_
 have p4:=Tt k4 (Tt q2 (Tt s2 (Tt u2 v2)))
 refine Bb (.tuple #[.agg ((aa d0.1)).toArray,vI d0.2]) (bd 19) rfl (e1 rfl) (fun p q=>aP_c n (K2.hL0 hL q) (K2.kd (Ah C1 p4) q) x7) rfl<|Ac rfl<|Ab (Af rfl rfl)<|Ab (Af rfl rfl)<|RG.nl zL K2 fun p00 E8 D5 x2=>AJ (aa d0.1) D5 .hd (ai rfl) fun q00 M2 y2=>Ag rfl<|Aa<|Ae<|Ac rfl<|bk h fun u0 y7 h=>Bb (.tuple #[.agg ((aa u0.1)).toArray,vI u0.2]) (bd 20) rfl (e1 rfl) (fun p q=>ax_c n (M2.hL0 hL q) (M2.kd (Ah C1 (Tt p4 (Tt x2 y2))) q) y7) rfl<|Ac rfl<|Ab (Af rfl rfl)<|Ab (Af rfl rfl)<|RG.nl zL M2 fun s00 F8 E5 b3=>AJ (aa u0.1) E5 .hd (ai rfl) fun t00 Z0 c3=>Ag rfl<|Aa<|Ak<|Ae<|Ac rfl<|Ab (Bw (i:=d0.2) (j:=0) rfl rfl)<|Ac rfl<|RG.ifn (s:=118) rfl h (fun H4 h=>?_) (fun H4 h=>?_)
 refine AQ (Aq rfl)<|AQ (Bw (i:=u0.2) (j:=0) rfl rfl)<|Bd rfl rfl<|Aa<|BN rfl h (fun I4 h=>?_) (fun I4 h=>?_)
 refine Av<|du 5 fun D0 F1=>Rv 0 D0 rfl F1 (fun _=>Aq rfl)<|Rv 1 D0 rfl F1 (fun _=>Aq rfl)<|Rx 2 240 D0 rfl F1 (Aw rfl (Z0.memA .t1))<|Rv 4 D0 rfl F1 (fun _=>AP (m:=16) (k:=1) (len:=5) rfl rfl rfl rfl (by omega))<|RD.mo (α:=Unit) (fun ()=>[(9,vP q0),(18,vP P0),(19,vP A0),(101,.agg #[s0,t0,H0,I0,J0]),(102,vI 1),(123,vI 1),(125,.agg ((aa u0.1)).toArray),(127,.pointer (some (Addr.add ⟨A0,0,none⟩ 0)))]) (fun ()=>[.cells A0 (aa c0.1 ++ ([vW 0,vW 0,vW 0,vW 0,vW 0,vW 0,vW 0,vW 0,vW 0,vW 0,vW 0,vW 0,vW 0,vW 0,vW 0,vW 0,vW 0,vW 0,vW 0,vW 0,vW 0,vW 0,vW 0,vW 0,vW 0,vW 0,vW 0,vW 0,vW 0,vW 0,vW 0,vW 0,vW 0,vW 0,vW 0,vW 0,vW 0,vW 0,vW 0,vW 0,vW 0,vW 0,vW 0,vW 0,vW 0,vW 0,vW 0,vW 0,vW 0,vW 0,vW 0,vW 0,vW 0,vW 0,vW 0,vW 0,vW 0,vW 0,vW 0,vW 0,vW 0,vW 0,vW 0,vW 0]:List Value)) 87,.cells P0 (aa b0.1 ++ aa d0.1 ++ ([vW 0,vW 0,vW 0,vW 0,vW 0,vW 0,vW 0,vW 0,vW 0,vW 0,vW 0,vW 0,vW 0,vW 0,vW 0,vW 0,vW 0,vW 0,vW 0,vW 0,vW 0,vW 0,vW 0,vW 0,vW 0,vW 0,vW 0,vW 0,vW 0,vW 0,vW 0,vW 0,vW 0,vW 0,vW 0,vW 0,vW 0,vW 0,vW 0,vW 0,vW 0,vW 0,vW 0,vW 0,vW 0,vW 0,vW 0,vW 0]:List Value)) 87,.cells q0 (aa x0) 34]) Z0 2 63 ?_ ?_
 rintro ⟨⟩ j01 F5 g3
 try dsimp only
 refine BH (i:=6) (rk D0) (BM (m' :=127) (sk D0) rfl .plain rfl (AP (m:=16) (k:=1) (len:=5) rfl rfl rfl rfl (by omega)) ?_)
 refine Bq 7 255 D0 rfl rfl .plain (Bu (j:=16) (old:=(aa c0.1 ++ ([vW 0,vW 0,vW 0,vW 0,vW 0,vW 0,vW 0,vW 0,vW 0,vW 0,vW 0,vW 0,vW 0,vW 0,vW 0,vW 0,vW 0,vW 0,vW 0,vW 0,vW 0,vW 0,vW 0,vW 0,vW 0,vW 0,vW 0,vW 0,vW 0,vW 0,vW 0,vW 0,vW 0,vW 0,vW 0,vW 0,vW 0,vW 0,vW 0,vW 0,vW 0,vW 0,vW 0,vW 0,vW 0,vW 0,vW 0,vW 0,vW 0,vW 0,vW 0,vW 0,vW 0,vW 0,vW 0,vW 0,vW 0,vW 0,vW 0,vW 0,vW 0,vW 0,vW 0,vW 0]:List Value))) (news:=(aa u0.1)) (new' :=(aa c0.1 ++ aa u0.1 ++ ([vW 0,vW 0,vW 0,vW 0,vW 0,vW 0,vW 0,vW 0,vW 0,vW 0,vW 0,vW 0,vW 0,vW 0,vW 0,vW 0,vW 0,vW 0,vW 0,vW 0,vW 0,vW 0,vW 0,vW 0,vW 0,vW 0,vW 0,vW 0,vW 0,vW 0,vW 0,vW 0,vW 0,vW 0,vW 0,vW 0,vW 0,vW 0,vW 0,vW 0,vW 0,vW 0,vW 0,vW 0,vW 0,vW 0,vW 0,vW 0]:List Value))) F5 .hd rfl rfl rfl rfl rfl rfl (ai rfl) rfl) fun u00 P2 j3=>AG (dk D0)<|Ay<|Ao<|Ab (FV.add (i:=1) (j:=1) (r:=2) rfl rfl (by decide))<|Ac rfl<|Aa<|BA<|Ae<|Ab (AY (i:=2) (j:=5) rfl rfl)<|Aa<|Ak<|AU rfl<|Av<|Ak<|Ax<|Ae<|Ac rfl<|Ab (FV.idx1 (cs:=[s0,t0,H0,I0,J0]) (k:=2) (m:=1) (len:=5) rfl rfl rfl rfl rfl (by omega) rfl)<|Ag rfl<|Ag rfl<|Aa<|Ae<|Ac rfl<|bk h fun j0 z7 h=>?_
 have q4:=Tt d4 (Tt k2 (Tt p2 (Tt q2 (Tt s2 (Tt u2 (Tt v2 (Tt x2 (Tt y2 (Tt b3 (Tt c3 (Tt g3 j3)))))))))))
 refine Bb (.tuple #[.agg ((aa j0.1)).toArray,vI j0.2]) (bd 19) rfl (e1 rfl) (fun p q=>aP_c n (P2.hL0 hL q) (P2.kd (Ah A2 q4) q) z7) rfl<|Ac rfl<|Ab (Af rfl rfl)<|Ab (Af rfl rfl)<|RG.nl zL P2 fun v00 G8 G5 k3=>AJ (aa j0.1) G5 .hd (ai rfl) fun x00 Q2 p3=>Ag rfl<|Aa<|Ae<|Ac rfl<|bk h fun y0 A7 h=>Bb (.tuple #[.agg ((aa y0.1)).toArray,vI y0.2]) (bd 20) rfl (e1 rfl) (fun p q=>ax_c n (Q2.hL0 hL q) (Q2.kd (Ah A2 (Tt q4 (Tt k3 p3))) q) A7) rfl<|Ac rfl<|Ab (Af rfl rfl)<|Ab (Af rfl rfl)<|RG.nl zL Q2 fun y00 H8 H5 Q3=>AJ (aa y0.1) H5 .hd (ai rfl) fun z00 b1 R3=>Ag rfl<|Aa<|Ak<|Ae<|Ac rfl<|Ab (Bw (i:=j0.2) (j:=0) rfl rfl)<|Ac rfl<|RG.ifn (s:=118) rfl h (fun J4 h=>?_) (fun J4 h=>?_)
 refine AQ (Aq rfl)<|AQ (Bw (i:=y0.2) (j:=0) rfl rfl)<|Bd rfl rfl<|Aa<|BN rfl h (fun K4 h=>?_) (fun K4 h=>?_)
 refine Av<|du 5 fun E0 G1=>Rv 0 E0 rfl G1 (fun _=>Aq rfl)<|Rv 1 E0 rfl G1 (fun _=>Aq rfl)<|Rx 2 240 E0 rfl G1 (Aw rfl (b1.memA .t1))<|Rv 4 E0 rfl G1 (fun _=>AP (m:=16) (k:=2) (len:=5) rfl rfl rfl rfl (by omega))<|RD.mo (α:=Unit) (fun ()=>[(9,vP q0),(18,vP P0),(19,vP A0),(101,.agg #[s0,t0,H0,I0,J0]),(102,vI 2),(123,vI 2),(125,.agg ((aa y0.1)).toArray),(127,.pointer (some (Addr.add ⟨A0,0,none⟩ 16)))]) (fun ()=>[.cells A0 (aa c0.1 ++ aa u0.1 ++ ([vW 0,vW 0,vW 0,vW 0,vW 0,vW 0,vW 0,vW 0,vW 0,vW 0,vW 0,vW 0,vW 0,vW 0,vW 0,vW 0,vW 0,vW 0,vW 0,vW 0,vW 0,vW 0,vW 0,vW 0,vW 0,vW 0,vW 0,vW 0,vW 0,vW 0,vW 0,vW 0,vW 0,vW 0,vW 0,vW 0,vW 0,vW 0,vW 0,vW 0,vW 0,vW 0,vW 0,vW 0,vW 0,vW 0,vW 0,vW 0]:List Value)) 87,.cells P0 (aa b0.1 ++ aa d0.1 ++ aa j0.1 ++ ([vW 0,vW 0,vW 0,vW 0,vW 0,vW 0,vW 0,vW 0,vW 0,vW 0,vW 0,vW 0,vW 0,vW 0,vW 0,vW 0,vW 0,vW 0,vW 0,vW 0,vW 0,vW 0,vW 0,vW 0,vW 0,vW 0,vW 0,vW 0,vW 0,vW 0,vW 0,vW 0]:List Value)) 87,.cells q0 (aa x0) 34]) b1 2 63 ?_ ?_
 rintro ⟨⟩ k01 I5 U3
 try dsimp only
 refine BH (i:=6) (rk E0) (BM (m' :=127) (sk E0) rfl .plain rfl (AP (m:=16) (k:=2) (len:=5) rfl rfl rfl rfl (by omega)) ?_)
 refine Bq 7 255 E0 rfl rfl .plain (Bu (j:=32) (old:=(aa c0.1 ++ aa u0.1 ++ ([vW 0,vW 0,vW 0,vW 0,vW 0,vW 0,vW 0,vW 0,vW 0,vW 0,vW 0,vW 0,vW 0,vW 0,vW 0,vW 0,vW 0,vW 0,vW 0,vW 0,vW 0,vW 0,vW 0,vW 0,vW 0,vW 0,vW 0,vW 0,vW 0,vW 0,vW 0,vW 0,vW 0,vW 0,vW 0,vW 0,vW 0,vW 0,vW 0,vW 0,vW 0,vW 0,vW 0,vW 0,vW 0,vW 0,vW 0,vW 0]:List Value))) (news:=(aa y0.1)) (new' :=(aa c0.1 ++ aa u0.1 ++ aa y0.1 ++ ([vW 0,vW 0,vW 0,vW 0,vW 0,vW 0,vW 0,vW 0,vW 0,vW 0,vW 0,vW 0,vW 0,vW 0,vW 0,vW 0,vW 0,vW 0,vW 0,vW 0,vW 0,vW 0,vW 0,vW 0,vW 0,vW 0,vW 0,vW 0,vW 0,vW 0,vW 0,vW 0]:List Value))) I5 .hd rfl rfl rfl rfl rfl rfl (ai rfl) rfl) fun A00 R2 V3=>AG (dk E0)<|Ay<|Ao<|Ab (FV.add (i:=2) (j:=1) (r:=3) rfl rfl (by decide))<|Ac rfl<|Aa<|BA<|Ae<|Ab (AY (i:=3) (j:=5) rfl rfl)<|Aa<|Ak<|AU rfl<|Av<|Ak<|Ax<|Ae<|Ac rfl<|Ab (FV.idx1 (cs:=[s0,t0,H0,I0,J0]) (k:=3) (m:=1) (len:=5) rfl rfl rfl rfl rfl (by omega) rfl)<|Ag rfl<|Ag rfl<|Aa<|Ae<|Ac rfl<|bk h fun v0 B7 h=>?_
 have s4:=Tt g4 (Tt k2 (Tt p2 (Tt q2 (Tt s2 (Tt u2 (Tt v2 (Tt x2 (Tt y2 (Tt b3 (Tt c3 (Tt g3 (Tt j3 (Tt k3 (Tt p3 (Tt Q3 (Tt R3 (Tt U3 V3)))))))))))))))))
 refine Bb (.tuple #[.agg ((aa v0.1)).toArray,vI v0.2]) (bd 19) rfl (e1 rfl) (fun p q=>aP_c n (R2.hL0 hL q) (R2.kd (Ah A3 s4) q) B7) rfl<|Ac rfl<|Ab (Af rfl rfl)<|Ab (Af rfl rfl)<|RG.nl zL R2 fun B00 I8 J5 W3=>AJ (aa v0.1) J5 .hd (ai rfl) fun C00 U2 X3=>Ag rfl<|Aa<|Ae<|Ac rfl<|bk h fun K0 C7 h=>Bb (.tuple #[.agg ((aa K0.1)).toArray,vI K0.2]) (bd 20) rfl (e1 rfl) (fun p q=>ax_c n (U2.hL0 hL q) (U2.kd (Ah A3 (Tt s4 (Tt W3 X3))) q) C7) rfl<|Ac rfl<|Ab (Af rfl rfl)<|Ab (Af rfl rfl)<|RG.nl zL U2 fun D00 J8 K5 z6=>AJ (aa K0.1) K5 .hd (ai rfl) fun E00 c1 A6=>Ag rfl<|Aa<|Ak<|Ae<|Ac rfl<|Ab (Bw (i:=v0.2) (j:=0) rfl rfl)<|Ac rfl<|RG.ifn (s:=118) rfl h (fun M4 h=>?_) (fun M4 h=>?_)
 refine AQ (Aq rfl)<|AQ (Bw (i:=K0.2) (j:=0) rfl rfl)<|Bd rfl rfl<|Aa<|BN rfl h (fun P4 h=>?_) (fun P4 h=>?_)
 refine Av<|du 5 fun F0 H1=>Rv 0 F0 rfl H1 (fun _=>Aq rfl)<|Rv 1 F0 rfl H1 (fun _=>Aq rfl)<|Rx 2 240 F0 rfl H1 (Aw rfl (c1.memA .t1))<|Rv 4 F0 rfl H1 (fun _=>AP (m:=16) (k:=3) (len:=5) rfl rfl rfl rfl (by omega))<|RD.mo (α:=Unit) (fun ()=>[(9,vP q0),(18,vP P0),(19,vP A0),(101,.agg #[s0,t0,H0,I0,J0]),(102,vI 3),(123,vI 3),(125,.agg ((aa K0.1)).toArray),(127,.pointer (some (Addr.add ⟨A0,0,none⟩ 32)))]) (fun ()=>[.cells A0 (aa c0.1 ++ aa u0.1 ++ aa y0.1 ++ ([vW 0,vW 0,vW 0,vW 0,vW 0,vW 0,vW 0,vW 0,vW 0,vW 0,vW 0,vW 0,vW 0,vW 0,vW 0,vW 0,vW 0,vW 0,vW 0,vW 0,vW 0,vW 0,vW 0,vW 0,vW 0,vW 0,vW 0,vW 0,vW 0,vW 0,vW 0,vW 0]:List Value)) 87,.cells P0 (aa b0.1 ++ aa d0.1 ++ aa j0.1 ++ aa v0.1 ++ (zL:List Value)) 87,.cells q0 (aa x0) 34]) c1 2 63 ?_ ?_
 rintro ⟨⟩ p01 M5 B6
 try dsimp only
 refine BH (i:=6) (rk F0) (BM (m' :=127) (sk F0) rfl .plain rfl (AP (m:=16) (k:=3) (len:=5) rfl rfl rfl rfl (by omega)) ?_)
 refine Bq 7 255 F0 rfl rfl .plain (Bu (j:=48) (old:=(aa c0.1 ++ aa u0.1 ++ aa y0.1 ++ ([vW 0,vW 0,vW 0,vW 0,vW 0,vW 0,vW 0,vW 0,vW 0,vW 0,vW 0,vW 0,vW 0,vW 0,vW 0,vW 0,vW 0,vW 0,vW 0,vW 0,vW 0,vW 0,vW 0,vW 0,vW 0,vW 0,vW 0,vW 0,vW 0,vW 0,vW 0,vW 0]:List Value))) (news:=(aa K0.1)) (new' :=(aa c0.1 ++ aa u0.1 ++ aa y0.1 ++ aa K0.1 ++ (zL:List Value))) M5 .hd rfl rfl rfl rfl rfl rfl (ai rfl) rfl) fun F00 V2 C6=>AG (dk F0)<|Ay<|Ao<|Ab (FV.add (i:=3) (j:=1) (r:=4) rfl rfl (by decide))<|Ac rfl<|Aa<|BA<|Ae<|Ab (AY (i:=4) (j:=5) rfl rfl)<|Aa<|Ak<|AU rfl<|Av<|Ak<|Ax<|Ae<|Ac rfl<|Ab (FV.idx1 (cs:=[s0,t0,H0,I0,J0]) (k:=4) (m:=1) (len:=5) rfl rfl rfl rfl rfl (by omega) rfl)<|Ag rfl<|Ag rfl<|Aa<|Ae<|Ac rfl<|bk h fun M0 D7 h=>?_
 have u4:=Tt j4 (Tt k2 (Tt p2 (Tt q2 (Tt s2 (Tt u2 (Tt v2 (Tt x2 (Tt y2 (Tt b3 (Tt c3 (Tt g3 (Tt j3 (Tt k3 (Tt p3 (Tt Q3 (Tt R3 (Tt U3 (Tt V3 (Tt W3 (Tt X3 (Tt z6 (Tt A6 (Tt B6 C6)))))))))))))))))))))))
 refine Bb (.tuple #[.agg ((aa M0.1)).toArray,vI M0.2]) (bd 19) rfl (e1 rfl) (fun p q=>aP_c n (V2.hL0 hL q) (V2.kd (Ah B2 u4) q) D7) rfl<|Ac rfl<|Ab (Af rfl rfl)<|Ab (Af rfl rfl)<|RG.nl zL V2 fun G00 K8 P5 D6=>AJ (aa M0.1) P5 .hd (ai rfl) fun H00 W2 E6=>Ag rfl<|Aa<|Ae<|Ac rfl<|bk h fun R0 E7 h=>Bb (.tuple #[.agg ((aa R0.1)).toArray,vI R0.2]) (bd 20) rfl (e1 rfl) (fun p q=>ax_c n (W2.hL0 hL q) (W2.kd (Ah B2 (Tt u4 (Tt D6 E6))) q) E7) rfl<|Ac rfl<|Ab (Af rfl rfl)<|Ab (Af rfl rfl)<|RG.nl zL W2 fun I00 M8 Q5 p9=>AJ (aa R0.1) Q5 .hd (ai rfl) fun J00 d1 q9=>Ag rfl<|Aa<|Ak<|Ae<|Ac rfl<|Ab (Bw (i:=M0.2) (j:=0) rfl rfl)<|Ac rfl<|RG.ifn (s:=118) rfl h (fun Q4 h=>?_) (fun Q4 h=>?_)
 refine AQ (Aq rfl)<|AQ (Bw (i:=R0.2) (j:=0) rfl rfl)<|Bd rfl rfl<|Aa<|BN rfl h (fun R4 h=>?_) (fun R4 h=>?_)
 refine Av<|du 5 fun G0 I1=>Rv 0 G0 rfl I1 (fun _=>Aq rfl)<|Rv 1 G0 rfl I1 (fun _=>Aq rfl)<|Rx 2 240 G0 rfl I1 (Aw rfl (d1.memA .t1))<|Rv 4 G0 rfl I1 (fun _=>AP (m:=16) (k:=4) (len:=5) rfl rfl rfl rfl (by omega))<|RD.mo (α:=Unit) (fun ()=>[(9,vP q0),(18,vP P0),(19,vP A0),(101,.agg #[s0,t0,H0,I0,J0]),(102,vI 4),(123,vI 4),(125,.agg ((aa R0.1)).toArray),(127,.pointer (some (Addr.add ⟨A0,0,none⟩ 48)))]) (fun ()=>[.cells A0 (aa c0.1 ++ aa u0.1 ++ aa y0.1 ++ aa K0.1 ++ (zL:List Value)) 87,.cells P0 (aa b0.1 ++ aa d0.1 ++ aa j0.1 ++ aa v0.1 ++ aa M0.1) 87,.cells q0 (aa x0) 34]) d1 2 63 ?_ ?_
 rintro ⟨⟩ q01 R5 s9
 try dsimp only
 refine BH (i:=6) (rk G0) (BM (m' :=127) (sk G0) rfl .plain rfl (AP (m:=16) (k:=4) (len:=5) rfl rfl rfl rfl (by omega)) ?_)
 refine Bq 7 255 G0 rfl rfl .plain (Bu (j:=64) (old:=(aa c0.1 ++ aa u0.1 ++ aa y0.1 ++ aa K0.1 ++ (zL:List Value))) (news:=(aa R0.1)) (new' :=(aa c0.1 ++ aa u0.1 ++ aa y0.1 ++ aa K0.1 ++ aa R0.1)) R5 .hd rfl rfl rfl rfl rfl rfl (ai rfl) rfl) fun K00 V1 t9=>AG (dk G0)<|Ay<|Ao<|Ab (FV.add (i:=4) (j:=1) (r:=5) rfl rfl (by decide))<|Ac rfl<|Aa<|BA<|Ae<|Ab (AY (i:=5) (j:=5) rfl rfl)<|Aa<|Ak<|BG rfl<|Ba rfl<|Ae<|Ab (Aw rfl (V1.memA .t2))<|Ab (Aw rfl (V1.memA .t2))<|bk h fun E2 F7 h=>Bb (.tuple #[.agg ((aa E2.1)).toArray,vI E2.2]) (bd 51) rfl (e2 rfl rfl) (fun p q=>cE_c n (V1.hL0 hL q) x0 x0 F7) rfl<|Ac rfl<|Ab (Af rfl rfl)<|Ab (Af rfl rfl)<|RG.nl zL V1 fun M00 P8 U5 u9=>AJ (aa E2.1) U5 .hd (ai rfl) fun P00 W1 v9=>Ag rfl<|Aa<|Ae<|Ab (AP (m:=16) (k:=0) (len:=5) rfl rfl rfl rfl (by omega))<|Ab (AN (cs:=(aa b0.1)) rfl rfl (ae (W1.memA .t2) 0 16))<|Ab (AP (m:=16) (k:=1) (len:=5) rfl rfl rfl rfl (by omega))<|Ab (AN (cs:=(aa d0.1)) rfl rfl (ae (W1.memA .t2) 16 16))<|bk h fun p1 G7 h=>Bb (.tuple #[.agg ((aa p1.1)).toArray,vI p1.2]) (bd 52) rfl (e2 rfl rfl) (fun p q=>cA_c n (W1.hL0 hL q) b0.1 d0.1 G7) rfl<|Ac rfl<|Ab (Af rfl rfl)<|Ab (Af rfl rfl)<|RG.nl zL W1 fun Q00 Q8 V5 x9=>AJ (aa p1.1) V5 .hd (ai rfl) fun R00 X1 y9=>?_
 refine Ag rfl<|Aa<|Ae<|Ab (AP (m:=16) (k:=0) (len:=5) rfl rfl rfl rfl (by omega))<|Ab (AN (cs:=(aa c0.1)) rfl rfl (ae (X1.memA .t2) 0 16))<|Ab (AP (m:=16) (k:=1) (len:=5) rfl rfl rfl rfl (by omega))<|Ab (AN (cs:=(aa u0.1)) rfl rfl (ae (X1.memA .t2) 16 16))<|bk h fun q1 H7 h=>Bb (.tuple #[.agg ((aa q1.1)).toArray,vI q1.2]) (bd 52) rfl (e2 rfl rfl) (fun p q=>cA_c n (X1.hL0 hL q) c0.1 u0.1 H7) rfl<|Ac rfl<|Ab (Af rfl rfl)<|Ab (Af rfl rfl)<|RG.nl zL X1 fun U00 R8 W5 z9=>AJ (aa q1.1) W5 .hd (ai rfl) fun V00 Y1 A9=>Ag rfl<|Aa<|Ae<|Ab (AP (m:=16) (k:=0) (len:=5) rfl rfl rfl rfl (by omega))<|Ab (AN (cs:=(aa b0.1)) rfl rfl (ae (Y1.memA .t4) 0 16))<|Ab (Aw rfl (Y1.memA .t5))<|bk h fun s1 I7 h=>Bb (.tuple #[.agg ((aa s1.1)).toArray,vI s1.2]) (bd 52) rfl (e2 rfl rfl) (fun p q=>cA_c n (Y1.hL0 hL q) b0.1 x0 I7) rfl<|Ac rfl<|Ab (Af rfl rfl)<|Ab (Af rfl rfl)<|RG.nl zL Y1 fun W00 U8 X5 B9=>AJ (aa s1.1) X5 .hd (ai rfl) fun X00 Z1 C9=>Ag rfl<|Aa<|Ae<|Ab (AP (m:=16) (k:=0) (len:=5) rfl rfl rfl rfl (by omega))<|Ab (AN (cs:=(aa b0.1)) rfl rfl (ae (Z1.memA .t5) 0 16))<|Ab (Aw rfl (Z1.memA .t6))<|bk h fun u1 J7 h=>Bb (.tuple #[.agg ((aa u1.1)).toArray,vI u1.2]) (bd 51) rfl (e2 rfl rfl) (fun p q=>cE_c n (Z1.hL0 hL q) b0.1 x0 J7) rfl<|Ac rfl<|Ab (Af rfl rfl)<|Ab (Af rfl rfl)<|RG.nl zL Z1 fun Y00 V8 Y5 D9=>AJ (aa u1.1) Y5 .hd (ai rfl) fun Z00 b2 E9=>?_
 refine Ag rfl<|Aa<|Ae<|Ab (AP (m:=16) (k:=0) (len:=5) rfl rfl rfl rfl (by omega))<|Ab (AN (cs:=(aa c0.1)) rfl rfl (ae (b2.memA .t5) 0 16))<|Ab (Aw rfl (b2.memA .t4))<|bk h fun v1 K7 h=>Bb (.tuple #[.agg ((aa v1.1)).toArray,vI v1.2]) (bd 51) rfl (e2 rfl rfl) (fun p q=>cE_c n (b2.hL0 hL q) c0.1 E2.1 K7) rfl<|Ac rfl<|Ab (Af rfl rfl)<|Ab (Af rfl rfl)<|RG.nl zL b2 fun b01 W8 Z5 F9=>AJ (aa v1.1) Z5 .hd (ai rfl) fun c01 g0 G9=>Ag rfl<|Aa<|Ak<|Ao<|Ac rfl<|Ab (FV.eql (i:=p1.2) (j:=0) rfl rfl)<|Ac rfl<|RG.ifd (s:=174) rfl h (fun U4 h=>?_) (fun U4 h=>?_)
 refine AQ (Aq rfl)<|AQ (FV.eql (i:=q1.2) (j:=0) rfl rfl)<|Bz rfl rfl<|Ac rfl<|RG.ifd (s:=178) rfl h (fun V4 h=>?_) (fun V4 h=>?_)
 refine AQ (Aq rfl)<|AQ (FV.eql (i:=s1.2) (j:=0) rfl rfl)<|Bz rfl rfl<|Ac rfl<|RG.ifd (s:=182) rfl h (fun W4 h=>?_) (fun W4 h=>?_)
 refine AQ (Aq rfl)<|AQ (FV.eql (i:=u1.2) (j:=0) rfl rfl)<|Bz rfl rfl<|Ac rfl<|RG.ifd (s:=186) rfl h (fun X4 h=>?_) (fun X4 h=>?_)
 refine AQ (Aq rfl)<|AQ (FV.eql (i:=v1.2) (j:=0) rfl rfl)<|Bz rfl rfl<|Ac rfl<|RG.ifd (s:=190) rfl h (fun Y4 h=>?_) (fun Y4 h=>?_)
 refine AQ (AP (m:=16) (k:=2) (len:=5) rfl rfl rfl rfl (by omega))<|AQ (AN (cs:=(aa j0.1)) rfl rfl (ae (g0.memA .t7) 32 16))<|AQ (Aw rfl (g0.memA .t4))<|AQ (FV.eqlV (v:=.agg ((aa j0.1)).toArray) (u:=.agg ((aa p1.1)).toArray) rfl rfl (bN j0.1 p1.1))<|Bz rfl rfl<|Ac rfl<|RG.ifd (s:=196) rfl h (fun Z4 h=>?_) (fun Z4 h=>?_)
 refine AQ (AP (m:=16) (k:=2) (len:=5) rfl rfl rfl rfl (by omega))<|AQ (AN (cs:=(aa y0.1)) rfl rfl (ae (g0.memA .t6) 32 16))<|AQ (Aw rfl (g0.memA .t3))<|AQ (FV.eqlV (v:=.agg ((aa y0.1)).toArray) (u:=.agg ((aa q1.1)).toArray) rfl rfl (bN y0.1 q1.1))<|Bz rfl rfl<|Ac rfl<|RG.ifd (s:=202) rfl h (fun b5 h=>?_) (fun b5 h=>?_)
 refine AQ (AP (m:=16) (k:=3) (len:=5) rfl rfl rfl rfl (by omega))<|AQ (AN (cs:=(aa v0.1)) rfl rfl (ae (g0.memA .t7) 48 16))<|AQ (Aw rfl (g0.memA .t2))<|AQ (FV.eqlV (v:=.agg ((aa v0.1)).toArray) (u:=.agg ((aa s1.1)).toArray) rfl rfl (bN v0.1 s1.1))<|Bz rfl rfl<|Ac rfl<|RG.ifd (s:=208) rfl h (fun c5 h=>?_) (fun c5 h=>?_)
 refine AQ (AP (m:=16) (k:=3) (len:=5) rfl rfl rfl rfl (by omega))<|AQ (AN (cs:=(aa K0.1)) rfl rfl (ae (g0.memA .t6) 48 16))<|AQ (AP (m:=16) (k:=0) (len:=5) rfl rfl rfl rfl (by omega))<|AQ (AN (cs:=(aa c0.1)) rfl rfl (ae (g0.memA .t6) 0 16))<|AQ (FV.eqlV (v:=.agg ((aa K0.1)).toArray) (u:=.agg ((aa c0.1)).toArray) rfl rfl (bN K0.1 c0.1))<|Bz rfl rfl<|Ac rfl<|RG.ifd (s:=215) rfl h (fun d5 h=>?_) (fun d5 h=>?_)
 refine AQ (AP (m:=16) (k:=4) (len:=5) rfl rfl rfl rfl (by omega))<|AQ (AN (cs:=(aa M0.1)) rfl rfl (ae (g0.memA .t7) 64 16))<|AQ (Aw rfl (g0.memA .t1))<|AQ (FV.eqlV (v:=.agg ((aa M0.1)).toArray) (u:=.agg ((aa u1.1)).toArray) rfl rfl (bN M0.1 u1.1))<|Bz rfl rfl<|Ac rfl<|RG.ifd (s:=221) rfl h (fun g5 h=>?_) (fun g5 h=>?_)
 refine AQ (AP (m:=16) (k:=4) (len:=5) rfl rfl rfl rfl (by omega))<|AQ (AN (cs:=(aa R0.1)) rfl rfl (ae (g0.memA .t6) 64 16))<|AQ (Aw rfl (g0.memA .hd))<|AQ (FV.eqlV (v:=.agg ((aa R0.1)).toArray) (u:=.agg ((aa v1.1)).toArray) rfl rfl (bN R0.1 v1.1))<|Bz rfl rfl<|Ag rfl<|Aa<|Ar rfl<|Be hb0 func7 rfl rfl ?_
 cases h
 exact g0.gv
 refine Aj<|Aj<|Aj<|Aj<|Bd rfl rfl<|Ag rfl<|Aa<|Ar rfl<|Be hb0 func7 rfl rfl ?_
 cases h
 exact g0.gv
 refine Aj<|Aj<|Aj<|Aj<|Bd rfl rfl<|Ac rfl<|Aj<|Aj<|Aj<|Aj<|Bd rfl rfl<|Ag rfl<|Aa<|Ar rfl<|Be hb0 func7 rfl rfl ?_
 cases h
 exact g0.gv
 refine Aj<|Aj<|Aj<|Aj<|Aj<|Bd rfl rfl<|Ac rfl<|Aj<|Aj<|Aj<|Aj<|Bd rfl rfl<|Ac rfl<|Aj<|Aj<|Aj<|Aj<|Bd rfl rfl<|Ag rfl<|Aa<|Ar rfl<|Be hb0 func7 rfl rfl ?_
 cases h
 exact g0.gv
 refine Aj<|Aj<|Aj<|Aj<|Bd rfl rfl<|Ac rfl<|Aj<|Aj<|Aj<|Aj<|Aj<|Bd rfl rfl<|Ac rfl<|Aj<|Aj<|Aj<|Aj<|Bd rfl rfl<|Ac rfl<|Aj<|Aj<|Aj<|Aj<|Bd rfl rfl<|Ag rfl<|Aa<|Ar rfl<|Be hb0 func7 rfl rfl ?_
 cases h
 exact g0.gv
 refine Aj<|Aj<|Aj<|Aj<|Bd rfl rfl<|Ac rfl<|Aj<|Aj<|Aj<|Aj<|Bd rfl rfl<|Ac rfl<|Aj<|Aj<|Aj<|Aj<|Aj<|Bd rfl rfl<|Ac rfl<|Aj<|Aj<|Aj<|Aj<|Bd rfl rfl<|Ac rfl<|Aj<|Aj<|Aj<|Aj<|Bd rfl rfl<|Ag rfl<|Aa<|Ar rfl<|Be hb0 func7 rfl rfl ?_
 cases h
 exact g0.gv
 refine Aj<|Aj<|Aj<|Aj<|Bd rfl rfl<|Ac rfl<|Aj<|Aj<|Aj<|Aj<|Bd rfl rfl<|Ac rfl<|Aj<|Aj<|Aj<|Aj<|Bd rfl rfl<|Ac rfl<|Aj<|Aj<|Aj<|Aj<|Aj<|Bd rfl rfl<|Ac rfl<|Aj<|Aj<|Aj<|Aj<|Bd rfl rfl<|Ac rfl<|Aj<|Aj<|Aj<|Aj<|Bd rfl rfl<|Ag rfl<|Aa<|Ar rfl<|Be hb0 func7 rfl rfl ?_
 cases h
 exact g0.gv
 refine Aj<|Aj<|Bd rfl rfl<|Ac rfl<|Aj<|Aj<|Aj<|Aj<|Bd rfl rfl<|Ac rfl<|Aj<|Aj<|Aj<|Aj<|Bd rfl rfl<|Ac rfl<|Aj<|Aj<|Aj<|Aj<|Bd rfl rfl<|Ac rfl<|Aj<|Aj<|Aj<|Aj<|Aj<|Bd rfl rfl<|Ac rfl<|Aj<|Aj<|Aj<|Aj<|Bd rfl rfl<|Ac rfl<|Aj<|Aj<|Aj<|Aj<|Bd rfl rfl<|Ag rfl<|Aa<|Ar rfl<|Be hb0 func7 rfl rfl ?_
 cases h
 exact g0.gv
 refine Aj<|Aj<|Bd rfl rfl<|Ac rfl<|Aj<|Aj<|Bd rfl rfl<|Ac rfl<|Aj<|Aj<|Aj<|Aj<|Bd rfl rfl<|Ac rfl<|Aj<|Aj<|Aj<|Aj<|Bd rfl rfl<|Ac rfl<|Aj<|Aj<|Aj<|Aj<|Bd rfl rfl<|Ac rfl<|Aj<|Aj<|Aj<|Aj<|Aj<|Bd rfl rfl<|Ac rfl<|Aj<|Aj<|Aj<|Aj<|Bd rfl rfl<|Ac rfl<|Aj<|Aj<|Aj<|Aj<|Bd rfl rfl<|Ag rfl<|Aa<|Ar rfl<|Be hb0 func7 rfl rfl ?_
 cases h
 exact g0.gv
 refine Aj<|Aj<|Bd rfl rfl<|Ac rfl<|Aj<|Aj<|Bd rfl rfl<|Ac rfl<|Aj<|Aj<|Bd rfl rfl<|Ac rfl<|Aj<|Aj<|Aj<|Aj<|Bd rfl rfl<|Ac rfl<|Aj<|Aj<|Aj<|Aj<|Bd rfl rfl<|Ac rfl<|Aj<|Aj<|Aj<|Aj<|Bd rfl rfl<|Ac rfl<|Aj<|Aj<|Aj<|Aj<|Aj<|Bd rfl rfl<|Ac rfl<|Aj<|Aj<|Aj<|Aj<|Bd rfl rfl<|Ac rfl<|Aj<|Aj<|Aj<|Aj<|Bd rfl rfl<|Ag rfl<|Aa<|Ar rfl<|Be hb0 func7 rfl rfl ?_
 cases h
 exact g0.gv
 refine Aj<|Aj<|Bd rfl rfl<|Ac rfl<|Aj<|Aj<|Bd rfl rfl<|Ac rfl<|Aj<|Aj<|Bd rfl rfl<|Ac rfl<|Aj<|Aj<|Bd rfl rfl<|Ac rfl<|Aj<|Aj<|Aj<|Aj<|Bd rfl rfl<|Ac rfl<|Aj<|Aj<|Aj<|Aj<|Bd rfl rfl<|Ac rfl<|Aj<|Aj<|Aj<|Aj<|Bd rfl rfl<|Ac rfl<|Aj<|Aj<|Aj<|Aj<|Aj<|Bd rfl rfl<|Ac rfl<|Aj<|Aj<|Aj<|Aj<|Bd rfl rfl<|Ac rfl<|Aj<|Aj<|Aj<|Aj<|Bd rfl rfl<|Ag rfl<|Aa<|Ar rfl<|Be hb0 func7 rfl rfl ?_
 cases h
 exact g0.gv
 intro F3
 refine BF [3,5] (rk G0) ⟨?_,?_,trivial⟩
 refine BM (m' :=31) (sk G0) rfl .plain rfl (Aw rfl (d1.memA .hd))<|Bq 5 63 G0 rfl rfl .plain (Bu (j:=64) (old:=(aa b0.1 ++ aa d0.1 ++ aa j0.1 ++ aa v0.1 ++ (zL:List Value))) (news:=(aa M0.1)) (new' :=(aa b0.1 ++ aa d0.1 ++ aa j0.1 ++ aa v0.1 ++ aa M0.1)) d1 .t3 rfl rfl rfl rfl rfl rfl (ai rfl) rfl) fun Z7 U1 u3=>?_
 obtain ⟨b6,F6⟩:=Az U1 .d2
 exact F3 () b6 (Tt u3 F6)
 refine RO.now (m' :=55) (sk G0) rfl rfl .plain (Bu (j:=64) (old:=(aa b0.1 ++ aa d0.1 ++ aa j0.1 ++ aa v0.1 ++ (zL:List Value))) (news:=(aa M0.1)) (new' :=(aa b0.1 ++ aa d0.1 ++ aa j0.1 ++ aa v0.1 ++ aa M0.1)) d1 .t3 rfl rfl rfl rfl rfl rfl (ai rfl) rfl) fun Z7 U1 u3=>Rx 3 192 G0 rfl I1 (Aw rfl (U1.memA .hd)) ?_
 obtain ⟨c6,G6⟩:=Az U1 .d2
 exact F3 () c6 (Tt u3 G6)
 refine Ae<|Ag rfl<|Aa<|Ar rfl<|Be hb0 func7 rfl rfl ?_
 cases h
 exact d1.gv
 refine Aj<|Aj<|Bz rfl rfl<|Aa<|AU rfl<|Ae<|Ag rfl<|Aa<|Ar rfl<|Be hb0 func7 rfl rfl ?_
 cases h
 exact d1.gv
 intro G3
 refine BF [3,5] (rk F0) ⟨?_,?_,trivial⟩
 refine BM (m' :=31) (sk F0) rfl .plain rfl (Aw rfl (c1.memA .hd))<|Bq 5 63 F0 rfl rfl .plain (Bu (j:=48) (old:=(aa b0.1 ++ aa d0.1 ++ aa j0.1 ++ ([vW 0,vW 0,vW 0,vW 0,vW 0,vW 0,vW 0,vW 0,vW 0,vW 0,vW 0,vW 0,vW 0,vW 0,vW 0,vW 0,vW 0,vW 0,vW 0,vW 0,vW 0,vW 0,vW 0,vW 0,vW 0,vW 0,vW 0,vW 0,vW 0,vW 0,vW 0,vW 0]:List Value))) (news:=(aa v0.1)) (new' :=(aa b0.1 ++ aa d0.1 ++ aa j0.1 ++ aa v0.1 ++ (zL:List Value))) c1 .t3 rfl rfl rfl rfl rfl rfl (ai rfl) rfl) fun Y7 R1 s3=>?_
 obtain ⟨d6,H6⟩:=Az R1 .d2
 exact G3 () d6 (Tt s3 H6)
 refine RO.now (m' :=55) (sk F0) rfl rfl .plain (Bu (j:=48) (old:=(aa b0.1 ++ aa d0.1 ++ aa j0.1 ++ ([vW 0,vW 0,vW 0,vW 0,vW 0,vW 0,vW 0,vW 0,vW 0,vW 0,vW 0,vW 0,vW 0,vW 0,vW 0,vW 0,vW 0,vW 0,vW 0,vW 0,vW 0,vW 0,vW 0,vW 0,vW 0,vW 0,vW 0,vW 0,vW 0,vW 0,vW 0,vW 0]:List Value))) (news:=(aa v0.1)) (new' :=(aa b0.1 ++ aa d0.1 ++ aa j0.1 ++ aa v0.1 ++ (zL:List Value))) c1 .t3 rfl rfl rfl rfl rfl rfl (ai rfl) rfl) fun Y7 R1 s3=>Rx 3 192 F0 rfl H1 (Aw rfl (R1.memA .hd)) ?_
 obtain ⟨g6,I6⟩:=Az R1 .d2
 exact G3 () g6 (Tt s3 I6)
 refine Ae<|Ag rfl<|Aa<|Ar rfl<|Be hb0 func7 rfl rfl ?_
 cases h
 exact c1.gv
 refine Aj<|Aj<|Bz rfl rfl<|Aa<|AU rfl<|Ae<|Ag rfl<|Aa<|Ar rfl<|Be hb0 func7 rfl rfl ?_
 cases h
 exact c1.gv
 intro H3
 refine BF [3,5] (rk E0) ⟨?_,?_,trivial⟩
 refine BM (m' :=31) (sk E0) rfl .plain rfl (Aw rfl (b1.memA .hd))<|Bq 5 63 E0 rfl rfl .plain (Bu (j:=32) (old:=(aa b0.1 ++ aa d0.1 ++ ([vW 0,vW 0,vW 0,vW 0,vW 0,vW 0,vW 0,vW 0,vW 0,vW 0,vW 0,vW 0,vW 0,vW 0,vW 0,vW 0,vW 0,vW 0,vW 0,vW 0,vW 0,vW 0,vW 0,vW 0,vW 0,vW 0,vW 0,vW 0,vW 0,vW 0,vW 0,vW 0,vW 0,vW 0,vW 0,vW 0,vW 0,vW 0,vW 0,vW 0,vW 0,vW 0,vW 0,vW 0,vW 0,vW 0,vW 0,vW 0]:List Value))) (news:=(aa j0.1)) (new' :=(aa b0.1 ++ aa d0.1 ++ aa j0.1 ++ ([vW 0,vW 0,vW 0,vW 0,vW 0,vW 0,vW 0,vW 0,vW 0,vW 0,vW 0,vW 0,vW 0,vW 0,vW 0,vW 0,vW 0,vW 0,vW 0,vW 0,vW 0,vW 0,vW 0,vW 0,vW 0,vW 0,vW 0,vW 0,vW 0,vW 0,vW 0,vW 0]:List Value))) b1 .t3 rfl rfl rfl rfl rfl rfl (ai rfl) rfl) fun X7 Q1 q3=>?_
 obtain ⟨j6,J6⟩:=Az Q1 .d2
 exact H3 () j6 (Tt q3 J6)
 refine RO.now (m' :=55) (sk E0) rfl rfl .plain (Bu (j:=32) (old:=(aa b0.1 ++ aa d0.1 ++ ([vW 0,vW 0,vW 0,vW 0,vW 0,vW 0,vW 0,vW 0,vW 0,vW 0,vW 0,vW 0,vW 0,vW 0,vW 0,vW 0,vW 0,vW 0,vW 0,vW 0,vW 0,vW 0,vW 0,vW 0,vW 0,vW 0,vW 0,vW 0,vW 0,vW 0,vW 0,vW 0,vW 0,vW 0,vW 0,vW 0,vW 0,vW 0,vW 0,vW 0,vW 0,vW 0,vW 0,vW 0,vW 0,vW 0,vW 0,vW 0]:List Value))) (news:=(aa j0.1)) (new' :=(aa b0.1 ++ aa d0.1 ++ aa j0.1 ++ ([vW 0,vW 0,vW 0,vW 0,vW 0,vW 0,vW 0,vW 0,vW 0,vW 0,vW 0,vW 0,vW 0,vW 0,vW 0,vW 0,vW 0,vW 0,vW 0,vW 0,vW 0,vW 0,vW 0,vW 0,vW 0,vW 0,vW 0,vW 0,vW 0,vW 0,vW 0,vW 0]:List Value))) b1 .t3 rfl rfl rfl rfl rfl rfl (ai rfl) rfl) fun X7 Q1 q3=>Rx 3 192 E0 rfl G1 (Aw rfl (Q1.memA .hd)) ?_
 obtain ⟨k6,K6⟩:=Az Q1 .d2
 exact H3 () k6 (Tt q3 K6)
 refine Ae<|Ag rfl<|Aa<|Ar rfl<|Be hb0 func7 rfl rfl ?_
 cases h
 exact b1.gv
 refine Aj<|Aj<|Bz rfl rfl<|Aa<|AU rfl<|Ae<|Ag rfl<|Aa<|Ar rfl<|Be hb0 func7 rfl rfl ?_
 cases h
 exact b1.gv
 intro I3
 refine BF [3,5] (rk D0) ⟨?_,?_,trivial⟩
 refine BM (m' :=31) (sk D0) rfl .plain rfl (Aw rfl (Z0.memA .hd))<|Bq 5 63 D0 rfl rfl .plain (Bu (j:=16) (old:=(aa b0.1 ++ ([vW 0,vW 0,vW 0,vW 0,vW 0,vW 0,vW 0,vW 0,vW 0,vW 0,vW 0,vW 0,vW 0,vW 0,vW 0,vW 0,vW 0,vW 0,vW 0,vW 0,vW 0,vW 0,vW 0,vW 0,vW 0,vW 0,vW 0,vW 0,vW 0,vW 0,vW 0,vW 0,vW 0,vW 0,vW 0,vW 0,vW 0,vW 0,vW 0,vW 0,vW 0,vW 0,vW 0,vW 0,vW 0,vW 0,vW 0,vW 0,vW 0,vW 0,vW 0,vW 0,vW 0,vW 0,vW 0,vW 0,vW 0,vW 0,vW 0,vW 0,vW 0,vW 0,vW 0,vW 0]:List Value))) (news:=(aa d0.1)) (new' :=(aa b0.1 ++ aa d0.1 ++ ([vW 0,vW 0,vW 0,vW 0,vW 0,vW 0,vW 0,vW 0,vW 0,vW 0,vW 0,vW 0,vW 0,vW 0,vW 0,vW 0,vW 0,vW 0,vW 0,vW 0,vW 0,vW 0,vW 0,vW 0,vW 0,vW 0,vW 0,vW 0,vW 0,vW 0,vW 0,vW 0,vW 0,vW 0,vW 0,vW 0,vW 0,vW 0,vW 0,vW 0,vW 0,vW 0,vW 0,vW 0,vW 0,vW 0,vW 0,vW 0]:List Value))) Z0 .t3 rfl rfl rfl rfl rfl rfl (ai rfl) rfl) fun W7 P1 d3=>?_
 obtain ⟨p6,M6⟩:=Az P1 .d2
 exact I3 () p6 (Tt d3 M6)
 refine RO.now (m' :=55) (sk D0) rfl rfl .plain (Bu (j:=16) (old:=(aa b0.1 ++ ([vW 0,vW 0,vW 0,vW 0,vW 0,vW 0,vW 0,vW 0,vW 0,vW 0,vW 0,vW 0,vW 0,vW 0,vW 0,vW 0,vW 0,vW 0,vW 0,vW 0,vW 0,vW 0,vW 0,vW 0,vW 0,vW 0,vW 0,vW 0,vW 0,vW 0,vW 0,vW 0,vW 0,vW 0,vW 0,vW 0,vW 0,vW 0,vW 0,vW 0,vW 0,vW 0,vW 0,vW 0,vW 0,vW 0,vW 0,vW 0,vW 0,vW 0,vW 0,vW 0,vW 0,vW 0,vW 0,vW 0,vW 0,vW 0,vW 0,vW 0,vW 0,vW 0,vW 0,vW 0]:List Value))) (news:=(aa d0.1)) (new' :=(aa b0.1 ++ aa d0.1 ++ ([vW 0,vW 0,vW 0,vW 0,vW 0,vW 0,vW 0,vW 0,vW 0,vW 0,vW 0,vW 0,vW 0,vW 0,vW 0,vW 0,vW 0,vW 0,vW 0,vW 0,vW 0,vW 0,vW 0,vW 0,vW 0,vW 0,vW 0,vW 0,vW 0,vW 0,vW 0,vW 0,vW 0,vW 0,vW 0,vW 0,vW 0,vW 0,vW 0,vW 0,vW 0,vW 0,vW 0,vW 0,vW 0,vW 0,vW 0,vW 0]:List Value))) Z0 .t3 rfl rfl rfl rfl rfl rfl (ai rfl) rfl) fun W7 P1 d3=>Rx 3 192 D0 rfl F1 (Aw rfl (P1.memA .hd)) ?_
 obtain ⟨q6,P6⟩:=Az P1 .d2
 exact I3 () q6 (Tt d3 P6)
 refine Ae<|Ag rfl<|Aa<|Ar rfl<|Be hb0 func7 rfl rfl ?_
 cases h
 exact Z0.gv
 refine Aj<|Aj<|Bz rfl rfl<|Aa<|AU rfl<|Ae<|Ag rfl<|Aa<|Ar rfl<|Be hb0 func7 rfl rfl ?_
 cases h
 exact Z0.gv
 intro J3
 refine BF [3,5] (rk C0) ⟨?_,?_,trivial⟩
 refine BM (m' :=31) (sk C0) rfl .plain rfl (Aw rfl (Y0.memA .hd))<|Bq 5 63 C0 rfl rfl .plain (Bu (j:=0) (old:=[vW 0,vW 0,vW 0,vW 0,vW 0,vW 0,vW 0,vW 0,vW 0,vW 0,vW 0,vW 0,vW 0,vW 0,vW 0,vW 0,vW 0,vW 0,vW 0,vW 0,vW 0,vW 0,vW 0,vW 0,vW 0,vW 0,vW 0,vW 0,vW 0,vW 0,vW 0,vW 0,vW 0,vW 0,vW 0,vW 0,vW 0,vW 0,vW 0,vW 0,vW 0,vW 0,vW 0,vW 0,vW 0,vW 0,vW 0,vW 0,vW 0,vW 0,vW 0,vW 0,vW 0,vW 0,vW 0,vW 0,vW 0,vW 0,vW 0,vW 0,vW 0,vW 0,vW 0,vW 0,vW 0,vW 0,vW 0,vW 0,vW 0,vW 0,vW 0,vW 0,vW 0,vW 0,vW 0,vW 0,vW 0,vW 0,vW 0,vW 0]) (news:=(aa b0.1)) (new' :=(aa b0.1 ++ ([vW 0,vW 0,vW 0,vW 0,vW 0,vW 0,vW 0,vW 0,vW 0,vW 0,vW 0,vW 0,vW 0,vW 0,vW 0,vW 0,vW 0,vW 0,vW 0,vW 0,vW 0,vW 0,vW 0,vW 0,vW 0,vW 0,vW 0,vW 0,vW 0,vW 0,vW 0,vW 0,vW 0,vW 0,vW 0,vW 0,vW 0,vW 0,vW 0,vW 0,vW 0,vW 0,vW 0,vW 0,vW 0,vW 0,vW 0,vW 0,vW 0,vW 0,vW 0,vW 0,vW 0,vW 0,vW 0,vW 0,vW 0,vW 0,vW 0,vW 0,vW 0,vW 0,vW 0,vW 0]:List Value))) Y0 .t3 rfl rfl rfl rfl rfl rfl (ai rfl) rfl) fun U7 M1 Z2=>?_
 obtain ⟨s6,Q6⟩:=Az M1 .d2
 exact J3 () s6 (Tt Z2 Q6)
 refine RO.now (m' :=55) (sk C0) rfl rfl .plain (Bu (j:=0) (old:=[vW 0,vW 0,vW 0,vW 0,vW 0,vW 0,vW 0,vW 0,vW 0,vW 0,vW 0,vW 0,vW 0,vW 0,vW 0,vW 0,vW 0,vW 0,vW 0,vW 0,vW 0,vW 0,vW 0,vW 0,vW 0,vW 0,vW 0,vW 0,vW 0,vW 0,vW 0,vW 0,vW 0,vW 0,vW 0,vW 0,vW 0,vW 0,vW 0,vW 0,vW 0,vW 0,vW 0,vW 0,vW 0,vW 0,vW 0,vW 0,vW 0,vW 0,vW 0,vW 0,vW 0,vW 0,vW 0,vW 0,vW 0,vW 0,vW 0,vW 0,vW 0,vW 0,vW 0,vW 0,vW 0,vW 0,vW 0,vW 0,vW 0,vW 0,vW 0,vW 0,vW 0,vW 0,vW 0,vW 0,vW 0,vW 0,vW 0,vW 0]) (news:=(aa b0.1)) (new' :=(aa b0.1 ++ ([vW 0,vW 0,vW 0,vW 0,vW 0,vW 0,vW 0,vW 0,vW 0,vW 0,vW 0,vW 0,vW 0,vW 0,vW 0,vW 0,vW 0,vW 0,vW 0,vW 0,vW 0,vW 0,vW 0,vW 0,vW 0,vW 0,vW 0,vW 0,vW 0,vW 0,vW 0,vW 0,vW 0,vW 0,vW 0,vW 0,vW 0,vW 0,vW 0,vW 0,vW 0,vW 0,vW 0,vW 0,vW 0,vW 0,vW 0,vW 0,vW 0,vW 0,vW 0,vW 0,vW 0,vW 0,vW 0,vW 0,vW 0,vW 0,vW 0,vW 0,vW 0,vW 0,vW 0,vW 0]:List Value))) Y0 .t3 rfl rfl rfl rfl rfl rfl (ai rfl) rfl) fun U7 M1 Z2=>Rx 3 192 C0 rfl E1 (Aw rfl (M1.memA .hd)) ?_
 obtain ⟨u6,R6⟩:=Az M1 .d2
 exact J3 () u6 (Tt Z2 R6)
 refine Ae<|Ag rfl<|Aa<|Ar rfl<|Be hb0 func7 rfl rfl ?_
 cases h
 exact Y0.gv
 refine Aj<|Aj<|Bz rfl rfl<|Aa<|AU rfl<|Ae<|Ag rfl<|Aa<|Ar rfl<|Be hb0 func7 rfl rfl ?_
 cases h
 exact Y0.gv
 intro y8 X0 h
 try dsimp only at h
 refine Ao<|Ac rfl<|Ab (Bw (i:=b8.2) (j:=0) rfl rfl)<|Ac rfl<|RG.ifn (s:=68) rfl h (fun j5 h=>?_) (fun j5 h=>?_)
 refine AQ (Aq rfl)<|AQ (Bw (i:=c8.2) (j:=0) rfl rfl)<|Bd rfl rfl<|Ac rfl<|RG.ifn (s:=72) rfl h (fun k5 h=>?_) (fun k5 h=>?_)
 refine AQ (Aq rfl)<|AQ (Bw (i:=d8.2) (j:=0) rfl rfl)<|Bd rfl rfl<|Ac rfl<|RG.ifn (s:=76) rfl h (fun p5 h=>?_) (fun p5 h=>?_)
 refine AQ (Aq rfl)<|AQ (Bw (i:=g8.2) (j:=0) rfl rfl)<|Bd rfl rfl<|Ac rfl<|RG.ifn (s:=80) rfl h (fun q5 h=>?_) (fun q5 h=>?_)
 refine AQ (Aq rfl)<|AQ (Aq rfl)<|bk h fun q8 M7 h=>?_
 have c4:=Ah A2 (Tt Y2 (Tt z1 A1))
 refine BP (v:=.bool q8) (fst:=[]) (cap:=[]) (.yes rfl rfl) (bd 17) rfl (e2 rfl rfl) (fun p q=>bR_c n (z0.hL0 hL q) (z0.kd c4 q) (z0.kd (Ah Y6 (Tt z1 A1)) q) M7) rfl<|AQ (FV.not rfl)<|Bd rfl rfl<|Ac rfl<|RG.ifnb (s:=86) rfl h (fun s5 h=>?_) (fun s5 h=>?_)
 refine AQ (Aq rfl)<|bk h fun C4 P7 h=>BP (v:=vI C4) (fst:=[]) (cap:=[]) (.yes rfl rfl) (bd 16) rfl (e1 rfl) (fun p q=>aA_c n (z0.hL0 hL q) (z0.kd c4 q) P7) rfl<|AQ (Bw (i:=C4) (j:=0) rfl rfl)<|Bd rfl rfl<|Ac rfl<|RG.ifn (s:=91) rfl h (fun u5 h=>?_) (fun u5 h=>?_)
 refine AQ (Aq rfl)<|bk h fun E3 Q7 h=>BP (v:=vI E3) (fst:=[]) (cap:=[]) (.yes rfl rfl) (bd 16) rfl (e1 rfl) (fun p q=>aA_c n (z0.hL0 hL q) (z0.kd B2 q) Q7) rfl<|AQ (Bw (i:=E3) (j:=0) rfl rfl)<|Bd rfl rfl<|Aa<|X0 (!(decide (E3 = 0))) z0 (BI _ _) h
 refine Aj<|Aj<|Aj<|Bz rfl rfl<|Aa<|X0 true z0 (BI _ _) h
 refine Aj<|Aj<|Aj<|Bz rfl rfl<|Ac rfl<|Aj<|Aj<|Aj<|Bz rfl rfl<|Aa<|X0 true z0 (BI _ _) h
 refine Aj<|Aj<|Aj<|Aj<|Bz rfl rfl<|Ac rfl<|Aj<|Aj<|Aj<|Bz rfl rfl<|Ac rfl<|Aj<|Aj<|Aj<|Bz rfl rfl<|Aa<|X0 true z0 (BI _ _) h
 refine Aj<|Aj<|Bz rfl rfl<|Ac rfl<|Aj<|Aj<|Aj<|Aj<|Bz rfl rfl<|Ac rfl<|Aj<|Aj<|Aj<|Bz rfl rfl<|Ac rfl<|Aj<|Aj<|Aj<|Bz rfl rfl<|Aa<|X0 true z0 (BI _ _) h
 refine Aj<|Aj<|Bz rfl rfl<|Ac rfl<|Aj<|Aj<|Bz rfl rfl<|Ac rfl<|Aj<|Aj<|Aj<|Aj<|Bz rfl rfl<|Ac rfl<|Aj<|Aj<|Aj<|Bz rfl rfl<|Ac rfl<|Aj<|Aj<|Aj<|Bz rfl rfl<|Aa<|X0 true z0 (BI _ _) h
 refine Aj<|Aj<|Bz rfl rfl<|Ac rfl<|Aj<|Aj<|Bz rfl rfl<|Ac rfl<|Aj<|Aj<|Bz rfl rfl<|Ac rfl<|Aj<|Aj<|Aj<|Aj<|Bz rfl rfl<|Ac rfl<|Aj<|Aj<|Aj<|Bz rfl rfl<|Ac rfl<|Aj<|Aj<|Aj<|Bz rfl rfl<|Aa<|X0 true z0 (BI _ _) h
 intro F2
 refine BF [1,6] (rk p0) ⟨?_,?_,trivial⟩
 refine RO.call (m' :=23) (fst:=[]) (cap:=[]) (sk p0) rfl .plain (bd 33) rfl (e1 rfl) (fun p q=>ak_c n (Q0.hL hL q) a0 (Q0.km h0_0 q) y4) rfl fun V7 D2 x3 ⟨R7,hu_,C2⟩=>?_
 subst hu_
 obtain ⟨V0,z2⟩:=Q0.agr x3
 refine BF [3,6] (rk p0) ⟨?_,?_,trivial⟩
 refine RO.call (m' :=31) (fst:=[]) (cap:=[]) (sk p0) rfl .plain (bd 33) rfl (e1 rfl) (fun p q=>ak_c n (V0.hL hL q) a1 (V0.km h1_0 q) B3) rfl fun B4 K1 B1 ⟨z4,hu_,D1⟩=>?_
 subst hu_
 obtain ⟨B0,j1⟩:=V0.agr B1
 refine RD.cq 5 63 896 (.agg ((aa x0)).toArray) p0 rfl W0 (bd 42) rfl (e1 rfl) (fun p q=>aF_c n (B0.hL0 hL q) a2 (B0.k0 h2_1 q) (B0.k0 h2_4 q) C3) rfl<|RD.nu 6 127 p0 rfl .plain rfl (Au zL B0) fun A4 x1 U0 g1=>?_
 obtain ⟨v6,Y3⟩:=Az U0 (.a0 .done)
 have v4:=Tt j1 (Tt g1 Y3)
 exact F2 (D2,K1,x1) v6 (Tt z2 v4) ⟨(Ah C2 v4),(Ah D1 (Tt g1 Y3))⟩
 refine RO.new (m' :=87) (sk p0) rfl .plain rfl (Au zL V0) fun A4 x1 U0 g1=>AW 3 95 p0 rfl .plain (bd 33) rfl (e1 rfl) (fun p q=>ak_c n (U0.hL hL q) a1 (U0.km h1_0 q) B3) rfl fun B4 K1 B1 ⟨z4,hu_,D1⟩=>?_
 subst hu_
 obtain ⟨B0,j1⟩:=U0.agr B1
 refine RD.cq 5 127 896 (.agg ((aa x0)).toArray) p0 rfl W0 (bd 42) rfl (e1 rfl) (fun p q=>aF_c n (B0.hL0 hL q) a2 (B0.k0 h2_1 q) (B0.k0 h2_4 q) C3) rfl ?_
 obtain ⟨x6,Z3⟩:=Az B0 (.a0 .done)
 have x4:=Tt g1 (Tt j1 Z3)
 exact F2 (D2,K1,x1) x6 (Tt z2 x4) ⟨(Ah C2 x4),(Ah D1 Z3)⟩
 refine RO.new (m' :=85) (sk p0) rfl .plain rfl (Au zL Q0) fun A4 x1 U0 g1=>AW 1 87 p0 rfl .plain (bd 33) rfl (e1 rfl) (fun p q=>ak_c n (U0.hL hL q) a0 (U0.km h0_0 q) y4) rfl fun V7 D2 x3 ⟨R7,hu_,C2⟩=>?_
 subst hu_
 obtain ⟨V0,z2⟩:=U0.agr x3
 refine AW 3 95 p0 rfl .plain (bd 33) rfl (e1 rfl) (fun p q=>ak_c n (V0.hL hL q) a1 (V0.km h1_0 q) B3) rfl fun B4 K1 B1 ⟨z4,hu_,D1⟩=>?_
 subst hu_
 obtain ⟨B0,j1⟩:=V0.agr B1
 refine RD.cq 5 127 896 (.agg ((aa x0)).toArray) p0 rfl W0 (bd 42) rfl (e1 rfl) (fun p q=>aF_c n (B0.hL0 hL q) a2 (B0.k0 h2_1 q) (B0.k0 h2_4 q) C3) rfl ?_
 obtain ⟨y6,v3⟩:=Az B0 (.a0 .done)
 exact F2 (D2,K1,x1) y6 (Tt g1 (Tt z2 (Tt j1 v3))) ⟨(Ah C2 (Tt j1 v3)),(Ah D1 v3)⟩
 refine Ae<|Ag rfl<|Aa<|Ar rfl<|Be hb0 func7 rfl rfl ?_
 cases h
 exact Q0.gv
end Go.Proofs.YtkommhmbkbhmlaaGreat
