import Derived.Test.YthffdckehlgmgaaGreatDoorVH4
namespace Go.Proofs.YthffdckehlgmgaaGreatDoor
open Go Go.RowKit Tryz
set_option maxRecDepth 4000
set_option maxHeartbeats 4000000

def di_p (n:Nat) (a0:Te) (a1:List Int) (a2:Int) (a3:Int) (a4:Int):Oa (Except Tg Ta):=
  (ah_p n a0 a1 a2 a3 a4).bind fun y0=>exc y0 (fun b0=>(bU_p n b0).bind fun z0=>exc z0 (fun A0=>(cj (((b0.length:Nat):Int) - 1) 2).bind fun p0=>(idx b0 p0).bind fun q0=>(b0[b0.length / 2]?).bind fun s0=>(bU_p n ([q0,s0]:List Ta)).bind fun t0=>exc t0 (fun u0=>(cE_p n A0 u0).bind fun v0=>exc v0 (fun x0=>some (.ok x0)) (fun d0=>some (.error d0))) (fun c0=>some (.error c0))) (fun j0=>(cj (((b0.length:Nat):Int) - 1) 2).bind fun k0=>(idx b0 k0).bind fun _x45=>(b0[b0.length / 2]?).bind fun _x58=>some (.error j0))) (fun g0=>some (.error g0))
theorem di_c (n:Nat) {L w} (hL:hl L w) (a0:Te) {v0_3:Vc} (h0_3:Rep.R w L [v0_3] a0.ft) {p0:Nat} (m0:∀ j9 v9,([vI a0.fh,vI a0.fc,vI a0.fj,v0_3]:List Vc)[j9]? = some v9 -> w.cell? ((⟨p0,0,none⟩:Addr).add j9) = some v9) {a1:List Int} {v1_0:Vc} (h1_0:Rep.R w L [v1_0] a1) {p1:Nat} (m1:∀ j9 v9,([v1_0]:List Vc)[j9]? = some v9 -> w.cell? ((⟨p1,0,none⟩:Addr).add j9) = some v9) {a2:Int} {p2:Nat} (m2:∀ j9 v9,([vI a2]:List Vc)[j9]? = some v9 -> w.cell? ((⟨p2,0,none⟩:Addr).add j9) = some v9) {a3:Int} {p3:Nat} (m3:∀ j9 v9,([vI a3]:List Vc)[j9]? = some v9 -> w.cell? ((⟨p3,0,none⟩:Addr).add j9) = some v9) {a4:Int} {p4:Nat} (m4:∀ j9 v9,([vI a4]:List Vc)[j9]? = some v9 -> w.cell? ((⟨p4,0,none⟩:Addr).add j9) = some v9)  {r:Except Tg Ta} (h:di_p n a0 a1 a2 a3 a4 = some r) :
 Cl 35 #[.pointer (some ⟨p0,0,none⟩),.pointer (some ⟨p1,0,none⟩),.pointer (some ⟨p2,0,none⟩),.pointer (some ⟨p3,0,none⟩),.pointer (some ⟨p4,0,none⟩)] w (aL w (fun (y:Ta) _ u=>u = .agg ((ab y)).toArray) (fun e=>.iface 115 (.agg #[vI e.fA])) r):=by
 unfold di_p at h
 refine BZ func35 I I I fun _ cs0 hb0 hp0=>Af<|RG.nl zL (AA w) fun v3 y2 j0 Y2=>Aa<|Af<|Ac (AH I (fun j9 v9 h9=>j0.ag.cell0 (m0 j9 v9 h9)))<|AR I ((fun j9 v9 h9=>j0.ag.cell0 (m1 j9 v9 h9)) 0 _ I)<|AR I ((fun j9 v9 h9=>j0.ag.cell0 (m2 j9 v9 h9)) 0 _ I)<|AR I ((fun j9 v9 h9=>j0.ag.cell0 (m3 j9 v9 h9)) 0 _ I)<|AR I ((fun j9 v9 h9=>j0.ag.cell0 (m4 j9 v9 h9)) 0 _ I)<|xk h (fun U2 G0 h=>?_) (fun q0 G0 h=>?_)
 refine BE (fst:=[]) (cap:=[]) .plain (bd 36) I (e5 I I I I I) (fun p q=>Calls.erp (ah_c n (j0.hL hL q) a0 (j0.km h0_3 q) (j0.km h1_0 q) G0)) fun B3 A1=>?_
 obtain ⟨s1,c3⟩:=j0.agr A1
 cases h
 exact Bo hp0 func35 ⟨s1.ag,I⟩
 refine jE (bd 36) I (e5 I I I I I) (fun p q=>dK (b0:=w.heap.size) (Bm (ah_c n (j0.hL hL q) a0 (j0.km h0_3 q) (j0.km h1_0 q) G0)) q (Nat.le_trans j0.ag.size q.size)) I fun C3 u3 k3 ⟨t3,j1,b2,V0,D1⟩=>?_
 subst b2
 have g0:=eF j0 V0
 have d3:=iM j0 V0
 have x0:=AD (cs:=j1) (xs:=(q0:List Ta)) g0 L (dB D1)
 refine Ag I<|Aa<|Af<|Ae I ?_
 have s3:q0.length <= 4294967296:=St.rowLe (α:=Ta) g0 .hd
 obtain ⟨v2,C2,F1⟩:=St.rowV (α:=Ta) g0 .hd
 refine Ac (FV.lenV underlying85 I F1)<|Ag I<|Aa<|Aj<|du 16 fun c0 d0=>Rv 0 c0 I d0 (fun _=>Ai I)<|xk h (fun V2 z0 h=>?_) (fun J0 z0 h=>?_)
 refine Rv 2 c0 I d0 (fun _=>Ai I)<|Rv 3 c0 I d0 (fun _=>Ai I)<|Rv 4 c0 I d0 (fun _=>FV.subI (i:=((q0.length:Nat):Int)) (j:=1) I I (by omega))<|bk h fun s2 Y1 h=>Rv 5 c0 I d0 (fun _=>FV.quoc (i:=((q0.length:Nat):Int) - 1) (j:=2) I I Y1)<|bk h fun u0 c2 h=>?_
 obtain ⟨J1,d2⟩:=aA c2
 obtain ⟨X0,D2,B0,Q0,K2,V1,P1⟩:=BU (α:=Ta) g0 .hd x0 d2
 obtain ⟨c1,E2,G1⟩:=By (α:=Ta) g0 .hd Q0
 obtain rfl:X0 = ⟨c1,0,none⟩:=by rw [G1] at B0; cases B0; rfl
 obtain rfl:=bw V1
 refine Rv 6 c0 I d0 (fun _=>Bb 16 (s2.toNat) I B0 I J1 Q0)<|Rx 7 122880 c0 I d0 (AH I P1)<|Rv 8 c0 I d0 (fun _=>Ai I)<|Rv 9 c0 I d0 (fun _=>Ai I)<|Rv 10 c0 I d0 (fun _=>FV.quoN (i:=q0.length) (j:=2) I I I (by omega))<|bk h fun s0 g2 h=>?_
 obtain ⟨Y0,F2,C0,R0,M2,W1,Q1⟩:=BU (α:=Ta) g0 .hd x0 g2
 obtain ⟨d1,G2,H1⟩:=By (α:=Ta) g0 .hd R0
 obtain rfl:Y0 = ⟨d1,0,none⟩:=by rw [H1] at C0; cases C0; rfl
 obtain rfl:=bw W1
 refine Rv 11 c0 I d0 (fun _=>Bb 16 (q0.length / 2) I C0 I I R0)<|Rx 12 122880 c0 I d0 (AH I Q1)<|Bz [1,13] (rk c0) ⟨?_,?_,trivial⟩
 refine RO.callE (fst:=[]) (cap:=[]) I .plain (bd 38) I (e1 I) (fun p q=>bU_c n (g0.hL0 hL q) (Aw (St.lend (α:=Ta) (L:=L) g0 .hd x0 hL) q) z0) fun D3 B1=>?_
 obtain ⟨u1,g3⟩:=g0.agr B1
 cases h
 exact Bo hp0 func35 ⟨u1.ag,I⟩
 refine BH (m' :=16381) (sk c0) I .plain I (AL (α:=Ta) (xs:=([u0,s0]:List Ta)) (vs:=[.agg ((ab u0)).toArray,.agg ((ab s0)).toArray]) (ds' :=(ab u0 ++ ab s0)) I g0 bK I (e2 I I) (by kernel_rfl) I) fun E3 z2 y0 x1=>?_
 have q3:=AD (cs:=(ab u0 ++ ab s0)) (xs:=(([u0,s0]:List Ta):List Ta)) y0 L (Av (cs:=(ab u0)) (ds:=(ab s0)) (aY u0.fN u0.fD) (Av (cs:=(ab s0)) (ds:=[]) (aY s0.fN s0.fD) (AJ _ _)))
 refine BM (i:=1) (rk c0) (RO.callE (fst:=[]) (cap:=[]) I .plain (bd 38) I (e1 I) (fun p q=>bU_c n (y0.hL0 hL q) (Aw (St.lend (α:=Ta) (L:=L) y0 .t1 (AB x0 x1) hL) q) z0) (fun F3 C1=>?_))
 obtain ⟨v1,j3⟩:=y0.agr C1
 cases h
 exact Bo hp0 func35 ⟨v1.ag,I⟩
 refine BV 1 3 114688 (.agg ((ab J0)).toArray) c0 I d0 (bd 38) I (e1 I) (fun p q=>Bm (bU_c n (g0.hL0 hL q) (Aw (St.lend (α:=Ta) (L:=L) g0 .hd x0 hL) q) z0)) I<|Rv 2 c0 I d0 (fun _=>Ai I)<|Rv 3 c0 I d0 (fun _=>Ai I)<|Rv 4 c0 I d0 (fun _=>FV.subI (i:=((q0.length:Nat):Int)) (j:=1) I I (by omega))<|bk h fun u2 Z1 h=>Rv 5 c0 I d0 (fun _=>FV.quoc (i:=((q0.length:Nat):Int) - 1) (j:=2) I I Z1)<|bk h fun v0 j2 h=>?_
 obtain ⟨K1,k2⟩:=aA j2
 obtain ⟨Z0,H2,D0,U0,P2,X1,R1⟩:=BU (α:=Ta) g0 .hd x0 k2
 obtain ⟨g1,I2,I1⟩:=By (α:=Ta) g0 .hd U0
 obtain rfl:Z0 = ⟨g1,0,none⟩:=by rw [I1] at D0; cases D0; rfl
 obtain rfl:=bw X1
 refine Rv 6 c0 I d0 (fun _=>Bb 16 (u2.toNat) I D0 I K1 U0)<|Rx 7 122880 c0 I d0 (AH I R1)<|Rv 8 c0 I d0 (fun _=>Ai I)<|Rv 9 c0 I d0 (fun _=>Ai I)<|Rv 10 c0 I d0 (fun _=>FV.quoN (i:=q0.length) (j:=2) I I I (by omega))<|bk h fun t0 q2 h=>?_
 obtain ⟨W0,A2,A0,P0,J2,U1,M1⟩:=BU (α:=Ta) g0 .hd x0 q2
 obtain ⟨b1,B2,E1⟩:=By (α:=Ta) g0 .hd P0
 obtain rfl:W0 = ⟨b1,0,none⟩:=by rw [E1] at A0; cases A0; rfl
 obtain rfl:=bw U1
 refine Rv 11 c0 I d0 (fun _=>Bb 16 (q0.length / 2) I A0 I I P0)<|Rx 12 122880 c0 I d0 (AH I M1)<|BS 13 16383 c0 I .plain I (AL (α:=Ta) (xs:=([v0,t0]:List Ta)) (vs:=[.agg ((ab v0)).toArray,.agg ((ab t0)).toArray]) (ds' :=(ab v0 ++ ab t0)) I g0 bK I (e2 I I) (by kernel_rfl) I) fun x3 x2 k0 W2=>?_
 have M0:=AD (cs:=(ab v0 ++ ab t0)) (xs:=(([v0,t0]:List Ta):List Ta)) k0 L (Av (cs:=(ab v0)) (ds:=(ab t0)) (aY v0.fN v0.fD) (Av (cs:=(ab t0)) (ds:=[]) (aY t0.fN t0.fD) (AJ _ _)))
 refine xk h (fun Q2 E0 h=>?_) (fun H0 E0 h=>?_)
 refine BM (i:=14) (rk c0) (RO.callE (fst:=[]) (cap:=[]) I .plain (bd 38) I (e1 I) (fun p q=>bU_c n (k0.hL0 hL q) (Aw (St.lend (α:=Ta) (L:=L) k0 .hd M0 hL) q) E0) (fun y3 y1=>?_))
 obtain ⟨k1,X2⟩:=k0.agr y1
 cases h
 exact Bo hp0 func35 ⟨k1.ag,I⟩
 refine BV 14 32767 98304 (.agg ((ab H0)).toArray) c0 I d0 (bd 38) I (e1 I) (fun p q=>Bm (bU_c n (k0.hL0 hL q) (Aw (St.lend (α:=Ta) (L:=L) k0 .hd M0 hL) q) E0)) I<|xk h (fun R2 F0 h=>?_) (fun I0 F0 h=>?_)
 refine BM (i:=15) (rk c0) (RO.callE (fst:=[]) (cap:=[]) I .plain (bd 37) I (e2 I I) (fun p q=>cE_c n (k0.hL0 hL q) J0 H0 F0) (fun z3 z1=>?_))
 obtain ⟨q1,Z2⟩:=k0.agr z1
 cases h
 exact Bo hp0 func35 ⟨q1.ag,I⟩
 refine BV 15 65535 65536 (.agg ((ab I0)).toArray) c0 I d0 (bd 37) I (e2 I I) (fun p q=>Bm (cE_c n (k0.hL0 hL q) J0 H0 F0)) I<|BG 16 131071 c0 I I .plain (AE (news:=(ab I0)) k0 .t2 I I I I I I (ai I)) fun A3 K0 b3=>AN (dk c0)<|Am I<|Au hb0 func35 I (.cons (.many (cs:=(ab I0)) I I (K0.memA .t2)) .nil) I ?_
 cases h
 exact ⟨K0.ag,fun p q=>aE I⟩
def cJ_p (n:Nat) (a0:Te) (a1:List Int) (a2:Int) (a3:Int) (a4:Int):Oa (Ta × Int):=
  (di_p n a0 a1 a2 a3 a4).bind fun c0=>exc c0 (fun d0=>some (d0,(0:Int))) (fun b0=>some ((⟨(0,0,0,0,0,0,0,0),(0,0,0,0,0,0,0,0)⟩:Ta),b0.fA))
theorem cJ_c (n:Nat) {L w} (hL:hl L w) (a0:Te) {v0_3:Vc} (h0_3:Rep.R w L [v0_3] a0.ft) {a1:List Int} {v1_0:Vc} (h1_0:Rep.R w L [v1_0] a1) {a2:Int} {a3:Int} {a4:Int}  {r:Ta × Int} (h:cJ_p n a0 a1 a2 a3 a4 = some r) :
 Cl 8 #[.agg #[vI a0.fh,vI a0.fc,vI a0.fj,v0_3],v1_0,vI a2,vI a3,vI a4] w (ae w fun _ u=>u = .tuple #[.agg ((ab r.1)).toArray,vI r.2]):=by
 unfold cJ_p at h
 refine AF func8 I I I fun _ cs0 hb0=>Af<|RG.bx (AA w) I I fun b2 j0 F0 G1=>RG.bx F0 I (Rep.c1 (AT h1_0 F0)) fun q2 p0 U0 J1=>RG.bx U0 I I fun s2 q0 V0 K1=>RG.bx V0 I I fun u2 s0 W0 M1=>RG.bx W0 I I fun w32 t0 X0 P1=>RG.nl zL X0 fun v2 K0 Y0 Q1=>Ag I<|Aa<|Af<|Ac (BX (vs:=[]) (us:=[vP j0,vP p0,vP q0,vP s0,vP t0]) ak (e5 I I I I I))<|BK (fst:=[]) (cap:=[]) (vs:=[.func (.func 35) #[] #[vP j0,vP p0,vP q0,vP s0,vP t0]]) .plain (bd 27) func27 I I I I (e1 I) I fun B1 I0 Z1=>Af<|RG.nl zL Y0 fun x2 u0 Z0 R1=>RG.nl [vI 0] Z0 fun y2 d0 b0 U1=>?_
 refine Aa<|Af<|Ac (BX (vs:=[]) (us:=[vP u0,vP d0]) ak (e2 I I))<|RG.defer (fst:=[]) (cap:=[vP u0,vP d0]) (vs:=[]) I .plain I ak<|Aa<|Af<|Ae I<|xk h (fun x0 C0 h=>?_) (fun g0 C0 h=>?_)
 refine BE (fst:=[]) (cap:=[vP j0,vP p0,vP q0,vP s0,vP t0]) .plain (bd 35) I ak (fun p q=>di_c n (b0.hL0 hL q) a0 (b0.k0 h0_3 q) (am q (b0.memA .t7)) (b0.k0 h1_0 q) (am q (b0.memA .t6)) (am q (b0.memA .t5)) (am q (b0.memA .t4)) (am q (b0.memA .t3)) C0) fun z2 p1=>?_
 obtain ⟨b1,V1⟩:=b0.agr p1
 refine PN.callD (vs:=[]) (cap:=[vP u0,vP d0]) (bd 64) func64 I I I fun A1 q1 u1=>Af<|RG.recover1 .plain q1 I<|Ag I<|Aa<|Af<|Ae I<|Ac (FV.neqI underlying20 I I)<|Aa<|Bq I<|Af<|Ae I<|Ac (FV.assertT I I)<|Ae I<|Ac (Ak I I)<|Ac (Ak I I)<|RG.nl [vI 0] b1 fun A2 x1 d1 W1=>AV [vI x0.fA] d1 .hd (o1 I) fun B2 g1 X1=>Ag I<|Aa<|Aj<|Af<|Ae I<|Ac (Bu I)<|Aa<|BF I<|Ar<|Af<|RG.nl zL g1 fun C2 y1 v0 Y1=>Aa<|du 3 fun c0 D0=>Rx 0 24 c0 I D0 (AH I (v0.memA .hd))<|Rv 1 c0 I D0 (fun _=>Bi 0 I)<|RD.mo (α:=Unit) (fun ()=>[(1,vP d0),(19,vI x0.fA)]) (fun ()=>[.cells d0 [vI 0] 49,.cells u0 zL 48,.cells K0 zL 48,.cells t0 [vI a4] 3,.cells s0 [vI a3] 3,.cells q0 [vI a2] 3,.cells p0 [v1_0] 39,.cells j0 [vI a0.fh,vI a0.fc,vI a0.fj,v0_3] 37]) v0 1 15 ?_ ?_
 rintro ⟨⟩ D2 M0 C1
 try dsimp only
 refine BG 4 31 c0 I I .plain (AE (news:=[vI x0.fA]) M0 .hd I I I I I I (o1 I)) fun c2 z0 D1=>AN (dk c0)<|MX.fin I<|RT.leaveD1 u1 func64 I .nil<|Au (u:=.tuple #[.agg zM,vI x0.fA]) I0 func27 I (.cons (.many (cs:=zL) I I (z0.memA .t1)) (.cons (.one I I ((z0.memA .hd) 0 _ I)) .nil)) I<|Ac (Ak I I)<|Ac (Ak I I)<|AV zL z0 .t2 (ai I) fun g2 G0 E1=>Ag I<|Aa<|Am I<|Au hb0 func8 I (.cons (.many (cs:=zL) I I (G0.memA .t2)) (.cons (.tmp I) .nil)) I ?_
 cases h
 exact G0.gv
 intro E0
 refine Bz [2,3] (rk c0) ⟨?_,?_,trivial⟩
 refine RO.val (m' :=7) (sk c0) I .plain I (AP I ((v0.memA .t1) 0 _ I))<|BG 3 15 c0 I I .plain (AE (news:=zL) v0 .t3 I I I I I I (ai I)) fun v1 y0 B0=>?_
 obtain ⟨P0,j1⟩:=AK y0 .d2
 exact E0 () P0 (Tt B0 j1)
 refine RO.now (m' :=11) (sk c0) I I .plain (AE (news:=zL) v0 .t3 I I I I I I (ai I)) fun v1 y0 B0=>Rx 2 16 c0 I D0 (AP I ((y0.memA .t1) 0 _ I)) ?_
 obtain ⟨Q0,k1⟩:=AK y0 .d2
 exact E0 () Q0 (Tt B0 k1)
 refine RG.callq' (v:=.agg ((ab g0)).toArray) (fst:=[]) (cap:=[vP j0,vP p0,vP q0,vP s0,vP t0]) .plain (bd 35) I ak (fun p q=>Bm (di_c n (b0.hL0 hL q) a0 (b0.k0 h0_3 q) (am q (b0.memA .t7)) (b0.k0 h1_0 q) (am q (b0.memA .t6)) (am q (b0.memA .t5)) (am q (b0.memA .t4)) (am q (b0.memA .t3)) C0)) I<|AV (ab g0) b0 .t1 (ai I) fun j2 R0 F1=>AV [vI 0] R0 .hd (o1 I) fun k2 A0 H1=>Aa<|Am I<|RT.callD (vs:=[]) (cap:=[vP u0,vP d0]) (bd 64) func64 I I I fun z1 J0 s1=>Af<|RG.recover0 .plain J0 I<|Ag I<|Aa<|Af<|Ae I<|Ac (FV.neqI0 underlying20 I I)<|Aa<|BF I<|Ar<|MX.fin I<|RT.leaveD0 J0 s1 func64 I .nil<|Au (u:=.tuple #[.agg ((ab g0)).toArray,vI 0]) I0 func27 I (.cons (.many (cs:=(ab g0)) I I (A0.memA .t1)) (.cons (.one I I ((A0.memA .hd) 0 _ I)) .nil)) I<|Ac (Ak I I)<|Ac (Ak I I)<|AV (ab g0) A0 .t2 (ai I) fun p2 H0 I1=>Ag I<|Aa<|Am I<|Au hb0 func8 I (.cons (.many (cs:=(ab g0)) I I (H0.memA .t2)) (.cons (.tmp I) .nil)) I ?_
 cases h
 exact H0.gv
structure Td where
  fB:Ta
  fF:Int
  fH:Int
  deriving DecidableEq
instance:Rep Td:=Rep.via (β:=Ta × Int × Int) fun x=>(x.fB,x.fF,x.fH)
def il (x:Td):List Vc:=[vU x.fB.fN.1,vU x.fB.fN.2.1,vU x.fB.fN.2.2.1,vU x.fB.fN.2.2.2.1,vU x.fB.fN.2.2.2.2.1,vU x.fB.fN.2.2.2.2.2.1,vU x.fB.fN.2.2.2.2.2.2.1,vU x.fB.fN.2.2.2.2.2.2.2,vU x.fB.fD.1,vU x.fB.fD.2.1,vU x.fB.fD.2.2.1,vU x.fB.fD.2.2.2.1,vU x.fB.fD.2.2.2.2.1,vU x.fB.fD.2.2.2.2.2.1,vU x.fB.fD.2.2.2.2.2.2.1,vU x.fB.fD.2.2.2.2.2.2.2,vI x.fF,vI x.fH]
theorem dP {w:World} {L:List Nat} {cs:List Vc} {x:Td} (h:Rep.R w L cs x):cs = [vU x.fB.fN.1,vU x.fB.fN.2.1,vU x.fB.fN.2.2.1,vU x.fB.fN.2.2.2.1,vU x.fB.fN.2.2.2.2.1,vU x.fB.fN.2.2.2.2.2.1,vU x.fB.fN.2.2.2.2.2.2.1,vU x.fB.fN.2.2.2.2.2.2.2,vU x.fB.fD.1,vU x.fB.fD.2.1,vU x.fB.fD.2.2.1,vU x.fB.fD.2.2.2.1,vU x.fB.fD.2.2.2.2.1,vU x.fB.fD.2.2.2.2.2.1,vU x.fB.fD.2.2.2.2.2.2.1,vU x.fB.fD.2.2.2.2.2.2.2,vI x.fF,vI x.fH]:=by
  obtain ⟨c0,r0,rfl,h0,h⟩:=h
  obtain rfl:=bw (x:=x.fB) h0
  obtain ⟨c1,r1,rfl,h1,h⟩:=h
  have e1:c1 = [vI x.fF]:=h1; subst e1
  have e2:r1 = [vI x.fH]:=h; subst e2
  rfl
theorem cS {w:World} {L:List Nat} (a0:Ta) (a1:Int) (a2:Int):Rep.R w L [vU a0.fN.1,vU a0.fN.2.1,vU a0.fN.2.2.1,vU a0.fN.2.2.2.1,vU a0.fN.2.2.2.2.1,vU a0.fN.2.2.2.2.2.1,vU a0.fN.2.2.2.2.2.2.1,vU a0.fN.2.2.2.2.2.2.2,vU a0.fD.1,vU a0.fD.2.1,vU a0.fD.2.2.1,vU a0.fD.2.2.2.1,vU a0.fD.2.2.2.2.1,vU a0.fD.2.2.2.2.2.1,vU a0.fD.2.2.2.2.2.2.1,vU a0.fD.2.2.2.2.2.2.2,vI a1,vI a2] (⟨a0,a1,a2⟩:Td):=⟨[vU a0.fN.1,vU a0.fN.2.1,vU a0.fN.2.2.1,vU a0.fN.2.2.2.1,vU a0.fN.2.2.2.2.1,vU a0.fN.2.2.2.2.2.1,vU a0.fN.2.2.2.2.2.2.1,vU a0.fN.2.2.2.2.2.2.2,vU a0.fD.1,vU a0.fD.2.1,vU a0.fD.2.2.1,vU a0.fD.2.2.2.1,vU a0.fD.2.2.2.2.1,vU a0.fD.2.2.2.2.2.1,vU a0.fD.2.2.2.2.2.2.1,vU a0.fD.2.2.2.2.2.2.2],[vI a1,vI a2],rfl,aY a0.fN a0.fD,⟨[vI a1],[vI a2],rfl,rfl,rfl⟩⟩
theorem iZ:ElT Tryz.prog 52 57 (Rep.size Td) 144 (.agg #[vW 0,vW 0,vW 0,vW 0,vW 0,vW 0,vW 0,vW 0,vW 0,vW 0,vW 0,vW 0,vW 0,vW 0,vW 0,vW 0,vI 0,vI 0]) [vW 0,vW 0,vW 0,vW 0,vW 0,vW 0,vW 0,vW 0,vW 0,vW 0,vW 0,vW 0,vW 0,vW 0,vW 0,vW 0,vI 0,vI 0]:=⟨underlying52,by kernel_rfl,rfl,rfl,rfl,rfl⟩
theorem ex_Ta {a b:Ta} (h0:a.fN.1 = b.fN.1) (h1:a.fN.2.1 = b.fN.2.1) (h2:a.fN.2.2.1 = b.fN.2.2.1) (h3:a.fN.2.2.2.1 = b.fN.2.2.2.1) (h4:a.fN.2.2.2.2.1 = b.fN.2.2.2.2.1) (h5:a.fN.2.2.2.2.2.1 = b.fN.2.2.2.2.2.1) (h6:a.fN.2.2.2.2.2.2.1 = b.fN.2.2.2.2.2.2.1) (h7:a.fN.2.2.2.2.2.2.2 = b.fN.2.2.2.2.2.2.2) (h8:a.fD.1 = b.fD.1) (h9:a.fD.2.1 = b.fD.2.1) (b0:a.fD.2.2.1 = b.fD.2.2.1) (c0:a.fD.2.2.2.1 = b.fD.2.2.2.1) (d0:a.fD.2.2.2.2.1 = b.fD.2.2.2.2.1) (g0:a.fD.2.2.2.2.2.1 = b.fD.2.2.2.2.2.1) (j0:a.fD.2.2.2.2.2.2.1 = b.fD.2.2.2.2.2.2.1) (k0:a.fD.2.2.2.2.2.2.2 = b.fD.2.2.2.2.2.2.2):a = b:=congr (congrArg Ta.mk (kE (a:=a.fN) (b:=b.fN) h0 h1 h2 h3 h4 h5 h6 h7)) (kE (a:=a.fD) (b:=b.fD) h8 h9 b0 c0 d0 g0 j0 k0)
theorem dC (a b:Ta) (p:World):(do eqGuard .eql 48 (.tmp 0) (.tmp 0) (.agg #[vU a.fN.1,vU a.fN.2.1,vU a.fN.2.2.1,vU a.fN.2.2.2.1,vU a.fN.2.2.2.2.1,vU a.fN.2.2.2.2.2.1,vU a.fN.2.2.2.2.2.2.1,vU a.fN.2.2.2.2.2.2.2,vU a.fD.1,vU a.fD.2.1,vU a.fD.2.2.1,vU a.fD.2.2.2.1,vU a.fD.2.2.2.2.1,vU a.fD.2.2.2.2.2.1,vU a.fD.2.2.2.2.2.2.1,vU a.fD.2.2.2.2.2.2.2]) (.agg #[vU b.fN.1,vU b.fN.2.1,vU b.fN.2.2.1,vU b.fN.2.2.2.1,vU b.fN.2.2.2.2.1,vU b.fN.2.2.2.2.2.1,vU b.fN.2.2.2.2.2.2.1,vU b.fN.2.2.2.2.2.2.2,vU b.fD.1,vU b.fD.2.1,vU b.fD.2.2.1,vU b.fD.2.2.2.1,vU b.fD.2.2.2.2.1,vU b.fD.2.2.2.2.2.1,vU b.fD.2.2.2.2.2.2.1,vU b.fD.2.2.2.2.2.2.2]); binOp .eql 48 (.agg #[vU a.fN.1,vU a.fN.2.1,vU a.fN.2.2.1,vU a.fN.2.2.2.1,vU a.fN.2.2.2.2.1,vU a.fN.2.2.2.2.2.1,vU a.fN.2.2.2.2.2.2.1,vU a.fN.2.2.2.2.2.2.2,vU a.fD.1,vU a.fD.2.1,vU a.fD.2.2.1,vU a.fD.2.2.2.1,vU a.fD.2.2.2.2.1,vU a.fD.2.2.2.2.2.1,vU a.fD.2.2.2.2.2.2.1,vU a.fD.2.2.2.2.2.2.2]) (.agg #[vU b.fN.1,vU b.fN.2.1,vU b.fN.2.2.1,vU b.fN.2.2.2.1,vU b.fN.2.2.2.2.1,vU b.fN.2.2.2.2.2.1,vU b.fN.2.2.2.2.2.2.1,vU b.fN.2.2.2.2.2.2.2,vU b.fD.1,vU b.fD.2.1,vU b.fD.2.2.1,vU b.fD.2.2.2.1,vU b.fD.2.2.2.2.1,vU b.fD.2.2.2.2.2.1,vU b.fD.2.2.2.2.2.2.1,vU b.fD.2.2.2.2.2.2.2]):Sem Vc).run Tryz.prog p = .ok (.bool (decide (a = b))) p:=
  na (ks:=[.int .u64,.int .u64,.int .u64,.int .u64,.int .u64,.int .u64,.int .u64,.int .u64,.int .u64,.int .u64,.int .u64,.int .u64,.int .u64,.int .u64,.int .u64,.int .u64]) (xs:=[vU a.fN.1,vU a.fN.2.1,vU a.fN.2.2.1,vU a.fN.2.2.2.1,vU a.fN.2.2.2.2.1,vU a.fN.2.2.2.2.2.1,vU a.fN.2.2.2.2.2.2.1,vU a.fN.2.2.2.2.2.2.2,vU a.fD.1,vU a.fD.2.1,vU a.fD.2.2.1,vU a.fD.2.2.2.1,vU a.fD.2.2.2.2.1,vU a.fD.2.2.2.2.2.1,vU a.fD.2.2.2.2.2.2.1,vU a.fD.2.2.2.2.2.2.2]) (ys:=[vU b.fN.1,vU b.fN.2.1,vU b.fN.2.2.1,vU b.fN.2.2.2.1,vU b.fN.2.2.2.2.1,vU b.fN.2.2.2.2.2.1,vU b.fN.2.2.2.2.2.2.1,vU b.fN.2.2.2.2.2.2.2,vU b.fD.1,vU b.fD.2.1,vU b.fD.2.2.1,vU b.fD.2.2.2.1,vU b.fD.2.2.2.2.1,vU b.fD.2.2.2.2.2.1,vU b.fD.2.2.2.2.2.2.1,vU b.fD.2.2.2.2.2.2.2]) (by kernel_rfl) (by kernel_rfl) (by kernel_rfl) I I ⟨fun h=>by
    simp only [bF,veq,Bool.and_eq_true,beq_iff_eq,and_true] at h
    obtain ⟨h0,h1,h2,h3,h4,h5,h6,h7,h8,h9,b0,c0,d0,g0,j0,k0⟩:=h
    exact ex_Ta (ar h0) (ar h1) (ar h2) (ar h3) (ar h4) (ar h5) (ar h6) (ar h7) (ar h8) (ar h9) (ar b0) (ar c0) (ar d0) (ar g0) (ar j0) (ar k0),fun h=>by subst h; simp [bF,veq]⟩ _ _ p
def aS_l1 (n:Nat) (p0:List Ta) (g0:Nat × (List Td) -> Oa ((Except Tg (List Td)) ⊕ (List Td))):Nat × (List Td) -> Oa ((Except Tg (List Td)) ⊕ (List Td))
  | (c0,b0)=>(if c0 < p0.length then (p0[c0]?).bind fun v0=>(bT_p n (1:Int) (2:Int)).bind fun A0=>exc A0 (fun B0=>(cE_p n B0 v0).bind fun C0=>exc C0 (fun j0=>(if 0 < b0.length then (b0[b0.length - 1]?).bind fun d0=>(if d0.fB = j0 then (chk (d0.fH + 1)).bind fun u0=>(put b0 ((b0.length - 1:Nat):Int) (⟨d0.fB,((c0 + 1:Nat):Int),d0.fH⟩:Td)).bind fun q0=>(q0[b0.length - 1]?).bind fun k0=>(put q0 ((b0.length - 1:Nat):Int) (⟨k0.fB,k0.fF,u0⟩:Td)).bind fun x0=>g0 (c0 + 1,x0) else (app b0 ([(⟨j0,((c0 + 1:Nat):Int),(1:Int)⟩:Td)]:List Td)).bind fun y0=>g0 (c0 + 1,y0)) else (app b0 ([(⟨j0,((c0 + 1:Nat):Int),(1:Int)⟩:Td)]:List Td)).bind fun z0=>g0 (c0 + 1,z0))) (fun t0=>some (.inl (.error t0)))) (fun s0=>some (.inl (.error s0))) else some (.inr b0))
def aS_l2 (_n:Nat) (j0:Int × Int × (List Ta) -> Oa (List Ta)):Int × Int × (List Ta) -> Oa (List Ta)
  | (d0,b0,c0)=>(if d0 < b0 then (idx c0 b0).bind fun q0=>(idx c0 d0).bind fun s0=>(put c0 ((d0.toNat:Nat):Int) q0).bind fun g0=>(idx g0 b0).bind fun _x209=>(put g0 ((b0.toNat:Nat):Int) s0).bind fun t0=>(chk (d0 + 1)).bind fun k0=>(chk (b0 - 1)).bind fun p0=>j0 (k0,p0,t0) else some c0)
def aS_p (n:Nat) (a0:Te) (a1:List Int) (a2:Int) (a3:Int) (a4:Int):Oa (Except Tg (List Td)):=
  (ah_p n a0 a1 a2 a3 a4).bind fun y1=>exc y1 (fun b0=>Option.bind (aj (aS_l2 n) n (0,((b0.length:Nat):Int) - 1,b0)) (fun d0=>thn (aj (aS_l1 n d0) n (0,([]:List Td))) (fun g0=>some (.ok g0)))) (fun c0=>some (.error c0))
theorem aS_c (n:Nat) {L w} (hL:hl L w) (a0:Te) {v0_3:Vc} (h0_3:Rep.R w L [v0_3] a0.ft) {p0:Nat} (m0:∀ j9 v9,([vI a0.fh,vI a0.fc,vI a0.fj,v0_3]:List Vc)[j9]? = some v9 -> w.cell? ((⟨p0,0,none⟩:Addr).add j9) = some v9) {a1:List Int} {v1_0:Vc} (h1_0:Rep.R w L [v1_0] a1) {p1:Nat} (m1:∀ j9 v9,([v1_0]:List Vc)[j9]? = some v9 -> w.cell? ((⟨p1,0,none⟩:Addr).add j9) = some v9) {a2:Int} {p2:Nat} (m2:∀ j9 v9,([vI a2]:List Vc)[j9]? = some v9 -> w.cell? ((⟨p2,0,none⟩:Addr).add j9) = some v9) {a3:Int} {p3:Nat} (m3:∀ j9 v9,([vI a3]:List Vc)[j9]? = some v9 -> w.cell? ((⟨p3,0,none⟩:Addr).add j9) = some v9) {a4:Int} {p4:Nat} (m4:∀ j9 v9,([vI a4]:List Vc)[j9]? = some v9 -> w.cell? ((⟨p4,0,none⟩:Addr).add j9) = some v9)  {r:Except Tg (List Td)} (h:aS_p n a0 a1 a2 a3 a4 = some r) :
 Cl 45 #[.pointer (some ⟨p0,0,none⟩),.pointer (some ⟨p1,0,none⟩),.pointer (some ⟨p2,0,none⟩),.pointer (some ⟨p3,0,none⟩),.pointer (some ⟨p4,0,none⟩)] w (aL w (fun (y:List Td) w' u=>∃ v0_0:Vc,u = v0_0/\Rep.R w' L [v0_0] y) (fun e=>.iface 115 (.agg #[vI e.fA])) r):=by
 unfold aS_p at h
 have hS0:=AA w
 refine BZ func45 I I I fun _ cs0 hb0 hp0=>Af<|Ag I<|Aa<|Af<|Ac (AH I (fun j9 v9 h9=>hS0.ag.cell0 (m0 j9 v9 h9)))<|AR I ((fun j9 v9 h9=>hS0.ag.cell0 (m1 j9 v9 h9)) 0 _ I)<|AR I ((fun j9 v9 h9=>hS0.ag.cell0 (m2 j9 v9 h9)) 0 _ I)<|AR I ((fun j9 v9 h9=>hS0.ag.cell0 (m3 j9 v9 h9)) 0 _ I)<|AR I ((fun j9 v9 h9=>hS0.ag.cell0 (m4 j9 v9 h9)) 0 _ I)<|xk h (fun F6 hy1 h=>?_) (fun K0 hy1 h=>?_)
 refine BE (fst:=[]) (cap:=[]) .plain (bd 36) I (e5 I I I I I) (fun p q=>Calls.erp (ah_c n (hS0.hL hL q) a0 (Aw h0_3 q) (Aw h1_0 q) hy1)) fun u7 M3=>?_
 obtain ⟨c3,I6⟩:=hS0.agr M3
 cases h
 exact Bo hp0 func45 ⟨c3.ag,I⟩
 refine jE (bd 36) I (e5 I I I I I) (fun p q=>dK (b0:=w.heap.size) (Bm (ah_c n (hS0.hL hL q) a0 (Aw h0_3 q) (Aw h1_0 q) hy1)) q (Nat.le_trans hS0.ag.size q.size)) I fun v7 F0 W6 ⟨t7,D1,V4,v2,X3⟩=>?_
 subst V4
 have M0:=eF hS0 v2
 have J6:=iM hS0 v2
 refine Ag I<|Aa<|Af<|Ae I<|BK (fst:=[]) (cap:=[]) (vs:=[F0]) .plain (bd 46) func46 I I I I (e1 I) I fun y6 V3 p7=>Af<|Ae I ?_
 have b7:K0.length <= 4294967296:=St.rowLe (α:=Ta) M0 .hd
 obtain ⟨D5,Z5,k4⟩:=St.rowV (α:=Ta) M0 .hd
 refine Ac (FV.lenV underlying85 I k4)<|Ac (FV.subI (i:=((K0.length:Nat):Int)) (j:=1) I I (by omega))<|Ag I<|Ag I<|Aa<|Ax ?_
 obtain ⟨q7,C4,v4⟩:=aq h
 refine MX.lf (α:=Int × Int × (List Ta) × (List Vc)) (fun ⟨y0,z0,u0,B0⟩=>[(0,F0),(2,vI y0),(3,vI z0)]) (fun ⟨y0,z0,u0,B0⟩=>[rr w 48 Ta F0 u0.length B0]) (fun ⟨y0,z0,u0,B0⟩ x2=>Cells x2 (bl [rr w 48 Ta F0 u0.length B0] ++ L) B0 u0) (fun ⟨y0,z0,u0,B0⟩=>(y0,z0,u0)) (0,((K0.length:Nat):Int) - 1,K0,D1) C4 M0 (AD (cs:=D1) (xs:=(K0:List Ta)) M0 L (dB X3)) ?_
 rintro F5 ⟨y0,z0,u0,B0⟩ x2 b3 C0 D3 R0 h
 unfold aS_l2 at h
 try dsimp only at h
 refine Aj<|Af<|Ae I<|Ae I<|Ac (BO (i:=y0) (j:=z0) I I)<|Aa<|AQ I h (fun Q2 h=>?_) (fun Q2 h=>?_)
 refine Ar<|Aj<|Ax<|du 13 fun j0 q0=>Rv 0 j0 I q0 (fun _=>Ai I)<|Rv 1 j0 I q0 (fun _=>Ai I)<|Rv 2 j0 I q0 (fun _=>Ai I)<|Rv 3 j0 I q0 (fun _=>Ai I)<|Rv 4 j0 I q0 (fun _=>Ai I)<|Rv 5 j0 I q0 (fun _=>Ai I)<|bk h fun z2 W4 h=>?_
 obtain ⟨x4,X4⟩:=aA W4
 obtain ⟨B2,Q5,v1,b2,t6,E4,z4⟩:=BU (α:=Ta) C0 .hd R0 X4
 obtain ⟨H2,R5,g4⟩:=By (α:=Ta) C0 .hd b2
 obtain rfl:B2 = ⟨H2,0,none⟩:=by rw [g4] at v1; cases v1; rfl
 obtain rfl:=bw E4
 refine Rv 6 j0 I q0 (fun _=>Bb 16 (z0.toNat) I v1 I x4 b2)<|Rx 7 61440 j0 I q0 (AH I z4)<|Rv 8 j0 I q0 (fun _=>Ai I)<|Rv 9 j0 I q0 (fun _=>Ai I)<|bk h fun A2 Y4 h=>?_
 obtain ⟨Z1,Z4⟩:=aA Y4
 obtain ⟨C2,U5,V0,A1,u6,F4,A4⟩:=BU (α:=Ta) C0 .hd R0 Z4
 obtain ⟨I2,V5,V1⟩:=By (α:=Ta) C0 .hd A1
 obtain rfl:C2 = ⟨I2,0,none⟩:=by rw [V1] at V0; cases V0; rfl
 obtain rfl:=bw F4
 refine Rv 10 j0 I q0 (fun _=>Bb 16 (y0.toNat) I V0 I Z1 A1)<|Rx 11 61440 j0 I q0 (AH I A4)<|Rv 12 j0 I q0 (fun _=>Bb 16 (y0.toNat) I V0 I Z1 A1)<|bk h fun V7 g5 h=>BM (i:=13) (rk j0) (RO.acts (m' :=16383) (sk j0) I I .plain (Cb (α:=Ta) (i:=y0.toNat) g5 C0 V1 (fun _=>.hd) R0 I I I I (aY z2.fN z2.fD) I) (fun x7 ⟨v6,j1,E3,U1⟩=>?_))
 refine bk h fun U7 b5 h=>?_
 obtain ⟨y4,c5⟩:=aA b5
 obtain ⟨D2,W5,x1,c2,x6,G4,d7⟩:=BU (α:=Ta) j1 .hd U1 c5
 obtain ⟨J2,X5,W1⟩:=By (α:=Ta) j1 .hd c2
 obtain rfl:D2 = ⟨J2,0,none⟩:=by rw [W1] at x1; cases x1; rfl
 obtain rfl:=bw G4
 refine Rv 14 j0 I q0 (fun _=>Bb 16 (z0.toNat) I x1 I y4 c2)<|bk h fun y5 j5 h=>BM (i:=15) (rk j0) (RO.acts (m' :=65535) (sk j0) I I .plain (Cb (α:=Ta) (i:=z0.toNat) j5 j1 W1 (fun _=>.hd) U1 I I I I (aY A2.fN A2.fD) I) (fun y7 ⟨W2,g3,F3,W3⟩=>?_))
 refine AN (dk j0)<|AC<|Ap<|Ae I<|bk h fun t5 Q4 h=>Ac (Bw (i:=y0) (j:=1) I I Q4)<|Ae I<|bk h fun u5 R4 h=>Ac (BQ (i:=z0) (j:=1) I I R4)<|Ag I<|Ag I<|Aa<|b3 (t5,u5,y5,W2) g3 (Tt D3 (Tt E3 F3)) W3 h
 refine AX I ?_
 have h:=v4 _ h
 try dsimp only at h
 refine MX.fin I<|Au (u:=.tuple #[]) V3 func46 I .nil I<|Aa<|Aj<|Af<|Ae I ?_
 have Z6:u0.length <= 4294967296:=St.rowLe (α:=Ta) C0 .hd
 obtain ⟨C5,Y5,j4⟩:=St.rowV (α:=Ta) C0 .hd
 refine Ac (FV.lenV underlying85 I j4)<|Ae I<|Aa<|Ax ?_
 have E1:=C0.nilRow 57 (Rep.size Td)
 refine tn h fun s7 D4 I0=>MX.lf (α:=Nat × (List Td) × Vc × (List Vc)) (fun ⟨c0,g0,A0,E0⟩=>[(5,A0),(19,F0),(20,vn u0.length),(21,vn c0)]) (fun ⟨c0,g0,A0,E0⟩=>[rr w 57 Td A0 g0.length E0,rr w 48 Ta F0 u0.length B0]) (fun ⟨c0,g0,A0,E0⟩ y2=>Cells y2 (bl [rr w 57 Td A0 g0.length E0,rr w 48 Ta F0 u0.length B0] ++ L) E0 g0) (fun ⟨c0,g0,A0,E0⟩=>(c0,g0)) (0,([]:List Td),vN,[]) D4 E1 (AD (cs:=[]) (xs:=([]:List Td)) E1 L (AJ _ _)) ?_
 rintro G5 ⟨c0,g0,A0,E0⟩ y2 g1 G0 Q0 U0 h
 unfold aS_l1 at h
 try dsimp only at h
 refine Af<|Ac (Bp (i:=c0) (j:=u0.length) I I)<|Aa<|Aj<|AQ I h (fun R2 h=>?_) (fun R2 h=>?_)
 refine Ar<|Aj<|Ax<|Af<|Ae I<|bk h fun c1 d5 h=>?_
 obtain ⟨E2,b6,y1,g2,z6,H4,B4⟩:=BU (α:=Ta) G0 .t1 (AB R0 (Tt (BW C0 57 (Rep.size Td)) Q0)) d5
 obtain ⟨K2,c6,q4⟩:=By (α:=Ta) G0 .t1 g2
 obtain rfl:E2 = ⟨K2,0,none⟩:=by rw [q4] at y1; cases y1; rfl
 obtain rfl:=bw H4
 refine Ac (Bb 16 c0 I y1 I I g2)<|Ac (AH I B4)<|RG.nl zL G0 fun z7 H5 j3 H1=>Ag I<|AV (ab c1) j3 .hd (ai I) fun A7 v0 I1=>Aa<|Aj<|du 4 fun t0 b1=>xk h (fun G6 Y0 h=>?_) (fun d1 Y0 h=>?_)
 refine Rx 1 20 t0 I b1 (AH I (v0.memA .hd))<|Bz [0,3] (rk t0) ⟨?_,?_,trivial⟩
 have h:=au h I0
 refine RO.callE (fst:=[]) (cap:=[]) I .plain (bd 31) I (e2 I I) (fun p q=>bT_c n (v0.hL0 hL q)  Y0) fun B7 P3=>?_
 obtain ⟨k3,K6⟩:=v0.agr P3
 cases h
 exact Bo hp0 func45 ⟨k3.ag,I⟩
 refine BH (m' :=10) (sk t0) I .plain I (Az zL v0) fun C7 I5 F1 M6=>?_
 have h:=au h I0
 refine BM (i:=0) (rk t0) (RO.callE (fst:=[]) (cap:=[]) I .plain (bd 31) I (e2 I I) (fun p q=>bT_c n (F1.hL0 hL q)  Y0) (fun D7 Q3=>?_))
 obtain ⟨q3,P6⟩:=F1.agr Q3
 cases h
 exact Bo hp0 func45 ⟨q3.ag,I⟩
 refine BV 0 1 20 (.agg ((ab d1)).toArray) t0 I b1 (bd 31) I (e2 I I) (fun p q=>Bm (bT_c n (v0.hL0 hL q)  Y0)) I<|Rx 1 20 t0 I b1 (AH I (v0.memA .hd))<|xk h (fun H6 Z0 h=>?_) (fun d0 Z0 h=>?_)
 refine Bz [2,3] (rk t0) ⟨?_,?_,trivial⟩
 have h:=au h I0
 refine RO.callE (fst:=[]) (cap:=[]) I .plain (bd 37) I (e2 I I) (fun p q=>cE_c n (v0.hL0 hL q) d1 c1 Z0) fun E7 R3=>?_
 obtain ⟨s3,Q6⟩:=v0.agr R3
 cases h
 exact Bo hp0 func45 ⟨s3.ag,I⟩
 refine BH (m' :=11) (sk t0) I .plain I (Az zL v0) fun F7 J5 G1 R6=>?_
 have h:=au h I0
 refine BM (i:=2) (rk t0) (RO.callE (fst:=[]) (cap:=[]) I .plain (bd 37) I (e2 I I) (fun p q=>cE_c n (G1.hL0 hL q) d1 c1 Z0) (fun G7 U3=>?_))
 obtain ⟨u3,U6⟩:=G1.agr U3
 cases h
 exact Bo hp0 func45 ⟨u3.ag,I⟩
 refine BV 2 7 16 (.agg ((ab d0)).toArray) t0 I b1 (bd 37) I (e2 I I) (fun p q=>Bm (cE_c n (v0.hL0 hL q) d1 c1 Z0)) I<|BS 3 15 t0 I .plain I (Az zL v0) fun H7 K5 v3 J1=>BG 4 31 t0 I I .plain (AE (news:=(ab d0)) v3 .hd I I I I I I (ai I)) fun I7 x0 K1=>AN (dk t0)<|Aj<|Af<|Ae I ?_
 have c7:g0.length <= 4294967296:=St.rowLe (α:=Td) x0 .t2
 obtain ⟨E5,d6,s4⟩:=St.rowV (α:=Td) x0 .t2
 refine Ac (FV.lenV underlying52 I s4)<|Ag I<|Aa<|Aj<|du 12 fun k0 s0=>Rv 0 k0 I s0 (fun _=>Ai I)<|Rv 1 k0 I s0 (fun _=>FV.gtrN (i:=g0.length) (j:=0) I I)<|Rv 2 k0 I s0 (fun _=>Ai I)<|RD.ifd (s:=33) I h (fun U2 h=>?_) (fun U2 h=>?_)
 refine BJ 3 15 k0 I s0 (.yes I I) (fun _=>Ai I) I<|BJ 4 31 k0 I s0 (.yes I I) (fun _=>Ai I) I<|BJ 5 63 k0 I s0 (.yes I I) (fun _=>FV.subN (i:=g0.length) (j:=1) I I (by omega) (by omega)) I<|bk h fun D0 s2 h=>?_
 have X0:=Tt H1 (Tt I1 (Tt J1 K1))
 have B1:=AB U0 X0
 obtain ⟨F2,g6,H0,W0,A6,I4,k2⟩:=BU (α:=Td) x0 .t2 B1 s2
 obtain ⟨M2,j6,X1⟩:=By (α:=Td) x0 .t2 W0
 obtain rfl:F2 = ⟨M2,0,none⟩:=by rw [X1] at H0; cases H0; rfl
 obtain rfl:=dP I4
 refine BJ 6 127 k0 I s0 (.yes I I) (fun _=>Bb 18 (g0.length - 1) I H0 I I W0) I<|BJ 7 255 k0 I s0 (.yes I I) (fun _=>Bi 0 I) I<|RD.val (i:=8) (m' :=511) (W:=3072) (tk k0) I s0 (.yes I I) (Bk (cs:=(ab D0.fB)) I I (ah k2 0 16)) I<|RD.val (i:=9) (m' :=1023) (W:=3072) (tk k0) I s0 (.yes I I) (AH I (x0.memA .hd)) I<|BJ 10 2047 k0 I s0 (.yes I I) (fun _=>FV.eqlV (v:=.agg ((ab D0.fB)).toArray) (u:=.agg ((ab d0)).toArray) I I (dC D0.fB d0)) I<|Rv 11 k0 I s0 (fun _=>BN I I)<|AN (dk k0)<|AQ I h (fun V2 h=>?_) (fun V2 h=>?_)
 refine Af<|Ae I<|Ae I<|Ac (FV.subN (i:=g0.length) (j:=1) I I (by omega) (by omega))<|Ae I<|Ae I<|Ac (FV.subN (i:=g0.length) (j:=1) I I (by omega) (by omega))<|Ae I<|Ac (Bl (i:=c0) (j:=1) I I (by omega))<|Ae I<|Ae I<|Ac (FV.subN (i:=g0.length) (j:=1) I I (by omega) (by omega))<|Ac (Bb 18 (g0.length - 1) I H0 I I W0)<|Bd 17 I<|AR I (k2 17 _ I)<|bk h fun C1 U4 h=>Ac (Bw (i:=D0.fH) (j:=1) I I U4)<|Ac (Bb 18 (g0.length - 1) I H0 I I W0)<|Bd 16 I ?_
 obtain ⟨k6,t4,X6,B6,J4,g7,c4⟩:=St.nthAt (α:=Td) x0 .t2 B1 s2 X1
 obtain rfl:=dP J4
 refine bk h fun W7 k5 h=>RG.acts' .plain (Acts.setPart (α:=Td) (i:=g0.length - 1) (tot:=16) (ds:=(il D0)) (news:=[vI ((c0 + 1:Nat):Int)]) (full:=(ab D0.fB ++ ([vI ((c0 + 1:Nat):Int),vI D0.fH]:List Vc))) k5 x0 t4 (fun _=>.t2) B1 c4 I I I I I I (cS D0.fB ((c0 + 1:Nat):Int) D0.fH) I (o1 I)) fun J7 ⟨C6,P0,G3,u1⟩=>bk h fun J0 u2 h=>?_
 obtain ⟨G2,p6,z1,j2,D6,K4,j7⟩:=BU (α:=Td) P0 .t2 u1 u2
 obtain ⟨P2,q6,Y1⟩:=By (α:=Td) P0 .t2 j2
 obtain rfl:G2 = ⟨P2,0,none⟩:=by rw [Y1] at z1; cases z1; rfl
 obtain rfl:=dP K4
 refine Ac (Bb 18 (g0.length - 1) I z1 I I j2)<|Bd 17 I ?_
 obtain ⟨s6,u4,Y6,E6,M4,k7,d4⟩:=St.nthAt (α:=Td) P0 .t2 u1 u2 Y1
 obtain rfl:=dP M4
 refine bk h fun z5 p5 h=>RG.acts' .plain (Acts.setPart (α:=Td) (i:=g0.length - 1) (tot:=17) (ds:=(il J0)) (news:=[vI C1]) (full:=(ab J0.fB ++ ([vI J0.fF,vI C1]:List Vc))) p5 P0 u4 (fun _=>.t2) u1 d4 I I I I I I (cS J0.fB J0.fF C1) I (o1 I)) fun K7 ⟨X2,x3,H3,Y3⟩=>Aa<|AX I<|Ap<|Ac (Bl (i:=c0) (j:=1) I I (by omega))<|Ae I<|Aa ?_
 obtain ⟨y3,M1⟩:=AK x3 .d2
 exact g1 (c0 + 1,z5,A0,X2) y3 (Tt Q0 (Tt X0 (Tt G3 (Tt H3 M1)))) (AB Y3 M1) h
 refine Ar<|Ap<|Ae I<|Ac (AH I (x0.memA .hd))<|Ae I<|Ac (Bl (i:=c0) (j:=1) I I (by omega))<|Ac (AS (vs:=[.agg ((ab d0)).toArray,vI ((c0 + 1:Nat):Int),vI 1]) (u:=.agg ((ab d0 ++ ([vI ((c0 + 1:Nat):Int),vI 1]:List Vc))).toArray) (e3 I I I) (fun p=>by kernel_rfl))<|Al .plain I (AL (α:=Td) (xs:=([(⟨d0,((c0 + 1:Nat):Int),(1:Int)⟩:Td)]:List Td)) (vs:=[.agg ((ab d0 ++ ([vI ((c0 + 1:Nat):Int),vI 1]:List Vc))).toArray]) (ds' :=(ab d0 ++ ([vI ((c0 + 1:Nat):Int),vI 1]:List Vc))) I x0 iZ I (e1 I) (by kernel_rfl) I) fun M7 M5 k1 P1=>bk h fun A5 q5 h=>RG.doesL .plain I (Bf (α:=Td) (ys:=([(⟨d0,((c0 + 1:Nat):Int),(1:Int)⟩:Td)]:List Td)) q5 k1 (fun _ _=>.t3) iZ I I (AB U0 (Tt X0 P1)) (Src.row (α:=Td) k1 .hd (AD (cs:=(ab d0 ++ ([vI ((c0 + 1:Nat):Int),vI 1]:List Vc))) (xs:=(([(⟨d0,((c0 + 1:Nat):Int),(1:Int)⟩:Td)]:List Td):List Td)) k1 L (Av (cs:=(ab d0 ++ ([vI ((c0 + 1:Nat):Int),vI 1]:List Vc))) (ds:=[]) (cS d0 ((c0 + 1:Nat):Int) (1:Int)) (AJ _ _))))) fun v5 P7 ⟨Y2,z3,I3,Z3⟩=>Ag I<|Aa<|AC<|Ap<|Ac (Bl (i:=c0) (j:=1) I I (by omega))<|Ae I<|Aa ?_
 obtain ⟨A3,Q1⟩:=AK z3 .d3
 exact g1 (c0 + 1,A5,v5,Y2) A3 (Tt Q0 (Tt X0 (Tt P1 (Tt I3 Q1)))) (AB Z3 Q1) h
 refine Br 2047 1 [(3,34),(4,35),(5,36),(6,37),(7,38),(8,39),(9,40),(10,41)] (F:=[(33,false)]) (U:=[]) k0 s0 (.cons I .nil) .nil ?_
 dsimp only [aF,List.map]
 refine Rv 11 k0 I s0 (fun _=>AZ I I)<|AN (dk k0)<|BF I<|Ar<|Ap<|Ae I<|Ac (AH I (x0.memA .hd))<|Ae I<|Ac (Bl (i:=c0) (j:=1) I I (by omega))<|Ac (AS (vs:=[.agg ((ab d0)).toArray,vI ((c0 + 1:Nat):Int),vI 1]) (u:=.agg ((ab d0 ++ ([vI ((c0 + 1:Nat):Int),vI 1]:List Vc))).toArray) (e3 I I I) (fun p=>by kernel_rfl))<|Al .plain I (AL (α:=Td) (xs:=([(⟨d0,((c0 + 1:Nat):Int),(1:Int)⟩:Td)]:List Td)) (vs:=[.agg ((ab d0 ++ ([vI ((c0 + 1:Nat):Int),vI 1]:List Vc))).toArray]) (ds' :=(ab d0 ++ ([vI ((c0 + 1:Nat):Int),vI 1]:List Vc))) I x0 iZ I (e1 I) (by kernel_rfl) I) fun Q7 P5 q1 J3=>bk h fun B5 s5 h=>?_
 have q2:=Tt H1 (Tt I1 (Tt J1 (Tt K1 J3)))
 refine RG.doesL .plain I (Bf (α:=Td) (ys:=([(⟨d0,((c0 + 1:Nat):Int),(1:Int)⟩:Td)]:List Td)) s5 q1 (fun _ _=>.t3) iZ I I (AB U0 q2) (Src.row (α:=Td) q1 .hd (AD (cs:=(ab d0 ++ ([vI ((c0 + 1:Nat):Int),vI 1]:List Vc))) (xs:=(([(⟨d0,((c0 + 1:Nat):Int),(1:Int)⟩:Td)]:List Td):List Td)) q1 L (Av (cs:=(ab d0 ++ ([vI ((c0 + 1:Nat):Int),vI 1]:List Vc))) (ds:=[]) (cS d0 ((c0 + 1:Nat):Int) (1:Int)) (AJ _ _))))) fun x5 R7 ⟨Z2,B3,K3,b4⟩=>Ag I<|Aa<|AC<|Ap<|Ac (Bl (i:=c0) (j:=1) I I (by omega))<|Ae I<|Aa ?_
 obtain ⟨C3,R1⟩:=AK B3 .d3
 exact g1 (c0 + 1,B5,x5,Z2) C3 (Tt Q0 (Tt q2 (Tt K3 R1))) (AB b4 R1) h
 refine AX I ?_
 have h:=aC h I0
 try dsimp only at h
 refine Af<|Ae I<|Ag I<|Aa<|Am I ?_
 have s1:=BA G0 .hd
 have V6:=BB G0 .hd
 have P4:=BC (α:=Td) (v:=A0) (xs:=g0) s1 L (Bg (α:=Td) G0 .hd U0 hL)
 refine AW hb0 func45 I I ?_
 cases h
 exact ⟨s1.ag,fun p q=>aE ⟨A0,I,s1.kd P4 q⟩⟩
def cK_p (n:Nat) (a0:Te) (a1:List Int) (a2:Int) (a3:Int) (a4:Int):Oa ((List Td) × Int):=
  (aS_p n a0 a1 a2 a3 a4).bind fun c0=>exc c0 (fun d0=>some (d0,(0:Int))) (fun b0=>some (([]:List Td),b0.fA))
theorem cK_c (n:Nat) {L w} (hL:hl L w) (a0:Te) {v0_3:Vc} (h0_3:Rep.R w L [v0_3] a0.ft) {a1:List Int} {v1_0:Vc} (h1_0:Rep.R w L [v1_0] a1) {a2:Int} {a3:Int} {a4:Int}  {r:(List Td) × Int} (h:cK_p n a0 a1 a2 a3 a4 = some r) :
 Cl 10 #[.agg #[vI a0.fh,vI a0.fc,vI a0.fj,v0_3],v1_0,vI a2,vI a3,vI a4] w (ae w fun w' u=>∃ v0_0:Vc,u = .tuple #[v0_0,vI r.2]/\Rep.R w' L [v0_0] r.1):=by
 unfold cK_p at h
 refine AF func10 I I I fun _ cs0 hb0=>Af<|RG.bx (AA w) I I fun W1 g0 F0 F1=>RG.bx F0 I (Rep.c1 (AT h1_0 F0)) fun c2 j0 Q0 G1=>RG.bx Q0 I I fun d2 k0 R0 H1=>RG.bx R0 I I fun g2 p0 U0 I1=>RG.bx U0 I I fun w32 q0 V0 J1=>Ag I<|Ag I<|Aa<|Af<|Ac (BX (vs:=[]) (us:=[vP g0,vP j0,vP k0,vP p0,vP q0]) ak (e5 I I I I I))<|BK (fst:=[]) (cap:=[]) (vs:=[.func (.func 45) #[] #[vP g0,vP j0,vP k0,vP p0,vP q0]]) .plain (bd 44) func44 I I I I (e1 I) I fun B1 G0 U1=>Af<|RG.nl [vN] V0 fun j2 s0 W0 K1=>RG.nl [vI 0] W0 fun k2 d0 b0 M1=>Aa<|Af<|Ac (BX (vs:=[]) (us:=[vP s0,vP d0]) ak (e2 I I))<|RG.defer (fst:=[]) (cap:=[vP s0,vP d0]) (vs:=[]) I .plain I ak<|Aa<|Af ?_
 refine Ae I<|xk h (fun u0 B0 h=>?_) (fun v2 B0 h=>?_)
 refine BE (fst:=[]) (cap:=[vP g0,vP j0,vP k0,vP p0,vP q0]) .plain (bd 45) I ak (fun p q=>aS_c n (b0.hL hL q) a0 (b0.km h0_3 q) (am q (b0.memA .t6)) (b0.km h1_0 q) (am q (b0.memA .t5)) (am q (b0.memA .t4)) (am q (b0.memA .t3)) (am q (b0.memA .t2)) B0) fun p2 p1=>?_
 obtain ⟨X0,P1⟩:=b0.agr p1
 refine PN.callD (vs:=[]) (cap:=[vP s0,vP d0]) (bd 79) func79 I I I fun A1 q1 u1=>Af<|RG.recover1 .plain q1 I<|Ag I<|Aa<|Af<|Ae I<|Ac (FV.neqI underlying20 I I)<|Aa<|Bq I<|Af<|Ae I<|Ac (FV.assertT I I)<|Ae I<|Ac (Ak I I)<|Ac (Ak I I)<|RG.nl [vI 0] X0 fun q2 y1 Y0 Q1=>AV [vI u0.fA] Y0 .hd (o1 I) fun s2 x0 R1=>Ag I<|Aa<|Aj<|Af<|Ae I<|Ac (Bu I)<|Aa<|BF I<|Ar<|Af<|Ag I<|Aa<|du 3 fun c0 C0=>Rv 0 c0 I C0 (fun _=>Ai I)<|Rv 1 c0 I C0 (fun _=>Bi 0 I)<|RD.mo (α:=Unit) (fun ()=>[(1,vP d0),(19,vI u0.fA)]) (fun ()=>[.cells d0 [vI 0] 49,.cells s0 [vN] 52,.cells q0 [vI a4] 3,.cells p0 [vI a3] 3,.cells k0 [vI a2] 3,.cells j0 [v1_0] 39,.cells g0 [vI a0.fh,vI a0.fc,vI a0.fj,v0_3] 37]) x0 1 15 ?_ ?_
 rintro ⟨⟩ u2 I0 C1
 try dsimp only
 refine BG 4 31 c0 I I .plain (AE (news:=[vI u0.fA]) I0 .hd I I I I I I (o1 I)) fun X1 t0 D1=>AN (dk c0)<|MX.fin I<|RT.leaveD1 u1 func79 I .nil<|Au (u:=.tuple #[vN,vI u0.fA]) G0 func44 I (.cons (.one I I ((t0.memA .t1) 0 _ I)) (.cons (.one I I ((t0.memA .hd) 0 _ I)) .nil)) I<|Ac (Ak I I)<|Ac (Ak I I)<|Ag I<|Ag I<|Aa<|Am I ?_
 have v1:=Rep.nilAt (α:=Td) t0 L
 refine Au hb0 func10 I (.cons (.tmp I) (.cons (.tmp I) .nil)) I ?_
 cases h
 exact ⟨t0.ag,fun p q=>⟨vN,I,t0.kd v1 q⟩⟩
 intro E0
 refine Bz [2,3] (rk c0) ⟨?_,?_,trivial⟩
 refine RO.val (m' :=7) (sk c0) I .plain I (AP I ((x0.memA .hd) 0 _ I))<|BG 3 15 c0 I I .plain (AE (news:=[vN]) x0 .t2 I I I I I I (o1 I)) fun x1 y0 z0=>?_
 obtain ⟨J0,Z0⟩:=AK y0 .d1
 exact E0 () J0 (Tt z0 Z0)
 refine RO.now (m' :=11) (sk c0) I I .plain (AE (news:=[vN]) x0 .t2 I I I I I I (o1 I)) fun x1 y0 z0=>Rx 2 16 c0 I C0 (AP I ((y0.memA .hd) 0 _ I)) ?_
 obtain ⟨K0,b1⟩:=AK y0 .d1
 exact E0 () K0 (Tt z0 b1)
 refine Bc (fst:=[]) (cap:=[vP g0,vP j0,vP k0,vP p0,vP q0]) .plain (bd 45) I ak (fun p q=>Bm (aS_c n (b0.hL hL q) a0 (b0.km h0_3 q) (am q (b0.memA .t6)) (b0.km h1_0 q) (am q (b0.memA .t5)) (am q (b0.memA .t4)) (am q (b0.memA .t3)) (am q (b0.memA .t2)) B0)) I fun Y1 D0 k1 ⟨V1,hu_,A0⟩=>?_
 subst hu_
 obtain ⟨M0,E1⟩:=b0.agr k1
 refine RG.now .plain (AE (news:=[D0]) M0 .t1 I I I (Rep.c1 A0) I I (o1 (AY A0))) fun Z1 P0 g1=>AV [vI 0] P0 .hd (o1 I) fun b2 v0 j1=>Aa<|Am I<|RT.callD (vs:=[]) (cap:=[vP s0,vP d0]) (bd 79) func79 I I I fun z1 H0 s1=>Af<|RG.recover0 .plain H0 I<|Ag I<|Aa<|Af<|Ae I<|Ac (FV.neqI0 underlying20 I I)<|Aa<|BF I<|Ar<|MX.fin I<|RT.leaveD0 H0 s1 func79 I .nil<|Au (u:=.tuple #[D0,vI 0]) G0 func44 I (.cons (.one I I ((v0.memA .t1) 0 _ I)) (.cons (.one I I ((v0.memA .hd) 0 _ I)) .nil)) I<|Ac (Ak I I)<|Ac (Ak I I)<|Ag I<|Ag I<|Aa<|Am I<|Au hb0 func10 I (.cons (.tmp I) (.cons (.tmp I) .nil)) I ?_
 cases h
 exact ⟨v0.ag,fun p q=>⟨D0,I,v0.kd (Ao A0 (Tt g1 j1)) q⟩⟩
def cn_l1 (n:Nat) (d0:List Ta) (v0:Ta) (j0:Int × Nat -> Oa ((Except Tg Ta) ⊕ Int)):Int × Nat -> Oa ((Except Tg Ta) ⊕ Int)
  | (g0,b0)=>(if b0 < d0.length then (d0[b0]?).bind fun s0=>(dL_p n s0 v0).bind fun c0=>(cr_p n c0.1 c0.2).bind fun t0=>exc t0 (fun u0=>(chk (1 + u0)).bind fun p0=>(chk (g0 + p0)).bind fun q0=>j0 (q0,b0 + 1)) (fun k0=>some (.inl (.error k0))) else some (.inr g0))
def cn_p (n:Nat) (a0:Te) (a1:List Int) (a2:Int) (a3:Int) (a4:Int):Oa (Except Tg Ta):=
  (ah_p n a0 a1 a2 a3 a4).bind fun q0=>exc q0 (fun b0=>(bU_p n b0).bind fun z0=>exc z0 (fun A0=>thn (aj (cn_l1 n b0 A0) n (0,0)) (fun B0=>(chk (2 * ((b0.length:Nat):Int))).bind fun p0=>(bT_p n B0 p0).bind fun s0=>exc s0 (fun t0=>(bT_p n (1:Int) (2:Int)).bind fun u0=>exc u0 (fun v0=>(cE_p n t0 v0).bind fun x0=>exc x0 (fun y0=>some (.ok y0)) (fun j0=>some (.error j0))) (fun g0=>some (.error g0))) (fun d0=>some (.error d0)))) (fun k0=>some (.error k0))) (fun c0=>some (.error c0))
theorem cn_c (n:Nat) {L w} (hL:hl L w) (a0:Te) {v0_3:Vc} (h0_3:Rep.R w L [v0_3] a0.ft) {p0:Nat} (m0:∀ j9 v9,([vI a0.fh,vI a0.fc,vI a0.fj,v0_3]:List Vc)[j9]? = some v9 -> w.cell? ((⟨p0,0,none⟩:Addr).add j9) = some v9) {a1:List Int} {v1_0:Vc} (h1_0:Rep.R w L [v1_0] a1) {p1:Nat} (m1:∀ j9 v9,([v1_0]:List Vc)[j9]? = some v9 -> w.cell? ((⟨p1,0,none⟩:Addr).add j9) = some v9) {a2:Int} {p2:Nat} (m2:∀ j9 v9,([vI a2]:List Vc)[j9]? = some v9 -> w.cell? ((⟨p2,0,none⟩:Addr).add j9) = some v9) {a3:Int} {p3:Nat} (m3:∀ j9 v9,([vI a3]:List Vc)[j9]? = some v9 -> w.cell? ((⟨p3,0,none⟩:Addr).add j9) = some v9) {a4:Int} {p4:Nat} (m4:∀ j9 v9,([vI a4]:List Vc)[j9]? = some v9 -> w.cell? ((⟨p4,0,none⟩:Addr).add j9) = some v9)  {r:Except Tg Ta} (h:cn_p n a0 a1 a2 a3 a4 = some r) :
 Cl 47 #[.pointer (some ⟨p0,0,none⟩),.pointer (some ⟨p1,0,none⟩),.pointer (some ⟨p2,0,none⟩),.pointer (some ⟨p3,0,none⟩),.pointer (some ⟨p4,0,none⟩)] w (aL w (fun (y:Ta) _ u=>u = .agg ((ab y)).toArray) (fun e=>.iface 115 (.agg #[vI e.fA])) r):=by
 unfold cn_p at h
 refine BZ func47 I I I fun _ cs0 hb0 hp0=>Af<|RG.nl zL (AA w) fun Z2 I0 c0 G2=>Aa<|Af<|Ac (AH I (fun j9 v9 h9=>c0.ag.cell0 (m0 j9 v9 h9)))<|AR I ((fun j9 v9 h9=>c0.ag.cell0 (m1 j9 v9 h9)) 0 _ I)<|AR I ((fun j9 v9 h9=>c0.ag.cell0 (m2 j9 v9 h9)) 0 _ I)<|AR I ((fun j9 v9 h9=>c0.ag.cell0 (m3 j9 v9 h9)) 0 _ I)<|AR I ((fun j9 v9 h9=>c0.ag.cell0 (m4 j9 v9 h9)) 0 _ I)<|xk h (fun B2 y0 h=>?_) (fun q0 y0 h=>?_)
 refine BE (fst:=[]) (cap:=[]) .plain (bd 36) I (e5 I I I I I) (fun p q=>Calls.erp (ah_c n (c0.hL hL q) a0 (c0.km h0_3 q) (c0.km h1_0 q) y0)) fun j3 H1=>?_
 obtain ⟨v1,P2⟩:=c0.agr H1
 cases h
 exact Bo hp0 func47 ⟨v1.ag,I⟩
 refine jE (bd 36) I (e5 I I I I I) (fun p q=>dK (b0:=w.heap.size) (Bm (ah_c n (c0.hL hL q) a0 (c0.km h0_3 q) (c0.km h1_0 q) y0)) q (Nat.le_trans c0.ag.size q.size)) I fun t3 E0 U2 ⟨Y2,K0,Z1,U0,K1⟩=>?_
 subst Z1
 have k0:=eF c0 U0
 have Q2:=iM c0 U0
 have v0:=AD (cs:=K0) (xs:=(q0:List Ta)) k0 L (dB K1)
 refine Ag I<|Aa<|Af<|Ae I<|xk h (fun F2 D0 h=>?_) (fun t0 D0 h=>?_)
 refine BE (fst:=[]) (cap:=[]) .plain (bd 38) I (e1 I) (fun p q=>bU_c n (k0.hL0 hL q) (Aw (St.lend (α:=Ta) (L:=L) k0 .hd v0 hL) q) D0) fun u3 J1=>?_
 obtain ⟨x1,R2⟩:=k0.agr J1
 cases h
 exact Bo hp0 func47 ⟨x1.ag,I⟩
 refine Bj (.agg ((ab t0)).toArray) (bd 38) I (e1 I) (fun p q=>Bm (bU_c n (k0.hL0 hL q) (Aw (St.lend (α:=Ta) (L:=L) k0 .hd v0 hL) q) D0)) I<|RG.nl zL k0 fun v3 J0 y1 C1=>AV (ab t0) y1 .hd (ai I) fun x3 u0 D1=>Ag I<|Aa<|Aj<|Af<|Ae I ?_
 have V2:q0.length <= 4294967296:=St.rowLe (α:=Ta) u0 .t1
 obtain ⟨k2,y2,Q1⟩:=St.rowV (α:=Ta) u0 .t1
 refine Ac (FV.lenV underlying85 I Q1)<|Ae I<|Aa<|Ax<|tn h fun W2 U1 Q0=>MX.lo (α:=Int × Nat) (fun ⟨s0,g0⟩=>[(5,vP I0),(6,E0),(7,vP J0),(8,vI s0),(19,E0),(20,vn q0.length),(21,vn g0)]) (fun ⟨s0,g0⟩=>[.cells J0 (ab t0) 48,rr w 48 Ta E0 q0.length K0,.cells I0 zL 48]) (fun ⟨s0,g0⟩=>(s0,g0)) (0,0) U1 u0 ?_
 rintro q2 ⟨s0,g0⟩ y3 c1 d0 P0 h
 unfold cn_l1 at h
 try dsimp only at h
 refine Af<|Ac (Bp (i:=g0) (j:=q0.length) I I)<|Aa<|Aj<|AQ I h (fun b1 h=>?_) (fun b1 h=>?_)
 refine Ar<|Aj<|Ax<|Af<|bk h fun V0 b2 h=>?_
 obtain ⟨Y0,u2,x0,R0,z2,V1,R1⟩:=BU (α:=Ta) d0 .t1 (AB v0 (Tt C1 (Tt D1 P0))) b2
 obtain ⟨Z0,v2,M1⟩:=By (α:=Ta) d0 .t1 R0
 obtain rfl:Y0 = ⟨Z0,0,none⟩:=by rw [M1] at x0; cases x0; rfl
 obtain rfl:=bw V1
 refine Ac (Bb 16 g0 I x0 I I R0)<|Ac (AH I R1)<|RG.nl zL d0 fun b3 s2 g1 z1=>AV (ab V0) g1 .hd (ai I) fun c3 j0 A1=>Aa<|Ap<|Ae I<|Ac (AH I (j0.memA .hd))<|Ac (AH I (j0.memA .t1))<|bk h fun W0 c2 h=>Bj (.tuple #[vI W0.1,vI W0.2]) (bd 49) I (e2 I I) (fun p q=>dL_c n (j0.hL0 hL q) V0 t0 c2) I<|Ac (Ak I I)<|Ac (Ak I I)<|xk h (fun A2 z0 h=>?_) (fun X0 z0 h=>?_)
 have h:=au h Q0
 refine BE (fst:=[]) (cap:=[]) .plain (bd 48) I (e2 I I) (fun p q=>cr_c n (j0.hL0 hL q)  z0) fun d3 E1=>?_
 obtain ⟨j1,H2⟩:=j0.agr E1
 cases h
 exact Bo hp0 func47 ⟨j1.ag,I⟩
 refine Bj (vI X0) (bd 48) I (e2 I I) (fun p q=>Bm (cr_c n (j0.hL0 hL q)  z0)) I<|bk h fun d2 W1 h=>Ac (Bw (i:=1) (j:=X0) I I W1)<|bk h fun g2 X1 h=>Ac (Bw (i:=s0) (j:=d2) I I X1)<|Ag I<|Aa<|AC<|Ap<|Ac (Bl (i:=g0) (j:=1) I I (by omega))<|Ae I<|Aa ?_
 obtain ⟨k1,B1⟩:=AK j0 .d1
 exact c1 (g2,g0 + 1) k1 (Tt P0 (Tt z1 (Tt A1 B1))) h
 refine AX I ?_
 have h:=aC h Q0
 try dsimp only at h
 refine Af<|Ae I<|Ae I ?_
 obtain ⟨j2,x2,P1⟩:=St.rowV (α:=Ta) d0 .t1
 refine Ac (FV.lenV underlying85 I P1)<|bk h fun X2 Y1 h=>Ac (FV.mulc (i:=2) (j:=((q0.length:Nat):Int)) I I Y1)<|xk h (fun C2 A0 h=>?_) (fun F0 A0 h=>?_)
 refine BE (fst:=[]) (cap:=[]) .plain (bd 31) I (e2 I I) (fun p q=>bT_c n (d0.hL0 hL q)  A0) fun g3 F1=>?_
 obtain ⟨q1,I2⟩:=d0.agr F1
 cases h
 exact Bo hp0 func47 ⟨q1.ag,I⟩
 refine Bj (.agg ((ab F0)).toArray) (bd 31) I (e2 I I) (fun p q=>Bm (bT_c n (d0.hL0 hL q)  A0)) I<|xk h (fun D2 B0 h=>?_) (fun G0 B0 h=>?_)
 refine BE (fst:=[]) (cap:=[]) .plain (bd 31) I (e2 I I) (fun p q=>bT_c n (d0.hL0 hL q)  B0) fun k3 G1=>?_
 obtain ⟨s1,J2⟩:=d0.agr G1
 cases h
 exact Bo hp0 func47 ⟨s1.ag,I⟩
 refine Bj (.agg ((ab G0)).toArray) (bd 31) I (e2 I I) (fun p q=>Bm (bT_c n (d0.hL0 hL q)  B0)) I<|xk h (fun E2 C0 h=>?_) (fun H0 C0 h=>?_)
 refine BE (fst:=[]) (cap:=[]) .plain (bd 37) I (e2 I I) (fun p q=>cE_c n (d0.hL0 hL q) F0 G0 C0) fun q3 I1=>?_
 obtain ⟨u1,K2⟩:=d0.agr I1
 cases h
 exact Bo hp0 func47 ⟨u1.ag,I⟩
 refine Bj (.agg ((ab H0)).toArray) (bd 37) I (e2 I I) (fun p q=>Bm (cE_c n (d0.hL0 hL q) F0 G0 C0)) I<|AV (ab H0) d0 .t2 (ai I) fun s3 M0 M2=>Aa<|Am I<|Au hb0 func47 I (.cons (.many (cs:=(ab H0)) I I (M0.memA .t2)) .nil) I ?_
 cases h
 exact ⟨M0.ag,fun p q=>aE I⟩
def dA_p (n:Nat) (a0:Te) (a1:List Int) (a2:Int) (a3:Int) (a4:Int):Oa (Ta × Int):=
  (cn_p n a0 a1 a2 a3 a4).bind fun c0=>exc c0 (fun d0=>some (d0,(0:Int))) (fun b0=>some ((⟨(0,0,0,0,0,0,0,0),(0,0,0,0,0,0,0,0)⟩:Ta),b0.fA))
theorem dA_c (n:Nat) {L w} (hL:hl L w) (a0:Te) {v0_3:Vc} (h0_3:Rep.R w L [v0_3] a0.ft) {a1:List Int} {v1_0:Vc} (h1_0:Rep.R w L [v1_0] a1) {a2:Int} {a3:Int} {a4:Int}  {r:Ta × Int} (h:dA_p n a0 a1 a2 a3 a4 = some r) :
 Cl 12 #[.agg #[vI a0.fh,vI a0.fc,vI a0.fj,v0_3],v1_0,vI a2,vI a3,vI a4] w (ae w fun _ u=>u = .tuple #[.agg ((ab r.1)).toArray,vI r.2]):=by
 unfold dA_p at h
 refine AF func12 I I I fun _ cs0 hb0=>Af<|RG.bx (AA w) I I fun b2 j0 F0 G1=>RG.bx F0 I (Rep.c1 (AT h1_0 F0)) fun q2 p0 U0 J1=>RG.bx U0 I I fun s2 q0 V0 K1=>RG.bx V0 I I fun u2 s0 W0 M1=>RG.bx W0 I I fun w32 t0 X0 P1=>RG.nl zL X0 fun v2 K0 Y0 Q1=>Ag I<|Aa<|Af<|Ac (BX (vs:=[]) (us:=[vP j0,vP p0,vP q0,vP s0,vP t0]) ak (e5 I I I I I))<|BK (fst:=[]) (cap:=[]) (vs:=[.func (.func 47) #[] #[vP j0,vP p0,vP q0,vP s0,vP t0]]) .plain (bd 27) func27 I I I I (e1 I) I fun B1 I0 Z1=>Af<|RG.nl zL Y0 fun x2 u0 Z0 R1=>RG.nl [vI 0] Z0 fun y2 d0 b0 U1=>?_
 refine Aa<|Af<|Ac (BX (vs:=[]) (us:=[vP u0,vP d0]) ak (e2 I I))<|RG.defer (fst:=[]) (cap:=[vP u0,vP d0]) (vs:=[]) I .plain I ak<|Aa<|Af<|Ae I<|xk h (fun x0 C0 h=>?_) (fun g0 C0 h=>?_)
 refine BE (fst:=[]) (cap:=[vP j0,vP p0,vP q0,vP s0,vP t0]) .plain (bd 47) I ak (fun p q=>cn_c n (b0.hL0 hL q) a0 (b0.k0 h0_3 q) (am q (b0.memA .t7)) (b0.k0 h1_0 q) (am q (b0.memA .t6)) (am q (b0.memA .t5)) (am q (b0.memA .t4)) (am q (b0.memA .t3)) C0) fun z2 p1=>?_
 obtain ⟨b1,V1⟩:=b0.agr p1
 refine PN.callD (vs:=[]) (cap:=[vP u0,vP d0]) (bd 64) func64 I I I fun A1 q1 u1=>Af<|RG.recover1 .plain q1 I<|Ag I<|Aa<|Af<|Ae I<|Ac (FV.neqI underlying20 I I)<|Aa<|Bq I<|Af<|Ae I<|Ac (FV.assertT I I)<|Ae I<|Ac (Ak I I)<|Ac (Ak I I)<|RG.nl [vI 0] b1 fun A2 x1 d1 W1=>AV [vI x0.fA] d1 .hd (o1 I) fun B2 g1 X1=>Ag I<|Aa<|Aj<|Af<|Ae I<|Ac (Bu I)<|Aa<|BF I<|Ar<|Af<|RG.nl zL g1 fun C2 y1 v0 Y1=>Aa<|du 3 fun c0 D0=>Rx 0 24 c0 I D0 (AH I (v0.memA .hd))<|Rv 1 c0 I D0 (fun _=>Bi 0 I)<|RD.mo (α:=Unit) (fun ()=>[(1,vP d0),(19,vI x0.fA)]) (fun ()=>[.cells d0 [vI 0] 49,.cells u0 zL 48,.cells K0 zL 48,.cells t0 [vI a4] 3,.cells s0 [vI a3] 3,.cells q0 [vI a2] 3,.cells p0 [v1_0] 39,.cells j0 [vI a0.fh,vI a0.fc,vI a0.fj,v0_3] 37]) v0 1 15 ?_ ?_
 rintro ⟨⟩ D2 M0 C1
 try dsimp only
 refine BG 4 31 c0 I I .plain (AE (news:=[vI x0.fA]) M0 .hd I I I I I I (o1 I)) fun c2 z0 D1=>AN (dk c0)<|MX.fin I<|RT.leaveD1 u1 func64 I .nil<|Au (u:=.tuple #[.agg zM,vI x0.fA]) I0 func27 I (.cons (.many (cs:=zL) I I (z0.memA .t1)) (.cons (.one I I ((z0.memA .hd) 0 _ I)) .nil)) I<|Ac (Ak I I)<|Ac (Ak I I)<|AV zL z0 .t2 (ai I) fun g2 G0 E1=>Ag I<|Aa<|Am I<|Au hb0 func12 I (.cons (.many (cs:=zL) I I (G0.memA .t2)) (.cons (.tmp I) .nil)) I ?_
 cases h
 exact G0.gv
 intro E0
 refine Bz [2,3] (rk c0) ⟨?_,?_,trivial⟩
 refine RO.val (m' :=7) (sk c0) I .plain I (AP I ((v0.memA .t1) 0 _ I))<|BG 3 15 c0 I I .plain (AE (news:=zL) v0 .t3 I I I I I I (ai I)) fun v1 y0 B0=>?_
 obtain ⟨P0,j1⟩:=AK y0 .d2
 exact E0 () P0 (Tt B0 j1)
 refine RO.now (m' :=11) (sk c0) I I .plain (AE (news:=zL) v0 .t3 I I I I I I (ai I)) fun v1 y0 B0=>Rx 2 16 c0 I D0 (AP I ((y0.memA .t1) 0 _ I)) ?_
 obtain ⟨Q0,k1⟩:=AK y0 .d2
 exact E0 () Q0 (Tt B0 k1)
 refine RG.callq' (v:=.agg ((ab g0)).toArray) (fst:=[]) (cap:=[vP j0,vP p0,vP q0,vP s0,vP t0]) .plain (bd 47) I ak (fun p q=>Bm (cn_c n (b0.hL0 hL q) a0 (b0.k0 h0_3 q) (am q (b0.memA .t7)) (b0.k0 h1_0 q) (am q (b0.memA .t6)) (am q (b0.memA .t5)) (am q (b0.memA .t4)) (am q (b0.memA .t3)) C0)) I<|AV (ab g0) b0 .t1 (ai I) fun j2 R0 F1=>AV [vI 0] R0 .hd (o1 I) fun k2 A0 H1=>Aa<|Am I<|RT.callD (vs:=[]) (cap:=[vP u0,vP d0]) (bd 64) func64 I I I fun z1 J0 s1=>Af<|RG.recover0 .plain J0 I<|Ag I<|Aa<|Af<|Ae I<|Ac (FV.neqI0 underlying20 I I)<|Aa<|BF I<|Ar<|MX.fin I<|RT.leaveD0 J0 s1 func64 I .nil<|Au (u:=.tuple #[.agg ((ab g0)).toArray,vI 0]) I0 func27 I (.cons (.many (cs:=(ab g0)) I I (A0.memA .t1)) (.cons (.one I I ((A0.memA .hd) 0 _ I)) .nil)) I<|Ac (Ak I I)<|Ac (Ak I I)<|AV (ab g0) A0 .t2 (ai I) fun p2 H0 I1=>Ag I<|Aa<|Am I<|Au hb0 func12 I (.cons (.many (cs:=(ab g0)) I I (H0.memA .t2)) (.cons (.tmp I) .nil)) I ?_
 cases h
 exact H0.gv
theorem ex_Td {a b:Td} (h0:a.fB.fN.1 = b.fB.fN.1) (h1:a.fB.fN.2.1 = b.fB.fN.2.1) (h2:a.fB.fN.2.2.1 = b.fB.fN.2.2.1) (h3:a.fB.fN.2.2.2.1 = b.fB.fN.2.2.2.1) (h4:a.fB.fN.2.2.2.2.1 = b.fB.fN.2.2.2.2.1) (h5:a.fB.fN.2.2.2.2.2.1 = b.fB.fN.2.2.2.2.2.1) (h6:a.fB.fN.2.2.2.2.2.2.1 = b.fB.fN.2.2.2.2.2.2.1) (h7:a.fB.fN.2.2.2.2.2.2.2 = b.fB.fN.2.2.2.2.2.2.2) (h8:a.fB.fD.1 = b.fB.fD.1) (h9:a.fB.fD.2.1 = b.fB.fD.2.1) (b0:a.fB.fD.2.2.1 = b.fB.fD.2.2.1) (c0:a.fB.fD.2.2.2.1 = b.fB.fD.2.2.2.1) (d0:a.fB.fD.2.2.2.2.1 = b.fB.fD.2.2.2.2.1) (g0:a.fB.fD.2.2.2.2.2.1 = b.fB.fD.2.2.2.2.2.1) (j0:a.fB.fD.2.2.2.2.2.2.1 = b.fB.fD.2.2.2.2.2.2.1) (k0:a.fB.fD.2.2.2.2.2.2.2 = b.fB.fD.2.2.2.2.2.2.2) (p0:a.fF = b.fF) (q0:a.fH = b.fH):a = b:=congr (congr (congrArg Td.mk (ex_Ta (a:=a.fB) (b:=b.fB) h0 h1 h2 h3 h4 h5 h6 h7 h8 h9 b0 c0 d0 g0 j0 k0)) p0) q0
theorem eqlD_57 (a b:Td) (p:World):(do eqGuard .eql 57 (.tmp 0) (.tmp 0) (.agg #[vU a.fB.fN.1,vU a.fB.fN.2.1,vU a.fB.fN.2.2.1,vU a.fB.fN.2.2.2.1,vU a.fB.fN.2.2.2.2.1,vU a.fB.fN.2.2.2.2.2.1,vU a.fB.fN.2.2.2.2.2.2.1,vU a.fB.fN.2.2.2.2.2.2.2,vU a.fB.fD.1,vU a.fB.fD.2.1,vU a.fB.fD.2.2.1,vU a.fB.fD.2.2.2.1,vU a.fB.fD.2.2.2.2.1,vU a.fB.fD.2.2.2.2.2.1,vU a.fB.fD.2.2.2.2.2.2.1,vU a.fB.fD.2.2.2.2.2.2.2,vI a.fF,vI a.fH]) (.agg #[vU b.fB.fN.1,vU b.fB.fN.2.1,vU b.fB.fN.2.2.1,vU b.fB.fN.2.2.2.1,vU b.fB.fN.2.2.2.2.1,vU b.fB.fN.2.2.2.2.2.1,vU b.fB.fN.2.2.2.2.2.2.1,vU b.fB.fN.2.2.2.2.2.2.2,vU b.fB.fD.1,vU b.fB.fD.2.1,vU b.fB.fD.2.2.1,vU b.fB.fD.2.2.2.1,vU b.fB.fD.2.2.2.2.1,vU b.fB.fD.2.2.2.2.2.1,vU b.fB.fD.2.2.2.2.2.2.1,vU b.fB.fD.2.2.2.2.2.2.2,vI b.fF,vI b.fH]); binOp .eql 57 (.agg #[vU a.fB.fN.1,vU a.fB.fN.2.1,vU a.fB.fN.2.2.1,vU a.fB.fN.2.2.2.1,vU a.fB.fN.2.2.2.2.1,vU a.fB.fN.2.2.2.2.2.1,vU a.fB.fN.2.2.2.2.2.2.1,vU a.fB.fN.2.2.2.2.2.2.2,vU a.fB.fD.1,vU a.fB.fD.2.1,vU a.fB.fD.2.2.1,vU a.fB.fD.2.2.2.1,vU a.fB.fD.2.2.2.2.1,vU a.fB.fD.2.2.2.2.2.1,vU a.fB.fD.2.2.2.2.2.2.1,vU a.fB.fD.2.2.2.2.2.2.2,vI a.fF,vI a.fH]) (.agg #[vU b.fB.fN.1,vU b.fB.fN.2.1,vU b.fB.fN.2.2.1,vU b.fB.fN.2.2.2.1,vU b.fB.fN.2.2.2.2.1,vU b.fB.fN.2.2.2.2.2.1,vU b.fB.fN.2.2.2.2.2.2.1,vU b.fB.fN.2.2.2.2.2.2.2,vU b.fB.fD.1,vU b.fB.fD.2.1,vU b.fB.fD.2.2.1,vU b.fB.fD.2.2.2.1,vU b.fB.fD.2.2.2.2.1,vU b.fB.fD.2.2.2.2.2.1,vU b.fB.fD.2.2.2.2.2.2.1,vU b.fB.fD.2.2.2.2.2.2.2,vI b.fF,vI b.fH]):Sem Vc).run Tryz.prog p = .ok (.bool (decide (a = b))) p:=
  na (ks:=[.int .u64,.int .u64,.int .u64,.int .u64,.int .u64,.int .u64,.int .u64,.int .u64,.int .u64,.int .u64,.int .u64,.int .u64,.int .u64,.int .u64,.int .u64,.int .u64,.int .i64,.int .i64]) (xs:=[vU a.fB.fN.1,vU a.fB.fN.2.1,vU a.fB.fN.2.2.1,vU a.fB.fN.2.2.2.1,vU a.fB.fN.2.2.2.2.1,vU a.fB.fN.2.2.2.2.2.1,vU a.fB.fN.2.2.2.2.2.2.1,vU a.fB.fN.2.2.2.2.2.2.2,vU a.fB.fD.1,vU a.fB.fD.2.1,vU a.fB.fD.2.2.1,vU a.fB.fD.2.2.2.1,vU a.fB.fD.2.2.2.2.1,vU a.fB.fD.2.2.2.2.2.1,vU a.fB.fD.2.2.2.2.2.2.1,vU a.fB.fD.2.2.2.2.2.2.2,vI a.fF,vI a.fH]) (ys:=[vU b.fB.fN.1,vU b.fB.fN.2.1,vU b.fB.fN.2.2.1,vU b.fB.fN.2.2.2.1,vU b.fB.fN.2.2.2.2.1,vU b.fB.fN.2.2.2.2.2.1,vU b.fB.fN.2.2.2.2.2.2.1,vU b.fB.fN.2.2.2.2.2.2.2,vU b.fB.fD.1,vU b.fB.fD.2.1,vU b.fB.fD.2.2.1,vU b.fB.fD.2.2.2.1,vU b.fB.fD.2.2.2.2.1,vU b.fB.fD.2.2.2.2.2.1,vU b.fB.fD.2.2.2.2.2.2.1,vU b.fB.fD.2.2.2.2.2.2.2,vI b.fF,vI b.fH]) (by kernel_rfl) (by kernel_rfl) (by kernel_rfl) I I ⟨fun h=>by
    simp only [bF,veq,Bool.and_eq_true,beq_iff_eq,and_true] at h
    obtain ⟨h0,h1,h2,h3,h4,h5,h6,h7,h8,h9,b0,c0,d0,g0,j0,k0,p0,q0⟩:=h
    exact ex_Td (ar h0) (ar h1) (ar h2) (ar h3) (ar h4) (ar h5) (ar h6) (ar h7) (ar h8) (ar h9) (ar b0) (ar c0) (ar d0) (ar g0) (ar j0) (ar k0) p0 q0,fun h=>by subst h; simp [bF,veq]⟩ _ _ p
def ai_l1 (_n:Nat) (a0:List Td) (a1:List Td) (c0:Nat -> Oa (Bool ⊕ Unit)):Nat -> Oa (Bool ⊕ Unit)
  | b0=>(if b0 < a0.length then (a0[b0]?).bind fun d0=>(a1[b0]?).bind fun g0=>(if d0 = g0 then c0 (b0 + 1) else some (.inl false)) else some (.inr ()))
def ai_p (n:Nat) (a0:List Td) (a1:List Td):Oa Bool:=
  (if a0.length = a1.length then thn (aj (ai_l1 n a0 a1) n 0) (fun _=>some true) else some false)
theorem ai_c (n:Nat) {L w} (_hL:hl L w) {a0:List Td} {v0_0:Vc} (h0_0:Rep.R w L [v0_0] a0) {a1:List Td} {v1_0:Vc} (h1_0:Rep.R w L [v1_0] a1)  {r:Bool} (h:ai_p n a0 a1 = some r) :
 Cl 14 #[v0_0,v1_0] w (ae w fun _ u=>u = .bool r):=by
 unfold ai_p at h
 have hS0:=AA w
 refine AF func14 I I I fun _ cs0 hb0=>Af<|Ag I<|Aa<|Aj<|Af<|Ae I ?_
 have hl1:=AU h0_0
 refine Ac (Ba (xs:=a0) underlying52 I h0_0)<|Ae I ?_
 have hl2:=AU h1_0
 refine Ac (Ba (xs:=a1) underlying52 I h1_0)<|Ac (FV.neqN (i:=a0.length) (j:=a1.length) I I)<|Aa<|MX.ifn I h (fun c3 h=>?_) (fun c3 h=>?_)
 refine Ar<|Aj<|Af<|Ae I<|Ac (Ba (xs:=a0) underlying52 I h0_0)<|Ae I<|Aa<|Ax<|tn h fun R0 C0 j0=>MX.lo (α:=Nat) (fun b0=>[(0,v0_0),(1,v1_0),(12,vn a0.length),(13,vn b0)]) (fun b0=>[]) (fun b0=>b0) 0 C0 hS0 ?_
 rintro J0 b0 U0 t0 g0 u0 h
 unfold ai_l1 at h
 try dsimp only at h
 refine Af<|Ac (Bp (i:=b0) (j:=a0.length) I I)<|Aa<|Aj<|AQ I h (fun q0 h=>?_) (fun q0 h=>?_)
 refine Ar<|Aj<|Ax<|Af<|Ae I<|Ag I<|Aa<|Aj<|du 9 fun c0 d0=>Rv 0 c0 I d0 (fun _=>Ai I)<|Rv 1 c0 I d0 (fun _=>Ai I)<|bk h fun k0 F0 h=>?_
 obtain ⟨H0,K0,v0,y0,P0,D0,A0⟩:=Bh (AT h0_0 g0) F0
 obtain rfl:=dP D0
 refine Rv 2 c0 I d0 (fun _=>Bb 18 b0 I v0 I I y0)<|Rx 3 256 c0 I d0 (AH I A0)<|Rv 4 c0 I d0 (fun _=>Ai I)<|Rv 5 c0 I d0 (fun _=>Ai I)<|bk h fun p0 G0 h=>?_
 obtain ⟨I0,M0,x0,z0,Q0,E0,B0⟩:=Bh (AT h1_0 g0) G0
 obtain rfl:=dP E0
 refine Rv 6 c0 I d0 (fun _=>Bb 18 b0 I x0 I I z0)<|Rx 7 256 c0 I d0 (AH I B0)<|Rv 8 c0 I d0 (fun _=>FV.neqV (xs:=((il k0)).toArray) (ys:=((il p0)).toArray) I I (by kernel_rfl) (eqlD_57 k0 p0))<|AN (dk c0)<|MX.ifn I h (fun s0 h=>?_) (fun s0 h=>?_)
 refine Ar<|AC<|Ap<|Ac (Bl (i:=b0) (j:=1) I I (by omega))<|Ae I<|Aa<|t0 (b0 + 1) g0 u0 h
 refine Af<|Ag I<|Aa ?_
 have h:=au h j0
 refine Am I<|AW hb0 func14 I I ?_
 cases h
 exact g0.gv
 refine AX I ?_
 have h:=aC h j0
 try dsimp only at h
 refine Af<|Ag I<|Aa<|Am I<|AW hb0 func14 I I ?_
 cases h
 exact g0.gv
 refine Af<|Ag I<|Aa<|Am I<|AW hb0 func14 I I ?_
 cases h
 exact hS0.gv
theorem el81:ElT Tryz.prog 81 42 (Rep.size (Int × Int)) 16 (.agg #[vI 0,vI 0]) [vI 0,vI 0]:=⟨underlying81,by kernel_rfl,rfl,rfl,rfl,rfl⟩
theorem jR:ElT Tryz.prog 35 99 (Rep.size Tc) 104 (.agg #[.string ⟨#[]⟩,vI 0,vN,vN,vN,.bool false]) [.string ⟨#[]⟩,vI 0,vN,vN,vN,.bool false]:=⟨underlying35,by kernel_rfl,rfl,rfl,rfl,rfl⟩
def bO_l1 (_n:Nat) (g0:List (Int × Int)) (j0:Nat × (List Tc) -> Oa (List Tc)):Nat × (List Tc) -> Oa (List Tc)
  | (b0,d0)=>(if b0 < g0.length then (g0[b0]?).bind fun c0=>(nD ⟨#[117]⟩ (chr (w32 ((97 + b0:Nat):Int)))).bind fun k0=>(app d0 ([(⟨k0,(10:Int),([]:List Int),([c0.1,c0.2]:List Int),([]:List Int),false⟩:Tc)]:List Tc)).bind fun p0=>j0 (b0 + 1,p0) else some d0)
def bO_p (n:Nat) (a0:List (Int × Int)):Oa Te:=
  jn (fun d0=>Option.bind (aj (bO_l1 n d0) n (0,([]:List Tc))) (fun c0=>some (⟨(0:Int),(2:Int),(0:Int),c0⟩:Te))) (fun b0=>(if a0.length = 0 then b0 ([((6:Int),(2:Int)),((4:Int),(5:Int)),((3:Int),(3:Int))]:List (Int × Int)) else b0 a0))
theorem bO_c (n:Nat) {L w} (hL:hl L w) {a0:List (Int × Int)} {v0_0:Vc} (h0_0:Rep.R w L [v0_0] a0)  {r:Te} (h:bO_p n a0 = some r) :
 Cl 15 #[v0_0] w (ae w fun w' u=>∃ (v0_3:Vc) (cs0_3:List Vc),u = .agg #[vI r.fh,vI r.fc,vI r.fj,v0_3]/\St w w' (aV w.heap.size [(99,Rep.size Tc,v0_3,r.ft.length,cs0_3)])/\Cells w' (bl (aV w.heap.size [(99,Rep.size Tc,v0_3,r.ft.length,cs0_3)]) ++ L) cs0_3 (r.ft:List Tc)):=by
 unfold bO_p at h
 refine AF func15 I I I fun _ cs0 hb0=>Af<|RG.nl [vI 0,vI 0,vI 0,vN] (AA w) fun C2 t0 v0 s2=>Aa<|Aj<|Af<|Ae I ?_
 have F0:=AT h0_0 v0
 have x2:=AU F0
 refine Ac (Ba (xs:=a0) underlying81 I F0)<|Ac (BP (i:=a0.length) (j:=0) I I)<|Aa<|MX.jf (α:=(List (Int × Int)) × Vc) (fun ⟨j0,s0⟩=>[(0,s0),(2,vP t0)]) (fun ⟨j0,s0⟩=>[.cells t0 [vI 0,vI 0,vI 0,vN] 37]) (fun ⟨j0,s0⟩ q1=>Rep.R q1 (bl [.cells t0 [vI 0,vI 0,vI 0,vN] 37] ++ L) [s0] j0) (fun ⟨j0,s0⟩=>j0) v0 h ?_ ?_
 rintro ⟨j0,s0⟩ q1 B1 u2 k1 h
 try dsimp only at h
 refine Af<|Ac (AS (vs:=[vI 2]) (u:=.agg #[vI 0,vI 2,vI 0,vN]) (e1 I) (fun p=>by kernel_rfl))<|RG.nl [vI 0,vI 0,vI 0,vN] B1 fun M2 B0 C1 X0=>AV [vI 0,vI 2,vI 0,vN] C1 .hd (ai I) fun P2 P0 Y0=>Aa<|Aj<|Af<|Ae I ?_
 have d1:=Ao k1 (Tt X0 Y0)
 have y2:=AU d1
 refine Ac (Ba (xs:=j0) underlying81 I d1)<|Ae I<|Aa<|Ax ?_
 have E0:=P0.nilRow 99 (Rep.size Tc)
 have Q0:=E0.nilRow 99 (Rep.size Tc)
 have Z0:=BW E0 99 (Rep.size Tc)
 have v2:=AD (cs:=[]) (xs:=([]:List Tc)) Q0 L (AJ _ _)
 obtain ⟨B2,U1,P1⟩:=aq h
 refine MX.lf (α:=Nat × (List Tc) × Vc × (List Vc)) (fun ⟨c0,p0,d0,k0⟩=>[(2,vP t0),(3,vP B0),(14,s0),(15,vn j0.length),(16,vn c0)]) (fun ⟨c0,p0,d0,k0⟩=>[rr w 99 Tc vN (([]:List Tc).length) [],rr w 99 Tc d0 p0.length k0,.cells B0 [vI 0,vI 2,vI 0,d0] 37,.cells t0 [vI 0,vI 0,vI 0,vN] 37]) (fun ⟨c0,p0,d0,k0⟩ p1=>Cells p1 (bl [rr w 99 Tc vN (([]:List Tc).length) [],rr w 99 Tc d0 p0.length k0,.cells B0 [vI 0,vI 2,vI 0,d0] 37,.cells t0 [vI 0,vI 0,vI 0,vN] 37] ++ L) k0 p0) (fun ⟨c0,p0,d0,k0⟩=>(c0,p0)) (0,([]:List Tc),vN,[]) U1 Q0 (AB (AD (cs:=[]) (xs:=([]:List Tc)) E0 L (AJ _ _)) Z0) ?_
 rintro c2 ⟨c0,p0,d0,k0⟩ p1 x1 x0 R0 b1 h
 unfold bO_l1 at h
 try dsimp only at h
 refine Af<|Ac (Bp (i:=c0) (j:=j0.length) I I)<|Aa<|Aj<|AQ I h (fun s1 h=>?_) (fun s1 h=>?_)
 refine Ar<|Aj<|Ax<|Af<|Ae I<|bk h fun b0 X1 h=>?_
 obtain ⟨b2,p2,M1,Q1,q2,V1,R1⟩:=Bh (Ao k1 (Tt X0 (Tt Y0 (Tt (BW P0 99 (Rep.size Tc)) (Tt Z0 R0))))) X1
 obtain rfl:=fO V1
 refine Ac (Bb 2 c0 I M1 I I Q1)<|Ac (AH I R1)<|RG.nl [vI 0,vI 0] x0 fun D2 j2 y1 D1=>Ag I<|AV [vI b0.1,vI b0.2] y1 .hd (ai I) fun E2 y0 E1=>Aa<|Ap<|Bd 3 I<|AR I ((y0.memA .t3) 3 _ I)<|Ae I<|Ac (Bl (i:=97) (j:=c0) I I (by omega))<|Ac (FV.conv32 (i:=((97 + c0:Nat):Int)) underlying3 underlying21 I)<|Ac (FV.conv32S (i:=w32 ((97 + c0:Nat):Int)) underlying21 underlying9 I)<|bk h fun g0 W1 h=>Ac (FV.addS W1 I I)<|Ac (AO (m:=1) (k:=0) (len:=2) I I I I (by omega))<|AR I ((y0.memA .hd) 0 _ I)<|Ac (AO (m:=1) (k:=1) (len:=2) I I I I (by omega))<|AR I ((y0.memA .hd) 1 _ I)<|Al .plain I (AL (α:=Int) (xs:=([b0.1,b0.2]:List Int)) (vs:=[vI b0.1,vI b0.2]) (ds' :=[vI b0.1,vI b0.2]) I y0 ay I (e2 I I) (by kernel_rfl) I) fun F2 q0 u0 F1=>Ac (AS (vs:=[.string g0,vI 10,(vS q0 2)]) (u:=.agg #[.string g0,vI 10,vN,(vS q0 2),vN,.bool false]) (e3 I I I) (fun p=>by kernel_rfl)) ?_
 have z2:=Rep.nilAt (α:=Int) u0 L
 have C0:=BA u0 .hd
 have A2:=Rep.nilAt (α:=Int) C0 L
 refine Al .plain I (AL (α:=Tc) (xs:=([(⟨g0,(10:Int),([]:List Int),([b0.1,b0.2]:List Int),([]:List Int),false⟩:Tc)]:List Tc)) (vs:=[.agg #[.string g0,vI 10,vN,(vS q0 2),vN,.bool false]]) (ds' :=[.string g0,vI 10,vN,(vS q0 2),vN,.bool false]) I C0 jR I (e1 I) (by kernel_rfl) I) fun G2 k2 z0 U0=>?_
 have j1:=Rep.nilAt (α:=Int) z0 L
 refine bk h fun Z1 Y1 h=>?_
 have g1:=Tt D1 (Tt E1 (Tt F1 (Tt (BB u0 .hd) U0)))
 refine RG.doesL .plain I (Bf (α:=Tc) (ys:=([(⟨g0,(10:Int),([]:List Int),([b0.1,b0.2]:List Int),([]:List Int),false⟩:Tc)]:List Tc)) Y1 z0 (fun _ _=>.t3) jR I I (AB b1 g1) (Src.row (α:=Tc) z0 .hd (AD (cs:=[.string g0,vI 10,vN,(vS q0 2),vN,.bool false]) (xs:=(([(⟨g0,(10:Int),([]:List Int),([b0.1,b0.2]:List Int),([]:List Int),false⟩:Tc)]:List Tc):List Tc)) z0 L (Av (cs:=[.string g0,vI 10,vN,(vS q0 2),vN,.bool false]) (ds:=[]) (ea g0 (10:Int) ([]:List Int) j1 ([b0.1,b0.2]:List Int) (Ao (BC (α:=Int) (v:=(vS q0 2)) (xs:=([b0.1,b0.2]:List Int)) C0 L (Bg (α:=Int) u0 .hd (AD (cs:=[vI b0.1,vI b0.2]) (xs:=(([b0.1,b0.2]:List Int):List Int)) u0 L (Av (cs:=[vI b0.1]) (ds:=[vI b0.2]) I (Av (cs:=[vI b0.2]) (ds:=[]) I (AJ _ _)))) hL)) U0) ([]:List Int) j1 false) (AJ _ _))))) fun G0 H2 ⟨v1,D0,G1,K1⟩=>Bd 3 I<|RG.now .plain (BT (j:=3) (old:=[vI 0,vI 2,vI 0,d0]) (news:=[G0]) (new' :=[vI 0,vI 2,vI 0,G0]) D0 .t4 I I I (St.c1 (α:=Tc) D0 .t3) I I (o1 (St.o1 (α:=Tc) D0 .t3)) I) fun I2 z1 V0=>Aa<|AC<|Ap<|Ac (Bl (i:=c0) (j:=1) I I (by omega))<|Ae I<|Aa ?_
 obtain ⟨A1,W0⟩:=AK z1 .d2
 exact x1 (c0 + 1,Z1,G0,v1) A1 (Tt R0 (Tt g1 (Tt G1 (Tt V0 W0)))) (AB K1 (Tt V0 W0)) h
 refine AX I ?_
 have h:=P1 _ h
 try dsimp only at h
 refine Af<|Ac (AH I (x0.memA .t2))<|AV [vI 0,vI 2,vI 0,d0] x0 .t3 (o4 I I I (St.o1 (α:=Tc) x0 .t1)) fun J2 J0 H1=>Aa<|Am I<|Au (u:=.agg #[vI 0,vI 2,vI 0,d0]) hb0 func15 I (.cons (.many (cs:=[vI 0,vI 2,vI 0,d0]) I I (J0.memA .t3)) .nil) I ?_
 obtain ⟨K0,I1⟩:=AK J0 (.a1 .done)
 cases h
 exact ⟨K0.ag,fun p q=>⟨d0,k0,I,K0.agree q,Cells.keep0 (AB b1 (Tt H1 I1)) q⟩⟩
 intro g2 I0 h
 try dsimp only at h
 refine AQ I h (fun u1 h=>?_) (fun u1 h=>?_)
 refine Ap<|Ac (AS (vs:=[vI 6,vI 2]) (u:=.agg #[vI 6,vI 2]) (e2 I I) (fun p=>by kernel_rfl))<|Ac (AS (vs:=[vI 4,vI 5]) (u:=.agg #[vI 4,vI 5]) (e2 I I) (fun p=>by kernel_rfl))<|Ac (AS (vs:=[vI 3,vI 3]) (u:=.agg #[vI 3,vI 3]) (e2 I I) (fun p=>by kernel_rfl))<|Al .plain I (AL (α:=Int × Int) (xs:=([((6:Int),(2:Int)),((4:Int),(5:Int)),((3:Int),(3:Int))]:List (Int × Int))) (vs:=[.agg #[vI 6,vI 2],.agg #[vI 4,vI 5],.agg #[vI 3,vI 3]]) (ds' :=[vI 6,vI 2,vI 4,vI 5,vI 3,vI 3]) I v0 el81 I (e3 I I I) (by kernel_rfl) I) fun K2 H0 A0 J1=>Ag I<|Aa ?_
 have M0:=BA A0 .hd
 exact I0 (([((6:Int),(2:Int)),((4:Int),(5:Int)),((3:Int),(3:Int))]:List (Int × Int)),(vS H0 3)) M0 (Tt J1 (BB A0 .hd)) (BC (α:=Int × Int) (v:=(vS H0 3)) (xs:=([((6:Int),(2:Int)),((4:Int),(5:Int)),((3:Int),(3:Int))]:List (Int × Int))) M0 L (Bg (α:=Int × Int) A0 .hd (AD (cs:=[vI 6,vI 2,vI 4,vI 5,vI 3,vI 3]) (xs:=(([((6:Int),(2:Int)),((4:Int),(5:Int)),((3:Int),(3:Int))]:List (Int × Int)):List (Int × Int))) A0 L (Av (cs:=[vI 6,vI 2]) (ds:=[vI 4,vI 5,vI 3,vI 3]) (cW (6:Int) (2:Int)) (Av (cs:=[vI 4,vI 5]) (ds:=[vI 3,vI 3]) (cW (4:Int) (5:Int)) (Av (cs:=[vI 3,vI 3]) (ds:=[]) (cW (3:Int) (3:Int)) (AJ _ _))))) hL)) h
 refine Ar<|I0 (a0,v0_0) v0 (Bx _ _) F0 h
def ct_l1 (_n:Nat) (a0:List Int) (d0:Int × Nat -> Oa Int):Int × Nat -> Oa Int
  | (c0,b0)=>(if b0 < a0.length then (a0[b0]?).bind fun g0=>d0 (max c0 g0,b0 + 1) else some c0)
def ct_p (n:Nat) (a0:List Int):Oa Int:=
  (if a0.length < 1 then none else (a0[0]?).bind fun x3=>Option.bind (aj (ct_l1 n a0) n (x3,1)) (fun b0=>some b0))
theorem ct_c (n:Nat) {L w} (_hL:hl L w) {a0:List Int} {v0_0:Vc} (h0_0:Rep.R w L [v0_0] a0)  {r:Int} (h:ct_p n a0 = some r) :
 Cl 88 #[v0_0] w (ae w fun _ u=>u = vI r):=by
 unfold ct_p at h
 have hS0:=AA w
 refine AF func88 I I I fun _ cs0 hb0=>Af<|Ag I<|Aa<|Aj<|Af<|Ae I ?_
 have hl1:=AU h0_0
 refine Ac (Ba (xs:=a0) underlying38 I h0_0)<|Ac (Bp (i:=a0.length) (j:=1) I I)<|Aa<|AQ I h (fun c2 h=>?_) (fun c2 h=>?_)
 refine Ap ?_
 cases h
 refine Ar<|Af<|Ae I<|bk h fun x3 hx3 h=>?_
 obtain ⟨A4,c5,he6,hk7,cs8,hr9,z0⟩:=Bh h0_0 hx3
 have t0:cs8 = [vI x3]:=hr9; subst t0
 refine Ac (Bb 1 0 I he6 I I hk7)<|AR I (z0 0 _ I)<|Ag I<|Aa<|Aj<|Af<|Ag I<|Aa<|Ax ?_
 obtain ⟨H0,B0,x0⟩:=aq h
 refine MX.lo (α:=Int × Nat) (fun ⟨c0,b0⟩=>[(0,v0_0),(3,vI c0),(4,vn b0)]) (fun ⟨c0,b0⟩=>[]) (fun ⟨c0,b0⟩=>(c0,b0)) (x3,1) B0 hS0 ?_
 rintro F0 ⟨c0,b0⟩ I0 q0 d0 s0 h
 unfold ct_l1 at h
 try dsimp only at h
 refine Aj<|Af<|Ae I<|Ae I ?_
 have j0:=AT h0_0 d0
 refine Ac (Ba (xs:=a0) underlying38 I j0)<|Ac (Bp (i:=b0) (j:=a0.length) I I)<|Aa<|AQ I h (fun k0 h=>?_) (fun k0 h=>?_)
 refine Ar<|Aj<|Ax<|Ap<|Ae I<|Ae I<|Ae I<|bk h fun g0 D0 h=>?_
 obtain ⟨E0,G0,u0,y0,p0,C0,A0⟩:=Bh j0 D0
 have v0:p0 = [vI g0]:=C0; subst v0
 refine Ac (Bb 1 b0 I u0 I I y0)<|AR I (A0 0 _ I)<|Ac (FV.max2 (i:=c0) (j:=g0) I I)<|Ag I<|Aa<|AC<|Ap<|Ae I<|Ac (Bl (i:=b0) (j:=1) I I (by omega))<|Ag I<|Aa<|q0 (max c0 g0,b0 + 1) d0 s0 h
 refine AX I ?_
 have h:=x0 _ h
 try dsimp only at h
 refine Af<|Ae I<|Ag I<|Aa<|Am I<|AW hb0 func88 I I ?_
 cases h
 exact d0.gv
def dE_l1 (_n:Nat) (a0:List Int) (y3:Int) (d0:Int × Nat -> Oa (Int ⊕ Int)):Int × Nat -> Oa (Int ⊕ Int)
  | (c0,b0)=>(if b0 < a0.length then (a0[b0]?).bind fun g0=>(if g0 = y3 then (if c0 < 0 then d0 (((b0:Nat):Int),b0 + 1) else some (.inl (-1:Int))) else d0 (c0,b0 + 1)) else some (.inr c0))
def dE_p (n:Nat) (a0:List Int):Oa Int:=
  (if a0.length = 0 then some (-1:Int) else (ct_p n a0).bind fun y3=>thn (aj (dE_l1 n a0 y3) n ((-1),0)) (fun b0=>some b0))
theorem dE_c (n:Nat) {L w} (hL:hl L w) {a0:List Int} {v0_0:Vc} (h0_0:Rep.R w L [v0_0] a0)  {r:Int} (h:dE_p n a0 = some r) :
 Cl 56 #[v0_0] w (ae w fun _ u=>u = vI r):=by
 unfold dE_p at h
 have hS0:=AA w
 refine AF func56 I I I fun _ cs0 hb0=>Af<|Ag I<|Aa<|Aj<|Af<|Ae I ?_
 have hl1:=AU h0_0
 refine Ac (Ba (xs:=a0) underlying38 I h0_0)<|Ac (BP (i:=a0.length) (j:=0) I I)<|Aa<|AQ I h (fun c2 h=>?_) (fun c2 h=>?_)
 refine Af<|Ag I<|Aa<|Am I<|AW hb0 func56 I I ?_
 cases h
 exact hS0.gv
 refine Ar<|Af<|Ae I<|bk h fun y3 hy3 h=>Bj (vI y3) (bd 88) I (e1 I) (fun p q=>ct_c n (hS0.hL0 hL q) (hS0.kd h0_0 q) hy3) I<|Ag I<|Ag I<|Aa<|Aj<|Af<|Ae I<|Ac (Ba (xs:=a0) underlying38 I h0_0)<|Ae I<|Aa<|Ax<|tn h fun G0 A0 q0=>MX.lo (α:=Int × Nat) (fun ⟨c0,b0⟩=>[(3,vI y3),(4,vI c0),(12,v0_0),(13,vn a0.length),(14,vn b0)]) (fun ⟨c0,b0⟩=>[]) (fun ⟨c0,b0⟩=>(c0,b0)) ((-1),0) A0 hS0 ?_
 rintro E0 ⟨c0,b0⟩ H0 k0 d0 p0 h
 unfold dE_l1 at h
 try dsimp only at h
 refine Af<|Ac (Bp (i:=b0) (j:=a0.length) I I)<|Aa<|Aj<|AQ I h (fun s0 h=>?_) (fun s0 h=>?_)
 refine Ar<|Aj<|Ax<|Af<|Ae I<|bk h fun g0 C0 h=>?_
 obtain ⟨D0,F0,v0,y0,u0,B0,z0⟩:=Bh (AT h0_0 d0) C0
 have x0:u0 = [vI g0]:=B0; subst x0
 refine Ac (Bb 1 b0 I v0 I I y0)<|AR I (z0 0 _ I)<|Ag I<|Ag I<|Aa<|Ax<|Af<|Ae I<|Ae I<|Ac (FV.eql (i:=g0) (j:=y3) I I)<|Ae I<|BD (s:=23) I h (fun j0 h=>?_) (fun j0 h=>?_)
 refine AG (Ai I)<|AG (BO (i:=c0) (j:=0) I I)<|Bn I I<|Ag I<|Aa<|AQ I h (fun t0 h=>?_) (fun t0 h=>?_)
 refine Ap<|Ae I<|Ag I<|Aa<|AC<|AC<|Ap<|Ac (Bl (i:=b0) (j:=1) I I (by omega))<|Ae I<|Aa<|k0 (((b0:Nat):Int),b0 + 1) d0 p0 h
 refine Af<|Ae I<|Ae I<|Ac (FV.eql (i:=g0) (j:=y3) I I)<|Ag I<|Aa<|MX.cond_kt I (decide_eq_true j0)<|Af<|Ag I<|Aa ?_
 have h:=au h q0
 refine Am I<|AW hb0 func56 I I ?_
 cases h
 exact d0.gv
 refine Aq<|Aq<|Bv I I<|Ag I<|Aa<|BF I<|Af<|Ae I<|Ae I<|Ac (FV.eql (i:=g0) (j:=y3) I I)<|Ag I<|Aa<|MX.cond_kf I (decide_eq_false j0)<|Ar<|AC<|AC<|Ap<|Ac (Bl (i:=b0) (j:=1) I I (by omega))<|Ae I<|Aa<|k0 (c0,b0 + 1) d0 p0 h
 refine AX I ?_
 have h:=aC h q0
 try dsimp only at h
 refine Af<|Ae I<|Ag I<|Aa<|Am I<|AW hb0 func56 I I ?_
 cases h
 exact d0.gv
def cC_l1 (n:Nat) (d0:List (List Int)) (g0:Nat × (List Int) -> Oa (List Int)):Nat × (List Int) -> Oa (List Int)
  | (b0,c0)=>(if b0 < d0.length then (d0[b0]?).bind fun j0=>(dE_p n j0).bind fun p0=>(app c0 ([p0]:List Int)).bind fun k0=>g0 (b0 + 1,k0) else some c0)
def cC_p (n:Nat) (a0:Te) (a1:List Int) (a2:Int):Oa (Except Tg (List Int)):=
  (cm_p n a0 a1 a2).bind fun y1=>exc y1 (fun d0=>(aw_p n d0).bind fun g0=>Option.bind (aj (cC_l1 n g0) n (0,([]:List Int))) (fun c0=>some (.ok c0))) (fun b0=>some (.error b0))
theorem cC_c (n:Nat) {L w} (hL:hl L w) (a0:Te) {v0_3:Vc} (h0_3:Rep.R w L [v0_3] a0.ft) {p0:Nat} (m0:∀ j9 v9,([vI a0.fh,vI a0.fc,vI a0.fj,v0_3]:List Vc)[j9]? = some v9 -> w.cell? ((⟨p0,0,none⟩:Addr).add j9) = some v9) {a1:List Int} {v1_0:Vc} (h1_0:Rep.R w L [v1_0] a1) {p1:Nat} (m1:∀ j9 v9,([v1_0]:List Vc)[j9]? = some v9 -> w.cell? ((⟨p1,0,none⟩:Addr).add j9) = some v9) {a2:Int} {p2:Nat} (m2:∀ j9 v9,([vI a2]:List Vc)[j9]? = some v9 -> w.cell? ((⟨p2,0,none⟩:Addr).add j9) = some v9)  {r:Except Tg (List Int)} (h:cC_p n a0 a1 a2 = some r) :
 Cl 53 #[.pointer (some ⟨p0,0,none⟩),.pointer (some ⟨p1,0,none⟩),.pointer (some ⟨p2,0,none⟩)] w (aL w (fun (y:List Int) w' u=>∃ v0_0:Vc,u = v0_0/\Rep.R w' L [v0_0] y) (fun e=>.iface 115 (.agg #[vI e.fA])) r):=by
 unfold cC_p at h
 have hS0:=AA w
 refine BZ func53 I I I fun _ cs0 hb0 hp0=>Af<|Ag I<|Aa<|Aj<|Af<|Ac (AH I (fun j9 v9 h9=>hS0.ag.cell0 (m0 j9 v9 h9)))<|AR I ((fun j9 v9 h9=>hS0.ag.cell0 (m1 j9 v9 h9)) 0 _ I)<|AR I ((fun j9 v9 h9=>hS0.ag.cell0 (m2 j9 v9 h9)) 0 _ I)<|xk h (fun F1 hy1 h=>?_) (fun z1 hy1 h=>?_)
 refine BE (fst:=[]) (cap:=[]) .plain (bd 54) I (e3 I I I) (fun p q=>cm_c n (hS0.hL hL q) a0 (Aw h0_3 q) (Aw h1_0 q) hy1) fun W1 M0=>?_
 obtain ⟨H0,G1⟩:=hS0.agr M0
 cases h
 exact Bo hp0 func53 ⟨H0.ag,I⟩
 refine jE (bd 54) I (e3 I I I) (fun p q=>Bm (cm_c n (hS0.hL hL q) a0 (Aw h0_3 q) (Aw h1_0 q) hy1)) I fun Z1 V1 P0 ⟨Q1,R1,hu_,g1,j1⟩=>?_
 subst hu_
 obtain ⟨v0,I1⟩:=hS0.agr P0
 refine bk h fun q0 u1 h=>jE (bd 55) I (e1 I) (fun p q=>aw_c n (v0.hL hL q) z1 (Aw g1 q) (Aw j1 q) u1) I fun b2 x1 Q0 ⟨U1,hu_,u0⟩=>?_
 subst hu_
 obtain ⟨x0,J1⟩:=v0.agr Q0
 have K1:=AU u0
 refine Ac (Ba (xs:=q0) underlying101 I u0)<|Ae I<|Aa<|Ax ?_
 have y0:=x0.nilRow 3 (Rep.size Int)
 obtain ⟨M1,Y0,V0⟩:=aq h
 refine MX.lf (α:=Nat × (List Int) × Vc × (List Vc)) (fun ⟨b0,d0,c0,j0⟩=>[(3,c0),(10,x1),(11,vn q0.length),(12,vn b0)]) (fun ⟨b0,d0,c0,j0⟩=>[rr w 3 Int c0 d0.length j0]) (fun ⟨b0,d0,c0,j0⟩ D0=>Cells D0 (bl [rr w 3 Int c0 d0.length j0] ++ L) j0 d0) (fun ⟨b0,d0,c0,j0⟩=>(b0,d0)) (0,([]:List Int),vN,[]) Y0 y0 (AD (cs:=[]) (xs:=([]:List Int)) y0 L (AJ _ _)) ?_
 rintro B1 ⟨b0,d0,c0,j0⟩ D0 G0 k0 z0 C0 h
 unfold cC_l1 at h
 try dsimp only at h
 refine Af<|Ac (Bp (i:=b0) (j:=q0.length) I I)<|Aa<|Aj<|AQ I h (fun E0 h=>?_) (fun E0 h=>?_)
 refine Ar<|Aj<|Ax<|Af<|bk h fun c2 k1 h=>?_
 obtain ⟨A1,D1,U0,W0,E1,Z0,X0⟩:=Bh (Ao u0 (Tt (BW x0 3 (Rep.size Int)) z0)) k1
 obtain ⟨P1,rfl,b1⟩:=bB Z0
 refine Ac (Bb 1 b0 I U0 I I W0)<|AR I (X0 0 _ I)<|Ag I<|Aa<|Ap<|Ae I<|Ae I<|bk h fun g0 s1 h=>Bj (vI g0) (bd 56) I (e1 I) (fun p q=>dE_c n (k0.hL0 hL q) (k0.kd b1 q) s1) I<|Al .plain I (jA g0 (vI g0) k0 ay (e1 I)) fun X1 C1 s0 A0=>bk h fun y1 q1 h=>RG.doesL .plain I (Bf (α:=Int) (ys:=([g0]:List Int)) q1 s0 (fun _ _=>.t1) ay I I (AB C0 A0) (Src.row (α:=Int) s0 .hd (jC g0 (vI g0) s0 L I))) fun v1 Y1 ⟨F0,I0,K0,R0⟩=>Ag I<|Aa<|AC<|Ap<|Ac (Bl (i:=b0) (j:=1) I I (by omega))<|Ae I<|Aa ?_
 obtain ⟨J0,B0⟩:=AK I0 .d1
 exact G0 (b0 + 1,y1,v1,F0) J0 (Tt z0 (Tt A0 (Tt K0 B0))) (AB R0 B0) h
 refine AX I ?_
 have h:=V0 _ h
 try dsimp only at h
 refine Af<|Ae I<|Ag I<|Aa<|Am I ?_
 have t0:=BA k0 .hd
 have H1:=BB k0 .hd
 have c1:=BC (α:=Int) (v:=c0) (xs:=d0) t0 L (Bg (α:=Int) k0 .hd C0 hL)
 refine AW hb0 func53 I I ?_
 cases h
 exact ⟨t0.ag,fun p q=>aE ⟨c0,I,t0.kd c1 q⟩⟩
def dH_p (n:Nat) (a0:Te) (a1:List Int) (a2:Int):Oa ((List Int) × Int):=
  (cC_p n a0 a1 a2).bind fun c0=>exc c0 (fun d0=>some (d0,(0:Int))) (fun b0=>some (([]:List Int),b0.fA))
theorem dH_c (n:Nat) {L w} (hL:hl L w) (a0:Te) {v0_3:Vc} (h0_3:Rep.R w L [v0_3] a0.ft) {a1:List Int} {v1_0:Vc} (h1_0:Rep.R w L [v1_0] a1) {a2:Int}  {r:(List Int) × Int} (h:dH_p n a0 a1 a2 = some r) :
 Cl 18 #[.agg #[vI a0.fh,vI a0.fc,vI a0.fj,v0_3],v1_0,vI a2] w (ae w fun w' u=>∃ v0_0:Vc,u = .tuple #[v0_0,vI r.2]/\Rep.R w' L [v0_0] r.1):=by
 unfold dH_p at h
 refine AF func18 I I I fun _ cs0 hb0=>Af<|RG.bx (AA w) I I fun M1 g0 D0 B1=>RG.bx D0 I (Rep.c1 (AT h1_0 D0)) fun V1 j0 M0 C1=>RG.bx M0 I I fun W1 k0 P0 D1=>Ag I<|Ag I<|Aa<|Af<|Ac (BX (vs:=[]) (us:=[vP g0,vP j0,vP k0]) ak (e3 I I I))<|BK (fst:=[]) (cap:=[]) (vs:=[.func (.func 53) #[] #[vP g0,vP j0,vP k0]]) .plain (bd 52) func52 I I I I (e1 I) I fun x1 E0 J1=>Af<|RG.nl [vN] P0 fun X1 p0 Q0 E1=>RG.nl [vI 0] Q0 fun Y1 d0 b0 F1=>Aa<|Af<|Ac (BX (vs:=[]) (us:=[vP p0,vP d0]) ak (e2 I I))<|RG.defer (fst:=[]) (cap:=[vP p0,vP d0]) (vs:=[]) I .plain I ak<|Aa<|Af<|Ae I<|xk h (fun s0 z0 h=>?_) (fun g2 z0 h=>?_)
 refine BE (fst:=[]) (cap:=[vP g0,vP j0,vP k0]) .plain (bd 53) I ak (fun p q=>cC_c n (b0.hL hL q) a0 (b0.km h0_3 q) (am q (b0.memA .t4)) (b0.km h1_0 q) (am q (b0.memA .t3)) (am q (b0.memA .t2)) z0) fun Z1 b1=>?_
 obtain ⟨R0,G1⟩:=b0.agr b1
 refine PN.callD (vs:=[]) (cap:=[vP p0,vP d0]) (bd 83) func83 I I I fun v1 g1 k1=>Af<|RG.recover1 .plain g1 I<|Ag I<|Aa<|Af<|Ae I<|Ac (FV.neqI underlying20 I I)<|Aa<|Bq I<|Af<|Ae I<|Ac (FV.assertT I I)<|Ae I<|Ac (Ak I I)<|Ac (Ak I I)<|RG.nl [vI 0] R0 fun b2 s1 U0 H1=>AV [vI s0.fA] U0 .hd (o1 I) fun c2 u0 I1=>Ag I<|Aa<|Aj<|Af<|Ae I<|Ac (Bu I)<|Aa<|BF I<|Ar<|Af<|Ag I<|Aa<|du 3 fun c0 A0=>Rv 0 c0 I A0 (fun _=>Ai I)<|Rv 1 c0 I A0 (fun _=>Bi 0 I)<|RD.mo (α:=Unit) (fun ()=>[(1,vP d0),(19,vI s0.fA)]) (fun ()=>[.cells d0 [vI 0] 49,.cells p0 [vN] 38,.cells k0 [vI a2] 3,.cells j0 [v1_0] 39,.cells g0 [vI a0.fh,vI a0.fc,vI a0.fj,v0_3] 37]) u0 1 15 ?_ ?_
 rintro ⟨⟩ d2 G0 y1
 try dsimp only
 refine BG 4 31 c0 I I .plain (AE (news:=[vI s0.fA]) G0 .hd I I I I I I (o1 I)) fun P1 q0 z1=>AN (dk c0)<|MX.fin I<|RT.leaveD1 k1 func83 I .nil<|Au (u:=.tuple #[vN,vI s0.fA]) E0 func52 I (.cons (.one I I ((q0.memA .t1) 0 _ I)) (.cons (.one I I ((q0.memA .hd) 0 _ I)) .nil)) I<|Ac (Ak I I)<|Ac (Ak I I)<|Ag I<|Ag I<|Aa<|Am I ?_
 have p1:=Rep.nilAt (α:=Int) q0 L
 refine Au hb0 func18 I (.cons (.tmp I) (.cons (.tmp I) .nil)) I ?_
 cases h
 exact ⟨q0.ag,fun p q=>⟨vN,I,q0.kd p1 q⟩⟩
 intro C0
 refine Bz [2,3] (rk c0) ⟨?_,?_,trivial⟩
 refine RO.val (m' :=7) (sk c0) I .plain I (AP I ((u0.memA .hd) 0 _ I))<|BG 3 15 c0 I I .plain (AE (news:=[vN]) u0 .t2 I I I I I I (o1 I)) fun q1 v0 x0=>?_
 obtain ⟨H0,V0⟩:=AK v0 .d1
 exact C0 () H0 (Tt x0 V0)
 refine RO.now (m' :=11) (sk c0) I I .plain (AE (news:=[vN]) u0 .t2 I I I I I I (o1 I)) fun q1 v0 x0=>Rx 2 16 c0 I A0 (AP I ((v0.memA .hd) 0 _ I)) ?_
 obtain ⟨I0,W0⟩:=AK v0 .d1
 exact C0 () I0 (Tt x0 W0)
 refine Bc (fst:=[]) (cap:=[vP g0,vP j0,vP k0]) .plain (bd 53) I ak (fun p q=>Bm (cC_c n (b0.hL hL q) a0 (b0.km h0_3 q) (am q (b0.memA .t4)) (b0.km h1_0 q) (am q (b0.memA .t3)) (am q (b0.memA .t2)) z0)) I fun Q1 B0 Z0 ⟨K1,hu_,y0⟩=>?_
 subst hu_
 obtain ⟨J0,A1⟩:=b0.agr Z0
 refine RG.now .plain (AE (news:=[B0]) J0 .t1 I I I (Rep.c1 y0) I I (o1 (AY y0))) fun R1 K0 X0=>AV [vI 0] K0 .hd (o1 I) fun U1 t0 Y0=>Aa<|Am I<|RT.callD (vs:=[]) (cap:=[vP p0,vP d0]) (bd 83) func83 I I I fun u1 F0 j1=>Af<|RG.recover0 .plain F0 I<|Ag I<|Aa<|Af<|Ae I<|Ac (FV.neqI0 underlying20 I I)<|Aa<|BF I<|Ar<|MX.fin I<|RT.leaveD0 F0 j1 func83 I .nil<|Au (u:=.tuple #[B0,vI 0]) E0 func52 I (.cons (.one I I ((t0.memA .t1) 0 _ I)) (.cons (.one I I ((t0.memA .hd) 0 _ I)) .nil)) I<|Ac (Ak I I)<|Ac (Ak I I)<|Ag I<|Ag I<|Aa<|Am I<|Au hb0 func18 I (.cons (.tmp I) (.cons (.tmp I) .nil)) I ?_
 cases h
 exact ⟨t0.ag,fun p q=>⟨B0,I,t0.kd (Ao y0 (Tt X0 Y0)) q⟩⟩
def dJ_l1 (_n:Nat) (k0:(List Int) × Int) (j0:Int × Nat × (List Int) -> Oa ((List Int) × Int)):Int × Nat × (List Int) -> Oa ((List Int) × Int)
  | (g0,b0,c0)=>(if b0 < k0.1.length then (k0.1[b0]?).bind fun d0=>(if d0 < 0 then (chk (g0 + 1)).bind fun p0=>j0 (p0,b0 + 1,c0) else (idx c0 d0).bind fun s0=>(chk (s0 + 1)).bind fun q0=>(put c0 ((d0.toNat:Nat):Int) q0).bind fun t0=>j0 (g0,b0 + 1,t0)) else some (c0,g0))
def dJ_p (n:Nat) (a0:Te) (a1:List Int) (a2:Int):Oa ((List Int) × Int × Int):=
  (dH_p n a0 a1 a2).bind fun b0=>(if b0.2 = 0 then (mk a0.fc (0:Int)).bind fun d0=>Option.bind (aj (dJ_l1 n b0) n (0,0,d0)) (fun (c0,g0)=>some (c0,g0,(0:Int))) else some (([]:List Int),(0:Int),b0.2))
theorem dJ_c (n:Nat) {L w} (hL:hl L w) (a0:Te) {v0_3:Vc} (h0_3:Rep.R w L [v0_3] a0.ft) {a1:List Int} {v1_0:Vc} (h1_0:Rep.R w L [v1_0] a1) {a2:Int}  {r:(List Int) × Int × Int} (h:dJ_p n a0 a1 a2 = some r) :
 Cl 16 #[.agg #[vI a0.fh,vI a0.fc,vI a0.fj,v0_3],v1_0,vI a2] w (ae w fun w' u=>∃ v0_0:Vc,u = .tuple #[v0_0,vI r.2.1,vI r.2.2]/\Rep.R w' L [v0_0] r.1):=by
 unfold dJ_p at h
 refine AF func16 I I I fun _ cs0 hb0=>Af<|RG.bx (AA w) I I fun g2 Q1 p0 W1=>Ag I<|Ag I<|Ag I<|Aa<|Af<|Ac (AH I (p0.memA .hd))<|Ae I<|Ae I<|bk h fun t0 H1 h=>jE (bd 18) I (e3 I I I) (fun p q=>dH_c n (p0.hL hL q) a0 (p0.km h0_3 q) (p0.km h1_0 q) H1) I fun j2 d2 d1 ⟨J1,hu_,H0⟩=>?_
 subst hu_
 obtain ⟨q0,Y1⟩:=p0.agr d1
 refine Ae I<|Ac (Ak I I)<|Ac (Ak I I)<|Ag I<|Ag I<|Aa<|Aj<|Af<|Ae I<|Ac (FV.neq (i:=t0.2) (j:=0) I I)<|Aa<|MX.ifn I h (fun V0 h=>?_) (fun V0 h=>?_)
 refine Ar<|Af<|Bd 1 I<|AR I ((q0.memA .hd) 1 _ I)<|bk h fun M0 I0 h=>Al .plain I (Does.mk (α:=Int) I0 q0 ay I) fun p2 k0 B0 D0=>Ag I<|Aa<|Aj<|Af<|Ae I ?_
 have G0:=Ao H0 D0
 have Z1:=AU G0
 refine Ac (Ba (xs:=t0.1) underlying38 I G0)<|Ae I<|Aa<|Ax ?_
 obtain ⟨Z0,C0⟩:=AK B0 (.a0 .done)
 obtain ⟨b2,v1,q1⟩:=aq h
 refine MX.lf (α:=Int × Nat × (List Int) × (List Vc)) (fun ⟨g0,b0,c0,d0⟩=>[(6,(.slice (some ⟨k0,0,none⟩) a0.fc.toNat a0.fc.toNat)),(7,vI g0),(25,J1),(26,vn t0.1.length),(27,vn b0)]) (fun ⟨g0,b0,c0,d0⟩=>[rr w 3 Int (.slice (some ⟨k0,0,none⟩) a0.fc.toNat a0.fc.toNat) c0.length d0]) (fun ⟨g0,b0,c0,d0⟩ J0=>Cells J0 (bl [rr w 3 Int (.slice (some ⟨k0,0,none⟩) a0.fc.toNat a0.fc.toNat) c0.length d0] ++ L) d0 c0) (fun ⟨g0,b0,c0,d0⟩=>(g0,b0,c0)) (0,0,M0,(List.replicate a0.fc.toNat [vI 0]).flatten) v1 Z0 (AB (AD (cs:=(List.replicate a0.fc.toNat [vI 0]).flatten) (xs:=M0) B0 L (BY I0 I)) C0) ?_
 rintro P1 ⟨g0,b0,c0,d0⟩ J0 A0 j0 y0 u0 h
 unfold dJ_l1 at h
 try dsimp only at h
 refine Af<|Ac (Bp (i:=b0) (j:=t0.1.length) I I)<|Aa<|Aj<|AQ I h (fun R0 h=>?_) (fun R0 h=>?_)
 refine Ar<|Aj<|Ax<|Af<|bk h fun s0 D1 h=>?_
 obtain ⟨M1,R1,j1,s1,W0,x1,t1⟩:=Bh (Ao H0 (Tt D0 (Tt C0 y0))) D1
 have k1:W0 = [vI s0]:=x1; subst k1
 refine Ac (Bb 1 b0 I j1 I I s1)<|AR I (t1 0 _ I)<|Ag I<|Aa<|Aj<|Af<|Ae I<|Ac (BO (i:=s0) (j:=0) I I)<|Aa<|AQ I h (fun U0 h=>?_) (fun U0 h=>?_)
 refine Af<|Ae I<|bk h fun I1 B1 h=>Ac (Bw (i:=g0) (j:=1) I I B1)<|Ag I<|Aa<|AX I<|Ap<|Ac (Bl (i:=b0) (j:=1) I I (by omega))<|Ae I<|Aa<|A0 (I1,b0 + 1,c0,d0) j0 y0 u0 h
 refine Ar<|Ap<|Ae I<|Ae I<|bk h fun K0 E1 h=>?_
 obtain ⟨F0,F1⟩:=aA E1
 obtain ⟨P0,U1,v0,z0,X0,y1,u1⟩:=BU (α:=Int) j0 .hd u0 F1
 obtain ⟨Q0,V1,E0⟩:=By (α:=Int) j0 .hd z0
 obtain rfl:P0 = ⟨Q0,0,none⟩:=by rw [E0] at v0; cases v0; rfl
 have p1:X0 = [vI K0]:=y1; subst p1
 refine Ac (Bb 1 (s0.toNat) I v0 I F0 z0)<|AR I (u1 0 _ I)<|bk h fun c2 C1 h=>Ac (Bw (i:=K0) (j:=1) I I C1)<|Ac (Bb 1 (s0.toNat) I v0 I F0 z0)<|bk h fun K1 G1 h=>RG.acts' .plain (Cb (α:=Int) (i:=s0.toNat) G1 j0 E0 (fun _=>.hd) u0 I I I I I I) fun k2 ⟨Y0,b1,c1,g1⟩=>Aa<|AC<|Ap<|Ac (Bl (i:=b0) (j:=1) I I (by omega))<|Ae I<|Aa<|A0 (g0,b0 + 1,K1,Y0) b1 (Tt y0 c1) g1 h
 refine AX I ?_
 have h:=q1 _ h
 try dsimp only at h
 refine Af<|Ae I<|Ae I<|Ag I<|Ag I<|Ag I<|Aa<|Am I ?_
 have x0:=BA j0 .hd
 have X1:=BB j0 .hd
 have z1:=BC (α:=Int) (v:=(.slice (some ⟨k0,0,none⟩) a0.fc.toNat a0.fc.toNat)) (xs:=c0) x0 L (Bg (α:=Int) j0 .hd u0 hL)
 refine Au hb0 func16 I (.cons (.tmp I) (.cons (.tmp I) (.cons (.tmp I) .nil))) I ?_
 cases h
 exact ⟨x0.ag,fun p q=>⟨(.slice (some ⟨k0,0,none⟩) a0.fc.toNat a0.fc.toNat),I,x0.kd z1 q⟩⟩
 refine Af<|Ae I<|Ag I<|Ag I<|Ag I<|Aa<|Am I ?_
 have A1:=Rep.nilAt (α:=Int) q0 L
 refine Au hb0 func16 I (.cons (.tmp I) (.cons (.tmp I) (.cons (.tmp I) .nil))) I ?_
 cases h
 exact ⟨q0.ag,fun p q=>⟨vN,I,q0.kd A1 q⟩⟩
def bB_l1 (_n:Nat) (a0:List Int) (a1:List Int) (b0:Nat -> Oa (Bool ⊕ Unit)):Nat -> Oa (Bool ⊕ Unit)
  | i32=>(if i32 < a0.length then (a0[i32]?).bind fun c0=>(a1[i32]?).bind fun d0=>(if c0 = d0 then b0 (i32 + 1) else some (.inl false)) else some (.inr ()))
def bB_p (n:Nat) (a0:List Int) (a1:List Int):Oa Bool:=
  (if a0.length = a1.length then thn (aj (bB_l1 n a0 a1) n 0) (fun _=>some true) else some false)
theorem bB_c (n:Nat) {L w} (_hL:hl L w) {a0:List Int} {v0_0:Vc} (h0_0:Rep.R w L [v0_0] a0) {a1:List Int} {v1_0:Vc} (h1_0:Rep.R w L [v1_0] a1)  {r:Bool} (h:bB_p n a0 a1 = some r) :
 Cl 19 #[v0_0,v1_0] w (ae w fun _ u=>u = .bool r):=by
 unfold bB_p at h
 have hS0:=AA w
 refine AF func19 I I I fun _ cs0 hb0=>Af<|Ag I<|Aa<|Aj<|Af<|Ae I ?_
 have hl1:=AU h0_0
 refine Ac (Ba (xs:=a0) underlying38 I h0_0)<|Ae I ?_
 have hl2:=AU h1_0
 refine Ac (Ba (xs:=a1) underlying38 I h1_0)<|Ac (FV.neqN (i:=a0.length) (j:=a1.length) I I)<|Aa<|MX.ifn I h (fun c3 h=>?_) (fun c3 h=>?_)
 refine Ar<|Aj<|Af<|Ae I<|Ac (Ba (xs:=a0) underlying38 I h0_0)<|Ae I<|Aa<|Ax<|tn h fun U0 F0 g0=>MX.lo (α:=Nat) (fun i32=>[(0,v0_0),(1,v1_0),(12,vn a0.length),(13,vn i32)]) (fun i32=>[]) (fun i32=>i32) 0 F0 hS0 ?_
 rintro P0 i32 V0 u0 d0 v0 h
 unfold bB_l1 at h
 try dsimp only at h
 refine Af<|Ac (Bp (i:=i32) (j:=a0.length) I I)<|Aa<|Aj<|AQ I h (fun p0 h=>?_) (fun p0 h=>?_)
 refine Ar<|Aj<|Ax<|Af<|Ae I<|Ag I<|Aa<|Aj<|du 9 fun b0 c0=>Rv 0 b0 I c0 (fun _=>Ai I)<|Rv 1 b0 I c0 (fun _=>Ai I)<|bk h fun j0 I0 h=>?_
 obtain ⟨K0,Q0,x0,B0,s0,G0,D0⟩:=Bh (AT h0_0 d0) I0
 have y0:s0 = [vI j0]:=G0; subst y0
 refine Rv 2 b0 I c0 (fun _=>Bb 1 i32 I x0 I I B0)<|Rx 3 256 b0 I c0 (AP I (D0 0 _ I))<|Rv 4 b0 I c0 (fun _=>Ai I)<|Rv 5 b0 I c0 (fun _=>Ai I)<|bk h fun k0 J0 h=>?_
 obtain ⟨M0,R0,z0,C0,t0,H0,E0⟩:=Bh (AT h1_0 d0) J0
 have A0:t0 = [vI k0]:=H0; subst A0
 refine Rv 6 b0 I c0 (fun _=>Bb 1 i32 I z0 I I C0)<|Rx 7 256 b0 I c0 (AP I (E0 0 _ I))<|Rv 8 b0 I c0 (fun _=>FV.neq (i:=j0) (j:=k0) I I)<|AN (dk b0)<|MX.ifn I h (fun q0 h=>?_) (fun q0 h=>?_)
 refine Ar<|AC<|Ap<|Ac (Bl (i:=i32) (j:=1) I I (by omega))<|Ae I<|Aa<|u0 (i32 + 1) d0 v0 h
 refine Af<|Ag I<|Aa ?_
 have h:=au h g0
 refine Am I<|AW hb0 func19 I I ?_
 cases h
 exact d0.gv
 refine AX I ?_
 have h:=aC h g0
 try dsimp only at h
 refine Af<|Ag I<|Aa<|Am I<|AW hb0 func19 I I ?_
 cases h
 exact d0.gv
 refine Af<|Ag I<|Aa<|Am I<|AW hb0 func19 I I ?_
 cases h
 exact hS0.gv
def cV_p (n:Nat) (a0:List Int) (a1:Int) (a2:List Int):Oa Bool:=
  (bB_p n a0 a2).bind fun y1=>(if y1 = true then some (decide (a1 = 0)) else some false)
theorem cV_c (n:Nat) {L w} (hL:hl L w) {a0:List Int} {v0_0:Vc} (h0_0:Rep.R w L [v0_0] a0) {a1:Int} {a2:List Int} {v2_0:Vc} (h2_0:Rep.R w L [v2_0] a2) {p2:Nat} (m2:∀ j9 v9,([v2_0]:List Vc)[j9]? = some v9 -> w.cell? ((⟨p2,0,none⟩:Addr).add j9) = some v9)  {r:Bool} (h:cV_p n a0 a1 a2 = some r) :
 Cl 51 #[v0_0,vI a1,.pointer (some ⟨p2,0,none⟩)] w (ae w fun _ u=>u = .bool r):=by
 unfold cV_p at h
 have hS0:=AA w
 refine AF func51 I I I fun _ cs0 hb0=>Af<|Ag I<|Aa<|Af<|Ae I<|AR I ((fun j9 v9 h9=>hS0.ag.cell0 (m2 j9 v9 h9)) 0 _ I)<|bk h fun y1 hy1 h=>Bj (.bool y1) (bd 19) I (e2 I I) (fun p q=>bB_c n (hS0.hL0 hL q) (hS0.kd h0_0 q) (hS0.kd h2_0 q) hy1) I<|Ae I<|RG.ifb (s:=9) I h (fun c2 h=>?_) (fun c2 h=>?_)
 refine AG (Ai I)<|AG (FV.eql (i:=a1) (j:=0) I I)<|Bn I I<|Ag I<|Aa<|Am I<|AW hb0 func51 I I ?_
 cases h
 exact hS0.gv
 refine Aq<|Aq<|Bv I I<|Ag I<|Aa<|Am I<|AW hb0 func51 I I ?_
 cases h
 exact hS0.gv
theorem dX_c (_n:Nat) {L w} (_hL:hl L w) (a0:List Int) {v0_0:Vc} (h0_0:Rep.R w L [v0_0] a0)  :
 Cl 17 #[v0_0] w (ae w fun w' u=>∃ b0:Nat,u = .func (.func 51) #[] #[vP b0]/\St w w' [.cells b0 [v0_0] 38]):=by
 refine AF func17 I I I fun _ cs0 hb0=>Af<|RG.bx (AA w) I (Rep.c1 h0_0) fun g0 b0 c0 d0=>Ag I<|Aa<|Af<|Ac (BX (vs:=[]) (us:=[vP b0]) ak (e1 I))<|Ag I<|Aa<|Am I<|Au (u:=.func (.func 51) #[] #[vP b0]) hb0 func17 I (.cons (.tmp I) .nil) I<|⟨c0.ag,fun p q=>⟨b0,I,c0.agree q⟩⟩
def bV_p (n:Nat) (a0:Int) (a1:Int):Oa Ta:=
  (dO_p n a0 a1).bind fun b0=>some b0.1
theorem bV_c (n:Nat) {L w} (hL:hl L w) {a0:Int} {a1:Int}  {r:Ta} (h:bV_p n a0 a1 = some r) :
 Cl 21 #[vI a0,vI a1] w (ae w fun _ u=>u = .agg ((ab r)).toArray):=by
 unfold bV_p at h
 refine AF func21 I I I fun _ cs0 hb0=>Af<|RG.nl zL (AA w) fun x0 p0 c0 s0=>Aa<|Af<|Ae I<|Ae I<|bk h fun b0 k0 h=>Bj (.tuple #[.agg ((ab b0.1)).toArray,vI b0.2]) (bd 58) I (e2 I I) (fun p q=>dO_c n (c0.hL0 hL q)  k0) I<|Ae I<|Ac (Ak I I)<|Ac (Ak I I)<|RG.nl zL c0 fun y0 q0 j0 t0=>AV (ab b0.1) j0 .hd (ai I) fun z0 d0 u0=>Ag I<|Aa<|Af<|Ac (AH I (d0.memA .hd))<|AV (ab b0.1) d0 .t1 (ai I) fun A0 g0 v0=>Aa<|Am I<|Au hb0 func21 I (.cons (.many (cs:=(ab b0.1)) I I (g0.memA .t1)) .nil) I ?_
 cases h
 exact g0.gv
def ca_p (n:Nat) (a0:Ta) (a1:Int) (a2:Int) (a3:Int):Oa Bool:=
  (bV_p n a2 a3).bind fun b0=>(if a0 = b0 then some (decide (a1 = 0)) else some false)
theorem ca_c (n:Nat) {L w} (hL:hl L w) (a0:Ta) {a1:Int} {a2:Int} {p2:Nat} (m2:∀ j9 v9,([vI a2]:List Vc)[j9]? = some v9 -> w.cell? ((⟨p2,0,none⟩:Addr).add j9) = some v9) {a3:Int} {p3:Nat} (m3:∀ j9 v9,([vI a3]:List Vc)[j9]? = some v9 -> w.cell? ((⟨p3,0,none⟩:Addr).add j9) = some v9)  {r:Bool} (h:ca_p n a0 a1 a2 a3 = some r) :
 Cl 57 #[.agg ((ab a0)).toArray,vI a1,.pointer (some ⟨p2,0,none⟩),.pointer (some ⟨p3,0,none⟩)] w (ae w fun _ u=>u = .bool r):=by
 unfold ca_p at h
 refine AF func57 I I I fun _ cs0 hb0=>Af<|RG.bx (AA w) I I fun s0 p0 d0 q0=>Ag I<|Aa<|Aj<|du 10 fun b0 c0=>Rx 0 1008 b0 I c0 (AH I (d0.memA .hd))<|Rx 1 1016 b0 I c0 (AP I ((fun j9 v9 h9=>d0.ag.cell0 (m2 j9 v9 h9)) 0 _ I))<|Rx 2 1016 b0 I c0 (AP I ((fun j9 v9 h9=>d0.ag.cell0 (m3 j9 v9 h9)) 0 _ I))<|bk h fun g0 k0 h=>BV 3 15 1008 (.agg ((ab g0)).toArray) b0 I c0 (bd 21) I (e2 I I) (fun p q=>bV_c n (d0.hL0 hL q)  k0) I<|Rv 4 b0 I c0 (fun _=>FV.eqlV (v:=.agg ((ab a0)).toArray) (u:=.agg ((ab g0)).toArray) I I (dC a0 g0))<|Rv 5 b0 I c0 (fun _=>Ai I)<|RD.ifd (s:=12) I h (fun j0 h=>?_) (fun j0 h=>?_)
 refine BJ 6 127 b0 I c0 (.yes I I) (fun _=>Ai I) I<|BJ 7 255 b0 I c0 (.yes I I) (fun _=>FV.eql (i:=a1) (j:=0) I I) I<|Rv 8 b0 I c0 (fun _=>BN I I)<|Rv 9 b0 I c0 (fun _=>Be I)<|AN (dk b0)<|Am I<|AW hb0 func57 I I ?_
 cases h
 exact d0.gv
 refine Br 255 2 [(6,13),(7,14)] (F:=[(12,false)]) (U:=[]) b0 c0 (.cons I .nil) .nil ?_
 dsimp only [aF,List.map]
 refine Rv 8 b0 I c0 (fun _=>AZ I I)<|Rv 9 b0 I c0 (fun _=>Be I)<|AN (dk b0)<|Am I<|AW hb0 func57 I I ?_
 cases h
 exact d0.gv
theorem dW_c (_n:Nat) {L w} (_hL:hl L w) (a0:Int) (a1:Int)  :
 Cl 20 #[vI a0,vI a1] w (ae w fun w' u=>∃ b0 c0:Nat,u = .func (.func 57) #[] #[vP b0,vP c0]/\St w w' [.cells b0 [vI a0] 3,.cells c0 [vI a1] 3]):=by
 refine AF func20 I I I fun _ cs0 hb0=>Af<|RG.bx (AA w) I I fun t0 b0 j0 p0=>RG.bx j0 I I fun u0 c0 k0 q0=>Ag I<|Aa<|Af<|Ac (BX (vs:=[]) (us:=[vP b0,vP c0]) ak (e2 I I))<|Ag I<|Aa<|Am I<|Au (u:=.func (.func 57) #[] #[vP b0,vP c0]) hb0 func20 I (.cons (.tmp I) .nil) I ?_
 obtain ⟨g0,s0⟩:=AK k0 (.a1 .d0)
 exact ⟨g0.ag,fun p q=>⟨b0,c0,I,g0.agree q⟩⟩

theorem jK:ElT Tryz.prog 39 3 (Rep.size Int) 8 (vI 0) [vI 0]:=⟨underlying39,by kernel_rfl,rfl,rfl,rfl,rfl⟩
def cR_p (n:Nat):Oa Bool:=
  (bO_p n ([]:List (Int × Int))).bind fun y1=>(dJ_p n y1 ([(0:Int),(1:Int),(2:Int)]:List Int) (3:Int)).bind fun b0=>(cK_p n y1 ([(0:Int),(1:Int),(2:Int)]:List Int) (3:Int) (0:Int) (1:Int)).bind fun k0=>(cQ_p n y1 ([(0:Int),(1:Int),(2:Int)]:List Int) (3:Int) (0:Int) (0:Int)).bind fun A0=>(cQ_p n y1 ([(0:Int),(1:Int),(2:Int)]:List Int) (3:Int) (0:Int) (2:Int)).bind fun B0=>(dH_p n y1 ([(0:Int),(1:Int),(2:Int)]:List Int) (3:Int)).bind fun c0=>(cV_p n c0.1 c0.2 ([(0:Int),(1:Int),(-1:Int)]:List Int)).bind fun p0=>(if p0 = true then (bB_p n b0.1 ([(1:Int),(1:Int)]:List Int)).bind fun q0=>(if q0 = true then (if b0.2.1 = 1 then (if b0.2.2 = 0 then (cQ_p n y1 ([(0:Int),(1:Int),(2:Int)]:List Int) (3:Int) (0:Int) (1:Int)).bind fun d0=>(ca_p n d0.1 d0.2 (7:Int) (46:Int)).bind fun s0=>(if s0 = true then (cJ_p n y1 ([(0:Int),(1:Int),(2:Int)]:List Int) (3:Int) (0:Int) (1:Int)).bind fun g0=>(ca_p n g0.1 g0.2 (7:Int) (108:Int)).bind fun t0=>(if t0 = true then (if k0.2 = 0 then (bV_p n (-1:Int) (4:Int)).bind fun u0=>(bV_p n (0:Int) (1:Int)).bind fun v0=>(bV_p n (1:Int) (18:Int)).bind fun x0=>(ai_p n k0.1 ([(⟨u0,(1:Int),(1:Int)⟩:Td),(⟨v0,(2:Int),(1:Int)⟩:Td),(⟨x0,(3:Int),(1:Int)⟩:Td)]:List Td)).bind fun y0=>(if y0 = true then (dA_p n y1 ([(0:Int),(1:Int),(2:Int)]:List Int) (3:Int) (0:Int) (1:Int)).bind fun j0=>(ca_p n j0.1 j0.2 (-1:Int) (6:Int)).bind fun z0=>(if z0 = true then (if A0.2 = 2 then some (decide (B0.2 = 2)) else some false) else some false) else some false) else some false) else some false) else some false) else some false) else some false) else some false) else some false)
theorem cR_c (n:Nat) {L w} (hL:hl L w)  {r:Bool} (h:cR_p n = some r) :
 Cl 4 #[] w (ae w fun _ u=>u = .bool r):=by
 unfold cR_p at h
 have hS0:=AA w
 refine AF func4 I I I fun _ cs0 hb0=>Af<|Ag I<|Aa<|Af<|bk h fun y1 hy1 h=>jE (bd 15) I (e1 I) (fun p q=>dK (b0:=w.heap.size) (bO_c n (hS0.hL hL q) (Aw (Rep.nilAt (α:=Int × Int) hS0 L) q) hy1) q (Nat.le_trans hS0.ag.size q.size)) I fun w3 vu4 hag5 ⟨Z1,y2,hu7,s6,F2⟩=>?_
 subst hu7
 have hS8:=eF hS0 s6
 have hT9:=iM hS0 s6
 refine Al .plain I (AL (α:=Int) (xs:=([(0:Int),(1:Int),(2:Int)]:List Int)) (vs:=[vI 0,vI 1,vI 2]) (ds' :=[vI 0,vI 1,vI 2]) I hS8 jK I (e3 I I I) (by kernel_rfl) I) fun k4 c2 E1 B2=>RG.nl [vI 0,vI 0,vI 0,vN] E1 fun q4 H3 F1 I1=>AV [vI y1.fh,vI y1.fc,vI y1.fj,Z1] F1 .hd (o4 I I I (St.o1 (α:=Tc) F1 .t2)) fun s4 P0 J1=>Ag I<|Aa<|Af<|Ac (AH I (P0.memA .hd))<|Ae I ?_
 have Q0:=BA P0 .t2
 have v0:=BC (α:=Tc) (v:=Z1) (xs:=y1.ft) Q0 L (Bg (α:=Tc) P0 .t2 (AB (AD (cs:=y2) (xs:=(y1.ft:List Tc)) hS8 L (dB F2)) (Tt B2 (Tt I1 J1))) hL)
 have k1:=BA Q0 .t1
 have u1:=BB Q0 .t1
 have x0:=BC (α:=Int) (v:=(vS c2 3)) (xs:=([(0:Int),(1:Int),(2:Int)]:List Int)) k1 L (Bg (α:=Int) Q0 .t1 (AB (AD (cs:=[vI 0,vI 1,vI 2]) (xs:=(([(0:Int),(1:Int),(2:Int)]:List Int):List Int)) E1 L (Av (cs:=[vI 0]) (ds:=[vI 1,vI 2]) I (Av (cs:=[vI 1]) (ds:=[vI 2]) I (Av (cs:=[vI 2]) (ds:=[]) I (AJ _ _))))) (Tt I1 (Tt J1 (BB P0 .t2)))) hL)
 refine bk h fun b2 k3 h=>jE (bd 16) I (e3 I I I) (fun p q=>dJ_c n (k1.hL hL q) y1 (Aw (Ao v0 u1) q) (Aw x0 q) k3) I fun u4 c4 D2 ⟨U3,hu_,H2⟩=>?_
 subst hu_
 obtain ⟨p1,E0⟩:=k1.agr D2
 refine Ae I<|Ac (Ak I I)<|Ac (Ak I I)<|Ac (Ak I I)<|Ag I<|Ag I<|Ag I<|Aa<|Af<|Ac (AH I (p1.memA .hd))<|Ae I<|bk h fun E3 p3 h=>jE (bd 10) I (e5 I I I I I) (fun p q=>cK_c n (p1.hL hL q) y1 (Aw (Ao v0 (Tt u1 E0)) q) (Aw (Ao x0 E0) q) p3) I fun v4 d4 E2 ⟨V3,hu_,I2⟩=>?_
 subst hu_
 obtain ⟨z0,W0⟩:=p1.agr E2
 refine Ae I<|Ac (Ak I I)<|Ac (Ak I I)<|Ag I<|Ag I<|Aa<|Af<|Ac (AH I (z0.memA .hd))<|Ae I<|bk h fun g1 q3 h=>?_
 have P1:=Tt u1 (Tt E0 W0)
 refine Bj (.tuple #[.agg ((ab g1.1)).toArray,vI g1.2]) (bd 6) I (e5 I I I I I) (fun p q=>cQ_c n (z0.hL0 hL q) y1 (z0.kd (Ao v0 P1) q) (z0.kd (Ao x0 (Tt E0 W0)) q) q3) I<|Ae I<|Ac (Ak I I)<|Ac (Ak I I)<|RG.nl zL z0 fun x4 I3 z2 X0=>AV (ab g1.1) z2 .hd (ai I) fun y4 A0 Y0=>Ag I<|Aa<|Af<|Ac (AH I (A0.memA .t1))<|Ae I<|bk h fun j1 s3 h=>?_
 have Q1:=Tt P1 (Tt X0 Y0)
 have R1:=Tt E0 (Tt W0 (Tt X0 Y0))
 refine Bj (.tuple #[.agg ((ab j1.1)).toArray,vI j1.2]) (bd 6) I (e5 I I I I I) (fun p q=>cQ_c n (A0.hL0 hL q) y1 (A0.kd (Ao v0 Q1) q) (A0.kd (Ao x0 R1) q) s3) I<|Ae I<|Ac (Ak I I)<|Ac (Ak I I)<|RG.nl zL A0 fun z4 J3 A2 Z0=>AV (ab j1.1) A2 .hd (ai I) fun A4 G1 b1=>Ag I<|Aa<|Aj<|du 72 fun c0 d0=>Rx 2 4722366482869645213680 c0 I d0 (AH I (G1.memA .t2))<|Rv 3 c0 I d0 (fun _=>Ai I)<|BS 0 13 c0 I .plain I (AL (α:=Int) (xs:=([(0:Int),(1:Int),(-1:Int)]:List Int)) (vs:=[vI 0,vI 1,vI (-1)]) (ds' :=[vI 0,vI 1,vI (-1)]) I G1 ay I (e3 I I I) (by kernel_rfl) I) fun x3 C1 R0 c1=>?_
 have U0:=BA R0 .hd
 have d1:=BB R0 .hd
 have U1:=BC (α:=Int) (v:=(vS C1 3)) (xs:=([(0:Int),(1:Int),(-1:Int)]:List Int)) U0 L (Bg (α:=Int) R0 .hd (AD (cs:=[vI 0,vI 1,vI (-1)]) (xs:=(([(0:Int),(1:Int),(-1:Int)]:List Int):List Int)) R0 L (Av (cs:=[vI 0]) (ds:=[vI 1,vI (-1)]) I (Av (cs:=[vI 1]) (ds:=[vI (-1)]) I (Av (cs:=[vI (-1)]) (ds:=[]) I (AJ _ _))))) hL)
 refine Bs 1 15 c0 I .plain (bd 17) I (e1 I) (fun p q=>Calls.gives (dX_c n (U0.hL hL q) ([(0:Int),(1:Int),(-1:Int)]:List Int) (Aw U1 q)) fun (w8:World) (u8:Vc) ⟨b0_,hu_,s_⟩=>(⟨b0_,hu_,s_.from q⟩:∃ M0:Nat,u8 = Value.func (.func 51) #[] #[vP M0]/\St x3 w8 [.cells M0 [(vS C1 3)] 38])) I fun B4 W3 K3 ⟨M0,J2,V1⟩=>?_
 subst J2
 have D1:=gr U0 V1
 have B0:=lj U0 V1
 refine bk h fun C4 Q2 h=>?_
 have K1:=Tt Q1 (Tt Z0 (Tt b1 (Tt c1 (Tt d1 B0))))
 have M1:=Tt R1 (Tt Z0 (Tt b1 (Tt c1 (Tt d1 B0))))
 refine Bs 4 31 c0 I .plain (bd 18) I (e3 I I I) (fun p q=>dH_c n (D1.hL hL q) y1 (Aw (Ao v0 K1) q) (Aw (Ao x0 M1) q) Q2) I fun g4 X3 C2 ⟨R3,hu_,G2⟩=>?_
 subst hu_
 obtain ⟨y0,C0⟩:=D1.agr C2
 refine Rv 5 c0 I d0 (fun _=>Ak I I)<|Rv 6 c0 I d0 (fun _=>Ak I I)<|bk h fun y3 R2 h=>RD.callq (i:=7) (m' :=255) (W:=4722366482869645213440) (tk c0) I d0 (v:=.bool y3) (fst:=[]) (cap:=[vP M0]) .plain (bd 51) I (e2 I I) (fun p q=>cV_c n (y0.hL0 hL q) (y0.kd G2 q) (y0.kd (Ao U1 (Tt B0 C0)) q) (am q (y0.memA .hd)) R2) I<|Rv 8 c0 I d0 (fun _=>Ai I)<|RD.ifb (s:=47) I h (fun d2 h=>?_) (fun d2 h=>?_)
 refine BJ 9 1023 c0 I d0 (.yes I I) (fun _=>Ai I) I<|BS 10 2047 c0 I (.yes I I) I (AL (α:=Int) (xs:=([(1:Int),(1:Int)]:List Int)) (vs:=[vI 1,vI 1]) (ds' :=[vI 1,vI 1]) I y0 ay I (e2 I I) (by kernel_rfl) I) fun t3 F3 k0 V0=>bk h fun z3 U2 h=>RD.callq (i:=11) (m' :=4095) (W:=4722366482869645209600) (tk c0) I d0 (v:=.bool z3) (fst:=[]) (cap:=[]) (.yes I I) (bd 19) I (e2 I I) (fun p q=>bB_c n (k0.hL0 hL q) (k0.kd (Ao H2 (Tt W0 (Tt X0 (Tt Y0 (Tt Z0 (Tt b1 (Tt c1 (Tt d1 (Tt B0 (Tt C0 V0)))))))))) q) (Aw (St.lend (α:=Int) (L:=L) k0 .hd (AD (cs:=[vI 1,vI 1]) (xs:=(([(1:Int),(1:Int)]:List Int):List Int)) k0 L (Av (cs:=[vI 1]) (ds:=[vI 1]) I (Av (cs:=[vI 1]) (ds:=[]) I (AJ _ _)))) hL) q) U2) I<|Rv 12 c0 I d0 (fun _=>BN I I)<|Rv 13 c0 I d0 (fun _=>Ai I)<|RD.ifb (s:=52) I h (fun g2 h=>?_) (fun g2 h=>?_)
 refine BJ 14 32767 c0 I d0 (.yes I I) (fun _=>Ai I) I<|BJ 15 65535 c0 I d0 (.yes I I) (fun _=>FV.eql (i:=b2.2.1) (j:=1) I I) I<|Rv 16 c0 I d0 (fun _=>BN I I)<|Rv 17 c0 I d0 (fun _=>Ai I)<|RD.ifd (s:=56) I h (fun j2 h=>?_) (fun j2 h=>?_)
 refine BJ 18 524287 c0 I d0 (.yes I I) (fun _=>Ai I) I<|BJ 19 1048575 c0 I d0 (.yes I I) (fun _=>FV.eql (i:=b2.2.2) (j:=0) I I) I<|Rv 20 c0 I d0 (fun _=>BN I I)<|Rv 21 c0 I d0 (fun _=>Ai I)<|RD.ifd (s:=60) I h (fun k2 h=>?_) (fun k2 h=>?_)
 refine RD.val (i:=23) (m' :=12582911) (W:=4722366482869611659264) (tk c0) I d0 (.yes I I) (AH I (k0.memA .t4)) I<|BJ 24 29360127 c0 I d0 (.yes I I) (fun _=>Ai I) I<|Bs 22 33554431 c0 I (.yes I I) (bd 20) I (e2 I I) (fun p q=>Calls.gives (dW_c n (k0.hL hL q) (7:Int) (46:Int)) fun (w8:World) (u8:Vc) ⟨b0_,b1_,hu_,s_⟩=>(⟨b0_,b1_,hu_,s_.from q⟩:∃ F0 G0:Nat,u8 = Value.func (.func 57) #[] #[vP F0,vP G0]/\St t3 w8 [.cells F0 [vI 7] 3,.cells G0 [vI 46] 3])) I fun u3 Y3 M3 ⟨F0,G0,K2,W1⟩=>?_
 subst K2
 have p0:=gP k0 W1
 have q1:=kW k0 W1
 refine bk h fun z1 V2 h=>?_
 have v1:=Tt K1 (Tt C0 (Tt V0 q1))
 have x1:=Tt M1 (Tt C0 (Tt V0 q1))
 refine RD.callq (i:=25) (m' :=67108863) (W:=4722366482869578104832) (tk c0) I d0 (v:=.tuple #[.agg ((ab z1.1)).toArray,vI z1.2]) (fst:=[]) (cap:=[]) (.yes I I) (bd 6) I (e5 I I I I I) (fun p q=>cQ_c n (p0.hL0 hL q) y1 (p0.kd (Ao v0 v1) q) (p0.kd (Ao x0 x1) q) V2) I<|BJ 26 134217727 c0 I d0 (.yes I I) (fun _=>Ak I I) I<|BJ 27 268435455 c0 I d0 (.yes I I) (fun _=>Ak I I) I<|bk h fun A3 W2 h=>RD.callq (i:=28) (m' :=536870911) (W:=4722366482869108342784) (tk c0) I d0 (v:=.bool A3) (fst:=[]) (cap:=[vP F0,vP G0]) (.yes I I) (bd 57) I (e2 I I) (fun p q=>ca_c n (p0.hL0 hL q) z1.1 (am q (p0.memA .hd)) (am q (p0.memA .t1)) W2) I<|Rv 29 c0 I d0 (fun _=>BN I I)<|Rv 30 c0 I d0 (fun _=>Ai I)<|RD.ifb (s:=69) I h (fun p2 h=>?_) (fun p2 h=>?_)
 refine RD.val (i:=32) (m' :=6442450943) (W:=4722366482852465344512) (tk c0) I d0 (.yes I I) (AH I (p0.memA .t6)) I<|BJ 33 15032385535 c0 I d0 (.yes I I) (fun _=>Ai I) I<|Bs 31 17179869183 c0 I (.yes I I) (bd 20) I (e2 I I) (fun p q=>Calls.gives (dW_c n (p0.hL hL q) (7:Int) (108:Int)) fun (w8:World) (u8:Vc) ⟨b0_,b1_,hu_,s_⟩=>(⟨b0_,b1_,hu_,s_.from q⟩:∃ H0 I0:Nat,u8 = Value.func (.func 57) #[] #[vP H0,vP I0]/\St u3 w8 [.cells H0 [vI 7] 3,.cells I0 [vI 108] 3])) I fun j4 Z3 P3 ⟨H0,I0,M2,X1⟩=>?_
 subst M2
 have g0:=gP p0 X1
 have D0:=kW p0 X1
 refine bk h fun A1 X2 h=>RD.callq (i:=34) (m' :=34359738367) (W:=4722366482835285475328) (tk c0) I d0 (v:=.tuple #[.agg ((ab A1.1)).toArray,vI A1.2]) (fst:=[]) (cap:=[]) (.yes I I) (bd 8) I (e5 I I I I I) (fun p q=>cJ_c n (g0.hL0 hL q) y1 (g0.kd (Ao v0 (Tt v1 D0)) q) (g0.kd (Ao x0 (Tt x1 D0)) q) X2) I<|BJ 35 68719476735 c0 I d0 (.yes I I) (fun _=>Ak I I) I<|BJ 36 137438953471 c0 I d0 (.yes I I) (fun _=>Ak I I) I<|bk h fun B3 Y2 h=>RD.callq (i:=37) (m' :=274877906943) (W:=4722366482594767306752) (tk c0) I d0 (v:=.bool B3) (fst:=[]) (cap:=[vP H0,vP I0]) (.yes I I) (bd 57) I (e2 I I) (fun p q=>ca_c n (g0.hL0 hL q) A1.1 (am q (g0.memA .hd)) (am q (g0.memA .t1)) Y2) I<|Rv 38 c0 I d0 (fun _=>BN I I)<|Rv 39 c0 I d0 (fun _=>Ai I)<|RD.ifb (s:=78) I h (fun q2 h=>?_) (fun q2 h=>?_)
 refine BJ 40 2199023255551 c0 I d0 (.yes I I) (fun _=>Ai I) I<|BJ 41 4398046511103 c0 I d0 (.yes I I) (fun _=>FV.eql (i:=E3.2) (j:=0) I I) I<|Rv 42 c0 I d0 (fun _=>BN I I)<|Rv 43 c0 I d0 (fun _=>Ai I)<|RD.ifd (s:=82) I h (fun s2 h=>?_) (fun s2 h=>?_)
 refine BJ 44 35184372088831 c0 I d0 (.yes I I) (fun _=>Ai I) I<|bk h fun s0 Z2 h=>RD.callq (i:=45) (m' :=70368744177663) (W:=4722366412500901036032) (tk c0) I d0 (v:=.agg ((ab s0)).toArray) (fst:=[]) (cap:=[]) (.yes I I) (bd 21) I (e2 I I) (fun p q=>bV_c n (g0.hL0 hL q)  Z2) I<|BJ 46 140737488355327 c0 I d0 (.yes I I) (fun _=>AS (vs:=[.agg ((ab s0)).toArray,vI 1,vI 1]) (u:=.agg ((ab s0 ++ ([vI 1,vI 1]:List Vc))).toArray) (e3 I I I) (fun p=>by kernel_rfl)) I<|bk h fun q0 b3 h=>RD.callq (i:=47) (m' :=281474976710655) (W:=4722366201394668503040) (tk c0) I d0 (v:=.agg ((ab q0)).toArray) (fst:=[]) (cap:=[]) (.yes I I) (bd 21) I (e2 I I) (fun p q=>bV_c n (g0.hL0 hL q)  b3) I<|BJ 48 562949953421311 c0 I d0 (.yes I I) (fun _=>AS (vs:=[.agg ((ab q0)).toArray,vI 2,vI 1]) (u:=.agg ((ab q0 ++ ([vI 2,vI 1]:List Vc))).toArray) (e3 I I I) (fun p=>by kernel_rfl)) I<|bk h fun j0 c3 h=>RD.callq (i:=49) (m' :=1125899906842623) (W:=4722365356969738371072) (tk c0) I d0 (v:=.agg ((ab j0)).toArray) (fst:=[]) (cap:=[]) (.yes I I) (bd 21) I (e2 I I) (fun p q=>bV_c n (g0.hL0 hL q)  c3) I<|BJ 50 2251799813685247 c0 I d0 (.yes I I) (fun _=>AS (vs:=[.agg ((ab j0)).toArray,vI 3,vI 1]) (u:=.agg ((ab j0 ++ ([vI 3,vI 1]:List Vc))).toArray) (e3 I I I) (fun p=>by kernel_rfl)) I<|BS 51 4503599627370495 c0 I (.yes I I) I (AL (α:=Td) (xs:=([(⟨s0,(1:Int),(1:Int)⟩:Td),(⟨q0,(2:Int),(1:Int)⟩:Td),(⟨j0,(3:Int),(1:Int)⟩:Td)]:List Td)) (vs:=[.agg ((ab s0 ++ ([vI 1,vI 1]:List Vc))).toArray,.agg ((ab q0 ++ ([vI 2,vI 1]:List Vc))).toArray,.agg ((ab j0 ++ ([vI 3,vI 1]:List Vc))).toArray]) (ds' :=(ab s0 ++ ([vI 1,vI 1]:List Vc) ++ ab q0 ++ ([vI 2,vI 1]:List Vc) ++ ab j0 ++ ([vI 3,vI 1]:List Vc))) I g0 iZ I (e3 I I I) (by kernel_rfl) I) fun v3 G3 t0 s1=>bk h fun C3 d3 h=>RD.callq (i:=52) (m' :=9007199254740991) (W:=4722357475670390472704) (tk c0) I d0 (v:=.bool C3) (fst:=[]) (cap:=[]) (.yes I I) (bd 14) I (e2 I I) (fun p q=>ai_c n (t0.hL0 hL q) (t0.kd (Ao I2 (Tt X0 (Tt Y0 (Tt Z0 (Tt b1 (Tt c1 (Tt d1 (Tt B0 (Tt C0 (Tt V0 (Tt q1 (Tt D0 s1)))))))))))) q) (Aw (St.lend (α:=Td) (L:=L) t0 .hd (AD (cs:=(ab s0 ++ ([vI 1,vI 1]:List Vc) ++ ab q0 ++ ([vI 2,vI 1]:List Vc) ++ ab j0 ++ ([vI 3,vI 1]:List Vc))) (xs:=(([(⟨s0,(1:Int),(1:Int)⟩:Td),(⟨q0,(2:Int),(1:Int)⟩:Td),(⟨j0,(3:Int),(1:Int)⟩:Td)]:List Td):List Td)) t0 L (Av (cs:=(ab s0 ++ ([vI 1,vI 1]:List Vc))) (ds:=(ab q0 ++ ([vI 2,vI 1]:List Vc) ++ ab j0 ++ ([vI 3,vI 1]:List Vc))) (cS s0 (1:Int) (1:Int)) (Av (cs:=(ab q0 ++ ([vI 2,vI 1]:List Vc))) (ds:=(ab j0 ++ ([vI 3,vI 1]:List Vc))) (cS q0 (2:Int) (1:Int)) (Av (cs:=(ab j0 ++ ([vI 3,vI 1]:List Vc))) (ds:=[]) (cS j0 (3:Int) (1:Int)) (AJ _ _))))) hL) q) d3) I<|Rv 53 c0 I d0 (fun _=>BN I I)<|Rv 54 c0 I d0 (fun _=>Ai I)<|RD.ifb (s:=93) I h (fun u2 h=>?_) (fun u2 h=>?_)
 refine RD.val (i:=56) (m' :=108086391056891903) (W:=4722078252493493501952) (tk c0) I d0 (.yes I I) (AH I (t0.memA .t9)) I<|BJ 57 252201579132747775 c0 I d0 (.yes I I) (fun _=>Ai I) I<|Bs 55 288230376151711743 c0 I (.yes I I) (bd 20) I (e2 I I) (fun p q=>Calls.gives (dW_c n (t0.hL hL q) (-1:Int) (6:Int)) fun (w8:World) (u8:Vc) ⟨b0_,b1_,hu_,s_⟩=>(⟨b0_,b1_,hu_,s_.from q⟩:∃ J0 K0:Nat,u8 = Value.func (.func 57) #[] #[vP J0,vP K0]/\St v3 w8 [.cells J0 [vI (-1)] 3,.cells K0 [vI 6] 3])) I fun p4 b4 Q3 ⟨J0,K0,P2,Y1⟩=>?_
 subst P2
 have u0:=gP t0 Y1
 have H1:=kW t0 Y1
 refine bk h fun B1 g3 h=>RD.callq (i:=58) (m' :=576460752303423487) (W:=4721790022117341790208) (tk c0) I d0 (v:=.tuple #[.agg ((ab B1.1)).toArray,vI B1.2]) (fst:=[]) (cap:=[]) (.yes I I) (bd 12) I (e5 I I I I I) (fun p q=>dA_c n (u0.hL0 hL q) y1 (u0.kd (Ao v0 (Tt v1 (Tt D0 (Tt s1 H1)))) q) (u0.kd (Ao x0 (Tt x1 (Tt D0 (Tt s1 H1)))) q) g3) I<|BJ 59 1152921504606846975 c0 I d0 (.yes I I) (fun _=>Ak I I) I<|BJ 60 2305843009213693951 c0 I d0 (.yes I I) (fun _=>Ak I I) I<|bk h fun D3 j3 h=>RD.callq (i:=61) (m' :=4611686018427387903) (W:=4717754796851217825792) (tk c0) I d0 (v:=.bool D3) (fst:=[]) (cap:=[vP J0,vP K0]) (.yes I I) (bd 57) I (e2 I I) (fun p q=>ca_c n (u0.hL0 hL q) B1.1 (am q (u0.memA .hd)) (am q (u0.memA .t1)) j3) I<|Rv 62 c0 I d0 (fun _=>BN I I)<|Rv 63 c0 I d0 (fun _=>Ai I)<|RD.ifb (s:=102) I h (fun v2 h=>?_) (fun v2 h=>?_)
 refine BJ 64 36893488147419103231 c0 I d0 (.yes I I) (fun _=>Ai I) I<|BJ 65 73786976294838206463 c0 I d0 (.yes I I) (fun _=>FV.eql (i:=g1.2) (j:=2) I I) I<|Rv 66 c0 I d0 (fun _=>BN I I)<|Rv 67 c0 I d0 (fun _=>Ai I)<|RD.ifd (s:=106) I h (fun x2 h=>?_) (fun x2 h=>?_)
 refine BJ 68 590295810358705651711 c0 I d0 (.yes I I) (fun _=>Ai I) I<|BJ 69 1180591620717411303423 c0 I d0 (.yes I I) (fun _=>FV.eql (i:=j1.2) (j:=2) I I) I<|Rv 70 c0 I d0 (fun _=>BN I I)<|Rv 71 c0 I d0 (fun _=>Be I)<|AN (dk c0)<|Am I<|AW hb0 func4 I I ?_
 cases h
 exact u0.gv
 refine Br 1180591620717411303423 2 [(68,107),(69,108)] (F:=[(106,false)]) (U:=[]) c0 d0 (.cons I .nil) .nil ?_
 dsimp only [aF,List.map]
 refine Rv 70 c0 I d0 (fun _=>AZ I I)<|Rv 71 c0 I d0 (fun _=>Be I)<|AN (dk c0)<|Am I<|AW hb0 func4 I I ?_
 cases h
 exact u0.gv
 refine Br 73786976294838206463 6 [(64,103),(65,104)] (F:=[(102,false)]) (U:=[]) c0 d0 (.cons I .nil) .nil ?_
 dsimp only [aF,List.map]
 refine Rv 66 c0 I d0 (fun _=>AZ I I)<|Rv 67 c0 I d0 (fun _=>Ai I)<|Br 1180591620717411303423 2 [(68,107),(69,108)] (F:=[(106,false)]) (U:=[]) c0 d0 (.cons I .nil) .nil ?_
 dsimp only [aF,List.map]
 refine Rv 70 c0 I d0 (fun _=>AZ I I)<|Rv 71 c0 I d0 (fun _=>Be I)<|AN (dk c0)<|Am I<|AW hb0 func4 I I ?_
 cases h
 exact u0.gv
 refine Br 4611686018427387903 10 [(55,94),(56,95),(57,96),(58,97),(59,98),(60,99),(61,100)] (F:=[(93,false)]) (U:=[]) c0 d0 (.cons I .nil) .nil ?_
 dsimp only [aF,List.map]
 refine Rv 62 c0 I d0 (fun _=>AZ I I)<|Rv 63 c0 I d0 (fun _=>Ai I)<|Br 73786976294838206463 6 [(64,103),(65,104)] (F:=[(102,false)]) (U:=[]) c0 d0 (.cons I .nil) .nil ?_
 dsimp only [aF,List.map]
 refine Rv 66 c0 I d0 (fun _=>AZ I I)<|Rv 67 c0 I d0 (fun _=>Ai I)<|Br 1180591620717411303423 2 [(68,107),(69,108)] (F:=[(106,false)]) (U:=[]) c0 d0 (.cons I .nil) .nil ?_
 dsimp only [aF,List.map]
 refine Rv 70 c0 I d0 (fun _=>AZ I I)<|Rv 71 c0 I d0 (fun _=>Be I)<|AN (dk c0)<|Am I<|AW hb0 func4 I I ?_
 cases h
 exact t0.gv
 refine Br 9007199254740991 19 [(44,83),(45,84),(46,85),(47,86),(48,87),(49,88),(50,89),(51,90),(52,91)] (F:=[(82,false)]) (U:=[]) c0 d0 (.cons I .nil) .nil ?_
 dsimp only [aF,List.map]
 refine Rv 53 c0 I d0 (fun _=>AZ I I)<|Rv 54 c0 I d0 (fun _=>Ai I)<|Br 4611686018427387903 10 [(55,94),(56,95),(57,96),(58,97),(59,98),(60,99),(61,100)] (F:=[(93,false)]) (U:=[]) c0 d0 (.cons I .nil) .nil ?_
 dsimp only [aF,List.map]
 refine Rv 62 c0 I d0 (fun _=>AZ I I)<|Rv 63 c0 I d0 (fun _=>Ai I)<|Br 73786976294838206463 6 [(64,103),(65,104)] (F:=[(102,false)]) (U:=[]) c0 d0 (.cons I .nil) .nil ?_
 dsimp only [aF,List.map]
 refine Rv 66 c0 I d0 (fun _=>AZ I I)<|Rv 67 c0 I d0 (fun _=>Ai I)<|Br 1180591620717411303423 2 [(68,107),(69,108)] (F:=[(106,false)]) (U:=[]) c0 d0 (.cons I .nil) .nil ?_
 dsimp only [aF,List.map]
 refine Rv 70 c0 I d0 (fun _=>AZ I I)<|Rv 71 c0 I d0 (fun _=>Be I)<|AN (dk c0)<|Am I<|AW hb0 func4 I I ?_
 cases h
 exact g0.gv
 refine Br 4398046511103 30 [(40,79),(41,80)] (F:=[(78,false)]) (U:=[]) c0 d0 (.cons I .nil) .nil ?_
 dsimp only [aF,List.map]
 refine Rv 42 c0 I d0 (fun _=>AZ I I)<|Rv 43 c0 I d0 (fun _=>Ai I)<|Br 9007199254740991 19 [(44,83),(45,84),(46,85),(47,86),(48,87),(49,88),(50,89),(51,90),(52,91)] (F:=[(82,false)]) (U:=[]) c0 d0 (.cons I .nil) .nil ?_
 dsimp only [aF,List.map]
 refine Rv 53 c0 I d0 (fun _=>AZ I I)<|Rv 54 c0 I d0 (fun _=>Ai I)<|Br 4611686018427387903 10 [(55,94),(56,95),(57,96),(58,97),(59,98),(60,99),(61,100)] (F:=[(93,false)]) (U:=[]) c0 d0 (.cons I .nil) .nil ?_
 dsimp only [aF,List.map]
 refine Rv 62 c0 I d0 (fun _=>AZ I I)<|Rv 63 c0 I d0 (fun _=>Ai I)<|Br 73786976294838206463 6 [(64,103),(65,104)] (F:=[(102,false)]) (U:=[]) c0 d0 (.cons I .nil) .nil ?_
 dsimp only [aF,List.map]
 refine Rv 66 c0 I d0 (fun _=>AZ I I)<|Rv 67 c0 I d0 (fun _=>Ai I)<|Br 1180591620717411303423 2 [(68,107),(69,108)] (F:=[(106,false)]) (U:=[]) c0 d0 (.cons I .nil) .nil ?_
 dsimp only [aF,List.map]
 refine Rv 70 c0 I d0 (fun _=>AZ I I)<|Rv 71 c0 I d0 (fun _=>Be I)<|AN (dk c0)<|Am I<|AW hb0 func4 I I ?_
 cases h
 exact g0.gv
 refine Br 274877906943 34 [(31,70),(32,71),(33,72),(34,73),(35,74),(36,75),(37,76)] (F:=[(69,false)]) (U:=[]) c0 d0 (.cons I .nil) .nil ?_
 dsimp only [aF,List.map]
 refine Rv 38 c0 I d0 (fun _=>AZ I I)<|Rv 39 c0 I d0 (fun _=>Ai I)<|Br 4398046511103 30 [(40,79),(41,80)] (F:=[(78,false)]) (U:=[]) c0 d0 (.cons I .nil) .nil ?_
 dsimp only [aF,List.map]
 refine Rv 42 c0 I d0 (fun _=>AZ I I)<|Rv 43 c0 I d0 (fun _=>Ai I)<|Br 9007199254740991 19 [(44,83),(45,84),(46,85),(47,86),(48,87),(49,88),(50,89),(51,90),(52,91)] (F:=[(82,false)]) (U:=[]) c0 d0 (.cons I .nil) .nil ?_
 dsimp only [aF,List.map]
 refine Rv 53 c0 I d0 (fun _=>AZ I I)<|Rv 54 c0 I d0 (fun _=>Ai I)<|Br 4611686018427387903 10 [(55,94),(56,95),(57,96),(58,97),(59,98),(60,99),(61,100)] (F:=[(93,false)]) (U:=[]) c0 d0 (.cons I .nil) .nil ?_
 dsimp only [aF,List.map]
 refine Rv 62 c0 I d0 (fun _=>AZ I I)<|Rv 63 c0 I d0 (fun _=>Ai I)<|Br 73786976294838206463 6 [(64,103),(65,104)] (F:=[(102,false)]) (U:=[]) c0 d0 (.cons I .nil) .nil ?_
 dsimp only [aF,List.map]
 refine Rv 66 c0 I d0 (fun _=>AZ I I)<|Rv 67 c0 I d0 (fun _=>Ai I)<|Br 1180591620717411303423 2 [(68,107),(69,108)] (F:=[(106,false)]) (U:=[]) c0 d0 (.cons I .nil) .nil ?_
 dsimp only [aF,List.map]
 refine Rv 70 c0 I d0 (fun _=>AZ I I)<|Rv 71 c0 I d0 (fun _=>Be I)<|AN (dk c0)<|Am I<|AW hb0 func4 I I ?_
 cases h
 exact p0.gv
 refine Br 536870911 43 [(22,61),(23,62),(24,63),(25,64),(26,65),(27,66),(28,67)] (F:=[(60,false)]) (U:=[]) c0 d0 (.cons I .nil) .nil ?_
 dsimp only [aF,List.map]
 refine Rv 29 c0 I d0 (fun _=>AZ I I)<|Rv 30 c0 I d0 (fun _=>Ai I)<|Br 274877906943 34 [(31,70),(32,71),(33,72),(34,73),(35,74),(36,75),(37,76)] (F:=[(69,false)]) (U:=[]) c0 d0 (.cons I .nil) .nil ?_
 dsimp only [aF,List.map]
 refine Rv 38 c0 I d0 (fun _=>AZ I I)<|Rv 39 c0 I d0 (fun _=>Ai I)<|Br 4398046511103 30 [(40,79),(41,80)] (F:=[(78,false)]) (U:=[]) c0 d0 (.cons I .nil) .nil ?_
 dsimp only [aF,List.map]
 refine Rv 42 c0 I d0 (fun _=>AZ I I)<|Rv 43 c0 I d0 (fun _=>Ai I)<|Br 9007199254740991 19 [(44,83),(45,84),(46,85),(47,86),(48,87),(49,88),(50,89),(51,90),(52,91)] (F:=[(82,false)]) (U:=[]) c0 d0 (.cons I .nil) .nil ?_
 dsimp only [aF,List.map]
 refine Rv 53 c0 I d0 (fun _=>AZ I I)<|Rv 54 c0 I d0 (fun _=>Ai I)<|Br 4611686018427387903 10 [(55,94),(56,95),(57,96),(58,97),(59,98),(60,99),(61,100)] (F:=[(93,false)]) (U:=[]) c0 d0 (.cons I .nil) .nil ?_
 dsimp only [aF,List.map]
 refine Rv 62 c0 I d0 (fun _=>AZ I I)<|Rv 63 c0 I d0 (fun _=>Ai I)<|Br 73786976294838206463 6 [(64,103),(65,104)] (F:=[(102,false)]) (U:=[]) c0 d0 (.cons I .nil) .nil ?_
 dsimp only [aF,List.map]
 refine Rv 66 c0 I d0 (fun _=>AZ I I)<|Rv 67 c0 I d0 (fun _=>Ai I)<|Br 1180591620717411303423 2 [(68,107),(69,108)] (F:=[(106,false)]) (U:=[]) c0 d0 (.cons I .nil) .nil ?_
 dsimp only [aF,List.map]
 refine Rv 70 c0 I d0 (fun _=>AZ I I)<|Rv 71 c0 I d0 (fun _=>Be I)<|AN (dk c0)<|Am I<|AW hb0 func4 I I ?_
 cases h
 exact k0.gv
 refine Br 1048575 52 [(18,57),(19,58)] (F:=[(56,false)]) (U:=[]) c0 d0 (.cons I .nil) .nil ?_
 dsimp only [aF,List.map]
 refine Rv 20 c0 I d0 (fun _=>AZ I I)<|Rv 21 c0 I d0 (fun _=>Ai I)<|Br 536870911 43 [(22,61),(23,62),(24,63),(25,64),(26,65),(27,66),(28,67)] (F:=[(60,false)]) (U:=[]) c0 d0 (.cons I .nil) .nil ?_
 dsimp only [aF,List.map]
 refine Rv 29 c0 I d0 (fun _=>AZ I I)<|Rv 30 c0 I d0 (fun _=>Ai I)<|Br 274877906943 34 [(31,70),(32,71),(33,72),(34,73),(35,74),(36,75),(37,76)] (F:=[(69,false)]) (U:=[]) c0 d0 (.cons I .nil) .nil ?_
 dsimp only [aF,List.map]
 refine Rv 38 c0 I d0 (fun _=>AZ I I)<|Rv 39 c0 I d0 (fun _=>Ai I)<|Br 4398046511103 30 [(40,79),(41,80)] (F:=[(78,false)]) (U:=[]) c0 d0 (.cons I .nil) .nil ?_
 dsimp only [aF,List.map]
 refine Rv 42 c0 I d0 (fun _=>AZ I I)<|Rv 43 c0 I d0 (fun _=>Ai I)<|Br 9007199254740991 19 [(44,83),(45,84),(46,85),(47,86),(48,87),(49,88),(50,89),(51,90),(52,91)] (F:=[(82,false)]) (U:=[]) c0 d0 (.cons I .nil) .nil ?_
 dsimp only [aF,List.map]
 refine Rv 53 c0 I d0 (fun _=>AZ I I)<|Rv 54 c0 I d0 (fun _=>Ai I)<|Br 4611686018427387903 10 [(55,94),(56,95),(57,96),(58,97),(59,98),(60,99),(61,100)] (F:=[(93,false)]) (U:=[]) c0 d0 (.cons I .nil) .nil ?_
 dsimp only [aF,List.map]
 refine Rv 62 c0 I d0 (fun _=>AZ I I)<|Rv 63 c0 I d0 (fun _=>Ai I)<|Br 73786976294838206463 6 [(64,103),(65,104)] (F:=[(102,false)]) (U:=[]) c0 d0 (.cons I .nil) .nil ?_
 dsimp only [aF,List.map]
 refine Rv 66 c0 I d0 (fun _=>AZ I I)<|Rv 67 c0 I d0 (fun _=>Ai I)<|Br 1180591620717411303423 2 [(68,107),(69,108)] (F:=[(106,false)]) (U:=[]) c0 d0 (.cons I .nil) .nil ?_
 dsimp only [aF,List.map]
 refine Rv 70 c0 I d0 (fun _=>AZ I I)<|Rv 71 c0 I d0 (fun _=>Be I)<|AN (dk c0)<|Am I<|AW hb0 func4 I I ?_
 cases h
 exact k0.gv
 refine Br 65535 56 [(14,53),(15,54)] (F:=[(52,false)]) (U:=[]) c0 d0 (.cons I .nil) .nil ?_
 dsimp only [aF,List.map]
 refine Rv 16 c0 I d0 (fun _=>AZ I I)<|Rv 17 c0 I d0 (fun _=>Ai I)<|Br 1048575 52 [(18,57),(19,58)] (F:=[(56,false)]) (U:=[]) c0 d0 (.cons I .nil) .nil ?_
 dsimp only [aF,List.map]
 refine Rv 20 c0 I d0 (fun _=>AZ I I)<|Rv 21 c0 I d0 (fun _=>Ai I)<|Br 536870911 43 [(22,61),(23,62),(24,63),(25,64),(26,65),(27,66),(28,67)] (F:=[(60,false)]) (U:=[]) c0 d0 (.cons I .nil) .nil ?_
 dsimp only [aF,List.map]
 refine Rv 29 c0 I d0 (fun _=>AZ I I)<|Rv 30 c0 I d0 (fun _=>Ai I)<|Br 274877906943 34 [(31,70),(32,71),(33,72),(34,73),(35,74),(36,75),(37,76)] (F:=[(69,false)]) (U:=[]) c0 d0 (.cons I .nil) .nil ?_
 dsimp only [aF,List.map]
 refine Rv 38 c0 I d0 (fun _=>AZ I I)<|Rv 39 c0 I d0 (fun _=>Ai I)<|Br 4398046511103 30 [(40,79),(41,80)] (F:=[(78,false)]) (U:=[]) c0 d0 (.cons I .nil) .nil ?_
 dsimp only [aF,List.map]
 refine Rv 42 c0 I d0 (fun _=>AZ I I)<|Rv 43 c0 I d0 (fun _=>Ai I)<|Br 9007199254740991 19 [(44,83),(45,84),(46,85),(47,86),(48,87),(49,88),(50,89),(51,90),(52,91)] (F:=[(82,false)]) (U:=[]) c0 d0 (.cons I .nil) .nil ?_
 dsimp only [aF,List.map]
 refine Rv 53 c0 I d0 (fun _=>AZ I I)<|Rv 54 c0 I d0 (fun _=>Ai I)<|Br 4611686018427387903 10 [(55,94),(56,95),(57,96),(58,97),(59,98),(60,99),(61,100)] (F:=[(93,false)]) (U:=[]) c0 d0 (.cons I .nil) .nil ?_
 dsimp only [aF,List.map]
 refine Rv 62 c0 I d0 (fun _=>AZ I I)<|Rv 63 c0 I d0 (fun _=>Ai I)<|Br 73786976294838206463 6 [(64,103),(65,104)] (F:=[(102,false)]) (U:=[]) c0 d0 (.cons I .nil) .nil ?_
 dsimp only [aF,List.map]
 refine Rv 66 c0 I d0 (fun _=>AZ I I)<|Rv 67 c0 I d0 (fun _=>Ai I)<|Br 1180591620717411303423 2 [(68,107),(69,108)] (F:=[(106,false)]) (U:=[]) c0 d0 (.cons I .nil) .nil ?_
 dsimp only [aF,List.map]
 refine Rv 70 c0 I d0 (fun _=>AZ I I)<|Rv 71 c0 I d0 (fun _=>Be I)<|AN (dk c0)<|Am I<|AW hb0 func4 I I ?_
 cases h
 exact k0.gv
 refine Br 4095 60 [(9,48),(10,49),(11,50)] (F:=[(47,false)]) (U:=[]) c0 d0 (.cons I .nil) .nil ?_
 dsimp only [aF,List.map]
 refine Rv 12 c0 I d0 (fun _=>AZ I I)<|Rv 13 c0 I d0 (fun _=>Ai I)<|Br 65535 56 [(14,53),(15,54)] (F:=[(52,false)]) (U:=[]) c0 d0 (.cons I .nil) .nil ?_
 dsimp only [aF,List.map]
 refine Rv 16 c0 I d0 (fun _=>AZ I I)<|Rv 17 c0 I d0 (fun _=>Ai I)<|Br 1048575 52 [(18,57),(19,58)] (F:=[(56,false)]) (U:=[]) c0 d0 (.cons I .nil) .nil ?_
 dsimp only [aF,List.map]
 refine Rv 20 c0 I d0 (fun _=>AZ I I)<|Rv 21 c0 I d0 (fun _=>Ai I)<|Br 536870911 43 [(22,61),(23,62),(24,63),(25,64),(26,65),(27,66),(28,67)] (F:=[(60,false)]) (U:=[]) c0 d0 (.cons I .nil) .nil ?_
 dsimp only [aF,List.map]
 refine Rv 29 c0 I d0 (fun _=>AZ I I)<|Rv 30 c0 I d0 (fun _=>Ai I)<|Br 274877906943 34 [(31,70),(32,71),(33,72),(34,73),(35,74),(36,75),(37,76)] (F:=[(69,false)]) (U:=[]) c0 d0 (.cons I .nil) .nil ?_
 dsimp only [aF,List.map]
 refine Rv 38 c0 I d0 (fun _=>AZ I I)<|Rv 39 c0 I d0 (fun _=>Ai I)<|Br 4398046511103 30 [(40,79),(41,80)] (F:=[(78,false)]) (U:=[]) c0 d0 (.cons I .nil) .nil ?_
 dsimp only [aF,List.map]
 refine Rv 42 c0 I d0 (fun _=>AZ I I)<|Rv 43 c0 I d0 (fun _=>Ai I)<|Br 9007199254740991 19 [(44,83),(45,84),(46,85),(47,86),(48,87),(49,88),(50,89),(51,90),(52,91)] (F:=[(82,false)]) (U:=[]) c0 d0 (.cons I .nil) .nil ?_
 dsimp only [aF,List.map]
 refine Rv 53 c0 I d0 (fun _=>AZ I I)<|Rv 54 c0 I d0 (fun _=>Ai I)<|Br 4611686018427387903 10 [(55,94),(56,95),(57,96),(58,97),(59,98),(60,99),(61,100)] (F:=[(93,false)]) (U:=[]) c0 d0 (.cons I .nil) .nil ?_
 dsimp only [aF,List.map]
 refine Rv 62 c0 I d0 (fun _=>AZ I I)<|Rv 63 c0 I d0 (fun _=>Ai I)<|Br 73786976294838206463 6 [(64,103),(65,104)] (F:=[(102,false)]) (U:=[]) c0 d0 (.cons I .nil) .nil ?_
 dsimp only [aF,List.map]
 refine Rv 66 c0 I d0 (fun _=>AZ I I)<|Rv 67 c0 I d0 (fun _=>Ai I)<|Br 1180591620717411303423 2 [(68,107),(69,108)] (F:=[(106,false)]) (U:=[]) c0 d0 (.cons I .nil) .nil ?_
 dsimp only [aF,List.map]
 refine Rv 70 c0 I d0 (fun _=>AZ I I)<|Rv 71 c0 I d0 (fun _=>Be I)<|AN (dk c0)<|Am I<|AW hb0 func4 I I ?_
 cases h
 exact y0.gv
structure Tm where
  fN:UInt8
  fC:List UInt8
  fMore:List (UInt8 × UInt8)
  fLabels:List UInt8
  fK:UInt8
  deriving DecidableEq
instance:Rep Tm:=Rep.via (β:=UInt8 × (List UInt8) × (List (UInt8 × UInt8)) × (List UInt8) × UInt8) fun x=>(x.fN,x.fC,x.fMore,x.fLabels,x.fK)
def bZ_p (_n:Nat) (a0:Tm):Oa Int:=
  some ((1 + ((a0.fN % (9:UInt8)).toNat):Nat):Int)
theorem bZ_c (n:Nat) {L w} (_hL:hl L w) (a0:Tm) {v0_1:Vc} (_h0_1:Rep.R w L [v0_1] a0.fC) {v0_2:Vc} (_h0_2:Rep.R w L [v0_2] a0.fMore) {v0_3:Vc} (_h0_3:Rep.R w L [v0_3] a0.fLabels)  {r:Int} (h:bZ_p n a0 = some r) :
 Cl 59 #[.agg #[.int .u8 (a0.fN.toNat:Int),v0_1,v0_2,v0_3,.int .u8 (a0.fK.toNat:Int)]] w (ae w fun _ u=>u = vI r):=by
 unfold bZ_p at h
 refine AF func59 I I I fun _ cs0 hb0=>Af<|RG.bx (AA w) I I fun j0 c0 b0 d0=>Ag I<|Aa<|Af<|Bd 0 I<|AR I ((b0.memA .hd) 0 _ I)<|Ac (FV.rem8 (a:=a0.fN) (b:=(9:UInt8)) I I (by decide)) ?_
 have g0:=(a0.fN % (9:UInt8)).toNat_lt
 refine Ac (FV.convN (i:=(a0.fN % (9:UInt8)).toNat) underlying5 underlying3 I (by omega))<|Ac (Bl (i:=1) (j:=(a0.fN % (9:UInt8)).toNat) I I (by omega))<|Ag I<|Aa<|Am I<|AW hb0 func59 I I ?_
 cases h
 exact b0.gv
def bG_p (_n:Nat) (a0:Tm) (a1:Int):Oa Int:=
  (if a1 < ((a0.fLabels.length:Nat):Int) then (idx a0.fLabels a1).bind fun b0=>some ((b0.toNat:Nat):Int) else some (0:Int))
theorem bG_c (n:Nat) {L w} (_hL:hl L w) (a0:Tm) {v0_1:Vc} (_h0_1:Rep.R w L [v0_1] a0.fC) {v0_2:Vc} (_h0_2:Rep.R w L [v0_2] a0.fMore) {v0_3:Vc} (h0_3:Rep.R w L [v0_3] a0.fLabels) {a1:Int}  {r:Int} (h:bG_p n a0 a1 = some r) :
 Cl 60 #[.agg #[.int .u8 (a0.fN.toNat:Int),v0_1,v0_2,v0_3,.int .u8 (a0.fK.toNat:Int)],vI a1] w (ae w fun _ u=>u = vI r):=by
 unfold bG_p at h
 refine AF func60 I I I fun _ cs0 hb0=>Af<|RG.bx (AA w) I I fun E0 z0 b0 B0=>Ag I<|Aa<|Aj<|Af<|Ae I<|Bd 3 I<|AR I ((b0.memA .hd) 3 _ I) ?_
 have c0:=AT h0_3 b0
 have C0:=AU c0
 refine Ac (Ba (xs:=a0.fLabels) underlying22 I c0)<|Ac (BO (i:=a1) (j:=((a0.fLabels.length:Nat):Int)) I I)<|Aa<|AQ I h (fun g0 h=>?_) (fun g0 h=>?_)
 refine Af<|Bd 3 I<|AR I ((b0.memA .hd) 3 _ I)<|Ae I<|bk h fun d0 v0 h=>?_
 obtain ⟨q0,x0⟩:=aA v0
 obtain ⟨y0,A0,k0,s0,j0,u0,t0⟩:=Bh c0 x0
 have p0:j0 = [.int .u8 (d0.toNat:Int)]:=u0; subst p0
 refine Ac (Bb 1 (a1.toNat) I k0 I q0 s0)<|AR I (t0 0 _ I) ?_
 have D0:=d0.toNat_lt
 refine Ac (FV.convN (i:=d0.toNat) underlying5 underlying3 I (by omega))<|Ag I<|Aa<|Am I<|AW hb0 func60 I I ?_
 cases h
 exact b0.gv
 refine Ar<|Af<|Ag I<|Aa<|Am I<|AW hb0 func60 I I ?_
 cases h
 exact b0.gv
def aY_l1 (_n:Nat) (a0:List Int) (a1:Int) (d0:Nat -> Oa (Bool ⊕ Unit)):Nat -> Oa (Bool ⊕ Unit)
  | b0=>(if b0 < a0.length then (a0[b0]?).bind fun c0=>(if c0 < 0 then some (.inl false) else (if a1 <= c0 then some (.inl false) else d0 (b0 + 1))) else some (.inr ()))
def aY_p (n:Nat) (a0:List Int) (a1:Int):Oa Bool:=
  thn (aj (aY_l1 n a0 a1) n 0) (fun _=>(if 1 <= a0.length then some (decide (a0.length <= 64)) else some false))
theorem aY_c (n:Nat) {L w} (_hL:hl L w) {a0:List Int} {v0_0:Vc} (h0_0:Rep.R w L [v0_0] a0) {a1:Int}  {r:Bool} (h:aY_p n a0 a1 = some r) :
 Cl 91 #[v0_0,vI a1] w (ae w fun _ u=>u = .bool r):=by
 unfold aY_p at h
 refine AF func91 I I I fun _ cs0 hb0=>Af<|Ag I<|Aa<|Aj<|Af<|Ag I<|Aa<|Ax<|tn h fun I0 B0 g0=>MX.lo (α:=Nat) (fun b0=>[(0,v0_0),(1,vI a1),(5,vn b0)]) (fun b0=>[]) (fun b0=>b0) 0 B0 (AA w) ?_
 rintro F0 b0 J0 y0 c0 z0 h
 unfold aY_l1 at h
 try dsimp only at h
 refine Aj<|Af<|Ae I<|Ae I ?_
 have d0:=AT h0_0 c0
 have H0:=AU d0
 refine Ac (Ba (xs:=a0) underlying39 I d0)<|Ac (Bp (i:=b0) (j:=a0.length) I I)<|Aa<|AQ I h (fun s0 h=>?_) (fun s0 h=>?_)
 refine Ar<|Aj<|Ax<|Af<|Ae I<|Ae I<|bk h fun j0 D0 h=>?_
 obtain ⟨E0,G0,k0,p0,x0,C0,q0⟩:=Bh d0 D0
 have A0:x0 = [vI j0]:=C0; subst A0
 refine Ac (Bb 1 b0 I k0 I I p0)<|AR I (q0 0 _ I)<|Ac (BO (i:=j0) (j:=0) I I)<|Ae I<|BD (s:=17) I h (fun t0 h=>?_) (fun t0 h=>?_)
 refine Aq<|Aq<|Aq<|Aq<|Aq<|Aq<|Bn I I<|Aa<|Bq I<|Af<|Ag I<|Aa ?_
 have h:=au h g0
 refine Am I<|AW hb0 func91 I I ?_
 cases h
 exact c0.gv
 refine AG (Ai I)<|AG (Ai I)<|AG (Bb 1 b0 I k0 I I p0)<|AG (AP I (q0 0 _ I))<|AG (Ai I)<|AG (FV.geq (i:=j0) (j:=a1) I I)<|Bv I I<|Aa<|AQ I h (fun u0 h=>?_) (fun u0 h=>?_)
 refine Af<|Ag I<|Aa ?_
 have h:=au h g0
 refine Am I<|AW hb0 func91 I I ?_
 cases h
 exact c0.gv
 refine Ar<|AC<|Ap<|Ae I<|Ac (Bl (i:=b0) (j:=1) I I (by omega))<|Ag I<|Aa<|y0 (b0 + 1) c0 z0 h
 refine AX I ?_
 have h:=aC h g0
 try dsimp only at h
 refine Af<|Ae I<|Ac (Ba (xs:=a0) underlying39 I d0)<|Ac (FV.geqN (i:=a0.length) (j:=1) I I)<|Ae I<|BD (s:=28) I h (fun v0 h=>?_) (fun v0 h=>?_)
 refine AG (Ai I)<|AG (Ba (xs:=a0) underlying39 I d0)<|AG (FV.leqN (i:=a0.length) (j:=64) I I)<|Bn I I<|Ag I<|Aa<|Am I<|AW hb0 func91 I I ?_
 cases h
 exact c0.gv
 refine Aq<|Aq<|Aq<|Bv I I<|Ag I<|Aa<|Am I<|AW hb0 func91 I I ?_
 cases h
 exact c0.gv
def bg_l1 (_n:Nat) (a0:List Int) (q0:Int × Nat × (List Int) × (List Int) -> Oa (List Int)):Int × Nat × (List Int) × (List Int) -> Oa (List Int)
  | (g0,b0,k0,d0)=>(if b0 < a0.length then (a0[b0]?).bind fun c0=>(idx d0 c0).bind fun t0=>jn (fun (y0,p0)=>(idx p0 c0).bind fun u0=>(app k0 ([u0]:List Int)).bind fun v0=>q0 (y0,b0 + 1,v0,p0)) (fun j0=>(if t0 < 0 then (put d0 ((c0.toNat:Nat):Int) g0).bind fun x0=>(chk (g0 + 1)).bind fun s0=>j0 (s0,x0) else j0 (g0,d0))) else some k0)
def bg_p (n:Nat) (a0:List Int):Oa ((List Int) × Int):=
  (aY_p n a0 (8:Int)).bind fun y1=>(if y1 = true then Option.bind (aj (bg_l1 n a0) n (0,0,([]:List Int),([(-1:Int),(-1:Int),(-1:Int),(-1:Int),(-1:Int),(-1:Int),(-1:Int),(-1:Int)]:List Int))) (fun b0=>some (b0,(0:Int))) else some (([]:List Int),(210:Int)))
theorem bg_c (n:Nat) {L w} (hL:hl L w) {a0:List Int} {v0_0:Vc} (h0_0:Rep.R w L [v0_0] a0)  {r:(List Int) × Int} (h:bg_p n a0 = some r) :
 Cl 61 #[v0_0] w (ae w fun w' u=>∃ v0_0:Vc,u = .tuple #[v0_0,vI r.2]/\Rep.R w' L [v0_0] r.1):=by
 unfold bg_p at h
 have hS0:=AA w
 refine AF func61 I I I fun _ cs0 hb0=>Af<|Ag I<|Ag I<|Aa<|Aj<|Af<|Ae I<|bk h fun y1 hy1 h=>Bj (.bool y1) (bd 91) I (e2 I I) (fun p q=>aY_c n (hS0.hL0 hL q) (hS0.kd h0_0 q) hy1) I<|Ac (Bu I)<|Aa<|MX.ifnb I h (fun c2 h=>?_) (fun c2 h=>?_)
 refine Ar<|Af<|Al .plain I (AL (α:=Int) (xs:=([(-1:Int),(-1:Int),(-1:Int),(-1:Int),(-1:Int),(-1:Int),(-1:Int),(-1:Int)]:List Int)) (vs:=[vI (-1),vI (-1),vI (-1),vI (-1),vI (-1),vI (-1),vI (-1),vI (-1)]) (ds' :=[vI (-1),vI (-1),vI (-1),vI (-1),vI (-1),vI (-1),vI (-1),vI (-1)]) I hS0 ay I (e8 I I I I I I I I) (by kernel_rfl) I) fun g3 v0 B0 Z2=>Ag I<|Aa<|Af<|Ag I<|Aa<|Af<|Ag I<|Aa<|Aj<|Af<|Ag I<|Aa<|Ax ?_
 have K0:=B0.nilRow 3 (Rep.size Int)
 obtain ⟨d3,p2,Z1⟩:=aq h
 refine MX.lf (α:=Int × Nat × (List Int) × (List Int) × Vc × (List Vc) × (List Vc)) (fun ⟨u0,b0,d0,j0,c0,g0,k0⟩=>[(0,v0_0),(4,(vS v0 8)),(5,vI u0),(6,c0),(7,vn b0)]) (fun ⟨u0,b0,d0,j0,c0,g0,k0⟩=>[rr w 3 Int c0 d0.length g0,rr w 3 Int (vS v0 8) j0.length k0]) (fun ⟨u0,b0,d0,j0,c0,g0,k0⟩ I0=>Cells I0 (bl [rr w 3 Int c0 d0.length g0,rr w 3 Int (vS v0 8) j0.length k0] ++ L) g0 d0/\Cells I0 (bl [rr w 3 Int c0 d0.length g0,rr w 3 Int (vS v0 8) j0.length k0] ++ L) k0 j0) (fun ⟨u0,b0,d0,j0,c0,g0,k0⟩=>(u0,b0,d0,j0)) (0,0,([]:List Int),([(-1:Int),(-1:Int),(-1:Int),(-1:Int),(-1:Int),(-1:Int),(-1:Int),(-1:Int)]:List Int),vN,[],[vI (-1),vI (-1),vI (-1),vI (-1),vI (-1),vI (-1),vI (-1),vI (-1)]) p2 K0 ⟨(AD (cs:=[]) (xs:=([]:List Int)) K0 L (AJ _ _)),(AB (AD (cs:=[vI (-1),vI (-1),vI (-1),vI (-1),vI (-1),vI (-1),vI (-1),vI (-1)]) (xs:=(([(-1:Int),(-1:Int),(-1:Int),(-1:Int),(-1:Int),(-1:Int),(-1:Int),(-1:Int)]:List Int):List Int)) B0 L (Av (cs:=[vI (-1)]) (ds:=[vI (-1),vI (-1),vI (-1),vI (-1),vI (-1),vI (-1),vI (-1)]) I (Av (cs:=[vI (-1)]) (ds:=[vI (-1),vI (-1),vI (-1),vI (-1),vI (-1),vI (-1)]) I (Av (cs:=[vI (-1)]) (ds:=[vI (-1),vI (-1),vI (-1),vI (-1),vI (-1)]) I (Av (cs:=[vI (-1)]) (ds:=[vI (-1),vI (-1),vI (-1),vI (-1)]) I (Av (cs:=[vI (-1)]) (ds:=[vI (-1),vI (-1),vI (-1)]) I (Av (cs:=[vI (-1)]) (ds:=[vI (-1),vI (-1)]) I (Av (cs:=[vI (-1)]) (ds:=[vI (-1)]) I (Av (cs:=[vI (-1)]) (ds:=[]) I (AJ _ _)))))))))) (BW B0 3 (Rep.size Int)))⟩ ?_
 rintro M2 ⟨u0,b0,d0,j0,c0,g0,k0⟩ I0 F1 p0 J1 ⟨R0,E0⟩ h
 unfold bg_l1 at h
 try dsimp only at h
 refine Aj<|Af<|Ae I<|Ae I ?_
 have H0:=AT h0_0 p0
 have c3:=AU H0
 refine Ac (Ba (xs:=a0) underlying39 I H0)<|Ac (Bp (i:=b0) (j:=a0.length) I I)<|Aa<|AQ I h (fun v1 h=>?_) (fun v1 h=>?_)
 refine Ar<|Aj<|Ax<|Aj<|Af<|Ae I<|Ae I<|Ae I<|bk h fun y0 g1 h=>?_
 obtain ⟨J2,R2,V0,Y0,z1,q2,b1⟩:=Bh H0 g1
 have R1:z1 = [vI y0]:=q2; subst R1
 refine Ac (Bb 1 b0 I V0 I I Y0)<|AR I (b1 0 _ I)<|bk h fun k1 z2 h=>?_
 obtain ⟨X0,A2⟩:=aA z2
 obtain ⟨p1,U2,A0,G0,A1,s2,g2⟩:=BU (α:=Int) p0 .t1 E0 A2
 obtain ⟨s1,V2,W0⟩:=By (α:=Int) p0 .t1 G0
 obtain rfl:p1 = ⟨s1,0,none⟩:=by rw [W0] at A0; cases A0; rfl
 have U1:A1 = [vI k1]:=s2; subst U1
 refine Ac (Bb 1 (y0.toNat) I A0 I X0 G0)<|AR I (g2 0 _ I)<|Ac (BO (i:=k1) (j:=0) I I)<|Aa<|MX.jf (α:=Int × (List Int) × (List Vc)) (fun ⟨x0,q0,s0⟩=>[(0,v0_0),(4,(vS v0 8)),(5,vI x0),(6,c0),(7,vn b0)]) (fun ⟨x0,q0,s0⟩=>[rr w 3 Int c0 d0.length g0,rr w 3 Int (vS v0 8) q0.length s0]) (fun ⟨x0,q0,s0⟩ j1=>Cells j1 (bl [rr w 3 Int c0 d0.length g0,rr w 3 Int (vS v0 8) q0.length s0] ++ L) s0 q0) (fun ⟨x0,q0,s0⟩=>(x0,q0)) p0 h ?_ ?_
 rintro ⟨x0,q0,s0⟩ j1 z0 M0 U0 h
 try dsimp only at h
 refine Ap<|Ae I<|Ae I<|Ae I<|Ae I ?_
 obtain ⟨K2,W2,V1,d2,B1,t2,j2⟩:=Bh (AT h0_0 z0) g1
 have W1:B1 = [vI y0]:=t2; subst W1
 refine Ac (Bb 1 b0 I V1 I I d2)<|AR I (j2 0 _ I)<|bk h fun t0 B2 h=>?_
 obtain ⟨b2,C2⟩:=aA B2
 obtain ⟨q1,X2,F0,Z0,C1,u2,k2⟩:=BU (α:=Int) z0 .t1 U0 C2
 obtain ⟨u1,Y2,X1⟩:=By (α:=Int) z0 .t1 Z0
 obtain rfl:q1 = ⟨u1,0,none⟩:=by rw [X1] at F0; cases F0; rfl
 have Y1:C1 = [vI t0]:=u2; subst Y1
 refine Ac (Bb 1 (y0.toNat) I F0 I b2 Z0)<|AR I (k2 0 _ I)<|Al .plain I (jA t0 (vI t0) z0 jK (e1 I)) fun j3 Q2 C0 P0=>bk h fun H2 D2 h=>RG.doesL .plain I (Bf (α:=Int) (ys:=([t0]:List Int)) D2 C0 (fun _ _=>.t1) jK I I (AB R0 (Tt M0 P0)) (Src.row (α:=Int) C0 .hd (jC t0 (vI t0) C0 L I))) fun G2 k3 ⟨D1,G1,K1,P1⟩=>Ag I<|Aa<|AC<|Ap<|Ae I<|Ac (Bl (i:=b0) (j:=1) I I (by omega))<|Ag I<|Aa ?_
 obtain ⟨H1,Q0⟩:=AK G1 .d1
 have c1:=Tt P0 (Tt K1 Q0)
 exact F1 (x0,b0 + 1,H2,q0,G2,D1,s0) H1 (Tt J1 (Tt M0 c1)) ⟨(AB P1 Q0),(AB U0 c1)⟩ h
 intro P2 J0 h
 try dsimp only at h
 refine AQ I h (fun x1 h=>?_) (fun x1 h=>?_)
 refine Af<|Ae I<|Ae I<|Ae I<|Ac (Bb 1 b0 I V0 I I Y0)<|AR I (b1 0 _ I)<|Ae I<|Ac (Bb 1 (y0.toNat) I A0 I X0 G0)<|bk h fun I2 E2 h=>RG.acts' .plain (Cb (α:=Int) (i:=y0.toNat) E2 p0 W0 (fun _=>.t1) E0 I I I I I I) fun p3 ⟨E1,I1,M1,Q1⟩=>Aa<|Ap<|Ae I<|bk h fun F2 y2 h=>Ac (Bw (i:=u0) (j:=1) I I y2)<|Ag I<|Aa<|J0 (F2,I2,E1) I1 M1 Q1 h
 refine Ar<|J0 (u0,j0,k0) p0 (Bx _ _) E0 h
 refine AX I ?_
 have h:=Z1 _ h
 try dsimp only at h
 refine Af<|Ae I<|Ag I<|Ag I<|Aa<|Am I ?_
 have D0:=BA p0 .hd
 have b3:=BB p0 .hd
 have v2:=BC (α:=Int) (v:=c0) (xs:=d0) D0 L (Bg (α:=Int) p0 .hd R0 hL)
 refine Au hb0 func61 I (.cons (.tmp I) (.cons (.tmp I) .nil)) I ?_
 cases h
 exact ⟨D0.ag,fun p q=>⟨c0,I,D0.kd v2 q⟩⟩
 refine Af<|Ag I<|Ag I<|Aa<|Am I ?_
 have x2:=Rep.nilAt (α:=Int) hS0 L
 refine Au hb0 func61 I (.cons (.tmp I) (.cons (.tmp I) .nil)) I ?_
 cases h
 exact ⟨hS0.ag,fun p q=>⟨vN,I,hS0.kd x2 q⟩⟩
def ak_l1 (_n:Nat) (c0:(List Int) × Int) (g0:Int × Nat -> Oa Int):Int × Nat -> Oa Int
  | (d0,b0)=>(if b0 < c0.1.length then (c0.1[b0]?).bind fun k0=>(chk (k0 + 1)).bind fun j0=>g0 (max d0 j0,b0 + 1) else some d0)
def ak_l2 (n:Nat) (a0:Tm) (d0:Int × (List Int) -> Oa (List Int)):Int × (List Int) -> Oa (List Int)
  | (b0,c0)=>(bZ_p n a0).bind fun p0=>(if b0 < p0 then (bG_p n a0 b0).bind fun q0=>(ca q0 ((1 + ((a0.fK % (8:UInt8)).toNat):Nat):Int)).bind fun j0=>(app c0 ([j0]:List Int)).bind fun k0=>(chk (b0 + 1)).bind fun g0=>d0 (g0,k0) else some c0)
def ak_p (n:Nat) (a0:Tm):Oa ((List Int) × Int):=
  Option.bind (aj (ak_l2 n a0) n (0,([]:List Int))) (fun c0=>(bg_p n c0).bind fun b0=>Option.bind (aj (ak_l1 n b0) n (0,0)) (fun d0=>some (b0.1,d0)))
theorem ak_c (n:Nat) {L w} (hL:hl L w) (a0:Tm) {v0_1:Vc} (h0_1:Rep.R w L [v0_1] a0.fC) {v0_2:Vc} (h0_2:Rep.R w L [v0_2] a0.fMore) {v0_3:Vc} (h0_3:Rep.R w L [v0_3] a0.fLabels)  {r:(List Int) × Int} (h:ak_p n a0 = some r) :
 Cl 22 #[.agg #[.int .u8 (a0.fN.toNat:Int),v0_1,v0_2,v0_3,.int .u8 (a0.fK.toNat:Int)]] w (ae w fun w' u=>∃ v0_0:Vc,u = .tuple #[v0_0,vI r.2]/\Rep.R w' L [v0_0] r.1):=by
 unfold ak_p at h
 refine AF func22 I I I fun _ cs0 hb0=>Af<|RG.bx (AA w) I I fun u2 x0 C0 d2=>Ag I<|Ag I<|Aa<|Af<|Ag I<|Aa<|Aj<|Af<|Ag I<|Aa<|Ax ?_
 have D0:=C0.nilRow 3 (Rep.size Int)
 have g2:=BW C0 3 (Rep.size Int)
 obtain ⟨q2,C1,y1⟩:=aq h
 refine MX.lf (α:=Int × (List Int) × Vc × (List Vc)) (fun ⟨q0,j0,p0,s0⟩=>[(1,vP x0),(4,p0),(5,vI q0)]) (fun ⟨q0,j0,p0,s0⟩=>[rr w 3 Int p0 j0.length s0,.cells x0 [.int .u8 (a0.fN.toNat:Int),v0_1,v0_2,v0_3,.int .u8 (a0.fK.toNat:Int)] 25]) (fun ⟨q0,j0,p0,s0⟩ K0=>Cells K0 (bl [rr w 3 Int p0 j0.length s0,.cells x0 [.int .u8 (a0.fN.toNat:Int),v0_1,v0_2,v0_3,.int .u8 (a0.fK.toNat:Int)] 25] ++ L) s0 j0) (fun ⟨q0,j0,p0,s0⟩=>(q0,j0)) (0,([]:List Int),vN,[]) C1 D0 (AD (cs:=[]) (xs:=([]:List Int)) D0 L (AJ _ _)) ?_
 rintro X1 ⟨q0,j0,p0,s0⟩ K0 Y0 b0 p1 H0 h
 unfold ak_l2 at h
 try dsimp only at h
 refine Aj<|Af<|Ae I<|Ac (AH I (b0.memA .t1))<|bk h fun P0 M1 h=>Bj (vI P0) (bd 59) I (e1 I) (fun p q=>bZ_c n (b0.hL0 hL q) a0 (b0.k0 h0_1 q) (b0.k0 h0_2 q) (b0.k0 h0_3 q) M1) I<|Ac (BO (i:=q0) (j:=P0) I I)<|Aa<|AQ I h (fun U0 h=>?_) (fun U0 h=>?_)
 refine Ar<|Aj<|Ax<|du 11 fun c0 d0=>Rv 0 c0 I d0 (fun _=>Ai I)<|Rx 1 7688 c0 I d0 (AH I (b0.memA .t1))<|Rv 2 c0 I d0 (fun _=>Ai I)<|bk h fun Q0 P1 h=>BV 3 15 7680 (vI Q0) c0 I d0 (bd 60) I (e2 I I) (fun p q=>bG_c n (b0.hL0 hL q) a0 (b0.k0 h0_1 q) (b0.k0 h0_2 q) (b0.k0 h0_3 q) P1) I<|Rv 4 c0 I d0 (fun _=>Bi 4 I)<|Rx 5 8128 c0 I d0 (AP I ((b0.memA .t1) 4 _ I))<|Rv 6 c0 I d0 (fun _=>FV.rem8 (a:=a0.fK) (b:=(8:UInt8)) I I (by decide)) ?_
 have k2:=(a0.fK % (8:UInt8)).toNat_lt
 refine Rv 7 c0 I d0 (fun _=>FV.convN (i:=(a0.fK % (8:UInt8)).toNat) underlying5 underlying3 I (by omega))<|Rv 8 c0 I d0 (fun _=>Bl (i:=1) (j:=(a0.fK % (8:UInt8)).toNat) I I (by omega))<|bk h fun t0 H1 h=>Rv 9 c0 I d0 (fun _=>FV.remc (i:=Q0) (j:=((1 + ((a0.fK % (8:UInt8)).toNat):Nat):Int)) I I H1)<|BS 10 2047 c0 I .plain I (jA t0 (vI t0) b0 jK (e1 I)) fun x2 Y1 y0 E0=>bk h fun U1 J1 h=>BM (i:=11) (rk c0) (BI (m' :=4095) (sk c0) I I .plain I (Bf (α:=Int) (ys:=([t0]:List Int)) J1 y0 (fun _ _=>.t1) jK I I (AB H0 E0) (Src.row (α:=Int) y0 .hd (jC t0 (vI t0) y0 L I))) (fun R1 t2 ⟨V0,Z0,j1,s1⟩=>?_))
 refine Rv 12 c0 I d0 (fun _=>Be I)<|AN (dk c0)<|AC<|Ap<|Ae I<|bk h fun Q1 F1 h=>Ac (Bw (i:=q0) (j:=1) I I F1)<|Ag I<|Aa ?_
 obtain ⟨b1,F0⟩:=AK Z0 .d1
 exact Y0 (Q1,U1,R1,V0) b1 (Tt p1 (Tt E0 (Tt j1 F0))) (AB s1 F0) h
 refine AX I ?_
 have h:=y1 _ h
 try dsimp only at h
 refine Af<|Ae I ?_
 have z0:=BA b0 .hd
 have b2:=BB b0 .hd
 refine bk h fun B0 K1 h=>jE (bd 61) I (e1 I) (fun p q=>bg_c n (z0.hL hL q) (Aw (BC (α:=Int) (v:=p0) (xs:=j0) z0 L (Bg (α:=Int) b0 .hd H0 hL)) q) K1) I fun v2 s2 q1 ⟨J0,hu_,D1⟩=>?_
 subst hu_
 obtain ⟨c1,c2⟩:=z0.agr q1
 refine Ae I<|Ac (Ak I I)<|Ac (Ak I I)<|Ag I<|Aa<|Af<|Ag I<|Aa<|Aj<|Af<|Ag I<|Aa<|Ax ?_
 obtain ⟨g1,k1⟩:=AK c1 .done
 obtain ⟨p2,B1,x1⟩:=aq h
 refine MX.lo (α:=Int × Nat) (fun ⟨u0,g0⟩=>[(4,J0),(6,vI u0),(7,vn g0)]) (fun ⟨u0,g0⟩=>[]) (fun ⟨u0,g0⟩=>(u0,g0)) (0,0) B1 g1 ?_
 rintro W1 ⟨u0,g0⟩ y2 X0 A0 G0 h
 unfold ak_l1 at h
 try dsimp only at h
 refine Aj<|Af<|Ae I<|Ae I ?_
 have v0:=Ao D1 (Tt k1 G0)
 have j2:=AU v0
 refine Ac (Ba (xs:=B0.1) underlying39 I v0)<|Ac (Bp (i:=g0) (j:=B0.1.length) I I)<|Aa<|AQ I h (fun R0 h=>?_) (fun R0 h=>?_)
 refine Ar<|Aj<|Ax<|Ap<|Ae I<|Ae I<|Ae I<|bk h fun M0 I1 h=>?_
 obtain ⟨V1,Z1,u1,z1,W0,E1,A1⟩:=Bh v0 I1
 have v1:W0 = [vI M0]:=E1; subst v1
 refine Ac (Bb 1 g0 I u1 I I z1)<|AR I (A1 0 _ I)<|bk h fun I0 G1 h=>Ac (Bw (i:=M0) (j:=1) I I G1)<|Ac (FV.max2 (i:=u0) (j:=I0) I I)<|Ag I<|Aa<|AC<|Ap<|Ae I<|Ac (Bl (i:=g0) (j:=1) I I (by omega))<|Ag I<|Aa<|X0 (max u0 I0,g0 + 1) A0 G0 h
 refine AX I ?_
 have h:=x1 _ h
 try dsimp only at h
 refine Af<|Ae I<|Ae I<|Ag I<|Ag I<|Aa<|Am I<|Au hb0 func22 I (.cons (.tmp I) (.cons (.tmp I) .nil)) I ?_
 cases h
 exact ⟨A0.ag,fun p q=>⟨J0,I,A0.kd v0 q⟩⟩
structure Tl where
  fh:UInt8
  fc:UInt8
  fj:UInt8
  fu:UInt8
  fNums:List UInt8
  deriving DecidableEq
instance:Rep Tl:=Rep.via (β:=UInt8 × UInt8 × UInt8 × UInt8 × (List UInt8)) fun x=>(x.fh,x.fc,x.fj,x.fu,x.fNums)
def aT_p (_n:Nat) (a0:Tl) (a1:Int):Oa Int:=
  (if a0.fNums.length = 0 then some (1:Int) else (ca a1 ((a0.fNums.length:Nat):Int)).bind fun b0=>(idx a0.fNums b0).bind fun c0=>some ((c0.toNat:Nat):Int))
theorem aT_c (n:Nat) {L w} (_hL:hl L w) (a0:Tl) {v0_4:Vc} (h0_4:Rep.R w L [v0_4] a0.fNums) {a1:Int}  {r:Int} (h:aT_p n a0 a1 = some r) :
 Cl 62 #[.agg #[.int .u8 (a0.fh.toNat:Int),.int .u8 (a0.fc.toNat:Int),.int .u8 (a0.fj.toNat:Int),.int .u8 (a0.fu.toNat:Int),v0_4],vI a1] w (ae w fun _ u=>u = vI r):=by
 unfold aT_p at h
 refine AF func62 I I I fun _ cs0 hb0=>Af<|RG.bx (AA w) I I fun I0 D0 d0 F0=>Ag I<|Aa<|Aj<|Af<|Bd 4 I<|AR I ((d0.memA .hd) 4 _ I) ?_
 have g0:=AT h0_4 d0
 have G0:=AU g0
 refine Ac (Ba (xs:=a0.fNums) underlying22 I g0)<|Ac (BP (i:=a0.fNums.length) (j:=0) I I)<|Aa<|AQ I h (fun k0 h=>?_) (fun k0 h=>?_)
 refine Af<|Ag I<|Aa<|Am I<|AW hb0 func62 I I ?_
 cases h
 exact d0.gv
 refine Ar<|Aj<|du 11 fun b0 c0=>Rv 0 b0 I c0 (fun _=>Bi 4 I)<|Rx 1 1920 b0 I c0 (AP I ((d0.memA .hd) 4 _ I))<|Rv 2 b0 I c0 (fun _=>Ai I)<|Rv 3 b0 I c0 (fun _=>Bi 4 I)<|Rx 4 2016 b0 I c0 (AP I ((d0.memA .hd) 4 _ I))<|Rx 5 1984 b0 I c0 (Ba (xs:=a0.fNums) underlying22 I g0)<|bk h fun B0 y0 h=>Rv 6 b0 I c0 (fun _=>FV.remc (i:=a1) (j:=((a0.fNums.length:Nat):Int)) I I y0)<|bk h fun j0 z0 h=>?_
 obtain ⟨t0,A0⟩:=aA z0
 obtain ⟨C0,E0,q0,u0,p0,x0,v0⟩:=Bh g0 A0
 have s0:p0 = [.int .u8 (j0.toNat:Int)]:=x0; subst s0
 refine Rv 7 b0 I c0 (fun _=>Bb 1 (B0.toNat) I q0 I t0 u0)<|Rx 8 1536 b0 I c0 (AP I (v0 0 _ I)) ?_
 have H0:=j0.toNat_lt
 refine Rv 9 b0 I c0 (fun _=>FV.convN (i:=j0.toNat) underlying5 underlying3 I (by omega))<|Rv 10 b0 I c0 (fun _=>Be I)<|AN (dk b0)<|Am I<|AW hb0 func62 I I ?_
 cases h
 exact d0.gv
def aD_l1 (n:Nat) (a1:Int) (a2:Int) (a0:Tl) (a3:Int) (d0:Int × (List Int) -> Oa (List Int)):Int × (List Int) -> Oa (List Int)
  | (b0,c0)=>(if b0 < a1 then (chk (a2 + b0)).bind fun j0=>(aT_p n a0 j0).bind fun p0=>(app c0 ([min p0 a3]:List Int)).bind fun k0=>(chk (b0 + 1)).bind fun g0=>d0 (g0,k0) else some c0)
def aD_p (n:Nat) (a0:Tl) (a1:Int) (a2:Int) (a3:Int):Oa (List Int):=
  Option.bind (aj (aD_l1 n a1 a2 a0 a3) n (0,([]:List Int))) (fun b0=>some b0)
theorem aD_c (n:Nat) {L w} (hL:hl L w) (a0:Tl) {v0_4:Vc} (h0_4:Rep.R w L [v0_4] a0.fNums) {a1:Int} {a2:Int} {a3:Int}  {r:List Int} (h:aD_p n a0 a1 a2 a3 = some r) :
 Cl 63 #[.agg #[.int .u8 (a0.fh.toNat:Int),.int .u8 (a0.fc.toNat:Int),.int .u8 (a0.fj.toNat:Int),.int .u8 (a0.fu.toNat:Int),v0_4],vI a1,vI a2,vI a3] w (ae w fun w' u=>∃ v0_0:Vc,u = v0_0/\Rep.R w' L [v0_0] r):=by
 unfold aD_p at h
 refine AF func63 I I I fun _ cs0 hb0=>Af<|RG.bx (AA w) I I fun p1 q0 u0 c1=>Ag I<|Aa<|Af<|Ag I<|Aa<|Aj<|Af<|Ag I<|Aa<|Ax ?_
 have v0:=u0.nilRow 3 (Rep.size Int)
 have g1:=BW u0 3 (Rep.size Int)
 obtain ⟨j1,K0,J0⟩:=aq h
 refine MX.lf (α:=Int × (List Int) × Vc × (List Vc)) (fun ⟨g0,c0,b0,j0⟩=>[(1,vI a1),(2,vI a2),(3,vI a3),(4,vP q0),(9,b0),(10,vI g0)]) (fun ⟨g0,c0,b0,j0⟩=>[rr w 3 Int b0 c0.length j0,.cells q0 [.int .u8 (a0.fh.toNat:Int),.int .u8 (a0.fc.toNat:Int),.int .u8 (a0.fj.toNat:Int),.int .u8 (a0.fu.toNat:Int),v0_4] 27]) (fun ⟨g0,c0,b0,j0⟩ A0=>Cells A0 (bl [rr w 3 Int b0 c0.length j0,.cells q0 [.int .u8 (a0.fh.toNat:Int),.int .u8 (a0.fc.toNat:Int),.int .u8 (a0.fj.toNat:Int),.int .u8 (a0.fu.toNat:Int),v0_4] 27] ++ L) j0 c0) (fun ⟨g0,c0,b0,j0⟩=>(g0,c0)) (0,([]:List Int),vN,[]) K0 v0 (AD (cs:=[]) (xs:=([]:List Int)) v0 L (AJ _ _)) ?_
 rintro Y0 ⟨g0,c0,b0,j0⟩ A0 D0 p0 G0 z0 h
 unfold aD_l1 at h
 try dsimp only at h
 refine Aj<|Af<|Ae I<|Ae I<|Ac (BO (i:=g0) (j:=a1) I I)<|Aa<|AQ I h (fun B0 h=>?_) (fun B0 h=>?_)
 refine Ar<|Aj<|Ax<|Ap<|Ae I<|Ac (AH I (p0.memA .t1))<|Ae I<|Ae I<|bk h fun k1 Q0 h=>Ac (Bw (i:=a2) (j:=g0) I I Q0)<|bk h fun d0 U0 h=>Bj (vI d0) (bd 62) I (e2 I I) (fun p q=>aT_c n (p0.hL0 hL q) a0 (p0.k0 h0_4 q) U0) I<|Ae I<|Ac (FV.min2 (i:=d0) (j:=a3) I I)<|Al .plain I (jA (min d0 a3) (vI (min d0 a3)) p0 ay (e1 I)) fun q1 Z0 t0 y0=>bk h fun X0 R0 h=>RG.doesL .plain I (Bf (α:=Int) (ys:=([min d0 a3]:List Int)) R0 t0 (fun _ _=>.t1) ay I I (AB z0 y0) (Src.row (α:=Int) t0 .hd (jC (min d0 a3) (vI (min d0 a3)) t0 L I))) fun W0 s1 ⟨C0,F0,H0,I0⟩=>Ag I<|Aa<|AC<|Ap<|Ae I<|bk h fun V0 P0 h=>Ac (Bw (i:=g0) (j:=1) I I P0)<|Ag I<|Aa ?_
 obtain ⟨E0,x0⟩:=AK F0 .d1
 exact D0 (V0,X0,W0,C0) E0 (Tt G0 (Tt y0 (Tt H0 x0))) (AB I0 x0) h
 refine AX I ?_
 have h:=J0 _ h
 try dsimp only at h
 refine Af<|Ae I<|Ag I<|Aa<|Am I ?_
 have s0:=BA p0 .hd
 have b1:=BB p0 .hd
 have M0:=BC (α:=Int) (v:=b0) (xs:=c0) s0 L (Bg (α:=Int) p0 .hd z0 hL)
 refine AW hb0 func63 I I ?_
 cases h
 exact ⟨s0.ag,fun p q=>⟨b0,I,s0.kd M0 q⟩⟩
theorem el22:ElT Tryz.prog 22 5 (Rep.size UInt8) 1 (.int .u8 0) [.int .u8 0]:=⟨underlying22,by kernel_rfl,rfl,rfl,rfl,rfl⟩
def ab_l1 (n:Nat) (a0:Tl) (t0:Int) (d0:Nat × (List Int) -> Oa (List Int)):Nat × (List Int) -> Oa (List Int)
  | (b0,c0)=>(if b0 < ((a0.fj % (3:UInt8)).toNat) then (chk (9 * t0)).bind fun g0=>(chk (g0 + 7)).bind fun j0=>(chk (j0 + ((b0:Nat):Int))).bind fun k0=>(aT_p n a0 k0).bind fun s0=>(ca s0 3).bind fun p0=>(app c0 ([p0]:List Int)).bind fun q0=>d0 (b0 + 1,q0) else some c0)
def ab_l2 (_n:Nat) (a0:Tl) (d0:Nat × (List Tc) -> Oa (List Tc)):Nat × (List Tc) -> Oa (List Tc)
  | (b0,c0)=>(if b0 < ((a0.fu % (2:UInt8)).toNat) then (mk (((a0.fh % (3:UInt8)).toNat:Nat):Int) (0:Int)).bind fun g0=>(mk (((a0.fc % (4:UInt8)).toNat:Nat):Int) (0:Int)).bind fun j0=>(mk (((a0.fj % (3:UInt8)).toNat:Nat):Int) (0:Int)).bind fun k0=>(app c0 ([(⟨⟨#[115,101,97]⟩,(0:Int),g0,j0,k0,true⟩:Tc)]:List Tc)).bind fun p0=>d0 (b0 + 1,p0) else some c0)
def ab_l3 (n:Nat) (a1:Int) (a0:Tl) (g0:Int × (List Tc) -> Oa (List Tc)):Int × (List Tc) -> Oa (List Tc)
  | (b0,c0)=>(if b0 < a1 then (ca b0 26).bind fun j0=>(chk (97 + j0)).bind fun k0=>(cj b0 26).bind fun p0=>(ca p0 26).bind fun q0=>(chk (97 + q0)).bind fun s0=>(chk (9 * b0)).bind fun t0=>(aT_p n a0 t0).bind fun d0=>(nD ⟨#[117]⟩ (bstr ([aN k0,aN s0]:List UInt8))).bind fun u0=>(chk (9 * b0)).bind fun v0=>(chk (v0 + 1)).bind fun x0=>(aD_p n a0 (((a0.fh % (3:UInt8)).toNat:Nat):Int) x0 d0).bind fun D0=>(chk (9 * b0)).bind fun y0=>(chk (y0 + 3)).bind fun z0=>(aD_p n a0 (((a0.fc % (4:UInt8)).toNat:Nat):Int) z0 (255:Int)).bind fun E0=>Option.bind (aj (ab_l1 n a0 b0) n (0,([]:List Int))) (fun B0=>(app c0 ([(⟨u0,d0,D0,E0,B0,false⟩:Tc)]:List Tc)).bind fun C0=>(chk (b0 + 1)).bind fun A0=>g0 (A0,C0)) else some c0)
def ab_p (n:Nat) (a0:Tl) (a1:Int):Oa Te:=
  Option.bind (aj (ab_l3 n a1 a0) n (0,([]:List Tc))) (fun c0=>Option.bind (aj (ab_l2 n a0) n (0,c0)) (fun b0=>some (⟨(((a0.fh % (3:UInt8)).toNat:Nat):Int),(((a0.fc % (4:UInt8)).toNat:Nat):Int),(((a0.fj % (3:UInt8)).toNat:Nat):Int),b0⟩:Te)))
theorem ab_c (n:Nat) {L w} (hL:hl L w) (a0:Tl) {v0_4:Vc} (h0_4:Rep.R w L [v0_4] a0.fNums) {a1:Int}  {r:Te} (h:ab_p n a0 a1 = some r) :
 Cl 24 #[.agg #[.int .u8 (a0.fh.toNat:Int),.int .u8 (a0.fc.toNat:Int),.int .u8 (a0.fj.toNat:Int),.int .u8 (a0.fu.toNat:Int),v0_4],vI a1] w (ae w fun w' u=>∃ v0_3:Vc,u = .agg #[vI r.fh,vI r.fc,vI r.fj,v0_3]/\Rep.R w' L [v0_3] r.ft):=by
 unfold ab_p at h
 refine AF func24 I I I fun _ cs0 hb0=>Af<|RG.bx (AA w) I I fun q8 t0 H4 J7=>RG.nl [vI 0,vI 0,vI 0,vN] H4 fun y8 u0 X1 K7=>Aa<|Af<|Bd 0 I<|AR I ((X1.memA .t1) 0 _ I)<|Ac (FV.rem8 (a:=a0.fh) (b:=(3:UInt8)) I I (by decide)) ?_
 have V7:=(a0.fh % (3:UInt8)).toNat_lt
 refine Ac (FV.convN (i:=(a0.fh % (3:UInt8)).toNat) underlying5 underlying3 I (by omega))<|Bd 1 I<|AR I ((X1.memA .t1) 1 _ I)<|Ac (FV.rem8 (a:=a0.fc) (b:=(4:UInt8)) I I (by decide)) ?_
 have W7:=(a0.fc % (4:UInt8)).toNat_lt
 refine Ac (FV.convN (i:=(a0.fc % (4:UInt8)).toNat) underlying5 underlying3 I (by omega))<|Bd 2 I<|AR I ((X1.memA .t1) 2 _ I)<|Ac (FV.rem8 (a:=a0.fj) (b:=(3:UInt8)) I I (by decide)) ?_
 have X7:=(a0.fj % (3:UInt8)).toNat_lt
 refine Ac (FV.convN (i:=(a0.fj % (3:UInt8)).toNat) underlying5 underlying3 I (by omega))<|Ac (AS (vs:=[vI (((a0.fh % (3:UInt8)).toNat:Nat):Int),vI (((a0.fc % (4:UInt8)).toNat:Nat):Int),vI (((a0.fj % (3:UInt8)).toNat:Nat):Int)]) (u:=.agg #[vI (((a0.fh % (3:UInt8)).toNat:Nat):Int),vI (((a0.fc % (4:UInt8)).toNat:Nat):Int),vI (((a0.fj % (3:UInt8)).toNat:Nat):Int),vN]) (e3 I I I) (fun p=>by kernel_rfl))<|RG.nl [vI 0,vI 0,vI 0,vN] X1 fun z8 v0 I4 M7=>AV [vI (((a0.fh % (3:UInt8)).toNat:Nat):Int),vI (((a0.fc % (4:UInt8)).toNat:Nat):Int),vI (((a0.fj % (3:UInt8)).toNat:Nat):Int),vN] I4 .hd (ai I) fun A8 g3 P7=>Aa<|Aj<|Af<|Ag I<|Aa<|Ax ?_
 have A2:=g3.nilRow 99 (Rep.size Tc)
 have Q7:=BW g3 99 (Rep.size Tc)
 have j3:=A2.nilRow 99 (Rep.size Tc)
 have R7:=AD (cs:=[]) (xs:=([]:List Tc)) j3 L (AJ _ _)
 obtain ⟨Z7,M5,I5⟩:=aq h
 refine MX.lf (α:=Int × (List Tc) × Vc × (List Vc)) (fun ⟨z0,X0,y0,Z0⟩=>[(1,vI a1),(2,vP t0),(4,vP u0),(5,vP v0),(6,vI z0)]) (fun ⟨z0,X0,y0,Z0⟩=>[rr w 99 Tc vN (([]:List Tc).length) [],rr w 99 Tc y0 X0.length Z0,.cells v0 [vI (((a0.fh % (3:UInt8)).toNat:Nat):Int),vI (((a0.fc % (4:UInt8)).toNat:Nat):Int),vI (((a0.fj % (3:UInt8)).toNat:Nat):Int),y0] 37,.cells u0 [vI 0,vI 0,vI 0,vN] 37,.cells t0 [.int .u8 (a0.fh.toNat:Int),.int .u8 (a0.fc.toNat:Int),.int .u8 (a0.fj.toNat:Int),.int .u8 (a0.fu.toNat:Int),v0_4] 27]) (fun ⟨z0,X0,y0,Z0⟩ c4=>Cells c4 (bl [rr w 99 Tc vN (([]:List Tc).length) [],rr w 99 Tc y0 X0.length Z0,.cells v0 [vI (((a0.fh % (3:UInt8)).toNat:Nat):Int),vI (((a0.fc % (4:UInt8)).toNat:Nat):Int),vI (((a0.fj % (3:UInt8)).toNat:Nat):Int),y0] 37,.cells u0 [vI 0,vI 0,vI 0,vN] 37,.cells t0 [.int .u8 (a0.fh.toNat:Int),.int .u8 (a0.fc.toNat:Int),.int .u8 (a0.fj.toNat:Int),.int .u8 (a0.fu.toNat:Int),v0_4] 27] ++ L) Z0 X0) (fun ⟨z0,X0,y0,Z0⟩=>(z0,X0)) (0,([]:List Tc),vN,[]) M5 j3 (AB (AD (cs:=[]) (xs:=([]:List Tc)) A2 L (AJ _ _)) (BW A2 99 (Rep.size Tc))) ?_
 rintro t7 ⟨z0,X0,y0,Z0⟩ c4 y4 I1 c5 E3 h
 unfold ab_l3 at h
 try dsimp only at h
 refine Aj<|Af<|Ae I<|Ae I<|Ac (BO (i:=z0) (j:=a1) I I)<|Aa<|AQ I h (fun p4 h=>?_) (fun p4 h=>?_)
 refine Ar<|Aj<|Ax<|Aj<|du 18 fun c0 q0=>Rv 0 c0 I q0 (fun _=>Ai I)<|bk h fun H6 R5 h=>Rv 1 c0 I q0 (fun _=>FV.remc (i:=z0) (j:=26) I I R5)<|bk h fun D0 U5 h=>Rv 2 c0 I q0 (fun _=>Bw (i:=97) (j:=H6) I I U5)<|Rv 3 c0 I q0 (fun _=>FV.convU8 (i:=D0) underlying3 underlying5 I)<|Rv 4 c0 I q0 (fun _=>Ai I)<|bk h fun I6 V5 h=>Rv 5 c0 I q0 (fun _=>FV.quoc (i:=z0) (j:=26) I I V5)<|bk h fun J6 W5 h=>Rv 6 c0 I q0 (fun _=>FV.remc (i:=I6) (j:=26) I I W5)<|bk h fun s0 X5 h=>Rv 7 c0 I q0 (fun _=>Bw (i:=97) (j:=J6) I I X5)<|Rv 8 c0 I q0 (fun _=>FV.convU8 (i:=s0) underlying3 underlying5 I)<|Rx 12 360448 c0 I q0 (AH I (I1.memA .t4))<|Rv 13 c0 I q0 (fun _=>Ai I)<|bk h fun c8 Y5 h=>Rv 14 c0 I q0 (fun _=>FV.mulc (i:=9) (j:=z0) I I Y5)<|bk h fun g0 D6 h=>BV 15 61951 327680 (vI g0) c0 I q0 (bd 62) I (e2 I I) (fun p q=>aT_c n (I1.hL0 hL q) a0 (I1.k0 h0_4 q) D6) I<|bk h fun j0 Z3 h=>RD.mo (α:=Nat) (fun G1=>[(1,vI a1),(2,vP t0),(4,vP u0),(5,vP v0),(6,vI z0),(44,.agg #[.string j0,vI g0,vN,vN,vN,.bool false]),(7,vP G1)]) (fun G1=>[.cells G1 [.string ⟨#[]⟩,vI 0,vN,vN,vN,.bool false] 99,rr w 99 Tc vN (([]:List Tc).length) [],rr w 99 Tc y0 X0.length Z0,.cells v0 [vI (((a0.fh % (3:UInt8)).toNat:Nat):Int),vI (((a0.fc % (4:UInt8)).toNat:Nat):Int),vI (((a0.fj % (3:UInt8)).toNat:Nat):Int),y0] 37,.cells u0 [vI 0,vI 0,vI 0,vN] 37,.cells t0 [.int .u8 (a0.fh.toNat:Int),.int .u8 (a0.fc.toNat:Int),.int .u8 (a0.fj.toNat:Int),.int .u8 (a0.fu.toNat:Int),v0_4] 27]) I1 1 262143 ?_ ?_
 rintro G1 P8 J4 d5
 try dsimp only
 refine BG 18 524287 c0 I I .plain (AE (news:=[.string j0,vI g0,vN,vN,vN,.bool false]) J4 .hd I I I I I I (ai I)) fun B8 Q1 g5=>AN (dk c0)<|Af<|Ac (AH I (Q1.memA .t5))<|Bd 0 I<|AR I ((Q1.memA .t3) 0 _ I)<|Ae I<|bk h fun K6 Z5 h=>Ac (FV.mulc (i:=9) (j:=z0) I I Z5)<|bk h fun d8 b6 h=>Ac (Bw (i:=K6) (j:=1) I I b6)<|Bd 1 I<|AR I ((Q1.memA .hd) 1 _ I)<|bk h fun s2 E6 h=>jE (bd 63) I (e4 I I I I) (fun p q=>aD_c n (Q1.hL hL q) a0 (Q1.km h0_4 q) E6) I fun C8 W0 u5 ⟨k8,hu_,c2⟩=>?_
 subst hu_
 obtain ⟨K4,j5⟩:=Q1.agr u5
 refine Bd 2 I<|RG.now .plain (BT (j:=2) (old:=[.string j0,vI g0,vN,vN,vN,.bool false]) (news:=[W0]) (new' :=[.string j0,vI g0,W0,vN,vN,.bool false]) K4 .hd I I I (Rep.c1 c2) I I (o1 (AY c2)) I) fun D8 R1 v3=>Aa<|Af<|Ac (AH I (R1.memA .t5))<|Bd 1 I<|AR I ((R1.memA .t3) 1 _ I)<|Ae I<|bk h fun M6 c6 h=>Ac (FV.mulc (i:=9) (j:=z0) I I c6)<|bk h fun g8 d6 h=>Ac (Bw (i:=M6) (j:=3) I I d6)<|bk h fun u2 F6 h=>jE (bd 63) I (e4 I I I I) (fun p q=>aD_c n (R1.hL hL q) a0 (R1.km h0_4 q) F6) I fun E8 A1 v5 ⟨p8,hu_,g2⟩=>?_
 subst hu_
 obtain ⟨M4,x3⟩:=R1.agr v5
 refine Bd 3 I<|RG.now .plain (BT (j:=3) (old:=[.string j0,vI g0,W0,vN,vN,.bool false]) (news:=[A1]) (new' :=[.string j0,vI g0,W0,A1,vN,.bool false]) M4 .hd I I I (Rep.c1 g2) I I (o1 (AY g2)) I) fun F8 k3 V2=>Aa<|Aj<|Af<|Ag I<|Aa<|Ax ?_
 have p3:=k3.nilRow 3 (Rep.size Int)
 have W2:=BW k3 3 (Rep.size Int)
 obtain ⟨b8,P5,J5⟩:=aq h
 refine MX.lf (α:=Nat × (List Int) × Vc × (List Vc)) (fun ⟨y1,R0,K0,H1⟩=>[(1,vI a1),(2,vP t0),(4,vP u0),(5,vP v0),(6,vI z0),(7,vP G1),(8,vn y1)]) (fun ⟨y1,R0,K0,H1⟩=>[rr w 3 Int K0 R0.length H1,.cells G1 [.string j0,vI g0,W0,A1,K0,.bool false] 99,rr w 99 Tc vN (([]:List Tc).length) [],rr w 99 Tc y0 X0.length Z0,.cells v0 [vI (((a0.fh % (3:UInt8)).toNat:Nat):Int),vI (((a0.fc % (4:UInt8)).toNat:Nat):Int),vI (((a0.fj % (3:UInt8)).toNat:Nat):Int),y0] 37,.cells u0 [vI 0,vI 0,vI 0,vN] 37,.cells t0 [.int .u8 (a0.fh.toNat:Int),.int .u8 (a0.fc.toNat:Int),.int .u8 (a0.fj.toNat:Int),.int .u8 (a0.fu.toNat:Int),v0_4] 27]) (fun ⟨y1,R0,K0,H1⟩ d4=>Cells d4 (bl [rr w 3 Int K0 R0.length H1,.cells G1 [.string j0,vI g0,W0,A1,K0,.bool false] 99,rr w 99 Tc vN (([]:List Tc).length) [],rr w 99 Tc y0 X0.length Z0,.cells v0 [vI (((a0.fh % (3:UInt8)).toNat:Nat):Int),vI (((a0.fc % (4:UInt8)).toNat:Nat):Int),vI (((a0.fj % (3:UInt8)).toNat:Nat):Int),y0] 37,.cells u0 [vI 0,vI 0,vI 0,vN] 37,.cells t0 [.int .u8 (a0.fh.toNat:Int),.int .u8 (a0.fc.toNat:Int),.int .u8 (a0.fj.toNat:Int),.int .u8 (a0.fu.toNat:Int),v0_4] 27] ++ L) H1 R0) (fun ⟨y1,R0,K0,H1⟩=>(y1,R0)) (0,([]:List Int),vN,[]) P5 p3 (AD (cs:=[]) (xs:=([]:List Int)) p3 L (AJ _ _)) ?_
 rintro u7 ⟨y1,R0,K0,H1⟩ d4 z4 b1 Z1 F3 h
 unfold ab_l1 at h
 try dsimp only at h
 refine Aj<|Af<|Ae I<|Bd 2 I<|AR I ((b1.memA .t4) 2 _ I)<|Ac (Bp (i:=y1) (j:=(a0.fj % (3:UInt8)).toNat) I I)<|Aa<|AQ I h (fun q4 h=>?_) (fun q4 h=>?_)
 refine Ar<|Aj<|Ax<|du 11 fun x0 g1=>Rv 0 x0 I g1 (fun _=>Bi 4 I)<|Rx 1 14336 x0 I g1 (AP I ((b1.memA .t1) 4 _ I))<|Rx 2 16128 x0 I g1 (AH I (b1.memA .t6))<|Rv 3 x0 I g1 (fun _=>Ai I)<|bk h fun P6 g6 h=>Rv 4 x0 I g1 (fun _=>FV.mulc (i:=9) (j:=z0) I I g6)<|bk h fun Q6 j6 h=>Rv 5 x0 I g1 (fun _=>Bw (i:=P6) (j:=7) I I j6)<|Rv 6 x0 I g1 (fun _=>Ai I)<|bk h fun j8 k6 h=>Rv 7 x0 I g1 (fun _=>Bw (i:=Q6) (j:=((y1:Nat):Int)) I I k6)<|bk h fun g4 G6 h=>BV 8 511 15872 (vI g4) x0 I g1 (bd 62) I (e2 I I) (fun p q=>aT_c n (b1.hL0 hL q) a0 (b1.k0 h0_4 q) G6) I<|bk h fun K1 p6 h=>Rv 9 x0 I g1 (fun _=>FV.remc (i:=g4) (j:=3) I I p6)<|BS 10 2047 x0 I .plain I (jA K1 (vI K1) b1 ay (e1 I)) fun G8 x7 C2 y3=>bk h fun X6 B6 h=>BM (i:=11) (rk x0) (BI (m' :=4095) (sk x0) I I .plain I (Bf (α:=Int) (ys:=([K1]:List Int)) B6 C2 (fun _ _=>.t1) ay I I (AB F3 y3) (Src.row (α:=Int) C2 .hd (jC K1 (vI K1) C2 L I))) (fun Z2 H8 ⟨u4,D2,k5,C5⟩=>?_))
 refine Rv 12 x0 I g1 (fun _=>Bi 4 I)<|BG 13 16383 x0 I I .plain (BT (j:=4) (old:=[.string j0,vI g0,W0,A1,K0,.bool false]) (news:=[Z2]) (new' :=[.string j0,vI g0,W0,A1,Z2,.bool false]) D2 .t2 I I I (St.c1 (α:=Int) D2 .t1) I I (o1 (St.o1 (α:=Int) D2 .t1)) I) fun I8 P4 z3=>AN (dk x0)<|AC<|Ap<|Ae I<|Ac (Bl (i:=y1) (j:=1) I I (by omega))<|Ag I<|Aa ?_
 obtain ⟨Q4,A3⟩:=AK P4 .d1
 exact z4 (y1 + 1,X6,Z2,u4) Q4 (Tt Z1 (Tt y3 (Tt k5 (Tt z3 A3)))) (AB C5 (Tt z3 A3)) h
 refine AX I ?_
 have h:=J5 _ h
 try dsimp only at h
 refine Ap<|Bd 3 I<|AR I ((b1.memA .t4) 3 _ I)<|Ac (AH I (b1.memA .t1)) ?_
 have q3:=BA b1 .hd
 have X2:=BB b1 .hd
 have Y3:=BC (α:=Int) (v:=K0) (xs:=R0) q3 L (Bg (α:=Int) b1 .hd F3 hL)
 have Q3:=Tt v3 (Tt x3 (Tt V2 (Tt W2 (Tt Z1 X2))))
 have R3:=Tt V2 (Tt W2 (Tt Z1 X2))
 obtain ⟨k7,F7,x6,_⟩:=BR (Ao c2 Q3)
 obtain ⟨p7,G7,y6,_⟩:=BR (Ao g2 R3)
 obtain ⟨q7,H7,z6,_⟩:=BR Y3
 refine Al .plain I (AL (α:=Tc) (xs:=([(⟨j0,g0,s2,u2,R0,false⟩:Tc)]:List Tc)) (vs:=[.agg #[.string j0,vI g0,W0,A1,K0,.bool false]]) (ds' :=[.string j0,vI g0,W0,A1,K0,.bool false]) I q3 jR I (e1 I) (by rw [x6,y6,z6]; try kernel_rfl) I) fun J8 y7 E2 b2=>bk h fun Y6 C6 h=>?_
 have U3:=Tt d5 (Tt g5 (Tt j5 (Tt v3 (Tt x3 (Tt V2 (Tt W2 (Tt Z1 (Tt X2 b2))))))))
 refine RG.doesL .plain I (Bf (α:=Tc) (ys:=([(⟨j0,g0,s2,u2,R0,false⟩:Tc)]:List Tc)) C6 E2 (fun _ _=>.t3) jR I I (AB E3 U3) (Src.row (α:=Tc) E2 .hd (AD (cs:=[.string j0,vI g0,W0,A1,K0,.bool false]) (xs:=(([(⟨j0,g0,s2,u2,R0,false⟩:Tc)]:List Tc):List Tc)) E2 L (Av (cs:=[.string j0,vI g0,W0,A1,K0,.bool false]) (ds:=[]) (ea j0 g0 s2 (Ao c2 (Tt Q3 b2)) u2 (Ao g2 (Tt R3 b2)) R0 (Ao Y3 b2) false) (AJ _ _))))) fun b3 K8 ⟨v4,F2,p5,D5⟩=>Bd 3 I<|RG.now .plain (BT (j:=3) (old:=[vI (((a0.fh % (3:UInt8)).toNat:Nat):Int),vI (((a0.fc % (4:UInt8)).toNat:Nat):Int),vI (((a0.fj % (3:UInt8)).toNat:Nat):Int),y0]) (news:=[b3]) (new' :=[vI (((a0.fh % (3:UInt8)).toNat:Nat):Int),vI (((a0.fc % (4:UInt8)).toNat:Nat):Int),vI (((a0.fj % (3:UInt8)).toNat:Nat):Int),b3]) F2 .t4 I I I (St.c1 (α:=Tc) F2 .t3) I I (o1 (St.o1 (α:=Tc) F2 .t3)) I) fun M8 R4 B3=>Aa<|AC<|Ap<|Ae I<|bk h fun R6 q6 h=>Ac (Bw (i:=z0) (j:=1) I I q6)<|Ag I<|Aa ?_
 obtain ⟨U4,C3⟩:=AK R4 .d2
 exact y4 (R6,Y6,b3,v4) U4 (Tt c5 (Tt U3 (Tt p5 (Tt B3 C3)))) (AB D5 (Tt B3 C3)) h
 intro c3
 refine Bz [9,17] (rk c0) ⟨?_,?_,trivial⟩
 refine BH (m' :=62463) (sk c0) I .plain I (AL (α:=UInt8) (xs:=([aN D0,aN s0]:List UInt8)) (vs:=[.int .u8 ((aN D0).toNat:Int),.int .u8 ((aN s0).toNat:Int)]) (ds' :=[.int .u8 ((aN D0).toNat:Int),.int .u8 ((aN s0).toNat:Int)]) I I1 el22 I (e2 I I) (by kernel_rfl) I) fun U6 j4 J1 R2=>?_
 have B5:=AD (cs:=[.int .u8 ((aN D0).toNat:Int),.int .u8 ((aN s0).toNat:Int)]) (xs:=(([aN D0,aN s0]:List UInt8):List UInt8)) J1 L (Av (cs:=[.int .u8 ((aN D0).toNat:Int)]) (ds:=[.int .u8 ((aN s0).toNat:Int)]) I (Av (cs:=[.int .u8 ((aN s0).toNat:Int)]) (ds:=[]) I (AJ _ _)))
 refine Rx 10 329728 c0 I q0 (FV.bytesS (xs:=([aN D0,aN s0]:List UInt8)) underlying22 underlying9 underlying5 I (Src.row (α:=UInt8) J1 .hd B5))<|Rv 11 c0 I q0 (fun _=>FV.addS Z3 I I)<|Rv 16 c0 I q0 (fun _=>AS (vs:=[.string j0,vI g0]) (u:=.agg #[.string j0,vI g0,vN,vN,vN,.bool false]) (e2 I I) (fun p=>by kernel_rfl))<|BS 17 262143 c0 I .plain I (Az [.string ⟨#[]⟩,vI 0,vN,vN,vN,.bool false] J1) fun V6 v2 B2 U2=>?_
 obtain ⟨V4,q5⟩:=AK B2 (.a0 .d1)
 exact c3 v2 V4 (Tt R2 (Tt U2 q5))
 refine BH (m' :=193023) (sk c0) I .plain I (Az [.string ⟨#[]⟩,vI 0,vN,vN,vN,.bool false] I1) fun V6 v2 B2 U2=>BS 9 193535 c0 I .plain I (AL (α:=UInt8) (xs:=([aN D0,aN s0]:List UInt8)) (vs:=[.int .u8 ((aN D0).toNat:Int),.int .u8 ((aN s0).toNat:Int)]) (ds' :=[.int .u8 ((aN D0).toNat:Int),.int .u8 ((aN s0).toNat:Int)]) I B2 el22 I (e2 I I) (by kernel_rfl) I) fun U6 j4 J1 R2=>Rx 10 329728 c0 I q0 (FV.bytesS (xs:=([aN D0,aN s0]:List UInt8)) underlying22 underlying9 underlying5 I (Src.row (α:=UInt8) J1 .hd (AD (cs:=[.int .u8 ((aN D0).toNat:Int),.int .u8 ((aN s0).toNat:Int)]) (xs:=(([aN D0,aN s0]:List UInt8):List UInt8)) J1 L (Av (cs:=[.int .u8 ((aN D0).toNat:Int)]) (ds:=[.int .u8 ((aN s0).toNat:Int)]) I (Av (cs:=[.int .u8 ((aN s0).toNat:Int)]) (ds:=[]) I (AJ _ _))))))<|Rv 11 c0 I q0 (fun _=>FV.addS Z3 I I)<|Rv 16 c0 I q0 (fun _=>AS (vs:=[.string j0,vI g0]) (u:=.agg #[.string j0,vI g0,vN,vN,vN,.bool false]) (e2 I I) (fun p=>by kernel_rfl)) ?_
 obtain ⟨W4,s5⟩:=AK J1 .d1
 exact c3 v2 W4 (Tt U2 (Tt R2 s5))
 refine AX I ?_
 have h:=I5 _ h
 try dsimp only at h
 refine Aj<|Af<|Ag I<|Aa<|Ax ?_
 obtain ⟨Y7,K5,H5⟩:=aq h
 refine MX.lf (α:=Nat × (List Tc) × Vc × (List Vc)) (fun ⟨x1,Q0,p0,Y0⟩=>[(2,vP t0),(4,vP u0),(5,vP v0),(9,vn x1)]) (fun ⟨x1,Q0,p0,Y0⟩=>[rr w 99 Tc vN (([]:List Tc).length) [],rr w 99 Tc p0 Q0.length Y0,.cells v0 [vI (((a0.fh % (3:UInt8)).toNat:Nat):Int),vI (((a0.fc % (4:UInt8)).toNat:Nat):Int),vI (((a0.fj % (3:UInt8)).toNat:Nat):Int),p0] 37,.cells u0 [vI 0,vI 0,vI 0,vN] 37,.cells t0 [.int .u8 (a0.fh.toNat:Int),.int .u8 (a0.fc.toNat:Int),.int .u8 (a0.fj.toNat:Int),.int .u8 (a0.fu.toNat:Int),v0_4] 27]) (fun ⟨x1,Q0,p0,Y0⟩ b4=>Cells b4 (bl [rr w 99 Tc vN (([]:List Tc).length) [],rr w 99 Tc p0 Q0.length Y0,.cells v0 [vI (((a0.fh % (3:UInt8)).toNat:Nat):Int),vI (((a0.fc % (4:UInt8)).toNat:Nat):Int),vI (((a0.fj % (3:UInt8)).toNat:Nat):Int),p0] 37,.cells u0 [vI 0,vI 0,vI 0,vN] 37,.cells t0 [.int .u8 (a0.fh.toNat:Int),.int .u8 (a0.fc.toNat:Int),.int .u8 (a0.fj.toNat:Int),.int .u8 (a0.fu.toNat:Int),v0_4] 27] ++ L) Y0 Q0) (fun ⟨x1,Q0,p0,Y0⟩=>(x1,Q0)) (0,X0,y0,Z0) K5 I1 E3 ?_
 rintro s7 ⟨x1,Q0,p0,Y0⟩ b4 x4 U0 X4 D3 h
 unfold ab_l2 at h
 try dsimp only at h
 refine Aj<|Af<|Ae I<|Bd 3 I<|AR I ((U0.memA .t4) 3 _ I)<|Ac (FV.rem8 (a:=a0.fu) (b:=(2:UInt8)) I I (by decide)) ?_
 have U7:=(a0.fu % (2:UInt8)).toNat_lt
 refine Ac (FV.convN (i:=(a0.fu % (2:UInt8)).toNat) underlying5 underlying3 I (by omega))<|Ac (Bp (i:=x1) (j:=(a0.fu % (2:UInt8)).toNat) I I)<|Aa<|AQ I h (fun k4 h=>?_) (fun k4 h=>?_)
 refine Ar<|Aj<|Ax<|du 13 fun b0 z1=>Rv 0 b0 I z1 (fun _=>Bi 3 I)<|Rx 1 57344 b0 I z1 (AP I ((U0.memA .t2) 3 _ I))<|Rv 2 b0 I z1 (fun _=>Bi 0 I)<|Rx 3 63504 b0 I z1 (AP I ((U0.memA .t2) 0 _ I))<|Rv 5 b0 I z1 (fun _=>Bi 1 I)<|Rx 6 63616 b0 I z1 (AP I ((U0.memA .t2) 1 _ I))<|Rv 8 b0 I z1 (fun _=>Bi 2 I)<|Rx 9 64512 b0 I z1 (AP I ((U0.memA .t2) 2 _ I))<|bk h fun H0 s1 h=>bk h fun I0 u1 h=>bk h fun J0 v1 h=>RD.mf (α:=Vc × (List Vc) × Vc × (List Vc) × Vc × (List Vc)) (fun ⟨E0,B1,F0,C1,G0,D1⟩=>[(2,vP t0),(4,vP u0),(5,vP v0),(9,vn x1),(97,p0),(100,G0),(103,F0),(106,E0)]) (fun ⟨E0,B1,F0,C1,G0,D1⟩=>[rr w 3 Int E0 J0.length B1,rr w 3 Int F0 I0.length C1,rr w 3 Int G0 H0.length D1,rr w 99 Tc vN (([]:List Tc).length) [],rr w 99 Tc p0 Q0.length Y0,.cells v0 [vI (((a0.fh % (3:UInt8)).toNat:Nat):Int),vI (((a0.fc % (4:UInt8)).toNat:Nat):Int),vI (((a0.fj % (3:UInt8)).toNat:Nat):Int),p0] 37,.cells u0 [vI 0,vI 0,vI 0,vN] 37,.cells t0 [.int .u8 (a0.fh.toNat:Int),.int .u8 (a0.fc.toNat:Int),.int .u8 (a0.fj.toNat:Int),.int .u8 (a0.fu.toNat:Int),v0_4] 27]) (fun ⟨E0,B1,F0,C1,G0,D1⟩ q2=>Cells q2 (bl [rr w 3 Int E0 J0.length B1,rr w 3 Int F0 I0.length C1,rr w 3 Int G0 H0.length D1,rr w 99 Tc vN (([]:List Tc).length) [],rr w 99 Tc p0 Q0.length Y0,.cells v0 [vI (((a0.fh % (3:UInt8)).toNat:Nat):Int),vI (((a0.fc % (4:UInt8)).toNat:Nat):Int),vI (((a0.fj % (3:UInt8)).toNat:Nat):Int),p0] 37,.cells u0 [vI 0,vI 0,vI 0,vN] 37,.cells t0 [.int .u8 (a0.fh.toNat:Int),.int .u8 (a0.fc.toNat:Int),.int .u8 (a0.fj.toNat:Int),.int .u8 (a0.fu.toNat:Int),v0_4] 27] ++ L) B1 (J0:List Int)/\Cells q2 (bl [rr w 3 Int E0 J0.length B1,rr w 3 Int F0 I0.length C1,rr w 3 Int G0 H0.length D1,rr w 99 Tc vN (([]:List Tc).length) [],rr w 99 Tc p0 Q0.length Y0,.cells v0 [vI (((a0.fh % (3:UInt8)).toNat:Nat):Int),vI (((a0.fc % (4:UInt8)).toNat:Nat):Int),vI (((a0.fj % (3:UInt8)).toNat:Nat):Int),p0] 37,.cells u0 [vI 0,vI 0,vI 0,vN] 37,.cells t0 [.int .u8 (a0.fh.toNat:Int),.int .u8 (a0.fc.toNat:Int),.int .u8 (a0.fj.toNat:Int),.int .u8 (a0.fu.toNat:Int),v0_4] 27] ++ L) C1 (I0:List Int)/\Cells q2 (bl [rr w 3 Int E0 J0.length B1,rr w 3 Int F0 I0.length C1,rr w 3 Int G0 H0.length D1,rr w 99 Tc vN (([]:List Tc).length) [],rr w 99 Tc p0 Q0.length Y0,.cells v0 [vI (((a0.fh % (3:UInt8)).toNat:Nat):Int),vI (((a0.fc % (4:UInt8)).toNat:Nat):Int),vI (((a0.fj % (3:UInt8)).toNat:Nat):Int),p0] 37,.cells u0 [vI 0,vI 0,vI 0,vN] 37,.cells t0 [.int .u8 (a0.fh.toNat:Int),.int .u8 (a0.fc.toNat:Int),.int .u8 (a0.fj.toNat:Int),.int .u8 (a0.fu.toNat:Int),v0_4] 27] ++ L) D1 (H0:List Int)) U0 5 2047 ?_ ?_
 rintro ⟨E0,B1,F0,C1,G0,D1⟩ q2 P1 Y4 ⟨x5,y5,z5⟩
 try dsimp only
 obtain ⟨Z6,z7,E5⟩:=St.rowV (α:=Int) P1 .t2
 obtain ⟨b7,A7,F5⟩:=St.rowV (α:=Int) P1 .t1
 obtain ⟨c7,B7,G5⟩:=St.rowV (α:=Int) P1 .hd
 refine Rv 11 b0 I z1 (fun _=>AS (vs:=[.string ⟨#[115,101,97]⟩,.bool true,G0,F0,E0]) (u:=.agg #[.string ⟨#[115,101,97]⟩,vI 0,G0,F0,E0,.bool true]) (e5 I I I I I) (fun p=>by rw [E5,F5,G5]; try kernel_rfl)) ?_
 have U1:=BA P1 .t2
 have G2:=BB P1 .t2
 have V3:=BC (α:=Int) (v:=G0) (xs:=H0) U1 L (Bg (α:=Int) P1 .t2 z5 hL)
 have V1:=BA U1 .t1
 have H2:=BB U1 .t1
 have W3:=BC (α:=Int) (v:=F0) (xs:=I0) V1 L (Bg (α:=Int) U1 .t1 (AB y5 G2) hL)
 have d3:=BA V1 .hd
 have Y1:=BB V1 .hd
 have X3:=BC (α:=Int) (v:=E0) (xs:=J0) d3 L (Bg (α:=Int) V1 .hd (AB x5 (Tt G2 H2)) hL)
 obtain ⟨d7,C7,s6,_⟩:=BR (Ao V3 (Tt H2 Y1))
 obtain ⟨g7,D7,u6,_⟩:=BR (Ao W3 Y1)
 obtain ⟨j7,E7,v6,_⟩:=BR X3
 refine BS 12 8191 b0 I .plain I (AL (α:=Tc) (xs:=([(⟨⟨#[115,101,97]⟩,(0:Int),H0,I0,J0,true⟩:Tc)]:List Tc)) (vs:=[.agg #[.string ⟨#[115,101,97]⟩,vI 0,G0,F0,E0,.bool true]]) (ds' :=[.string ⟨#[115,101,97]⟩,vI 0,G0,F0,E0,.bool true]) I d3 jR I (e1 I) (by rw [s6,u6,v6]; try kernel_rfl) I) fun s8 v7 x2 I2=>?_
 have G3:=Tt H2 (Tt Y1 I2)
 refine bk h fun W6 A6 h=>?_
 have H3:=Tt Y4 (Tt G2 G3)
 refine BM (i:=13) (rk b0) (BI (m' :=16383) (sk b0) I I .plain I (Bf (α:=Tc) (ys:=([(⟨⟨#[115,101,97]⟩,(0:Int),H0,I0,J0,true⟩:Tc)]:List Tc)) A6 x2 (fun _ _=>.t2) jR I I (AB D3 H3) (Src.row (α:=Tc) x2 .hd (AD (cs:=[.string ⟨#[115,101,97]⟩,vI 0,G0,F0,E0,.bool true]) (xs:=(([(⟨⟨#[115,101,97]⟩,(0:Int),H0,I0,J0,true⟩:Tc)]:List Tc):List Tc)) x2 L (Av (cs:=[.string ⟨#[115,101,97]⟩,vI 0,G0,F0,E0,.bool true]) (ds:=[]) (ea ⟨#[115,101,97]⟩ (0:Int) H0 (Ao V3 G3) I0 (Ao W3 (Tt Y1 I2)) J0 (Ao X3 I2) true) (AJ _ _))))) (fun Y2 t8 ⟨s4,y2,Z4,A5⟩=>?_))
 refine Rv 14 b0 I z1 (fun _=>Bi 3 I)<|BG 15 65535 b0 I I .plain (BT (j:=3) (old:=[vI (((a0.fh % (3:UInt8)).toNat:Nat):Int),vI (((a0.fc % (4:UInt8)).toNat:Nat):Int),vI (((a0.fj % (3:UInt8)).toNat:Nat):Int),p0]) (news:=[Y2]) (new' :=[vI (((a0.fh % (3:UInt8)).toNat:Nat):Int),vI (((a0.fc % (4:UInt8)).toNat:Nat):Int),vI (((a0.fj % (3:UInt8)).toNat:Nat):Int),Y2]) y2 .t3 I I I (St.c1 (α:=Tc) y2 .t2) I I (o1 (St.o1 (α:=Tc) y2 .t2)) I) fun v8 A4 s3=>AN (dk b0)<|AC<|Ap<|Ae I<|Ac (Bl (i:=x1) (j:=1) I I (by omega))<|Ag I<|Aa ?_
 obtain ⟨B4,u3⟩:=AK A4 .d1
 exact x4 (x1 + 1,W6,Y2,s4) B4 (Tt X4 (Tt H3 (Tt Z4 (Tt s3 u3)))) (AB A5 (Tt s3 u3)) h
 intro M1
 refine Bz [4,7,10] (rk b0) ⟨?_,?_,?_,trivial⟩
 refine BH (m' :=895) (sk b0) I .plain I (Does.mk (α:=Int) s1 U0 ay I) fun j2 j1 A0 V0=>?_
 have E1:=AD (cs:=(List.replicate (((a0.fh % (3:UInt8)).toNat:Nat):Int).toNat [vI 0]).flatten) (xs:=H0) A0 L (BY s1 I)
 refine Bz [7,10] (rk b0) ⟨?_,?_,trivial⟩
 refine BH (m' :=1023) (sk b0) I .plain I (Does.mk (α:=Int) u1 A0 ay I) fun k2 k1 B0 M0=>?_
 have F1:=AD (cs:=(List.replicate (((a0.fc % (4:UInt8)).toNat:Nat):Int).toNat [vI 0]).flatten) (xs:=I0) B0 L (BY u1 I)
 refine BS 10 2047 b0 I .plain I (Does.mk (α:=Int) v1 B0 ay I) fun p2 p1 C0 P0=>?_
 have q1:=AD (cs:=(List.replicate (((a0.fj % (3:UInt8)).toNat:Nat):Int).toNat [vI 0]).flatten) (xs:=J0) C0 L (BY v1 I)
 exact M1 ((.slice (some ⟨p1,0,none⟩) (((a0.fj % (3:UInt8)).toNat:Nat):Int).toNat (((a0.fj % (3:UInt8)).toNat:Nat):Int).toNat),(List.replicate (((a0.fj % (3:UInt8)).toNat:Nat):Int).toNat [vI 0]).flatten,(.slice (some ⟨k1,0,none⟩) (((a0.fc % (4:UInt8)).toNat:Nat):Int).toNat (((a0.fc % (4:UInt8)).toNat:Nat):Int).toNat),(List.replicate (((a0.fc % (4:UInt8)).toNat:Nat):Int).toNat [vI 0]).flatten,(.slice (some ⟨j1,0,none⟩) (((a0.fh % (3:UInt8)).toNat:Nat):Int).toNat (((a0.fh % (3:UInt8)).toNat:Nat):Int).toNat),(List.replicate (((a0.fh % (3:UInt8)).toNat:Nat):Int).toNat [vI 0]).flatten) C0 (Tt V0 (Tt M0 P0)) ⟨q1,(AB F1 P0),(AB E1 (Tt M0 P0))⟩
 refine BH (m' :=1919) (sk b0) I .plain I (Does.mk (α:=Int) v1 A0 ay I) fun p2 p1 C0 P0=>?_
 have q1:=AD (cs:=(List.replicate (((a0.fj % (3:UInt8)).toNat:Nat):Int).toNat [vI 0]).flatten) (xs:=J0) C0 L (BY v1 I)
 refine BS 7 2047 b0 I .plain I (Does.mk (α:=Int) u1 C0 ay I) fun k2 k1 B0 M0=>?_
 have F1:=AD (cs:=(List.replicate (((a0.fc % (4:UInt8)).toNat:Nat):Int).toNat [vI 0]).flatten) (xs:=I0) B0 L (BY u1 I)
 obtain ⟨C4,J2⟩:=AK B0 (.a1 .d0)
 have I3:=Tt P0 (Tt M0 J2)
 exact M1 ((.slice (some ⟨p1,0,none⟩) (((a0.fj % (3:UInt8)).toNat:Nat):Int).toNat (((a0.fj % (3:UInt8)).toNat:Nat):Int).toNat),(List.replicate (((a0.fj % (3:UInt8)).toNat:Nat):Int).toNat [vI 0]).flatten,(.slice (some ⟨k1,0,none⟩) (((a0.fc % (4:UInt8)).toNat:Nat):Int).toNat (((a0.fc % (4:UInt8)).toNat:Nat):Int).toNat),(List.replicate (((a0.fc % (4:UInt8)).toNat:Nat):Int).toNat [vI 0]).flatten,(.slice (some ⟨j1,0,none⟩) (((a0.fh % (3:UInt8)).toNat:Nat):Int).toNat (((a0.fh % (3:UInt8)).toNat:Nat):Int).toNat),(List.replicate (((a0.fh % (3:UInt8)).toNat:Nat):Int).toNat [vI 0]).flatten) C4 (Tt V0 I3) ⟨(AB q1 (Tt M0 J2)),(AB F1 J2),(AB E1 I3)⟩
 refine BH (m' :=1007) (sk b0) I .plain I (Does.mk (α:=Int) u1 U0 ay I) fun k2 k1 B0 M0=>?_
 have F1:=AD (cs:=(List.replicate (((a0.fc % (4:UInt8)).toNat:Nat):Int).toNat [vI 0]).flatten) (xs:=I0) B0 L (BY u1 I)
 refine Bz [4,10] (rk b0) ⟨?_,?_,trivial⟩
 refine BH (m' :=1023) (sk b0) I .plain I (Does.mk (α:=Int) s1 B0 ay I) fun j2 j1 A0 V0=>?_
 have E1:=AD (cs:=(List.replicate (((a0.fh % (3:UInt8)).toNat:Nat):Int).toNat [vI 0]).flatten) (xs:=H0) A0 L (BY s1 I)
 refine BS 10 2047 b0 I .plain I (Does.mk (α:=Int) v1 A0 ay I) fun p2 p1 C0 P0=>?_
 have q1:=AD (cs:=(List.replicate (((a0.fj % (3:UInt8)).toNat:Nat):Int).toNat [vI 0]).flatten) (xs:=J0) C0 L (BY v1 I)
 obtain ⟨D4,K2⟩:=AK C0 (.a0 (.a1 .d0))
 have J3:=Tt V0 (Tt P0 K2)
 exact M1 ((.slice (some ⟨p1,0,none⟩) (((a0.fj % (3:UInt8)).toNat:Nat):Int).toNat (((a0.fj % (3:UInt8)).toNat:Nat):Int).toNat),(List.replicate (((a0.fj % (3:UInt8)).toNat:Nat):Int).toNat [vI 0]).flatten,(.slice (some ⟨k1,0,none⟩) (((a0.fc % (4:UInt8)).toNat:Nat):Int).toNat (((a0.fc % (4:UInt8)).toNat:Nat):Int).toNat),(List.replicate (((a0.fc % (4:UInt8)).toNat:Nat):Int).toNat [vI 0]).flatten,(.slice (some ⟨j1,0,none⟩) (((a0.fh % (3:UInt8)).toNat:Nat):Int).toNat (((a0.fh % (3:UInt8)).toNat:Nat):Int).toNat),(List.replicate (((a0.fh % (3:UInt8)).toNat:Nat):Int).toNat [vI 0]).flatten) D4 (Tt M0 J3) ⟨(AB q1 K2),(AB F1 J3),(AB E1 (Tt P0 K2))⟩
 refine BH (m' :=2031) (sk b0) I .plain I (Does.mk (α:=Int) v1 B0 ay I) fun p2 p1 C0 P0=>?_
 have q1:=AD (cs:=(List.replicate (((a0.fj % (3:UInt8)).toNat:Nat):Int).toNat [vI 0]).flatten) (xs:=J0) C0 L (BY v1 I)
 refine BS 4 2047 b0 I .plain I (Does.mk (α:=Int) s1 C0 ay I) fun j2 j1 A0 V0=>?_
 have E1:=AD (cs:=(List.replicate (((a0.fh % (3:UInt8)).toNat:Nat):Int).toNat [vI 0]).flatten) (xs:=H0) A0 L (BY s1 I)
 obtain ⟨E4,M2⟩:=AK A0 (.a1 (.a1 .d0))
 have K3:=Tt P0 (Tt V0 M2)
 exact M1 ((.slice (some ⟨p1,0,none⟩) (((a0.fj % (3:UInt8)).toNat:Nat):Int).toNat (((a0.fj % (3:UInt8)).toNat:Nat):Int).toNat),(List.replicate (((a0.fj % (3:UInt8)).toNat:Nat):Int).toNat [vI 0]).flatten,(.slice (some ⟨k1,0,none⟩) (((a0.fc % (4:UInt8)).toNat:Nat):Int).toNat (((a0.fc % (4:UInt8)).toNat:Nat):Int).toNat),(List.replicate (((a0.fc % (4:UInt8)).toNat:Nat):Int).toNat [vI 0]).flatten,(.slice (some ⟨j1,0,none⟩) (((a0.fh % (3:UInt8)).toNat:Nat):Int).toNat (((a0.fh % (3:UInt8)).toNat:Nat):Int).toNat),(List.replicate (((a0.fh % (3:UInt8)).toNat:Nat):Int).toNat [vI 0]).flatten) E4 (Tt M0 K3) ⟨(AB q1 (Tt V0 M2)),(AB F1 K3),(AB E1 M2)⟩
 refine BH (m' :=1903) (sk b0) I .plain I (Does.mk (α:=Int) v1 U0 ay I) fun p2 p1 C0 P0=>?_
 have q1:=AD (cs:=(List.replicate (((a0.fj % (3:UInt8)).toNat:Nat):Int).toNat [vI 0]).flatten) (xs:=J0) C0 L (BY v1 I)
 refine Bz [4,7] (rk b0) ⟨?_,?_,trivial⟩
 refine BH (m' :=1919) (sk b0) I .plain I (Does.mk (α:=Int) s1 C0 ay I) fun j2 j1 A0 V0=>?_
 have E1:=AD (cs:=(List.replicate (((a0.fh % (3:UInt8)).toNat:Nat):Int).toNat [vI 0]).flatten) (xs:=H0) A0 L (BY s1 I)
 refine BS 7 2047 b0 I .plain I (Does.mk (α:=Int) u1 A0 ay I) fun k2 k1 B0 M0=>?_
 have F1:=AD (cs:=(List.replicate (((a0.fc % (4:UInt8)).toNat:Nat):Int).toNat [vI 0]).flatten) (xs:=I0) B0 L (BY u1 I)
 obtain ⟨F4,P2⟩:=AK B0 (.a2 .d0)
 have M3:=Tt V0 (Tt M0 P2)
 exact M1 ((.slice (some ⟨p1,0,none⟩) (((a0.fj % (3:UInt8)).toNat:Nat):Int).toNat (((a0.fj % (3:UInt8)).toNat:Nat):Int).toNat),(List.replicate (((a0.fj % (3:UInt8)).toNat:Nat):Int).toNat [vI 0]).flatten,(.slice (some ⟨k1,0,none⟩) (((a0.fc % (4:UInt8)).toNat:Nat):Int).toNat (((a0.fc % (4:UInt8)).toNat:Nat):Int).toNat),(List.replicate (((a0.fc % (4:UInt8)).toNat:Nat):Int).toNat [vI 0]).flatten,(.slice (some ⟨j1,0,none⟩) (((a0.fh % (3:UInt8)).toNat:Nat):Int).toNat (((a0.fh % (3:UInt8)).toNat:Nat):Int).toNat),(List.replicate (((a0.fh % (3:UInt8)).toNat:Nat):Int).toNat [vI 0]).flatten) F4 (Tt P0 M3) ⟨(AB q1 M3),(AB F1 P2),(AB E1 (Tt M0 P2))⟩
 refine BH (m' :=2031) (sk b0) I .plain I (Does.mk (α:=Int) u1 C0 ay I) fun k2 k1 B0 M0=>BS 4 2047 b0 I .plain I (Does.mk (α:=Int) s1 B0 ay I) fun j2 j1 A0 V0=>?_
 obtain ⟨G4,Q2⟩:=AK A0 (.a2 (.a1 .d0))
 have P3:=Tt M0 (Tt V0 Q2)
 exact M1 ((.slice (some ⟨p1,0,none⟩) (((a0.fj % (3:UInt8)).toNat:Nat):Int).toNat (((a0.fj % (3:UInt8)).toNat:Nat):Int).toNat),(List.replicate (((a0.fj % (3:UInt8)).toNat:Nat):Int).toNat [vI 0]).flatten,(.slice (some ⟨k1,0,none⟩) (((a0.fc % (4:UInt8)).toNat:Nat):Int).toNat (((a0.fc % (4:UInt8)).toNat:Nat):Int).toNat),(List.replicate (((a0.fc % (4:UInt8)).toNat:Nat):Int).toNat [vI 0]).flatten,(.slice (some ⟨j1,0,none⟩) (((a0.fh % (3:UInt8)).toNat:Nat):Int).toNat (((a0.fh % (3:UInt8)).toNat:Nat):Int).toNat),(List.replicate (((a0.fh % (3:UInt8)).toNat:Nat):Int).toNat [vI 0]).flatten) G4 (Tt P0 P3) ⟨(AB q1 P3),(AB (AD (cs:=(List.replicate (((a0.fc % (4:UInt8)).toNat:Nat):Int).toNat [vI 0]).flatten) (xs:=I0) B0 L (BY u1 I)) (Tt V0 Q2)),(AB (AD (cs:=(List.replicate (((a0.fh % (3:UInt8)).toNat:Nat):Int).toNat [vI 0]).flatten) (xs:=H0) A0 L (BY s1 I)) Q2)⟩
 refine AX I ?_
 have h:=H5 _ h
 try dsimp only at h
 refine Af<|Ac (AH I (U0.memA .t2))<|AV [vI (((a0.fh % (3:UInt8)).toNat:Nat):Int),vI (((a0.fc % (4:UInt8)).toNat:Nat):Int),vI (((a0.fj % (3:UInt8)).toNat:Nat):Int),p0] U0 .t3 (o4 I I I (St.o1 (α:=Tc) U0 .t1)) fun x8 z2 b5=>Aa<|Am I ?_
 have W1:=BA z2 .t1
 have I7:=BB z2 .t1
 have Q5:=BC (α:=Tc) (v:=p0) (xs:=Q0) W1 L (Bg (α:=Tc) z2 .t1 (AB D3 b5) hL)
 refine Au hb0 func24 I (.cons (.many (cs:=[vI (((a0.fh % (3:UInt8)).toNat:Nat):Int),vI (((a0.fc % (4:UInt8)).toNat:Nat):Int),vI (((a0.fj % (3:UInt8)).toNat:Nat):Int),p0]) I I (W1.memA .t2)) .nil) I ?_
 cases h
 exact ⟨W1.ag,fun p q=>⟨p0,I,W1.kd Q5 q⟩⟩
def bL_p (n:Nat) (a0:Tl) (a1:Int):Oa Te:=
  (ab_p n (⟨2,3,2,a0.fu,a0.fNums⟩:Tl) a1).bind fun b0=>some b0
theorem bL_c (n:Nat) {L w} (hL:hl L w) (a0:Tl) {v0_4:Vc} (h0_4:Rep.R w L [v0_4] a0.fNums) {a1:Int}  {r:Te} (h:bL_p n a0 a1 = some r) :
 Cl 23 #[.agg #[.int .u8 (a0.fh.toNat:Int),.int .u8 (a0.fc.toNat:Int),.int .u8 (a0.fj.toNat:Int),.int .u8 (a0.fu.toNat:Int),v0_4],vI a1] w (ae w fun w' u=>∃ v0_3:Vc,u = .agg #[vI r.fh,vI r.fc,vI r.fj,v0_3]/\Rep.R w' L [v0_3] r.ft):=by
 unfold bL_p at h
 refine AF func23 I I I fun _ cs0 hb0=>Af<|RG.bx (AA w) I I fun H0 y0 k0 A0=>RG.nl [vI 0,vI 0,vI 0,vN] k0 fun I0 z0 p0 B0=>Aa<|Af<|Bd 0 I<|RG.now .plain (BT (j:=0) (old:=[.int .u8 (a0.fh.toNat:Int),.int .u8 (a0.fc.toNat:Int),.int .u8 (a0.fj.toNat:Int),.int .u8 (a0.fu.toNat:Int),v0_4]) (news:=[.int .u8 2]) (new' :=[.int .u8 2,.int .u8 (a0.fc.toNat:Int),.int .u8 (a0.fj.toNat:Int),.int .u8 (a0.fu.toNat:Int),v0_4]) p0 .t1 I I I I I I (o1 I) I) fun J0 q0 C0=>Bd 1 I<|RG.now .plain (BT (j:=1) (old:=[.int .u8 2,.int .u8 (a0.fc.toNat:Int),.int .u8 (a0.fj.toNat:Int),.int .u8 (a0.fu.toNat:Int),v0_4]) (news:=[.int .u8 3]) (new' :=[.int .u8 2,.int .u8 3,.int .u8 (a0.fj.toNat:Int),.int .u8 (a0.fu.toNat:Int),v0_4]) q0 .t1 I I I I I I (o1 I) I) fun K0 s0 D0=>Bd 2 I<|RG.now .plain (BT (j:=2) (old:=[.int .u8 2,.int .u8 3,.int .u8 (a0.fj.toNat:Int),.int .u8 (a0.fu.toNat:Int),v0_4]) (news:=[.int .u8 2]) (new' :=[.int .u8 2,.int .u8 3,.int .u8 2,.int .u8 (a0.fu.toNat:Int),v0_4]) s0 .t1 I I I I I I (o1 I) I) fun M0 c0 E0=>Aa<|Af<|Ac (AH I (c0.memA .t1))<|Ae I<|bk h fun b0 x0 h=>jE (bd 24) I (e2 I I) (fun p q=>ab_c n (c0.hL hL q) (⟨2,3,2,a0.fu,a0.fNums⟩:Tl) (c0.km h0_4 q) x0) I fun P0 G0 v0 ⟨g0,hu_,j0⟩=>?_
 subst hu_
 obtain ⟨t0,F0⟩:=c0.agr v0
 refine AV [vI b0.fh,vI b0.fc,vI b0.fj,g0] t0 .hd (o4 I I I (AY j0)) fun Q0 d0 u0=>Aa<|Am I<|Au hb0 func23 I (.cons (.many (cs:=[vI b0.fh,vI b0.fc,vI b0.fj,g0]) I I (d0.memA .hd)) .nil) I ?_
 cases h
 exact ⟨d0.ag,fun p q=>⟨g0,I,d0.kd (Ao j0 u0) q⟩⟩
end Go.Proofs.YthffdckehlgmgaaGreatDoor
