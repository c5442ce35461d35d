import Derived.Test.YtibdeoeglcngoaaGreatDoorWI4
namespace Go.Proofs.YtibdeoeglcngoaaGreatDoor
open Go Go.RowKit Tryz
set_option maxRecDepth 4000
set_option maxHeartbeats 4000000

def cj_p (n:Nat) (a0:Tf) (a1:List Int) (a2:Int) (a3:Int) (a4:Int):Option (Except Te Ta):=
  (ah_p n a0 a1 a2 a3 a4).bind fun y0=>exc y0 (fun b0=>(bt_p n b0).bind fun z0=>exc z0 (fun A0=>(dM (((b0.length:Nat):Int) - 1) 2).bind fun p0=>(idx b0 p0).bind fun q0=>(b0[b0.length / 2]?).bind fun s0=>(bt_p n ([q0,s0]:List Ta)).bind fun t0=>exc t0 (fun u0=>(bB_p n A0 u0).bind fun v0=>exc v0 (fun x0=>some (.ok x0)) (fun d0=>some (.error d0))) (fun c0=>some (.error c0))) (fun j0=>(dM (((b0.length:Nat):Int) - 1) 2).bind fun k0=>(idx b0 k0).bind fun _x45=>(b0[b0.length / 2]?).bind fun _x58=>some (.error j0))) (fun g0=>some (.error g0))
theorem cj_c (n:Nat) {L w} (hL:hl L w) (a0:Tf) {v0_3:Value} (h0_3:Rep.R w L [v0_3] a0.fu) {p0:Nat} (m0:∀ j9 v9,([vI a0.fh,vI a0.fc,vI a0.fe,v0_3]:List Value)[j9]? = some v9 -> w.cell? ((⟨p0,0,none⟩:Addr).add j9) = some v9) {a1:List Int} {v1_0:Value} (h1_0:Rep.R w L [v1_0] a1) {p1:Nat} (m1:∀ j9 v9,([v1_0]:List Value)[j9]? = some v9 -> w.cell? ((⟨p1,0,none⟩:Addr).add j9) = some v9) {a2:Int} {p2:Nat} (m2:∀ j9 v9,([vI a2]:List Value)[j9]? = some v9 -> w.cell? ((⟨p2,0,none⟩:Addr).add j9) = some v9) {a3:Int} {p3:Nat} (m3:∀ j9 v9,([vI a3]:List Value)[j9]? = some v9 -> w.cell? ((⟨p3,0,none⟩:Addr).add j9) = some v9) {a4:Int} {p4:Nat} (m4:∀ j9 v9,([vI a4]:List Value)[j9]? = some v9 -> w.cell? ((⟨p4,0,none⟩:Addr).add j9) = some v9)  {r:Except Te Ta} (h:cj_p n a0 a1 a2 a3 a4 = some r) :
 Cl 52 #[.pointer (some ⟨p0,0,none⟩),.pointer (some ⟨p1,0,none⟩),.pointer (some ⟨p2,0,none⟩),.pointer (some ⟨p3,0,none⟩),.pointer (some ⟨p4,0,none⟩)] w (aD w (fun (y:Ta) _ u=>u = .agg ((ac y)).toArray) (fun e=>.iface 138 (.agg #[vI e.fy])) r):=by
 unfold cj_p at h
 refine Bz func52 rfl rfl rfl fun _ cs0 hb0 hp0=>Ae<|RG.nl zL (Ax w) fun v3 y2 j0 Y2=>Aa<|Ae<|Ac (AD rfl (fun j9 v9 h9=>j0.ag.cell0 (m0 j9 v9 h9)))<|AO rfl ((fun j9 v9 h9=>j0.ag.cell0 (m1 j9 v9 h9)) 0 _ rfl)<|AO rfl ((fun j9 v9 h9=>j0.ag.cell0 (m2 j9 v9 h9)) 0 _ rfl)<|AO rfl ((fun j9 v9 h9=>j0.ag.cell0 (m3 j9 v9 h9)) 0 _ rfl)<|AO rfl ((fun j9 v9 h9=>j0.ag.cell0 (m4 j9 v9 h9)) 0 _ rfl)<|xk h (fun U2 G0 h=>?_) (fun q0 G0 h=>?_)
 refine Bi (fst:=[]) (cap:=[]) .plain (bd 53) rfl (e5 rfl rfl rfl rfl rfl) (fun p q=>Calls.erp (ah_c n (j0.hL hL q) a0 (j0.km h0_3 q) (j0.km h1_0 q) G0)) fun B3 A1=>?_
 obtain ⟨s1,c3⟩:=j0.agr A1
 cases h
 exact AS hp0 func52 ⟨s1.ag,rfl⟩
 refine jE (bd 53) rfl (e5 rfl rfl rfl rfl rfl) (fun p q=>cP (b0:=w.heap.size) (AP (ah_c n (j0.hL hL q) a0 (j0.km h0_3 q) (j0.km h1_0 q) G0)) q (Nat.le_trans j0.ag.size q.size)) rfl fun C3 u3 k3 ⟨t3,j1,b2,V0,D1⟩=>?_
 subst b2
 have g0:=dD j0 V0
 have d3:=gP j0 V0
 have x0:=AE (cs:=j1) (xs:=(q0:List Ta)) g0 L (cD D1)
 refine Ag rfl<|Aa<|Ae<|Af rfl ?_
 have s3:q0.length <= 4294967296:=St.rowLe (α:=Ta) g0 .hd
 obtain ⟨v2,C2,F1⟩:=St.rowV (α:=Ta) g0 .hd
 refine Ac (FV.lenV underlying101 rfl F1)<|Ag rfl<|Aa<|Ak<|du 16 fun c0 d0=>Rv 0 c0 rfl d0 (fun _=>Aj rfl)<|xk h (fun V2 z0 h=>?_) (fun J0 z0 h=>?_)
 refine Rv 2 c0 rfl d0 (fun _=>Aj rfl)<|Rv 3 c0 rfl d0 (fun _=>Aj rfl)<|Rv 4 c0 rfl d0 (fun _=>FV.subI (i:=((q0.length:Nat):Int)) (j:=1) rfl rfl (by omega))<|bk h fun s2 Y1 h=>Rv 5 c0 rfl d0 (fun _=>FV.quoc (i:=((q0.length:Nat):Int) - 1) (j:=2) rfl rfl Y1)<|bk h fun u0 c2 h=>?_
 obtain ⟨J1,d2⟩:=aI c2
 obtain ⟨X0,D2,B0,Q0,K2,V1,P1⟩:=St.nth (α:=Ta) g0 .hd x0 d2
 obtain ⟨c1,E2,G1⟩:=Bu (α:=Ta) g0 .hd Q0
 obtain rfl:X0 = ⟨c1,0,none⟩:=by rw [G1] at B0; cases B0; rfl
 obtain rfl:=bB V1
 refine Rv 6 c0 rfl d0 (fun _=>Bh 16 (s2.toNat) rfl B0 rfl J1 Q0)<|Rx 7 122880 c0 rfl d0 (AD rfl P1)<|Rv 8 c0 rfl d0 (fun _=>Aj rfl)<|Rv 9 c0 rfl d0 (fun _=>Aj rfl)<|Rv 10 c0 rfl d0 (fun _=>FV.quoN (i:=q0.length) (j:=2) rfl rfl rfl (by omega))<|bk h fun s0 g2 h=>?_
 obtain ⟨Y0,F2,C0,R0,M2,W1,Q1⟩:=St.nth (α:=Ta) g0 .hd x0 g2
 obtain ⟨d1,G2,H1⟩:=Bu (α:=Ta) g0 .hd R0
 obtain rfl:Y0 = ⟨d1,0,none⟩:=by rw [H1] at C0; cases C0; rfl
 obtain rfl:=bB W1
 refine Rv 11 c0 rfl d0 (fun _=>Bh 16 (q0.length / 2) rfl C0 rfl rfl R0)<|Rx 12 122880 c0 rfl d0 (AD rfl Q1)<|RD.each [1,13] (rk c0) ⟨?_,?_,trivial⟩
 refine RO.callE (fst:=[]) (cap:=[]) rfl .plain (bd 55) rfl (e1 rfl) (fun p q=>bt_c n (g0.hL0 hL q) (Av (St.lend (α:=Ta) (L:=L) g0 .hd x0 hL) q) z0) fun D3 B1=>?_
 obtain ⟨u1,g3⟩:=g0.agr B1
 cases h
 exact AS hp0 func52 ⟨u1.ag,rfl⟩
 refine RO.new (m' :=16381) (sk c0) rfl .plain rfl (Ba (α:=Ta) (xs:=([u0,s0]:List Ta)) (vs:=[.agg ((ac u0)).toArray,.agg ((ac s0)).toArray]) (ds' :=(ac u0 ++ ac s0)) rfl g0 cw rfl (e2 rfl rfl) (by kernel_rfl) rfl) fun E3 z2 y0 x1=>?_
 have q3:=AE (cs:=(ac u0 ++ ac s0)) (xs:=(([u0,s0]:List Ta):List Ta)) y0 L (Ar (cs:=(ac u0)) (ds:=(ac s0)) (aR u0.fN u0.fD) (Ar (cs:=(ac s0)) (ds:=[]) (aR s0.fN s0.fD) (AR _ _)))
 refine By (i:=1) (rk c0) (RO.callE (fst:=[]) (cap:=[]) rfl .plain (bd 55) rfl (e1 rfl) (fun p q=>bt_c n (y0.hL0 hL q) (Av (St.lend (α:=Ta) (L:=L) y0 .t1 (AL x0 x1) hL) q) z0) (fun F3 C1=>?_))
 obtain ⟨v1,j3⟩:=y0.agr C1
 cases h
 exact AS hp0 func52 ⟨v1.ag,rfl⟩
 refine RD.cq 1 3 114688 (.agg ((ac J0)).toArray) c0 rfl d0 (bd 55) rfl (e1 rfl) (fun p q=>AP (bt_c n (g0.hL0 hL q) (Av (St.lend (α:=Ta) (L:=L) g0 .hd x0 hL) q) z0)) rfl<|Rv 2 c0 rfl d0 (fun _=>Aj rfl)<|Rv 3 c0 rfl d0 (fun _=>Aj rfl)<|Rv 4 c0 rfl d0 (fun _=>FV.subI (i:=((q0.length:Nat):Int)) (j:=1) rfl rfl (by omega))<|bk h fun u2 Z1 h=>Rv 5 c0 rfl d0 (fun _=>FV.quoc (i:=((q0.length:Nat):Int) - 1) (j:=2) rfl rfl Z1)<|bk h fun v0 j2 h=>?_
 obtain ⟨K1,k2⟩:=aI j2
 obtain ⟨Z0,H2,D0,U0,P2,X1,R1⟩:=St.nth (α:=Ta) g0 .hd x0 k2
 obtain ⟨g1,I2,I1⟩:=Bu (α:=Ta) g0 .hd U0
 obtain rfl:Z0 = ⟨g1,0,none⟩:=by rw [I1] at D0; cases D0; rfl
 obtain rfl:=bB X1
 refine Rv 6 c0 rfl d0 (fun _=>Bh 16 (u2.toNat) rfl D0 rfl K1 U0)<|Rx 7 122880 c0 rfl d0 (AD rfl R1)<|Rv 8 c0 rfl d0 (fun _=>Aj rfl)<|Rv 9 c0 rfl d0 (fun _=>Aj rfl)<|Rv 10 c0 rfl d0 (fun _=>FV.quoN (i:=q0.length) (j:=2) rfl rfl rfl (by omega))<|bk h fun t0 q2 h=>?_
 obtain ⟨W0,A2,A0,P0,J2,U1,M1⟩:=St.nth (α:=Ta) g0 .hd x0 q2
 obtain ⟨b1,B2,E1⟩:=Bu (α:=Ta) g0 .hd P0
 obtain rfl:W0 = ⟨b1,0,none⟩:=by rw [E1] at A0; cases A0; rfl
 obtain rfl:=bB U1
 refine Rv 11 c0 rfl d0 (fun _=>Bh 16 (q0.length / 2) rfl A0 rfl rfl P0)<|Rx 12 122880 c0 rfl d0 (AD rfl M1)<|RD.nu 13 16383 c0 rfl .plain rfl (Ba (α:=Ta) (xs:=([v0,t0]:List Ta)) (vs:=[.agg ((ac v0)).toArray,.agg ((ac t0)).toArray]) (ds' :=(ac v0 ++ ac t0)) rfl g0 cw rfl (e2 rfl rfl) (by kernel_rfl) rfl) fun x3 x2 k0 W2=>?_
 have M0:=AE (cs:=(ac v0 ++ ac t0)) (xs:=(([v0,t0]:List Ta):List Ta)) k0 L (Ar (cs:=(ac v0)) (ds:=(ac t0)) (aR v0.fN v0.fD) (Ar (cs:=(ac t0)) (ds:=[]) (aR t0.fN t0.fD) (AR _ _)))
 refine xk h (fun Q2 E0 h=>?_) (fun H0 E0 h=>?_)
 refine By (i:=14) (rk c0) (RO.callE (fst:=[]) (cap:=[]) rfl .plain (bd 55) rfl (e1 rfl) (fun p q=>bt_c n (k0.hL0 hL q) (Av (St.lend (α:=Ta) (L:=L) k0 .hd M0 hL) q) E0) (fun y3 y1=>?_))
 obtain ⟨k1,X2⟩:=k0.agr y1
 cases h
 exact AS hp0 func52 ⟨k1.ag,rfl⟩
 refine RD.cq 14 32767 98304 (.agg ((ac H0)).toArray) c0 rfl d0 (bd 55) rfl (e1 rfl) (fun p q=>AP (bt_c n (k0.hL0 hL q) (Av (St.lend (α:=Ta) (L:=L) k0 .hd M0 hL) q) E0)) rfl<|xk h (fun R2 F0 h=>?_) (fun I0 F0 h=>?_)
 refine By (i:=15) (rk c0) (RO.callE (fst:=[]) (cap:=[]) rfl .plain (bd 54) rfl (e2 rfl rfl) (fun p q=>bB_c n (k0.hL0 hL q) J0 H0 F0) (fun z3 z1=>?_))
 obtain ⟨q1,Z2⟩:=k0.agr z1
 cases h
 exact AS hp0 func52 ⟨q1.ag,rfl⟩
 refine RD.cq 15 65535 65536 (.agg ((ac I0)).toArray) c0 rfl d0 (bd 54) rfl (e2 rfl rfl) (fun p q=>AP (bB_c n (k0.hL0 hL q) J0 H0 F0)) rfl<|BB 16 131071 c0 rfl rfl .plain (AB (news:=(ac I0)) k0 .t2 rfl rfl rfl rfl rfl rfl (aq rfl)) fun A3 K0 b3=>AH (dk c0)<|Am rfl<|Aq hb0 func52 rfl (.cons (.many (cs:=(ac I0)) rfl rfl (K0.memA .t2)) .nil) rfl ?_
 cases h
 exact ⟨K0.ag,fun p q=>ay rfl⟩
def cw_p (n:Nat) (a0:Tf) (a1:List Int) (a2:Int) (a3:Int) (a4:Int):Option (Ta × Int):=
  (cj_p n a0 a1 a2 a3 a4).bind fun c0=>exc c0 (fun d0=>some (d0,(0:Int))) (fun b0=>some ((⟨(0,0,0,0,0,0,0,0),(0,0,0,0,0,0,0,0)⟩:Ta),b0.fy))
theorem cw_c (n:Nat) {L w} (hL:hl L w) (a0:Tf) {v0_3:Value} (h0_3:Rep.R w L [v0_3] a0.fu) {a1:List Int} {v1_0:Value} (h1_0:Rep.R w L [v1_0] a1) {a2:Int} {a3:Int} {a4:Int}  {r:Ta × Int} (h:cw_p n a0 a1 a2 a3 a4 = some r) :
 Cl 14 #[.agg #[vI a0.fh,vI a0.fc,vI a0.fe,v0_3],v1_0,vI a2,vI a3,vI a4] w (ak w fun _ u=>u = .tuple #[.agg ((ac r.1)).toArray,vI r.2]):=by
 unfold cw_p at h
 refine AC func14 rfl rfl rfl fun _ cs0 hb0=>Ae<|RG.bx (Ax w) rfl rfl fun b2 j0 F0 G1=>RG.bx F0 rfl (Rep.c1 (AQ h1_0 F0)) fun q2 p0 U0 J1=>RG.bx U0 rfl rfl fun s2 q0 V0 K1=>RG.bx V0 rfl rfl fun u2 s0 W0 M1=>RG.bx W0 rfl rfl fun w32 t0 X0 P1=>RG.nl zL X0 fun v2 K0 Y0 Q1=>Ag rfl<|Aa<|Ae<|Ac (Bw (vs:=[]) (us:=[vP j0,vP p0,vP q0,vP s0,vP t0]) ai (e5 rfl rfl rfl rfl rfl))<|Bq (fst:=[]) (cap:=[]) (vs:=[.func (.func 52) #[] #[vP j0,vP p0,vP q0,vP s0,vP t0]]) .plain (bd 44) func44 rfl rfl rfl rfl (e1 rfl) rfl fun B1 I0 Z1=>Ae<|RG.nl zL Y0 fun x2 u0 Z0 R1=>RG.nl [vI 0] Z0 fun y2 d0 b0 U1=>?_
 refine Aa<|Ae<|Ac (Bw (vs:=[]) (us:=[vP u0,vP d0]) ai (e2 rfl rfl))<|RG.defer (fst:=[]) (cap:=[vP u0,vP d0]) (vs:=[]) rfl .plain rfl ai<|Aa<|Ae<|Af rfl<|xk h (fun x0 C0 h=>?_) (fun g0 C0 h=>?_)
 refine Bi (fst:=[]) (cap:=[vP j0,vP p0,vP q0,vP s0,vP t0]) .plain (bd 52) rfl ai (fun p q=>cj_c n (b0.hL0 hL q) a0 (b0.k0 h0_3 q) (ah q (b0.memA .t7)) (b0.k0 h1_0 q) (ah q (b0.memA .t6)) (ah q (b0.memA .t5)) (ah q (b0.memA .t4)) (ah q (b0.memA .t3)) C0) fun z2 p1=>?_
 obtain ⟨b1,V1⟩:=b0.agr p1
 refine PN.callD (vs:=[]) (cap:=[vP u0,vP d0]) (bd 90) func90 rfl rfl rfl fun A1 q1 u1=>Ae<|RG.recover1 .plain q1 rfl<|Ag rfl<|Aa<|Ae<|Af rfl<|Ac (FV.neqI underlying20 rfl rfl)<|Aa<|Br rfl<|Ae<|Af rfl<|Ac (FV.assertT rfl rfl)<|Af rfl<|Ac (Ai rfl rfl)<|Ac (Ai rfl rfl)<|RG.nl [vI 0] b1 fun A2 x1 d1 W1=>AW [vI x0.fy] d1 .hd (o1 rfl) fun B2 g1 X1=>Ag rfl<|Aa<|Ak<|Ae<|Af rfl<|Ac (BD rfl)<|Aa<|Bp rfl<|Ap<|Ae<|RG.nl zL g1 fun C2 y1 v0 Y1=>Aa<|du 3 fun c0 D0=>Rx 0 24 c0 rfl D0 (AD rfl (v0.memA .hd))<|Rv 1 c0 rfl D0 (fun _=>Bo 0 rfl)<|RD.mo (α:=Unit) (fun ()=>[(1,vP d0),(19,vI x0.fy)]) (fun ()=>[.cells d0 [vI 0] 49,.cells u0 zL 48,.cells K0 zL 48,.cells t0 [vI a4] 3,.cells s0 [vI a3] 3,.cells q0 [vI a2] 3,.cells p0 [v1_0] 39,.cells j0 [vI a0.fh,vI a0.fc,vI a0.fe,v0_3] 37]) v0 1 15 ?_ ?_
 rintro ⟨⟩ D2 M0 C1
 try dsimp only
 refine BB 4 31 c0 rfl rfl .plain (AB (news:=[vI x0.fy]) M0 .hd rfl rfl rfl rfl rfl rfl (o1 rfl)) fun c2 z0 D1=>AH (dk c0)<|MX.fin rfl<|RT.leaveD1 u1 func90 rfl .nil<|Aq (u:=.tuple #[.agg zM,vI x0.fy]) I0 func44 rfl (.cons (.many (cs:=zL) rfl rfl (z0.memA .t1)) (.cons (.one rfl rfl ((z0.memA .hd) 0 _ rfl)) .nil)) rfl<|Ac (Ai rfl rfl)<|Ac (Ai rfl rfl)<|AW zL z0 .t2 (aq rfl) fun g2 G0 E1=>Ag rfl<|Aa<|Am rfl<|Aq hb0 func14 rfl (.cons (.many (cs:=zL) rfl rfl (G0.memA .t2)) (.cons (.tmp rfl) .nil)) rfl ?_
 cases h
 exact G0.gv
 intro E0
 refine RD.each [2,3] (rk c0) ⟨?_,?_,trivial⟩
 refine RO.val (m' :=7) (sk c0) rfl .plain rfl (AZ rfl ((v0.memA .t1) 0 _ rfl))<|BB 3 15 c0 rfl rfl .plain (AB (news:=zL) v0 .t3 rfl rfl rfl rfl rfl rfl (aq rfl)) fun v1 y0 B0=>?_
 obtain ⟨P0,j1⟩:=AN y0 .d2
 exact E0 () P0 (Tt B0 j1)
 refine RO.now (m' :=11) (sk c0) rfl rfl .plain (AB (news:=zL) v0 .t3 rfl rfl rfl rfl rfl rfl (aq rfl)) fun v1 y0 B0=>Rx 2 16 c0 rfl D0 (AZ rfl ((y0.memA .t1) 0 _ rfl)) ?_
 obtain ⟨Q0,k1⟩:=AN y0 .d2
 exact E0 () Q0 (Tt B0 k1)
 refine RG.callq' (v:=.agg ((ac g0)).toArray) (fst:=[]) (cap:=[vP j0,vP p0,vP q0,vP s0,vP t0]) .plain (bd 52) rfl ai (fun p q=>AP (cj_c n (b0.hL0 hL q) a0 (b0.k0 h0_3 q) (ah q (b0.memA .t7)) (b0.k0 h1_0 q) (ah q (b0.memA .t6)) (ah q (b0.memA .t5)) (ah q (b0.memA .t4)) (ah q (b0.memA .t3)) C0)) rfl<|AW (ac g0) b0 .t1 (aq rfl) fun j2 R0 F1=>AW [vI 0] R0 .hd (o1 rfl) fun k2 A0 H1=>Aa<|Am rfl<|RT.callD (vs:=[]) (cap:=[vP u0,vP d0]) (bd 90) func90 rfl rfl rfl fun z1 J0 s1=>Ae<|RG.recover0 .plain J0 rfl<|Ag rfl<|Aa<|Ae<|Af rfl<|Ac (FV.neqI0 underlying20 rfl rfl)<|Aa<|Bp rfl<|Ap<|MX.fin rfl<|RT.leaveD0 J0 s1 func90 rfl .nil<|Aq (u:=.tuple #[.agg ((ac g0)).toArray,vI 0]) I0 func44 rfl (.cons (.many (cs:=(ac g0)) rfl rfl (A0.memA .t1)) (.cons (.one rfl rfl ((A0.memA .hd) 0 _ rfl)) .nil)) rfl<|Ac (Ai rfl rfl)<|Ac (Ai rfl rfl)<|AW (ac g0) A0 .t2 (aq rfl) fun p2 H0 I1=>Ag rfl<|Aa<|Am rfl<|Aq hb0 func14 rfl (.cons (.many (cs:=(ac g0)) rfl rfl (H0.memA .t2)) (.cons (.tmp rfl) .nil)) rfl ?_
 cases h
 exact H0.gv
structure Td where
  fB:Ta
  fC:Int
  fF:Int
  deriving DecidableEq
instance:Rep Td:=Rep.via (β:=Ta × Int × Int) fun x=>(x.fB,x.fC,x.fF)
def gk (x:Td):List Value:=[vU x.fB.fN.1,vU x.fB.fN.2.1,vU x.fB.fN.2.2.1,vU x.fB.fN.2.2.2.1,vU x.fB.fN.2.2.2.2.1,vU x.fB.fN.2.2.2.2.2.1,vU x.fB.fN.2.2.2.2.2.2.1,vU x.fB.fN.2.2.2.2.2.2.2,vU x.fB.fD.1,vU x.fB.fD.2.1,vU x.fB.fD.2.2.1,vU x.fB.fD.2.2.2.1,vU x.fB.fD.2.2.2.2.1,vU x.fB.fD.2.2.2.2.2.1,vU x.fB.fD.2.2.2.2.2.2.1,vU x.fB.fD.2.2.2.2.2.2.2,vI x.fC,vI x.fF]
theorem dU {w:World} {L:List Nat} {cs:List Value} {x:Td} (h:Rep.R w L cs x):cs = [vU x.fB.fN.1,vU x.fB.fN.2.1,vU x.fB.fN.2.2.1,vU x.fB.fN.2.2.2.1,vU x.fB.fN.2.2.2.2.1,vU x.fB.fN.2.2.2.2.2.1,vU x.fB.fN.2.2.2.2.2.2.1,vU x.fB.fN.2.2.2.2.2.2.2,vU x.fB.fD.1,vU x.fB.fD.2.1,vU x.fB.fD.2.2.1,vU x.fB.fD.2.2.2.1,vU x.fB.fD.2.2.2.2.1,vU x.fB.fD.2.2.2.2.2.1,vU x.fB.fD.2.2.2.2.2.2.1,vU x.fB.fD.2.2.2.2.2.2.2,vI x.fC,vI x.fF]:=by
  obtain ⟨c0,r0,rfl,h0,h⟩:=h
  obtain rfl:=bB (x:=x.fB) h0
  obtain ⟨c1,r1,rfl,h1,h⟩:=h
  have e1:c1 = [vI x.fC]:=h1; subst e1
  have e2:r1 = [vI x.fF]:=h; subst e2
  rfl
theorem eG {w:World} {L:List Nat} (a0:Ta) (a1:Int) (a2:Int):Rep.R w L [vU a0.fN.1,vU a0.fN.2.1,vU a0.fN.2.2.1,vU a0.fN.2.2.2.1,vU a0.fN.2.2.2.2.1,vU a0.fN.2.2.2.2.2.1,vU a0.fN.2.2.2.2.2.2.1,vU a0.fN.2.2.2.2.2.2.2,vU a0.fD.1,vU a0.fD.2.1,vU a0.fD.2.2.1,vU a0.fD.2.2.2.1,vU a0.fD.2.2.2.2.1,vU a0.fD.2.2.2.2.2.1,vU a0.fD.2.2.2.2.2.2.1,vU a0.fD.2.2.2.2.2.2.2,vI a1,vI a2] (⟨a0,a1,a2⟩:Td):=⟨[vU a0.fN.1,vU a0.fN.2.1,vU a0.fN.2.2.1,vU a0.fN.2.2.2.1,vU a0.fN.2.2.2.2.1,vU a0.fN.2.2.2.2.2.1,vU a0.fN.2.2.2.2.2.2.1,vU a0.fN.2.2.2.2.2.2.2,vU a0.fD.1,vU a0.fD.2.1,vU a0.fD.2.2.1,vU a0.fD.2.2.2.1,vU a0.fD.2.2.2.2.1,vU a0.fD.2.2.2.2.2.1,vU a0.fD.2.2.2.2.2.2.1,vU a0.fD.2.2.2.2.2.2.2],[vI a1,vI a2],rfl,aR a0.fN a0.fD,⟨[vI a1],[vI a2],rfl,rfl,rfl⟩⟩
theorem lg:ElT Tryz.prog 52 57 (Rep.size Td) 144 (.agg #[vW 0,vW 0,vW 0,vW 0,vW 0,vW 0,vW 0,vW 0,vW 0,vW 0,vW 0,vW 0,vW 0,vW 0,vW 0,vW 0,vI 0,vI 0]) [vW 0,vW 0,vW 0,vW 0,vW 0,vW 0,vW 0,vW 0,vW 0,vW 0,vW 0,vW 0,vW 0,vW 0,vW 0,vW 0,vI 0,vI 0]:=⟨underlying52,by kernel_rfl,rfl,rfl,rfl,rfl⟩
theorem ex_Ta {a b:Ta} (h0:a.fN.1 = b.fN.1) (h1:a.fN.2.1 = b.fN.2.1) (h2:a.fN.2.2.1 = b.fN.2.2.1) (h3:a.fN.2.2.2.1 = b.fN.2.2.2.1) (h4:a.fN.2.2.2.2.1 = b.fN.2.2.2.2.1) (h5:a.fN.2.2.2.2.2.1 = b.fN.2.2.2.2.2.1) (h6:a.fN.2.2.2.2.2.2.1 = b.fN.2.2.2.2.2.2.1) (h7:a.fN.2.2.2.2.2.2.2 = b.fN.2.2.2.2.2.2.2) (h8:a.fD.1 = b.fD.1) (h9:a.fD.2.1 = b.fD.2.1) (b0:a.fD.2.2.1 = b.fD.2.2.1) (c0:a.fD.2.2.2.1 = b.fD.2.2.2.1) (d0:a.fD.2.2.2.2.1 = b.fD.2.2.2.2.1) (g0:a.fD.2.2.2.2.2.1 = b.fD.2.2.2.2.2.1) (j0:a.fD.2.2.2.2.2.2.1 = b.fD.2.2.2.2.2.2.1) (k0:a.fD.2.2.2.2.2.2.2 = b.fD.2.2.2.2.2.2.2):a = b:=congr (congrArg Ta.mk (iN (a:=a.fN) (b:=b.fN) h0 h1 h2 h3 h4 h5 h6 h7)) (iN (a:=a.fD) (b:=b.fD) h8 h9 b0 c0 d0 g0 j0 k0)
theorem jP (a b:Ta) (p:World):(do eqGuard .eql 48 (.tmp 0) (.tmp 0) (.agg #[vU a.fN.1,vU a.fN.2.1,vU a.fN.2.2.1,vU a.fN.2.2.2.1,vU a.fN.2.2.2.2.1,vU a.fN.2.2.2.2.2.1,vU a.fN.2.2.2.2.2.2.1,vU a.fN.2.2.2.2.2.2.2,vU a.fD.1,vU a.fD.2.1,vU a.fD.2.2.1,vU a.fD.2.2.2.1,vU a.fD.2.2.2.2.1,vU a.fD.2.2.2.2.2.1,vU a.fD.2.2.2.2.2.2.1,vU a.fD.2.2.2.2.2.2.2]) (.agg #[vU b.fN.1,vU b.fN.2.1,vU b.fN.2.2.1,vU b.fN.2.2.2.1,vU b.fN.2.2.2.2.1,vU b.fN.2.2.2.2.2.1,vU b.fN.2.2.2.2.2.2.1,vU b.fN.2.2.2.2.2.2.2,vU b.fD.1,vU b.fD.2.1,vU b.fD.2.2.1,vU b.fD.2.2.2.1,vU b.fD.2.2.2.2.1,vU b.fD.2.2.2.2.2.1,vU b.fD.2.2.2.2.2.2.1,vU b.fD.2.2.2.2.2.2.2]); binOp .eql 48 (.agg #[vU a.fN.1,vU a.fN.2.1,vU a.fN.2.2.1,vU a.fN.2.2.2.1,vU a.fN.2.2.2.2.1,vU a.fN.2.2.2.2.2.1,vU a.fN.2.2.2.2.2.2.1,vU a.fN.2.2.2.2.2.2.2,vU a.fD.1,vU a.fD.2.1,vU a.fD.2.2.1,vU a.fD.2.2.2.1,vU a.fD.2.2.2.2.1,vU a.fD.2.2.2.2.2.1,vU a.fD.2.2.2.2.2.2.1,vU a.fD.2.2.2.2.2.2.2]) (.agg #[vU b.fN.1,vU b.fN.2.1,vU b.fN.2.2.1,vU b.fN.2.2.2.1,vU b.fN.2.2.2.2.1,vU b.fN.2.2.2.2.2.1,vU b.fN.2.2.2.2.2.2.1,vU b.fN.2.2.2.2.2.2.2,vU b.fD.1,vU b.fD.2.1,vU b.fD.2.2.1,vU b.fD.2.2.2.1,vU b.fD.2.2.2.2.1,vU b.fD.2.2.2.2.2.1,vU b.fD.2.2.2.2.2.2.1,vU b.fD.2.2.2.2.2.2.2]):Sem Value).run Tryz.prog p = .ok (.bool (decide (a = b))) p:=
  ll (ks:=[.int .u64,.int .u64,.int .u64,.int .u64,.int .u64,.int .u64,.int .u64,.int .u64,.int .u64,.int .u64,.int .u64,.int .u64,.int .u64,.int .u64,.int .u64,.int .u64]) (xs:=[vU a.fN.1,vU a.fN.2.1,vU a.fN.2.2.1,vU a.fN.2.2.2.1,vU a.fN.2.2.2.2.1,vU a.fN.2.2.2.2.2.1,vU a.fN.2.2.2.2.2.2.1,vU a.fN.2.2.2.2.2.2.2,vU a.fD.1,vU a.fD.2.1,vU a.fD.2.2.1,vU a.fD.2.2.2.1,vU a.fD.2.2.2.2.1,vU a.fD.2.2.2.2.2.1,vU a.fD.2.2.2.2.2.2.1,vU a.fD.2.2.2.2.2.2.2]) (ys:=[vU b.fN.1,vU b.fN.2.1,vU b.fN.2.2.1,vU b.fN.2.2.2.1,vU b.fN.2.2.2.2.1,vU b.fN.2.2.2.2.2.1,vU b.fN.2.2.2.2.2.2.1,vU b.fN.2.2.2.2.2.2.2,vU b.fD.1,vU b.fD.2.1,vU b.fD.2.2.1,vU b.fD.2.2.2.1,vU b.fD.2.2.2.2.1,vU b.fD.2.2.2.2.2.1,vU b.fD.2.2.2.2.2.2.1,vU b.fD.2.2.2.2.2.2.2]) (by kernel_rfl) (by kernel_rfl) (by kernel_rfl) rfl rfl ⟨fun h=>by
    simp only [bc,veq,Bool.and_eq_true,beq_iff_eq,and_true] at h
    obtain ⟨h0,h1,h2,h3,h4,h5,h6,h7,h8,h9,b0,c0,d0,g0,j0,k0⟩:=h
    exact ex_Ta (aj h0) (aj h1) (aj h2) (aj h3) (aj h4) (aj h5) (aj h6) (aj h7) (aj h8) (aj h9) (aj b0) (aj c0) (aj d0) (aj g0) (aj j0) (aj k0),fun h=>by subst h; simp [bc,veq]⟩ _ _ p
def az_l1 (n:Nat) (p0:List Ta) (g0:Nat × (List Td) -> Option ((Except Te (List Td)) ⊕ (List Td))):Nat × (List Td) -> Option ((Except Te (List Td)) ⊕ (List Td))
  | (c0,b0)=>(if c0 < p0.length then (p0[c0]?).bind fun v0=>(aY_p n (1:Int) (2:Int)).bind fun A0=>exc A0 (fun B0=>(bB_p n B0 v0).bind fun C0=>exc C0 (fun j0=>(if 0 < b0.length then (b0[b0.length - 1]?).bind fun d0=>(if d0.fB = j0 then (chk (d0.fF + 1)).bind fun u0=>(put b0 ((b0.length - 1:Nat):Int) (⟨d0.fB,((c0 + 1:Nat):Int),d0.fF⟩:Td)).bind fun q0=>(q0[b0.length - 1]?).bind fun k0=>(put q0 ((b0.length - 1:Nat):Int) (⟨k0.fB,k0.fC,u0⟩:Td)).bind fun x0=>g0 (c0 + 1,x0) else (app b0 ([(⟨j0,((c0 + 1:Nat):Int),(1:Int)⟩:Td)]:List Td)).bind fun y0=>g0 (c0 + 1,y0)) else (app b0 ([(⟨j0,((c0 + 1:Nat):Int),(1:Int)⟩:Td)]:List Td)).bind fun z0=>g0 (c0 + 1,z0))) (fun t0=>some (.inl (.error t0)))) (fun s0=>some (.inl (.error s0))) else some (.inr b0))
def az_l2 (_n:Nat) (j0:Int × Int × (List Ta) -> Option (List Ta)):Int × Int × (List Ta) -> Option (List Ta)
  | (d0,b0,c0)=>(if d0 < b0 then (idx c0 b0).bind fun q0=>(idx c0 d0).bind fun s0=>(put c0 ((d0.toNat:Nat):Int) q0).bind fun g0=>(idx g0 b0).bind fun _x209=>(put g0 ((b0.toNat:Nat):Int) s0).bind fun t0=>(chk (d0 + 1)).bind fun k0=>(chk (b0 - 1)).bind fun p0=>j0 (k0,p0,t0) else some c0)
def az_p (n:Nat) (a0:Tf) (a1:List Int) (a2:Int) (a3:Int) (a4:Int):Option (Except Te (List Td)):=
  (ah_p n a0 a1 a2 a3 a4).bind fun y1=>exc y1 (fun b0=>Option.bind (ao (az_l2 n) n (0,((b0.length:Nat):Int) - 1,b0)) (fun d0=>thn (ao (az_l1 n d0) n (0,([]:List Td))) (fun g0=>some (.ok g0)))) (fun c0=>some (.error c0))
theorem az_c (n:Nat) {L w} (hL:hl L w) (a0:Tf) {v0_3:Value} (h0_3:Rep.R w L [v0_3] a0.fu) {p0:Nat} (m0:∀ j9 v9,([vI a0.fh,vI a0.fc,vI a0.fe,v0_3]:List Value)[j9]? = some v9 -> w.cell? ((⟨p0,0,none⟩:Addr).add j9) = some v9) {a1:List Int} {v1_0:Value} (h1_0:Rep.R w L [v1_0] a1) {p1:Nat} (m1:∀ j9 v9,([v1_0]:List Value)[j9]? = some v9 -> w.cell? ((⟨p1,0,none⟩:Addr).add j9) = some v9) {a2:Int} {p2:Nat} (m2:∀ j9 v9,([vI a2]:List Value)[j9]? = some v9 -> w.cell? ((⟨p2,0,none⟩:Addr).add j9) = some v9) {a3:Int} {p3:Nat} (m3:∀ j9 v9,([vI a3]:List Value)[j9]? = some v9 -> w.cell? ((⟨p3,0,none⟩:Addr).add j9) = some v9) {a4:Int} {p4:Nat} (m4:∀ j9 v9,([vI a4]:List Value)[j9]? = some v9 -> w.cell? ((⟨p4,0,none⟩:Addr).add j9) = some v9)  {r:Except Te (List Td)} (h:az_p n a0 a1 a2 a3 a4 = some r) :
 Cl 62 #[.pointer (some ⟨p0,0,none⟩),.pointer (some ⟨p1,0,none⟩),.pointer (some ⟨p2,0,none⟩),.pointer (some ⟨p3,0,none⟩),.pointer (some ⟨p4,0,none⟩)] w (aD w (fun (y:List Td) w' u=>∃ v0_0:Value,u = v0_0/\Rep.R w' L [v0_0] y) (fun e=>.iface 138 (.agg #[vI e.fy])) r):=by
 unfold az_p at h
 have hS0:=Ax w
 refine Bz func62 rfl rfl rfl fun _ cs0 hb0 hp0=>Ae<|Ag rfl<|Aa<|Ae<|Ac (AD rfl (fun j9 v9 h9=>hS0.ag.cell0 (m0 j9 v9 h9)))<|AO rfl ((fun j9 v9 h9=>hS0.ag.cell0 (m1 j9 v9 h9)) 0 _ rfl)<|AO rfl ((fun j9 v9 h9=>hS0.ag.cell0 (m2 j9 v9 h9)) 0 _ rfl)<|AO rfl ((fun j9 v9 h9=>hS0.ag.cell0 (m3 j9 v9 h9)) 0 _ rfl)<|AO rfl ((fun j9 v9 h9=>hS0.ag.cell0 (m4 j9 v9 h9)) 0 _ rfl)<|xk h (fun F6 hy1 h=>?_) (fun K0 hy1 h=>?_)
 refine Bi (fst:=[]) (cap:=[]) .plain (bd 53) rfl (e5 rfl rfl rfl rfl rfl) (fun p q=>Calls.erp (ah_c n (hS0.hL hL q) a0 (Av h0_3 q) (Av h1_0 q) hy1)) fun u7 M3=>?_
 obtain ⟨c3,I6⟩:=hS0.agr M3
 cases h
 exact AS hp0 func62 ⟨c3.ag,rfl⟩
 refine jE (bd 53) rfl (e5 rfl rfl rfl rfl rfl) (fun p q=>cP (b0:=w.heap.size) (AP (ah_c n (hS0.hL hL q) a0 (Av h0_3 q) (Av h1_0 q) hy1)) q (Nat.le_trans hS0.ag.size q.size)) rfl fun v7 F0 W6 ⟨t7,D1,V4,v2,X3⟩=>?_
 subst V4
 have M0:=dD hS0 v2
 have J6:=gP hS0 v2
 refine Ag rfl<|Aa<|Ae<|Af rfl<|Bq (fst:=[]) (cap:=[]) (vs:=[F0]) .plain (bd 63) func63 rfl rfl rfl rfl (e1 rfl) rfl fun y6 V3 p7=>Ae<|Af rfl ?_
 have b7:K0.length <= 4294967296:=St.rowLe (α:=Ta) M0 .hd
 obtain ⟨D5,Z5,k4⟩:=St.rowV (α:=Ta) M0 .hd
 refine Ac (FV.lenV underlying101 rfl k4)<|Ac (FV.subI (i:=((K0.length:Nat):Int)) (j:=1) rfl rfl (by omega))<|Ag rfl<|Ag rfl<|Aa<|Au ?_
 obtain ⟨q7,C4,v4⟩:=av h
 refine MX.lf (α:=Int × Int × (List Ta) × (List Value)) (fun ⟨y0,z0,u0,B0⟩=>[(0,F0),(2,vI y0),(3,vI z0)]) (fun ⟨y0,z0,u0,B0⟩=>[rr w 48 Ta F0 u0.length B0]) (fun ⟨y0,z0,u0,B0⟩ x2=>Cells x2 (bl [rr w 48 Ta F0 u0.length B0] ++ L) B0 u0) (fun ⟨y0,z0,u0,B0⟩=>(y0,z0,u0)) (0,((K0.length:Nat):Int) - 1,K0,D1) C4 M0 (AE (cs:=D1) (xs:=(K0:List Ta)) M0 L (cD X3)) ?_
 rintro F5 ⟨y0,z0,u0,B0⟩ x2 b3 C0 D3 R0 h
 unfold az_l2 at h
 try dsimp only at h
 refine Ak<|Ae<|Af rfl<|Af rfl<|Ac (FV.lss (i:=y0) (j:=z0) rfl rfl)<|Aa<|AI rfl h (fun Q2 h=>?_) (fun Q2 h=>?_)
 refine Ap<|Ak<|Au<|du 13 fun j0 s0=>Rv 0 j0 rfl s0 (fun _=>Aj rfl)<|Rv 1 j0 rfl s0 (fun _=>Aj rfl)<|Rv 2 j0 rfl s0 (fun _=>Aj rfl)<|Rv 3 j0 rfl s0 (fun _=>Aj rfl)<|Rv 4 j0 rfl s0 (fun _=>Aj rfl)<|Rv 5 j0 rfl s0 (fun _=>Aj rfl)<|bk h fun z2 W4 h=>?_
 obtain ⟨x4,X4⟩:=aI W4
 obtain ⟨B2,Q5,v1,b2,t6,E4,z4⟩:=St.nth (α:=Ta) C0 .hd R0 X4
 obtain ⟨H2,R5,g4⟩:=Bu (α:=Ta) C0 .hd b2
 obtain rfl:B2 = ⟨H2,0,none⟩:=by rw [g4] at v1; cases v1; rfl
 obtain rfl:=bB E4
 refine Rv 6 j0 rfl s0 (fun _=>Bh 16 (z0.toNat) rfl v1 rfl x4 b2)<|Rx 7 61440 j0 rfl s0 (AD rfl z4)<|Rv 8 j0 rfl s0 (fun _=>Aj rfl)<|Rv 9 j0 rfl s0 (fun _=>Aj rfl)<|bk h fun A2 Y4 h=>?_
 obtain ⟨Z1,Z4⟩:=aI Y4
 obtain ⟨C2,U5,V0,A1,u6,F4,A4⟩:=St.nth (α:=Ta) C0 .hd R0 Z4
 obtain ⟨I2,V5,V1⟩:=Bu (α:=Ta) C0 .hd A1
 obtain rfl:C2 = ⟨I2,0,none⟩:=by rw [V1] at V0; cases V0; rfl
 obtain rfl:=bB F4
 refine Rv 10 j0 rfl s0 (fun _=>Bh 16 (y0.toNat) rfl V0 rfl Z1 A1)<|Rx 11 61440 j0 rfl s0 (AD rfl A4)<|Rv 12 j0 rfl s0 (fun _=>Bh 16 (y0.toNat) rfl V0 rfl Z1 A1)<|bk h fun V7 g5 h=>By (i:=13) (rk j0) (RO.acts (m' :=16383) (sk j0) rfl rfl .plain (Acts.set (α:=Ta) (i:=y0.toNat) g5 C0 V1 (fun _=>.hd) R0 rfl rfl rfl rfl (aR z2.fN z2.fD) rfl) (fun x7 ⟨v6,j1,E3,U1⟩=>?_))
 refine bk h fun U7 b5 h=>?_
 obtain ⟨y4,c5⟩:=aI b5
 obtain ⟨D2,W5,x1,c2,x6,G4,d7⟩:=St.nth (α:=Ta) j1 .hd U1 c5
 obtain ⟨J2,X5,W1⟩:=Bu (α:=Ta) j1 .hd c2
 obtain rfl:D2 = ⟨J2,0,none⟩:=by rw [W1] at x1; cases x1; rfl
 obtain rfl:=bB G4
 refine By (i:=14) (rk j0) (RO.val (m' :=32767) (sk j0) rfl .plain rfl (Bh 16 (z0.toNat) rfl x1 rfl y4 c2) ?_)
 refine bk h fun y5 j5 h=>By (i:=15) (rk j0) (RO.acts (m' :=65535) (sk j0) rfl rfl .plain (Acts.set (α:=Ta) (i:=z0.toNat) j5 j1 W1 (fun _=>.hd) U1 rfl rfl rfl rfl (aR A2.fN A2.fD) rfl) (fun y7 ⟨W2,g3,F3,W3⟩=>?_))
 refine AH (dk j0)<|Ay<|Ao<|Af rfl<|bk h fun t5 Q4 h=>Ac (Bs (i:=y0) (j:=1) rfl rfl Q4)<|Af rfl<|bk h fun u5 R4 h=>Ac (FV.subc (i:=z0) (j:=1) rfl rfl R4)<|Ag rfl<|Ag rfl<|Aa<|b3 (t5,u5,y5,W2) g3 (Tt D3 (Tt E3 F3)) W3 h
 refine AT rfl ?_
 have h:=v4 _ h
 try dsimp only at h
 refine MX.fin rfl<|Aq (u:=.tuple #[]) V3 func63 rfl .nil rfl<|Aa<|Ak<|Ae<|Af rfl ?_
 have Z6:u0.length <= 4294967296:=St.rowLe (α:=Ta) C0 .hd
 obtain ⟨C5,Y5,j4⟩:=St.rowV (α:=Ta) C0 .hd
 refine Ac (FV.lenV underlying101 rfl j4)<|Af rfl<|Aa<|Au ?_
 have E1:=C0.nilRow 57 (Rep.size Td)
 refine tn h fun s7 D4 I0=>MX.lf (α:=Nat × (List Td) × Value × (List Value)) (fun ⟨c0,g0,A0,E0⟩=>[(5,A0),(19,F0),(20,vI ((u0.length:Nat):Int)),(21,vI ((c0:Nat):Int))]) (fun ⟨c0,g0,A0,E0⟩=>[rr w 57 Td A0 g0.length E0,rr w 48 Ta F0 u0.length B0]) (fun ⟨c0,g0,A0,E0⟩ y2=>Cells y2 (bl [rr w 57 Td A0 g0.length E0,rr w 48 Ta F0 u0.length B0] ++ L) E0 g0) (fun ⟨c0,g0,A0,E0⟩=>(c0,g0)) (0,([]:List Td),vN,[]) D4 E1 (AE (cs:=[]) (xs:=([]:List Td)) E1 L (AR _ _)) ?_
 rintro G5 ⟨c0,g0,A0,E0⟩ y2 g1 G0 Q0 U0 h
 unfold az_l1 at h
 try dsimp only at h
 refine Ae<|Ac (Bm (i:=c0) (j:=u0.length) rfl rfl)<|Aa<|Ak<|AI rfl h (fun R2 h=>?_) (fun R2 h=>?_)
 refine Ap<|Ak<|Au<|Ae<|Af rfl<|bk h fun c1 d5 h=>?_
 obtain ⟨E2,b6,y1,g2,z6,H4,B4⟩:=St.nth (α:=Ta) G0 .t1 (AL R0 (Tt (St.nilRowT C0 57 (Rep.size Td)) Q0)) d5
 obtain ⟨K2,c6,q4⟩:=Bu (α:=Ta) G0 .t1 g2
 obtain rfl:E2 = ⟨K2,0,none⟩:=by rw [q4] at y1; cases y1; rfl
 obtain rfl:=bB H4
 refine Ac (Bh 16 c0 rfl y1 rfl rfl g2)<|Ac (AD rfl B4)<|RG.nl zL G0 fun z7 H5 j3 H1=>Ag rfl<|AW (ac c1) j3 .hd (aq rfl) fun A7 v0 I1=>Aa<|Ak<|du 4 fun t0 b1=>xk h (fun G6 Y0 h=>?_) (fun d1 Y0 h=>?_)
 refine Rx 1 20 t0 rfl b1 (AD rfl (v0.memA .hd))<|RD.each [0,3] (rk t0) ⟨?_,?_,trivial⟩
 have h:=ax h I0
 refine RO.callE (fst:=[]) (cap:=[]) rfl .plain (bd 48) rfl (e2 rfl rfl) (fun p q=>aY_c n (v0.hL0 hL q)  Y0) fun B7 P3=>?_
 obtain ⟨k3,K6⟩:=v0.agr P3
 cases h
 exact AS hp0 func62 ⟨k3.ag,rfl⟩
 refine RO.new (m' :=10) (sk t0) rfl .plain rfl (AA zL v0) fun C7 I5 F1 M6=>?_
 have h:=ax h I0
 refine By (i:=0) (rk t0) (RO.callE (fst:=[]) (cap:=[]) rfl .plain (bd 48) rfl (e2 rfl rfl) (fun p q=>aY_c n (F1.hL0 hL q)  Y0) (fun D7 Q3=>?_))
 obtain ⟨q3,P6⟩:=F1.agr Q3
 cases h
 exact AS hp0 func62 ⟨q3.ag,rfl⟩
 refine RD.cq 0 1 20 (.agg ((ac d1)).toArray) t0 rfl b1 (bd 48) rfl (e2 rfl rfl) (fun p q=>AP (aY_c n (v0.hL0 hL q)  Y0)) rfl<|Rx 1 20 t0 rfl b1 (AD rfl (v0.memA .hd))<|xk h (fun H6 Z0 h=>?_) (fun d0 Z0 h=>?_)
 refine RD.each [2,3] (rk t0) ⟨?_,?_,trivial⟩
 have h:=ax h I0
 refine RO.callE (fst:=[]) (cap:=[]) rfl .plain (bd 54) rfl (e2 rfl rfl) (fun p q=>bB_c n (v0.hL0 hL q) d1 c1 Z0) fun E7 R3=>?_
 obtain ⟨s3,Q6⟩:=v0.agr R3
 cases h
 exact AS hp0 func62 ⟨s3.ag,rfl⟩
 refine RO.new (m' :=11) (sk t0) rfl .plain rfl (AA zL v0) fun F7 J5 G1 R6=>?_
 have h:=ax h I0
 refine By (i:=2) (rk t0) (RO.callE (fst:=[]) (cap:=[]) rfl .plain (bd 54) rfl (e2 rfl rfl) (fun p q=>bB_c n (G1.hL0 hL q) d1 c1 Z0) (fun G7 U3=>?_))
 obtain ⟨u3,U6⟩:=G1.agr U3
 cases h
 exact AS hp0 func62 ⟨u3.ag,rfl⟩
 refine RD.cq 2 7 16 (.agg ((ac d0)).toArray) t0 rfl b1 (bd 54) rfl (e2 rfl rfl) (fun p q=>AP (bB_c n (v0.hL0 hL q) d1 c1 Z0)) rfl<|RD.nu 3 15 t0 rfl .plain rfl (AA zL v0) fun H7 K5 v3 J1=>BB 4 31 t0 rfl rfl .plain (AB (news:=(ac d0)) v3 .hd rfl rfl rfl rfl rfl rfl (aq rfl)) fun I7 x0 K1=>AH (dk t0)<|Ak<|Ae<|Af rfl ?_
 have c7:g0.length <= 4294967296:=St.rowLe (α:=Td) x0 .t2
 obtain ⟨E5,d6,s4⟩:=St.rowV (α:=Td) x0 .t2
 refine Ac (FV.lenV underlying52 rfl s4)<|Ag rfl<|Aa<|Ak<|du 12 fun k0 q0=>Rv 0 k0 rfl q0 (fun _=>Aj rfl)<|Rv 1 k0 rfl q0 (fun _=>FV.gtrN (i:=g0.length) (j:=0) rfl rfl)<|Rv 2 k0 rfl q0 (fun _=>Aj rfl)<|RD.ifd (s:=33) rfl h (fun U2 h=>?_) (fun U2 h=>?_)
 refine RD.vP 3 15 k0 rfl q0 (.yes rfl rfl) (fun _=>Aj rfl) rfl<|RD.vP 4 31 k0 rfl q0 (.yes rfl rfl) (fun _=>Aj rfl) rfl<|RD.vP 5 63 k0 rfl q0 (.yes rfl rfl) (fun _=>FV.subN (i:=g0.length) (j:=1) rfl rfl (by omega) (by omega)) rfl<|bk h fun D0 s2 h=>?_
 have X0:=Tt H1 (Tt I1 (Tt J1 K1))
 have B1:=AL U0 X0
 obtain ⟨F2,g6,H0,W0,A6,I4,k2⟩:=St.nth (α:=Td) x0 .t2 B1 s2
 obtain ⟨M2,j6,X1⟩:=Bu (α:=Td) x0 .t2 W0
 obtain rfl:F2 = ⟨M2,0,none⟩:=by rw [X1] at H0; cases H0; rfl
 obtain rfl:=dU I4
 refine RD.vP 6 127 k0 rfl q0 (.yes rfl rfl) (fun _=>Bh 18 (g0.length - 1) rfl H0 rfl rfl W0) rfl<|RD.vP 7 255 k0 rfl q0 (.yes rfl rfl) (fun _=>Bo 0 rfl) rfl<|RD.val (i:=8) (m' :=511) (W:=3072) (tk k0) rfl q0 (.yes rfl rfl) (Bn (cs:=(ac D0.fB)) rfl rfl (ar k2 0 16)) rfl<|RD.val (i:=9) (m' :=1023) (W:=3072) (tk k0) rfl q0 (.yes rfl rfl) (AD rfl (x0.memA .hd)) rfl<|RD.vP 10 2047 k0 rfl q0 (.yes rfl rfl) (fun _=>FV.eqlV (v:=.agg ((ac D0.fB)).toArray) (u:=.agg ((ac d0)).toArray) rfl rfl (jP D0.fB d0)) rfl<|Rv 11 k0 rfl q0 (fun _=>FV.pick_t rfl rfl)<|AH (dk k0)<|AI rfl h (fun V2 h=>?_) (fun V2 h=>?_)
 refine Ae<|Af rfl<|Af rfl<|Ac (FV.subN (i:=g0.length) (j:=1) rfl rfl (by omega) (by omega))<|Af rfl<|Af rfl<|Ac (FV.subN (i:=g0.length) (j:=1) rfl rfl (by omega) (by omega))<|Af rfl<|Ac (Bg (i:=c0) (j:=1) rfl rfl (by omega))<|Af rfl<|Af rfl<|Ac (FV.subN (i:=g0.length) (j:=1) rfl rfl (by omega) (by omega))<|Ac (Bh 18 (g0.length - 1) rfl H0 rfl rfl W0)<|Bk 17 rfl<|AO rfl (k2 17 _ rfl)<|bk h fun C1 U4 h=>Ac (Bs (i:=D0.fF) (j:=1) rfl rfl U4)<|Ac (Bh 18 (g0.length - 1) rfl H0 rfl rfl W0)<|Bk 16 rfl ?_
 obtain ⟨k6,t4,X6,B6,J4,g7,c4⟩:=St.nthAt (α:=Td) x0 .t2 B1 s2 X1
 obtain rfl:=dU J4
 refine bk h fun W7 k5 h=>RG.acts' .plain (Acts.setPart (α:=Td) (i:=g0.length - 1) (tot:=16) (ds:=(gk D0)) (news:=[vI ((c0 + 1:Nat):Int)]) (full:=(ac D0.fB ++ ([vI ((c0 + 1:Nat):Int),vI D0.fF]:List Value))) k5 x0 t4 (fun _=>.t2) B1 c4 rfl rfl rfl rfl rfl rfl (eG D0.fB ((c0 + 1:Nat):Int) D0.fF) rfl (o1 rfl)) fun J7 ⟨C6,P0,G3,u1⟩=>bk h fun J0 u2 h=>?_
 obtain ⟨G2,p6,z1,j2,D6,K4,j7⟩:=St.nth (α:=Td) P0 .t2 u1 u2
 obtain ⟨P2,q6,Y1⟩:=Bu (α:=Td) P0 .t2 j2
 obtain rfl:G2 = ⟨P2,0,none⟩:=by rw [Y1] at z1; cases z1; rfl
 obtain rfl:=dU K4
 refine Ac (Bh 18 (g0.length - 1) rfl z1 rfl rfl j2)<|Bk 17 rfl ?_
 obtain ⟨s6,u4,Y6,E6,M4,k7,d4⟩:=St.nthAt (α:=Td) P0 .t2 u1 u2 Y1
 obtain rfl:=dU M4
 refine bk h fun z5 p5 h=>RG.acts' .plain (Acts.setPart (α:=Td) (i:=g0.length - 1) (tot:=17) (ds:=(gk J0)) (news:=[vI C1]) (full:=(ac J0.fB ++ ([vI J0.fC,vI C1]:List Value))) p5 P0 u4 (fun _=>.t2) u1 d4 rfl rfl rfl rfl rfl rfl (eG J0.fB J0.fC C1) rfl (o1 rfl)) fun K7 ⟨X2,x3,H3,Y3⟩=>Aa<|AT rfl<|Ao<|Ac (Bg (i:=c0) (j:=1) rfl rfl (by omega))<|Af rfl<|Aa ?_
 obtain ⟨y3,M1⟩:=AN x3 .d2
 exact g1 (c0 + 1,z5,A0,X2) y3 (Tt Q0 (Tt X0 (Tt G3 (Tt H3 M1)))) (AL Y3 M1) h
 refine Ap<|Ao<|Af rfl<|Ac (AD rfl (x0.memA .hd))<|Af rfl<|Ac (Bg (i:=c0) (j:=1) rfl rfl (by omega))<|Ac (AX (vs:=[.agg ((ac d0)).toArray,vI ((c0 + 1:Nat):Int),vI 1]) (u:=.agg ((ac d0 ++ ([vI ((c0 + 1:Nat):Int),vI 1]:List Value))).toArray) (e3 rfl rfl rfl) (fun p=>by kernel_rfl))<|Al .plain rfl (Ba (α:=Td) (xs:=([(⟨d0,((c0 + 1:Nat):Int),(1:Int)⟩:Td)]:List Td)) (vs:=[.agg ((ac d0 ++ ([vI ((c0 + 1:Nat):Int),vI 1]:List Value))).toArray]) (ds' :=(ac d0 ++ ([vI ((c0 + 1:Nat):Int),vI 1]:List Value))) rfl x0 lg rfl (e1 rfl) (by kernel_rfl) rfl) fun M7 M5 k1 P1=>bk h fun A5 q5 h=>RG.doesL .plain rfl (DoesL.app (α:=Td) (ys:=([(⟨d0,((c0 + 1:Nat):Int),(1:Int)⟩:Td)]:List Td)) q5 k1 (fun _ _=>.t3) lg rfl rfl (AL U0 (Tt X0 P1)) (Src.row (α:=Td) k1 .hd (AE (cs:=(ac d0 ++ ([vI ((c0 + 1:Nat):Int),vI 1]:List Value))) (xs:=(([(⟨d0,((c0 + 1:Nat):Int),(1:Int)⟩:Td)]:List Td):List Td)) k1 L (Ar (cs:=(ac d0 ++ ([vI ((c0 + 1:Nat):Int),vI 1]:List Value))) (ds:=[]) (eG d0 ((c0 + 1:Nat):Int) (1:Int)) (AR _ _))))) fun v5 P7 ⟨Y2,z3,I3,Z3⟩=>Ag rfl<|Aa<|Ay<|Ao<|Ac (Bg (i:=c0) (j:=1) rfl rfl (by omega))<|Af rfl<|Aa ?_
 obtain ⟨A3,Q1⟩:=AN z3 .d3
 exact g1 (c0 + 1,A5,v5,Y2) A3 (Tt Q0 (Tt X0 (Tt P1 (Tt I3 Q1)))) (AL Z3 Q1) h
 refine Bb 2047 1 [(3,34),(4,35),(5,36),(6,37),(7,38),(8,39),(9,40),(10,41)] (F:=[(33,false)]) (U:=[]) k0 q0 (.cons rfl .nil) .nil ?_
 dsimp only [aC,List.map]
 refine Rv 11 k0 rfl q0 (fun _=>AK rfl rfl)<|AH (dk k0)<|Bp rfl<|Ap<|Ao<|Af rfl<|Ac (AD rfl (x0.memA .hd))<|Af rfl<|Ac (Bg (i:=c0) (j:=1) rfl rfl (by omega))<|Ac (AX (vs:=[.agg ((ac d0)).toArray,vI ((c0 + 1:Nat):Int),vI 1]) (u:=.agg ((ac d0 ++ ([vI ((c0 + 1:Nat):Int),vI 1]:List Value))).toArray) (e3 rfl rfl rfl) (fun p=>by kernel_rfl))<|Al .plain rfl (Ba (α:=Td) (xs:=([(⟨d0,((c0 + 1:Nat):Int),(1:Int)⟩:Td)]:List Td)) (vs:=[.agg ((ac d0 ++ ([vI ((c0 + 1:Nat):Int),vI 1]:List Value))).toArray]) (ds' :=(ac d0 ++ ([vI ((c0 + 1:Nat):Int),vI 1]:List Value))) rfl x0 lg rfl (e1 rfl) (by kernel_rfl) rfl) fun Q7 P5 q1 J3=>bk h fun B5 s5 h=>?_
 have q2:=Tt H1 (Tt I1 (Tt J1 (Tt K1 J3)))
 refine RG.doesL .plain rfl (DoesL.app (α:=Td) (ys:=([(⟨d0,((c0 + 1:Nat):Int),(1:Int)⟩:Td)]:List Td)) s5 q1 (fun _ _=>.t3) lg rfl rfl (AL U0 q2) (Src.row (α:=Td) q1 .hd (AE (cs:=(ac d0 ++ ([vI ((c0 + 1:Nat):Int),vI 1]:List Value))) (xs:=(([(⟨d0,((c0 + 1:Nat):Int),(1:Int)⟩:Td)]:List Td):List Td)) q1 L (Ar (cs:=(ac d0 ++ ([vI ((c0 + 1:Nat):Int),vI 1]:List Value))) (ds:=[]) (eG d0 ((c0 + 1:Nat):Int) (1:Int)) (AR _ _))))) fun x5 R7 ⟨Z2,B3,K3,b4⟩=>Ag rfl<|Aa<|Ay<|Ao<|Ac (Bg (i:=c0) (j:=1) rfl rfl (by omega))<|Af rfl<|Aa ?_
 obtain ⟨C3,R1⟩:=AN B3 .d3
 exact g1 (c0 + 1,B5,x5,Z2) C3 (Tt Q0 (Tt q2 (Tt K3 R1))) (AL b4 R1) h
 refine AT rfl ?_
 have h:=aF h I0
 try dsimp only at h
 refine Ae<|Af rfl<|Ag rfl<|Aa<|Am rfl ?_
 have s1:=St.delS G0 .hd
 have V6:=St.delT G0 .hd
 have P4:=Rep.at_ (α:=Td) (v:=A0) (xs:=g0) s1 L (Bv (α:=Td) G0 .hd U0 hL)
 refine AU hb0 func62 rfl rfl ?_
 cases h
 exact ⟨s1.ag,fun p q=>ay ⟨A0,rfl,s1.kd P4 q⟩⟩
def bF_p (n:Nat) (a0:Tf) (a1:List Int) (a2:Int) (a3:Int) (a4:Int):Option ((List Td) × Int):=
  (az_p n a0 a1 a2 a3 a4).bind fun c0=>exc c0 (fun d0=>some (d0,(0:Int))) (fun b0=>some (([]:List Td),b0.fy))
theorem bF_c (n:Nat) {L w} (hL:hl L w) (a0:Tf) {v0_3:Value} (h0_3:Rep.R w L [v0_3] a0.fu) {a1:List Int} {v1_0:Value} (h1_0:Rep.R w L [v1_0] a1) {a2:Int} {a3:Int} {a4:Int}  {r:(List Td) × Int} (h:bF_p n a0 a1 a2 a3 a4 = some r) :
 Cl 16 #[.agg #[vI a0.fh,vI a0.fc,vI a0.fe,v0_3],v1_0,vI a2,vI a3,vI a4] w (ak w fun w' u=>∃ v0_0:Value,u = .tuple #[v0_0,vI r.2]/\Rep.R w' L [v0_0] r.1):=by
 unfold bF_p at h
 refine AC func16 rfl rfl rfl fun _ cs0 hb0=>Ae<|RG.bx (Ax w) rfl rfl fun W1 g0 F0 F1=>RG.bx F0 rfl (Rep.c1 (AQ h1_0 F0)) fun c2 j0 Q0 G1=>RG.bx Q0 rfl rfl fun d2 k0 R0 H1=>RG.bx R0 rfl rfl fun g2 p0 U0 I1=>RG.bx U0 rfl rfl fun w32 q0 V0 J1=>Ag rfl<|Ag rfl<|Aa<|Ae<|Ac (Bw (vs:=[]) (us:=[vP g0,vP j0,vP k0,vP p0,vP q0]) ai (e5 rfl rfl rfl rfl rfl))<|Bq (fst:=[]) (cap:=[]) (vs:=[.func (.func 62) #[] #[vP g0,vP j0,vP k0,vP p0,vP q0]]) .plain (bd 61) func61 rfl rfl rfl rfl (e1 rfl) rfl fun B1 G0 U1=>Ae<|RG.nl [vN] V0 fun j2 s0 W0 K1=>RG.nl [vI 0] W0 fun k2 d0 b0 M1=>Aa<|Ae<|Ac (Bw (vs:=[]) (us:=[vP s0,vP d0]) ai (e2 rfl rfl))<|RG.defer (fst:=[]) (cap:=[vP s0,vP d0]) (vs:=[]) rfl .plain rfl ai<|Aa<|Ae ?_
 refine Af rfl<|xk h (fun u0 B0 h=>?_) (fun v2 B0 h=>?_)
 refine Bi (fst:=[]) (cap:=[vP g0,vP j0,vP k0,vP p0,vP q0]) .plain (bd 62) rfl ai (fun p q=>az_c n (b0.hL hL q) a0 (b0.km h0_3 q) (ah q (b0.memA .t6)) (b0.km h1_0 q) (ah q (b0.memA .t5)) (ah q (b0.memA .t4)) (ah q (b0.memA .t3)) (ah q (b0.memA .t2)) B0) fun p2 p1=>?_
 obtain ⟨X0,P1⟩:=b0.agr p1
 refine PN.callD (vs:=[]) (cap:=[vP s0,vP d0]) (bd 104) func104 rfl rfl rfl fun A1 q1 u1=>Ae<|RG.recover1 .plain q1 rfl<|Ag rfl<|Aa<|Ae<|Af rfl<|Ac (FV.neqI underlying20 rfl rfl)<|Aa<|Br rfl<|Ae<|Af rfl<|Ac (FV.assertT rfl rfl)<|Af rfl<|Ac (Ai rfl rfl)<|Ac (Ai rfl rfl)<|RG.nl [vI 0] X0 fun q2 y1 Y0 Q1=>AW [vI u0.fy] Y0 .hd (o1 rfl) fun s2 x0 R1=>Ag rfl<|Aa<|Ak<|Ae<|Af rfl<|Ac (BD rfl)<|Aa<|Bp rfl<|Ap<|Ae<|Ag rfl<|Aa<|du 3 fun c0 C0=>Rv 0 c0 rfl C0 (fun _=>Aj rfl)<|Rv 1 c0 rfl C0 (fun _=>Bo 0 rfl)<|RD.mo (α:=Unit) (fun ()=>[(1,vP d0),(19,vI u0.fy)]) (fun ()=>[.cells d0 [vI 0] 49,.cells s0 [vN] 52,.cells q0 [vI a4] 3,.cells p0 [vI a3] 3,.cells k0 [vI a2] 3,.cells j0 [v1_0] 39,.cells g0 [vI a0.fh,vI a0.fc,vI a0.fe,v0_3] 37]) x0 1 15 ?_ ?_
 rintro ⟨⟩ u2 I0 C1
 try dsimp only
 refine BB 4 31 c0 rfl rfl .plain (AB (news:=[vI u0.fy]) I0 .hd rfl rfl rfl rfl rfl rfl (o1 rfl)) fun X1 t0 D1=>AH (dk c0)<|MX.fin rfl<|RT.leaveD1 u1 func104 rfl .nil<|Aq (u:=.tuple #[vN,vI u0.fy]) G0 func61 rfl (.cons (.one rfl rfl ((t0.memA .t1) 0 _ rfl)) (.cons (.one rfl rfl ((t0.memA .hd) 0 _ rfl)) .nil)) rfl<|Ac (Ai rfl rfl)<|Ac (Ai rfl rfl)<|Ag rfl<|Ag rfl<|Aa<|Am rfl ?_
 have v1:=Rep.nilAt (α:=Td) t0 L
 refine Aq hb0 func16 rfl (.cons (.tmp rfl) (.cons (.tmp rfl) .nil)) rfl ?_
 cases h
 exact ⟨t0.ag,fun p q=>⟨vN,rfl,t0.kd v1 q⟩⟩
 intro E0
 refine RD.each [2,3] (rk c0) ⟨?_,?_,trivial⟩
 refine RO.val (m' :=7) (sk c0) rfl .plain rfl (AZ rfl ((x0.memA .hd) 0 _ rfl))<|BB 3 15 c0 rfl rfl .plain (AB (news:=[vN]) x0 .t2 rfl rfl rfl rfl rfl rfl (o1 rfl)) fun x1 y0 z0=>?_
 obtain ⟨J0,Z0⟩:=AN y0 .d1
 exact E0 () J0 (Tt z0 Z0)
 refine RO.now (m' :=11) (sk c0) rfl rfl .plain (AB (news:=[vN]) x0 .t2 rfl rfl rfl rfl rfl rfl (o1 rfl)) fun x1 y0 z0=>Rx 2 16 c0 rfl C0 (AZ rfl ((y0.memA .hd) 0 _ rfl)) ?_
 obtain ⟨K0,b1⟩:=AN y0 .d1
 exact E0 () K0 (Tt z0 b1)
 refine Bj (fst:=[]) (cap:=[vP g0,vP j0,vP k0,vP p0,vP q0]) .plain (bd 62) rfl ai (fun p q=>AP (az_c n (b0.hL hL q) a0 (b0.km h0_3 q) (ah q (b0.memA .t6)) (b0.km h1_0 q) (ah q (b0.memA .t5)) (ah q (b0.memA .t4)) (ah q (b0.memA .t3)) (ah q (b0.memA .t2)) B0)) rfl fun Y1 D0 k1 ⟨V1,hu_,A0⟩=>?_
 subst hu_
 obtain ⟨M0,E1⟩:=b0.agr k1
 refine RG.now .plain (AB (news:=[D0]) M0 .t1 rfl rfl rfl (Rep.c1 A0) rfl rfl (o1 (Bd A0))) fun Z1 P0 g1=>AW [vI 0] P0 .hd (o1 rfl) fun b2 v0 j1=>Aa<|Am rfl<|RT.callD (vs:=[]) (cap:=[vP s0,vP d0]) (bd 104) func104 rfl rfl rfl fun z1 H0 s1=>Ae<|RG.recover0 .plain H0 rfl<|Ag rfl<|Aa<|Ae<|Af rfl<|Ac (FV.neqI0 underlying20 rfl rfl)<|Aa<|Bp rfl<|Ap<|MX.fin rfl<|RT.leaveD0 H0 s1 func104 rfl .nil<|Aq (u:=.tuple #[D0,vI 0]) G0 func61 rfl (.cons (.one rfl rfl ((v0.memA .t1) 0 _ rfl)) (.cons (.one rfl rfl ((v0.memA .hd) 0 _ rfl)) .nil)) rfl<|Ac (Ai rfl rfl)<|Ac (Ai rfl rfl)<|Ag rfl<|Ag rfl<|Aa<|Am rfl<|Aq hb0 func16 rfl (.cons (.tmp rfl) (.cons (.tmp rfl) .nil)) rfl ?_
 cases h
 exact ⟨v0.ag,fun p q=>⟨D0,rfl,v0.kd (Az A0 (Tt g1 j1)) q⟩⟩
def bS_l1 (n:Nat) (d0:List Ta) (v0:Ta) (j0:Int × Nat -> Option ((Except Te Ta) ⊕ Int)):Int × Nat -> Option ((Except Te Ta) ⊕ Int)
  | (g0,b0)=>(if b0 < d0.length then (d0[b0]?).bind fun s0=>(ci_p n s0 v0).bind fun c0=>(bv_p n c0.1 c0.2).bind fun t0=>exc t0 (fun u0=>(chk (1 + u0)).bind fun p0=>(chk (g0 + p0)).bind fun q0=>j0 (q0,b0 + 1)) (fun k0=>some (.inl (.error k0))) else some (.inr g0))
def bS_p (n:Nat) (a0:Tf) (a1:List Int) (a2:Int) (a3:Int) (a4:Int):Option (Except Te Ta):=
  (ah_p n a0 a1 a2 a3 a4).bind fun q0=>exc q0 (fun b0=>(bt_p n b0).bind fun z0=>exc z0 (fun A0=>thn (ao (bS_l1 n b0 A0) n (0,0)) (fun B0=>(chk (2 * ((b0.length:Nat):Int))).bind fun p0=>(aY_p n B0 p0).bind fun s0=>exc s0 (fun t0=>(aY_p n (1:Int) (2:Int)).bind fun u0=>exc u0 (fun v0=>(bB_p n t0 v0).bind fun x0=>exc x0 (fun y0=>some (.ok y0)) (fun j0=>some (.error j0))) (fun g0=>some (.error g0))) (fun d0=>some (.error d0)))) (fun k0=>some (.error k0))) (fun c0=>some (.error c0))
theorem bS_c (n:Nat) {L w} (hL:hl L w) (a0:Tf) {v0_3:Value} (h0_3:Rep.R w L [v0_3] a0.fu) {p0:Nat} (m0:∀ j9 v9,([vI a0.fh,vI a0.fc,vI a0.fe,v0_3]:List Value)[j9]? = some v9 -> w.cell? ((⟨p0,0,none⟩:Addr).add j9) = some v9) {a1:List Int} {v1_0:Value} (h1_0:Rep.R w L [v1_0] a1) {p1:Nat} (m1:∀ j9 v9,([v1_0]:List Value)[j9]? = some v9 -> w.cell? ((⟨p1,0,none⟩:Addr).add j9) = some v9) {a2:Int} {p2:Nat} (m2:∀ j9 v9,([vI a2]:List Value)[j9]? = some v9 -> w.cell? ((⟨p2,0,none⟩:Addr).add j9) = some v9) {a3:Int} {p3:Nat} (m3:∀ j9 v9,([vI a3]:List Value)[j9]? = some v9 -> w.cell? ((⟨p3,0,none⟩:Addr).add j9) = some v9) {a4:Int} {p4:Nat} (m4:∀ j9 v9,([vI a4]:List Value)[j9]? = some v9 -> w.cell? ((⟨p4,0,none⟩:Addr).add j9) = some v9)  {r:Except Te Ta} (h:bS_p n a0 a1 a2 a3 a4 = some r) :
 Cl 64 #[.pointer (some ⟨p0,0,none⟩),.pointer (some ⟨p1,0,none⟩),.pointer (some ⟨p2,0,none⟩),.pointer (some ⟨p3,0,none⟩),.pointer (some ⟨p4,0,none⟩)] w (aD w (fun (y:Ta) _ u=>u = .agg ((ac y)).toArray) (fun e=>.iface 138 (.agg #[vI e.fy])) r):=by
 unfold bS_p at h
 refine Bz func64 rfl rfl rfl fun _ cs0 hb0 hp0=>Ae<|RG.nl zL (Ax w) fun Z2 I0 c0 G2=>Aa<|Ae<|Ac (AD rfl (fun j9 v9 h9=>c0.ag.cell0 (m0 j9 v9 h9)))<|AO rfl ((fun j9 v9 h9=>c0.ag.cell0 (m1 j9 v9 h9)) 0 _ rfl)<|AO rfl ((fun j9 v9 h9=>c0.ag.cell0 (m2 j9 v9 h9)) 0 _ rfl)<|AO rfl ((fun j9 v9 h9=>c0.ag.cell0 (m3 j9 v9 h9)) 0 _ rfl)<|AO rfl ((fun j9 v9 h9=>c0.ag.cell0 (m4 j9 v9 h9)) 0 _ rfl)<|xk h (fun B2 y0 h=>?_) (fun q0 y0 h=>?_)
 refine Bi (fst:=[]) (cap:=[]) .plain (bd 53) rfl (e5 rfl rfl rfl rfl rfl) (fun p q=>Calls.erp (ah_c n (c0.hL hL q) a0 (c0.km h0_3 q) (c0.km h1_0 q) y0)) fun j3 H1=>?_
 obtain ⟨v1,P2⟩:=c0.agr H1
 cases h
 exact AS hp0 func64 ⟨v1.ag,rfl⟩
 refine jE (bd 53) rfl (e5 rfl rfl rfl rfl rfl) (fun p q=>cP (b0:=w.heap.size) (AP (ah_c n (c0.hL hL q) a0 (c0.km h0_3 q) (c0.km h1_0 q) y0)) q (Nat.le_trans c0.ag.size q.size)) rfl fun t3 E0 U2 ⟨Y2,K0,Z1,U0,K1⟩=>?_
 subst Z1
 have k0:=dD c0 U0
 have Q2:=gP c0 U0
 have v0:=AE (cs:=K0) (xs:=(q0:List Ta)) k0 L (cD K1)
 refine Ag rfl<|Aa<|Ae<|Af rfl<|xk h (fun F2 D0 h=>?_) (fun t0 D0 h=>?_)
 refine Bi (fst:=[]) (cap:=[]) .plain (bd 55) rfl (e1 rfl) (fun p q=>bt_c n (k0.hL0 hL q) (Av (St.lend (α:=Ta) (L:=L) k0 .hd v0 hL) q) D0) fun u3 J1=>?_
 obtain ⟨x1,R2⟩:=k0.agr J1
 cases h
 exact AS hp0 func64 ⟨x1.ag,rfl⟩
 refine Bf (.agg ((ac t0)).toArray) (bd 55) rfl (e1 rfl) (fun p q=>AP (bt_c n (k0.hL0 hL q) (Av (St.lend (α:=Ta) (L:=L) k0 .hd v0 hL) q) D0)) rfl<|RG.nl zL k0 fun v3 J0 y1 C1=>AW (ac t0) y1 .hd (aq rfl) fun x3 u0 D1=>Ag rfl<|Aa<|Ak<|Ae<|Af rfl ?_
 have V2:q0.length <= 4294967296:=St.rowLe (α:=Ta) u0 .t1
 obtain ⟨k2,y2,Q1⟩:=St.rowV (α:=Ta) u0 .t1
 refine Ac (FV.lenV underlying101 rfl Q1)<|Af rfl<|Aa<|Au<|tn h fun W2 U1 Q0=>MX.lo (α:=Int × Nat) (fun ⟨s0,g0⟩=>[(5,vP I0),(6,E0),(7,vP J0),(8,vI s0),(19,E0),(20,vI ((q0.length:Nat):Int)),(21,vI ((g0:Nat):Int))]) (fun ⟨s0,g0⟩=>[.cells J0 (ac t0) 48,rr w 48 Ta E0 q0.length K0,.cells I0 zL 48]) (fun ⟨s0,g0⟩=>(s0,g0)) (0,0) U1 u0 ?_
 rintro q2 ⟨s0,g0⟩ y3 c1 d0 P0 h
 unfold bS_l1 at h
 try dsimp only at h
 refine Ae<|Ac (Bm (i:=g0) (j:=q0.length) rfl rfl)<|Aa<|Ak<|AI rfl h (fun b1 h=>?_) (fun b1 h=>?_)
 refine Ap<|Ak<|Au<|Ae<|bk h fun V0 b2 h=>?_
 obtain ⟨Y0,u2,x0,R0,z2,V1,R1⟩:=St.nth (α:=Ta) d0 .t1 (AL v0 (Tt C1 (Tt D1 P0))) b2
 obtain ⟨Z0,v2,M1⟩:=Bu (α:=Ta) d0 .t1 R0
 obtain rfl:Y0 = ⟨Z0,0,none⟩:=by rw [M1] at x0; cases x0; rfl
 obtain rfl:=bB V1
 refine Ac (Bh 16 g0 rfl x0 rfl rfl R0)<|Ac (AD rfl R1)<|RG.nl zL d0 fun b3 s2 g1 z1=>AW (ac V0) g1 .hd (aq rfl) fun c3 j0 A1=>Aa<|Ao<|Af rfl<|Ac (AD rfl (j0.memA .hd))<|Ac (AD rfl (j0.memA .t1))<|bk h fun W0 c2 h=>Bf (.tuple #[vI W0.1,vI W0.2]) (bd 35) rfl (e2 rfl rfl) (fun p q=>ci_c n (j0.hL0 hL q) V0 t0 c2) rfl<|Ac (Ai rfl rfl)<|Ac (Ai rfl rfl)<|xk h (fun A2 z0 h=>?_) (fun X0 z0 h=>?_)
 have h:=ax h Q0
 refine Bi (fst:=[]) (cap:=[]) .plain (bd 65) rfl (e2 rfl rfl) (fun p q=>bv_c n (j0.hL0 hL q)  z0) fun d3 E1=>?_
 obtain ⟨j1,H2⟩:=j0.agr E1
 cases h
 exact AS hp0 func64 ⟨j1.ag,rfl⟩
 refine Bf (vI X0) (bd 65) rfl (e2 rfl rfl) (fun p q=>AP (bv_c n (j0.hL0 hL q)  z0)) rfl<|bk h fun d2 W1 h=>Ac (Bs (i:=1) (j:=X0) rfl rfl W1)<|bk h fun g2 X1 h=>Ac (Bs (i:=s0) (j:=d2) rfl rfl X1)<|Ag rfl<|Aa<|Ay<|Ao<|Ac (Bg (i:=g0) (j:=1) rfl rfl (by omega))<|Af rfl<|Aa ?_
 obtain ⟨k1,B1⟩:=AN j0 .d1
 exact c1 (g2,g0 + 1) k1 (Tt P0 (Tt z1 (Tt A1 B1))) h
 refine AT rfl ?_
 have h:=aF h Q0
 try dsimp only at h
 refine Ae<|Af rfl<|Af rfl ?_
 obtain ⟨j2,x2,P1⟩:=St.rowV (α:=Ta) d0 .t1
 refine Ac (FV.lenV underlying101 rfl P1)<|bk h fun X2 Y1 h=>Ac (FV.mulc (i:=2) (j:=((q0.length:Nat):Int)) rfl rfl Y1)<|xk h (fun C2 A0 h=>?_) (fun F0 A0 h=>?_)
 refine Bi (fst:=[]) (cap:=[]) .plain (bd 48) rfl (e2 rfl rfl) (fun p q=>aY_c n (d0.hL0 hL q)  A0) fun g3 F1=>?_
 obtain ⟨q1,I2⟩:=d0.agr F1
 cases h
 exact AS hp0 func64 ⟨q1.ag,rfl⟩
 refine Bf (.agg ((ac F0)).toArray) (bd 48) rfl (e2 rfl rfl) (fun p q=>AP (aY_c n (d0.hL0 hL q)  A0)) rfl<|xk h (fun D2 B0 h=>?_) (fun G0 B0 h=>?_)
 refine Bi (fst:=[]) (cap:=[]) .plain (bd 48) rfl (e2 rfl rfl) (fun p q=>aY_c n (d0.hL0 hL q)  B0) fun k3 G1=>?_
 obtain ⟨s1,J2⟩:=d0.agr G1
 cases h
 exact AS hp0 func64 ⟨s1.ag,rfl⟩
 refine Bf (.agg ((ac G0)).toArray) (bd 48) rfl (e2 rfl rfl) (fun p q=>AP (aY_c n (d0.hL0 hL q)  B0)) rfl<|xk h (fun E2 C0 h=>?_) (fun H0 C0 h=>?_)
 refine Bi (fst:=[]) (cap:=[]) .plain (bd 54) rfl (e2 rfl rfl) (fun p q=>bB_c n (d0.hL0 hL q) F0 G0 C0) fun q3 I1=>?_
 obtain ⟨u1,K2⟩:=d0.agr I1
 cases h
 exact AS hp0 func64 ⟨u1.ag,rfl⟩
 refine Bf (.agg ((ac H0)).toArray) (bd 54) rfl (e2 rfl rfl) (fun p q=>AP (bB_c n (d0.hL0 hL q) F0 G0 C0)) rfl<|AW (ac H0) d0 .t2 (aq rfl) fun s3 M0 M2=>Aa<|Am rfl<|Aq hb0 func64 rfl (.cons (.many (cs:=(ac H0)) rfl rfl (M0.memA .t2)) .nil) rfl ?_
 cases h
 exact ⟨M0.ag,fun p q=>ay rfl⟩
def cB_p (n:Nat) (a0:Tf) (a1:List Int) (a2:Int) (a3:Int) (a4:Int):Option (Ta × Int):=
  (bS_p n a0 a1 a2 a3 a4).bind fun c0=>exc c0 (fun d0=>some (d0,(0:Int))) (fun b0=>some ((⟨(0,0,0,0,0,0,0,0),(0,0,0,0,0,0,0,0)⟩:Ta),b0.fy))
theorem cB_c (n:Nat) {L w} (hL:hl L w) (a0:Tf) {v0_3:Value} (h0_3:Rep.R w L [v0_3] a0.fu) {a1:List Int} {v1_0:Value} (h1_0:Rep.R w L [v1_0] a1) {a2:Int} {a3:Int} {a4:Int}  {r:Ta × Int} (h:cB_p n a0 a1 a2 a3 a4 = some r) :
 Cl 18 #[.agg #[vI a0.fh,vI a0.fc,vI a0.fe,v0_3],v1_0,vI a2,vI a3,vI a4] w (ak w fun _ u=>u = .tuple #[.agg ((ac r.1)).toArray,vI r.2]):=by
 unfold cB_p at h
 refine AC func18 rfl rfl rfl fun _ cs0 hb0=>Ae<|RG.bx (Ax w) rfl rfl fun b2 j0 F0 G1=>RG.bx F0 rfl (Rep.c1 (AQ h1_0 F0)) fun q2 p0 U0 J1=>RG.bx U0 rfl rfl fun s2 q0 V0 K1=>RG.bx V0 rfl rfl fun u2 s0 W0 M1=>RG.bx W0 rfl rfl fun w32 t0 X0 P1=>RG.nl zL X0 fun v2 K0 Y0 Q1=>Ag rfl<|Aa<|Ae<|Ac (Bw (vs:=[]) (us:=[vP j0,vP p0,vP q0,vP s0,vP t0]) ai (e5 rfl rfl rfl rfl rfl))<|Bq (fst:=[]) (cap:=[]) (vs:=[.func (.func 64) #[] #[vP j0,vP p0,vP q0,vP s0,vP t0]]) .plain (bd 44) func44 rfl rfl rfl rfl (e1 rfl) rfl fun B1 I0 Z1=>Ae<|RG.nl zL Y0 fun x2 u0 Z0 R1=>RG.nl [vI 0] Z0 fun y2 d0 b0 U1=>?_
 refine Aa<|Ae<|Ac (Bw (vs:=[]) (us:=[vP u0,vP d0]) ai (e2 rfl rfl))<|RG.defer (fst:=[]) (cap:=[vP u0,vP d0]) (vs:=[]) rfl .plain rfl ai<|Aa<|Ae<|Af rfl<|xk h (fun x0 C0 h=>?_) (fun g0 C0 h=>?_)
 refine Bi (fst:=[]) (cap:=[vP j0,vP p0,vP q0,vP s0,vP t0]) .plain (bd 64) rfl ai (fun p q=>bS_c n (b0.hL0 hL q) a0 (b0.k0 h0_3 q) (ah q (b0.memA .t7)) (b0.k0 h1_0 q) (ah q (b0.memA .t6)) (ah q (b0.memA .t5)) (ah q (b0.memA .t4)) (ah q (b0.memA .t3)) C0) fun z2 p1=>?_
 obtain ⟨b1,V1⟩:=b0.agr p1
 refine PN.callD (vs:=[]) (cap:=[vP u0,vP d0]) (bd 90) func90 rfl rfl rfl fun A1 q1 u1=>Ae<|RG.recover1 .plain q1 rfl<|Ag rfl<|Aa<|Ae<|Af rfl<|Ac (FV.neqI underlying20 rfl rfl)<|Aa<|Br rfl<|Ae<|Af rfl<|Ac (FV.assertT rfl rfl)<|Af rfl<|Ac (Ai rfl rfl)<|Ac (Ai rfl rfl)<|RG.nl [vI 0] b1 fun A2 x1 d1 W1=>AW [vI x0.fy] d1 .hd (o1 rfl) fun B2 g1 X1=>Ag rfl<|Aa<|Ak<|Ae<|Af rfl<|Ac (BD rfl)<|Aa<|Bp rfl<|Ap<|Ae<|RG.nl zL g1 fun C2 y1 v0 Y1=>Aa<|du 3 fun c0 D0=>Rx 0 24 c0 rfl D0 (AD rfl (v0.memA .hd))<|Rv 1 c0 rfl D0 (fun _=>Bo 0 rfl)<|RD.mo (α:=Unit) (fun ()=>[(1,vP d0),(19,vI x0.fy)]) (fun ()=>[.cells d0 [vI 0] 49,.cells u0 zL 48,.cells K0 zL 48,.cells t0 [vI a4] 3,.cells s0 [vI a3] 3,.cells q0 [vI a2] 3,.cells p0 [v1_0] 39,.cells j0 [vI a0.fh,vI a0.fc,vI a0.fe,v0_3] 37]) v0 1 15 ?_ ?_
 rintro ⟨⟩ D2 M0 C1
 try dsimp only
 refine BB 4 31 c0 rfl rfl .plain (AB (news:=[vI x0.fy]) M0 .hd rfl rfl rfl rfl rfl rfl (o1 rfl)) fun c2 z0 D1=>AH (dk c0)<|MX.fin rfl<|RT.leaveD1 u1 func90 rfl .nil<|Aq (u:=.tuple #[.agg zM,vI x0.fy]) I0 func44 rfl (.cons (.many (cs:=zL) rfl rfl (z0.memA .t1)) (.cons (.one rfl rfl ((z0.memA .hd) 0 _ rfl)) .nil)) rfl<|Ac (Ai rfl rfl)<|Ac (Ai rfl rfl)<|AW zL z0 .t2 (aq rfl) fun g2 G0 E1=>Ag rfl<|Aa<|Am rfl<|Aq hb0 func18 rfl (.cons (.many (cs:=zL) rfl rfl (G0.memA .t2)) (.cons (.tmp rfl) .nil)) rfl ?_
 cases h
 exact G0.gv
 intro E0
 refine RD.each [2,3] (rk c0) ⟨?_,?_,trivial⟩
 refine RO.val (m' :=7) (sk c0) rfl .plain rfl (AZ rfl ((v0.memA .t1) 0 _ rfl))<|BB 3 15 c0 rfl rfl .plain (AB (news:=zL) v0 .t3 rfl rfl rfl rfl rfl rfl (aq rfl)) fun v1 y0 B0=>?_
 obtain ⟨P0,j1⟩:=AN y0 .d2
 exact E0 () P0 (Tt B0 j1)
 refine RO.now (m' :=11) (sk c0) rfl rfl .plain (AB (news:=zL) v0 .t3 rfl rfl rfl rfl rfl rfl (aq rfl)) fun v1 y0 B0=>Rx 2 16 c0 rfl D0 (AZ rfl ((y0.memA .t1) 0 _ rfl)) ?_
 obtain ⟨Q0,k1⟩:=AN y0 .d2
 exact E0 () Q0 (Tt B0 k1)
 refine RG.callq' (v:=.agg ((ac g0)).toArray) (fst:=[]) (cap:=[vP j0,vP p0,vP q0,vP s0,vP t0]) .plain (bd 64) rfl ai (fun p q=>AP (bS_c n (b0.hL0 hL q) a0 (b0.k0 h0_3 q) (ah q (b0.memA .t7)) (b0.k0 h1_0 q) (ah q (b0.memA .t6)) (ah q (b0.memA .t5)) (ah q (b0.memA .t4)) (ah q (b0.memA .t3)) C0)) rfl<|AW (ac g0) b0 .t1 (aq rfl) fun j2 R0 F1=>AW [vI 0] R0 .hd (o1 rfl) fun k2 A0 H1=>Aa<|Am rfl<|RT.callD (vs:=[]) (cap:=[vP u0,vP d0]) (bd 90) func90 rfl rfl rfl fun z1 J0 s1=>Ae<|RG.recover0 .plain J0 rfl<|Ag rfl<|Aa<|Ae<|Af rfl<|Ac (FV.neqI0 underlying20 rfl rfl)<|Aa<|Bp rfl<|Ap<|MX.fin rfl<|RT.leaveD0 J0 s1 func90 rfl .nil<|Aq (u:=.tuple #[.agg ((ac g0)).toArray,vI 0]) I0 func44 rfl (.cons (.many (cs:=(ac g0)) rfl rfl (A0.memA .t1)) (.cons (.one rfl rfl ((A0.memA .hd) 0 _ rfl)) .nil)) rfl<|Ac (Ai rfl rfl)<|Ac (Ai rfl rfl)<|AW (ac g0) A0 .t2 (aq rfl) fun p2 H0 I1=>Ag rfl<|Aa<|Am rfl<|Aq hb0 func18 rfl (.cons (.many (cs:=(ac g0)) rfl rfl (H0.memA .t2)) (.cons (.tmp rfl) .nil)) rfl ?_
 cases h
 exact H0.gv
theorem ex_Td {a b:Td} (h0:a.fB.fN.1 = b.fB.fN.1) (h1:a.fB.fN.2.1 = b.fB.fN.2.1) (h2:a.fB.fN.2.2.1 = b.fB.fN.2.2.1) (h3:a.fB.fN.2.2.2.1 = b.fB.fN.2.2.2.1) (h4:a.fB.fN.2.2.2.2.1 = b.fB.fN.2.2.2.2.1) (h5:a.fB.fN.2.2.2.2.2.1 = b.fB.fN.2.2.2.2.2.1) (h6:a.fB.fN.2.2.2.2.2.2.1 = b.fB.fN.2.2.2.2.2.2.1) (h7:a.fB.fN.2.2.2.2.2.2.2 = b.fB.fN.2.2.2.2.2.2.2) (h8:a.fB.fD.1 = b.fB.fD.1) (h9:a.fB.fD.2.1 = b.fB.fD.2.1) (b0:a.fB.fD.2.2.1 = b.fB.fD.2.2.1) (c0:a.fB.fD.2.2.2.1 = b.fB.fD.2.2.2.1) (d0:a.fB.fD.2.2.2.2.1 = b.fB.fD.2.2.2.2.1) (g0:a.fB.fD.2.2.2.2.2.1 = b.fB.fD.2.2.2.2.2.1) (j0:a.fB.fD.2.2.2.2.2.2.1 = b.fB.fD.2.2.2.2.2.2.1) (k0:a.fB.fD.2.2.2.2.2.2.2 = b.fB.fD.2.2.2.2.2.2.2) (p0:a.fC = b.fC) (q0:a.fF = b.fF):a = b:=congr (congr (congrArg Td.mk (ex_Ta (a:=a.fB) (b:=b.fB) h0 h1 h2 h3 h4 h5 h6 h7 h8 h9 b0 c0 d0 g0 j0 k0)) p0) q0
theorem eqlD_57 (a b:Td) (p:World):(do eqGuard .eql 57 (.tmp 0) (.tmp 0) (.agg #[vU a.fB.fN.1,vU a.fB.fN.2.1,vU a.fB.fN.2.2.1,vU a.fB.fN.2.2.2.1,vU a.fB.fN.2.2.2.2.1,vU a.fB.fN.2.2.2.2.2.1,vU a.fB.fN.2.2.2.2.2.2.1,vU a.fB.fN.2.2.2.2.2.2.2,vU a.fB.fD.1,vU a.fB.fD.2.1,vU a.fB.fD.2.2.1,vU a.fB.fD.2.2.2.1,vU a.fB.fD.2.2.2.2.1,vU a.fB.fD.2.2.2.2.2.1,vU a.fB.fD.2.2.2.2.2.2.1,vU a.fB.fD.2.2.2.2.2.2.2,vI a.fC,vI a.fF]) (.agg #[vU b.fB.fN.1,vU b.fB.fN.2.1,vU b.fB.fN.2.2.1,vU b.fB.fN.2.2.2.1,vU b.fB.fN.2.2.2.2.1,vU b.fB.fN.2.2.2.2.2.1,vU b.fB.fN.2.2.2.2.2.2.1,vU b.fB.fN.2.2.2.2.2.2.2,vU b.fB.fD.1,vU b.fB.fD.2.1,vU b.fB.fD.2.2.1,vU b.fB.fD.2.2.2.1,vU b.fB.fD.2.2.2.2.1,vU b.fB.fD.2.2.2.2.2.1,vU b.fB.fD.2.2.2.2.2.2.1,vU b.fB.fD.2.2.2.2.2.2.2,vI b.fC,vI b.fF]); binOp .eql 57 (.agg #[vU a.fB.fN.1,vU a.fB.fN.2.1,vU a.fB.fN.2.2.1,vU a.fB.fN.2.2.2.1,vU a.fB.fN.2.2.2.2.1,vU a.fB.fN.2.2.2.2.2.1,vU a.fB.fN.2.2.2.2.2.2.1,vU a.fB.fN.2.2.2.2.2.2.2,vU a.fB.fD.1,vU a.fB.fD.2.1,vU a.fB.fD.2.2.1,vU a.fB.fD.2.2.2.1,vU a.fB.fD.2.2.2.2.1,vU a.fB.fD.2.2.2.2.2.1,vU a.fB.fD.2.2.2.2.2.2.1,vU a.fB.fD.2.2.2.2.2.2.2,vI a.fC,vI a.fF]) (.agg #[vU b.fB.fN.1,vU b.fB.fN.2.1,vU b.fB.fN.2.2.1,vU b.fB.fN.2.2.2.1,vU b.fB.fN.2.2.2.2.1,vU b.fB.fN.2.2.2.2.2.1,vU b.fB.fN.2.2.2.2.2.2.1,vU b.fB.fN.2.2.2.2.2.2.2,vU b.fB.fD.1,vU b.fB.fD.2.1,vU b.fB.fD.2.2.1,vU b.fB.fD.2.2.2.1,vU b.fB.fD.2.2.2.2.1,vU b.fB.fD.2.2.2.2.2.1,vU b.fB.fD.2.2.2.2.2.2.1,vU b.fB.fD.2.2.2.2.2.2.2,vI b.fC,vI b.fF]):Sem Value).run Tryz.prog p = .ok (.bool (decide (a = b))) p:=
  ll (ks:=[.int .u64,.int .u64,.int .u64,.int .u64,.int .u64,.int .u64,.int .u64,.int .u64,.int .u64,.int .u64,.int .u64,.int .u64,.int .u64,.int .u64,.int .u64,.int .u64,.int .i64,.int .i64]) (xs:=[vU a.fB.fN.1,vU a.fB.fN.2.1,vU a.fB.fN.2.2.1,vU a.fB.fN.2.2.2.1,vU a.fB.fN.2.2.2.2.1,vU a.fB.fN.2.2.2.2.2.1,vU a.fB.fN.2.2.2.2.2.2.1,vU a.fB.fN.2.2.2.2.2.2.2,vU a.fB.fD.1,vU a.fB.fD.2.1,vU a.fB.fD.2.2.1,vU a.fB.fD.2.2.2.1,vU a.fB.fD.2.2.2.2.1,vU a.fB.fD.2.2.2.2.2.1,vU a.fB.fD.2.2.2.2.2.2.1,vU a.fB.fD.2.2.2.2.2.2.2,vI a.fC,vI a.fF]) (ys:=[vU b.fB.fN.1,vU b.fB.fN.2.1,vU b.fB.fN.2.2.1,vU b.fB.fN.2.2.2.1,vU b.fB.fN.2.2.2.2.1,vU b.fB.fN.2.2.2.2.2.1,vU b.fB.fN.2.2.2.2.2.2.1,vU b.fB.fN.2.2.2.2.2.2.2,vU b.fB.fD.1,vU b.fB.fD.2.1,vU b.fB.fD.2.2.1,vU b.fB.fD.2.2.2.1,vU b.fB.fD.2.2.2.2.1,vU b.fB.fD.2.2.2.2.2.1,vU b.fB.fD.2.2.2.2.2.2.1,vU b.fB.fD.2.2.2.2.2.2.2,vI b.fC,vI b.fF]) (by kernel_rfl) (by kernel_rfl) (by kernel_rfl) rfl rfl ⟨fun h=>by
    simp only [bc,veq,Bool.and_eq_true,beq_iff_eq,and_true] at h
    obtain ⟨h0,h1,h2,h3,h4,h5,h6,h7,h8,h9,b0,c0,d0,g0,j0,k0,p0,q0⟩:=h
    exact ex_Td (aj h0) (aj h1) (aj h2) (aj h3) (aj h4) (aj h5) (aj h6) (aj h7) (aj h8) (aj h9) (aj b0) (aj c0) (aj d0) (aj g0) (aj j0) (aj k0) p0 q0,fun h=>by subst h; simp [bc,veq]⟩ _ _ p
def av_l1 (_n:Nat) (a0:List Td) (a1:List Td) (c0:Nat -> Option (Bool ⊕ Unit)):Nat -> Option (Bool ⊕ Unit)
  | b0=>(if b0 < a0.length then (a0[b0]?).bind fun d0=>(a1[b0]?).bind fun g0=>(if d0 = g0 then c0 (b0 + 1) else some (.inl false)) else some (.inr ()))
def av_p (n:Nat) (a0:List Td) (a1:List Td):Option Bool:=
  (if a0.length = a1.length then thn (ao (av_l1 n a0 a1) n 0) (fun _=>some true) else some false)
theorem av_c (n:Nat) {L w} (_hL:hl L w) {a0:List Td} {v0_0:Value} (h0_0:Rep.R w L [v0_0] a0) {a1:List Td} {v1_0:Value} (h1_0:Rep.R w L [v1_0] a1)  {r:Bool} (h:av_p n a0 a1 = some r) :
 Cl 20 #[v0_0,v1_0] w (ak w fun _ u=>u = .bool r):=by
 unfold av_p at h
 have hS0:=Ax w
 refine AC func20 rfl rfl rfl fun _ cs0 hb0=>Ae<|Ag rfl<|Aa<|Ak<|Ae<|Af rfl ?_
 have hl1:a0.length <= 281474976710656:=AY h0_0
 refine Ac (Be (xs:=a0) underlying52 rfl h0_0)<|Af rfl ?_
 have hl2:a1.length <= 281474976710656:=AY h1_0
 refine Ac (Be (xs:=a1) underlying52 rfl h1_0)<|Ac (FV.neqN (i:=a0.length) (j:=a1.length) rfl rfl)<|Aa<|MX.ifn rfl h (fun c3 h=>?_) (fun c3 h=>?_)
 refine Ap<|Ak<|Ae<|Af rfl<|Ac (Be (xs:=a0) underlying52 rfl h0_0)<|Af rfl<|Aa<|Au<|tn h fun R0 C0 j0=>MX.lo (α:=Nat) (fun b0=>[(0,v0_0),(1,v1_0),(12,vI ((a0.length:Nat):Int)),(13,vI ((b0:Nat):Int))]) (fun b0=>[]) (fun b0=>b0) 0 C0 hS0 ?_
 rintro J0 b0 U0 t0 g0 u0 h
 unfold av_l1 at h
 try dsimp only at h
 refine Ae<|Ac (Bm (i:=b0) (j:=a0.length) rfl rfl)<|Aa<|Ak<|AI rfl h (fun q0 h=>?_) (fun q0 h=>?_)
 refine Ap<|Ak<|Au<|Ae<|Af rfl<|Ag rfl<|Aa<|Ak<|du 9 fun c0 d0=>Rv 0 c0 rfl d0 (fun _=>Aj rfl)<|Rv 1 c0 rfl d0 (fun _=>Aj rfl)<|bk h fun k0 F0 h=>?_
 obtain ⟨H0,K0,v0,y0,P0,D0,A0⟩:=Bl (AQ h0_0 g0) F0
 obtain rfl:=dU D0
 refine Rv 2 c0 rfl d0 (fun _=>Bh 18 b0 rfl v0 rfl rfl y0)<|Rx 3 256 c0 rfl d0 (AD rfl A0)<|Rv 4 c0 rfl d0 (fun _=>Aj rfl)<|Rv 5 c0 rfl d0 (fun _=>Aj rfl)<|bk h fun p0 G0 h=>?_
 obtain ⟨I0,M0,x0,z0,Q0,E0,B0⟩:=Bl (AQ h1_0 g0) G0
 obtain rfl:=dU E0
 refine Rv 6 c0 rfl d0 (fun _=>Bh 18 b0 rfl x0 rfl rfl z0)<|Rx 7 256 c0 rfl d0 (AD rfl B0)<|Rv 8 c0 rfl d0 (fun _=>FV.neqV (xs:=((gk k0)).toArray) (ys:=((gk p0)).toArray) rfl rfl (by kernel_rfl) (eqlD_57 k0 p0))<|AH (dk c0)<|MX.ifn rfl h (fun s0 h=>?_) (fun s0 h=>?_)
 refine Ap<|Ay<|Ao<|Ac (Bg (i:=b0) (j:=1) rfl rfl (by omega))<|Af rfl<|Aa<|t0 (b0 + 1) g0 u0 h
 refine Ae<|Ag rfl<|Aa ?_
 have h:=ax h j0
 refine Am rfl<|AU hb0 func20 rfl rfl ?_
 cases h
 exact g0.gv
 refine AT rfl ?_
 have h:=aF h j0
 try dsimp only at h
 refine Ae<|Ag rfl<|Aa<|Am rfl<|AU hb0 func20 rfl rfl ?_
 cases h
 exact g0.gv
 refine Ae<|Ag rfl<|Aa<|Am rfl<|AU hb0 func20 rfl rfl ?_
 cases h
 exact hS0.gv
def bq_l1 (_n:Nat) (a0:List Int) (d0:Int × Nat -> Option Int):Int × Nat -> Option Int
  | (c0,b0)=>(if b0 < a0.length then (a0[b0]?).bind fun g0=>d0 (max c0 g0,b0 + 1) else some c0)
def bq_p (n:Nat) (a0:List Int):Option Int:=
  (if a0.length < 1 then none else (a0[0]?).bind fun x3=>Option.bind (ao (bq_l1 n a0) n (x3,1)) (fun b0=>some b0))
theorem bq_c (n:Nat) {L w} (_hL:hl L w) {a0:List Int} {v0_0:Value} (h0_0:Rep.R w L [v0_0] a0)  {r:Int} (h:bq_p n a0 = some r) :
 Cl 113 #[v0_0] w (ak w fun _ u=>u = vI r):=by
 unfold bq_p at h
 have hS0:=Ax w
 refine AC func113 rfl rfl rfl fun _ cs0 hb0=>Ae<|Ag rfl<|Aa<|Ak<|Ae<|Af rfl ?_
 have hl1:a0.length <= 281474976710656:=AY h0_0
 refine Ac (Be (xs:=a0) underlying38 rfl h0_0)<|Ac (Bm (i:=a0.length) (j:=1) rfl rfl)<|Aa<|AI rfl h (fun c2 h=>?_) (fun c2 h=>?_)
 refine Ao ?_
 cases h
 refine Ap<|Ae<|Af rfl<|bk h fun x3 hx3 h=>?_
 obtain ⟨A4,c5,he6,hk7,cs8,hr9,z0⟩:=Bl h0_0 hx3
 have t0:cs8 = [vI x3]:=hr9; subst t0
 refine Ac (Bh 1 0 rfl he6 rfl rfl hk7)<|AO rfl (z0 0 _ rfl)<|Ag rfl<|Aa<|Ak<|Ae<|Ag rfl<|Aa<|Au ?_
 obtain ⟨H0,B0,x0⟩:=av h
 refine MX.lo (α:=Int × Nat) (fun ⟨c0,b0⟩=>[(0,v0_0),(3,vI c0),(4,vI ((b0:Nat):Int))]) (fun ⟨c0,b0⟩=>[]) (fun ⟨c0,b0⟩=>(c0,b0)) (x3,1) B0 hS0 ?_
 rintro F0 ⟨c0,b0⟩ I0 q0 d0 s0 h
 unfold bq_l1 at h
 try dsimp only at h
 refine Ak<|Ae<|Af rfl<|Af rfl ?_
 have j0:=AQ h0_0 d0
 refine Ac (Be (xs:=a0) underlying38 rfl j0)<|Ac (Bm (i:=b0) (j:=a0.length) rfl rfl)<|Aa<|AI rfl h (fun k0 h=>?_) (fun k0 h=>?_)
 refine Ap<|Ak<|Au<|Ao<|Af rfl<|Af rfl<|Af rfl<|bk h fun g0 D0 h=>?_
 obtain ⟨E0,G0,u0,y0,p0,C0,A0⟩:=Bl j0 D0
 have v0:p0 = [vI g0]:=C0; subst v0
 refine Ac (Bh 1 b0 rfl u0 rfl rfl y0)<|AO rfl (A0 0 _ rfl)<|Ac (FV.max2 (i:=c0) (j:=g0) rfl rfl)<|Ag rfl<|Aa<|Ay<|Ao<|Af rfl<|Ac (Bg (i:=b0) (j:=1) rfl rfl (by omega))<|Ag rfl<|Aa<|q0 (max c0 g0,b0 + 1) d0 s0 h
 refine AT rfl ?_
 have h:=x0 _ h
 try dsimp only at h
 refine Ae<|Af rfl<|Ag rfl<|Aa<|Am rfl<|AU hb0 func113 rfl rfl ?_
 cases h
 exact d0.gv
def bZ_l1 (_n:Nat) (a0:List Int) (y3:Int) (d0:Int × Nat -> Option (Int ⊕ Int)):Int × Nat -> Option (Int ⊕ Int)
  | (c0,b0)=>(if b0 < a0.length then (a0[b0]?).bind fun g0=>(if g0 = y3 then (if c0 < 0 then d0 (((b0:Nat):Int),b0 + 1) else some (.inl (-1:Int))) else d0 (c0,b0 + 1)) else some (.inr c0))
def bZ_p (n:Nat) (a0:List Int):Option Int:=
  (if a0.length = 0 then some (-1:Int) else (bq_p n a0).bind fun y3=>thn (ao (bZ_l1 n a0 y3) n ((-1),0)) (fun b0=>some b0))
theorem bZ_c (n:Nat) {L w} (hL:hl L w) {a0:List Int} {v0_0:Value} (h0_0:Rep.R w L [v0_0] a0)  {r:Int} (h:bZ_p n a0 = some r) :
 Cl 76 #[v0_0] w (ak w fun _ u=>u = vI r):=by
 unfold bZ_p at h
 have hS0:=Ax w
 refine AC func76 rfl rfl rfl fun _ cs0 hb0=>Ae<|Ag rfl<|Aa<|Ak<|Ae<|Af rfl ?_
 have hl1:a0.length <= 281474976710656:=AY h0_0
 refine Ac (Be (xs:=a0) underlying38 rfl h0_0)<|Ac (FV.eqlN (i:=a0.length) (j:=0) rfl rfl)<|Aa<|AI rfl h (fun c2 h=>?_) (fun c2 h=>?_)
 refine Ae<|Ag rfl<|Aa<|Am rfl<|AU hb0 func76 rfl rfl ?_
 cases h
 exact hS0.gv
 refine Ap<|Ae<|Af rfl<|bk h fun y3 hy3 h=>Bf (vI y3) (bd 113) rfl (e1 rfl) (fun p q=>bq_c n (hS0.hL0 hL q) (hS0.kd h0_0 q) hy3) rfl<|Ag rfl<|Ag rfl<|Aa<|Ak<|Ae<|Af rfl<|Ac (Be (xs:=a0) underlying38 rfl h0_0)<|Af rfl<|Aa<|Au<|tn h fun G0 A0 q0=>MX.lo (α:=Int × Nat) (fun ⟨c0,b0⟩=>[(3,vI y3),(4,vI c0),(12,v0_0),(13,vI ((a0.length:Nat):Int)),(14,vI ((b0:Nat):Int))]) (fun ⟨c0,b0⟩=>[]) (fun ⟨c0,b0⟩=>(c0,b0)) ((-1),0) A0 hS0 ?_
 rintro E0 ⟨c0,b0⟩ H0 k0 d0 p0 h
 unfold bZ_l1 at h
 try dsimp only at h
 refine Ae<|Ac (Bm (i:=b0) (j:=a0.length) rfl rfl)<|Aa<|Ak<|AI rfl h (fun s0 h=>?_) (fun s0 h=>?_)
 refine Ap<|Ak<|Au<|Ae<|Af rfl<|bk h fun g0 C0 h=>?_
 obtain ⟨D0,F0,v0,y0,u0,B0,z0⟩:=Bl (AQ h0_0 d0) C0
 have x0:u0 = [vI g0]:=B0; subst x0
 refine Ac (Bh 1 b0 rfl v0 rfl rfl y0)<|AO rfl (z0 0 _ rfl)<|Ag rfl<|Ag rfl<|Aa<|Au<|Ae<|Af rfl<|Af rfl<|Ac (FV.eql (i:=g0) (j:=y3) rfl rfl)<|Af rfl<|RG.ifd (s:=23) rfl h (fun j0 h=>?_) (fun j0 h=>?_)
 refine AV (Aj rfl)<|AV (FV.lss (i:=c0) (j:=0) rfl rfl)<|RG.pt rfl rfl<|Ag rfl<|Aa<|AI rfl h (fun t0 h=>?_) (fun t0 h=>?_)
 refine Ao<|Af rfl<|Ag rfl<|Aa<|Ay<|Ay<|Ao<|Ac (Bg (i:=b0) (j:=1) rfl rfl (by omega))<|Af rfl<|Aa<|k0 (((b0:Nat):Int),b0 + 1) d0 p0 h
 refine Ae<|Af rfl<|Af rfl<|Ac (FV.eql (i:=g0) (j:=y3) rfl rfl)<|Ag rfl<|Aa<|MX.cond_kt rfl (decide_eq_true j0)<|Ae<|Ag rfl<|Aa ?_
 have h:=ax h q0
 refine Am rfl<|AU hb0 func76 rfl rfl ?_
 cases h
 exact d0.gv
 refine AG<|AG<|RG.pf rfl rfl<|Ag rfl<|Aa<|Bp rfl<|Ae<|Af rfl<|Af rfl<|Ac (FV.eql (i:=g0) (j:=y3) rfl rfl)<|Ag rfl<|Aa<|MX.cond_kf rfl (decide_eq_false j0)<|Ap<|Ay<|Ay<|Ao<|Ac (Bg (i:=b0) (j:=1) rfl rfl (by omega))<|Af rfl<|Aa<|k0 (c0,b0 + 1) d0 p0 h
 refine AT rfl ?_
 have h:=aF h q0
 try dsimp only at h
 refine Ae<|Af rfl<|Ag rfl<|Aa<|Am rfl<|AU hb0 func76 rfl rfl ?_
 cases h
 exact d0.gv
def bz_l1 (n:Nat) (d0:List (List Int)) (g0:Nat × (List Int) -> Option (List Int)):Nat × (List Int) -> Option (List Int)
  | (b0,c0)=>(if b0 < d0.length then (d0[b0]?).bind fun j0=>(bZ_p n j0).bind fun p0=>(app c0 ([p0]:List Int)).bind fun k0=>g0 (b0 + 1,k0) else some c0)
def bz_p (n:Nat) (a0:Tf) (a1:List Int) (a2:Int):Option (Except Te (List Int)):=
  (aV_p n a0 a1 a2).bind fun y1=>exc y1 (fun d0=>(aj_p n d0).bind fun g0=>Option.bind (ao (bz_l1 n g0) n (0,([]:List Int))) (fun c0=>some (.ok c0))) (fun b0=>some (.error b0))
theorem bz_c (n:Nat) {L w} (hL:hl L w) (a0:Tf) {v0_3:Value} (h0_3:Rep.R w L [v0_3] a0.fu) {p0:Nat} (m0:∀ j9 v9,([vI a0.fh,vI a0.fc,vI a0.fe,v0_3]:List Value)[j9]? = some v9 -> w.cell? ((⟨p0,0,none⟩:Addr).add j9) = some v9) {a1:List Int} {v1_0:Value} (h1_0:Rep.R w L [v1_0] a1) {p1:Nat} (m1:∀ j9 v9,([v1_0]:List Value)[j9]? = some v9 -> w.cell? ((⟨p1,0,none⟩:Addr).add j9) = some v9) {a2:Int} {p2:Nat} (m2:∀ j9 v9,([vI a2]:List Value)[j9]? = some v9 -> w.cell? ((⟨p2,0,none⟩:Addr).add j9) = some v9)  {r:Except Te (List Int)} (h:bz_p n a0 a1 a2 = some r) :
 Cl 75 #[.pointer (some ⟨p0,0,none⟩),.pointer (some ⟨p1,0,none⟩),.pointer (some ⟨p2,0,none⟩)] w (aD w (fun (y:List Int) w' u=>∃ v0_0:Value,u = v0_0/\Rep.R w' L [v0_0] y) (fun e=>.iface 138 (.agg #[vI e.fy])) r):=by
 unfold bz_p at h
 have hS0:=Ax w
 refine Bz func75 rfl rfl rfl fun _ cs0 hb0 hp0=>Ae<|Ag rfl<|Aa<|Ak<|Ae<|Ac (AD rfl (fun j9 v9 h9=>hS0.ag.cell0 (m0 j9 v9 h9)))<|AO rfl ((fun j9 v9 h9=>hS0.ag.cell0 (m1 j9 v9 h9)) 0 _ rfl)<|AO rfl ((fun j9 v9 h9=>hS0.ag.cell0 (m2 j9 v9 h9)) 0 _ rfl)<|xk h (fun F1 hy1 h=>?_) (fun z1 hy1 h=>?_)
 refine Bi (fst:=[]) (cap:=[]) .plain (bd 72) rfl (e3 rfl rfl rfl) (fun p q=>aV_c n (hS0.hL hL q) a0 (Av h0_3 q) (Av h1_0 q) hy1) fun W1 M0=>?_
 obtain ⟨H0,G1⟩:=hS0.agr M0
 cases h
 exact AS hp0 func75 ⟨H0.ag,rfl⟩
 refine jE (bd 72) rfl (e3 rfl rfl rfl) (fun p q=>AP (aV_c n (hS0.hL hL q) a0 (Av h0_3 q) (Av h1_0 q) hy1)) rfl fun Z1 V1 P0 ⟨Q1,R1,hu_,g1,j1⟩=>?_
 subst hu_
 obtain ⟨v0,I1⟩:=hS0.agr P0
 refine bk h fun q0 u1 h=>jE (bd 73) rfl (e1 rfl) (fun p q=>aj_c n (v0.hL hL q) z1 (Av g1 q) (Av j1 q) u1) rfl fun b2 x1 Q0 ⟨U1,hu_,u0⟩=>?_
 subst hu_
 obtain ⟨x0,J1⟩:=v0.agr Q0
 have K1:q0.length <= 281474976710656:=AY u0
 refine Ac (Be (xs:=q0) underlying64 rfl u0)<|Af rfl<|Aa<|Au ?_
 have y0:=x0.nilRow 3 (Rep.size Int)
 obtain ⟨M1,Y0,V0⟩:=av h
 refine MX.lf (α:=Nat × (List Int) × Value × (List Value)) (fun ⟨b0,d0,c0,j0⟩=>[(3,c0),(10,x1),(11,vI ((q0.length:Nat):Int)),(12,vI ((b0:Nat):Int))]) (fun ⟨b0,d0,c0,j0⟩=>[rr w 3 Int c0 d0.length j0]) (fun ⟨b0,d0,c0,j0⟩ D0=>Cells D0 (bl [rr w 3 Int c0 d0.length j0] ++ L) j0 d0) (fun ⟨b0,d0,c0,j0⟩=>(b0,d0)) (0,([]:List Int),vN,[]) Y0 y0 (AE (cs:=[]) (xs:=([]:List Int)) y0 L (AR _ _)) ?_
 rintro B1 ⟨b0,d0,c0,j0⟩ D0 G0 k0 z0 C0 h
 unfold bz_l1 at h
 try dsimp only at h
 refine Ae<|Ac (Bm (i:=b0) (j:=q0.length) rfl rfl)<|Aa<|Ak<|AI rfl h (fun E0 h=>?_) (fun E0 h=>?_)
 refine Ap<|Ak<|Au<|Ae<|bk h fun c2 k1 h=>?_
 obtain ⟨A1,D1,U0,W0,E1,Z0,X0⟩:=Bl (Az u0 (Tt (St.nilRowT x0 3 (Rep.size Int)) z0)) k1
 obtain ⟨P1,rfl,b1⟩:=bv Z0
 refine Ac (Bh 1 b0 rfl U0 rfl rfl W0)<|AO rfl (X0 0 _ rfl)<|Ag rfl<|Aa<|Ao<|Af rfl<|Af rfl<|bk h fun g0 s1 h=>Bf (vI g0) (bd 76) rfl (e1 rfl) (fun p q=>bZ_c n (k0.hL0 hL q) (k0.kd b1 q) s1) rfl<|Al .plain rfl (jA g0 (vI g0) k0 bs (e1 rfl)) fun X1 C1 s0 A0=>bk h fun y1 q1 h=>RG.doesL .plain rfl (DoesL.app (α:=Int) (ys:=([g0]:List Int)) q1 s0 (fun _ _=>.t1) bs rfl rfl (AL C0 A0) (Src.row (α:=Int) s0 .hd (jC g0 (vI g0) s0 L rfl))) fun v1 Y1 ⟨F0,I0,K0,R0⟩=>Ag rfl<|Aa<|Ay<|Ao<|Ac (Bg (i:=b0) (j:=1) rfl rfl (by omega))<|Af rfl<|Aa ?_
 obtain ⟨J0,B0⟩:=AN I0 .d1
 exact G0 (b0 + 1,y1,v1,F0) J0 (Tt z0 (Tt A0 (Tt K0 B0))) (AL R0 B0) h
 refine AT rfl ?_
 have h:=V0 _ h
 try dsimp only at h
 refine Ae<|Af rfl<|Ag rfl<|Aa<|Am rfl ?_
 have t0:=St.delS k0 .hd
 have H1:=St.delT k0 .hd
 have c1:=Rep.at_ (α:=Int) (v:=c0) (xs:=d0) t0 L (Bv (α:=Int) k0 .hd C0 hL)
 refine AU hb0 func75 rfl rfl ?_
 cases h
 exact ⟨t0.ag,fun p q=>ay ⟨c0,rfl,t0.kd c1 q⟩⟩
def cd_p (n:Nat) (a0:Tf) (a1:List Int) (a2:Int):Option ((List Int) × Int):=
  (bz_p n a0 a1 a2).bind fun c0=>exc c0 (fun d0=>some (d0,(0:Int))) (fun b0=>some (([]:List Int),b0.fy))
theorem cd_c (n:Nat) {L w} (hL:hl L w) (a0:Tf) {v0_3:Value} (h0_3:Rep.R w L [v0_3] a0.fu) {a1:List Int} {v1_0:Value} (h1_0:Rep.R w L [v1_0] a1) {a2:Int}  {r:(List Int) × Int} (h:cd_p n a0 a1 a2 = some r) :
 Cl 24 #[.agg #[vI a0.fh,vI a0.fc,vI a0.fe,v0_3],v1_0,vI a2] w (ak w fun w' u=>∃ v0_0:Value,u = .tuple #[v0_0,vI r.2]/\Rep.R w' L [v0_0] r.1):=by
 unfold cd_p at h
 refine AC func24 rfl rfl rfl fun _ cs0 hb0=>Ae<|RG.bx (Ax w) rfl rfl fun M1 g0 D0 B1=>RG.bx D0 rfl (Rep.c1 (AQ h1_0 D0)) fun V1 j0 M0 C1=>RG.bx M0 rfl rfl fun W1 k0 P0 D1=>Ag rfl<|Ag rfl<|Aa<|Ae<|Ac (Bw (vs:=[]) (us:=[vP g0,vP j0,vP k0]) ai (e3 rfl rfl rfl))<|Bq (fst:=[]) (cap:=[]) (vs:=[.func (.func 75) #[] #[vP g0,vP j0,vP k0]]) .plain (bd 74) func74 rfl rfl rfl rfl (e1 rfl) rfl fun x1 E0 J1=>Ae<|RG.nl [vN] P0 fun X1 p0 Q0 E1=>RG.nl [vI 0] Q0 fun Y1 d0 b0 F1=>Aa<|Ae<|Ac (Bw (vs:=[]) (us:=[vP p0,vP d0]) ai (e2 rfl rfl))<|RG.defer (fst:=[]) (cap:=[vP p0,vP d0]) (vs:=[]) rfl .plain rfl ai<|Aa<|Ae<|Af rfl<|xk h (fun s0 z0 h=>?_) (fun g2 z0 h=>?_)
 refine Bi (fst:=[]) (cap:=[vP g0,vP j0,vP k0]) .plain (bd 75) rfl ai (fun p q=>bz_c n (b0.hL hL q) a0 (b0.km h0_3 q) (ah q (b0.memA .t4)) (b0.km h1_0 q) (ah q (b0.memA .t3)) (ah q (b0.memA .t2)) z0) fun Z1 b1=>?_
 obtain ⟨R0,G1⟩:=b0.agr b1
 refine PN.callD (vs:=[]) (cap:=[vP p0,vP d0]) (bd 112) func112 rfl rfl rfl fun v1 g1 k1=>Ae<|RG.recover1 .plain g1 rfl<|Ag rfl<|Aa<|Ae<|Af rfl<|Ac (FV.neqI underlying20 rfl rfl)<|Aa<|Br rfl<|Ae<|Af rfl<|Ac (FV.assertT rfl rfl)<|Af rfl<|Ac (Ai rfl rfl)<|Ac (Ai rfl rfl)<|RG.nl [vI 0] R0 fun b2 s1 U0 H1=>AW [vI s0.fy] U0 .hd (o1 rfl) fun c2 u0 I1=>Ag rfl<|Aa<|Ak<|Ae<|Af rfl<|Ac (BD rfl)<|Aa<|Bp rfl<|Ap<|Ae<|Ag rfl<|Aa<|du 3 fun c0 A0=>Rv 0 c0 rfl A0 (fun _=>Aj rfl)<|Rv 1 c0 rfl A0 (fun _=>Bo 0 rfl)<|RD.mo (α:=Unit) (fun ()=>[(1,vP d0),(19,vI s0.fy)]) (fun ()=>[.cells d0 [vI 0] 49,.cells p0 [vN] 38,.cells k0 [vI a2] 3,.cells j0 [v1_0] 39,.cells g0 [vI a0.fh,vI a0.fc,vI a0.fe,v0_3] 37]) u0 1 15 ?_ ?_
 rintro ⟨⟩ d2 G0 y1
 try dsimp only
 refine BB 4 31 c0 rfl rfl .plain (AB (news:=[vI s0.fy]) G0 .hd rfl rfl rfl rfl rfl rfl (o1 rfl)) fun P1 q0 z1=>AH (dk c0)<|MX.fin rfl<|RT.leaveD1 k1 func112 rfl .nil<|Aq (u:=.tuple #[vN,vI s0.fy]) E0 func74 rfl (.cons (.one rfl rfl ((q0.memA .t1) 0 _ rfl)) (.cons (.one rfl rfl ((q0.memA .hd) 0 _ rfl)) .nil)) rfl<|Ac (Ai rfl rfl)<|Ac (Ai rfl rfl)<|Ag rfl<|Ag rfl<|Aa<|Am rfl ?_
 have p1:=Rep.nilAt (α:=Int) q0 L
 refine Aq hb0 func24 rfl (.cons (.tmp rfl) (.cons (.tmp rfl) .nil)) rfl ?_
 cases h
 exact ⟨q0.ag,fun p q=>⟨vN,rfl,q0.kd p1 q⟩⟩
 intro C0
 refine RD.each [2,3] (rk c0) ⟨?_,?_,trivial⟩
 refine RO.val (m' :=7) (sk c0) rfl .plain rfl (AZ rfl ((u0.memA .hd) 0 _ rfl))<|BB 3 15 c0 rfl rfl .plain (AB (news:=[vN]) u0 .t2 rfl rfl rfl rfl rfl rfl (o1 rfl)) fun q1 v0 x0=>?_
 obtain ⟨H0,V0⟩:=AN v0 .d1
 exact C0 () H0 (Tt x0 V0)
 refine RO.now (m' :=11) (sk c0) rfl rfl .plain (AB (news:=[vN]) u0 .t2 rfl rfl rfl rfl rfl rfl (o1 rfl)) fun q1 v0 x0=>Rx 2 16 c0 rfl A0 (AZ rfl ((v0.memA .hd) 0 _ rfl)) ?_
 obtain ⟨I0,W0⟩:=AN v0 .d1
 exact C0 () I0 (Tt x0 W0)
 refine Bj (fst:=[]) (cap:=[vP g0,vP j0,vP k0]) .plain (bd 75) rfl ai (fun p q=>AP (bz_c n (b0.hL hL q) a0 (b0.km h0_3 q) (ah q (b0.memA .t4)) (b0.km h1_0 q) (ah q (b0.memA .t3)) (ah q (b0.memA .t2)) z0)) rfl fun Q1 B0 Z0 ⟨K1,hu_,y0⟩=>?_
 subst hu_
 obtain ⟨J0,A1⟩:=b0.agr Z0
 refine RG.now .plain (AB (news:=[B0]) J0 .t1 rfl rfl rfl (Rep.c1 y0) rfl rfl (o1 (Bd y0))) fun R1 K0 X0=>AW [vI 0] K0 .hd (o1 rfl) fun U1 t0 Y0=>Aa<|Am rfl<|RT.callD (vs:=[]) (cap:=[vP p0,vP d0]) (bd 112) func112 rfl rfl rfl fun u1 F0 j1=>Ae<|RG.recover0 .plain F0 rfl<|Ag rfl<|Aa<|Ae<|Af rfl<|Ac (FV.neqI0 underlying20 rfl rfl)<|Aa<|Bp rfl<|Ap<|MX.fin rfl<|RT.leaveD0 F0 j1 func112 rfl .nil<|Aq (u:=.tuple #[B0,vI 0]) E0 func74 rfl (.cons (.one rfl rfl ((t0.memA .t1) 0 _ rfl)) (.cons (.one rfl rfl ((t0.memA .hd) 0 _ rfl)) .nil)) rfl<|Ac (Ai rfl rfl)<|Ac (Ai rfl rfl)<|Ag rfl<|Ag rfl<|Aa<|Am rfl<|Aq hb0 func24 rfl (.cons (.tmp rfl) (.cons (.tmp rfl) .nil)) rfl ?_
 cases h
 exact ⟨t0.ag,fun p q=>⟨B0,rfl,t0.kd (Az y0 (Tt X0 Y0)) q⟩⟩
def aZ_p (n:Nat) (a0:Int) (a1:Int):Option Ta:=
  (cr_p n a0 a1).bind fun b0=>some b0.1
theorem aZ_c (n:Nat) {L w} (hL:hl L w) {a0:Int} {a1:Int}  {r:Ta} (h:aZ_p n a0 a1 = some r) :
 Cl 33 #[vI a0,vI a1] w (ak w fun _ u=>u = .agg ((ac r)).toArray):=by
 unfold aZ_p at h
 refine AC func33 rfl rfl rfl fun _ cs0 hb0=>Ae<|RG.nl zL (Ax w) fun x0 p0 c0 s0=>Aa<|Ae<|Af rfl<|Af rfl<|bk h fun b0 k0 h=>Bf (.tuple #[.agg ((ac b0.1)).toArray,vI b0.2]) (bd 82) rfl (e2 rfl rfl) (fun p q=>cr_c n (c0.hL0 hL q)  k0) rfl<|Af rfl<|Ac (Ai rfl rfl)<|Ac (Ai rfl rfl)<|RG.nl zL c0 fun y0 q0 j0 t0=>AW (ac b0.1) j0 .hd (aq rfl) fun z0 d0 u0=>Ag rfl<|Aa<|Ae<|Ac (AD rfl (d0.memA .hd))<|AW (ac b0.1) d0 .t1 (aq rfl) fun A0 g0 v0=>Aa<|Am rfl<|Aq hb0 func33 rfl (.cons (.many (cs:=(ac b0.1)) rfl rfl (g0.memA .t1)) .nil) rfl ?_
 cases h
 exact g0.gv
def bf_p (n:Nat) (a0:Ta) (a1:Int) (a2:Int) (a3:Int):Option Bool:=
  (aZ_p n a2 a3).bind fun b0=>(if a0 = b0 then some (decide (a1 = 0)) else some false)
theorem bf_c (n:Nat) {L w} (hL:hl L w) (a0:Ta) {a1:Int} {a2:Int} {p2:Nat} (m2:∀ j9 v9,([vI a2]:List Value)[j9]? = some v9 -> w.cell? ((⟨p2,0,none⟩:Addr).add j9) = some v9) {a3:Int} {p3:Nat} (m3:∀ j9 v9,([vI a3]:List Value)[j9]? = some v9 -> w.cell? ((⟨p3,0,none⟩:Addr).add j9) = some v9)  {r:Bool} (h:bf_p n a0 a1 a2 a3 = some r) :
 Cl 77 #[.agg ((ac a0)).toArray,vI a1,.pointer (some ⟨p2,0,none⟩),.pointer (some ⟨p3,0,none⟩)] w (ak w fun _ u=>u = .bool r):=by
 unfold bf_p at h
 refine AC func77 rfl rfl rfl fun _ cs0 hb0=>Ae<|RG.bx (Ax w) rfl rfl fun s0 p0 d0 q0=>Ag rfl<|Aa<|Ak<|du 10 fun b0 c0=>Rx 0 1008 b0 rfl c0 (AD rfl (d0.memA .hd))<|Rx 1 1016 b0 rfl c0 (AZ rfl ((fun j9 v9 h9=>d0.ag.cell0 (m2 j9 v9 h9)) 0 _ rfl))<|Rx 2 1016 b0 rfl c0 (AZ rfl ((fun j9 v9 h9=>d0.ag.cell0 (m3 j9 v9 h9)) 0 _ rfl))<|bk h fun g0 k0 h=>RD.cq 3 15 1008 (.agg ((ac g0)).toArray) b0 rfl c0 (bd 33) rfl (e2 rfl rfl) (fun p q=>aZ_c n (d0.hL0 hL q)  k0) rfl<|Rv 4 b0 rfl c0 (fun _=>FV.eqlV (v:=.agg ((ac a0)).toArray) (u:=.agg ((ac g0)).toArray) rfl rfl (jP a0 g0))<|Rv 5 b0 rfl c0 (fun _=>Aj rfl)<|RD.ifd (s:=12) rfl h (fun j0 h=>?_) (fun j0 h=>?_)
 refine RD.vP 6 127 b0 rfl c0 (.yes rfl rfl) (fun _=>Aj rfl) rfl<|RD.vP 7 255 b0 rfl c0 (.yes rfl rfl) (fun _=>FV.eql (i:=a1) (j:=0) rfl rfl) rfl<|Rv 8 b0 rfl c0 (fun _=>FV.pick_t rfl rfl)<|Rv 9 b0 rfl c0 (fun _=>Bc rfl)<|AH (dk b0)<|Am rfl<|AU hb0 func77 rfl rfl ?_
 cases h
 exact d0.gv
 refine Bb 255 2 [(6,13),(7,14)] (F:=[(12,false)]) (U:=[]) b0 c0 (.cons rfl .nil) .nil ?_
 dsimp only [aC,List.map]
 refine Rv 8 b0 rfl c0 (fun _=>AK rfl rfl)<|Rv 9 b0 rfl c0 (fun _=>Bc rfl)<|AH (dk b0)<|Am rfl<|AU hb0 func77 rfl rfl ?_
 cases h
 exact d0.gv
theorem cA_c (_n:Nat) {L w} (_hL:hl L w) (a0:Int) (a1:Int)  :
 Cl 25 #[vI a0,vI a1] w (ak w fun w' u=>∃ b0 c0:Nat,u = .func (.func 77) #[] #[vP b0,vP c0]/\St w w' [.cells b0 [vI a0] 3,.cells c0 [vI a1] 3]):=by
 refine AC func25 rfl rfl rfl fun _ cs0 hb0=>Ae<|RG.bx (Ax w) rfl rfl fun t0 b0 j0 p0=>RG.bx j0 rfl rfl fun u0 c0 k0 q0=>Ag rfl<|Aa<|Ae<|Ac (Bw (vs:=[]) (us:=[vP b0,vP c0]) ai (e2 rfl rfl))<|Ag rfl<|Aa<|Am rfl<|Aq (u:=.func (.func 77) #[] #[vP b0,vP c0]) hb0 func25 rfl (.cons (.tmp rfl) .nil) rfl ?_
 obtain ⟨g0,s0⟩:=AN k0 (.a1 .d0)
 exact ⟨g0.ag,fun p q=>⟨b0,c0,rfl,g0.agree q⟩⟩
def ck_l1 (_n:Nat) (k0:(List Int) × Int) (j0:Int × Nat × (List Int) -> Option ((List Int) × Int)):Int × Nat × (List Int) -> Option ((List Int) × Int)
  | (g0,b0,c0)=>(if b0 < k0.1.length then (k0.1[b0]?).bind fun d0=>(if d0 < 0 then (chk (g0 + 1)).bind fun p0=>j0 (p0,b0 + 1,c0) else (idx c0 d0).bind fun s0=>(chk (s0 + 1)).bind fun q0=>(put c0 ((d0.toNat:Nat):Int) q0).bind fun t0=>j0 (g0,b0 + 1,t0)) else some (c0,g0))
def ck_p (n:Nat) (a0:Tf) (a1:List Int) (a2:Int):Option ((List Int) × Int × Int):=
  (cd_p n a0 a1 a2).bind fun b0=>(if b0.2 = 0 then (mk a0.fc (0:Int)).bind fun d0=>Option.bind (ao (ck_l1 n b0) n (0,0,d0)) (fun (c0,g0)=>some (c0,g0,(0:Int))) else some (([]:List Int),(0:Int),b0.2))
theorem ck_c (n:Nat) {L w} (hL:hl L w) (a0:Tf) {v0_3:Value} (h0_3:Rep.R w L [v0_3] a0.fu) {a1:List Int} {v1_0:Value} (h1_0:Rep.R w L [v1_0] a1) {a2:Int}  {r:(List Int) × Int × Int} (h:ck_p n a0 a1 a2 = some r) :
 Cl 27 #[.agg #[vI a0.fh,vI a0.fc,vI a0.fe,v0_3],v1_0,vI a2] w (ak w fun w' u=>∃ v0_0:Value,u = .tuple #[v0_0,vI r.2.1,vI r.2.2]/\Rep.R w' L [v0_0] r.1):=by
 unfold ck_p at h
 refine AC func27 rfl rfl rfl fun _ cs0 hb0=>Ae<|RG.bx (Ax w) rfl rfl fun g2 Q1 p0 W1=>Ag rfl<|Ag rfl<|Ag rfl<|Aa<|Ae<|Ac (AD rfl (p0.memA .hd))<|Af rfl<|Af rfl<|bk h fun t0 H1 h=>jE (bd 24) rfl (e3 rfl rfl rfl) (fun p q=>cd_c n (p0.hL hL q) a0 (p0.km h0_3 q) (p0.km h1_0 q) H1) rfl fun j2 d2 d1 ⟨J1,hu_,H0⟩=>?_
 subst hu_
 obtain ⟨q0,Y1⟩:=p0.agr d1
 refine Af rfl<|Ac (Ai rfl rfl)<|Ac (Ai rfl rfl)<|Ag rfl<|Ag rfl<|Aa<|Ak<|Ae<|Af rfl<|Ac (FV.neq (i:=t0.2) (j:=0) rfl rfl)<|Aa<|MX.ifn rfl h (fun V0 h=>?_) (fun V0 h=>?_)
 refine Ap<|Ae<|Bk 1 rfl<|AO rfl ((q0.memA .hd) 1 _ rfl)<|bk h fun M0 I0 h=>Al .plain rfl (Does.mk (α:=Int) I0 q0 bs rfl) fun p2 k0 B0 D0=>Ag rfl<|Aa<|Ak<|Ae<|Af rfl ?_
 have G0:=Az H0 D0
 have Z1:t0.1.length <= 281474976710656:=AY G0
 refine Ac (Be (xs:=t0.1) underlying38 rfl G0)<|Af rfl<|Aa<|Au ?_
 obtain ⟨Z0,C0⟩:=AN B0 (.a0 .done)
 obtain ⟨b2,v1,q1⟩:=av h
 refine MX.lf (α:=Int × Nat × (List Int) × (List Value)) (fun ⟨g0,b0,c0,d0⟩=>[(6,(.slice (some ⟨k0,0,none⟩) a0.fc.toNat a0.fc.toNat)),(7,vI g0),(25,J1),(26,vI ((t0.1.length:Nat):Int)),(27,vI ((b0:Nat):Int))]) (fun ⟨g0,b0,c0,d0⟩=>[rr w 3 Int (.slice (some ⟨k0,0,none⟩) a0.fc.toNat a0.fc.toNat) c0.length d0]) (fun ⟨g0,b0,c0,d0⟩ J0=>Cells J0 (bl [rr w 3 Int (.slice (some ⟨k0,0,none⟩) a0.fc.toNat a0.fc.toNat) c0.length d0] ++ L) d0 c0) (fun ⟨g0,b0,c0,d0⟩=>(g0,b0,c0)) (0,0,M0,(List.replicate a0.fc.toNat [vI 0]).flatten) v1 Z0 (AL (AE (cs:=(List.replicate a0.fc.toNat [vI 0]).flatten) (xs:=M0) B0 L (Cells.mk I0 rfl)) C0) ?_
 rintro P1 ⟨g0,b0,c0,d0⟩ J0 A0 j0 y0 u0 h
 unfold ck_l1 at h
 try dsimp only at h
 refine Ae<|Ac (Bm (i:=b0) (j:=t0.1.length) rfl rfl)<|Aa<|Ak<|AI rfl h (fun R0 h=>?_) (fun R0 h=>?_)
 refine Ap<|Ak<|Au<|Ae<|bk h fun s0 D1 h=>?_
 obtain ⟨M1,R1,j1,s1,W0,x1,t1⟩:=Bl (Az H0 (Tt D0 (Tt C0 y0))) D1
 have k1:W0 = [vI s0]:=x1; subst k1
 refine Ac (Bh 1 b0 rfl j1 rfl rfl s1)<|AO rfl (t1 0 _ rfl)<|Ag rfl<|Aa<|Ak<|Ae<|Af rfl<|Ac (FV.lss (i:=s0) (j:=0) rfl rfl)<|Aa<|AI rfl h (fun U0 h=>?_) (fun U0 h=>?_)
 refine Ae<|Af rfl<|bk h fun I1 B1 h=>Ac (Bs (i:=g0) (j:=1) rfl rfl B1)<|Ag rfl<|Aa<|AT rfl<|Ao<|Ac (Bg (i:=b0) (j:=1) rfl rfl (by omega))<|Af rfl<|Aa<|A0 (I1,b0 + 1,c0,d0) j0 y0 u0 h
 refine Ap<|Ao<|Af rfl<|Af rfl<|bk h fun K0 E1 h=>?_
 obtain ⟨F0,F1⟩:=aI E1
 obtain ⟨P0,U1,v0,z0,X0,y1,u1⟩:=St.nth (α:=Int) j0 .hd u0 F1
 obtain ⟨Q0,V1,E0⟩:=Bu (α:=Int) j0 .hd z0
 obtain rfl:P0 = ⟨Q0,0,none⟩:=by rw [E0] at v0; cases v0; rfl
 have p1:X0 = [vI K0]:=y1; subst p1
 refine Ac (Bh 1 (s0.toNat) rfl v0 rfl F0 z0)<|AO rfl (u1 0 _ rfl)<|bk h fun c2 C1 h=>Ac (Bs (i:=K0) (j:=1) rfl rfl C1)<|Ac (Bh 1 (s0.toNat) rfl v0 rfl F0 z0)<|bk h fun K1 G1 h=>RG.acts' .plain (Acts.set (α:=Int) (i:=s0.toNat) G1 j0 E0 (fun _=>.hd) u0 rfl rfl rfl rfl rfl rfl) fun k2 ⟨Y0,b1,c1,g1⟩=>Aa<|Ay<|Ao<|Ac (Bg (i:=b0) (j:=1) rfl rfl (by omega))<|Af rfl<|Aa<|A0 (g0,b0 + 1,K1,Y0) b1 (Tt y0 c1) g1 h
 refine AT rfl ?_
 have h:=q1 _ h
 try dsimp only at h
 refine Ae<|Af rfl<|Af rfl<|Ag rfl<|Ag rfl<|Ag rfl<|Aa<|Am rfl ?_
 have x0:=St.delS j0 .hd
 have X1:=St.delT j0 .hd
 have z1:=Rep.at_ (α:=Int) (v:=(.slice (some ⟨k0,0,none⟩) a0.fc.toNat a0.fc.toNat)) (xs:=c0) x0 L (Bv (α:=Int) j0 .hd u0 hL)
 refine Aq hb0 func27 rfl (.cons (.tmp rfl) (.cons (.tmp rfl) (.cons (.tmp rfl) .nil))) rfl ?_
 cases h
 exact ⟨x0.ag,fun p q=>⟨(.slice (some ⟨k0,0,none⟩) a0.fc.toNat a0.fc.toNat),rfl,x0.kd z1 q⟩⟩
 refine Ae<|Af rfl<|Ag rfl<|Ag rfl<|Ag rfl<|Aa<|Am rfl ?_
 have A1:=Rep.nilAt (α:=Int) q0 L
 refine Aq hb0 func27 rfl (.cons (.tmp rfl) (.cons (.tmp rfl) (.cons (.tmp rfl) .nil))) rfl ?_
 cases h
 exact ⟨q0.ag,fun p q=>⟨vN,rfl,q0.kd A1 q⟩⟩
def aL_l1 (_n:Nat) (a0:List Int) (a1:List Int) (b0:Nat -> Option (Bool ⊕ Unit)):Nat -> Option (Bool ⊕ Unit)
  | i32=>(if i32 < a0.length then (a0[i32]?).bind fun c0=>(a1[i32]?).bind fun d0=>(if c0 = d0 then b0 (i32 + 1) else some (.inl false)) else some (.inr ()))
def aL_p (n:Nat) (a0:List Int) (a1:List Int):Option Bool:=
  (if a0.length = a1.length then thn (ao (aL_l1 n a0 a1) n 0) (fun _=>some true) else some false)
theorem aL_c (n:Nat) {L w} (_hL:hl L w) {a0:List Int} {v0_0:Value} (h0_0:Rep.R w L [v0_0] a0) {a1:List Int} {v1_0:Value} (h1_0:Rep.R w L [v1_0] a1)  {r:Bool} (h:aL_p n a0 a1 = some r) :
 Cl 28 #[v0_0,v1_0] w (ak w fun _ u=>u = .bool r):=by
 unfold aL_p at h
 have hS0:=Ax w
 refine AC func28 rfl rfl rfl fun _ cs0 hb0=>Ae<|Ag rfl<|Aa<|Ak<|Ae<|Af rfl ?_
 have hl1:a0.length <= 281474976710656:=AY h0_0
 refine Ac (Be (xs:=a0) underlying38 rfl h0_0)<|Af rfl ?_
 have hl2:a1.length <= 281474976710656:=AY h1_0
 refine Ac (Be (xs:=a1) underlying38 rfl h1_0)<|Ac (FV.neqN (i:=a0.length) (j:=a1.length) rfl rfl)<|Aa<|MX.ifn rfl h (fun c3 h=>?_) (fun c3 h=>?_)
 refine Ap<|Ak<|Ae<|Af rfl<|Ac (Be (xs:=a0) underlying38 rfl h0_0)<|Af rfl<|Aa<|Au<|tn h fun U0 F0 g0=>MX.lo (α:=Nat) (fun i32=>[(0,v0_0),(1,v1_0),(12,vI ((a0.length:Nat):Int)),(13,vI ((i32:Nat):Int))]) (fun i32=>[]) (fun i32=>i32) 0 F0 hS0 ?_
 rintro P0 i32 V0 u0 d0 v0 h
 unfold aL_l1 at h
 try dsimp only at h
 refine Ae<|Ac (Bm (i:=i32) (j:=a0.length) rfl rfl)<|Aa<|Ak<|AI rfl h (fun p0 h=>?_) (fun p0 h=>?_)
 refine Ap<|Ak<|Au<|Ae<|Af rfl<|Ag rfl<|Aa<|Ak<|du 9 fun b0 c0=>Rv 0 b0 rfl c0 (fun _=>Aj rfl)<|Rv 1 b0 rfl c0 (fun _=>Aj rfl)<|bk h fun j0 I0 h=>?_
 obtain ⟨K0,Q0,x0,B0,s0,G0,D0⟩:=Bl (AQ h0_0 d0) I0
 have y0:s0 = [vI j0]:=G0; subst y0
 refine Rv 2 b0 rfl c0 (fun _=>Bh 1 i32 rfl x0 rfl rfl B0)<|Rx 3 256 b0 rfl c0 (AZ rfl (D0 0 _ rfl))<|Rv 4 b0 rfl c0 (fun _=>Aj rfl)<|Rv 5 b0 rfl c0 (fun _=>Aj rfl)<|bk h fun k0 J0 h=>?_
 obtain ⟨M0,R0,z0,C0,t0,H0,E0⟩:=Bl (AQ h1_0 d0) J0
 have A0:t0 = [vI k0]:=H0; subst A0
 refine Rv 6 b0 rfl c0 (fun _=>Bh 1 i32 rfl z0 rfl rfl C0)<|Rx 7 256 b0 rfl c0 (AZ rfl (E0 0 _ rfl))<|Rv 8 b0 rfl c0 (fun _=>FV.neq (i:=j0) (j:=k0) rfl rfl)<|AH (dk b0)<|MX.ifn rfl h (fun q0 h=>?_) (fun q0 h=>?_)
 refine Ap<|Ay<|Ao<|Ac (Bg (i:=i32) (j:=1) rfl rfl (by omega))<|Af rfl<|Aa<|u0 (i32 + 1) d0 v0 h
 refine Ae<|Ag rfl<|Aa ?_
 have h:=ax h g0
 refine Am rfl<|AU hb0 func28 rfl rfl ?_
 cases h
 exact d0.gv
 refine AT rfl ?_
 have h:=aF h g0
 try dsimp only at h
 refine Ae<|Ag rfl<|Aa<|Am rfl<|AU hb0 func28 rfl rfl ?_
 cases h
 exact d0.gv
 refine Ae<|Ag rfl<|Aa<|Am rfl<|AU hb0 func28 rfl rfl ?_
 cases h
 exact hS0.gv
theorem el97:ElT Tryz.prog 97 42 (Rep.size (Int × Int)) 16 (.agg #[vI 0,vI 0]) [vI 0,vI 0]:=⟨underlying97,by kernel_rfl,rfl,rfl,rfl,rfl⟩
theorem jX:ElT Tryz.prog 35 63 (Rep.size Tc) 104 (.agg #[.string ⟨#[]⟩,vI 0,vN,vN,vN,.bool false]) [.string ⟨#[]⟩,vI 0,vN,vN,vN,.bool false]:=⟨underlying35,by kernel_rfl,rfl,rfl,rfl,rfl⟩
def aU_l1 (_n:Nat) (g0:List (Int × Int)) (j0:Nat × (List Tc) -> Option (List Tc)):Nat × (List Tc) -> Option (List Tc)
  | (b0,d0)=>(if b0 < g0.length then (g0[b0]?).bind fun c0=>(li ⟨#[117]⟩ (chr (w32 ((97 + b0:Nat):Int)))).bind fun k0=>(app d0 ([(⟨k0,(10:Int),([]:List Int),([c0.1,c0.2]:List Int),([]:List Int),false⟩:Tc)]:List Tc)).bind fun p0=>j0 (b0 + 1,p0) else some d0)
def aU_p (n:Nat) (a0:List (Int × Int)):Option Tf:=
  jn (fun d0=>Option.bind (ao (aU_l1 n d0) n (0,([]:List Tc))) (fun c0=>some (⟨(0:Int),(2:Int),(0:Int),c0⟩:Tf))) (fun b0=>(if a0.length = 0 then b0 ([((6:Int),(2:Int)),((4:Int),(5:Int)),((3:Int),(3:Int))]:List (Int × Int)) else b0 a0))
theorem aU_c (n:Nat) {L w} (hL:hl L w) {a0:List (Int × Int)} {v0_0:Value} (h0_0:Rep.R w L [v0_0] a0)  {r:Tf} (h:aU_p n a0 = some r) :
 Cl 31 #[v0_0] w (ak w fun w' u=>∃ (v0_3:Value) (cs0_3:List Value),u = .agg #[vI r.fh,vI r.fc,vI r.fe,v0_3]/\St w w' (aM w.heap.size [(63,Rep.size Tc,v0_3,r.fu.length,cs0_3)])/\Cells w' (bl (aM w.heap.size [(63,Rep.size Tc,v0_3,r.fu.length,cs0_3)]) ++ L) cs0_3 (r.fu:List Tc)):=by
 unfold aU_p at h
 refine AC func31 rfl rfl rfl fun _ cs0 hb0=>Ae<|RG.nl [vI 0,vI 0,vI 0,vN] (Ax w) fun C2 t0 v0 s2=>Aa<|Ak<|Ae<|Af rfl ?_
 have F0:=AQ h0_0 v0
 have x2:a0.length <= 281474976710656:=AY F0
 refine Ac (Be (xs:=a0) underlying97 rfl F0)<|Ac (FV.eqlN (i:=a0.length) (j:=0) rfl rfl)<|Aa<|MX.jf (α:=(List (Int × Int)) × Value) (fun ⟨j0,s0⟩=>[(0,s0),(2,vP t0)]) (fun ⟨j0,s0⟩=>[.cells t0 [vI 0,vI 0,vI 0,vN] 37]) (fun ⟨j0,s0⟩ q1=>Rep.R q1 (bl [.cells t0 [vI 0,vI 0,vI 0,vN] 37] ++ L) [s0] j0) (fun ⟨j0,s0⟩=>j0) v0 h ?_ ?_
 rintro ⟨j0,s0⟩ q1 B1 u2 k1 h
 try dsimp only at h
 refine Ae<|Ac (AX (vs:=[vI 2]) (u:=.agg #[vI 0,vI 2,vI 0,vN]) (e1 rfl) (fun p=>by kernel_rfl))<|RG.nl [vI 0,vI 0,vI 0,vN] B1 fun M2 B0 C1 X0=>AW [vI 0,vI 2,vI 0,vN] C1 .hd (aq rfl) fun P2 P0 Y0=>Aa<|Ak<|Ae<|Af rfl ?_
 have d1:=Az k1 (Tt X0 Y0)
 have y2:j0.length <= 281474976710656:=AY d1
 refine Ac (Be (xs:=j0) underlying97 rfl d1)<|Af rfl<|Aa<|Au ?_
 have E0:=P0.nilRow 63 (Rep.size Tc)
 have Q0:=E0.nilRow 63 (Rep.size Tc)
 have Z0:=St.nilRowT E0 63 (Rep.size Tc)
 have v2:=AE (cs:=[]) (xs:=([]:List Tc)) Q0 L (AR _ _)
 obtain ⟨B2,U1,P1⟩:=av h
 refine MX.lf (α:=Nat × (List Tc) × Value × (List Value)) (fun ⟨c0,p0,d0,k0⟩=>[(2,vP t0),(3,vP B0),(14,s0),(15,vI ((j0.length:Nat):Int)),(16,vI ((c0:Nat):Int))]) (fun ⟨c0,p0,d0,k0⟩=>[rr w 63 Tc vN (([]:List Tc).length) [],rr w 63 Tc d0 p0.length k0,.cells B0 [vI 0,vI 2,vI 0,d0] 37,.cells t0 [vI 0,vI 0,vI 0,vN] 37]) (fun ⟨c0,p0,d0,k0⟩ p1=>Cells p1 (bl [rr w 63 Tc vN (([]:List Tc).length) [],rr w 63 Tc d0 p0.length k0,.cells B0 [vI 0,vI 2,vI 0,d0] 37,.cells t0 [vI 0,vI 0,vI 0,vN] 37] ++ L) k0 p0) (fun ⟨c0,p0,d0,k0⟩=>(c0,p0)) (0,([]:List Tc),vN,[]) U1 Q0 (AL (AE (cs:=[]) (xs:=([]:List Tc)) E0 L (AR _ _)) Z0) ?_
 rintro c2 ⟨c0,p0,d0,k0⟩ p1 x1 x0 R0 b1 h
 unfold aU_l1 at h
 try dsimp only at h
 refine Ae<|Ac (Bm (i:=c0) (j:=j0.length) rfl rfl)<|Aa<|Ak<|AI rfl h (fun s1 h=>?_) (fun s1 h=>?_)
 refine Ap<|Ak<|Au<|Ae<|Af rfl<|bk h fun b0 X1 h=>?_
 obtain ⟨b2,p2,M1,Q1,q2,V1,R1⟩:=Bl (Az k1 (Tt X0 (Tt Y0 (Tt (St.nilRowT P0 63 (Rep.size Tc)) (Tt Z0 R0))))) X1
 obtain rfl:=iP V1
 refine Ac (Bh 2 c0 rfl M1 rfl rfl Q1)<|Ac (AD rfl R1)<|RG.nl [vI 0,vI 0] x0 fun D2 j2 y1 D1=>Ag rfl<|AW [vI b0.1,vI b0.2] y1 .hd (aq rfl) fun E2 y0 E1=>Aa<|Ao<|Bk 3 rfl<|AO rfl ((y0.memA .t3) 3 _ rfl)<|Af rfl<|Ac (Bg (i:=97) (j:=c0) rfl rfl (by omega))<|Ac (FV.conv32 (i:=((97 + c0:Nat):Int)) underlying3 underlying21 rfl)<|Ac (FV.conv32S (i:=w32 ((97 + c0:Nat):Int)) underlying21 underlying9 rfl)<|bk h fun g0 W1 h=>Ac (FV.addS W1 rfl rfl)<|Ac (AM (m:=1) (k:=0) (len:=2) rfl rfl rfl rfl (by omega))<|AO rfl ((y0.memA .hd) 0 _ rfl)<|Ac (AM (m:=1) (k:=1) (len:=2) rfl rfl rfl rfl (by omega))<|AO rfl ((y0.memA .hd) 1 _ rfl)<|Al .plain rfl (Ba (α:=Int) (xs:=([b0.1,b0.2]:List Int)) (vs:=[vI b0.1,vI b0.2]) (ds' :=[vI b0.1,vI b0.2]) rfl y0 bs rfl (e2 rfl rfl) (by kernel_rfl) rfl) fun F2 q0 u0 F1=>Ac (AX (vs:=[.string g0,vI 10,(vS q0 2)]) (u:=.agg #[.string g0,vI 10,vN,(vS q0 2),vN,.bool false]) (e3 rfl rfl rfl) (fun p=>by kernel_rfl)) ?_
 have z2:=Rep.nilAt (α:=Int) u0 L
 have C0:=St.delS u0 .hd
 have A2:=Rep.nilAt (α:=Int) C0 L
 refine Al .plain rfl (Ba (α:=Tc) (xs:=([(⟨g0,(10:Int),([]:List Int),([b0.1,b0.2]:List Int),([]:List Int),false⟩:Tc)]:List Tc)) (vs:=[.agg #[.string g0,vI 10,vN,(vS q0 2),vN,.bool false]]) (ds' :=[.string g0,vI 10,vN,(vS q0 2),vN,.bool false]) rfl C0 jX rfl (e1 rfl) (by kernel_rfl) rfl) fun G2 k2 z0 U0=>?_
 have j1:=Rep.nilAt (α:=Int) z0 L
 refine bk h fun Z1 Y1 h=>?_
 have g1:=Tt D1 (Tt E1 (Tt F1 (Tt (St.delT u0 .hd) U0)))
 refine RG.doesL .plain rfl (DoesL.app (α:=Tc) (ys:=([(⟨g0,(10:Int),([]:List Int),([b0.1,b0.2]:List Int),([]:List Int),false⟩:Tc)]:List Tc)) Y1 z0 (fun _ _=>.t3) jX rfl rfl (AL b1 g1) (Src.row (α:=Tc) z0 .hd (AE (cs:=[.string g0,vI 10,vN,(vS q0 2),vN,.bool false]) (xs:=(([(⟨g0,(10:Int),([]:List Int),([b0.1,b0.2]:List Int),([]:List Int),false⟩:Tc)]:List Tc):List Tc)) z0 L (Ar (cs:=[.string g0,vI 10,vN,(vS q0 2),vN,.bool false]) (ds:=[]) (lr g0 (10:Int) ([]:List Int) j1 ([b0.1,b0.2]:List Int) (Az (Rep.at_ (α:=Int) (v:=(vS q0 2)) (xs:=([b0.1,b0.2]:List Int)) C0 L (Bv (α:=Int) u0 .hd (AE (cs:=[vI b0.1,vI b0.2]) (xs:=(([b0.1,b0.2]:List Int):List Int)) u0 L (Ar (cs:=[vI b0.1]) (ds:=[vI b0.2]) rfl (Ar (cs:=[vI b0.2]) (ds:=[]) rfl (AR _ _)))) hL)) U0) ([]:List Int) j1 false) (AR _ _))))) fun G0 H2 ⟨v1,D0,G1,K1⟩=>Bk 3 rfl<|RG.now .plain (BC (j:=3) (old:=[vI 0,vI 2,vI 0,d0]) (news:=[G0]) (new' :=[vI 0,vI 2,vI 0,G0]) D0 .t4 rfl rfl rfl (St.c1 (α:=Tc) D0 .t3) rfl rfl (o1 (St.o1 (α:=Tc) D0 .t3)) rfl) fun I2 z1 V0=>Aa<|Ay<|Ao<|Ac (Bg (i:=c0) (j:=1) rfl rfl (by omega))<|Af rfl<|Aa ?_
 obtain ⟨A1,W0⟩:=AN z1 .d2
 exact x1 (c0 + 1,Z1,G0,v1) A1 (Tt R0 (Tt g1 (Tt G1 (Tt V0 W0)))) (AL K1 (Tt V0 W0)) h
 refine AT rfl ?_
 have h:=P1 _ h
 try dsimp only at h
 refine Ae<|Ac (AD rfl (x0.memA .t2))<|AW [vI 0,vI 2,vI 0,d0] x0 .t3 (o4 rfl rfl rfl (St.o1 (α:=Tc) x0 .t1)) fun J2 J0 H1=>Aa<|Am rfl<|Aq (u:=.agg #[vI 0,vI 2,vI 0,d0]) hb0 func31 rfl (.cons (.many (cs:=[vI 0,vI 2,vI 0,d0]) rfl rfl (J0.memA .t3)) .nil) rfl ?_
 obtain ⟨K0,I1⟩:=AN J0 (.a1 .done)
 cases h
 exact ⟨K0.ag,fun p q=>⟨d0,k0,rfl,K0.agree q,Cells.keep0 (AL b1 (Tt H1 I1)) q⟩⟩
 intro g2 I0 h
 try dsimp only at h
 refine AI rfl h (fun u1 h=>?_) (fun u1 h=>?_)
 refine Ao<|Ac (AX (vs:=[vI 6,vI 2]) (u:=.agg #[vI 6,vI 2]) (e2 rfl rfl) (fun p=>by kernel_rfl))<|Ac (AX (vs:=[vI 4,vI 5]) (u:=.agg #[vI 4,vI 5]) (e2 rfl rfl) (fun p=>by kernel_rfl))<|Ac (AX (vs:=[vI 3,vI 3]) (u:=.agg #[vI 3,vI 3]) (e2 rfl rfl) (fun p=>by kernel_rfl))<|Al .plain rfl (Ba (α:=Int × Int) (xs:=([((6:Int),(2:Int)),((4:Int),(5:Int)),((3:Int),(3:Int))]:List (Int × Int))) (vs:=[.agg #[vI 6,vI 2],.agg #[vI 4,vI 5],.agg #[vI 3,vI 3]]) (ds' :=[vI 6,vI 2,vI 4,vI 5,vI 3,vI 3]) rfl v0 el97 rfl (e3 rfl rfl rfl) (by kernel_rfl) rfl) fun K2 H0 A0 J1=>Ag rfl<|Aa ?_
 have M0:=St.delS A0 .hd
 exact I0 (([((6:Int),(2:Int)),((4:Int),(5:Int)),((3:Int),(3:Int))]:List (Int × Int)),(vS H0 3)) M0 (Tt J1 (St.delT A0 .hd)) (Rep.at_ (α:=Int × Int) (v:=(vS H0 3)) (xs:=([((6:Int),(2:Int)),((4:Int),(5:Int)),((3:Int),(3:Int))]:List (Int × Int))) M0 L (Bv (α:=Int × Int) A0 .hd (AE (cs:=[vI 6,vI 2,vI 4,vI 5,vI 3,vI 3]) (xs:=(([((6:Int),(2:Int)),((4:Int),(5:Int)),((3:Int),(3:Int))]:List (Int × Int)):List (Int × Int))) A0 L (Ar (cs:=[vI 6,vI 2]) (ds:=[vI 4,vI 5,vI 3,vI 3]) (gH (6:Int) (2:Int)) (Ar (cs:=[vI 4,vI 5]) (ds:=[vI 3,vI 3]) (gH (4:Int) (5:Int)) (Ar (cs:=[vI 3,vI 3]) (ds:=[]) (gH (3:Int) (3:Int)) (AR _ _))))) hL)) h
 refine Ap<|I0 (a0,v0_0) v0 (Tr.refl _ _) F0 h
def bH_p (n:Nat) (a0:List Int) (a1:Int) (a2:List Int):Option Bool:=
  (aL_p n a0 a2).bind fun y1=>(if y1 = true then some (decide (a1 = 0)) else some false)
theorem bH_c (n:Nat) {L w} (hL:hl L w) {a0:List Int} {v0_0:Value} (h0_0:Rep.R w L [v0_0] a0) {a1:Int} {a2:List Int} {v2_0:Value} (h2_0:Rep.R w L [v2_0] a2) {p2:Nat} (m2:∀ j9 v9,([v2_0]:List Value)[j9]? = some v9 -> w.cell? ((⟨p2,0,none⟩:Addr).add j9) = some v9)  {r:Bool} (h:bH_p n a0 a1 a2 = some r) :
 Cl 81 #[v0_0,vI a1,.pointer (some ⟨p2,0,none⟩)] w (ak w fun _ u=>u = .bool r):=by
 unfold bH_p at h
 have hS0:=Ax w
 refine AC func81 rfl rfl rfl fun _ cs0 hb0=>Ae<|Ag rfl<|Aa<|Ae<|Af rfl<|AO rfl ((fun j9 v9 h9=>hS0.ag.cell0 (m2 j9 v9 h9)) 0 _ rfl)<|bk h fun y1 hy1 h=>Bf (.bool y1) (bd 28) rfl (e2 rfl rfl) (fun p q=>aL_c n (hS0.hL0 hL q) (hS0.kd h0_0 q) (hS0.kd h2_0 q) hy1) rfl<|Af rfl<|RG.ifb (s:=9) rfl h (fun c2 h=>?_) (fun c2 h=>?_)
 refine AV (Aj rfl)<|AV (FV.eql (i:=a1) (j:=0) rfl rfl)<|RG.pt rfl rfl<|Ag rfl<|Aa<|Am rfl<|AU hb0 func81 rfl rfl ?_
 cases h
 exact hS0.gv
 refine AG<|AG<|RG.pf rfl rfl<|Ag rfl<|Aa<|Am rfl<|AU hb0 func81 rfl rfl ?_
 cases h
 exact hS0.gv
theorem cE_c (_n:Nat) {L w} (_hL:hl L w) (a0:List Int) {v0_0:Value} (h0_0:Rep.R w L [v0_0] a0)  :
 Cl 32 #[v0_0] w (ak w fun w' u=>∃ b0:Nat,u = .func (.func 81) #[] #[vP b0]/\St w w' [.cells b0 [v0_0] 38]):=by
 refine AC func32 rfl rfl rfl fun _ cs0 hb0=>Ae<|RG.bx (Ax w) rfl (Rep.c1 h0_0) fun g0 b0 c0 d0=>Ag rfl<|Aa<|Ae<|Ac (Bw (vs:=[]) (us:=[vP b0]) ai (e1 rfl))<|Ag rfl<|Aa<|Am rfl<|Aq (u:=.func (.func 81) #[] #[vP b0]) hb0 func32 rfl (.cons (.tmp rfl) .nil) rfl<|⟨c0.ag,fun p q=>⟨b0,rfl,c0.agree q⟩⟩

theorem kW:ElT Tryz.prog 39 3 (Rep.size Int) 8 (vI 0) [vI 0]:=⟨underlying39,by kernel_rfl,rfl,rfl,rfl,rfl⟩
def bG_p (n:Nat):Option Bool:=
  (aU_p n ([]:List (Int × Int))).bind fun y1=>(ck_p n y1 ([(0:Int),(1:Int),(2:Int)]:List Int) (3:Int)).bind fun b0=>(bF_p n y1 ([(0:Int),(1:Int),(2:Int)]:List Int) (3:Int) (0:Int) (1:Int)).bind fun k0=>(cp_p n y1 ([(0:Int),(1:Int),(2:Int)]:List Int) (3:Int) (0:Int) (0:Int)).bind fun A0=>(cp_p n y1 ([(0:Int),(1:Int),(2:Int)]:List Int) (3:Int) (0:Int) (2:Int)).bind fun B0=>(cd_p n y1 ([(0:Int),(1:Int),(2:Int)]:List Int) (3:Int)).bind fun c0=>(bH_p n c0.1 c0.2 ([(0:Int),(1:Int),(-1:Int)]:List Int)).bind fun p0=>(if p0 = true then (aL_p n b0.1 ([(1:Int),(1:Int)]:List Int)).bind fun q0=>(if q0 = true then (if b0.2.1 = 1 then (if b0.2.2 = 0 then (cp_p n y1 ([(0:Int),(1:Int),(2:Int)]:List Int) (3:Int) (0:Int) (1:Int)).bind fun d0=>(bf_p n d0.1 d0.2 (7:Int) (46:Int)).bind fun s0=>(if s0 = true then (cw_p n y1 ([(0:Int),(1:Int),(2:Int)]:List Int) (3:Int) (0:Int) (1:Int)).bind fun g0=>(bf_p n g0.1 g0.2 (7:Int) (108:Int)).bind fun t0=>(if t0 = true then (if k0.2 = 0 then (aZ_p n (-1:Int) (4:Int)).bind fun u0=>(aZ_p n (0:Int) (1:Int)).bind fun v0=>(aZ_p n (1:Int) (18:Int)).bind fun x0=>(av_p n k0.1 ([(⟨u0,(1:Int),(1:Int)⟩:Td),(⟨v0,(2:Int),(1:Int)⟩:Td),(⟨x0,(3:Int),(1:Int)⟩:Td)]:List Td)).bind fun y0=>(if y0 = true then (cB_p n y1 ([(0:Int),(1:Int),(2:Int)]:List Int) (3:Int) (0:Int) (1:Int)).bind fun j0=>(bf_p n j0.1 j0.2 (-1:Int) (6:Int)).bind fun z0=>(if z0 = true then (if A0.2 = 2 then some (decide (B0.2 = 2)) else some false) else some false) else some false) else some false) else some false) else some false) else some false) else some false) else some false) else some false)
theorem bG_c (n:Nat) {L w} (hL:hl L w)  {r:Bool} (h:bG_p n = some r) :
 Cl 10 #[] w (ak w fun _ u=>u = .bool r):=by
 unfold bG_p at h
 have hS0:=Ax w
 refine AC func10 rfl rfl rfl fun _ cs0 hb0=>Ae<|Ag rfl<|Aa<|Ae<|bk h fun y1 hy1 h=>jE (bd 31) rfl (e1 rfl) (fun p q=>cP (b0:=w.heap.size) (aU_c n (hS0.hL hL q) (Av (Rep.nilAt (α:=Int × Int) hS0 L) q) hy1) q (Nat.le_trans hS0.ag.size q.size)) rfl fun w3 vu4 hag5 ⟨Z1,y2,hu7,s6,F2⟩=>?_
 subst hu7
 have hS8:=dD hS0 s6
 have hT9:=gP hS0 s6
 refine Al .plain rfl (Ba (α:=Int) (xs:=([(0:Int),(1:Int),(2:Int)]:List Int)) (vs:=[vI 0,vI 1,vI 2]) (ds' :=[vI 0,vI 1,vI 2]) rfl hS8 kW rfl (e3 rfl rfl rfl) (by kernel_rfl) rfl) fun k4 c2 E1 B2=>RG.nl [vI 0,vI 0,vI 0,vN] E1 fun q4 H3 F1 I1=>AW [vI y1.fh,vI y1.fc,vI y1.fe,Z1] F1 .hd (o4 rfl rfl rfl (St.o1 (α:=Tc) F1 .t2)) fun s4 P0 J1=>Ag rfl<|Aa<|Ae<|Ac (AD rfl (P0.memA .hd))<|Af rfl ?_
 have Q0:=St.delS P0 .t2
 have v0:=Rep.at_ (α:=Tc) (v:=Z1) (xs:=y1.fu) Q0 L (Bv (α:=Tc) P0 .t2 (AL (AE (cs:=y2) (xs:=(y1.fu:List Tc)) hS8 L (cD F2)) (Tt B2 (Tt I1 J1))) hL)
 have k1:=St.delS Q0 .t1
 have u1:=St.delT Q0 .t1
 have x0:=Rep.at_ (α:=Int) (v:=(vS c2 3)) (xs:=([(0:Int),(1:Int),(2:Int)]:List Int)) k1 L (Bv (α:=Int) Q0 .t1 (AL (AE (cs:=[vI 0,vI 1,vI 2]) (xs:=(([(0:Int),(1:Int),(2:Int)]:List Int):List Int)) E1 L (Ar (cs:=[vI 0]) (ds:=[vI 1,vI 2]) rfl (Ar (cs:=[vI 1]) (ds:=[vI 2]) rfl (Ar (cs:=[vI 2]) (ds:=[]) rfl (AR _ _))))) (Tt I1 (Tt J1 (St.delT P0 .t2)))) hL)
 refine bk h fun b2 k3 h=>jE (bd 27) rfl (e3 rfl rfl rfl) (fun p q=>ck_c n (k1.hL hL q) y1 (Av (Az v0 u1) q) (Av x0 q) k3) rfl fun u4 c4 D2 ⟨U3,hu_,H2⟩=>?_
 subst hu_
 obtain ⟨p1,E0⟩:=k1.agr D2
 refine Af rfl<|Ac (Ai rfl rfl)<|Ac (Ai rfl rfl)<|Ac (Ai rfl rfl)<|Ag rfl<|Ag rfl<|Ag rfl<|Aa<|Ae<|Ac (AD rfl (p1.memA .hd))<|Af rfl<|bk h fun E3 p3 h=>jE (bd 16) rfl (e5 rfl rfl rfl rfl rfl) (fun p q=>bF_c n (p1.hL hL q) y1 (Av (Az v0 (Tt u1 E0)) q) (Av (Az x0 E0) q) p3) rfl fun v4 d4 E2 ⟨V3,hu_,I2⟩=>?_
 subst hu_
 obtain ⟨z0,W0⟩:=p1.agr E2
 refine Af rfl<|Ac (Ai rfl rfl)<|Ac (Ai rfl rfl)<|Ag rfl<|Ag rfl<|Aa<|Ae<|Ac (AD rfl (z0.memA .hd))<|Af rfl<|bk h fun g1 q3 h=>?_
 have P1:=Tt u1 (Tt E0 W0)
 refine Bf (.tuple #[.agg ((ac g1.1)).toArray,vI g1.2]) (bd 12) rfl (e5 rfl rfl rfl rfl rfl) (fun p q=>cp_c n (z0.hL0 hL q) y1 (z0.kd (Az v0 P1) q) (z0.kd (Az x0 (Tt E0 W0)) q) q3) rfl<|Af rfl<|Ac (Ai rfl rfl)<|Ac (Ai rfl rfl)<|RG.nl zL z0 fun x4 I3 z2 X0=>AW (ac g1.1) z2 .hd (aq rfl) fun y4 A0 Y0=>Ag rfl<|Aa<|Ae<|Ac (AD rfl (A0.memA .t1))<|Af rfl<|bk h fun j1 s3 h=>?_
 have Q1:=Tt P1 (Tt X0 Y0)
 have R1:=Tt E0 (Tt W0 (Tt X0 Y0))
 refine Bf (.tuple #[.agg ((ac j1.1)).toArray,vI j1.2]) (bd 12) rfl (e5 rfl rfl rfl rfl rfl) (fun p q=>cp_c n (A0.hL0 hL q) y1 (A0.kd (Az v0 Q1) q) (A0.kd (Az x0 R1) q) s3) rfl<|Af rfl<|Ac (Ai rfl rfl)<|Ac (Ai rfl rfl)<|RG.nl zL A0 fun z4 J3 A2 Z0=>AW (ac j1.1) A2 .hd (aq rfl) fun A4 G1 b1=>Ag rfl<|Aa<|Ak<|du 72 fun c0 d0=>Rx 2 4722366482869645213680 c0 rfl d0 (AD rfl (G1.memA .t2))<|Rv 3 c0 rfl d0 (fun _=>Aj rfl)<|RD.nu 0 13 c0 rfl .plain rfl (Ba (α:=Int) (xs:=([(0:Int),(1:Int),(-1:Int)]:List Int)) (vs:=[vI 0,vI 1,vI (-1)]) (ds' :=[vI 0,vI 1,vI (-1)]) rfl G1 bs rfl (e3 rfl rfl rfl) (by kernel_rfl) rfl) fun x3 C1 R0 c1=>?_
 have U0:=St.delS R0 .hd
 have d1:=St.delT R0 .hd
 have U1:=Rep.at_ (α:=Int) (v:=(vS C1 3)) (xs:=([(0:Int),(1:Int),(-1:Int)]:List Int)) U0 L (Bv (α:=Int) R0 .hd (AE (cs:=[vI 0,vI 1,vI (-1)]) (xs:=(([(0:Int),(1:Int),(-1:Int)]:List Int):List Int)) R0 L (Ar (cs:=[vI 0]) (ds:=[vI 1,vI (-1)]) rfl (Ar (cs:=[vI 1]) (ds:=[vI (-1)]) rfl (Ar (cs:=[vI (-1)]) (ds:=[]) rfl (AR _ _))))) hL)
 refine BA 1 15 c0 rfl .plain (bd 32) rfl (e1 rfl) (fun p q=>Calls.gives (cE_c n (U0.hL hL q) ([(0:Int),(1:Int),(-1:Int)]:List Int) (Av U1 q)) fun (w8:World) (u8:Value) ⟨b0_,hu_,s_⟩=>(⟨b0_,hu_,s_.from q⟩:∃ M0:Nat,u8 = Value.func (.func 81) #[] #[vP M0]/\St x3 w8 [.cells M0 [(vS C1 3)] 38])) rfl fun B4 W3 K3 ⟨M0,J2,V1⟩=>?_
 subst J2
 have D1:=eY U0 V1
 have B0:=iI U0 V1
 refine bk h fun C4 Q2 h=>?_
 have K1:=Tt Q1 (Tt Z0 (Tt b1 (Tt c1 (Tt d1 B0))))
 have M1:=Tt R1 (Tt Z0 (Tt b1 (Tt c1 (Tt d1 B0))))
 refine BA 4 31 c0 rfl .plain (bd 24) rfl (e3 rfl rfl rfl) (fun p q=>cd_c n (D1.hL hL q) y1 (Av (Az v0 K1) q) (Av (Az x0 M1) q) Q2) rfl fun g4 X3 C2 ⟨R3,hu_,G2⟩=>?_
 subst hu_
 obtain ⟨y0,C0⟩:=D1.agr C2
 refine Rv 5 c0 rfl d0 (fun _=>Ai rfl rfl)<|Rv 6 c0 rfl d0 (fun _=>Ai rfl rfl)<|bk h fun y3 R2 h=>RD.callq (i:=7) (m' :=255) (W:=4722366482869645213440) (tk c0) rfl d0 (v:=.bool y3) (fst:=[]) (cap:=[vP M0]) .plain (bd 81) rfl (e2 rfl rfl) (fun p q=>bH_c n (y0.hL0 hL q) (y0.kd G2 q) (y0.kd (Az U1 (Tt B0 C0)) q) (ah q (y0.memA .hd)) R2) rfl<|Rv 8 c0 rfl d0 (fun _=>Aj rfl)<|RD.ifb (s:=47) rfl h (fun d2 h=>?_) (fun d2 h=>?_)
 refine RD.vP 9 1023 c0 rfl d0 (.yes rfl rfl) (fun _=>Aj rfl) rfl<|RD.nu 10 2047 c0 rfl (.yes rfl rfl) rfl (Ba (α:=Int) (xs:=([(1:Int),(1:Int)]:List Int)) (vs:=[vI 1,vI 1]) (ds' :=[vI 1,vI 1]) rfl y0 bs rfl (e2 rfl rfl) (by kernel_rfl) rfl) fun t3 F3 k0 V0=>bk h fun z3 U2 h=>RD.callq (i:=11) (m' :=4095) (W:=4722366482869645209600) (tk c0) rfl d0 (v:=.bool z3) (fst:=[]) (cap:=[]) (.yes rfl rfl) (bd 28) rfl (e2 rfl rfl) (fun p q=>aL_c n (k0.hL0 hL q) (k0.kd (Az H2 (Tt W0 (Tt X0 (Tt Y0 (Tt Z0 (Tt b1 (Tt c1 (Tt d1 (Tt B0 (Tt C0 V0)))))))))) q) (Av (St.lend (α:=Int) (L:=L) k0 .hd (AE (cs:=[vI 1,vI 1]) (xs:=(([(1:Int),(1:Int)]:List Int):List Int)) k0 L (Ar (cs:=[vI 1]) (ds:=[vI 1]) rfl (Ar (cs:=[vI 1]) (ds:=[]) rfl (AR _ _)))) hL) q) U2) rfl<|Rv 12 c0 rfl d0 (fun _=>FV.pick_t rfl rfl)<|Rv 13 c0 rfl d0 (fun _=>Aj rfl)<|RD.ifb (s:=52) rfl h (fun g2 h=>?_) (fun g2 h=>?_)
 refine RD.vP 14 32767 c0 rfl d0 (.yes rfl rfl) (fun _=>Aj rfl) rfl<|RD.vP 15 65535 c0 rfl d0 (.yes rfl rfl) (fun _=>FV.eql (i:=b2.2.1) (j:=1) rfl rfl) rfl<|Rv 16 c0 rfl d0 (fun _=>FV.pick_t rfl rfl)<|Rv 17 c0 rfl d0 (fun _=>Aj rfl)<|RD.ifd (s:=56) rfl h (fun j2 h=>?_) (fun j2 h=>?_)
 refine RD.vP 18 524287 c0 rfl d0 (.yes rfl rfl) (fun _=>Aj rfl) rfl<|RD.vP 19 1048575 c0 rfl d0 (.yes rfl rfl) (fun _=>FV.eql (i:=b2.2.2) (j:=0) rfl rfl) rfl<|Rv 20 c0 rfl d0 (fun _=>FV.pick_t rfl rfl)<|Rv 21 c0 rfl d0 (fun _=>Aj rfl)<|RD.ifd (s:=60) rfl h (fun k2 h=>?_) (fun k2 h=>?_)
 refine RD.val (i:=23) (m' :=12582911) (W:=4722366482869611659264) (tk c0) rfl d0 (.yes rfl rfl) (AD rfl (k0.memA .t4)) rfl<|RD.vP 24 29360127 c0 rfl d0 (.yes rfl rfl) (fun _=>Aj rfl) rfl<|BA 22 33554431 c0 rfl (.yes rfl rfl) (bd 25) rfl (e2 rfl rfl) (fun p q=>Calls.gives (cA_c n (k0.hL hL q) (7:Int) (46:Int)) fun (w8:World) (u8:Value) ⟨b0_,b1_,hu_,s_⟩=>(⟨b0_,b1_,hu_,s_.from q⟩:∃ F0 G0:Nat,u8 = Value.func (.func 77) #[] #[vP F0,vP G0]/\St t3 w8 [.cells F0 [vI 7] 3,.cells G0 [vI 46] 3])) rfl fun u3 Y3 M3 ⟨F0,G0,K2,W1⟩=>?_
 subst K2
 have p0:=eS k0 W1
 have q1:=iT k0 W1
 refine bk h fun z1 V2 h=>?_
 have v1:=Tt K1 (Tt C0 (Tt V0 q1))
 have x1:=Tt M1 (Tt C0 (Tt V0 q1))
 refine RD.callq (i:=25) (m' :=67108863) (W:=4722366482869578104832) (tk c0) rfl d0 (v:=.tuple #[.agg ((ac z1.1)).toArray,vI z1.2]) (fst:=[]) (cap:=[]) (.yes rfl rfl) (bd 12) rfl (e5 rfl rfl rfl rfl rfl) (fun p q=>cp_c n (p0.hL0 hL q) y1 (p0.kd (Az v0 v1) q) (p0.kd (Az x0 x1) q) V2) rfl<|RD.vP 26 134217727 c0 rfl d0 (.yes rfl rfl) (fun _=>Ai rfl rfl) rfl<|RD.vP 27 268435455 c0 rfl d0 (.yes rfl rfl) (fun _=>Ai rfl rfl) rfl<|bk h fun A3 W2 h=>RD.callq (i:=28) (m' :=536870911) (W:=4722366482869108342784) (tk c0) rfl d0 (v:=.bool A3) (fst:=[]) (cap:=[vP F0,vP G0]) (.yes rfl rfl) (bd 77) rfl (e2 rfl rfl) (fun p q=>bf_c n (p0.hL0 hL q) z1.1 (ah q (p0.memA .hd)) (ah q (p0.memA .t1)) W2) rfl<|Rv 29 c0 rfl d0 (fun _=>FV.pick_t rfl rfl)<|Rv 30 c0 rfl d0 (fun _=>Aj rfl)<|RD.ifb (s:=69) rfl h (fun p2 h=>?_) (fun p2 h=>?_)
 refine RD.val (i:=32) (m' :=6442450943) (W:=4722366482852465344512) (tk c0) rfl d0 (.yes rfl rfl) (AD rfl (p0.memA .t6)) rfl<|RD.vP 33 15032385535 c0 rfl d0 (.yes rfl rfl) (fun _=>Aj rfl) rfl<|BA 31 17179869183 c0 rfl (.yes rfl rfl) (bd 25) rfl (e2 rfl rfl) (fun p q=>Calls.gives (cA_c n (p0.hL hL q) (7:Int) (108:Int)) fun (w8:World) (u8:Value) ⟨b0_,b1_,hu_,s_⟩=>(⟨b0_,b1_,hu_,s_.from q⟩:∃ H0 I0:Nat,u8 = Value.func (.func 77) #[] #[vP H0,vP I0]/\St u3 w8 [.cells H0 [vI 7] 3,.cells I0 [vI 108] 3])) rfl fun j4 Z3 P3 ⟨H0,I0,M2,X1⟩=>?_
 subst M2
 have g0:=eS p0 X1
 have D0:=iT p0 X1
 refine bk h fun A1 X2 h=>RD.callq (i:=34) (m' :=34359738367) (W:=4722366482835285475328) (tk c0) rfl d0 (v:=.tuple #[.agg ((ac A1.1)).toArray,vI A1.2]) (fst:=[]) (cap:=[]) (.yes rfl rfl) (bd 14) rfl (e5 rfl rfl rfl rfl rfl) (fun p q=>cw_c n (g0.hL0 hL q) y1 (g0.kd (Az v0 (Tt v1 D0)) q) (g0.kd (Az x0 (Tt x1 D0)) q) X2) rfl<|RD.vP 35 68719476735 c0 rfl d0 (.yes rfl rfl) (fun _=>Ai rfl rfl) rfl<|RD.vP 36 137438953471 c0 rfl d0 (.yes rfl rfl) (fun _=>Ai rfl rfl) rfl<|bk h fun B3 Y2 h=>RD.callq (i:=37) (m' :=274877906943) (W:=4722366482594767306752) (tk c0) rfl d0 (v:=.bool B3) (fst:=[]) (cap:=[vP H0,vP I0]) (.yes rfl rfl) (bd 77) rfl (e2 rfl rfl) (fun p q=>bf_c n (g0.hL0 hL q) A1.1 (ah q (g0.memA .hd)) (ah q (g0.memA .t1)) Y2) rfl<|Rv 38 c0 rfl d0 (fun _=>FV.pick_t rfl rfl)<|Rv 39 c0 rfl d0 (fun _=>Aj rfl)<|RD.ifb (s:=78) rfl h (fun q2 h=>?_) (fun q2 h=>?_)
 refine RD.vP 40 2199023255551 c0 rfl d0 (.yes rfl rfl) (fun _=>Aj rfl) rfl<|RD.vP 41 4398046511103 c0 rfl d0 (.yes rfl rfl) (fun _=>FV.eql (i:=E3.2) (j:=0) rfl rfl) rfl<|Rv 42 c0 rfl d0 (fun _=>FV.pick_t rfl rfl)<|Rv 43 c0 rfl d0 (fun _=>Aj rfl)<|RD.ifd (s:=82) rfl h (fun s2 h=>?_) (fun s2 h=>?_)
 refine RD.vP 44 35184372088831 c0 rfl d0 (.yes rfl rfl) (fun _=>Aj rfl) rfl<|bk h fun s0 Z2 h=>RD.callq (i:=45) (m' :=70368744177663) (W:=4722366412500901036032) (tk c0) rfl d0 (v:=.agg ((ac s0)).toArray) (fst:=[]) (cap:=[]) (.yes rfl rfl) (bd 33) rfl (e2 rfl rfl) (fun p q=>aZ_c n (g0.hL0 hL q)  Z2) rfl<|RD.vP 46 140737488355327 c0 rfl d0 (.yes rfl rfl) (fun _=>AX (vs:=[.agg ((ac s0)).toArray,vI 1,vI 1]) (u:=.agg ((ac s0 ++ ([vI 1,vI 1]:List Value))).toArray) (e3 rfl rfl rfl) (fun p=>by kernel_rfl)) rfl<|bk h fun q0 b3 h=>RD.callq (i:=47) (m' :=281474976710655) (W:=4722366201394668503040) (tk c0) rfl d0 (v:=.agg ((ac q0)).toArray) (fst:=[]) (cap:=[]) (.yes rfl rfl) (bd 33) rfl (e2 rfl rfl) (fun p q=>aZ_c n (g0.hL0 hL q)  b3) rfl<|RD.vP 48 562949953421311 c0 rfl d0 (.yes rfl rfl) (fun _=>AX (vs:=[.agg ((ac q0)).toArray,vI 2,vI 1]) (u:=.agg ((ac q0 ++ ([vI 2,vI 1]:List Value))).toArray) (e3 rfl rfl rfl) (fun p=>by kernel_rfl)) rfl<|bk h fun j0 c3 h=>RD.callq (i:=49) (m' :=1125899906842623) (W:=4722365356969738371072) (tk c0) rfl d0 (v:=.agg ((ac j0)).toArray) (fst:=[]) (cap:=[]) (.yes rfl rfl) (bd 33) rfl (e2 rfl rfl) (fun p q=>aZ_c n (g0.hL0 hL q)  c3) rfl<|RD.vP 50 2251799813685247 c0 rfl d0 (.yes rfl rfl) (fun _=>AX (vs:=[.agg ((ac j0)).toArray,vI 3,vI 1]) (u:=.agg ((ac j0 ++ ([vI 3,vI 1]:List Value))).toArray) (e3 rfl rfl rfl) (fun p=>by kernel_rfl)) rfl<|RD.nu 51 4503599627370495 c0 rfl (.yes rfl rfl) rfl (Ba (α:=Td) (xs:=([(⟨s0,(1:Int),(1:Int)⟩:Td),(⟨q0,(2:Int),(1:Int)⟩:Td),(⟨j0,(3:Int),(1:Int)⟩:Td)]:List Td)) (vs:=[.agg ((ac s0 ++ ([vI 1,vI 1]:List Value))).toArray,.agg ((ac q0 ++ ([vI 2,vI 1]:List Value))).toArray,.agg ((ac j0 ++ ([vI 3,vI 1]:List Value))).toArray]) (ds' :=(ac s0 ++ ([vI 1,vI 1]:List Value) ++ ac q0 ++ ([vI 2,vI 1]:List Value) ++ ac j0 ++ ([vI 3,vI 1]:List Value))) rfl g0 lg rfl (e3 rfl rfl rfl) (by kernel_rfl) rfl) fun v3 G3 t0 s1=>bk h fun C3 d3 h=>RD.callq (i:=52) (m' :=9007199254740991) (W:=4722357475670390472704) (tk c0) rfl d0 (v:=.bool C3) (fst:=[]) (cap:=[]) (.yes rfl rfl) (bd 20) rfl (e2 rfl rfl) (fun p q=>av_c n (t0.hL0 hL q) (t0.kd (Az I2 (Tt X0 (Tt Y0 (Tt Z0 (Tt b1 (Tt c1 (Tt d1 (Tt B0 (Tt C0 (Tt V0 (Tt q1 (Tt D0 s1)))))))))))) q) (Av (St.lend (α:=Td) (L:=L) t0 .hd (AE (cs:=(ac s0 ++ ([vI 1,vI 1]:List Value) ++ ac q0 ++ ([vI 2,vI 1]:List Value) ++ ac j0 ++ ([vI 3,vI 1]:List Value))) (xs:=(([(⟨s0,(1:Int),(1:Int)⟩:Td),(⟨q0,(2:Int),(1:Int)⟩:Td),(⟨j0,(3:Int),(1:Int)⟩:Td)]:List Td):List Td)) t0 L (Ar (cs:=(ac s0 ++ ([vI 1,vI 1]:List Value))) (ds:=(ac q0 ++ ([vI 2,vI 1]:List Value) ++ ac j0 ++ ([vI 3,vI 1]:List Value))) (eG s0 (1:Int) (1:Int)) (Ar (cs:=(ac q0 ++ ([vI 2,vI 1]:List Value))) (ds:=(ac j0 ++ ([vI 3,vI 1]:List Value))) (eG q0 (2:Int) (1:Int)) (Ar (cs:=(ac j0 ++ ([vI 3,vI 1]:List Value))) (ds:=[]) (eG j0 (3:Int) (1:Int)) (AR _ _))))) hL) q) d3) rfl<|Rv 53 c0 rfl d0 (fun _=>FV.pick_t rfl rfl)<|Rv 54 c0 rfl d0 (fun _=>Aj rfl)<|RD.ifb (s:=93) rfl h (fun u2 h=>?_) (fun u2 h=>?_)
 refine RD.val (i:=56) (m' :=108086391056891903) (W:=4722078252493493501952) (tk c0) rfl d0 (.yes rfl rfl) (AD rfl (t0.memA .t9)) rfl<|RD.vP 57 252201579132747775 c0 rfl d0 (.yes rfl rfl) (fun _=>Aj rfl) rfl<|BA 55 288230376151711743 c0 rfl (.yes rfl rfl) (bd 25) rfl (e2 rfl rfl) (fun p q=>Calls.gives (cA_c n (t0.hL hL q) (-1:Int) (6:Int)) fun (w8:World) (u8:Value) ⟨b0_,b1_,hu_,s_⟩=>(⟨b0_,b1_,hu_,s_.from q⟩:∃ J0 K0:Nat,u8 = Value.func (.func 77) #[] #[vP J0,vP K0]/\St v3 w8 [.cells J0 [vI (-1)] 3,.cells K0 [vI 6] 3])) rfl fun p4 b4 Q3 ⟨J0,K0,P2,Y1⟩=>?_
 subst P2
 have u0:=eS t0 Y1
 have H1:=iT t0 Y1
 refine bk h fun B1 g3 h=>RD.callq (i:=58) (m' :=576460752303423487) (W:=4721790022117341790208) (tk c0) rfl d0 (v:=.tuple #[.agg ((ac B1.1)).toArray,vI B1.2]) (fst:=[]) (cap:=[]) (.yes rfl rfl) (bd 18) rfl (e5 rfl rfl rfl rfl rfl) (fun p q=>cB_c n (u0.hL0 hL q) y1 (u0.kd (Az v0 (Tt v1 (Tt D0 (Tt s1 H1)))) q) (u0.kd (Az x0 (Tt x1 (Tt D0 (Tt s1 H1)))) q) g3) rfl<|RD.vP 59 1152921504606846975 c0 rfl d0 (.yes rfl rfl) (fun _=>Ai rfl rfl) rfl<|RD.vP 60 2305843009213693951 c0 rfl d0 (.yes rfl rfl) (fun _=>Ai rfl rfl) rfl<|bk h fun D3 j3 h=>RD.callq (i:=61) (m' :=4611686018427387903) (W:=4717754796851217825792) (tk c0) rfl d0 (v:=.bool D3) (fst:=[]) (cap:=[vP J0,vP K0]) (.yes rfl rfl) (bd 77) rfl (e2 rfl rfl) (fun p q=>bf_c n (u0.hL0 hL q) B1.1 (ah q (u0.memA .hd)) (ah q (u0.memA .t1)) j3) rfl<|Rv 62 c0 rfl d0 (fun _=>FV.pick_t rfl rfl)<|Rv 63 c0 rfl d0 (fun _=>Aj rfl)<|RD.ifb (s:=102) rfl h (fun v2 h=>?_) (fun v2 h=>?_)
 refine RD.vP 64 36893488147419103231 c0 rfl d0 (.yes rfl rfl) (fun _=>Aj rfl) rfl<|RD.vP 65 73786976294838206463 c0 rfl d0 (.yes rfl rfl) (fun _=>FV.eql (i:=g1.2) (j:=2) rfl rfl) rfl<|Rv 66 c0 rfl d0 (fun _=>FV.pick_t rfl rfl)<|Rv 67 c0 rfl d0 (fun _=>Aj rfl)<|RD.ifd (s:=106) rfl h (fun x2 h=>?_) (fun x2 h=>?_)
 refine RD.vP 68 590295810358705651711 c0 rfl d0 (.yes rfl rfl) (fun _=>Aj rfl) rfl<|RD.vP 69 1180591620717411303423 c0 rfl d0 (.yes rfl rfl) (fun _=>FV.eql (i:=j1.2) (j:=2) rfl rfl) rfl<|Rv 70 c0 rfl d0 (fun _=>FV.pick_t rfl rfl)<|Rv 71 c0 rfl d0 (fun _=>Bc rfl)<|AH (dk c0)<|Am rfl<|AU hb0 func10 rfl rfl ?_
 cases h
 exact u0.gv
 refine Bb 1180591620717411303423 2 [(68,107),(69,108)] (F:=[(106,false)]) (U:=[]) c0 d0 (.cons rfl .nil) .nil ?_
 dsimp only [aC,List.map]
 refine Rv 70 c0 rfl d0 (fun _=>AK rfl rfl)<|Rv 71 c0 rfl d0 (fun _=>Bc rfl)<|AH (dk c0)<|Am rfl<|AU hb0 func10 rfl rfl ?_
 cases h
 exact u0.gv
 refine Bb 73786976294838206463 6 [(64,103),(65,104)] (F:=[(102,false)]) (U:=[]) c0 d0 (.cons rfl .nil) .nil ?_
 dsimp only [aC,List.map]
 refine Rv 66 c0 rfl d0 (fun _=>AK rfl rfl)<|Rv 67 c0 rfl d0 (fun _=>Aj rfl)<|Bb 1180591620717411303423 2 [(68,107),(69,108)] (F:=[(106,false)]) (U:=[]) c0 d0 (.cons rfl .nil) .nil ?_
 dsimp only [aC,List.map]
 refine Rv 70 c0 rfl d0 (fun _=>AK rfl rfl)<|Rv 71 c0 rfl d0 (fun _=>Bc rfl)<|AH (dk c0)<|Am rfl<|AU hb0 func10 rfl rfl ?_
 cases h
 exact u0.gv
 refine Bb 4611686018427387903 10 [(55,94),(56,95),(57,96),(58,97),(59,98),(60,99),(61,100)] (F:=[(93,false)]) (U:=[]) c0 d0 (.cons rfl .nil) .nil ?_
 dsimp only [aC,List.map]
 refine Rv 62 c0 rfl d0 (fun _=>AK rfl rfl)<|Rv 63 c0 rfl d0 (fun _=>Aj rfl)<|Bb 73786976294838206463 6 [(64,103),(65,104)] (F:=[(102,false)]) (U:=[]) c0 d0 (.cons rfl .nil) .nil ?_
 dsimp only [aC,List.map]
 refine Rv 66 c0 rfl d0 (fun _=>AK rfl rfl)<|Rv 67 c0 rfl d0 (fun _=>Aj rfl)<|Bb 1180591620717411303423 2 [(68,107),(69,108)] (F:=[(106,false)]) (U:=[]) c0 d0 (.cons rfl .nil) .nil ?_
 dsimp only [aC,List.map]
 refine Rv 70 c0 rfl d0 (fun _=>AK rfl rfl)<|Rv 71 c0 rfl d0 (fun _=>Bc rfl)<|AH (dk c0)<|Am rfl<|AU hb0 func10 rfl rfl ?_
 cases h
 exact t0.gv
 refine Bb 9007199254740991 19 [(44,83),(45,84),(46,85),(47,86),(48,87),(49,88),(50,89),(51,90),(52,91)] (F:=[(82,false)]) (U:=[]) c0 d0 (.cons rfl .nil) .nil ?_
 dsimp only [aC,List.map]
 refine Rv 53 c0 rfl d0 (fun _=>AK rfl rfl)<|Rv 54 c0 rfl d0 (fun _=>Aj rfl)<|Bb 4611686018427387903 10 [(55,94),(56,95),(57,96),(58,97),(59,98),(60,99),(61,100)] (F:=[(93,false)]) (U:=[]) c0 d0 (.cons rfl .nil) .nil ?_
 dsimp only [aC,List.map]
 refine Rv 62 c0 rfl d0 (fun _=>AK rfl rfl)<|Rv 63 c0 rfl d0 (fun _=>Aj rfl)<|Bb 73786976294838206463 6 [(64,103),(65,104)] (F:=[(102,false)]) (U:=[]) c0 d0 (.cons rfl .nil) .nil ?_
 dsimp only [aC,List.map]
 refine Rv 66 c0 rfl d0 (fun _=>AK rfl rfl)<|Rv 67 c0 rfl d0 (fun _=>Aj rfl)<|Bb 1180591620717411303423 2 [(68,107),(69,108)] (F:=[(106,false)]) (U:=[]) c0 d0 (.cons rfl .nil) .nil ?_
 dsimp only [aC,List.map]
 refine Rv 70 c0 rfl d0 (fun _=>AK rfl rfl)<|Rv 71 c0 rfl d0 (fun _=>Bc rfl)<|AH (dk c0)<|Am rfl<|AU hb0 func10 rfl rfl ?_
 cases h
 exact g0.gv
 refine Bb 4398046511103 30 [(40,79),(41,80)] (F:=[(78,false)]) (U:=[]) c0 d0 (.cons rfl .nil) .nil ?_
 dsimp only [aC,List.map]
 refine Rv 42 c0 rfl d0 (fun _=>AK rfl rfl)<|Rv 43 c0 rfl d0 (fun _=>Aj rfl)<|Bb 9007199254740991 19 [(44,83),(45,84),(46,85),(47,86),(48,87),(49,88),(50,89),(51,90),(52,91)] (F:=[(82,false)]) (U:=[]) c0 d0 (.cons rfl .nil) .nil ?_
 dsimp only [aC,List.map]
 refine Rv 53 c0 rfl d0 (fun _=>AK rfl rfl)<|Rv 54 c0 rfl d0 (fun _=>Aj rfl)<|Bb 4611686018427387903 10 [(55,94),(56,95),(57,96),(58,97),(59,98),(60,99),(61,100)] (F:=[(93,false)]) (U:=[]) c0 d0 (.cons rfl .nil) .nil ?_
 dsimp only [aC,List.map]
 refine Rv 62 c0 rfl d0 (fun _=>AK rfl rfl)<|Rv 63 c0 rfl d0 (fun _=>Aj rfl)<|Bb 73786976294838206463 6 [(64,103),(65,104)] (F:=[(102,false)]) (U:=[]) c0 d0 (.cons rfl .nil) .nil ?_
 dsimp only [aC,List.map]
 refine Rv 66 c0 rfl d0 (fun _=>AK rfl rfl)<|Rv 67 c0 rfl d0 (fun _=>Aj rfl)<|Bb 1180591620717411303423 2 [(68,107),(69,108)] (F:=[(106,false)]) (U:=[]) c0 d0 (.cons rfl .nil) .nil ?_
 dsimp only [aC,List.map]
 refine Rv 70 c0 rfl d0 (fun _=>AK rfl rfl)<|Rv 71 c0 rfl d0 (fun _=>Bc rfl)<|AH (dk c0)<|Am rfl<|AU hb0 func10 rfl rfl ?_
 cases h
 exact g0.gv
 refine Bb 274877906943 34 [(31,70),(32,71),(33,72),(34,73),(35,74),(36,75),(37,76)] (F:=[(69,false)]) (U:=[]) c0 d0 (.cons rfl .nil) .nil ?_
 dsimp only [aC,List.map]
 refine Rv 38 c0 rfl d0 (fun _=>AK rfl rfl)<|Rv 39 c0 rfl d0 (fun _=>Aj rfl)<|Bb 4398046511103 30 [(40,79),(41,80)] (F:=[(78,false)]) (U:=[]) c0 d0 (.cons rfl .nil) .nil ?_
 dsimp only [aC,List.map]
 refine Rv 42 c0 rfl d0 (fun _=>AK rfl rfl)<|Rv 43 c0 rfl d0 (fun _=>Aj rfl)<|Bb 9007199254740991 19 [(44,83),(45,84),(46,85),(47,86),(48,87),(49,88),(50,89),(51,90),(52,91)] (F:=[(82,false)]) (U:=[]) c0 d0 (.cons rfl .nil) .nil ?_
 dsimp only [aC,List.map]
 refine Rv 53 c0 rfl d0 (fun _=>AK rfl rfl)<|Rv 54 c0 rfl d0 (fun _=>Aj rfl)<|Bb 4611686018427387903 10 [(55,94),(56,95),(57,96),(58,97),(59,98),(60,99),(61,100)] (F:=[(93,false)]) (U:=[]) c0 d0 (.cons rfl .nil) .nil ?_
 dsimp only [aC,List.map]
 refine Rv 62 c0 rfl d0 (fun _=>AK rfl rfl)<|Rv 63 c0 rfl d0 (fun _=>Aj rfl)<|Bb 73786976294838206463 6 [(64,103),(65,104)] (F:=[(102,false)]) (U:=[]) c0 d0 (.cons rfl .nil) .nil ?_
 dsimp only [aC,List.map]
 refine Rv 66 c0 rfl d0 (fun _=>AK rfl rfl)<|Rv 67 c0 rfl d0 (fun _=>Aj rfl)<|Bb 1180591620717411303423 2 [(68,107),(69,108)] (F:=[(106,false)]) (U:=[]) c0 d0 (.cons rfl .nil) .nil ?_
 dsimp only [aC,List.map]
 refine Rv 70 c0 rfl d0 (fun _=>AK rfl rfl)<|Rv 71 c0 rfl d0 (fun _=>Bc rfl)<|AH (dk c0)<|Am rfl<|AU hb0 func10 rfl rfl ?_
 cases h
 exact p0.gv
 refine Bb 536870911 43 [(22,61),(23,62),(24,63),(25,64),(26,65),(27,66),(28,67)] (F:=[(60,false)]) (U:=[]) c0 d0 (.cons rfl .nil) .nil ?_
 dsimp only [aC,List.map]
 refine Rv 29 c0 rfl d0 (fun _=>AK rfl rfl)<|Rv 30 c0 rfl d0 (fun _=>Aj rfl)<|Bb 274877906943 34 [(31,70),(32,71),(33,72),(34,73),(35,74),(36,75),(37,76)] (F:=[(69,false)]) (U:=[]) c0 d0 (.cons rfl .nil) .nil ?_
 dsimp only [aC,List.map]
 refine Rv 38 c0 rfl d0 (fun _=>AK rfl rfl)<|Rv 39 c0 rfl d0 (fun _=>Aj rfl)<|Bb 4398046511103 30 [(40,79),(41,80)] (F:=[(78,false)]) (U:=[]) c0 d0 (.cons rfl .nil) .nil ?_
 dsimp only [aC,List.map]
 refine Rv 42 c0 rfl d0 (fun _=>AK rfl rfl)<|Rv 43 c0 rfl d0 (fun _=>Aj rfl)<|Bb 9007199254740991 19 [(44,83),(45,84),(46,85),(47,86),(48,87),(49,88),(50,89),(51,90),(52,91)] (F:=[(82,false)]) (U:=[]) c0 d0 (.cons rfl .nil) .nil ?_
 dsimp only [aC,List.map]
 refine Rv 53 c0 rfl d0 (fun _=>AK rfl rfl)<|Rv 54 c0 rfl d0 (fun _=>Aj rfl)<|Bb 4611686018427387903 10 [(55,94),(56,95),(57,96),(58,97),(59,98),(60,99),(61,100)] (F:=[(93,false)]) (U:=[]) c0 d0 (.cons rfl .nil) .nil ?_
 dsimp only [aC,List.map]
 refine Rv 62 c0 rfl d0 (fun _=>AK rfl rfl)<|Rv 63 c0 rfl d0 (fun _=>Aj rfl)<|Bb 73786976294838206463 6 [(64,103),(65,104)] (F:=[(102,false)]) (U:=[]) c0 d0 (.cons rfl .nil) .nil ?_
 dsimp only [aC,List.map]
 refine Rv 66 c0 rfl d0 (fun _=>AK rfl rfl)<|Rv 67 c0 rfl d0 (fun _=>Aj rfl)<|Bb 1180591620717411303423 2 [(68,107),(69,108)] (F:=[(106,false)]) (U:=[]) c0 d0 (.cons rfl .nil) .nil ?_
 dsimp only [aC,List.map]
 refine Rv 70 c0 rfl d0 (fun _=>AK rfl rfl)<|Rv 71 c0 rfl d0 (fun _=>Bc rfl)<|AH (dk c0)<|Am rfl<|AU hb0 func10 rfl rfl ?_
 cases h
 exact k0.gv
 refine Bb 1048575 52 [(18,57),(19,58)] (F:=[(56,false)]) (U:=[]) c0 d0 (.cons rfl .nil) .nil ?_
 dsimp only [aC,List.map]
 refine Rv 20 c0 rfl d0 (fun _=>AK rfl rfl)<|Rv 21 c0 rfl d0 (fun _=>Aj rfl)<|Bb 536870911 43 [(22,61),(23,62),(24,63),(25,64),(26,65),(27,66),(28,67)] (F:=[(60,false)]) (U:=[]) c0 d0 (.cons rfl .nil) .nil ?_
 dsimp only [aC,List.map]
 refine Rv 29 c0 rfl d0 (fun _=>AK rfl rfl)<|Rv 30 c0 rfl d0 (fun _=>Aj rfl)<|Bb 274877906943 34 [(31,70),(32,71),(33,72),(34,73),(35,74),(36,75),(37,76)] (F:=[(69,false)]) (U:=[]) c0 d0 (.cons rfl .nil) .nil ?_
 dsimp only [aC,List.map]
 refine Rv 38 c0 rfl d0 (fun _=>AK rfl rfl)<|Rv 39 c0 rfl d0 (fun _=>Aj rfl)<|Bb 4398046511103 30 [(40,79),(41,80)] (F:=[(78,false)]) (U:=[]) c0 d0 (.cons rfl .nil) .nil ?_
 dsimp only [aC,List.map]
 refine Rv 42 c0 rfl d0 (fun _=>AK rfl rfl)<|Rv 43 c0 rfl d0 (fun _=>Aj rfl)<|Bb 9007199254740991 19 [(44,83),(45,84),(46,85),(47,86),(48,87),(49,88),(50,89),(51,90),(52,91)] (F:=[(82,false)]) (U:=[]) c0 d0 (.cons rfl .nil) .nil ?_
 dsimp only [aC,List.map]
 refine Rv 53 c0 rfl d0 (fun _=>AK rfl rfl)<|Rv 54 c0 rfl d0 (fun _=>Aj rfl)<|Bb 4611686018427387903 10 [(55,94),(56,95),(57,96),(58,97),(59,98),(60,99),(61,100)] (F:=[(93,false)]) (U:=[]) c0 d0 (.cons rfl .nil) .nil ?_
 dsimp only [aC,List.map]
 refine Rv 62 c0 rfl d0 (fun _=>AK rfl rfl)<|Rv 63 c0 rfl d0 (fun _=>Aj rfl)<|Bb 73786976294838206463 6 [(64,103),(65,104)] (F:=[(102,false)]) (U:=[]) c0 d0 (.cons rfl .nil) .nil ?_
 dsimp only [aC,List.map]
 refine Rv 66 c0 rfl d0 (fun _=>AK rfl rfl)<|Rv 67 c0 rfl d0 (fun _=>Aj rfl)<|Bb 1180591620717411303423 2 [(68,107),(69,108)] (F:=[(106,false)]) (U:=[]) c0 d0 (.cons rfl .nil) .nil ?_
 dsimp only [aC,List.map]
 refine Rv 70 c0 rfl d0 (fun _=>AK rfl rfl)<|Rv 71 c0 rfl d0 (fun _=>Bc rfl)<|AH (dk c0)<|Am rfl<|AU hb0 func10 rfl rfl ?_
 cases h
 exact k0.gv
 refine Bb 65535 56 [(14,53),(15,54)] (F:=[(52,false)]) (U:=[]) c0 d0 (.cons rfl .nil) .nil ?_
 dsimp only [aC,List.map]
 refine Rv 16 c0 rfl d0 (fun _=>AK rfl rfl)<|Rv 17 c0 rfl d0 (fun _=>Aj rfl)<|Bb 1048575 52 [(18,57),(19,58)] (F:=[(56,false)]) (U:=[]) c0 d0 (.cons rfl .nil) .nil ?_
 dsimp only [aC,List.map]
 refine Rv 20 c0 rfl d0 (fun _=>AK rfl rfl)<|Rv 21 c0 rfl d0 (fun _=>Aj rfl)<|Bb 536870911 43 [(22,61),(23,62),(24,63),(25,64),(26,65),(27,66),(28,67)] (F:=[(60,false)]) (U:=[]) c0 d0 (.cons rfl .nil) .nil ?_
 dsimp only [aC,List.map]
 refine Rv 29 c0 rfl d0 (fun _=>AK rfl rfl)<|Rv 30 c0 rfl d0 (fun _=>Aj rfl)<|Bb 274877906943 34 [(31,70),(32,71),(33,72),(34,73),(35,74),(36,75),(37,76)] (F:=[(69,false)]) (U:=[]) c0 d0 (.cons rfl .nil) .nil ?_
 dsimp only [aC,List.map]
 refine Rv 38 c0 rfl d0 (fun _=>AK rfl rfl)<|Rv 39 c0 rfl d0 (fun _=>Aj rfl)<|Bb 4398046511103 30 [(40,79),(41,80)] (F:=[(78,false)]) (U:=[]) c0 d0 (.cons rfl .nil) .nil ?_
 dsimp only [aC,List.map]
 refine Rv 42 c0 rfl d0 (fun _=>AK rfl rfl)<|Rv 43 c0 rfl d0 (fun _=>Aj rfl)<|Bb 9007199254740991 19 [(44,83),(45,84),(46,85),(47,86),(48,87),(49,88),(50,89),(51,90),(52,91)] (F:=[(82,false)]) (U:=[]) c0 d0 (.cons rfl .nil) .nil ?_
 dsimp only [aC,List.map]
 refine Rv 53 c0 rfl d0 (fun _=>AK rfl rfl)<|Rv 54 c0 rfl d0 (fun _=>Aj rfl)<|Bb 4611686018427387903 10 [(55,94),(56,95),(57,96),(58,97),(59,98),(60,99),(61,100)] (F:=[(93,false)]) (U:=[]) c0 d0 (.cons rfl .nil) .nil ?_
 dsimp only [aC,List.map]
 refine Rv 62 c0 rfl d0 (fun _=>AK rfl rfl)<|Rv 63 c0 rfl d0 (fun _=>Aj rfl)<|Bb 73786976294838206463 6 [(64,103),(65,104)] (F:=[(102,false)]) (U:=[]) c0 d0 (.cons rfl .nil) .nil ?_
 dsimp only [aC,List.map]
 refine Rv 66 c0 rfl d0 (fun _=>AK rfl rfl)<|Rv 67 c0 rfl d0 (fun _=>Aj rfl)<|Bb 1180591620717411303423 2 [(68,107),(69,108)] (F:=[(106,false)]) (U:=[]) c0 d0 (.cons rfl .nil) .nil ?_
 dsimp only [aC,List.map]
 refine Rv 70 c0 rfl d0 (fun _=>AK rfl rfl)<|Rv 71 c0 rfl d0 (fun _=>Bc rfl)<|AH (dk c0)<|Am rfl<|AU hb0 func10 rfl rfl ?_
 cases h
 exact k0.gv
 refine Bb 4095 60 [(9,48),(10,49),(11,50)] (F:=[(47,false)]) (U:=[]) c0 d0 (.cons rfl .nil) .nil ?_
 dsimp only [aC,List.map]
 refine Rv 12 c0 rfl d0 (fun _=>AK rfl rfl)<|Rv 13 c0 rfl d0 (fun _=>Aj rfl)<|Bb 65535 56 [(14,53),(15,54)] (F:=[(52,false)]) (U:=[]) c0 d0 (.cons rfl .nil) .nil ?_
 dsimp only [aC,List.map]
 refine Rv 16 c0 rfl d0 (fun _=>AK rfl rfl)<|Rv 17 c0 rfl d0 (fun _=>Aj rfl)<|Bb 1048575 52 [(18,57),(19,58)] (F:=[(56,false)]) (U:=[]) c0 d0 (.cons rfl .nil) .nil ?_
 dsimp only [aC,List.map]
 refine Rv 20 c0 rfl d0 (fun _=>AK rfl rfl)<|Rv 21 c0 rfl d0 (fun _=>Aj rfl)<|Bb 536870911 43 [(22,61),(23,62),(24,63),(25,64),(26,65),(27,66),(28,67)] (F:=[(60,false)]) (U:=[]) c0 d0 (.cons rfl .nil) .nil ?_
 dsimp only [aC,List.map]
 refine Rv 29 c0 rfl d0 (fun _=>AK rfl rfl)<|Rv 30 c0 rfl d0 (fun _=>Aj rfl)<|Bb 274877906943 34 [(31,70),(32,71),(33,72),(34,73),(35,74),(36,75),(37,76)] (F:=[(69,false)]) (U:=[]) c0 d0 (.cons rfl .nil) .nil ?_
 dsimp only [aC,List.map]
 refine Rv 38 c0 rfl d0 (fun _=>AK rfl rfl)<|Rv 39 c0 rfl d0 (fun _=>Aj rfl)<|Bb 4398046511103 30 [(40,79),(41,80)] (F:=[(78,false)]) (U:=[]) c0 d0 (.cons rfl .nil) .nil ?_
 dsimp only [aC,List.map]
 refine Rv 42 c0 rfl d0 (fun _=>AK rfl rfl)<|Rv 43 c0 rfl d0 (fun _=>Aj rfl)<|Bb 9007199254740991 19 [(44,83),(45,84),(46,85),(47,86),(48,87),(49,88),(50,89),(51,90),(52,91)] (F:=[(82,false)]) (U:=[]) c0 d0 (.cons rfl .nil) .nil ?_
 dsimp only [aC,List.map]
 refine Rv 53 c0 rfl d0 (fun _=>AK rfl rfl)<|Rv 54 c0 rfl d0 (fun _=>Aj rfl)<|Bb 4611686018427387903 10 [(55,94),(56,95),(57,96),(58,97),(59,98),(60,99),(61,100)] (F:=[(93,false)]) (U:=[]) c0 d0 (.cons rfl .nil) .nil ?_
 dsimp only [aC,List.map]
 refine Rv 62 c0 rfl d0 (fun _=>AK rfl rfl)<|Rv 63 c0 rfl d0 (fun _=>Aj rfl)<|Bb 73786976294838206463 6 [(64,103),(65,104)] (F:=[(102,false)]) (U:=[]) c0 d0 (.cons rfl .nil) .nil ?_
 dsimp only [aC,List.map]
 refine Rv 66 c0 rfl d0 (fun _=>AK rfl rfl)<|Rv 67 c0 rfl d0 (fun _=>Aj rfl)<|Bb 1180591620717411303423 2 [(68,107),(69,108)] (F:=[(106,false)]) (U:=[]) c0 d0 (.cons rfl .nil) .nil ?_
 dsimp only [aC,List.map]
 refine Rv 70 c0 rfl d0 (fun _=>AK rfl rfl)<|Rv 71 c0 rfl d0 (fun _=>Bc rfl)<|AH (dk c0)<|Am rfl<|AU hb0 func10 rfl rfl ?_
 cases h
 exact y0.gv
structure Tj where
  fN:UInt8
  fE:List UInt8
  fMore:List (UInt8 × UInt8)
  fLabels:List UInt8
  fK:UInt8
  deriving DecidableEq
instance:Rep Tj:=Rep.via (β:=UInt8 × (List UInt8) × (List (UInt8 × UInt8)) × (List UInt8) × UInt8) fun x=>(x.fN,x.fE,x.fMore,x.fLabels,x.fK)
def bc_p (_n:Nat) (a0:Tj):Option Int:=
  some ((1 + ((a0.fN % (9:UInt8)).toNat):Nat):Int)
theorem bc_c (n:Nat) {L w} (_hL:hl L w) (a0:Tj) {v0_1:Value} (_h0_1:Rep.R w L [v0_1] a0.fE) {v0_2:Value} (_h0_2:Rep.R w L [v0_2] a0.fMore) {v0_3:Value} (_h0_3:Rep.R w L [v0_3] a0.fLabels)  {r:Int} (h:bc_p n a0 = some r) :
 Cl 67 #[.agg #[.int .u8 (a0.fN.toNat:Int),v0_1,v0_2,v0_3,.int .u8 (a0.fK.toNat:Int)]] w (ak w fun _ u=>u = vI r):=by
 unfold bc_p at h
 refine AC func67 rfl rfl rfl fun _ cs0 hb0=>Ae<|RG.bx (Ax w) rfl rfl fun j0 c0 b0 d0=>Ag rfl<|Aa<|Ae<|Bk 0 rfl<|AO rfl ((b0.memA .hd) 0 _ rfl)<|Ac (FV.rem8 (a:=a0.fN) (b:=(9:UInt8)) rfl rfl (by decide)) ?_
 have g0:=(a0.fN % (9:UInt8)).toNat_lt
 refine Ac (FV.convN (i:=(a0.fN % (9:UInt8)).toNat) underlying5 underlying3 rfl (by omega))<|Ac (Bg (i:=1) (j:=(a0.fN % (9:UInt8)).toNat) rfl rfl (by omega))<|Ag rfl<|Aa<|Am rfl<|AU hb0 func67 rfl rfl ?_
 cases h
 exact b0.gv
def aO_p (_n:Nat) (a0:Tj) (a1:Int):Option Int:=
  (if a1 < ((a0.fLabels.length:Nat):Int) then (idx a0.fLabels a1).bind fun b0=>some ((b0.toNat:Nat):Int) else some (0:Int))
theorem aO_c (n:Nat) {L w} (_hL:hl L w) (a0:Tj) {v0_1:Value} (_h0_1:Rep.R w L [v0_1] a0.fE) {v0_2:Value} (_h0_2:Rep.R w L [v0_2] a0.fMore) {v0_3:Value} (h0_3:Rep.R w L [v0_3] a0.fLabels) {a1:Int}  {r:Int} (h:aO_p n a0 a1 = some r) :
 Cl 68 #[.agg #[.int .u8 (a0.fN.toNat:Int),v0_1,v0_2,v0_3,.int .u8 (a0.fK.toNat:Int)],vI a1] w (ak w fun _ u=>u = vI r):=by
 unfold aO_p at h
 refine AC func68 rfl rfl rfl fun _ cs0 hb0=>Ae<|RG.bx (Ax w) rfl rfl fun E0 z0 b0 B0=>Ag rfl<|Aa<|Ak<|Ae<|Af rfl<|Bk 3 rfl<|AO rfl ((b0.memA .hd) 3 _ rfl) ?_
 have c0:=AQ h0_3 b0
 have C0:a0.fLabels.length <= 281474976710656:=AY c0
 refine Ac (Be (xs:=a0.fLabels) underlying22 rfl c0)<|Ac (FV.lss (i:=a1) (j:=((a0.fLabels.length:Nat):Int)) rfl rfl)<|Aa<|AI rfl h (fun g0 h=>?_) (fun g0 h=>?_)
 refine Ae<|Bk 3 rfl<|AO rfl ((b0.memA .hd) 3 _ rfl)<|Af rfl<|bk h fun d0 v0 h=>?_
 obtain ⟨q0,x0⟩:=aI v0
 obtain ⟨y0,A0,k0,s0,j0,u0,t0⟩:=Bl c0 x0
 have p0:j0 = [.int .u8 (d0.toNat:Int)]:=u0; subst p0
 refine Ac (Bh 1 (a1.toNat) rfl k0 rfl q0 s0)<|AO rfl (t0 0 _ rfl) ?_
 have D0:=d0.toNat_lt
 refine Ac (FV.convN (i:=d0.toNat) underlying5 underlying3 rfl (by omega))<|Ag rfl<|Aa<|Am rfl<|AU hb0 func68 rfl rfl ?_
 cases h
 exact b0.gv
 refine Ap<|Ae<|Ag rfl<|Aa<|Am rfl<|AU hb0 func68 rfl rfl ?_
 cases h
 exact b0.gv
def aE_l1 (_n:Nat) (a0:List Int) (a1:Int) (d0:Nat -> Option (Bool ⊕ Unit)):Nat -> Option (Bool ⊕ Unit)
  | b0=>(if b0 < a0.length then (a0[b0]?).bind fun c0=>(if c0 < 0 then some (.inl false) else (if a1 <= c0 then some (.inl false) else d0 (b0 + 1))) else some (.inr ()))
def aE_p (n:Nat) (a0:List Int) (a1:Int):Option Bool:=
  thn (ao (aE_l1 n a0 a1) n 0) (fun _=>(if 1 <= a0.length then some (decide (a0.length <= 64)) else some false))
theorem aE_c (n:Nat) {L w} (_hL:hl L w) {a0:List Int} {v0_0:Value} (h0_0:Rep.R w L [v0_0] a0) {a1:Int}  {r:Bool} (h:aE_p n a0 a1 = some r) :
 Cl 106 #[v0_0,vI a1] w (ak w fun _ u=>u = .bool r):=by
 unfold aE_p at h
 refine AC func106 rfl rfl rfl fun _ cs0 hb0=>Ae<|Ag rfl<|Aa<|Ak<|Ae<|Ag rfl<|Aa<|Au<|tn h fun I0 B0 g0=>MX.lo (α:=Nat) (fun b0=>[(0,v0_0),(1,vI a1),(5,vI ((b0:Nat):Int))]) (fun b0=>[]) (fun b0=>b0) 0 B0 (Ax w) ?_
 rintro F0 b0 J0 y0 c0 z0 h
 unfold aE_l1 at h
 try dsimp only at h
 refine Ak<|Ae<|Af rfl<|Af rfl ?_
 have d0:=AQ h0_0 c0
 have H0:a0.length <= 281474976710656:=AY d0
 refine Ac (Be (xs:=a0) underlying39 rfl d0)<|Ac (Bm (i:=b0) (j:=a0.length) rfl rfl)<|Aa<|AI rfl h (fun s0 h=>?_) (fun s0 h=>?_)
 refine Ap<|Ak<|Au<|Ae<|Af rfl<|Af rfl<|bk h fun j0 D0 h=>?_
 obtain ⟨E0,G0,k0,p0,x0,C0,q0⟩:=Bl d0 D0
 have A0:x0 = [vI j0]:=C0; subst A0
 refine Ac (Bh 1 b0 rfl k0 rfl rfl p0)<|AO rfl (q0 0 _ rfl)<|Ac (FV.lss (i:=j0) (j:=0) rfl rfl)<|Af rfl<|RG.ifd (s:=17) rfl h (fun t0 h=>?_) (fun t0 h=>?_)
 refine AG<|AG<|AG<|AG<|AG<|AG<|RG.pt rfl rfl<|Aa<|Br rfl<|Ae<|Ag rfl<|Aa ?_
 have h:=ax h g0
 refine Am rfl<|AU hb0 func106 rfl rfl ?_
 cases h
 exact c0.gv
 refine AV (Aj rfl)<|AV (Aj rfl)<|AV (Bh 1 b0 rfl k0 rfl rfl p0)<|AV (AZ rfl (q0 0 _ rfl))<|AV (Aj rfl)<|AV (FV.geq (i:=j0) (j:=a1) rfl rfl)<|RG.pf rfl rfl<|Aa<|AI rfl h (fun u0 h=>?_) (fun u0 h=>?_)
 refine Ae<|Ag rfl<|Aa ?_
 have h:=ax h g0
 refine Am rfl<|AU hb0 func106 rfl rfl ?_
 cases h
 exact c0.gv
 refine Ap<|Ay<|Ao<|Af rfl<|Ac (Bg (i:=b0) (j:=1) rfl rfl (by omega))<|Ag rfl<|Aa<|y0 (b0 + 1) c0 z0 h
 refine AT rfl ?_
 have h:=aF h g0
 try dsimp only at h
 refine Ae<|Af rfl<|Ac (Be (xs:=a0) underlying39 rfl d0)<|Ac (FV.geqN (i:=a0.length) (j:=1) rfl rfl)<|Af rfl<|RG.ifd (s:=28) rfl h (fun v0 h=>?_) (fun v0 h=>?_)
 refine AV (Aj rfl)<|AV (Be (xs:=a0) underlying39 rfl d0)<|AV (FV.leqN (i:=a0.length) (j:=64) rfl rfl)<|RG.pt rfl rfl<|Ag rfl<|Aa<|Am rfl<|AU hb0 func106 rfl rfl ?_
 cases h
 exact c0.gv
 refine AG<|AG<|AG<|RG.pf rfl rfl<|Ag rfl<|Aa<|Am rfl<|AU hb0 func106 rfl rfl ?_
 cases h
 exact c0.gv
def aH_l1 (_n:Nat) (a0:List Int) (q0:Int × Nat × (List Int) × (List Int) -> Option (List Int)):Int × Nat × (List Int) × (List Int) -> Option (List Int)
  | (g0,b0,k0,d0)=>(if b0 < a0.length then (a0[b0]?).bind fun c0=>(idx d0 c0).bind fun t0=>jn (fun (y0,p0)=>(idx p0 c0).bind fun u0=>(app k0 ([u0]:List Int)).bind fun v0=>q0 (y0,b0 + 1,v0,p0)) (fun j0=>(if t0 < 0 then (put d0 ((c0.toNat:Nat):Int) g0).bind fun x0=>(chk (g0 + 1)).bind fun s0=>j0 (s0,x0) else j0 (g0,d0))) else some k0)
def aH_p (n:Nat) (a0:List Int):Option ((List Int) × Int):=
  (aE_p n a0 (8:Int)).bind fun y1=>(if y1 = true then Option.bind (ao (aH_l1 n a0) n (0,0,([]:List Int),([(-1:Int),(-1:Int),(-1:Int),(-1:Int),(-1:Int),(-1:Int),(-1:Int),(-1:Int)]:List Int))) (fun b0=>some (b0,(0:Int))) else some (([]:List Int),(210:Int)))
theorem aH_c (n:Nat) {L w} (hL:hl L w) {a0:List Int} {v0_0:Value} (h0_0:Rep.R w L [v0_0] a0)  {r:(List Int) × Int} (h:aH_p n a0 = some r) :
 Cl 69 #[v0_0] w (ak w fun w' u=>∃ v0_0:Value,u = .tuple #[v0_0,vI r.2]/\Rep.R w' L [v0_0] r.1):=by
 unfold aH_p at h
 have hS0:=Ax w
 refine AC func69 rfl rfl rfl fun _ cs0 hb0=>Ae<|Ag rfl<|Ag rfl<|Aa<|Ak<|Ae<|Af rfl<|bk h fun y1 hy1 h=>Bf (.bool y1) (bd 106) rfl (e2 rfl rfl) (fun p q=>aE_c n (hS0.hL0 hL q) (hS0.kd h0_0 q) hy1) rfl<|Ac (BD rfl)<|Aa<|MX.ifnb rfl h (fun c2 h=>?_) (fun c2 h=>?_)
 refine Ap<|Ae<|Al .plain rfl (Ba (α:=Int) (xs:=([(-1:Int),(-1:Int),(-1:Int),(-1:Int),(-1:Int),(-1:Int),(-1:Int),(-1:Int)]:List Int)) (vs:=[vI (-1),vI (-1),vI (-1),vI (-1),vI (-1),vI (-1),vI (-1),vI (-1)]) (ds' :=[vI (-1),vI (-1),vI (-1),vI (-1),vI (-1),vI (-1),vI (-1),vI (-1)]) rfl hS0 bs rfl (e8 rfl rfl rfl rfl rfl rfl rfl rfl) (by kernel_rfl) rfl) fun g3 v0 B0 Z2=>Ag rfl<|Aa<|Ae<|Ag rfl<|Aa<|Ae<|Ag rfl<|Aa<|Ak<|Ae<|Ag rfl<|Aa<|Au ?_
 have K0:=B0.nilRow 3 (Rep.size Int)
 obtain ⟨d3,p2,Z1⟩:=av h
 refine MX.lf (α:=Int × Nat × (List Int) × (List Int) × Value × (List Value) × (List Value)) (fun ⟨u0,b0,d0,j0,c0,g0,k0⟩=>[(0,v0_0),(4,(vS v0 8)),(5,vI u0),(6,c0),(7,vI ((b0:Nat):Int))]) (fun ⟨u0,b0,d0,j0,c0,g0,k0⟩=>[rr w 3 Int c0 d0.length g0,rr w 3 Int (vS v0 8) j0.length k0]) (fun ⟨u0,b0,d0,j0,c0,g0,k0⟩ I0=>Cells I0 (bl [rr w 3 Int c0 d0.length g0,rr w 3 Int (vS v0 8) j0.length k0] ++ L) g0 d0/\Cells I0 (bl [rr w 3 Int c0 d0.length g0,rr w 3 Int (vS v0 8) j0.length k0] ++ L) k0 j0) (fun ⟨u0,b0,d0,j0,c0,g0,k0⟩=>(u0,b0,d0,j0)) (0,0,([]:List Int),([(-1:Int),(-1:Int),(-1:Int),(-1:Int),(-1:Int),(-1:Int),(-1:Int),(-1:Int)]:List Int),vN,[],[vI (-1),vI (-1),vI (-1),vI (-1),vI (-1),vI (-1),vI (-1),vI (-1)]) p2 K0 ⟨(AE (cs:=[]) (xs:=([]:List Int)) K0 L (AR _ _)),(AL (AE (cs:=[vI (-1),vI (-1),vI (-1),vI (-1),vI (-1),vI (-1),vI (-1),vI (-1)]) (xs:=(([(-1:Int),(-1:Int),(-1:Int),(-1:Int),(-1:Int),(-1:Int),(-1:Int),(-1:Int)]:List Int):List Int)) B0 L (Ar (cs:=[vI (-1)]) (ds:=[vI (-1),vI (-1),vI (-1),vI (-1),vI (-1),vI (-1),vI (-1)]) rfl (Ar (cs:=[vI (-1)]) (ds:=[vI (-1),vI (-1),vI (-1),vI (-1),vI (-1),vI (-1)]) rfl (Ar (cs:=[vI (-1)]) (ds:=[vI (-1),vI (-1),vI (-1),vI (-1),vI (-1)]) rfl (Ar (cs:=[vI (-1)]) (ds:=[vI (-1),vI (-1),vI (-1),vI (-1)]) rfl (Ar (cs:=[vI (-1)]) (ds:=[vI (-1),vI (-1),vI (-1)]) rfl (Ar (cs:=[vI (-1)]) (ds:=[vI (-1),vI (-1)]) rfl (Ar (cs:=[vI (-1)]) (ds:=[vI (-1)]) rfl (Ar (cs:=[vI (-1)]) (ds:=[]) rfl (AR _ _)))))))))) (St.nilRowT B0 3 (Rep.size Int)))⟩ ?_
 rintro M2 ⟨u0,b0,d0,j0,c0,g0,k0⟩ I0 F1 p0 J1 ⟨R0,E0⟩ h
 unfold aH_l1 at h
 try dsimp only at h
 refine Ak<|Ae<|Af rfl<|Af rfl ?_
 have H0:=AQ h0_0 p0
 have c3:a0.length <= 281474976710656:=AY H0
 refine Ac (Be (xs:=a0) underlying39 rfl H0)<|Ac (Bm (i:=b0) (j:=a0.length) rfl rfl)<|Aa<|AI rfl h (fun v1 h=>?_) (fun v1 h=>?_)
 refine Ap<|Ak<|Au<|Ak<|Ae<|Af rfl<|Af rfl<|Af rfl<|bk h fun y0 g1 h=>?_
 obtain ⟨J2,R2,V0,Y0,z1,q2,b1⟩:=Bl H0 g1
 have R1:z1 = [vI y0]:=q2; subst R1
 refine Ac (Bh 1 b0 rfl V0 rfl rfl Y0)<|AO rfl (b1 0 _ rfl)<|bk h fun k1 z2 h=>?_
 obtain ⟨X0,A2⟩:=aI z2
 obtain ⟨p1,U2,A0,G0,A1,s2,g2⟩:=St.nth (α:=Int) p0 .t1 E0 A2
 obtain ⟨s1,V2,W0⟩:=Bu (α:=Int) p0 .t1 G0
 obtain rfl:p1 = ⟨s1,0,none⟩:=by rw [W0] at A0; cases A0; rfl
 have U1:A1 = [vI k1]:=s2; subst U1
 refine Ac (Bh 1 (y0.toNat) rfl A0 rfl X0 G0)<|AO rfl (g2 0 _ rfl)<|Ac (FV.lss (i:=k1) (j:=0) rfl rfl)<|Aa<|MX.jf (α:=Int × (List Int) × (List Value)) (fun ⟨x0,q0,s0⟩=>[(0,v0_0),(4,(vS v0 8)),(5,vI x0),(6,c0),(7,vI ((b0:Nat):Int))]) (fun ⟨x0,q0,s0⟩=>[rr w 3 Int c0 d0.length g0,rr w 3 Int (vS v0 8) q0.length s0]) (fun ⟨x0,q0,s0⟩ j1=>Cells j1 (bl [rr w 3 Int c0 d0.length g0,rr w 3 Int (vS v0 8) q0.length s0] ++ L) s0 q0) (fun ⟨x0,q0,s0⟩=>(x0,q0)) p0 h ?_ ?_
 rintro ⟨x0,q0,s0⟩ j1 z0 M0 U0 h
 try dsimp only at h
 refine Ao<|Af rfl<|Af rfl<|Af rfl<|Af rfl ?_
 obtain ⟨K2,W2,V1,d2,B1,t2,j2⟩:=Bl (AQ h0_0 z0) g1
 have W1:B1 = [vI y0]:=t2; subst W1
 refine Ac (Bh 1 b0 rfl V1 rfl rfl d2)<|AO rfl (j2 0 _ rfl)<|bk h fun t0 B2 h=>?_
 obtain ⟨b2,C2⟩:=aI B2
 obtain ⟨q1,X2,F0,Z0,C1,u2,k2⟩:=St.nth (α:=Int) z0 .t1 U0 C2
 obtain ⟨u1,Y2,X1⟩:=Bu (α:=Int) z0 .t1 Z0
 obtain rfl:q1 = ⟨u1,0,none⟩:=by rw [X1] at F0; cases F0; rfl
 have Y1:C1 = [vI t0]:=u2; subst Y1
 refine Ac (Bh 1 (y0.toNat) rfl F0 rfl b2 Z0)<|AO rfl (k2 0 _ rfl)<|Al .plain rfl (jA t0 (vI t0) z0 kW (e1 rfl)) fun j3 Q2 C0 P0=>bk h fun H2 D2 h=>RG.doesL .plain rfl (DoesL.app (α:=Int) (ys:=([t0]:List Int)) D2 C0 (fun _ _=>.t1) kW rfl rfl (AL R0 (Tt M0 P0)) (Src.row (α:=Int) C0 .hd (jC t0 (vI t0) C0 L rfl))) fun G2 k3 ⟨D1,G1,K1,P1⟩=>Ag rfl<|Aa<|Ay<|Ao<|Af rfl<|Ac (Bg (i:=b0) (j:=1) rfl rfl (by omega))<|Ag rfl<|Aa ?_
 obtain ⟨H1,Q0⟩:=AN G1 .d1
 have c1:=Tt P0 (Tt K1 Q0)
 exact F1 (x0,b0 + 1,H2,q0,G2,D1,s0) H1 (Tt J1 (Tt M0 c1)) ⟨(AL P1 Q0),(AL U0 c1)⟩ h
 intro P2 J0 h
 try dsimp only at h
 refine AI rfl h (fun x1 h=>?_) (fun x1 h=>?_)
 refine Ae<|Af rfl<|Af rfl<|Af rfl<|Ac (Bh 1 b0 rfl V0 rfl rfl Y0)<|AO rfl (b1 0 _ rfl)<|Af rfl<|Ac (Bh 1 (y0.toNat) rfl A0 rfl X0 G0)<|bk h fun I2 E2 h=>RG.acts' .plain (Acts.set (α:=Int) (i:=y0.toNat) E2 p0 W0 (fun _=>.t1) E0 rfl rfl rfl rfl rfl rfl) fun p3 ⟨E1,I1,M1,Q1⟩=>Aa<|Ao<|Af rfl<|bk h fun F2 y2 h=>Ac (Bs (i:=u0) (j:=1) rfl rfl y2)<|Ag rfl<|Aa<|J0 (F2,I2,E1) I1 M1 Q1 h
 refine Ap<|J0 (u0,j0,k0) p0 (Tr.refl _ _) E0 h
 refine AT rfl ?_
 have h:=Z1 _ h
 try dsimp only at h
 refine Ae<|Af rfl<|Ag rfl<|Ag rfl<|Aa<|Am rfl ?_
 have D0:=St.delS p0 .hd
 have b3:=St.delT p0 .hd
 have v2:=Rep.at_ (α:=Int) (v:=c0) (xs:=d0) D0 L (Bv (α:=Int) p0 .hd R0 hL)
 refine Aq hb0 func69 rfl (.cons (.tmp rfl) (.cons (.tmp rfl) .nil)) rfl ?_
 cases h
 exact ⟨D0.ag,fun p q=>⟨c0,rfl,D0.kd v2 q⟩⟩
 refine Ae<|Ag rfl<|Ag rfl<|Aa<|Am rfl ?_
 have x2:=Rep.nilAt (α:=Int) hS0 L
 refine Aq hb0 func69 rfl (.cons (.tmp rfl) (.cons (.tmp rfl) .nil)) rfl ?_
 cases h
 exact ⟨hS0.ag,fun p q=>⟨vN,rfl,hS0.kd x2 q⟩⟩
def ae_l1 (_n:Nat) (c0:(List Int) × Int) (g0:Int × Nat -> Option Int):Int × Nat -> Option Int
  | (d0,b0)=>(if b0 < c0.1.length then (c0.1[b0]?).bind fun k0=>(chk (k0 + 1)).bind fun j0=>g0 (max d0 j0,b0 + 1) else some d0)
def ae_l2 (n:Nat) (a0:Tj) (d0:Int × (List Int) -> Option (List Int)):Int × (List Int) -> Option (List Int)
  | (b0,c0)=>(bc_p n a0).bind fun p0=>(if b0 < p0 then (aO_p n a0 b0).bind fun q0=>(dC q0 ((1 + ((a0.fK % (8:UInt8)).toNat):Nat):Int)).bind fun j0=>(app c0 ([j0]:List Int)).bind fun k0=>(chk (b0 + 1)).bind fun g0=>d0 (g0,k0) else some c0)
def ae_p (n:Nat) (a0:Tj):Option ((List Int) × Int):=
  Option.bind (ao (ae_l2 n a0) n (0,([]:List Int))) (fun c0=>(aH_p n c0).bind fun b0=>Option.bind (ao (ae_l1 n b0) n (0,0)) (fun d0=>some (b0.1,d0)))
theorem ae_c (n:Nat) {L w} (hL:hl L w) (a0:Tj) {v0_1:Value} (h0_1:Rep.R w L [v0_1] a0.fE) {v0_2:Value} (h0_2:Rep.R w L [v0_2] a0.fMore) {v0_3:Value} (h0_3:Rep.R w L [v0_3] a0.fLabels)  {r:(List Int) × Int} (h:ae_p n a0 = some r) :
 Cl 21 #[.agg #[.int .u8 (a0.fN.toNat:Int),v0_1,v0_2,v0_3,.int .u8 (a0.fK.toNat:Int)]] w (ak w fun w' u=>∃ v0_0:Value,u = .tuple #[v0_0,vI r.2]/\Rep.R w' L [v0_0] r.1):=by
 unfold ae_p at h
 refine AC func21 rfl rfl rfl fun _ cs0 hb0=>Ae<|RG.bx (Ax w) rfl rfl fun u2 x0 C0 d2=>Ag rfl<|Ag rfl<|Aa<|Ae<|Ag rfl<|Aa<|Ak<|Ae<|Ag rfl<|Aa<|Au ?_
 have D0:=C0.nilRow 3 (Rep.size Int)
 have g2:=St.nilRowT C0 3 (Rep.size Int)
 obtain ⟨q2,C1,y1⟩:=av h
 refine MX.lf (α:=Int × (List Int) × Value × (List Value)) (fun ⟨q0,j0,p0,s0⟩=>[(1,vP x0),(4,p0),(5,vI q0)]) (fun ⟨q0,j0,p0,s0⟩=>[rr w 3 Int p0 j0.length s0,.cells x0 [.int .u8 (a0.fN.toNat:Int),v0_1,v0_2,v0_3,.int .u8 (a0.fK.toNat:Int)] 25]) (fun ⟨q0,j0,p0,s0⟩ K0=>Cells K0 (bl [rr w 3 Int p0 j0.length s0,.cells x0 [.int .u8 (a0.fN.toNat:Int),v0_1,v0_2,v0_3,.int .u8 (a0.fK.toNat:Int)] 25] ++ L) s0 j0) (fun ⟨q0,j0,p0,s0⟩=>(q0,j0)) (0,([]:List Int),vN,[]) C1 D0 (AE (cs:=[]) (xs:=([]:List Int)) D0 L (AR _ _)) ?_
 rintro X1 ⟨q0,j0,p0,s0⟩ K0 Y0 c0 p1 H0 h
 unfold ae_l2 at h
 try dsimp only at h
 refine Ak<|Ae<|Af rfl<|Ac (AD rfl (c0.memA .t1))<|bk h fun P0 M1 h=>Bf (vI P0) (bd 67) rfl (e1 rfl) (fun p q=>bc_c n (c0.hL0 hL q) a0 (c0.k0 h0_1 q) (c0.k0 h0_2 q) (c0.k0 h0_3 q) M1) rfl<|Ac (FV.lss (i:=q0) (j:=P0) rfl rfl)<|Aa<|AI rfl h (fun U0 h=>?_) (fun U0 h=>?_)
 refine Ap<|Ak<|Au<|du 11 fun b0 d0=>Rv 0 b0 rfl d0 (fun _=>Aj rfl)<|Rx 1 7688 b0 rfl d0 (AD rfl (c0.memA .t1))<|Rv 2 b0 rfl d0 (fun _=>Aj rfl)<|bk h fun Q0 P1 h=>RD.cq 3 15 7680 (vI Q0) b0 rfl d0 (bd 68) rfl (e2 rfl rfl) (fun p q=>aO_c n (c0.hL0 hL q) a0 (c0.k0 h0_1 q) (c0.k0 h0_2 q) (c0.k0 h0_3 q) P1) rfl<|Rv 4 b0 rfl d0 (fun _=>Bo 4 rfl)<|Rx 5 8128 b0 rfl d0 (AZ rfl ((c0.memA .t1) 4 _ rfl))<|Rv 6 b0 rfl d0 (fun _=>FV.rem8 (a:=a0.fK) (b:=(8:UInt8)) rfl rfl (by decide)) ?_
 have k2:=(a0.fK % (8:UInt8)).toNat_lt
 refine Rv 7 b0 rfl d0 (fun _=>FV.convN (i:=(a0.fK % (8:UInt8)).toNat) underlying5 underlying3 rfl (by omega))<|Rv 8 b0 rfl d0 (fun _=>Bg (i:=1) (j:=(a0.fK % (8:UInt8)).toNat) rfl rfl (by omega))<|bk h fun t0 H1 h=>Rv 9 b0 rfl d0 (fun _=>FV.remc (i:=Q0) (j:=((1 + ((a0.fK % (8:UInt8)).toNat):Nat):Int)) rfl rfl H1)<|RD.nu 10 2047 b0 rfl .plain rfl (jA t0 (vI t0) c0 kW (e1 rfl)) fun x2 Y1 y0 E0=>bk h fun U1 J1 h=>By (i:=11) (rk b0) (RO.doesL (m' :=4095) (sk b0) rfl rfl .plain rfl (DoesL.app (α:=Int) (ys:=([t0]:List Int)) J1 y0 (fun _ _=>.t1) kW rfl rfl (AL H0 E0) (Src.row (α:=Int) y0 .hd (jC t0 (vI t0) y0 L rfl))) (fun R1 t2 ⟨V0,Z0,j1,s1⟩=>?_))
 refine By (i:=12) (rk b0) (RO.val (m' :=8191) (sk b0) rfl .plain rfl (Bc rfl) ?_)
 refine AH (dk b0)<|Ay<|Ao<|Af rfl<|bk h fun Q1 F1 h=>Ac (Bs (i:=q0) (j:=1) rfl rfl F1)<|Ag rfl<|Aa ?_
 obtain ⟨b1,F0⟩:=AN Z0 .d1
 exact Y0 (Q1,U1,R1,V0) b1 (Tt p1 (Tt E0 (Tt j1 F0))) (AL s1 F0) h
 refine AT rfl ?_
 have h:=y1 _ h
 try dsimp only at h
 refine Ae<|Af rfl ?_
 have z0:=St.delS c0 .hd
 have b2:=St.delT c0 .hd
 refine bk h fun B0 K1 h=>jE (bd 69) rfl (e1 rfl) (fun p q=>aH_c n (z0.hL hL q) (Av (Rep.at_ (α:=Int) (v:=p0) (xs:=j0) z0 L (Bv (α:=Int) c0 .hd H0 hL)) q) K1) rfl fun v2 s2 q1 ⟨J0,hu_,D1⟩=>?_
 subst hu_
 obtain ⟨c1,c2⟩:=z0.agr q1
 refine Af rfl<|Ac (Ai rfl rfl)<|Ac (Ai rfl rfl)<|Ag rfl<|Aa<|Ae<|Ag rfl<|Aa<|Ak<|Ae<|Ag rfl<|Aa<|Au ?_
 obtain ⟨g1,k1⟩:=AN c1 .done
 obtain ⟨p2,B1,x1⟩:=av h
 refine MX.lo (α:=Int × Nat) (fun ⟨u0,g0⟩=>[(4,J0),(6,vI u0),(7,vI ((g0:Nat):Int))]) (fun ⟨u0,g0⟩=>[]) (fun ⟨u0,g0⟩=>(u0,g0)) (0,0) B1 g1 ?_
 rintro W1 ⟨u0,g0⟩ y2 X0 A0 G0 h
 unfold ae_l1 at h
 try dsimp only at h
 refine Ak<|Ae<|Af rfl<|Af rfl ?_
 have v0:=Az D1 (Tt k1 G0)
 have j2:B0.1.length <= 281474976710656:=AY v0
 refine Ac (Be (xs:=B0.1) underlying39 rfl v0)<|Ac (Bm (i:=g0) (j:=B0.1.length) rfl rfl)<|Aa<|AI rfl h (fun R0 h=>?_) (fun R0 h=>?_)
 refine Ap<|Ak<|Au<|Ao<|Af rfl<|Af rfl<|Af rfl<|bk h fun M0 I1 h=>?_
 obtain ⟨V1,Z1,u1,z1,W0,E1,A1⟩:=Bl v0 I1
 have v1:W0 = [vI M0]:=E1; subst v1
 refine Ac (Bh 1 g0 rfl u1 rfl rfl z1)<|AO rfl (A1 0 _ rfl)<|bk h fun I0 G1 h=>Ac (Bs (i:=M0) (j:=1) rfl rfl G1)<|Ac (FV.max2 (i:=u0) (j:=I0) rfl rfl)<|Ag rfl<|Aa<|Ay<|Ao<|Af rfl<|Ac (Bg (i:=g0) (j:=1) rfl rfl (by omega))<|Ag rfl<|Aa<|X0 (max u0 I0,g0 + 1) A0 G0 h
 refine AT rfl ?_
 have h:=x1 _ h
 try dsimp only at h
 refine Ae<|Af rfl<|Af rfl<|Ag rfl<|Ag rfl<|Aa<|Am rfl<|Aq hb0 func21 rfl (.cons (.tmp rfl) (.cons (.tmp rfl) .nil)) rfl ?_
 cases h
 exact ⟨A0.ag,fun p q=>⟨J0,rfl,A0.kd v0 q⟩⟩
structure Ti where
  fh:UInt8
  fc:UInt8
  fe:UInt8
  ft:UInt8
  fNums:List UInt8
  deriving DecidableEq
instance:Rep Ti:=Rep.via (β:=UInt8 × UInt8 × UInt8 × UInt8 × (List UInt8)) fun x=>(x.fh,x.fc,x.fe,x.ft,x.fNums)
def aA_p (_n:Nat) (a0:Ti) (a1:Int):Option Int:=
  (if a0.fNums.length = 0 then some (1:Int) else (dC a1 ((a0.fNums.length:Nat):Int)).bind fun b0=>(idx a0.fNums b0).bind fun c0=>some ((c0.toNat:Nat):Int))
theorem aA_c (n:Nat) {L w} (_hL:hl L w) (a0:Ti) {v0_4:Value} (h0_4:Rep.R w L [v0_4] a0.fNums) {a1:Int}  {r:Int} (h:aA_p n a0 a1 = some r) :
 Cl 78 #[.agg #[.int .u8 (a0.fh.toNat:Int),.int .u8 (a0.fc.toNat:Int),.int .u8 (a0.fe.toNat:Int),.int .u8 (a0.ft.toNat:Int),v0_4],vI a1] w (ak w fun _ u=>u = vI r):=by
 unfold aA_p at h
 refine AC func78 rfl rfl rfl fun _ cs0 hb0=>Ae<|RG.bx (Ax w) rfl rfl fun I0 D0 d0 F0=>Ag rfl<|Aa<|Ak<|Ae<|Bk 4 rfl<|AO rfl ((d0.memA .hd) 4 _ rfl) ?_
 have g0:=AQ h0_4 d0
 have G0:a0.fNums.length <= 281474976710656:=AY g0
 refine Ac (Be (xs:=a0.fNums) underlying22 rfl g0)<|Ac (FV.eqlN (i:=a0.fNums.length) (j:=0) rfl rfl)<|Aa<|AI rfl h (fun k0 h=>?_) (fun k0 h=>?_)
 refine Ae<|Ag rfl<|Aa<|Am rfl<|AU hb0 func78 rfl rfl ?_
 cases h
 exact d0.gv
 refine Ap<|Ak<|du 11 fun b0 c0=>Rv 0 b0 rfl c0 (fun _=>Bo 4 rfl)<|Rx 1 1920 b0 rfl c0 (AZ rfl ((d0.memA .hd) 4 _ rfl))<|Rv 2 b0 rfl c0 (fun _=>Aj rfl)<|Rv 3 b0 rfl c0 (fun _=>Bo 4 rfl)<|Rx 4 2016 b0 rfl c0 (AZ rfl ((d0.memA .hd) 4 _ rfl))<|Rx 5 1984 b0 rfl c0 (Be (xs:=a0.fNums) underlying22 rfl g0)<|bk h fun B0 y0 h=>Rv 6 b0 rfl c0 (fun _=>FV.remc (i:=a1) (j:=((a0.fNums.length:Nat):Int)) rfl rfl y0)<|bk h fun j0 z0 h=>?_
 obtain ⟨t0,A0⟩:=aI z0
 obtain ⟨C0,E0,q0,u0,p0,x0,v0⟩:=Bl g0 A0
 have s0:p0 = [.int .u8 (j0.toNat:Int)]:=x0; subst s0
 refine Rv 7 b0 rfl c0 (fun _=>Bh 1 (B0.toNat) rfl q0 rfl t0 u0)<|Rx 8 1536 b0 rfl c0 (AZ rfl (v0 0 _ rfl)) ?_
 have H0:=j0.toNat_lt
 refine Rv 9 b0 rfl c0 (fun _=>FV.convN (i:=j0.toNat) underlying5 underlying3 rfl (by omega))<|Rv 10 b0 rfl c0 (fun _=>Bc rfl)<|AH (dk b0)<|Am rfl<|AU hb0 func78 rfl rfl ?_
 cases h
 exact d0.gv
def am_l1 (n:Nat) (a1:Int) (a2:Int) (a0:Ti) (a3:Int) (d0:Int × (List Int) -> Option (List Int)):Int × (List Int) -> Option (List Int)
  | (b0,c0)=>(if b0 < a1 then (chk (a2 + b0)).bind fun j0=>(aA_p n a0 j0).bind fun p0=>(app c0 ([min p0 a3]:List Int)).bind fun k0=>(chk (b0 + 1)).bind fun g0=>d0 (g0,k0) else some c0)
def am_p (n:Nat) (a0:Ti) (a1:Int) (a2:Int) (a3:Int):Option (List Int):=
  Option.bind (ao (am_l1 n a1 a2 a0 a3) n (0,([]:List Int))) (fun b0=>some b0)
theorem am_c (n:Nat) {L w} (hL:hl L w) (a0:Ti) {v0_4:Value} (h0_4:Rep.R w L [v0_4] a0.fNums) {a1:Int} {a2:Int} {a3:Int}  {r:List Int} (h:am_p n a0 a1 a2 a3 = some r) :
 Cl 79 #[.agg #[.int .u8 (a0.fh.toNat:Int),.int .u8 (a0.fc.toNat:Int),.int .u8 (a0.fe.toNat:Int),.int .u8 (a0.ft.toNat:Int),v0_4],vI a1,vI a2,vI a3] w (ak w fun w' u=>∃ v0_0:Value,u = v0_0/\Rep.R w' L [v0_0] r):=by
 unfold am_p at h
 refine AC func79 rfl rfl rfl fun _ cs0 hb0=>Ae<|RG.bx (Ax w) rfl rfl fun p1 q0 u0 c1=>Ag rfl<|Aa<|Ae<|Ag rfl<|Aa<|Ak<|Ae<|Ag rfl<|Aa<|Au ?_
 have v0:=u0.nilRow 3 (Rep.size Int)
 have g1:=St.nilRowT u0 3 (Rep.size Int)
 obtain ⟨j1,K0,J0⟩:=av h
 refine MX.lf (α:=Int × (List Int) × Value × (List Value)) (fun ⟨g0,c0,b0,j0⟩=>[(1,vI a1),(2,vI a2),(3,vI a3),(4,vP q0),(9,b0),(10,vI g0)]) (fun ⟨g0,c0,b0,j0⟩=>[rr w 3 Int b0 c0.length j0,.cells q0 [.int .u8 (a0.fh.toNat:Int),.int .u8 (a0.fc.toNat:Int),.int .u8 (a0.fe.toNat:Int),.int .u8 (a0.ft.toNat:Int),v0_4] 27]) (fun ⟨g0,c0,b0,j0⟩ A0=>Cells A0 (bl [rr w 3 Int b0 c0.length j0,.cells q0 [.int .u8 (a0.fh.toNat:Int),.int .u8 (a0.fc.toNat:Int),.int .u8 (a0.fe.toNat:Int),.int .u8 (a0.ft.toNat:Int),v0_4] 27] ++ L) j0 c0) (fun ⟨g0,c0,b0,j0⟩=>(g0,c0)) (0,([]:List Int),vN,[]) K0 v0 (AE (cs:=[]) (xs:=([]:List Int)) v0 L (AR _ _)) ?_
 rintro Y0 ⟨g0,c0,b0,j0⟩ A0 D0 p0 G0 z0 h
 unfold am_l1 at h
 try dsimp only at h
 refine Ak<|Ae<|Af rfl<|Af rfl<|Ac (FV.lss (i:=g0) (j:=a1) rfl rfl)<|Aa<|AI rfl h (fun B0 h=>?_) (fun B0 h=>?_)
 refine Ap<|Ak<|Au<|Ao<|Af rfl<|Ac (AD rfl (p0.memA .t1))<|Af rfl<|Af rfl<|bk h fun k1 Q0 h=>Ac (Bs (i:=a2) (j:=g0) rfl rfl Q0)<|bk h fun d0 U0 h=>Bf (vI d0) (bd 78) rfl (e2 rfl rfl) (fun p q=>aA_c n (p0.hL0 hL q) a0 (p0.k0 h0_4 q) U0) rfl<|Af rfl<|Ac (FV.min2 (i:=d0) (j:=a3) rfl rfl)<|Al .plain rfl (jA (min d0 a3) (vI (min d0 a3)) p0 bs (e1 rfl)) fun q1 Z0 t0 y0=>bk h fun X0 R0 h=>RG.doesL .plain rfl (DoesL.app (α:=Int) (ys:=([min d0 a3]:List Int)) R0 t0 (fun _ _=>.t1) bs rfl rfl (AL z0 y0) (Src.row (α:=Int) t0 .hd (jC (min d0 a3) (vI (min d0 a3)) t0 L rfl))) fun W0 s1 ⟨C0,F0,H0,I0⟩=>Ag rfl<|Aa<|Ay<|Ao<|Af rfl<|bk h fun V0 P0 h=>Ac (Bs (i:=g0) (j:=1) rfl rfl P0)<|Ag rfl<|Aa ?_
 obtain ⟨E0,x0⟩:=AN F0 .d1
 exact D0 (V0,X0,W0,C0) E0 (Tt G0 (Tt y0 (Tt H0 x0))) (AL I0 x0) h
 refine AT rfl ?_
 have h:=J0 _ h
 try dsimp only at h
 refine Ae<|Af rfl<|Ag rfl<|Aa<|Am rfl ?_
 have s0:=St.delS p0 .hd
 have b1:=St.delT p0 .hd
 have M0:=Rep.at_ (α:=Int) (v:=b0) (xs:=c0) s0 L (Bv (α:=Int) p0 .hd z0 hL)
 refine AU hb0 func79 rfl rfl ?_
 cases h
 exact ⟨s0.ag,fun p q=>⟨b0,rfl,s0.kd M0 q⟩⟩
theorem el22:ElT Tryz.prog 22 5 (Rep.size UInt8) 1 (.int .u8 0) [.int .u8 0]:=⟨underlying22,by kernel_rfl,rfl,rfl,rfl,rfl⟩
def aa_l1 (n:Nat) (a0:Ti) (t0:Int) (d0:Nat × (List Int) -> Option (List Int)):Nat × (List Int) -> Option (List Int)
  | (b0,c0)=>(if b0 < ((a0.fe % (3:UInt8)).toNat) then (chk (9 * t0)).bind fun g0=>(chk (g0 + 7)).bind fun j0=>(chk (j0 + ((b0:Nat):Int))).bind fun k0=>(aA_p n a0 k0).bind fun s0=>(dC s0 3).bind fun p0=>(app c0 ([p0]:List Int)).bind fun q0=>d0 (b0 + 1,q0) else some c0)
def aa_l2 (_n:Nat) (a0:Ti) (d0:Nat × (List Tc) -> Option (List Tc)):Nat × (List Tc) -> Option (List Tc)
  | (b0,c0)=>(if b0 < ((a0.ft % (2:UInt8)).toNat) then (mk (((a0.fh % (3:UInt8)).toNat:Nat):Int) (0:Int)).bind fun g0=>(mk (((a0.fc % (4:UInt8)).toNat:Nat):Int) (0:Int)).bind fun j0=>(mk (((a0.fe % (3:UInt8)).toNat:Nat):Int) (0:Int)).bind fun k0=>(app c0 ([(⟨⟨#[115,101,97]⟩,(0:Int),g0,j0,k0,true⟩:Tc)]:List Tc)).bind fun p0=>d0 (b0 + 1,p0) else some c0)
def aa_l3 (n:Nat) (a1:Int) (a0:Ti) (g0:Int × (List Tc) -> Option (List Tc)):Int × (List Tc) -> Option (List Tc)
  | (b0,c0)=>(if b0 < a1 then (dC b0 26).bind fun j0=>(chk (97 + j0)).bind fun k0=>(dM b0 26).bind fun p0=>(dC p0 26).bind fun q0=>(chk (97 + q0)).bind fun s0=>(chk (9 * b0)).bind fun t0=>(aA_p n a0 t0).bind fun d0=>(li ⟨#[117]⟩ (bstr ([aG k0,aG s0]:List UInt8))).bind fun u0=>(chk (9 * b0)).bind fun v0=>(chk (v0 + 1)).bind fun x0=>(am_p n a0 (((a0.fh % (3:UInt8)).toNat:Nat):Int) x0 d0).bind fun D0=>(chk (9 * b0)).bind fun y0=>(chk (y0 + 3)).bind fun z0=>(am_p n a0 (((a0.fc % (4:UInt8)).toNat:Nat):Int) z0 (255:Int)).bind fun E0=>Option.bind (ao (aa_l1 n a0 b0) n (0,([]:List Int))) (fun B0=>(app c0 ([(⟨u0,d0,D0,E0,B0,false⟩:Tc)]:List Tc)).bind fun C0=>(chk (b0 + 1)).bind fun A0=>g0 (A0,C0)) else some c0)
def aa_p (n:Nat) (a0:Ti) (a1:Int):Option Tf:=
  Option.bind (ao (aa_l3 n a1 a0) n (0,([]:List Tc))) (fun c0=>Option.bind (ao (aa_l2 n a0) n (0,c0)) (fun b0=>some (⟨(((a0.fh % (3:UInt8)).toNat:Nat):Int),(((a0.fc % (4:UInt8)).toNat:Nat):Int),(((a0.fe % (3:UInt8)).toNat:Nat):Int),b0⟩:Tf)))
theorem aa_c (n:Nat) {L w} (hL:hl L w) (a0:Ti) {v0_4:Value} (h0_4:Rep.R w L [v0_4] a0.fNums) {a1:Int}  {r:Tf} (h:aa_p n a0 a1 = some r) :
 Cl 26 #[.agg #[.int .u8 (a0.fh.toNat:Int),.int .u8 (a0.fc.toNat:Int),.int .u8 (a0.fe.toNat:Int),.int .u8 (a0.ft.toNat:Int),v0_4],vI a1] w (ak w fun w' u=>∃ v0_3:Value,u = .agg #[vI r.fh,vI r.fc,vI r.fe,v0_3]/\Rep.R w' L [v0_3] r.fu):=by
 unfold aa_p at h
 refine AC func26 rfl rfl rfl fun _ cs0 hb0=>Ae<|RG.bx (Ax w) rfl rfl fun q8 u0 H4 J7=>RG.nl [vI 0,vI 0,vI 0,vN] H4 fun y8 v0 X1 K7=>Aa<|Ae<|Bk 0 rfl<|AO rfl ((X1.memA .t1) 0 _ rfl)<|Ac (FV.rem8 (a:=a0.fh) (b:=(3:UInt8)) rfl rfl (by decide)) ?_
 have V7:=(a0.fh % (3:UInt8)).toNat_lt
 refine Ac (FV.convN (i:=(a0.fh % (3:UInt8)).toNat) underlying5 underlying3 rfl (by omega))<|Bk 1 rfl<|AO rfl ((X1.memA .t1) 1 _ rfl)<|Ac (FV.rem8 (a:=a0.fc) (b:=(4:UInt8)) rfl rfl (by decide)) ?_
 have W7:=(a0.fc % (4:UInt8)).toNat_lt
 refine Ac (FV.convN (i:=(a0.fc % (4:UInt8)).toNat) underlying5 underlying3 rfl (by omega))<|Bk 2 rfl<|AO rfl ((X1.memA .t1) 2 _ rfl)<|Ac (FV.rem8 (a:=a0.fe) (b:=(3:UInt8)) rfl rfl (by decide)) ?_
 have X7:=(a0.fe % (3:UInt8)).toNat_lt
 refine Ac (FV.convN (i:=(a0.fe % (3:UInt8)).toNat) underlying5 underlying3 rfl (by omega))<|Ac (AX (vs:=[vI (((a0.fh % (3:UInt8)).toNat:Nat):Int),vI (((a0.fc % (4:UInt8)).toNat:Nat):Int),vI (((a0.fe % (3:UInt8)).toNat:Nat):Int)]) (u:=.agg #[vI (((a0.fh % (3:UInt8)).toNat:Nat):Int),vI (((a0.fc % (4:UInt8)).toNat:Nat):Int),vI (((a0.fe % (3:UInt8)).toNat:Nat):Int),vN]) (e3 rfl rfl rfl) (fun p=>by kernel_rfl))<|RG.nl [vI 0,vI 0,vI 0,vN] X1 fun z8 x0 I4 M7=>AW [vI (((a0.fh % (3:UInt8)).toNat:Nat):Int),vI (((a0.fc % (4:UInt8)).toNat:Nat):Int),vI (((a0.fe % (3:UInt8)).toNat:Nat):Int),vN] I4 .hd (aq rfl) fun A8 g3 P7=>Aa<|Ak<|Ae<|Ag rfl<|Aa<|Au ?_
 have A2:=g3.nilRow 63 (Rep.size Tc)
 have Q7:=St.nilRowT g3 63 (Rep.size Tc)
 have j3:=A2.nilRow 63 (Rep.size Tc)
 have R7:=AE (cs:=[]) (xs:=([]:List Tc)) j3 L (AR _ _)
 obtain ⟨Z7,M5,I5⟩:=av h
 refine MX.lf (α:=Int × (List Tc) × Value × (List Value)) (fun ⟨z0,X0,y0,Z0⟩=>[(1,vI a1),(2,vP u0),(4,vP v0),(5,vP x0),(6,vI z0)]) (fun ⟨z0,X0,y0,Z0⟩=>[rr w 63 Tc vN (([]:List Tc).length) [],rr w 63 Tc y0 X0.length Z0,.cells x0 [vI (((a0.fh % (3:UInt8)).toNat:Nat):Int),vI (((a0.fc % (4:UInt8)).toNat:Nat):Int),vI (((a0.fe % (3:UInt8)).toNat:Nat):Int),y0] 37,.cells v0 [vI 0,vI 0,vI 0,vN] 37,.cells u0 [.int .u8 (a0.fh.toNat:Int),.int .u8 (a0.fc.toNat:Int),.int .u8 (a0.fe.toNat:Int),.int .u8 (a0.ft.toNat:Int),v0_4] 27]) (fun ⟨z0,X0,y0,Z0⟩ c4=>Cells c4 (bl [rr w 63 Tc vN (([]:List Tc).length) [],rr w 63 Tc y0 X0.length Z0,.cells x0 [vI (((a0.fh % (3:UInt8)).toNat:Nat):Int),vI (((a0.fc % (4:UInt8)).toNat:Nat):Int),vI (((a0.fe % (3:UInt8)).toNat:Nat):Int),y0] 37,.cells v0 [vI 0,vI 0,vI 0,vN] 37,.cells u0 [.int .u8 (a0.fh.toNat:Int),.int .u8 (a0.fc.toNat:Int),.int .u8 (a0.fe.toNat:Int),.int .u8 (a0.ft.toNat:Int),v0_4] 27] ++ L) Z0 X0) (fun ⟨z0,X0,y0,Z0⟩=>(z0,X0)) (0,([]:List Tc),vN,[]) M5 j3 (AL (AE (cs:=[]) (xs:=([]:List Tc)) A2 L (AR _ _)) (St.nilRowT A2 63 (Rep.size Tc))) ?_
 rintro t7 ⟨z0,X0,y0,Z0⟩ c4 y4 I1 c5 E3 h
 unfold aa_l3 at h
 try dsimp only at h
 refine Ak<|Ae<|Af rfl<|Af rfl<|Ac (FV.lss (i:=z0) (j:=a1) rfl rfl)<|Aa<|AI rfl h (fun p4 h=>?_) (fun p4 h=>?_)
 refine Ap<|Ak<|Au<|Ak<|du 18 fun c0 q0=>Rv 0 c0 rfl q0 (fun _=>Aj rfl)<|bk h fun H6 R5 h=>Rv 1 c0 rfl q0 (fun _=>FV.remc (i:=z0) (j:=26) rfl rfl R5)<|bk h fun D0 U5 h=>Rv 2 c0 rfl q0 (fun _=>Bs (i:=97) (j:=H6) rfl rfl U5)<|Rv 3 c0 rfl q0 (fun _=>FV.convU8 (i:=D0) underlying3 underlying5 rfl)<|Rv 4 c0 rfl q0 (fun _=>Aj rfl)<|bk h fun I6 V5 h=>Rv 5 c0 rfl q0 (fun _=>FV.quoc (i:=z0) (j:=26) rfl rfl V5)<|bk h fun J6 W5 h=>Rv 6 c0 rfl q0 (fun _=>FV.remc (i:=I6) (j:=26) rfl rfl W5)<|bk h fun t0 X5 h=>Rv 7 c0 rfl q0 (fun _=>Bs (i:=97) (j:=J6) rfl rfl X5)<|Rv 8 c0 rfl q0 (fun _=>FV.convU8 (i:=t0) underlying3 underlying5 rfl)<|Rx 12 360448 c0 rfl q0 (AD rfl (I1.memA .t4))<|Rv 13 c0 rfl q0 (fun _=>Aj rfl)<|bk h fun c8 Y5 h=>Rv 14 c0 rfl q0 (fun _=>FV.mulc (i:=9) (j:=z0) rfl rfl Y5)<|bk h fun g0 D6 h=>RD.cq 15 61951 327680 (vI g0) c0 rfl q0 (bd 78) rfl (e2 rfl rfl) (fun p q=>aA_c n (I1.hL0 hL q) a0 (I1.k0 h0_4 q) D6) rfl<|bk h fun j0 Z3 h=>RD.mo (α:=Nat) (fun G1=>[(1,vI a1),(2,vP u0),(4,vP v0),(5,vP x0),(6,vI z0),(44,.agg #[.string j0,vI g0,vN,vN,vN,.bool false]),(7,vP G1)]) (fun G1=>[.cells G1 [.string ⟨#[]⟩,vI 0,vN,vN,vN,.bool false] 63,rr w 63 Tc vN (([]:List Tc).length) [],rr w 63 Tc y0 X0.length Z0,.cells x0 [vI (((a0.fh % (3:UInt8)).toNat:Nat):Int),vI (((a0.fc % (4:UInt8)).toNat:Nat):Int),vI (((a0.fe % (3:UInt8)).toNat:Nat):Int),y0] 37,.cells v0 [vI 0,vI 0,vI 0,vN] 37,.cells u0 [.int .u8 (a0.fh.toNat:Int),.int .u8 (a0.fc.toNat:Int),.int .u8 (a0.fe.toNat:Int),.int .u8 (a0.ft.toNat:Int),v0_4] 27]) I1 1 262143 ?_ ?_
 rintro G1 P8 J4 d5
 try dsimp only
 refine BB 18 524287 c0 rfl rfl .plain (AB (news:=[.string j0,vI g0,vN,vN,vN,.bool false]) J4 .hd rfl rfl rfl rfl rfl rfl (aq rfl)) fun B8 Q1 g5=>AH (dk c0)<|Ae<|Ac (AD rfl (Q1.memA .t5))<|Bk 0 rfl<|AO rfl ((Q1.memA .t3) 0 _ rfl)<|Af rfl<|bk h fun K6 Z5 h=>Ac (FV.mulc (i:=9) (j:=z0) rfl rfl Z5)<|bk h fun d8 b6 h=>Ac (Bs (i:=K6) (j:=1) rfl rfl b6)<|Bk 1 rfl<|AO rfl ((Q1.memA .hd) 1 _ rfl)<|bk h fun s2 E6 h=>jE (bd 79) rfl (e4 rfl rfl rfl rfl) (fun p q=>am_c n (Q1.hL hL q) a0 (Q1.km h0_4 q) E6) rfl fun C8 W0 u5 ⟨k8,hu_,c2⟩=>?_
 subst hu_
 obtain ⟨K4,j5⟩:=Q1.agr u5
 refine Bk 2 rfl<|RG.now .plain (BC (j:=2) (old:=[.string j0,vI g0,vN,vN,vN,.bool false]) (news:=[W0]) (new' :=[.string j0,vI g0,W0,vN,vN,.bool false]) K4 .hd rfl rfl rfl (Rep.c1 c2) rfl rfl (o1 (Bd c2)) rfl) fun D8 R1 v3=>Aa<|Ae<|Ac (AD rfl (R1.memA .t5))<|Bk 1 rfl<|AO rfl ((R1.memA .t3) 1 _ rfl)<|Af rfl<|bk h fun M6 c6 h=>Ac (FV.mulc (i:=9) (j:=z0) rfl rfl c6)<|bk h fun g8 d6 h=>Ac (Bs (i:=M6) (j:=3) rfl rfl d6)<|bk h fun u2 F6 h=>jE (bd 79) rfl (e4 rfl rfl rfl rfl) (fun p q=>am_c n (R1.hL hL q) a0 (R1.km h0_4 q) F6) rfl fun E8 z1 v5 ⟨p8,hu_,g2⟩=>?_
 subst hu_
 obtain ⟨M4,x3⟩:=R1.agr v5
 refine Bk 3 rfl<|RG.now .plain (BC (j:=3) (old:=[.string j0,vI g0,W0,vN,vN,.bool false]) (news:=[z1]) (new' :=[.string j0,vI g0,W0,z1,vN,.bool false]) M4 .hd rfl rfl rfl (Rep.c1 g2) rfl rfl (o1 (Bd g2)) rfl) fun F8 k3 V2=>Aa<|Ak<|Ae<|Ag rfl<|Aa<|Au ?_
 have p3:=k3.nilRow 3 (Rep.size Int)
 have W2:=St.nilRowT k3 3 (Rep.size Int)
 obtain ⟨b8,P5,J5⟩:=av h
 refine MX.lf (α:=Nat × (List Int) × Value × (List Value)) (fun ⟨x1,R0,K0,H1⟩=>[(1,vI a1),(2,vP u0),(4,vP v0),(5,vP x0),(6,vI z0),(7,vP G1),(8,vI ((x1:Nat):Int))]) (fun ⟨x1,R0,K0,H1⟩=>[rr w 3 Int K0 R0.length H1,.cells G1 [.string j0,vI g0,W0,z1,K0,.bool false] 63,rr w 63 Tc vN (([]:List Tc).length) [],rr w 63 Tc y0 X0.length Z0,.cells x0 [vI (((a0.fh % (3:UInt8)).toNat:Nat):Int),vI (((a0.fc % (4:UInt8)).toNat:Nat):Int),vI (((a0.fe % (3:UInt8)).toNat:Nat):Int),y0] 37,.cells v0 [vI 0,vI 0,vI 0,vN] 37,.cells u0 [.int .u8 (a0.fh.toNat:Int),.int .u8 (a0.fc.toNat:Int),.int .u8 (a0.fe.toNat:Int),.int .u8 (a0.ft.toNat:Int),v0_4] 27]) (fun ⟨x1,R0,K0,H1⟩ d4=>Cells d4 (bl [rr w 3 Int K0 R0.length H1,.cells G1 [.string j0,vI g0,W0,z1,K0,.bool false] 63,rr w 63 Tc vN (([]:List Tc).length) [],rr w 63 Tc y0 X0.length Z0,.cells x0 [vI (((a0.fh % (3:UInt8)).toNat:Nat):Int),vI (((a0.fc % (4:UInt8)).toNat:Nat):Int),vI (((a0.fe % (3:UInt8)).toNat:Nat):Int),y0] 37,.cells v0 [vI 0,vI 0,vI 0,vN] 37,.cells u0 [.int .u8 (a0.fh.toNat:Int),.int .u8 (a0.fc.toNat:Int),.int .u8 (a0.fe.toNat:Int),.int .u8 (a0.ft.toNat:Int),v0_4] 27] ++ L) H1 R0) (fun ⟨x1,R0,K0,H1⟩=>(x1,R0)) (0,([]:List Int),vN,[]) P5 p3 (AE (cs:=[]) (xs:=([]:List Int)) p3 L (AR _ _)) ?_
 rintro u7 ⟨x1,R0,K0,H1⟩ d4 z4 b1 Z1 F3 h
 unfold aa_l1 at h
 try dsimp only at h
 refine Ak<|Ae<|Af rfl<|Bk 2 rfl<|AO rfl ((b1.memA .t4) 2 _ rfl)<|Ac (Bm (i:=x1) (j:=(a0.fe % (3:UInt8)).toNat) rfl rfl)<|Aa<|AI rfl h (fun q4 h=>?_) (fun q4 h=>?_)
 refine Ap<|Ak<|Au<|du 11 fun s0 y1=>Rv 0 s0 rfl y1 (fun _=>Bo 4 rfl)<|Rx 1 14336 s0 rfl y1 (AZ rfl ((b1.memA .t1) 4 _ rfl))<|Rx 2 16128 s0 rfl y1 (AD rfl (b1.memA .t6))<|Rv 3 s0 rfl y1 (fun _=>Aj rfl)<|bk h fun P6 g6 h=>Rv 4 s0 rfl y1 (fun _=>FV.mulc (i:=9) (j:=z0) rfl rfl g6)<|bk h fun Q6 j6 h=>Rv 5 s0 rfl y1 (fun _=>Bs (i:=P6) (j:=7) rfl rfl j6)<|Rv 6 s0 rfl y1 (fun _=>Aj rfl)<|bk h fun j8 k6 h=>Rv 7 s0 rfl y1 (fun _=>Bs (i:=Q6) (j:=((x1:Nat):Int)) rfl rfl k6)<|bk h fun g4 G6 h=>RD.cq 8 511 15872 (vI g4) s0 rfl y1 (bd 78) rfl (e2 rfl rfl) (fun p q=>aA_c n (b1.hL0 hL q) a0 (b1.k0 h0_4 q) G6) rfl<|bk h fun K1 p6 h=>Rv 9 s0 rfl y1 (fun _=>FV.remc (i:=g4) (j:=3) rfl rfl p6)<|RD.nu 10 2047 s0 rfl .plain rfl (jA K1 (vI K1) b1 bs (e1 rfl)) fun G8 x7 C2 y3=>bk h fun X6 B6 h=>By (i:=11) (rk s0) (RO.doesL (m' :=4095) (sk s0) rfl rfl .plain rfl (DoesL.app (α:=Int) (ys:=([K1]:List Int)) B6 C2 (fun _ _=>.t1) bs rfl rfl (AL F3 y3) (Src.row (α:=Int) C2 .hd (jC K1 (vI K1) C2 L rfl))) (fun Z2 H8 ⟨u4,D2,k5,C5⟩=>?_))
 refine By (i:=12) (rk s0) (RO.val (m' :=8191) (sk s0) rfl .plain rfl (Bo 4 rfl) ?_)
 refine BB 13 16383 s0 rfl rfl .plain (BC (j:=4) (old:=[.string j0,vI g0,W0,z1,K0,.bool false]) (news:=[Z2]) (new' :=[.string j0,vI g0,W0,z1,Z2,.bool false]) D2 .t2 rfl rfl rfl (St.c1 (α:=Int) D2 .t1) rfl rfl (o1 (St.o1 (α:=Int) D2 .t1)) rfl) fun I8 P4 z3=>AH (dk s0)<|Ay<|Ao<|Af rfl<|Ac (Bg (i:=x1) (j:=1) rfl rfl (by omega))<|Ag rfl<|Aa ?_
 obtain ⟨Q4,A3⟩:=AN P4 .d1
 exact z4 (x1 + 1,X6,Z2,u4) Q4 (Tt Z1 (Tt y3 (Tt k5 (Tt z3 A3)))) (AL C5 (Tt z3 A3)) h
 refine AT rfl ?_
 have h:=J5 _ h
 try dsimp only at h
 refine Ao<|Bk 3 rfl<|AO rfl ((b1.memA .t4) 3 _ rfl)<|Ac (AD rfl (b1.memA .t1)) ?_
 have q3:=St.delS b1 .hd
 have X2:=St.delT b1 .hd
 have Y3:=Rep.at_ (α:=Int) (v:=K0) (xs:=R0) q3 L (Bv (α:=Int) b1 .hd F3 hL)
 have Q3:=Tt v3 (Tt x3 (Tt V2 (Tt W2 (Tt Z1 X2))))
 have R3:=Tt V2 (Tt W2 (Tt Z1 X2))
 obtain ⟨k7,F7,x6,_⟩:=Rep.sl (Az c2 Q3)
 obtain ⟨p7,G7,y6,_⟩:=Rep.sl (Az g2 R3)
 obtain ⟨q7,H7,z6,_⟩:=Rep.sl Y3
 refine Al .plain rfl (Ba (α:=Tc) (xs:=([(⟨j0,g0,s2,u2,R0,false⟩:Tc)]:List Tc)) (vs:=[.agg #[.string j0,vI g0,W0,z1,K0,.bool false]]) (ds' :=[.string j0,vI g0,W0,z1,K0,.bool false]) rfl q3 jX rfl (e1 rfl) (by rw [x6,y6,z6]; try kernel_rfl) rfl) fun J8 y7 E2 b2=>bk h fun Y6 C6 h=>?_
 have U3:=Tt d5 (Tt g5 (Tt j5 (Tt v3 (Tt x3 (Tt V2 (Tt W2 (Tt Z1 (Tt X2 b2))))))))
 refine RG.doesL .plain rfl (DoesL.app (α:=Tc) (ys:=([(⟨j0,g0,s2,u2,R0,false⟩:Tc)]:List Tc)) C6 E2 (fun _ _=>.t3) jX rfl rfl (AL E3 U3) (Src.row (α:=Tc) E2 .hd (AE (cs:=[.string j0,vI g0,W0,z1,K0,.bool false]) (xs:=(([(⟨j0,g0,s2,u2,R0,false⟩:Tc)]:List Tc):List Tc)) E2 L (Ar (cs:=[.string j0,vI g0,W0,z1,K0,.bool false]) (ds:=[]) (lr j0 g0 s2 (Az c2 (Tt Q3 b2)) u2 (Az g2 (Tt R3 b2)) R0 (Az Y3 b2) false) (AR _ _))))) fun b3 K8 ⟨v4,F2,p5,D5⟩=>Bk 3 rfl<|RG.now .plain (BC (j:=3) (old:=[vI (((a0.fh % (3:UInt8)).toNat:Nat):Int),vI (((a0.fc % (4:UInt8)).toNat:Nat):Int),vI (((a0.fe % (3:UInt8)).toNat:Nat):Int),y0]) (news:=[b3]) (new' :=[vI (((a0.fh % (3:UInt8)).toNat:Nat):Int),vI (((a0.fc % (4:UInt8)).toNat:Nat):Int),vI (((a0.fe % (3:UInt8)).toNat:Nat):Int),b3]) F2 .t4 rfl rfl rfl (St.c1 (α:=Tc) F2 .t3) rfl rfl (o1 (St.o1 (α:=Tc) F2 .t3)) rfl) fun M8 R4 B3=>Aa<|Ay<|Ao<|Af rfl<|bk h fun R6 q6 h=>Ac (Bs (i:=z0) (j:=1) rfl rfl q6)<|Ag rfl<|Aa ?_
 obtain ⟨U4,C3⟩:=AN R4 .d2
 exact y4 (R6,Y6,b3,v4) U4 (Tt c5 (Tt U3 (Tt p5 (Tt B3 C3)))) (AL D5 (Tt B3 C3)) h
 intro c3
 refine RD.each [9,17] (rk c0) ⟨?_,?_,trivial⟩
 refine RO.new (m' :=62463) (sk c0) rfl .plain rfl (Ba (α:=UInt8) (xs:=([aG D0,aG t0]:List UInt8)) (vs:=[.int .u8 ((aG D0).toNat:Int),.int .u8 ((aG t0).toNat:Int)]) (ds' :=[.int .u8 ((aG D0).toNat:Int),.int .u8 ((aG t0).toNat:Int)]) rfl I1 el22 rfl (e2 rfl rfl) (by kernel_rfl) rfl) fun U6 j4 J1 R2=>?_
 have B5:=AE (cs:=[.int .u8 ((aG D0).toNat:Int),.int .u8 ((aG t0).toNat:Int)]) (xs:=(([aG D0,aG t0]:List UInt8):List UInt8)) J1 L (Ar (cs:=[.int .u8 ((aG D0).toNat:Int)]) (ds:=[.int .u8 ((aG t0).toNat:Int)]) rfl (Ar (cs:=[.int .u8 ((aG t0).toNat:Int)]) (ds:=[]) rfl (AR _ _)))
 refine Rx 10 329728 c0 rfl q0 (FV.bytesS (xs:=([aG D0,aG t0]:List UInt8)) underlying22 underlying9 underlying5 rfl (Src.row (α:=UInt8) J1 .hd B5))<|Rv 11 c0 rfl q0 (fun _=>FV.addS Z3 rfl rfl)<|Rv 16 c0 rfl q0 (fun _=>AX (vs:=[.string j0,vI g0]) (u:=.agg #[.string j0,vI g0,vN,vN,vN,.bool false]) (e2 rfl rfl) (fun p=>by kernel_rfl))<|RD.nu 17 262143 c0 rfl .plain rfl (AA [.string ⟨#[]⟩,vI 0,vN,vN,vN,.bool false] J1) fun V6 v2 B2 U2=>?_
 obtain ⟨V4,q5⟩:=AN B2 (.a0 .d1)
 exact c3 v2 V4 (Tt R2 (Tt U2 q5))
 refine RO.new (m' :=193023) (sk c0) rfl .plain rfl (AA [.string ⟨#[]⟩,vI 0,vN,vN,vN,.bool false] I1) fun V6 v2 B2 U2=>RD.nu 9 193535 c0 rfl .plain rfl (Ba (α:=UInt8) (xs:=([aG D0,aG t0]:List UInt8)) (vs:=[.int .u8 ((aG D0).toNat:Int),.int .u8 ((aG t0).toNat:Int)]) (ds' :=[.int .u8 ((aG D0).toNat:Int),.int .u8 ((aG t0).toNat:Int)]) rfl B2 el22 rfl (e2 rfl rfl) (by kernel_rfl) rfl) fun U6 j4 J1 R2=>Rx 10 329728 c0 rfl q0 (FV.bytesS (xs:=([aG D0,aG t0]:List UInt8)) underlying22 underlying9 underlying5 rfl (Src.row (α:=UInt8) J1 .hd (AE (cs:=[.int .u8 ((aG D0).toNat:Int),.int .u8 ((aG t0).toNat:Int)]) (xs:=(([aG D0,aG t0]:List UInt8):List UInt8)) J1 L (Ar (cs:=[.int .u8 ((aG D0).toNat:Int)]) (ds:=[.int .u8 ((aG t0).toNat:Int)]) rfl (Ar (cs:=[.int .u8 ((aG t0).toNat:Int)]) (ds:=[]) rfl (AR _ _))))))<|Rv 11 c0 rfl q0 (fun _=>FV.addS Z3 rfl rfl)<|Rv 16 c0 rfl q0 (fun _=>AX (vs:=[.string j0,vI g0]) (u:=.agg #[.string j0,vI g0,vN,vN,vN,.bool false]) (e2 rfl rfl) (fun p=>by kernel_rfl)) ?_
 obtain ⟨W4,s5⟩:=AN J1 .d1
 exact c3 v2 W4 (Tt U2 (Tt R2 s5))
 refine AT rfl ?_
 have h:=I5 _ h
 try dsimp only at h
 refine Ak<|Ae<|Ag rfl<|Aa<|Au ?_
 obtain ⟨Y7,K5,H5⟩:=av h
 refine MX.lf (α:=Nat × (List Tc) × Value × (List Value)) (fun ⟨v1,Q0,p0,Y0⟩=>[(2,vP u0),(4,vP v0),(5,vP x0),(9,vI ((v1:Nat):Int))]) (fun ⟨v1,Q0,p0,Y0⟩=>[rr w 63 Tc vN (([]:List Tc).length) [],rr w 63 Tc p0 Q0.length Y0,.cells x0 [vI (((a0.fh % (3:UInt8)).toNat:Nat):Int),vI (((a0.fc % (4:UInt8)).toNat:Nat):Int),vI (((a0.fe % (3:UInt8)).toNat:Nat):Int),p0] 37,.cells v0 [vI 0,vI 0,vI 0,vN] 37,.cells u0 [.int .u8 (a0.fh.toNat:Int),.int .u8 (a0.fc.toNat:Int),.int .u8 (a0.fe.toNat:Int),.int .u8 (a0.ft.toNat:Int),v0_4] 27]) (fun ⟨v1,Q0,p0,Y0⟩ b4=>Cells b4 (bl [rr w 63 Tc vN (([]:List Tc).length) [],rr w 63 Tc p0 Q0.length Y0,.cells x0 [vI (((a0.fh % (3:UInt8)).toNat:Nat):Int),vI (((a0.fc % (4:UInt8)).toNat:Nat):Int),vI (((a0.fe % (3:UInt8)).toNat:Nat):Int),p0] 37,.cells v0 [vI 0,vI 0,vI 0,vN] 37,.cells u0 [.int .u8 (a0.fh.toNat:Int),.int .u8 (a0.fc.toNat:Int),.int .u8 (a0.fe.toNat:Int),.int .u8 (a0.ft.toNat:Int),v0_4] 27] ++ L) Y0 Q0) (fun ⟨v1,Q0,p0,Y0⟩=>(v1,Q0)) (0,X0,y0,Z0) K5 I1 E3 ?_
 rintro s7 ⟨v1,Q0,p0,Y0⟩ b4 x4 U0 X4 D3 h
 unfold aa_l2 at h
 try dsimp only at h
 refine Ak<|Ae<|Af rfl<|Bk 3 rfl<|AO rfl ((U0.memA .t4) 3 _ rfl)<|Ac (FV.rem8 (a:=a0.ft) (b:=(2:UInt8)) rfl rfl (by decide)) ?_
 have U7:=(a0.ft % (2:UInt8)).toNat_lt
 refine Ac (FV.convN (i:=(a0.ft % (2:UInt8)).toNat) underlying5 underlying3 rfl (by omega))<|Ac (Bm (i:=v1) (j:=(a0.ft % (2:UInt8)).toNat) rfl rfl)<|Aa<|AI rfl h (fun k4 h=>?_) (fun k4 h=>?_)
 refine Ap<|Ak<|Au<|du 13 fun b0 A1=>Rv 0 b0 rfl A1 (fun _=>Bo 3 rfl)<|Rx 1 57344 b0 rfl A1 (AZ rfl ((U0.memA .t2) 3 _ rfl))<|Rv 2 b0 rfl A1 (fun _=>Bo 0 rfl)<|Rx 3 63504 b0 rfl A1 (AZ rfl ((U0.memA .t2) 0 _ rfl))<|Rv 5 b0 rfl A1 (fun _=>Bo 1 rfl)<|Rx 6 63616 b0 rfl A1 (AZ rfl ((U0.memA .t2) 1 _ rfl))<|Rv 8 b0 rfl A1 (fun _=>Bo 2 rfl)<|Rx 9 64512 b0 rfl A1 (AZ rfl ((U0.memA .t2) 2 _ rfl))<|bk h fun H0 q1 h=>bk h fun I0 s1 h=>bk h fun J0 u1 h=>RD.mf (α:=Value × (List Value) × Value × (List Value) × Value × (List Value)) (fun ⟨E0,B1,F0,C1,G0,D1⟩=>[(2,vP u0),(4,vP v0),(5,vP x0),(9,vI ((v1:Nat):Int)),(97,p0),(100,G0),(103,F0),(106,E0)]) (fun ⟨E0,B1,F0,C1,G0,D1⟩=>[rr w 3 Int E0 J0.length B1,rr w 3 Int F0 I0.length C1,rr w 3 Int G0 H0.length D1,rr w 63 Tc vN (([]:List Tc).length) [],rr w 63 Tc p0 Q0.length Y0,.cells x0 [vI (((a0.fh % (3:UInt8)).toNat:Nat):Int),vI (((a0.fc % (4:UInt8)).toNat:Nat):Int),vI (((a0.fe % (3:UInt8)).toNat:Nat):Int),p0] 37,.cells v0 [vI 0,vI 0,vI 0,vN] 37,.cells u0 [.int .u8 (a0.fh.toNat:Int),.int .u8 (a0.fc.toNat:Int),.int .u8 (a0.fe.toNat:Int),.int .u8 (a0.ft.toNat:Int),v0_4] 27]) (fun ⟨E0,B1,F0,C1,G0,D1⟩ q2=>Cells q2 (bl [rr w 3 Int E0 J0.length B1,rr w 3 Int F0 I0.length C1,rr w 3 Int G0 H0.length D1,rr w 63 Tc vN (([]:List Tc).length) [],rr w 63 Tc p0 Q0.length Y0,.cells x0 [vI (((a0.fh % (3:UInt8)).toNat:Nat):Int),vI (((a0.fc % (4:UInt8)).toNat:Nat):Int),vI (((a0.fe % (3:UInt8)).toNat:Nat):Int),p0] 37,.cells v0 [vI 0,vI 0,vI 0,vN] 37,.cells u0 [.int .u8 (a0.fh.toNat:Int),.int .u8 (a0.fc.toNat:Int),.int .u8 (a0.fe.toNat:Int),.int .u8 (a0.ft.toNat:Int),v0_4] 27] ++ L) B1 (J0:List Int)/\Cells q2 (bl [rr w 3 Int E0 J0.length B1,rr w 3 Int F0 I0.length C1,rr w 3 Int G0 H0.length D1,rr w 63 Tc vN (([]:List Tc).length) [],rr w 63 Tc p0 Q0.length Y0,.cells x0 [vI (((a0.fh % (3:UInt8)).toNat:Nat):Int),vI (((a0.fc % (4:UInt8)).toNat:Nat):Int),vI (((a0.fe % (3:UInt8)).toNat:Nat):Int),p0] 37,.cells v0 [vI 0,vI 0,vI 0,vN] 37,.cells u0 [.int .u8 (a0.fh.toNat:Int),.int .u8 (a0.fc.toNat:Int),.int .u8 (a0.fe.toNat:Int),.int .u8 (a0.ft.toNat:Int),v0_4] 27] ++ L) C1 (I0:List Int)/\Cells q2 (bl [rr w 3 Int E0 J0.length B1,rr w 3 Int F0 I0.length C1,rr w 3 Int G0 H0.length D1,rr w 63 Tc vN (([]:List Tc).length) [],rr w 63 Tc p0 Q0.length Y0,.cells x0 [vI (((a0.fh % (3:UInt8)).toNat:Nat):Int),vI (((a0.fc % (4:UInt8)).toNat:Nat):Int),vI (((a0.fe % (3:UInt8)).toNat:Nat):Int),p0] 37,.cells v0 [vI 0,vI 0,vI 0,vN] 37,.cells u0 [.int .u8 (a0.fh.toNat:Int),.int .u8 (a0.fc.toNat:Int),.int .u8 (a0.fe.toNat:Int),.int .u8 (a0.ft.toNat:Int),v0_4] 27] ++ L) D1 (H0:List Int)) U0 5 2047 ?_ ?_
 rintro ⟨E0,B1,F0,C1,G0,D1⟩ q2 P1 Y4 ⟨x5,y5,z5⟩
 try dsimp only
 obtain ⟨Z6,z7,E5⟩:=St.rowV (α:=Int) P1 .t2
 obtain ⟨b7,A7,F5⟩:=St.rowV (α:=Int) P1 .t1
 obtain ⟨c7,B7,G5⟩:=St.rowV (α:=Int) P1 .hd
 refine Rv 11 b0 rfl A1 (fun _=>AX (vs:=[.string ⟨#[115,101,97]⟩,.bool true,G0,F0,E0]) (u:=.agg #[.string ⟨#[115,101,97]⟩,vI 0,G0,F0,E0,.bool true]) (e5 rfl rfl rfl rfl rfl) (fun p=>by rw [E5,F5,G5]; try kernel_rfl)) ?_
 have U1:=St.delS P1 .t2
 have G2:=St.delT P1 .t2
 have V3:=Rep.at_ (α:=Int) (v:=G0) (xs:=H0) U1 L (Bv (α:=Int) P1 .t2 z5 hL)
 have V1:=St.delS U1 .t1
 have H2:=St.delT U1 .t1
 have W3:=Rep.at_ (α:=Int) (v:=F0) (xs:=I0) V1 L (Bv (α:=Int) U1 .t1 (AL y5 G2) hL)
 have d3:=St.delS V1 .hd
 have Y1:=St.delT V1 .hd
 have X3:=Rep.at_ (α:=Int) (v:=E0) (xs:=J0) d3 L (Bv (α:=Int) V1 .hd (AL x5 (Tt G2 H2)) hL)
 obtain ⟨d7,C7,s6,_⟩:=Rep.sl (Az V3 (Tt H2 Y1))
 obtain ⟨g7,D7,u6,_⟩:=Rep.sl (Az W3 Y1)
 obtain ⟨j7,E7,v6,_⟩:=Rep.sl X3
 refine RD.nu 12 8191 b0 rfl .plain rfl (Ba (α:=Tc) (xs:=([(⟨⟨#[115,101,97]⟩,(0:Int),H0,I0,J0,true⟩:Tc)]:List Tc)) (vs:=[.agg #[.string ⟨#[115,101,97]⟩,vI 0,G0,F0,E0,.bool true]]) (ds' :=[.string ⟨#[115,101,97]⟩,vI 0,G0,F0,E0,.bool true]) rfl d3 jX rfl (e1 rfl) (by rw [s6,u6,v6]; try kernel_rfl) rfl) fun s8 v7 x2 I2=>?_
 have G3:=Tt H2 (Tt Y1 I2)
 refine bk h fun W6 A6 h=>?_
 have H3:=Tt Y4 (Tt G2 G3)
 refine By (i:=13) (rk b0) (RO.doesL (m' :=16383) (sk b0) rfl rfl .plain rfl (DoesL.app (α:=Tc) (ys:=([(⟨⟨#[115,101,97]⟩,(0:Int),H0,I0,J0,true⟩:Tc)]:List Tc)) A6 x2 (fun _ _=>.t2) jX rfl rfl (AL D3 H3) (Src.row (α:=Tc) x2 .hd (AE (cs:=[.string ⟨#[115,101,97]⟩,vI 0,G0,F0,E0,.bool true]) (xs:=(([(⟨⟨#[115,101,97]⟩,(0:Int),H0,I0,J0,true⟩:Tc)]:List Tc):List Tc)) x2 L (Ar (cs:=[.string ⟨#[115,101,97]⟩,vI 0,G0,F0,E0,.bool true]) (ds:=[]) (lr ⟨#[115,101,97]⟩ (0:Int) H0 (Az V3 G3) I0 (Az W3 (Tt Y1 I2)) J0 (Az X3 I2) true) (AR _ _))))) (fun Y2 t8 ⟨s4,y2,Z4,A5⟩=>?_))
 refine By (i:=14) (rk b0) (RO.val (m' :=32767) (sk b0) rfl .plain rfl (Bo 3 rfl) ?_)
 refine BB 15 65535 b0 rfl rfl .plain (BC (j:=3) (old:=[vI (((a0.fh % (3:UInt8)).toNat:Nat):Int),vI (((a0.fc % (4:UInt8)).toNat:Nat):Int),vI (((a0.fe % (3:UInt8)).toNat:Nat):Int),p0]) (news:=[Y2]) (new' :=[vI (((a0.fh % (3:UInt8)).toNat:Nat):Int),vI (((a0.fc % (4:UInt8)).toNat:Nat):Int),vI (((a0.fe % (3:UInt8)).toNat:Nat):Int),Y2]) y2 .t3 rfl rfl rfl (St.c1 (α:=Tc) y2 .t2) rfl rfl (o1 (St.o1 (α:=Tc) y2 .t2)) rfl) fun v8 A4 s3=>AH (dk b0)<|Ay<|Ao<|Af rfl<|Ac (Bg (i:=v1) (j:=1) rfl rfl (by omega))<|Ag rfl<|Aa ?_
 obtain ⟨B4,u3⟩:=AN A4 .d1
 exact x4 (v1 + 1,W6,Y2,s4) B4 (Tt X4 (Tt H3 (Tt Z4 (Tt s3 u3)))) (AL A5 (Tt s3 u3)) h
 intro M1
 refine RD.each [4,7,10] (rk b0) ⟨?_,?_,?_,trivial⟩
 refine RO.new (m' :=895) (sk b0) rfl .plain rfl (Does.mk (α:=Int) q1 U0 bs rfl) fun j2 g1 A0 V0=>?_
 have E1:=AE (cs:=(List.replicate (((a0.fh % (3:UInt8)).toNat:Nat):Int).toNat [vI 0]).flatten) (xs:=H0) A0 L (Cells.mk q1 rfl)
 refine RD.each [7,10] (rk b0) ⟨?_,?_,trivial⟩
 refine RO.new (m' :=1023) (sk b0) rfl .plain rfl (Does.mk (α:=Int) s1 A0 bs rfl) fun k2 j1 B0 M0=>?_
 have F1:=AE (cs:=(List.replicate (((a0.fc % (4:UInt8)).toNat:Nat):Int).toNat [vI 0]).flatten) (xs:=I0) B0 L (Cells.mk s1 rfl)
 refine RD.nu 10 2047 b0 rfl .plain rfl (Does.mk (α:=Int) u1 B0 bs rfl) fun p2 k1 C0 P0=>?_
 have p1:=AE (cs:=(List.replicate (((a0.fe % (3:UInt8)).toNat:Nat):Int).toNat [vI 0]).flatten) (xs:=J0) C0 L (Cells.mk u1 rfl)
 exact M1 ((.slice (some ⟨k1,0,none⟩) (((a0.fe % (3:UInt8)).toNat:Nat):Int).toNat (((a0.fe % (3:UInt8)).toNat:Nat):Int).toNat),(List.replicate (((a0.fe % (3:UInt8)).toNat:Nat):Int).toNat [vI 0]).flatten,(.slice (some ⟨j1,0,none⟩) (((a0.fc % (4:UInt8)).toNat:Nat):Int).toNat (((a0.fc % (4:UInt8)).toNat:Nat):Int).toNat),(List.replicate (((a0.fc % (4:UInt8)).toNat:Nat):Int).toNat [vI 0]).flatten,(.slice (some ⟨g1,0,none⟩) (((a0.fh % (3:UInt8)).toNat:Nat):Int).toNat (((a0.fh % (3:UInt8)).toNat:Nat):Int).toNat),(List.replicate (((a0.fh % (3:UInt8)).toNat:Nat):Int).toNat [vI 0]).flatten) C0 (Tt V0 (Tt M0 P0)) ⟨p1,(AL F1 P0),(AL E1 (Tt M0 P0))⟩
 refine RO.new (m' :=1919) (sk b0) rfl .plain rfl (Does.mk (α:=Int) u1 A0 bs rfl) fun p2 k1 C0 P0=>?_
 have p1:=AE (cs:=(List.replicate (((a0.fe % (3:UInt8)).toNat:Nat):Int).toNat [vI 0]).flatten) (xs:=J0) C0 L (Cells.mk u1 rfl)
 refine RD.nu 7 2047 b0 rfl .plain rfl (Does.mk (α:=Int) s1 C0 bs rfl) fun k2 j1 B0 M0=>?_
 have F1:=AE (cs:=(List.replicate (((a0.fc % (4:UInt8)).toNat:Nat):Int).toNat [vI 0]).flatten) (xs:=I0) B0 L (Cells.mk s1 rfl)
 obtain ⟨C4,J2⟩:=AN B0 (.a1 .d0)
 have I3:=Tt P0 (Tt M0 J2)
 exact M1 ((.slice (some ⟨k1,0,none⟩) (((a0.fe % (3:UInt8)).toNat:Nat):Int).toNat (((a0.fe % (3:UInt8)).toNat:Nat):Int).toNat),(List.replicate (((a0.fe % (3:UInt8)).toNat:Nat):Int).toNat [vI 0]).flatten,(.slice (some ⟨j1,0,none⟩) (((a0.fc % (4:UInt8)).toNat:Nat):Int).toNat (((a0.fc % (4:UInt8)).toNat:Nat):Int).toNat),(List.replicate (((a0.fc % (4:UInt8)).toNat:Nat):Int).toNat [vI 0]).flatten,(.slice (some ⟨g1,0,none⟩) (((a0.fh % (3:UInt8)).toNat:Nat):Int).toNat (((a0.fh % (3:UInt8)).toNat:Nat):Int).toNat),(List.replicate (((a0.fh % (3:UInt8)).toNat:Nat):Int).toNat [vI 0]).flatten) C4 (Tt V0 I3) ⟨(AL p1 (Tt M0 J2)),(AL F1 J2),(AL E1 I3)⟩
 refine RO.new (m' :=1007) (sk b0) rfl .plain rfl (Does.mk (α:=Int) s1 U0 bs rfl) fun k2 j1 B0 M0=>?_
 have F1:=AE (cs:=(List.replicate (((a0.fc % (4:UInt8)).toNat:Nat):Int).toNat [vI 0]).flatten) (xs:=I0) B0 L (Cells.mk s1 rfl)
 refine RD.each [4,10] (rk b0) ⟨?_,?_,trivial⟩
 refine RO.new (m' :=1023) (sk b0) rfl .plain rfl (Does.mk (α:=Int) q1 B0 bs rfl) fun j2 g1 A0 V0=>?_
 have E1:=AE (cs:=(List.replicate (((a0.fh % (3:UInt8)).toNat:Nat):Int).toNat [vI 0]).flatten) (xs:=H0) A0 L (Cells.mk q1 rfl)
 refine RD.nu 10 2047 b0 rfl .plain rfl (Does.mk (α:=Int) u1 A0 bs rfl) fun p2 k1 C0 P0=>?_
 have p1:=AE (cs:=(List.replicate (((a0.fe % (3:UInt8)).toNat:Nat):Int).toNat [vI 0]).flatten) (xs:=J0) C0 L (Cells.mk u1 rfl)
 obtain ⟨D4,K2⟩:=AN C0 (.a0 (.a1 .d0))
 have J3:=Tt V0 (Tt P0 K2)
 exact M1 ((.slice (some ⟨k1,0,none⟩) (((a0.fe % (3:UInt8)).toNat:Nat):Int).toNat (((a0.fe % (3:UInt8)).toNat:Nat):Int).toNat),(List.replicate (((a0.fe % (3:UInt8)).toNat:Nat):Int).toNat [vI 0]).flatten,(.slice (some ⟨j1,0,none⟩) (((a0.fc % (4:UInt8)).toNat:Nat):Int).toNat (((a0.fc % (4:UInt8)).toNat:Nat):Int).toNat),(List.replicate (((a0.fc % (4:UInt8)).toNat:Nat):Int).toNat [vI 0]).flatten,(.slice (some ⟨g1,0,none⟩) (((a0.fh % (3:UInt8)).toNat:Nat):Int).toNat (((a0.fh % (3:UInt8)).toNat:Nat):Int).toNat),(List.replicate (((a0.fh % (3:UInt8)).toNat:Nat):Int).toNat [vI 0]).flatten) D4 (Tt M0 J3) ⟨(AL p1 K2),(AL F1 J3),(AL E1 (Tt P0 K2))⟩
 refine RO.new (m' :=2031) (sk b0) rfl .plain rfl (Does.mk (α:=Int) u1 B0 bs rfl) fun p2 k1 C0 P0=>?_
 have p1:=AE (cs:=(List.replicate (((a0.fe % (3:UInt8)).toNat:Nat):Int).toNat [vI 0]).flatten) (xs:=J0) C0 L (Cells.mk u1 rfl)
 refine RD.nu 4 2047 b0 rfl .plain rfl (Does.mk (α:=Int) q1 C0 bs rfl) fun j2 g1 A0 V0=>?_
 have E1:=AE (cs:=(List.replicate (((a0.fh % (3:UInt8)).toNat:Nat):Int).toNat [vI 0]).flatten) (xs:=H0) A0 L (Cells.mk q1 rfl)
 obtain ⟨E4,M2⟩:=AN A0 (.a1 (.a1 .d0))
 have K3:=Tt P0 (Tt V0 M2)
 exact M1 ((.slice (some ⟨k1,0,none⟩) (((a0.fe % (3:UInt8)).toNat:Nat):Int).toNat (((a0.fe % (3:UInt8)).toNat:Nat):Int).toNat),(List.replicate (((a0.fe % (3:UInt8)).toNat:Nat):Int).toNat [vI 0]).flatten,(.slice (some ⟨j1,0,none⟩) (((a0.fc % (4:UInt8)).toNat:Nat):Int).toNat (((a0.fc % (4:UInt8)).toNat:Nat):Int).toNat),(List.replicate (((a0.fc % (4:UInt8)).toNat:Nat):Int).toNat [vI 0]).flatten,(.slice (some ⟨g1,0,none⟩) (((a0.fh % (3:UInt8)).toNat:Nat):Int).toNat (((a0.fh % (3:UInt8)).toNat:Nat):Int).toNat),(List.replicate (((a0.fh % (3:UInt8)).toNat:Nat):Int).toNat [vI 0]).flatten) E4 (Tt M0 K3) ⟨(AL p1 (Tt V0 M2)),(AL F1 K3),(AL E1 M2)⟩
 refine RO.new (m' :=1903) (sk b0) rfl .plain rfl (Does.mk (α:=Int) u1 U0 bs rfl) fun p2 k1 C0 P0=>?_
 have p1:=AE (cs:=(List.replicate (((a0.fe % (3:UInt8)).toNat:Nat):Int).toNat [vI 0]).flatten) (xs:=J0) C0 L (Cells.mk u1 rfl)
 refine RD.each [4,7] (rk b0) ⟨?_,?_,trivial⟩
 refine RO.new (m' :=1919) (sk b0) rfl .plain rfl (Does.mk (α:=Int) q1 C0 bs rfl) fun j2 g1 A0 V0=>?_
 have E1:=AE (cs:=(List.replicate (((a0.fh % (3:UInt8)).toNat:Nat):Int).toNat [vI 0]).flatten) (xs:=H0) A0 L (Cells.mk q1 rfl)
 refine RD.nu 7 2047 b0 rfl .plain rfl (Does.mk (α:=Int) s1 A0 bs rfl) fun k2 j1 B0 M0=>?_
 have F1:=AE (cs:=(List.replicate (((a0.fc % (4:UInt8)).toNat:Nat):Int).toNat [vI 0]).flatten) (xs:=I0) B0 L (Cells.mk s1 rfl)
 obtain ⟨F4,P2⟩:=AN B0 (.a2 .d0)
 have M3:=Tt V0 (Tt M0 P2)
 exact M1 ((.slice (some ⟨k1,0,none⟩) (((a0.fe % (3:UInt8)).toNat:Nat):Int).toNat (((a0.fe % (3:UInt8)).toNat:Nat):Int).toNat),(List.replicate (((a0.fe % (3:UInt8)).toNat:Nat):Int).toNat [vI 0]).flatten,(.slice (some ⟨j1,0,none⟩) (((a0.fc % (4:UInt8)).toNat:Nat):Int).toNat (((a0.fc % (4:UInt8)).toNat:Nat):Int).toNat),(List.replicate (((a0.fc % (4:UInt8)).toNat:Nat):Int).toNat [vI 0]).flatten,(.slice (some ⟨g1,0,none⟩) (((a0.fh % (3:UInt8)).toNat:Nat):Int).toNat (((a0.fh % (3:UInt8)).toNat:Nat):Int).toNat),(List.replicate (((a0.fh % (3:UInt8)).toNat:Nat):Int).toNat [vI 0]).flatten) F4 (Tt P0 M3) ⟨(AL p1 M3),(AL F1 P2),(AL E1 (Tt M0 P2))⟩
 refine RO.new (m' :=2031) (sk b0) rfl .plain rfl (Does.mk (α:=Int) s1 C0 bs rfl) fun k2 j1 B0 M0=>RD.nu 4 2047 b0 rfl .plain rfl (Does.mk (α:=Int) q1 B0 bs rfl) fun j2 g1 A0 V0=>?_
 obtain ⟨G4,Q2⟩:=AN A0 (.a2 (.a1 .d0))
 have P3:=Tt M0 (Tt V0 Q2)
 exact M1 ((.slice (some ⟨k1,0,none⟩) (((a0.fe % (3:UInt8)).toNat:Nat):Int).toNat (((a0.fe % (3:UInt8)).toNat:Nat):Int).toNat),(List.replicate (((a0.fe % (3:UInt8)).toNat:Nat):Int).toNat [vI 0]).flatten,(.slice (some ⟨j1,0,none⟩) (((a0.fc % (4:UInt8)).toNat:Nat):Int).toNat (((a0.fc % (4:UInt8)).toNat:Nat):Int).toNat),(List.replicate (((a0.fc % (4:UInt8)).toNat:Nat):Int).toNat [vI 0]).flatten,(.slice (some ⟨g1,0,none⟩) (((a0.fh % (3:UInt8)).toNat:Nat):Int).toNat (((a0.fh % (3:UInt8)).toNat:Nat):Int).toNat),(List.replicate (((a0.fh % (3:UInt8)).toNat:Nat):Int).toNat [vI 0]).flatten) G4 (Tt P0 P3) ⟨(AL p1 P3),(AL (AE (cs:=(List.replicate (((a0.fc % (4:UInt8)).toNat:Nat):Int).toNat [vI 0]).flatten) (xs:=I0) B0 L (Cells.mk s1 rfl)) (Tt V0 Q2)),(AL (AE (cs:=(List.replicate (((a0.fh % (3:UInt8)).toNat:Nat):Int).toNat [vI 0]).flatten) (xs:=H0) A0 L (Cells.mk q1 rfl)) Q2)⟩
 refine AT rfl ?_
 have h:=H5 _ h
 try dsimp only at h
 refine Ae<|Ac (AD rfl (U0.memA .t2))<|AW [vI (((a0.fh % (3:UInt8)).toNat:Nat):Int),vI (((a0.fc % (4:UInt8)).toNat:Nat):Int),vI (((a0.fe % (3:UInt8)).toNat:Nat):Int),p0] U0 .t3 (o4 rfl rfl rfl (St.o1 (α:=Tc) U0 .t1)) fun x8 z2 b5=>Aa<|Am rfl ?_
 have W1:=St.delS z2 .t1
 have I7:=St.delT z2 .t1
 have Q5:=Rep.at_ (α:=Tc) (v:=p0) (xs:=Q0) W1 L (Bv (α:=Tc) z2 .t1 (AL D3 b5) hL)
 refine Aq hb0 func26 rfl (.cons (.many (cs:=[vI (((a0.fh % (3:UInt8)).toNat:Nat):Int),vI (((a0.fc % (4:UInt8)).toNat:Nat):Int),vI (((a0.fe % (3:UInt8)).toNat:Nat):Int),p0]) rfl rfl (W1.memA .t2)) .nil) rfl ?_
 cases h
 exact ⟨W1.ag,fun p q=>⟨p0,rfl,W1.kd Q5 q⟩⟩
def aS_p (n:Nat) (a0:Ti) (a1:Int):Option Tf:=
  (aa_p n (⟨2,3,2,a0.ft,a0.fNums⟩:Ti) a1).bind fun b0=>some b0
theorem aS_c (n:Nat) {L w} (hL:hl L w) (a0:Ti) {v0_4:Value} (h0_4:Rep.R w L [v0_4] a0.fNums) {a1:Int}  {r:Tf} (h:aS_p n a0 a1 = some r) :
 Cl 22 #[.agg #[.int .u8 (a0.fh.toNat:Int),.int .u8 (a0.fc.toNat:Int),.int .u8 (a0.fe.toNat:Int),.int .u8 (a0.ft.toNat:Int),v0_4],vI a1] w (ak w fun w' u=>∃ v0_3:Value,u = .agg #[vI r.fh,vI r.fc,vI r.fe,v0_3]/\Rep.R w' L [v0_3] r.fu):=by
 unfold aS_p at h
 refine AC func22 rfl rfl rfl fun _ cs0 hb0=>Ae<|RG.bx (Ax w) rfl rfl fun H0 y0 k0 A0=>RG.nl [vI 0,vI 0,vI 0,vN] k0 fun I0 z0 p0 B0=>Aa<|Ae<|Bk 0 rfl<|RG.now .plain (BC (j:=0) (old:=[.int .u8 (a0.fh.toNat:Int),.int .u8 (a0.fc.toNat:Int),.int .u8 (a0.fe.toNat:Int),.int .u8 (a0.ft.toNat:Int),v0_4]) (news:=[.int .u8 2]) (new' :=[.int .u8 2,.int .u8 (a0.fc.toNat:Int),.int .u8 (a0.fe.toNat:Int),.int .u8 (a0.ft.toNat:Int),v0_4]) p0 .t1 rfl rfl rfl rfl rfl rfl (o1 rfl) rfl) fun J0 q0 C0=>Bk 1 rfl<|RG.now .plain (BC (j:=1) (old:=[.int .u8 2,.int .u8 (a0.fc.toNat:Int),.int .u8 (a0.fe.toNat:Int),.int .u8 (a0.ft.toNat:Int),v0_4]) (news:=[.int .u8 3]) (new' :=[.int .u8 2,.int .u8 3,.int .u8 (a0.fe.toNat:Int),.int .u8 (a0.ft.toNat:Int),v0_4]) q0 .t1 rfl rfl rfl rfl rfl rfl (o1 rfl) rfl) fun K0 s0 D0=>Bk 2 rfl<|RG.now .plain (BC (j:=2) (old:=[.int .u8 2,.int .u8 3,.int .u8 (a0.fe.toNat:Int),.int .u8 (a0.ft.toNat:Int),v0_4]) (news:=[.int .u8 2]) (new' :=[.int .u8 2,.int .u8 3,.int .u8 2,.int .u8 (a0.ft.toNat:Int),v0_4]) s0 .t1 rfl rfl rfl rfl rfl rfl (o1 rfl) rfl) fun M0 c0 E0=>Aa<|Ae<|Ac (AD rfl (c0.memA .t1))<|Af rfl<|bk h fun b0 x0 h=>jE (bd 26) rfl (e2 rfl rfl) (fun p q=>aa_c n (c0.hL hL q) (⟨2,3,2,a0.ft,a0.fNums⟩:Ti) (c0.km h0_4 q) x0) rfl fun P0 G0 v0 ⟨g0,hu_,j0⟩=>?_
 subst hu_
 obtain ⟨t0,F0⟩:=c0.agr v0
 refine AW [vI b0.fh,vI b0.fc,vI b0.fe,g0] t0 .hd (o4 rfl rfl rfl (Bd j0)) fun Q0 d0 u0=>Aa<|Am rfl<|Aq hb0 func22 rfl (.cons (.many (cs:=[vI b0.fh,vI b0.fc,vI b0.fe,g0]) rfl rfl (d0.memA .hd)) .nil) rfl ?_
 cases h
 exact ⟨d0.ag,fun p q=>⟨g0,rfl,d0.kd (Az j0 u0) q⟩⟩
def ce_p (n:Nat) (a0:Tf) (a1:List Int) (a2:Int):Option (Except Te (List (List Int))):=
  (aV_p n a0 a1 a2).bind fun y1=>exc y1 (fun c0=>(aj_p n c0).bind fun d0=>some (.ok d0)) (fun b0=>some (.error b0))
theorem ce_c (n:Nat) {L w} (hL:hl L w) (a0:Tf) {v0_3:Value} (h0_3:Rep.R w L [v0_3] a0.fu) {p0:Nat} (m0:∀ j9 v9,([vI a0.fh,vI a0.fc,vI a0.fe,v0_3]:List Value)[j9]? = some v9 -> w.cell? ((⟨p0,0,none⟩:Addr).add j9) = some v9) {a1:List Int} {v1_0:Value} (h1_0:Rep.R w L [v1_0] a1) {p1:Nat} (m1:∀ j9 v9,([v1_0]:List Value)[j9]? = some v9 -> w.cell? ((⟨p1,0,none⟩:Addr).add j9) = some v9) {a2:Int} {p2:Nat} (m2:∀ j9 v9,([vI a2]:List Value)[j9]? = some v9 -> w.cell? ((⟨p2,0,none⟩:Addr).add j9) = some v9)  {r:Except Te (List (List Int))} (h:ce_p n a0 a1 a2 = some r) :
 Cl 71 #[.pointer (some ⟨p0,0,none⟩),.pointer (some ⟨p1,0,none⟩),.pointer (some ⟨p2,0,none⟩)] w (aD w (fun (y:List (List Int)) w' u=>∃ v0_0:Value,u = v0_0/\Rep.R w' L [v0_0] y) (fun e=>.iface 138 (.agg #[vI e.fy])) r):=by
 unfold ce_p at h
 have hS0:=Ax w
 refine Bz func71 rfl rfl rfl fun _ cs0 hb0 hp0=>Ae<|Ag rfl<|Aa<|Ae<|Ac (AD rfl (fun j9 v9 h9=>hS0.ag.cell0 (m0 j9 v9 h9)))<|AO rfl ((fun j9 v9 h9=>hS0.ag.cell0 (m1 j9 v9 h9)) 0 _ rfl)<|AO rfl ((fun j9 v9 h9=>hS0.ag.cell0 (m2 j9 v9 h9)) 0 _ rfl)<|xk h (fun y0 hy1 h=>?_) (fun x0 hy1 h=>?_)
 refine Bi (fst:=[]) (cap:=[]) .plain (bd 72) rfl (e3 rfl rfl rfl) (fun p q=>aV_c n (hS0.hL hL q) a0 (Av h0_3 q) (Av h1_0 q) hy1) fun G0 g0=>?_
 obtain ⟨d0,z0⟩:=hS0.agr g0
 cases h
 exact AS hp0 func71 ⟨d0.ag,rfl⟩
 refine jE (bd 72) rfl (e3 rfl rfl rfl) (fun p q=>AP (aV_c n (hS0.hL hL q) a0 (Av h0_3 q) (Av h1_0 q) hy1)) rfl fun H0 F0 j0 ⟨C0,D0,hu_,q0,s0⟩=>?_
 subst hu_
 obtain ⟨b0,A0⟩:=hS0.agr j0
 refine bk h fun J0 u0 h=>jE (bd 73) rfl (e1 rfl) (fun p q=>aj_c n (b0.hL hL q) x0 (Av q0 q) (Av s0 q) u0) rfl fun I0 v0 k0 ⟨E0,hu_,t0⟩=>?_
 subst hu_
 obtain ⟨c0,B0⟩:=b0.agr k0
 refine Ag rfl<|Aa<|Am rfl<|AU hb0 func71 rfl rfl ?_
 cases h
 exact ⟨c0.ag,fun p q=>ay ⟨v0,rfl,c0.kd t0 q⟩⟩
def co_p (n:Nat) (a0:Tf) (a1:List Int) (a2:Int):Option ((List (List Int)) × Int):=
  (ce_p n a0 a1 a2).bind fun c0=>exc c0 (fun d0=>some (d0,(0:Int))) (fun b0=>some (([]:List (List Int)),b0.fy))
theorem co_c (n:Nat) {L w} (hL:hl L w) (a0:Tf) {v0_3:Value} (h0_3:Rep.R w L [v0_3] a0.fu) {a1:List Int} {v1_0:Value} (h1_0:Rep.R w L [v1_0] a1) {a2:Int}  {r:(List (List Int)) × Int} (h:co_p n a0 a1 a2 = some r) :
 Cl 23 #[.agg #[vI a0.fh,vI a0.fc,vI a0.fe,v0_3],v1_0,vI a2] w (ak w fun w' u=>∃ v0_0:Value,u = .tuple #[v0_0,vI r.2]/\Rep.R w' L [v0_0] r.1):=by
 unfold co_p at h
 refine AC func23 rfl rfl rfl fun _ cs0 hb0=>Ae<|RG.bx (Ax w) rfl rfl fun M1 g0 D0 B1=>RG.bx D0 rfl (Rep.c1 (AQ h1_0 D0)) fun V1 j0 M0 C1=>RG.bx M0 rfl rfl fun W1 k0 P0 D1=>Ag rfl<|Ag rfl<|Aa<|Ae<|Ac (Bw (vs:=[]) (us:=[vP g0,vP j0,vP k0]) ai (e3 rfl rfl rfl))<|Bq (fst:=[]) (cap:=[]) (vs:=[.func (.func 71) #[] #[vP g0,vP j0,vP k0]]) .plain (bd 70) func70 rfl rfl rfl rfl (e1 rfl) rfl fun x1 E0 J1=>Ae<|RG.nl [vN] P0 fun X1 p0 Q0 E1=>RG.nl [vI 0] Q0 fun Y1 d0 b0 F1=>Aa<|Ae<|Ac (Bw (vs:=[]) (us:=[vP p0,vP d0]) ai (e2 rfl rfl))<|RG.defer (fst:=[]) (cap:=[vP p0,vP d0]) (vs:=[]) rfl .plain rfl ai<|Aa<|Ae<|Af rfl<|xk h (fun s0 z0 h=>?_) (fun g2 z0 h=>?_)
 refine Bi (fst:=[]) (cap:=[vP g0,vP j0,vP k0]) .plain (bd 71) rfl ai (fun p q=>ce_c n (b0.hL hL q) a0 (b0.km h0_3 q) (ah q (b0.memA .t4)) (b0.km h1_0 q) (ah q (b0.memA .t3)) (ah q (b0.memA .t2)) z0) fun Z1 b1=>?_
 obtain ⟨R0,G1⟩:=b0.agr b1
 refine PN.callD (vs:=[]) (cap:=[vP p0,vP d0]) (bd 107) func107 rfl rfl rfl fun v1 g1 k1=>Ae<|RG.recover1 .plain g1 rfl<|Ag rfl<|Aa<|Ae<|Af rfl<|Ac (FV.neqI underlying20 rfl rfl)<|Aa<|Br rfl<|Ae<|Af rfl<|Ac (FV.assertT rfl rfl)<|Af rfl<|Ac (Ai rfl rfl)<|Ac (Ai rfl rfl)<|RG.nl [vI 0] R0 fun b2 s1 U0 H1=>AW [vI s0.fy] U0 .hd (o1 rfl) fun c2 u0 I1=>Ag rfl<|Aa<|Ak<|Ae<|Af rfl<|Ac (BD rfl)<|Aa<|Bp rfl<|Ap<|Ae<|Ag rfl<|Aa<|du 3 fun c0 A0=>Rv 0 c0 rfl A0 (fun _=>Aj rfl)<|Rv 1 c0 rfl A0 (fun _=>Bo 0 rfl)<|RD.mo (α:=Unit) (fun ()=>[(1,vP d0),(19,vI s0.fy)]) (fun ()=>[.cells d0 [vI 0] 49,.cells p0 [vN] 64,.cells k0 [vI a2] 3,.cells j0 [v1_0] 39,.cells g0 [vI a0.fh,vI a0.fc,vI a0.fe,v0_3] 37]) u0 1 15 ?_ ?_
 rintro ⟨⟩ d2 G0 y1
 try dsimp only
 refine BB 4 31 c0 rfl rfl .plain (AB (news:=[vI s0.fy]) G0 .hd rfl rfl rfl rfl rfl rfl (o1 rfl)) fun P1 q0 z1=>AH (dk c0)<|MX.fin rfl<|RT.leaveD1 k1 func107 rfl .nil<|Aq (u:=.tuple #[vN,vI s0.fy]) E0 func70 rfl (.cons (.one rfl rfl ((q0.memA .t1) 0 _ rfl)) (.cons (.one rfl rfl ((q0.memA .hd) 0 _ rfl)) .nil)) rfl<|Ac (Ai rfl rfl)<|Ac (Ai rfl rfl)<|Ag rfl<|Ag rfl<|Aa<|Am rfl ?_
 have p1:=Rep.nilAt (α:=List Int) q0 L
 refine Aq hb0 func23 rfl (.cons (.tmp rfl) (.cons (.tmp rfl) .nil)) rfl ?_
 cases h
 exact ⟨q0.ag,fun p q=>⟨vN,rfl,q0.kd p1 q⟩⟩
 intro C0
 refine RD.each [2,3] (rk c0) ⟨?_,?_,trivial⟩
 refine RO.val (m' :=7) (sk c0) rfl .plain rfl (AZ rfl ((u0.memA .hd) 0 _ rfl))<|BB 3 15 c0 rfl rfl .plain (AB (news:=[vN]) u0 .t2 rfl rfl rfl rfl rfl rfl (o1 rfl)) fun q1 v0 x0=>?_
 obtain ⟨H0,V0⟩:=AN v0 .d1
 exact C0 () H0 (Tt x0 V0)
 refine RO.now (m' :=11) (sk c0) rfl rfl .plain (AB (news:=[vN]) u0 .t2 rfl rfl rfl rfl rfl rfl (o1 rfl)) fun q1 v0 x0=>Rx 2 16 c0 rfl A0 (AZ rfl ((v0.memA .hd) 0 _ rfl)) ?_
 obtain ⟨I0,W0⟩:=AN v0 .d1
 exact C0 () I0 (Tt x0 W0)
 refine Bj (fst:=[]) (cap:=[vP g0,vP j0,vP k0]) .plain (bd 71) rfl ai (fun p q=>AP (ce_c n (b0.hL hL q) a0 (b0.km h0_3 q) (ah q (b0.memA .t4)) (b0.km h1_0 q) (ah q (b0.memA .t3)) (ah q (b0.memA .t2)) z0)) rfl fun Q1 B0 Z0 ⟨K1,hu_,y0⟩=>?_
 subst hu_
 obtain ⟨J0,A1⟩:=b0.agr Z0
 refine RG.now .plain (AB (news:=[B0]) J0 .t1 rfl rfl rfl (Rep.c1 y0) rfl rfl (o1 (Bd y0))) fun R1 K0 X0=>AW [vI 0] K0 .hd (o1 rfl) fun U1 t0 Y0=>Aa<|Am rfl<|RT.callD (vs:=[]) (cap:=[vP p0,vP d0]) (bd 107) func107 rfl rfl rfl fun u1 F0 j1=>Ae<|RG.recover0 .plain F0 rfl<|Ag rfl<|Aa<|Ae<|Af rfl<|Ac (FV.neqI0 underlying20 rfl rfl)<|Aa<|Bp rfl<|Ap<|MX.fin rfl<|RT.leaveD0 F0 j1 func107 rfl .nil<|Aq (u:=.tuple #[B0,vI 0]) E0 func70 rfl (.cons (.one rfl rfl ((t0.memA .t1) 0 _ rfl)) (.cons (.one rfl rfl ((t0.memA .hd) 0 _ rfl)) .nil)) rfl<|Ac (Ai rfl rfl)<|Ac (Ai rfl rfl)<|Ag rfl<|Ag rfl<|Aa<|Am rfl<|Aq hb0 func23 rfl (.cons (.tmp rfl) (.cons (.tmp rfl) .nil)) rfl ?_
 cases h
 exact ⟨t0.ag,fun p q=>⟨B0,rfl,t0.kd (Az y0 (Tt X0 Y0)) q⟩⟩
end Go.Proofs.YtibdeoeglcngoaaGreatDoor
