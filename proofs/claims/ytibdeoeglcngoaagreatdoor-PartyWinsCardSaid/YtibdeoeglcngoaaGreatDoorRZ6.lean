import Derived.Test.YtibdeoeglcngoaaGreatDoorRZ4
namespace Go.Proofs.YtibdeoeglcngoaaGreatDoor
open Go Go.RowKit Tryz
set_option maxRecDepth 4000
set_option maxHeartbeats 4000000

def bS_p (n:Nat) (a0:Tf) (a1:List Int) (a2:Int) (a3:Int) (a4:Int):Option (Except Td Ta):=
  (au_p n a0 a1 a2 a3 a4).bind fun y0=>exc y0 (fun b0=>(bc_p n b0).bind fun z0=>exc z0 (fun A0=>(dl (((b0.length:Nat):Int) - 1) 2).bind fun p0=>(idx b0 p0).bind fun q0=>(b0[b0.length / 2]?).bind fun s0=>(bc_p n ([q0,s0]:List Ta)).bind fun t0=>exc t0 (fun u0=>(bu_p n A0 u0).bind fun v0=>exc v0 (fun x0=>some (.ok x0)) (fun d0=>some (.error d0))) (fun c0=>some (.error c0))) (fun j0=>(dl (((b0.length:Nat):Int) - 1) 2).bind fun k0=>(idx b0 k0).bind fun _x45=>(b0[b0.length / 2]?).bind fun _x58=>some (.error j0))) (fun g0=>some (.error g0))
theorem bS_c (n:Nat) {L w} (hL:hl L w) (a0:Tf) {v0_3:Value} (h0_3:Rep.R w L [v0_3] a0.fq) {p0:Nat} (m0:∀ j9 v9,([vI a0.fh,vI a0.fc,vI a0.fe,v0_3]:List Value)[j9]? = some v9 -> w.cell? ((⟨p0,0,none⟩:Addr).add j9) = some v9) {a1:List Int} {v1_0:Value} (h1_0:Rep.R w L [v1_0] a1) {p1:Nat} (m1:∀ j9 v9,([v1_0]:List Value)[j9]? = some v9 -> w.cell? ((⟨p1,0,none⟩:Addr).add j9) = some v9) {a2:Int} {p2:Nat} (m2:∀ j9 v9,([vI a2]:List Value)[j9]? = some v9 -> w.cell? ((⟨p2,0,none⟩:Addr).add j9) = some v9) {a3:Int} {p3:Nat} (m3:∀ j9 v9,([vI a3]:List Value)[j9]? = some v9 -> w.cell? ((⟨p3,0,none⟩:Addr).add j9) = some v9) {a4:Int} {p4:Nat} (m4:∀ j9 v9,([vI a4]:List Value)[j9]? = some v9 -> w.cell? ((⟨p4,0,none⟩:Addr).add j9) = some v9)  {r:Except Td Ta} (h:bS_p n a0 a1 a2 a3 a4 = some r) :
 Cl 52 #[.pointer (some ⟨p0,0,none⟩),.pointer (some ⟨p1,0,none⟩),.pointer (some ⟨p2,0,none⟩),.pointer (some ⟨p3,0,none⟩),.pointer (some ⟨p4,0,none⟩)] w (aC w (fun (y:Ta) _ u=>u = .agg ((aa y)).toArray) (fun e=>.iface 138 (.agg #[vI e.fw])) r):=by
 unfold bS_p at h
 refine By func52 rfl rfl rfl fun _ cs0 hb0 hp0=>Ae<|RG.nl zL (Ax w) fun v3 y2 j0 Y2=>Aa<|Ae<|Ab (AE rfl (fun j9 v9 h9=>j0.ag.cell0 (m0 j9 v9 h9)))<|AK rfl ((fun j9 v9 h9=>j0.ag.cell0 (m1 j9 v9 h9)) 0 _ rfl)<|AK rfl ((fun j9 v9 h9=>j0.ag.cell0 (m2 j9 v9 h9)) 0 _ rfl)<|AK rfl ((fun j9 v9 h9=>j0.ag.cell0 (m3 j9 v9 h9)) 0 _ rfl)<|AK rfl ((fun j9 v9 h9=>j0.ag.cell0 (m4 j9 v9 h9)) 0 _ rfl)<|xk h (fun U2 G0 h=>?_) (fun q0 G0 h=>?_)
 refine Bg (fst:=[]) (cap:=[]) .plain (bd 53) rfl (e5 rfl rfl rfl rfl rfl) (fun p q=>Calls.erp (au_c n (j0.hL hL q) a0 (j0.km h0_3 q) (j0.km h1_0 q) G0)) fun B3 A1=>?_
 obtain ⟨s1,c3⟩:=j0.agr A1
 cases h
 exact AS hp0 func52 ⟨s1.ag,rfl⟩
 refine jE (bd 53) rfl (e5 rfl rfl rfl rfl rfl) (fun p q=>cg (b0:=w.heap.size) (AO (au_c n (j0.hL hL q) a0 (j0.km h0_3 q) (j0.km h1_0 q) G0)) q (Nat.le_trans j0.ag.size q.size)) rfl fun C3 u3 k3 ⟨t3,j1,b2,V0,D1⟩=>?_
 subst b2
 have g0:=cD j0 V0
 have d3:=eA j0 V0
 have x0:=AD (cs:=j1) (xs:=(q0:List Ta)) g0 L (cj D1)
 refine Af rfl<|Aa<|Ae<|Ac rfl ?_
 have s3:q0.length <= 4294967296:=St.rowLe (α:=Ta) g0 .hd
 obtain ⟨v2,C2,F1⟩:=St.rowV (α:=Ta) g0 .hd
 refine Ab (FV.lenV underlying101 rfl F1)<|Af rfl<|Aa<|Aj<|du 16 fun c0 d0=>Rv 0 c0 rfl d0 (fun _=>Ai rfl)<|xk h (fun V2 z0 h=>?_) (fun J0 z0 h=>?_)
 refine Rv 2 c0 rfl d0 (fun _=>Ai rfl)<|Rv 3 c0 rfl d0 (fun _=>Ai rfl)<|Rv 4 c0 rfl d0 (fun _=>FV.subI (i:=((q0.length:Nat):Int)) (j:=1) rfl rfl (by omega))<|bk h fun s2 Y1 h=>Rv 5 c0 rfl d0 (fun _=>FV.quoc (i:=((q0.length:Nat):Int) - 1) (j:=2) rfl rfl Y1)<|bk h fun u0 c2 h=>?_
 obtain ⟨J1,d2⟩:=aD c2
 obtain ⟨X0,D2,B0,Q0,K2,V1,P1⟩:=St.nth (α:=Ta) g0 .hd x0 d2
 obtain ⟨c1,E2,G1⟩:=Bp (α:=Ta) g0 .hd Q0
 obtain rfl:X0 = ⟨c1,0,none⟩:=by rw [G1] at B0; cases B0; rfl
 obtain rfl:=bo V1
 refine Rv 6 c0 rfl d0 (fun _=>Ba 16 (s2.toNat) rfl B0 rfl J1 Q0)<|Rx 7 122880 c0 rfl d0 (AE rfl P1)<|Rv 8 c0 rfl d0 (fun _=>Ai rfl)<|Rv 9 c0 rfl d0 (fun _=>Ai rfl)<|Rv 10 c0 rfl d0 (fun _=>FV.quoN (i:=q0.length) (j:=2) rfl rfl rfl (by omega))<|bk h fun s0 g2 h=>?_
 obtain ⟨Y0,F2,C0,R0,M2,W1,Q1⟩:=St.nth (α:=Ta) g0 .hd x0 g2
 obtain ⟨d1,G2,H1⟩:=Bp (α:=Ta) g0 .hd R0
 obtain rfl:Y0 = ⟨d1,0,none⟩:=by rw [H1] at C0; cases C0; rfl
 obtain rfl:=bo W1
 refine Rv 11 c0 rfl d0 (fun _=>Ba 16 (q0.length / 2) rfl C0 rfl rfl R0)<|Rx 12 122880 c0 rfl d0 (AE rfl Q1)<|RD.each [1,13] (rk c0) ⟨?_,?_,trivial⟩
 refine RO.callE (fst:=[]) (cap:=[]) rfl .plain (bd 55) rfl (e1 rfl) (fun p q=>bc_c n (g0.hL0 hL q) (Au (St.lend (α:=Ta) (L:=L) g0 .hd x0 hL) q) z0) fun D3 B1=>?_
 obtain ⟨u1,g3⟩:=g0.agr B1
 cases h
 exact AS hp0 func52 ⟨u1.ag,rfl⟩
 refine RO.new (m' :=16381) (sk c0) rfl .plain rfl (Be (α:=Ta) (xs:=([u0,s0]:List Ta)) (vs:=[.agg ((aa u0)).toArray,.agg ((aa s0)).toArray]) (ds' :=(aa u0 ++ aa s0)) rfl g0 cp rfl (e2 rfl rfl) (by kernel_rfl) rfl) fun E3 z2 y0 x1=>?_
 have q3:=AD (cs:=(aa u0 ++ aa s0)) (xs:=(([u0,s0]:List Ta):List Ta)) y0 L (Aq (cs:=(aa u0)) (ds:=(aa s0)) (aU u0.fN u0.fD) (Aq (cs:=(aa s0)) (ds:=[]) (aU s0.fN s0.fD) (AU _ _)))
 refine Bx (i:=1) (rk c0) (RO.callE (fst:=[]) (cap:=[]) rfl .plain (bd 55) rfl (e1 rfl) (fun p q=>bc_c n (y0.hL0 hL q) (Au (St.lend (α:=Ta) (L:=L) y0 .t1 (AG x0 x1) hL) q) z0) (fun F3 C1=>?_))
 obtain ⟨v1,j3⟩:=y0.agr C1
 cases h
 exact AS hp0 func52 ⟨v1.ag,rfl⟩
 refine RD.cq 1 3 114688 (.agg ((aa J0)).toArray) c0 rfl d0 (bd 55) rfl (e1 rfl) (fun p q=>AO (bc_c n (g0.hL0 hL q) (Au (St.lend (α:=Ta) (L:=L) g0 .hd x0 hL) q) z0)) rfl<|Rv 2 c0 rfl d0 (fun _=>Ai rfl)<|Rv 3 c0 rfl d0 (fun _=>Ai rfl)<|Rv 4 c0 rfl d0 (fun _=>FV.subI (i:=((q0.length:Nat):Int)) (j:=1) rfl rfl (by omega))<|bk h fun u2 Z1 h=>Rv 5 c0 rfl d0 (fun _=>FV.quoc (i:=((q0.length:Nat):Int) - 1) (j:=2) rfl rfl Z1)<|bk h fun v0 j2 h=>?_
 obtain ⟨K1,k2⟩:=aD j2
 obtain ⟨Z0,H2,D0,U0,P2,X1,R1⟩:=St.nth (α:=Ta) g0 .hd x0 k2
 obtain ⟨g1,I2,I1⟩:=Bp (α:=Ta) g0 .hd U0
 obtain rfl:Z0 = ⟨g1,0,none⟩:=by rw [I1] at D0; cases D0; rfl
 obtain rfl:=bo X1
 refine Rv 6 c0 rfl d0 (fun _=>Ba 16 (u2.toNat) rfl D0 rfl K1 U0)<|Rx 7 122880 c0 rfl d0 (AE rfl R1)<|Rv 8 c0 rfl d0 (fun _=>Ai rfl)<|Rv 9 c0 rfl d0 (fun _=>Ai rfl)<|Rv 10 c0 rfl d0 (fun _=>FV.quoN (i:=q0.length) (j:=2) rfl rfl rfl (by omega))<|bk h fun t0 q2 h=>?_
 obtain ⟨W0,A2,A0,P0,J2,U1,M1⟩:=St.nth (α:=Ta) g0 .hd x0 q2
 obtain ⟨b1,B2,E1⟩:=Bp (α:=Ta) g0 .hd P0
 obtain rfl:W0 = ⟨b1,0,none⟩:=by rw [E1] at A0; cases A0; rfl
 obtain rfl:=bo U1
 refine Rv 11 c0 rfl d0 (fun _=>Ba 16 (q0.length / 2) rfl A0 rfl rfl P0)<|Rx 12 122880 c0 rfl d0 (AE rfl M1)<|RD.nu 13 16383 c0 rfl .plain rfl (Be (α:=Ta) (xs:=([v0,t0]:List Ta)) (vs:=[.agg ((aa v0)).toArray,.agg ((aa t0)).toArray]) (ds' :=(aa v0 ++ aa t0)) rfl g0 cp rfl (e2 rfl rfl) (by kernel_rfl) rfl) fun x3 x2 k0 W2=>?_
 have M0:=AD (cs:=(aa v0 ++ aa t0)) (xs:=(([v0,t0]:List Ta):List Ta)) k0 L (Aq (cs:=(aa v0)) (ds:=(aa t0)) (aU v0.fN v0.fD) (Aq (cs:=(aa t0)) (ds:=[]) (aU t0.fN t0.fD) (AU _ _)))
 refine xk h (fun Q2 E0 h=>?_) (fun H0 E0 h=>?_)
 refine Bx (i:=14) (rk c0) (RO.callE (fst:=[]) (cap:=[]) rfl .plain (bd 55) rfl (e1 rfl) (fun p q=>bc_c n (k0.hL0 hL q) (Au (St.lend (α:=Ta) (L:=L) k0 .hd M0 hL) q) E0) (fun y3 y1=>?_))
 obtain ⟨k1,X2⟩:=k0.agr y1
 cases h
 exact AS hp0 func52 ⟨k1.ag,rfl⟩
 refine RD.cq 14 32767 98304 (.agg ((aa H0)).toArray) c0 rfl d0 (bd 55) rfl (e1 rfl) (fun p q=>AO (bc_c n (k0.hL0 hL q) (Au (St.lend (α:=Ta) (L:=L) k0 .hd M0 hL) q) E0)) rfl<|xk h (fun R2 F0 h=>?_) (fun I0 F0 h=>?_)
 refine Bx (i:=15) (rk c0) (RO.callE (fst:=[]) (cap:=[]) rfl .plain (bd 54) rfl (e2 rfl rfl) (fun p q=>bu_c n (k0.hL0 hL q) J0 H0 F0) (fun z3 z1=>?_))
 obtain ⟨q1,Z2⟩:=k0.agr z1
 cases h
 exact AS hp0 func52 ⟨q1.ag,rfl⟩
 refine RD.cq 15 65535 65536 (.agg ((aa I0)).toArray) c0 rfl d0 (bd 54) rfl (e2 rfl rfl) (fun p q=>AO (bu_c n (k0.hL0 hL q) J0 H0 F0)) rfl<|BA 16 131071 c0 rfl rfl .plain (AB (news:=(aa I0)) k0 .t2 rfl rfl rfl rfl rfl rfl (ao rfl)) fun A3 K0 b3=>AI (dk c0)<|Am rfl<|Ap hb0 func52 rfl (.cons (.many (cs:=(aa I0)) rfl rfl (K0.memA .t2)) .nil) rfl ?_
 cases h
 exact ⟨K0.ag,fun p q=>ax rfl⟩
def cg_p (n:Nat) (a0:Tf) (a1:List Int) (a2:Int) (a3:Int) (a4:Int):Option (Ta × Int):=
  (bS_p n a0 a1 a2 a3 a4).bind fun c0=>exc c0 (fun d0=>some (d0,(0:Int))) (fun b0=>some ((⟨(0,0,0,0,0,0,0,0),(0,0,0,0,0,0,0,0)⟩:Ta),b0.fw))
theorem cg_c (n:Nat) {L w} (hL:hl L w) (a0:Tf) {v0_3:Value} (h0_3:Rep.R w L [v0_3] a0.fq) {a1:List Int} {v1_0:Value} (h1_0:Rep.R w L [v1_0] a1) {a2:Int} {a3:Int} {a4:Int}  {r:Ta × Int} (h:cg_p n a0 a1 a2 a3 a4 = some r) :
 Cl 14 #[.agg #[vI a0.fh,vI a0.fc,vI a0.fe,v0_3],v1_0,vI a2,vI a3,vI a4] w (aj w fun _ u=>u = .tuple #[.agg ((aa r.1)).toArray,vI r.2]):=by
 unfold cg_p at h
 refine AC func14 rfl rfl rfl fun _ cs0 hb0=>Ae<|RG.bx (Ax w) rfl rfl fun b2 j0 F0 G1=>RG.bx F0 rfl (Rep.c1 (AQ h1_0 F0)) fun q2 p0 U0 J1=>RG.bx U0 rfl rfl fun s2 q0 V0 K1=>RG.bx V0 rfl rfl fun u2 s0 W0 M1=>RG.bx W0 rfl rfl fun w32 t0 X0 P1=>RG.nl zL X0 fun v2 K0 Y0 Q1=>Af rfl<|Aa<|Ae<|Ab (Bu (vs:=[]) (us:=[vP j0,vP p0,vP q0,vP s0,vP t0]) ah (e5 rfl rfl rfl rfl rfl))<|Bo (fst:=[]) (cap:=[]) (vs:=[.func (.func 52) #[] #[vP j0,vP p0,vP q0,vP s0,vP t0]]) .plain (bd 44) func44 rfl rfl rfl rfl (e1 rfl) rfl fun B1 I0 Z1=>Ae<|RG.nl zL Y0 fun x2 u0 Z0 R1=>RG.nl [vI 0] Z0 fun y2 d0 b0 U1=>?_
 refine Aa<|Ae<|Ab (Bu (vs:=[]) (us:=[vP u0,vP d0]) ah (e2 rfl rfl))<|RG.defer (fst:=[]) (cap:=[vP u0,vP d0]) (vs:=[]) rfl .plain rfl ah<|Aa<|Ae<|Ac rfl<|xk h (fun x0 C0 h=>?_) (fun g0 C0 h=>?_)
 refine Bg (fst:=[]) (cap:=[vP j0,vP p0,vP q0,vP s0,vP t0]) .plain (bd 52) rfl ah (fun p q=>bS_c n (b0.hL0 hL q) a0 (b0.k0 h0_3 q) (ac q (b0.memA .t7)) (b0.k0 h1_0 q) (ac q (b0.memA .t6)) (ac q (b0.memA .t5)) (ac q (b0.memA .t4)) (ac q (b0.memA .t3)) C0) fun z2 p1=>?_
 obtain ⟨b1,V1⟩:=b0.agr p1
 refine PN.callD (vs:=[]) (cap:=[vP u0,vP d0]) (bd 90) func90 rfl rfl rfl fun A1 q1 u1=>Ae<|RG.recover1 .plain q1 rfl<|Af rfl<|Aa<|Ae<|Ac rfl<|Ab (FV.neqI underlying20 rfl rfl)<|Aa<|Bs rfl<|Ae<|Ac rfl<|Ab (FV.assertT rfl rfl)<|Ac rfl<|Ab (Ah rfl rfl)<|Ab (Ah rfl rfl)<|RG.nl [vI 0] b1 fun A2 x1 d1 W1=>AV [vI x0.fw] d1 .hd (o1 rfl) fun B2 g1 X1=>Af rfl<|Aa<|Aj<|Ae<|Ac rfl<|Ab (BB rfl)<|Aa<|Bm rfl<|Ao<|Ae<|RG.nl zL g1 fun C2 y1 v0 Y1=>Aa<|du 3 fun c0 D0=>Rx 0 24 c0 rfl D0 (AE rfl (v0.memA .hd))<|Rv 1 c0 rfl D0 (fun _=>Bn 0 rfl)<|RD.mo (α:=Unit) (fun ()=>[(1,vP d0),(19,vI x0.fw)]) (fun ()=>[.cells d0 [vI 0] 49,.cells u0 zL 48,.cells K0 zL 48,.cells t0 [vI a4] 3,.cells s0 [vI a3] 3,.cells q0 [vI a2] 3,.cells p0 [v1_0] 39,.cells j0 [vI a0.fh,vI a0.fc,vI a0.fe,v0_3] 37]) v0 1 15 ?_ ?_
 rintro ⟨⟩ D2 M0 C1
 try dsimp only
 refine BA 4 31 c0 rfl rfl .plain (AB (news:=[vI x0.fw]) M0 .hd rfl rfl rfl rfl rfl rfl (o1 rfl)) fun c2 z0 D1=>AI (dk c0)<|MX.fin rfl<|RT.leaveD1 u1 func90 rfl .nil<|Ap (u:=.tuple #[.agg zM,vI x0.fw]) I0 func44 rfl (.cons (.many (cs:=zL) rfl rfl (z0.memA .t1)) (.cons (.one rfl rfl ((z0.memA .hd) 0 _ rfl)) .nil)) rfl<|Ab (Ah rfl rfl)<|Ab (Ah rfl rfl)<|AV zL z0 .t2 (ao rfl) fun g2 G0 E1=>Af rfl<|Aa<|Am rfl<|Ap hb0 func14 rfl (.cons (.many (cs:=zL) rfl rfl (G0.memA .t2)) (.cons (.tmp rfl) .nil)) rfl ?_
 cases h
 exact G0.gv
 intro E0
 refine RD.each [2,3] (rk c0) ⟨?_,?_,trivial⟩
 refine RO.val (m' :=7) (sk c0) rfl .plain rfl (AY rfl ((v0.memA .t1) 0 _ rfl))<|BA 3 15 c0 rfl rfl .plain (AB (news:=zL) v0 .t3 rfl rfl rfl rfl rfl rfl (ao rfl)) fun v1 y0 B0=>?_
 obtain ⟨P0,j1⟩:=AL y0 .d2
 exact E0 () P0 (Tt B0 j1)
 refine RO.now (m' :=11) (sk c0) rfl rfl .plain (AB (news:=zL) v0 .t3 rfl rfl rfl rfl rfl rfl (ao rfl)) fun v1 y0 B0=>Rx 2 16 c0 rfl D0 (AY rfl ((y0.memA .t1) 0 _ rfl)) ?_
 obtain ⟨Q0,k1⟩:=AL y0 .d2
 exact E0 () Q0 (Tt B0 k1)
 refine RG.callq' (v:=.agg ((aa g0)).toArray) (fst:=[]) (cap:=[vP j0,vP p0,vP q0,vP s0,vP t0]) .plain (bd 52) rfl ah (fun p q=>AO (bS_c n (b0.hL0 hL q) a0 (b0.k0 h0_3 q) (ac q (b0.memA .t7)) (b0.k0 h1_0 q) (ac q (b0.memA .t6)) (ac q (b0.memA .t5)) (ac q (b0.memA .t4)) (ac q (b0.memA .t3)) C0)) rfl<|AV (aa g0) b0 .t1 (ao rfl) fun j2 R0 F1=>AV [vI 0] R0 .hd (o1 rfl) fun k2 A0 H1=>Aa<|Am rfl<|RT.callD (vs:=[]) (cap:=[vP u0,vP d0]) (bd 90) func90 rfl rfl rfl fun z1 J0 s1=>Ae<|RG.recover0 .plain J0 rfl<|Af rfl<|Aa<|Ae<|Ac rfl<|Ab (FV.neqI0 underlying20 rfl rfl)<|Aa<|Bm rfl<|Ao<|MX.fin rfl<|RT.leaveD0 J0 s1 func90 rfl .nil<|Ap (u:=.tuple #[.agg ((aa g0)).toArray,vI 0]) I0 func44 rfl (.cons (.many (cs:=(aa g0)) rfl rfl (A0.memA .t1)) (.cons (.one rfl rfl ((A0.memA .hd) 0 _ rfl)) .nil)) rfl<|Ab (Ah rfl rfl)<|Ab (Ah rfl rfl)<|AV (aa g0) A0 .t2 (ao rfl) fun p2 H0 I1=>Af rfl<|Aa<|Am rfl<|Ap hb0 func14 rfl (.cons (.many (cs:=(aa g0)) rfl rfl (H0.memA .t2)) (.cons (.tmp rfl) .nil)) rfl ?_
 cases h
 exact H0.gv
structure Te where
  fy:Ta
  fC:Int
  fTied:Int
  deriving DecidableEq
instance:Rep Te:=Rep.via (β:=Ta × Int × Int) fun x=>(x.fy,x.fC,x.fTied)
def gA (x:Te):List Value:=[vU x.fy.fN.1,vU x.fy.fN.2.1,vU x.fy.fN.2.2.1,vU x.fy.fN.2.2.2.1,vU x.fy.fN.2.2.2.2.1,vU x.fy.fN.2.2.2.2.2.1,vU x.fy.fN.2.2.2.2.2.2.1,vU x.fy.fN.2.2.2.2.2.2.2,vU x.fy.fD.1,vU x.fy.fD.2.1,vU x.fy.fD.2.2.1,vU x.fy.fD.2.2.2.1,vU x.fy.fD.2.2.2.2.1,vU x.fy.fD.2.2.2.2.2.1,vU x.fy.fD.2.2.2.2.2.2.1,vU x.fy.fD.2.2.2.2.2.2.2,vI x.fC,vI x.fTied]
theorem dK {w:World} {L:List Nat} {cs:List Value} {x:Te} (h:Rep.R w L cs x):cs = [vU x.fy.fN.1,vU x.fy.fN.2.1,vU x.fy.fN.2.2.1,vU x.fy.fN.2.2.2.1,vU x.fy.fN.2.2.2.2.1,vU x.fy.fN.2.2.2.2.2.1,vU x.fy.fN.2.2.2.2.2.2.1,vU x.fy.fN.2.2.2.2.2.2.2,vU x.fy.fD.1,vU x.fy.fD.2.1,vU x.fy.fD.2.2.1,vU x.fy.fD.2.2.2.1,vU x.fy.fD.2.2.2.2.1,vU x.fy.fD.2.2.2.2.2.1,vU x.fy.fD.2.2.2.2.2.2.1,vU x.fy.fD.2.2.2.2.2.2.2,vI x.fC,vI x.fTied]:=by
  obtain ⟨c0,r0,rfl,h0,h⟩:=h
  obtain rfl:=bo (x:=x.fy) h0
  obtain ⟨c1,r1,rfl,h1,h⟩:=h
  have e1:c1 = [vI x.fC]:=h1; subst e1
  have e2:r1 = [vI x.fTied]:=h; subst e2
  rfl
theorem dz {w:World} {L:List Nat} (a0:Ta) (a1:Int) (a2:Int):Rep.R w L [vU a0.fN.1,vU a0.fN.2.1,vU a0.fN.2.2.1,vU a0.fN.2.2.2.1,vU a0.fN.2.2.2.2.1,vU a0.fN.2.2.2.2.2.1,vU a0.fN.2.2.2.2.2.2.1,vU a0.fN.2.2.2.2.2.2.2,vU a0.fD.1,vU a0.fD.2.1,vU a0.fD.2.2.1,vU a0.fD.2.2.2.1,vU a0.fD.2.2.2.2.1,vU a0.fD.2.2.2.2.2.1,vU a0.fD.2.2.2.2.2.2.1,vU a0.fD.2.2.2.2.2.2.2,vI a1,vI a2] (⟨a0,a1,a2⟩:Te):=⟨[vU a0.fN.1,vU a0.fN.2.1,vU a0.fN.2.2.1,vU a0.fN.2.2.2.1,vU a0.fN.2.2.2.2.1,vU a0.fN.2.2.2.2.2.1,vU a0.fN.2.2.2.2.2.2.1,vU a0.fN.2.2.2.2.2.2.2,vU a0.fD.1,vU a0.fD.2.1,vU a0.fD.2.2.1,vU a0.fD.2.2.2.1,vU a0.fD.2.2.2.2.1,vU a0.fD.2.2.2.2.2.1,vU a0.fD.2.2.2.2.2.2.1,vU a0.fD.2.2.2.2.2.2.2],[vI a1,vI a2],rfl,aU a0.fN a0.fD,⟨[vI a1],[vI a2],rfl,rfl,rfl⟩⟩
theorem il:ElT Tryz.prog 52 57 (Rep.size Te) 144 (.agg #[vW 0,vW 0,vW 0,vW 0,vW 0,vW 0,vW 0,vW 0,vW 0,vW 0,vW 0,vW 0,vW 0,vW 0,vW 0,vW 0,vI 0,vI 0]) [vW 0,vW 0,vW 0,vW 0,vW 0,vW 0,vW 0,vW 0,vW 0,vW 0,vW 0,vW 0,vW 0,vW 0,vW 0,vW 0,vI 0,vI 0]:=⟨underlying52,by kernel_rfl,rfl,rfl,rfl,rfl⟩
theorem ex_Ta {a b:Ta} (h0:a.fN.1 = b.fN.1) (h1:a.fN.2.1 = b.fN.2.1) (h2:a.fN.2.2.1 = b.fN.2.2.1) (h3:a.fN.2.2.2.1 = b.fN.2.2.2.1) (h4:a.fN.2.2.2.2.1 = b.fN.2.2.2.2.1) (h5:a.fN.2.2.2.2.2.1 = b.fN.2.2.2.2.2.1) (h6:a.fN.2.2.2.2.2.2.1 = b.fN.2.2.2.2.2.2.1) (h7:a.fN.2.2.2.2.2.2.2 = b.fN.2.2.2.2.2.2.2) (h8:a.fD.1 = b.fD.1) (h9:a.fD.2.1 = b.fD.2.1) (b0:a.fD.2.2.1 = b.fD.2.2.1) (c0:a.fD.2.2.2.1 = b.fD.2.2.2.1) (d0:a.fD.2.2.2.2.1 = b.fD.2.2.2.2.1) (g0:a.fD.2.2.2.2.2.1 = b.fD.2.2.2.2.2.1) (j0:a.fD.2.2.2.2.2.2.1 = b.fD.2.2.2.2.2.2.1) (k0:a.fD.2.2.2.2.2.2.2 = b.fD.2.2.2.2.2.2.2):a = b:=congr (congrArg Ta.mk (fL (a:=a.fN) (b:=b.fN) h0 h1 h2 h3 h4 h5 h6 h7)) (fL (a:=a.fD) (b:=b.fD) h8 h9 b0 c0 d0 g0 j0 k0)
theorem gu (a b:Ta) (p:World):(do eqGuard .eql 48 (.tmp 0) (.tmp 0) (.agg #[vU a.fN.1,vU a.fN.2.1,vU a.fN.2.2.1,vU a.fN.2.2.2.1,vU a.fN.2.2.2.2.1,vU a.fN.2.2.2.2.2.1,vU a.fN.2.2.2.2.2.2.1,vU a.fN.2.2.2.2.2.2.2,vU a.fD.1,vU a.fD.2.1,vU a.fD.2.2.1,vU a.fD.2.2.2.1,vU a.fD.2.2.2.2.1,vU a.fD.2.2.2.2.2.1,vU a.fD.2.2.2.2.2.2.1,vU a.fD.2.2.2.2.2.2.2]) (.agg #[vU b.fN.1,vU b.fN.2.1,vU b.fN.2.2.1,vU b.fN.2.2.2.1,vU b.fN.2.2.2.2.1,vU b.fN.2.2.2.2.2.1,vU b.fN.2.2.2.2.2.2.1,vU b.fN.2.2.2.2.2.2.2,vU b.fD.1,vU b.fD.2.1,vU b.fD.2.2.1,vU b.fD.2.2.2.1,vU b.fD.2.2.2.2.1,vU b.fD.2.2.2.2.2.1,vU b.fD.2.2.2.2.2.2.1,vU b.fD.2.2.2.2.2.2.2]); binOp .eql 48 (.agg #[vU a.fN.1,vU a.fN.2.1,vU a.fN.2.2.1,vU a.fN.2.2.2.1,vU a.fN.2.2.2.2.1,vU a.fN.2.2.2.2.2.1,vU a.fN.2.2.2.2.2.2.1,vU a.fN.2.2.2.2.2.2.2,vU a.fD.1,vU a.fD.2.1,vU a.fD.2.2.1,vU a.fD.2.2.2.1,vU a.fD.2.2.2.2.1,vU a.fD.2.2.2.2.2.1,vU a.fD.2.2.2.2.2.2.1,vU a.fD.2.2.2.2.2.2.2]) (.agg #[vU b.fN.1,vU b.fN.2.1,vU b.fN.2.2.1,vU b.fN.2.2.2.1,vU b.fN.2.2.2.2.1,vU b.fN.2.2.2.2.2.1,vU b.fN.2.2.2.2.2.2.1,vU b.fN.2.2.2.2.2.2.2,vU b.fD.1,vU b.fD.2.1,vU b.fD.2.2.1,vU b.fD.2.2.2.1,vU b.fD.2.2.2.2.1,vU b.fD.2.2.2.2.2.1,vU b.fD.2.2.2.2.2.2.1,vU b.fD.2.2.2.2.2.2.2]):Sem Value).run Tryz.prog p = .ok (.bool (decide (a = b))) p:=
  iR (ks:=[.int .u64,.int .u64,.int .u64,.int .u64,.int .u64,.int .u64,.int .u64,.int .u64,.int .u64,.int .u64,.int .u64,.int .u64,.int .u64,.int .u64,.int .u64,.int .u64]) (xs:=[vU a.fN.1,vU a.fN.2.1,vU a.fN.2.2.1,vU a.fN.2.2.2.1,vU a.fN.2.2.2.2.1,vU a.fN.2.2.2.2.2.1,vU a.fN.2.2.2.2.2.2.1,vU a.fN.2.2.2.2.2.2.2,vU a.fD.1,vU a.fD.2.1,vU a.fD.2.2.1,vU a.fD.2.2.2.1,vU a.fD.2.2.2.2.1,vU a.fD.2.2.2.2.2.1,vU a.fD.2.2.2.2.2.2.1,vU a.fD.2.2.2.2.2.2.2]) (ys:=[vU b.fN.1,vU b.fN.2.1,vU b.fN.2.2.1,vU b.fN.2.2.2.1,vU b.fN.2.2.2.2.1,vU b.fN.2.2.2.2.2.1,vU b.fN.2.2.2.2.2.2.1,vU b.fN.2.2.2.2.2.2.2,vU b.fD.1,vU b.fD.2.1,vU b.fD.2.2.1,vU b.fD.2.2.2.1,vU b.fD.2.2.2.2.1,vU b.fD.2.2.2.2.2.1,vU b.fD.2.2.2.2.2.2.1,vU b.fD.2.2.2.2.2.2.2]) (by kernel_rfl) (by kernel_rfl) (by kernel_rfl) rfl rfl ⟨fun h=>by
    simp only [aY,veq,Bool.and_eq_true,beq_iff_eq,and_true] at h
    obtain ⟨h0,h1,h2,h3,h4,h5,h6,h7,h8,h9,b0,c0,d0,g0,j0,k0⟩:=h
    exact ex_Ta (ai h0) (ai h1) (ai h2) (ai h3) (ai h4) (ai h5) (ai h6) (ai h7) (ai h8) (ai h9) (ai b0) (ai c0) (ai d0) (ai g0) (ai j0) (ai k0),fun h=>by subst h; simp [aY,veq]⟩ _ _ p
def aW_l1 (n:Nat) (p0:List Ta) (g0:Nat × (List Te) -> Option ((Except Td (List Te)) ⊕ (List Te))):Nat × (List Te) -> Option ((Except Td (List Te)) ⊕ (List Te))
  | (c0,b0)=>(if c0 < p0.length then (p0[c0]?).bind fun v0=>(aU_p n (1:Int) (2:Int)).bind fun A0=>exc A0 (fun B0=>(bu_p n B0 v0).bind fun C0=>exc C0 (fun j0=>(if 0 < b0.length then (b0[b0.length - 1]?).bind fun d0=>(if d0.fy = j0 then (chk (d0.fTied + 1)).bind fun u0=>(put b0 ((b0.length - 1:Nat):Int) (⟨d0.fy,((c0 + 1:Nat):Int),d0.fTied⟩:Te)).bind fun q0=>(q0[b0.length - 1]?).bind fun k0=>(put q0 ((b0.length - 1:Nat):Int) (⟨k0.fy,k0.fC,u0⟩:Te)).bind fun x0=>g0 (c0 + 1,x0) else (app b0 ([(⟨j0,((c0 + 1:Nat):Int),(1:Int)⟩:Te)]:List Te)).bind fun y0=>g0 (c0 + 1,y0)) else (app b0 ([(⟨j0,((c0 + 1:Nat):Int),(1:Int)⟩:Te)]:List Te)).bind fun z0=>g0 (c0 + 1,z0))) (fun t0=>some (.inl (.error t0)))) (fun s0=>some (.inl (.error s0))) else some (.inr b0))
def aW_l2 (_n:Nat) (j0:Int × Int × (List Ta) -> Option (List Ta)):Int × Int × (List Ta) -> Option (List Ta)
  | (d0,b0,c0)=>(if d0 < b0 then (idx c0 b0).bind fun q0=>(idx c0 d0).bind fun s0=>(put c0 ((d0.toNat:Nat):Int) q0).bind fun g0=>(idx g0 b0).bind fun _x209=>(put g0 ((b0.toNat:Nat):Int) s0).bind fun t0=>(chk (d0 + 1)).bind fun k0=>(chk (b0 - 1)).bind fun p0=>j0 (k0,p0,t0) else some c0)
def aW_p (n:Nat) (a0:Tf) (a1:List Int) (a2:Int) (a3:Int) (a4:Int):Option (Except Td (List Te)):=
  (au_p n a0 a1 a2 a3 a4).bind fun y1=>exc y1 (fun b0=>Option.bind (ap (aW_l2 n) n (0,((b0.length:Nat):Int) - 1,b0)) (fun d0=>thn (ap (aW_l1 n d0) n (0,([]:List Te))) (fun g0=>some (.ok g0)))) (fun c0=>some (.error c0))
theorem aW_c (n:Nat) {L w} (hL:hl L w) (a0:Tf) {v0_3:Value} (h0_3:Rep.R w L [v0_3] a0.fq) {p0:Nat} (m0:∀ j9 v9,([vI a0.fh,vI a0.fc,vI a0.fe,v0_3]:List Value)[j9]? = some v9 -> w.cell? ((⟨p0,0,none⟩:Addr).add j9) = some v9) {a1:List Int} {v1_0:Value} (h1_0:Rep.R w L [v1_0] a1) {p1:Nat} (m1:∀ j9 v9,([v1_0]:List Value)[j9]? = some v9 -> w.cell? ((⟨p1,0,none⟩:Addr).add j9) = some v9) {a2:Int} {p2:Nat} (m2:∀ j9 v9,([vI a2]:List Value)[j9]? = some v9 -> w.cell? ((⟨p2,0,none⟩:Addr).add j9) = some v9) {a3:Int} {p3:Nat} (m3:∀ j9 v9,([vI a3]:List Value)[j9]? = some v9 -> w.cell? ((⟨p3,0,none⟩:Addr).add j9) = some v9) {a4:Int} {p4:Nat} (m4:∀ j9 v9,([vI a4]:List Value)[j9]? = some v9 -> w.cell? ((⟨p4,0,none⟩:Addr).add j9) = some v9)  {r:Except Td (List Te)} (h:aW_p n a0 a1 a2 a3 a4 = some r) :
 Cl 62 #[.pointer (some ⟨p0,0,none⟩),.pointer (some ⟨p1,0,none⟩),.pointer (some ⟨p2,0,none⟩),.pointer (some ⟨p3,0,none⟩),.pointer (some ⟨p4,0,none⟩)] w (aC w (fun (y:List Te) w' u=>∃ v0_0:Value,u = v0_0/\Rep.R w' L [v0_0] y) (fun e=>.iface 138 (.agg #[vI e.fw])) r):=by
 unfold aW_p at h
 have hS0:=Ax w
 refine By func62 rfl rfl rfl fun _ cs0 hb0 hp0=>Ae<|Af rfl<|Aa<|Ae<|Ab (AE rfl (fun j9 v9 h9=>hS0.ag.cell0 (m0 j9 v9 h9)))<|AK rfl ((fun j9 v9 h9=>hS0.ag.cell0 (m1 j9 v9 h9)) 0 _ rfl)<|AK rfl ((fun j9 v9 h9=>hS0.ag.cell0 (m2 j9 v9 h9)) 0 _ rfl)<|AK rfl ((fun j9 v9 h9=>hS0.ag.cell0 (m3 j9 v9 h9)) 0 _ rfl)<|AK rfl ((fun j9 v9 h9=>hS0.ag.cell0 (m4 j9 v9 h9)) 0 _ rfl)<|xk h (fun F6 hy1 h=>?_) (fun K0 hy1 h=>?_)
 refine Bg (fst:=[]) (cap:=[]) .plain (bd 53) rfl (e5 rfl rfl rfl rfl rfl) (fun p q=>Calls.erp (au_c n (hS0.hL hL q) a0 (Au h0_3 q) (Au h1_0 q) hy1)) fun u7 M3=>?_
 obtain ⟨c3,I6⟩:=hS0.agr M3
 cases h
 exact AS hp0 func62 ⟨c3.ag,rfl⟩
 refine jE (bd 53) rfl (e5 rfl rfl rfl rfl rfl) (fun p q=>cg (b0:=w.heap.size) (AO (au_c n (hS0.hL hL q) a0 (Au h0_3 q) (Au h1_0 q) hy1)) q (Nat.le_trans hS0.ag.size q.size)) rfl fun v7 F0 W6 ⟨t7,D1,V4,v2,X3⟩=>?_
 subst V4
 have M0:=cD hS0 v2
 have J6:=eA hS0 v2
 refine Af rfl<|Aa<|Ae<|Ac rfl<|Bo (fst:=[]) (cap:=[]) (vs:=[F0]) .plain (bd 63) func63 rfl rfl rfl rfl (e1 rfl) rfl fun y6 V3 p7=>Ae<|Ac rfl ?_
 have b7:K0.length <= 4294967296:=St.rowLe (α:=Ta) M0 .hd
 obtain ⟨D5,Z5,k4⟩:=St.rowV (α:=Ta) M0 .hd
 refine Ab (FV.lenV underlying101 rfl k4)<|Ab (FV.subI (i:=((K0.length:Nat):Int)) (j:=1) rfl rfl (by omega))<|Af rfl<|Af rfl<|Aa<|Ar ?_
 obtain ⟨q7,C4,v4⟩:=ar h
 refine MX.lf (α:=Int × Int × (List Ta) × (List Value)) (fun ⟨y0,z0,u0,B0⟩=>[(0,F0),(2,vI y0),(3,vI z0)]) (fun ⟨y0,z0,u0,B0⟩=>[rr w 48 Ta F0 u0.length B0]) (fun ⟨y0,z0,u0,B0⟩ x2=>Cells x2 (bl [rr w 48 Ta F0 u0.length B0] ++ L) B0 u0) (fun ⟨y0,z0,u0,B0⟩=>(y0,z0,u0)) (0,((K0.length:Nat):Int) - 1,K0,D1) C4 M0 (AD (cs:=D1) (xs:=(K0:List Ta)) M0 L (cj X3)) ?_
 rintro F5 ⟨y0,z0,u0,B0⟩ x2 b3 C0 D3 R0 h
 unfold aW_l2 at h
 try dsimp only at h
 refine Aj<|Ae<|Ac rfl<|Ac rfl<|Ab (FV.lss (i:=y0) (j:=z0) rfl rfl)<|Aa<|AJ rfl h (fun Q2 h=>?_) (fun Q2 h=>?_)
 refine Ao<|Aj<|Ar<|du 13 fun j0 s0=>Rv 0 j0 rfl s0 (fun _=>Ai rfl)<|Rv 1 j0 rfl s0 (fun _=>Ai rfl)<|Rv 2 j0 rfl s0 (fun _=>Ai rfl)<|Rv 3 j0 rfl s0 (fun _=>Ai rfl)<|Rv 4 j0 rfl s0 (fun _=>Ai rfl)<|Rv 5 j0 rfl s0 (fun _=>Ai rfl)<|bk h fun z2 W4 h=>?_
 obtain ⟨x4,X4⟩:=aD W4
 obtain ⟨B2,Q5,v1,b2,t6,E4,z4⟩:=St.nth (α:=Ta) C0 .hd R0 X4
 obtain ⟨H2,R5,g4⟩:=Bp (α:=Ta) C0 .hd b2
 obtain rfl:B2 = ⟨H2,0,none⟩:=by rw [g4] at v1; cases v1; rfl
 obtain rfl:=bo E4
 refine Rv 6 j0 rfl s0 (fun _=>Ba 16 (z0.toNat) rfl v1 rfl x4 b2)<|Rx 7 61440 j0 rfl s0 (AE rfl z4)<|Rv 8 j0 rfl s0 (fun _=>Ai rfl)<|Rv 9 j0 rfl s0 (fun _=>Ai rfl)<|bk h fun A2 Y4 h=>?_
 obtain ⟨Z1,Z4⟩:=aD Y4
 obtain ⟨C2,U5,V0,A1,u6,F4,A4⟩:=St.nth (α:=Ta) C0 .hd R0 Z4
 obtain ⟨I2,V5,V1⟩:=Bp (α:=Ta) C0 .hd A1
 obtain rfl:C2 = ⟨I2,0,none⟩:=by rw [V1] at V0; cases V0; rfl
 obtain rfl:=bo F4
 refine Rv 10 j0 rfl s0 (fun _=>Ba 16 (y0.toNat) rfl V0 rfl Z1 A1)<|Rx 11 61440 j0 rfl s0 (AE rfl A4)<|Rv 12 j0 rfl s0 (fun _=>Ba 16 (y0.toNat) rfl V0 rfl Z1 A1)<|bk h fun V7 g5 h=>Bx (i:=13) (rk j0) (RO.acts (m' :=16383) (sk j0) rfl rfl .plain (Acts.set (α:=Ta) (i:=y0.toNat) g5 C0 V1 (fun _=>.hd) R0 rfl rfl rfl rfl (aU z2.fN z2.fD) rfl) (fun x7 ⟨v6,j1,E3,U1⟩=>?_))
 refine bk h fun U7 b5 h=>?_
 obtain ⟨y4,c5⟩:=aD b5
 obtain ⟨D2,W5,x1,c2,x6,G4,d7⟩:=St.nth (α:=Ta) j1 .hd U1 c5
 obtain ⟨J2,X5,W1⟩:=Bp (α:=Ta) j1 .hd c2
 obtain rfl:D2 = ⟨J2,0,none⟩:=by rw [W1] at x1; cases x1; rfl
 obtain rfl:=bo G4
 refine Bx (i:=14) (rk j0) (RO.val (m' :=32767) (sk j0) rfl .plain rfl (Ba 16 (z0.toNat) rfl x1 rfl y4 c2) ?_)
 refine bk h fun y5 j5 h=>Bx (i:=15) (rk j0) (RO.acts (m' :=65535) (sk j0) rfl rfl .plain (Acts.set (α:=Ta) (i:=z0.toNat) j5 j1 W1 (fun _=>.hd) U1 rfl rfl rfl rfl (aU A2.fN A2.fD) rfl) (fun y7 ⟨W2,g3,F3,W3⟩=>?_))
 refine AI (dk j0)<|Av<|Al<|Ac rfl<|bk h fun t5 Q4 h=>Ab (Br (i:=y0) (j:=1) rfl rfl Q4)<|Ac rfl<|bk h fun u5 R4 h=>Ab (FV.subc (i:=z0) (j:=1) rfl rfl R4)<|Af rfl<|Af rfl<|Aa<|b3 (t5,u5,y5,W2) g3 (Tt D3 (Tt E3 F3)) W3 h
 refine AR rfl ?_
 have h:=v4 _ h
 try dsimp only at h
 refine MX.fin rfl<|Ap (u:=.tuple #[]) V3 func63 rfl .nil rfl<|Aa<|Aj<|Ae<|Ac rfl ?_
 have Z6:u0.length <= 4294967296:=St.rowLe (α:=Ta) C0 .hd
 obtain ⟨C5,Y5,j4⟩:=St.rowV (α:=Ta) C0 .hd
 refine Ab (FV.lenV underlying101 rfl j4)<|Ac rfl<|Aa<|Ar ?_
 have E1:=C0.nilRow 57 (Rep.size Te)
 refine tn h fun s7 D4 I0=>MX.lf (α:=Nat × (List Te) × Value × (List Value)) (fun ⟨c0,g0,A0,E0⟩=>[(5,A0),(19,F0),(20,vI ((u0.length:Nat):Int)),(21,vI ((c0:Nat):Int))]) (fun ⟨c0,g0,A0,E0⟩=>[rr w 57 Te A0 g0.length E0,rr w 48 Ta F0 u0.length B0]) (fun ⟨c0,g0,A0,E0⟩ y2=>Cells y2 (bl [rr w 57 Te A0 g0.length E0,rr w 48 Ta F0 u0.length B0] ++ L) E0 g0) (fun ⟨c0,g0,A0,E0⟩=>(c0,g0)) (0,([]:List Te),vN,[]) D4 E1 (AD (cs:=[]) (xs:=([]:List Te)) E1 L (AU _ _)) ?_
 rintro G5 ⟨c0,g0,A0,E0⟩ y2 g1 G0 Q0 U0 h
 unfold aW_l1 at h
 try dsimp only at h
 refine Ae<|Ab (Bi (i:=c0) (j:=u0.length) rfl rfl)<|Aa<|Aj<|AJ rfl h (fun R2 h=>?_) (fun R2 h=>?_)
 refine Ao<|Aj<|Ar<|Ae<|Ac rfl<|bk h fun c1 d5 h=>?_
 obtain ⟨E2,b6,y1,g2,z6,H4,B4⟩:=St.nth (α:=Ta) G0 .t1 (AG R0 (Tt (St.nilRowT C0 57 (Rep.size Te)) Q0)) d5
 obtain ⟨K2,c6,q4⟩:=Bp (α:=Ta) G0 .t1 g2
 obtain rfl:E2 = ⟨K2,0,none⟩:=by rw [q4] at y1; cases y1; rfl
 obtain rfl:=bo H4
 refine Ab (Ba 16 c0 rfl y1 rfl rfl g2)<|Ab (AE rfl B4)<|RG.nl zL G0 fun z7 H5 j3 H1=>Af rfl<|AV (aa c1) j3 .hd (ao rfl) fun A7 v0 I1=>Aa<|Aj<|du 4 fun t0 b1=>xk h (fun G6 Y0 h=>?_) (fun d1 Y0 h=>?_)
 refine Rx 1 20 t0 rfl b1 (AE rfl (v0.memA .hd))<|RD.each [0,3] (rk t0) ⟨?_,?_,trivial⟩
 have h:=av h I0
 refine RO.callE (fst:=[]) (cap:=[]) rfl .plain (bd 48) rfl (e2 rfl rfl) (fun p q=>aU_c n (v0.hL0 hL q)  Y0) fun B7 P3=>?_
 obtain ⟨k3,K6⟩:=v0.agr P3
 cases h
 exact AS hp0 func62 ⟨k3.ag,rfl⟩
 refine RO.new (m' :=10) (sk t0) rfl .plain rfl (AA zL v0) fun C7 I5 F1 M6=>?_
 have h:=av h I0
 refine Bx (i:=0) (rk t0) (RO.callE (fst:=[]) (cap:=[]) rfl .plain (bd 48) rfl (e2 rfl rfl) (fun p q=>aU_c n (F1.hL0 hL q)  Y0) (fun D7 Q3=>?_))
 obtain ⟨q3,P6⟩:=F1.agr Q3
 cases h
 exact AS hp0 func62 ⟨q3.ag,rfl⟩
 refine RD.cq 0 1 20 (.agg ((aa d1)).toArray) t0 rfl b1 (bd 48) rfl (e2 rfl rfl) (fun p q=>AO (aU_c n (v0.hL0 hL q)  Y0)) rfl<|Rx 1 20 t0 rfl b1 (AE rfl (v0.memA .hd))<|xk h (fun H6 Z0 h=>?_) (fun d0 Z0 h=>?_)
 refine RD.each [2,3] (rk t0) ⟨?_,?_,trivial⟩
 have h:=av h I0
 refine RO.callE (fst:=[]) (cap:=[]) rfl .plain (bd 54) rfl (e2 rfl rfl) (fun p q=>bu_c n (v0.hL0 hL q) d1 c1 Z0) fun E7 R3=>?_
 obtain ⟨s3,Q6⟩:=v0.agr R3
 cases h
 exact AS hp0 func62 ⟨s3.ag,rfl⟩
 refine RO.new (m' :=11) (sk t0) rfl .plain rfl (AA zL v0) fun F7 J5 G1 R6=>?_
 have h:=av h I0
 refine Bx (i:=2) (rk t0) (RO.callE (fst:=[]) (cap:=[]) rfl .plain (bd 54) rfl (e2 rfl rfl) (fun p q=>bu_c n (G1.hL0 hL q) d1 c1 Z0) (fun G7 U3=>?_))
 obtain ⟨u3,U6⟩:=G1.agr U3
 cases h
 exact AS hp0 func62 ⟨u3.ag,rfl⟩
 refine RD.cq 2 7 16 (.agg ((aa d0)).toArray) t0 rfl b1 (bd 54) rfl (e2 rfl rfl) (fun p q=>AO (bu_c n (v0.hL0 hL q) d1 c1 Z0)) rfl<|RD.nu 3 15 t0 rfl .plain rfl (AA zL v0) fun H7 K5 v3 J1=>BA 4 31 t0 rfl rfl .plain (AB (news:=(aa d0)) v3 .hd rfl rfl rfl rfl rfl rfl (ao rfl)) fun I7 x0 K1=>AI (dk t0)<|Aj<|Ae<|Ac rfl ?_
 have c7:g0.length <= 4294967296:=St.rowLe (α:=Te) x0 .t2
 obtain ⟨E5,d6,s4⟩:=St.rowV (α:=Te) x0 .t2
 refine Ab (FV.lenV underlying52 rfl s4)<|Af rfl<|Aa<|Aj<|du 12 fun k0 q0=>Rv 0 k0 rfl q0 (fun _=>Ai rfl)<|Rv 1 k0 rfl q0 (fun _=>FV.gtrN (i:=g0.length) (j:=0) rfl rfl)<|Rv 2 k0 rfl q0 (fun _=>Ai rfl)<|RD.ifd (s:=33) rfl h (fun U2 h=>?_) (fun U2 h=>?_)
 refine Bv 3 15 k0 rfl q0 (.yes rfl rfl) (fun _=>Ai rfl) rfl<|Bv 4 31 k0 rfl q0 (.yes rfl rfl) (fun _=>Ai rfl) rfl<|Bv 5 63 k0 rfl q0 (.yes rfl rfl) (fun _=>FV.subN (i:=g0.length) (j:=1) rfl rfl (by omega) (by omega)) rfl<|bk h fun D0 s2 h=>?_
 have X0:=Tt H1 (Tt I1 (Tt J1 K1))
 have B1:=AG U0 X0
 obtain ⟨F2,g6,H0,W0,A6,I4,k2⟩:=St.nth (α:=Te) x0 .t2 B1 s2
 obtain ⟨M2,j6,X1⟩:=Bp (α:=Te) x0 .t2 W0
 obtain rfl:F2 = ⟨M2,0,none⟩:=by rw [X1] at H0; cases H0; rfl
 obtain rfl:=dK I4
 refine Bv 6 127 k0 rfl q0 (.yes rfl rfl) (fun _=>Ba 18 (g0.length - 1) rfl H0 rfl rfl W0) rfl<|Bv 7 255 k0 rfl q0 (.yes rfl rfl) (fun _=>Bn 0 rfl) rfl<|RD.val (i:=8) (m' :=511) (W:=3072) (tk k0) rfl q0 (.yes rfl rfl) (Bq (cs:=(aa D0.fy)) rfl rfl (aq k2 0 16)) rfl<|RD.val (i:=9) (m' :=1023) (W:=3072) (tk k0) rfl q0 (.yes rfl rfl) (AE rfl (x0.memA .hd)) rfl<|Bv 10 2047 k0 rfl q0 (.yes rfl rfl) (fun _=>FV.eqlV (v:=.agg ((aa D0.fy)).toArray) (u:=.agg ((aa d0)).toArray) rfl rfl (gu D0.fy d0)) rfl<|Rv 11 k0 rfl q0 (fun _=>FV.pick_t rfl rfl)<|AI (dk k0)<|AJ rfl h (fun V2 h=>?_) (fun V2 h=>?_)
 refine Ae<|Ac rfl<|Ac rfl<|Ab (FV.subN (i:=g0.length) (j:=1) rfl rfl (by omega) (by omega))<|Ac rfl<|Ac rfl<|Ab (FV.subN (i:=g0.length) (j:=1) rfl rfl (by omega) (by omega))<|Ac rfl<|Ab (Bd (i:=c0) (j:=1) rfl rfl (by omega))<|Ac rfl<|Ac rfl<|Ab (FV.subN (i:=g0.length) (j:=1) rfl rfl (by omega) (by omega))<|Ab (Ba 18 (g0.length - 1) rfl H0 rfl rfl W0)<|Bl 17 rfl<|AK rfl (k2 17 _ rfl)<|bk h fun C1 U4 h=>Ab (Br (i:=D0.fTied) (j:=1) rfl rfl U4)<|Ab (Ba 18 (g0.length - 1) rfl H0 rfl rfl W0)<|Bl 16 rfl ?_
 obtain ⟨k6,t4,X6,B6,J4,g7,c4⟩:=St.nthAt (α:=Te) x0 .t2 B1 s2 X1
 obtain rfl:=dK J4
 refine bk h fun W7 k5 h=>RG.acts' .plain (Acts.setPart (α:=Te) (i:=g0.length - 1) (tot:=16) (ds:=(gA D0)) (news:=[vI ((c0 + 1:Nat):Int)]) (full:=(aa D0.fy ++ ([vI ((c0 + 1:Nat):Int),vI D0.fTied]:List Value))) k5 x0 t4 (fun _=>.t2) B1 c4 rfl rfl rfl rfl rfl rfl (dz D0.fy ((c0 + 1:Nat):Int) D0.fTied) rfl (o1 rfl)) fun J7 ⟨C6,P0,G3,u1⟩=>bk h fun J0 u2 h=>?_
 obtain ⟨G2,p6,z1,j2,D6,K4,j7⟩:=St.nth (α:=Te) P0 .t2 u1 u2
 obtain ⟨P2,q6,Y1⟩:=Bp (α:=Te) P0 .t2 j2
 obtain rfl:G2 = ⟨P2,0,none⟩:=by rw [Y1] at z1; cases z1; rfl
 obtain rfl:=dK K4
 refine Ab (Ba 18 (g0.length - 1) rfl z1 rfl rfl j2)<|Bl 17 rfl ?_
 obtain ⟨s6,u4,Y6,E6,M4,k7,d4⟩:=St.nthAt (α:=Te) P0 .t2 u1 u2 Y1
 obtain rfl:=dK M4
 refine bk h fun z5 p5 h=>RG.acts' .plain (Acts.setPart (α:=Te) (i:=g0.length - 1) (tot:=17) (ds:=(gA J0)) (news:=[vI C1]) (full:=(aa J0.fy ++ ([vI J0.fC,vI C1]:List Value))) p5 P0 u4 (fun _=>.t2) u1 d4 rfl rfl rfl rfl rfl rfl (dz J0.fy J0.fC C1) rfl (o1 rfl)) fun K7 ⟨X2,x3,H3,Y3⟩=>Aa<|AR rfl<|Al<|Ab (Bd (i:=c0) (j:=1) rfl rfl (by omega))<|Ac rfl<|Aa ?_
 obtain ⟨y3,M1⟩:=AL x3 .d2
 exact g1 (c0 + 1,z5,A0,X2) y3 (Tt Q0 (Tt X0 (Tt G3 (Tt H3 M1)))) (AG Y3 M1) h
 refine Ao<|Al<|Ac rfl<|Ab (AE rfl (x0.memA .hd))<|Ac rfl<|Ab (Bd (i:=c0) (j:=1) rfl rfl (by omega))<|Ab (AX (vs:=[.agg ((aa d0)).toArray,vI ((c0 + 1:Nat):Int),vI 1]) (u:=.agg ((aa d0 ++ ([vI ((c0 + 1:Nat):Int),vI 1]:List Value))).toArray) (e3 rfl rfl rfl) (fun p=>by kernel_rfl))<|Ak .plain rfl (Be (α:=Te) (xs:=([(⟨d0,((c0 + 1:Nat):Int),(1:Int)⟩:Te)]:List Te)) (vs:=[.agg ((aa d0 ++ ([vI ((c0 + 1:Nat):Int),vI 1]:List Value))).toArray]) (ds' :=(aa d0 ++ ([vI ((c0 + 1:Nat):Int),vI 1]:List Value))) rfl x0 il rfl (e1 rfl) (by kernel_rfl) rfl) fun M7 M5 k1 P1=>bk h fun A5 q5 h=>RG.doesL .plain rfl (DoesL.app (α:=Te) (ys:=([(⟨d0,((c0 + 1:Nat):Int),(1:Int)⟩:Te)]:List Te)) q5 k1 (fun _ _=>.t3) il rfl rfl (AG U0 (Tt X0 P1)) (Src.row (α:=Te) k1 .hd (AD (cs:=(aa d0 ++ ([vI ((c0 + 1:Nat):Int),vI 1]:List Value))) (xs:=(([(⟨d0,((c0 + 1:Nat):Int),(1:Int)⟩:Te)]:List Te):List Te)) k1 L (Aq (cs:=(aa d0 ++ ([vI ((c0 + 1:Nat):Int),vI 1]:List Value))) (ds:=[]) (dz d0 ((c0 + 1:Nat):Int) (1:Int)) (AU _ _))))) fun v5 P7 ⟨Y2,z3,I3,Z3⟩=>Af rfl<|Aa<|Av<|Al<|Ab (Bd (i:=c0) (j:=1) rfl rfl (by omega))<|Ac rfl<|Aa ?_
 obtain ⟨A3,Q1⟩:=AL z3 .d3
 exact g1 (c0 + 1,A5,v5,Y2) A3 (Tt Q0 (Tt X0 (Tt P1 (Tt I3 Q1)))) (AG Z3 Q1) h
 refine AZ 2047 1 [(3,34),(4,35),(5,36),(6,37),(7,38),(8,39),(9,40),(10,41)] (F:=[(33,false)]) (U:=[]) k0 q0 (.cons rfl .nil) .nil ?_
 dsimp only [az,List.map]
 refine Rv 11 k0 rfl q0 (fun _=>AH rfl rfl)<|AI (dk k0)<|Bm rfl<|Ao<|Al<|Ac rfl<|Ab (AE rfl (x0.memA .hd))<|Ac rfl<|Ab (Bd (i:=c0) (j:=1) rfl rfl (by omega))<|Ab (AX (vs:=[.agg ((aa d0)).toArray,vI ((c0 + 1:Nat):Int),vI 1]) (u:=.agg ((aa d0 ++ ([vI ((c0 + 1:Nat):Int),vI 1]:List Value))).toArray) (e3 rfl rfl rfl) (fun p=>by kernel_rfl))<|Ak .plain rfl (Be (α:=Te) (xs:=([(⟨d0,((c0 + 1:Nat):Int),(1:Int)⟩:Te)]:List Te)) (vs:=[.agg ((aa d0 ++ ([vI ((c0 + 1:Nat):Int),vI 1]:List Value))).toArray]) (ds' :=(aa d0 ++ ([vI ((c0 + 1:Nat):Int),vI 1]:List Value))) rfl x0 il rfl (e1 rfl) (by kernel_rfl) rfl) fun Q7 P5 q1 J3=>bk h fun B5 s5 h=>?_
 have q2:=Tt H1 (Tt I1 (Tt J1 (Tt K1 J3)))
 refine RG.doesL .plain rfl (DoesL.app (α:=Te) (ys:=([(⟨d0,((c0 + 1:Nat):Int),(1:Int)⟩:Te)]:List Te)) s5 q1 (fun _ _=>.t3) il rfl rfl (AG U0 q2) (Src.row (α:=Te) q1 .hd (AD (cs:=(aa d0 ++ ([vI ((c0 + 1:Nat):Int),vI 1]:List Value))) (xs:=(([(⟨d0,((c0 + 1:Nat):Int),(1:Int)⟩:Te)]:List Te):List Te)) q1 L (Aq (cs:=(aa d0 ++ ([vI ((c0 + 1:Nat):Int),vI 1]:List Value))) (ds:=[]) (dz d0 ((c0 + 1:Nat):Int) (1:Int)) (AU _ _))))) fun x5 R7 ⟨Z2,B3,K3,b4⟩=>Af rfl<|Aa<|Av<|Al<|Ab (Bd (i:=c0) (j:=1) rfl rfl (by omega))<|Ac rfl<|Aa ?_
 obtain ⟨C3,R1⟩:=AL B3 .d3
 exact g1 (c0 + 1,B5,x5,Z2) C3 (Tt Q0 (Tt q2 (Tt K3 R1))) (AG b4 R1) h
 refine AR rfl ?_
 have h:=aB h I0
 try dsimp only at h
 refine Ae<|Ac rfl<|Af rfl<|Aa<|Am rfl ?_
 have s1:=St.delS G0 .hd
 have V6:=St.delT G0 .hd
 have P4:=Rep.at_ (α:=Te) (v:=A0) (xs:=g0) s1 L (Bt (α:=Te) G0 .hd U0 hL)
 refine AW hb0 func62 rfl rfl ?_
 cases h
 exact ⟨s1.ag,fun p q=>ax ⟨A0,rfl,s1.kd P4 q⟩⟩
def ci_p (n:Nat) (a0:Tf) (a1:List Int) (a2:Int) (a3:Int) (a4:Int):Option ((List Te) × Int):=
  (aW_p n a0 a1 a2 a3 a4).bind fun c0=>exc c0 (fun d0=>some (d0,(0:Int))) (fun b0=>some (([]:List Te),b0.fw))
theorem ci_c (n:Nat) {L w} (hL:hl L w) (a0:Tf) {v0_3:Value} (h0_3:Rep.R w L [v0_3] a0.fq) {a1:List Int} {v1_0:Value} (h1_0:Rep.R w L [v1_0] a1) {a2:Int} {a3:Int} {a4:Int}  {r:(List Te) × Int} (h:ci_p n a0 a1 a2 a3 a4 = some r) :
 Cl 16 #[.agg #[vI a0.fh,vI a0.fc,vI a0.fe,v0_3],v1_0,vI a2,vI a3,vI a4] w (aj w fun w' u=>∃ v0_0:Value,u = .tuple #[v0_0,vI r.2]/\Rep.R w' L [v0_0] r.1):=by
 unfold ci_p at h
 refine AC func16 rfl rfl rfl fun _ cs0 hb0=>Ae<|RG.bx (Ax w) rfl rfl fun W1 g0 F0 F1=>RG.bx F0 rfl (Rep.c1 (AQ h1_0 F0)) fun c2 j0 Q0 G1=>RG.bx Q0 rfl rfl fun d2 k0 R0 H1=>RG.bx R0 rfl rfl fun g2 p0 U0 I1=>RG.bx U0 rfl rfl fun w32 q0 V0 J1=>Af rfl<|Af rfl<|Aa<|Ae<|Ab (Bu (vs:=[]) (us:=[vP g0,vP j0,vP k0,vP p0,vP q0]) ah (e5 rfl rfl rfl rfl rfl))<|Bo (fst:=[]) (cap:=[]) (vs:=[.func (.func 62) #[] #[vP g0,vP j0,vP k0,vP p0,vP q0]]) .plain (bd 61) func61 rfl rfl rfl rfl (e1 rfl) rfl fun B1 G0 U1=>Ae<|RG.nl [vN] V0 fun j2 s0 W0 K1=>RG.nl [vI 0] W0 fun k2 d0 b0 M1=>Aa<|Ae<|Ab (Bu (vs:=[]) (us:=[vP s0,vP d0]) ah (e2 rfl rfl))<|RG.defer (fst:=[]) (cap:=[vP s0,vP d0]) (vs:=[]) rfl .plain rfl ah<|Aa<|Ae ?_
 refine Ac rfl<|xk h (fun u0 B0 h=>?_) (fun v2 B0 h=>?_)
 refine Bg (fst:=[]) (cap:=[vP g0,vP j0,vP k0,vP p0,vP q0]) .plain (bd 62) rfl ah (fun p q=>aW_c n (b0.hL hL q) a0 (b0.km h0_3 q) (ac q (b0.memA .t6)) (b0.km h1_0 q) (ac q (b0.memA .t5)) (ac q (b0.memA .t4)) (ac q (b0.memA .t3)) (ac q (b0.memA .t2)) B0) fun p2 p1=>?_
 obtain ⟨X0,P1⟩:=b0.agr p1
 refine PN.callD (vs:=[]) (cap:=[vP s0,vP d0]) (bd 104) func104 rfl rfl rfl fun A1 q1 u1=>Ae<|RG.recover1 .plain q1 rfl<|Af rfl<|Aa<|Ae<|Ac rfl<|Ab (FV.neqI underlying20 rfl rfl)<|Aa<|Bs rfl<|Ae<|Ac rfl<|Ab (FV.assertT rfl rfl)<|Ac rfl<|Ab (Ah rfl rfl)<|Ab (Ah rfl rfl)<|RG.nl [vI 0] X0 fun q2 y1 Y0 Q1=>AV [vI u0.fw] Y0 .hd (o1 rfl) fun s2 x0 R1=>Af rfl<|Aa<|Aj<|Ae<|Ac rfl<|Ab (BB rfl)<|Aa<|Bm rfl<|Ao<|Ae<|Af rfl<|Aa<|du 3 fun c0 C0=>Rv 0 c0 rfl C0 (fun _=>Ai rfl)<|Rv 1 c0 rfl C0 (fun _=>Bn 0 rfl)<|RD.mo (α:=Unit) (fun ()=>[(1,vP d0),(19,vI u0.fw)]) (fun ()=>[.cells d0 [vI 0] 49,.cells s0 [vN] 52,.cells q0 [vI a4] 3,.cells p0 [vI a3] 3,.cells k0 [vI a2] 3,.cells j0 [v1_0] 39,.cells g0 [vI a0.fh,vI a0.fc,vI a0.fe,v0_3] 37]) x0 1 15 ?_ ?_
 rintro ⟨⟩ u2 I0 C1
 try dsimp only
 refine BA 4 31 c0 rfl rfl .plain (AB (news:=[vI u0.fw]) I0 .hd rfl rfl rfl rfl rfl rfl (o1 rfl)) fun X1 t0 D1=>AI (dk c0)<|MX.fin rfl<|RT.leaveD1 u1 func104 rfl .nil<|Ap (u:=.tuple #[vN,vI u0.fw]) G0 func61 rfl (.cons (.one rfl rfl ((t0.memA .t1) 0 _ rfl)) (.cons (.one rfl rfl ((t0.memA .hd) 0 _ rfl)) .nil)) rfl<|Ab (Ah rfl rfl)<|Ab (Ah rfl rfl)<|Af rfl<|Af rfl<|Aa<|Am rfl ?_
 have v1:=Rep.nilAt (α:=Te) t0 L
 refine Ap hb0 func16 rfl (.cons (.tmp rfl) (.cons (.tmp rfl) .nil)) rfl ?_
 cases h
 exact ⟨t0.ag,fun p q=>⟨vN,rfl,t0.kd v1 q⟩⟩
 intro E0
 refine RD.each [2,3] (rk c0) ⟨?_,?_,trivial⟩
 refine RO.val (m' :=7) (sk c0) rfl .plain rfl (AY rfl ((x0.memA .hd) 0 _ rfl))<|BA 3 15 c0 rfl rfl .plain (AB (news:=[vN]) x0 .t2 rfl rfl rfl rfl rfl rfl (o1 rfl)) fun x1 y0 z0=>?_
 obtain ⟨J0,Z0⟩:=AL y0 .d1
 exact E0 () J0 (Tt z0 Z0)
 refine RO.now (m' :=11) (sk c0) rfl rfl .plain (AB (news:=[vN]) x0 .t2 rfl rfl rfl rfl rfl rfl (o1 rfl)) fun x1 y0 z0=>Rx 2 16 c0 rfl C0 (AY rfl ((y0.memA .hd) 0 _ rfl)) ?_
 obtain ⟨K0,b1⟩:=AL y0 .d1
 exact E0 () K0 (Tt z0 b1)
 refine Bj (fst:=[]) (cap:=[vP g0,vP j0,vP k0,vP p0,vP q0]) .plain (bd 62) rfl ah (fun p q=>AO (aW_c n (b0.hL hL q) a0 (b0.km h0_3 q) (ac q (b0.memA .t6)) (b0.km h1_0 q) (ac q (b0.memA .t5)) (ac q (b0.memA .t4)) (ac q (b0.memA .t3)) (ac q (b0.memA .t2)) B0)) rfl fun Y1 D0 k1 ⟨V1,hu_,A0⟩=>?_
 subst hu_
 obtain ⟨M0,E1⟩:=b0.agr k1
 refine RG.now .plain (AB (news:=[D0]) M0 .t1 rfl rfl rfl (Rep.c1 A0) rfl rfl (o1 (Bc A0))) fun Z1 P0 g1=>AV [vI 0] P0 .hd (o1 rfl) fun b2 v0 j1=>Aa<|Am rfl<|RT.callD (vs:=[]) (cap:=[vP s0,vP d0]) (bd 104) func104 rfl rfl rfl fun z1 H0 s1=>Ae<|RG.recover0 .plain H0 rfl<|Af rfl<|Aa<|Ae<|Ac rfl<|Ab (FV.neqI0 underlying20 rfl rfl)<|Aa<|Bm rfl<|Ao<|MX.fin rfl<|RT.leaveD0 H0 s1 func104 rfl .nil<|Ap (u:=.tuple #[D0,vI 0]) G0 func61 rfl (.cons (.one rfl rfl ((v0.memA .t1) 0 _ rfl)) (.cons (.one rfl rfl ((v0.memA .hd) 0 _ rfl)) .nil)) rfl<|Ab (Ah rfl rfl)<|Ab (Ah rfl rfl)<|Af rfl<|Af rfl<|Aa<|Am rfl<|Ap hb0 func16 rfl (.cons (.tmp rfl) (.cons (.tmp rfl) .nil)) rfl ?_
 cases h
 exact ⟨v0.ag,fun p q=>⟨D0,rfl,v0.kd (Ay A0 (Tt g1 j1)) q⟩⟩
def bD_l1 (n:Nat) (d0:List Ta) (v0:Ta) (j0:Int × Nat -> Option ((Except Td Ta) ⊕ Int)):Int × Nat -> Option ((Except Td Ta) ⊕ Int)
  | (g0,b0)=>(if b0 < d0.length then (d0[b0]?).bind fun s0=>(cj_p n s0 v0).bind fun c0=>(bn_p n c0.1 c0.2).bind fun t0=>exc t0 (fun u0=>(chk (1 + u0)).bind fun p0=>(chk (g0 + p0)).bind fun q0=>j0 (q0,b0 + 1)) (fun k0=>some (.inl (.error k0))) else some (.inr g0))
def bD_p (n:Nat) (a0:Tf) (a1:List Int) (a2:Int) (a3:Int) (a4:Int):Option (Except Td Ta):=
  (au_p n a0 a1 a2 a3 a4).bind fun q0=>exc q0 (fun b0=>(bc_p n b0).bind fun z0=>exc z0 (fun A0=>thn (ap (bD_l1 n b0 A0) n (0,0)) (fun B0=>(chk (2 * ((b0.length:Nat):Int))).bind fun p0=>(aU_p n B0 p0).bind fun s0=>exc s0 (fun t0=>(aU_p n (1:Int) (2:Int)).bind fun u0=>exc u0 (fun v0=>(bu_p n t0 v0).bind fun x0=>exc x0 (fun y0=>some (.ok y0)) (fun j0=>some (.error j0))) (fun g0=>some (.error g0))) (fun d0=>some (.error d0)))) (fun k0=>some (.error k0))) (fun c0=>some (.error c0))
theorem bD_c (n:Nat) {L w} (hL:hl L w) (a0:Tf) {v0_3:Value} (h0_3:Rep.R w L [v0_3] a0.fq) {p0:Nat} (m0:∀ j9 v9,([vI a0.fh,vI a0.fc,vI a0.fe,v0_3]:List Value)[j9]? = some v9 -> w.cell? ((⟨p0,0,none⟩:Addr).add j9) = some v9) {a1:List Int} {v1_0:Value} (h1_0:Rep.R w L [v1_0] a1) {p1:Nat} (m1:∀ j9 v9,([v1_0]:List Value)[j9]? = some v9 -> w.cell? ((⟨p1,0,none⟩:Addr).add j9) = some v9) {a2:Int} {p2:Nat} (m2:∀ j9 v9,([vI a2]:List Value)[j9]? = some v9 -> w.cell? ((⟨p2,0,none⟩:Addr).add j9) = some v9) {a3:Int} {p3:Nat} (m3:∀ j9 v9,([vI a3]:List Value)[j9]? = some v9 -> w.cell? ((⟨p3,0,none⟩:Addr).add j9) = some v9) {a4:Int} {p4:Nat} (m4:∀ j9 v9,([vI a4]:List Value)[j9]? = some v9 -> w.cell? ((⟨p4,0,none⟩:Addr).add j9) = some v9)  {r:Except Td Ta} (h:bD_p n a0 a1 a2 a3 a4 = some r) :
 Cl 64 #[.pointer (some ⟨p0,0,none⟩),.pointer (some ⟨p1,0,none⟩),.pointer (some ⟨p2,0,none⟩),.pointer (some ⟨p3,0,none⟩),.pointer (some ⟨p4,0,none⟩)] w (aC w (fun (y:Ta) _ u=>u = .agg ((aa y)).toArray) (fun e=>.iface 138 (.agg #[vI e.fw])) r):=by
 unfold bD_p at h
 refine By func64 rfl rfl rfl fun _ cs0 hb0 hp0=>Ae<|RG.nl zL (Ax w) fun Z2 I0 c0 G2=>Aa<|Ae<|Ab (AE rfl (fun j9 v9 h9=>c0.ag.cell0 (m0 j9 v9 h9)))<|AK rfl ((fun j9 v9 h9=>c0.ag.cell0 (m1 j9 v9 h9)) 0 _ rfl)<|AK rfl ((fun j9 v9 h9=>c0.ag.cell0 (m2 j9 v9 h9)) 0 _ rfl)<|AK rfl ((fun j9 v9 h9=>c0.ag.cell0 (m3 j9 v9 h9)) 0 _ rfl)<|AK rfl ((fun j9 v9 h9=>c0.ag.cell0 (m4 j9 v9 h9)) 0 _ rfl)<|xk h (fun B2 y0 h=>?_) (fun q0 y0 h=>?_)
 refine Bg (fst:=[]) (cap:=[]) .plain (bd 53) rfl (e5 rfl rfl rfl rfl rfl) (fun p q=>Calls.erp (au_c n (c0.hL hL q) a0 (c0.km h0_3 q) (c0.km h1_0 q) y0)) fun j3 H1=>?_
 obtain ⟨v1,P2⟩:=c0.agr H1
 cases h
 exact AS hp0 func64 ⟨v1.ag,rfl⟩
 refine jE (bd 53) rfl (e5 rfl rfl rfl rfl rfl) (fun p q=>cg (b0:=w.heap.size) (AO (au_c n (c0.hL hL q) a0 (c0.km h0_3 q) (c0.km h1_0 q) y0)) q (Nat.le_trans c0.ag.size q.size)) rfl fun t3 E0 U2 ⟨Y2,K0,Z1,U0,K1⟩=>?_
 subst Z1
 have k0:=cD c0 U0
 have Q2:=eA c0 U0
 have v0:=AD (cs:=K0) (xs:=(q0:List Ta)) k0 L (cj K1)
 refine Af rfl<|Aa<|Ae<|Ac rfl<|xk h (fun F2 D0 h=>?_) (fun t0 D0 h=>?_)
 refine Bg (fst:=[]) (cap:=[]) .plain (bd 55) rfl (e1 rfl) (fun p q=>bc_c n (k0.hL0 hL q) (Au (St.lend (α:=Ta) (L:=L) k0 .hd v0 hL) q) D0) fun u3 J1=>?_
 obtain ⟨x1,R2⟩:=k0.agr J1
 cases h
 exact AS hp0 func64 ⟨x1.ag,rfl⟩
 refine Bf (.agg ((aa t0)).toArray) (bd 55) rfl (e1 rfl) (fun p q=>AO (bc_c n (k0.hL0 hL q) (Au (St.lend (α:=Ta) (L:=L) k0 .hd v0 hL) q) D0)) rfl<|RG.nl zL k0 fun v3 J0 y1 C1=>AV (aa t0) y1 .hd (ao rfl) fun x3 u0 D1=>Af rfl<|Aa<|Aj<|Ae<|Ac rfl ?_
 have V2:q0.length <= 4294967296:=St.rowLe (α:=Ta) u0 .t1
 obtain ⟨k2,y2,Q1⟩:=St.rowV (α:=Ta) u0 .t1
 refine Ab (FV.lenV underlying101 rfl Q1)<|Ac rfl<|Aa<|Ar<|tn h fun W2 U1 Q0=>MX.lo (α:=Int × Nat) (fun ⟨s0,g0⟩=>[(5,vP I0),(6,E0),(7,vP J0),(8,vI s0),(19,E0),(20,vI ((q0.length:Nat):Int)),(21,vI ((g0:Nat):Int))]) (fun ⟨s0,g0⟩=>[.cells J0 (aa t0) 48,rr w 48 Ta E0 q0.length K0,.cells I0 zL 48]) (fun ⟨s0,g0⟩=>(s0,g0)) (0,0) U1 u0 ?_
 rintro q2 ⟨s0,g0⟩ y3 c1 d0 P0 h
 unfold bD_l1 at h
 try dsimp only at h
 refine Ae<|Ab (Bi (i:=g0) (j:=q0.length) rfl rfl)<|Aa<|Aj<|AJ rfl h (fun b1 h=>?_) (fun b1 h=>?_)
 refine Ao<|Aj<|Ar<|Ae<|bk h fun V0 b2 h=>?_
 obtain ⟨Y0,u2,x0,R0,z2,V1,R1⟩:=St.nth (α:=Ta) d0 .t1 (AG v0 (Tt C1 (Tt D1 P0))) b2
 obtain ⟨Z0,v2,M1⟩:=Bp (α:=Ta) d0 .t1 R0
 obtain rfl:Y0 = ⟨Z0,0,none⟩:=by rw [M1] at x0; cases x0; rfl
 obtain rfl:=bo V1
 refine Ab (Ba 16 g0 rfl x0 rfl rfl R0)<|Ab (AE rfl R1)<|RG.nl zL d0 fun b3 s2 g1 z1=>AV (aa V0) g1 .hd (ao rfl) fun c3 j0 A1=>Aa<|Al<|Ac rfl<|Ab (AE rfl (j0.memA .hd))<|Ab (AE rfl (j0.memA .t1))<|bk h fun W0 c2 h=>Bf (.tuple #[vI W0.1,vI W0.2]) (bd 35) rfl (e2 rfl rfl) (fun p q=>cj_c n (j0.hL0 hL q) V0 t0 c2) rfl<|Ab (Ah rfl rfl)<|Ab (Ah rfl rfl)<|xk h (fun A2 z0 h=>?_) (fun X0 z0 h=>?_)
 have h:=av h Q0
 refine Bg (fst:=[]) (cap:=[]) .plain (bd 65) rfl (e2 rfl rfl) (fun p q=>bn_c n (j0.hL0 hL q)  z0) fun d3 E1=>?_
 obtain ⟨j1,H2⟩:=j0.agr E1
 cases h
 exact AS hp0 func64 ⟨j1.ag,rfl⟩
 refine Bf (vI X0) (bd 65) rfl (e2 rfl rfl) (fun p q=>AO (bn_c n (j0.hL0 hL q)  z0)) rfl<|bk h fun d2 W1 h=>Ab (Br (i:=1) (j:=X0) rfl rfl W1)<|bk h fun g2 X1 h=>Ab (Br (i:=s0) (j:=d2) rfl rfl X1)<|Af rfl<|Aa<|Av<|Al<|Ab (Bd (i:=g0) (j:=1) rfl rfl (by omega))<|Ac rfl<|Aa ?_
 obtain ⟨k1,B1⟩:=AL j0 .d1
 exact c1 (g2,g0 + 1) k1 (Tt P0 (Tt z1 (Tt A1 B1))) h
 refine AR rfl ?_
 have h:=aB h Q0
 try dsimp only at h
 refine Ae<|Ac rfl<|Ac rfl ?_
 obtain ⟨j2,x2,P1⟩:=St.rowV (α:=Ta) d0 .t1
 refine Ab (FV.lenV underlying101 rfl P1)<|bk h fun X2 Y1 h=>Ab (FV.mulc (i:=2) (j:=((q0.length:Nat):Int)) rfl rfl Y1)<|xk h (fun C2 A0 h=>?_) (fun F0 A0 h=>?_)
 refine Bg (fst:=[]) (cap:=[]) .plain (bd 48) rfl (e2 rfl rfl) (fun p q=>aU_c n (d0.hL0 hL q)  A0) fun g3 F1=>?_
 obtain ⟨q1,I2⟩:=d0.agr F1
 cases h
 exact AS hp0 func64 ⟨q1.ag,rfl⟩
 refine Bf (.agg ((aa F0)).toArray) (bd 48) rfl (e2 rfl rfl) (fun p q=>AO (aU_c n (d0.hL0 hL q)  A0)) rfl<|xk h (fun D2 B0 h=>?_) (fun G0 B0 h=>?_)
 refine Bg (fst:=[]) (cap:=[]) .plain (bd 48) rfl (e2 rfl rfl) (fun p q=>aU_c n (d0.hL0 hL q)  B0) fun k3 G1=>?_
 obtain ⟨s1,J2⟩:=d0.agr G1
 cases h
 exact AS hp0 func64 ⟨s1.ag,rfl⟩
 refine Bf (.agg ((aa G0)).toArray) (bd 48) rfl (e2 rfl rfl) (fun p q=>AO (aU_c n (d0.hL0 hL q)  B0)) rfl<|xk h (fun E2 C0 h=>?_) (fun H0 C0 h=>?_)
 refine Bg (fst:=[]) (cap:=[]) .plain (bd 54) rfl (e2 rfl rfl) (fun p q=>bu_c n (d0.hL0 hL q) F0 G0 C0) fun q3 I1=>?_
 obtain ⟨u1,K2⟩:=d0.agr I1
 cases h
 exact AS hp0 func64 ⟨u1.ag,rfl⟩
 refine Bf (.agg ((aa H0)).toArray) (bd 54) rfl (e2 rfl rfl) (fun p q=>AO (bu_c n (d0.hL0 hL q) F0 G0 C0)) rfl<|AV (aa H0) d0 .t2 (ao rfl) fun s3 M0 M2=>Aa<|Am rfl<|Ap hb0 func64 rfl (.cons (.many (cs:=(aa H0)) rfl rfl (M0.memA .t2)) .nil) rfl ?_
 cases h
 exact ⟨M0.ag,fun p q=>ax rfl⟩
def cq_p (n:Nat) (a0:Tf) (a1:List Int) (a2:Int) (a3:Int) (a4:Int):Option (Ta × Int):=
  (bD_p n a0 a1 a2 a3 a4).bind fun c0=>exc c0 (fun d0=>some (d0,(0:Int))) (fun b0=>some ((⟨(0,0,0,0,0,0,0,0),(0,0,0,0,0,0,0,0)⟩:Ta),b0.fw))
theorem cq_c (n:Nat) {L w} (hL:hl L w) (a0:Tf) {v0_3:Value} (h0_3:Rep.R w L [v0_3] a0.fq) {a1:List Int} {v1_0:Value} (h1_0:Rep.R w L [v1_0] a1) {a2:Int} {a3:Int} {a4:Int}  {r:Ta × Int} (h:cq_p n a0 a1 a2 a3 a4 = some r) :
 Cl 18 #[.agg #[vI a0.fh,vI a0.fc,vI a0.fe,v0_3],v1_0,vI a2,vI a3,vI a4] w (aj w fun _ u=>u = .tuple #[.agg ((aa r.1)).toArray,vI r.2]):=by
 unfold cq_p at h
 refine AC func18 rfl rfl rfl fun _ cs0 hb0=>Ae<|RG.bx (Ax w) rfl rfl fun b2 j0 F0 G1=>RG.bx F0 rfl (Rep.c1 (AQ h1_0 F0)) fun q2 p0 U0 J1=>RG.bx U0 rfl rfl fun s2 q0 V0 K1=>RG.bx V0 rfl rfl fun u2 s0 W0 M1=>RG.bx W0 rfl rfl fun w32 t0 X0 P1=>RG.nl zL X0 fun v2 K0 Y0 Q1=>Af rfl<|Aa<|Ae<|Ab (Bu (vs:=[]) (us:=[vP j0,vP p0,vP q0,vP s0,vP t0]) ah (e5 rfl rfl rfl rfl rfl))<|Bo (fst:=[]) (cap:=[]) (vs:=[.func (.func 64) #[] #[vP j0,vP p0,vP q0,vP s0,vP t0]]) .plain (bd 44) func44 rfl rfl rfl rfl (e1 rfl) rfl fun B1 I0 Z1=>Ae<|RG.nl zL Y0 fun x2 u0 Z0 R1=>RG.nl [vI 0] Z0 fun y2 d0 b0 U1=>?_
 refine Aa<|Ae<|Ab (Bu (vs:=[]) (us:=[vP u0,vP d0]) ah (e2 rfl rfl))<|RG.defer (fst:=[]) (cap:=[vP u0,vP d0]) (vs:=[]) rfl .plain rfl ah<|Aa<|Ae<|Ac rfl<|xk h (fun x0 C0 h=>?_) (fun g0 C0 h=>?_)
 refine Bg (fst:=[]) (cap:=[vP j0,vP p0,vP q0,vP s0,vP t0]) .plain (bd 64) rfl ah (fun p q=>bD_c n (b0.hL0 hL q) a0 (b0.k0 h0_3 q) (ac q (b0.memA .t7)) (b0.k0 h1_0 q) (ac q (b0.memA .t6)) (ac q (b0.memA .t5)) (ac q (b0.memA .t4)) (ac q (b0.memA .t3)) C0) fun z2 p1=>?_
 obtain ⟨b1,V1⟩:=b0.agr p1
 refine PN.callD (vs:=[]) (cap:=[vP u0,vP d0]) (bd 90) func90 rfl rfl rfl fun A1 q1 u1=>Ae<|RG.recover1 .plain q1 rfl<|Af rfl<|Aa<|Ae<|Ac rfl<|Ab (FV.neqI underlying20 rfl rfl)<|Aa<|Bs rfl<|Ae<|Ac rfl<|Ab (FV.assertT rfl rfl)<|Ac rfl<|Ab (Ah rfl rfl)<|Ab (Ah rfl rfl)<|RG.nl [vI 0] b1 fun A2 x1 d1 W1=>AV [vI x0.fw] d1 .hd (o1 rfl) fun B2 g1 X1=>Af rfl<|Aa<|Aj<|Ae<|Ac rfl<|Ab (BB rfl)<|Aa<|Bm rfl<|Ao<|Ae<|RG.nl zL g1 fun C2 y1 v0 Y1=>Aa<|du 3 fun c0 D0=>Rx 0 24 c0 rfl D0 (AE rfl (v0.memA .hd))<|Rv 1 c0 rfl D0 (fun _=>Bn 0 rfl)<|RD.mo (α:=Unit) (fun ()=>[(1,vP d0),(19,vI x0.fw)]) (fun ()=>[.cells d0 [vI 0] 49,.cells u0 zL 48,.cells K0 zL 48,.cells t0 [vI a4] 3,.cells s0 [vI a3] 3,.cells q0 [vI a2] 3,.cells p0 [v1_0] 39,.cells j0 [vI a0.fh,vI a0.fc,vI a0.fe,v0_3] 37]) v0 1 15 ?_ ?_
 rintro ⟨⟩ D2 M0 C1
 try dsimp only
 refine BA 4 31 c0 rfl rfl .plain (AB (news:=[vI x0.fw]) M0 .hd rfl rfl rfl rfl rfl rfl (o1 rfl)) fun c2 z0 D1=>AI (dk c0)<|MX.fin rfl<|RT.leaveD1 u1 func90 rfl .nil<|Ap (u:=.tuple #[.agg zM,vI x0.fw]) I0 func44 rfl (.cons (.many (cs:=zL) rfl rfl (z0.memA .t1)) (.cons (.one rfl rfl ((z0.memA .hd) 0 _ rfl)) .nil)) rfl<|Ab (Ah rfl rfl)<|Ab (Ah rfl rfl)<|AV zL z0 .t2 (ao rfl) fun g2 G0 E1=>Af rfl<|Aa<|Am rfl<|Ap hb0 func18 rfl (.cons (.many (cs:=zL) rfl rfl (G0.memA .t2)) (.cons (.tmp rfl) .nil)) rfl ?_
 cases h
 exact G0.gv
 intro E0
 refine RD.each [2,3] (rk c0) ⟨?_,?_,trivial⟩
 refine RO.val (m' :=7) (sk c0) rfl .plain rfl (AY rfl ((v0.memA .t1) 0 _ rfl))<|BA 3 15 c0 rfl rfl .plain (AB (news:=zL) v0 .t3 rfl rfl rfl rfl rfl rfl (ao rfl)) fun v1 y0 B0=>?_
 obtain ⟨P0,j1⟩:=AL y0 .d2
 exact E0 () P0 (Tt B0 j1)
 refine RO.now (m' :=11) (sk c0) rfl rfl .plain (AB (news:=zL) v0 .t3 rfl rfl rfl rfl rfl rfl (ao rfl)) fun v1 y0 B0=>Rx 2 16 c0 rfl D0 (AY rfl ((y0.memA .t1) 0 _ rfl)) ?_
 obtain ⟨Q0,k1⟩:=AL y0 .d2
 exact E0 () Q0 (Tt B0 k1)
 refine RG.callq' (v:=.agg ((aa g0)).toArray) (fst:=[]) (cap:=[vP j0,vP p0,vP q0,vP s0,vP t0]) .plain (bd 64) rfl ah (fun p q=>AO (bD_c n (b0.hL0 hL q) a0 (b0.k0 h0_3 q) (ac q (b0.memA .t7)) (b0.k0 h1_0 q) (ac q (b0.memA .t6)) (ac q (b0.memA .t5)) (ac q (b0.memA .t4)) (ac q (b0.memA .t3)) C0)) rfl<|AV (aa g0) b0 .t1 (ao rfl) fun j2 R0 F1=>AV [vI 0] R0 .hd (o1 rfl) fun k2 A0 H1=>Aa<|Am rfl<|RT.callD (vs:=[]) (cap:=[vP u0,vP d0]) (bd 90) func90 rfl rfl rfl fun z1 J0 s1=>Ae<|RG.recover0 .plain J0 rfl<|Af rfl<|Aa<|Ae<|Ac rfl<|Ab (FV.neqI0 underlying20 rfl rfl)<|Aa<|Bm rfl<|Ao<|MX.fin rfl<|RT.leaveD0 J0 s1 func90 rfl .nil<|Ap (u:=.tuple #[.agg ((aa g0)).toArray,vI 0]) I0 func44 rfl (.cons (.many (cs:=(aa g0)) rfl rfl (A0.memA .t1)) (.cons (.one rfl rfl ((A0.memA .hd) 0 _ rfl)) .nil)) rfl<|Ab (Ah rfl rfl)<|Ab (Ah rfl rfl)<|AV (aa g0) A0 .t2 (ao rfl) fun p2 H0 I1=>Af rfl<|Aa<|Am rfl<|Ap hb0 func18 rfl (.cons (.many (cs:=(aa g0)) rfl rfl (H0.memA .t2)) (.cons (.tmp rfl) .nil)) rfl ?_
 cases h
 exact H0.gv
theorem ex_Te {a b:Te} (h0:a.fy.fN.1 = b.fy.fN.1) (h1:a.fy.fN.2.1 = b.fy.fN.2.1) (h2:a.fy.fN.2.2.1 = b.fy.fN.2.2.1) (h3:a.fy.fN.2.2.2.1 = b.fy.fN.2.2.2.1) (h4:a.fy.fN.2.2.2.2.1 = b.fy.fN.2.2.2.2.1) (h5:a.fy.fN.2.2.2.2.2.1 = b.fy.fN.2.2.2.2.2.1) (h6:a.fy.fN.2.2.2.2.2.2.1 = b.fy.fN.2.2.2.2.2.2.1) (h7:a.fy.fN.2.2.2.2.2.2.2 = b.fy.fN.2.2.2.2.2.2.2) (h8:a.fy.fD.1 = b.fy.fD.1) (h9:a.fy.fD.2.1 = b.fy.fD.2.1) (b0:a.fy.fD.2.2.1 = b.fy.fD.2.2.1) (c0:a.fy.fD.2.2.2.1 = b.fy.fD.2.2.2.1) (d0:a.fy.fD.2.2.2.2.1 = b.fy.fD.2.2.2.2.1) (g0:a.fy.fD.2.2.2.2.2.1 = b.fy.fD.2.2.2.2.2.1) (j0:a.fy.fD.2.2.2.2.2.2.1 = b.fy.fD.2.2.2.2.2.2.1) (k0:a.fy.fD.2.2.2.2.2.2.2 = b.fy.fD.2.2.2.2.2.2.2) (p0:a.fC = b.fC) (q0:a.fTied = b.fTied):a = b:=congr (congr (congrArg Te.mk (ex_Ta (a:=a.fy) (b:=b.fy) h0 h1 h2 h3 h4 h5 h6 h7 h8 h9 b0 c0 d0 g0 j0 k0)) p0) q0
theorem eqlD_57 (a b:Te) (p:World):(do eqGuard .eql 57 (.tmp 0) (.tmp 0) (.agg #[vU a.fy.fN.1,vU a.fy.fN.2.1,vU a.fy.fN.2.2.1,vU a.fy.fN.2.2.2.1,vU a.fy.fN.2.2.2.2.1,vU a.fy.fN.2.2.2.2.2.1,vU a.fy.fN.2.2.2.2.2.2.1,vU a.fy.fN.2.2.2.2.2.2.2,vU a.fy.fD.1,vU a.fy.fD.2.1,vU a.fy.fD.2.2.1,vU a.fy.fD.2.2.2.1,vU a.fy.fD.2.2.2.2.1,vU a.fy.fD.2.2.2.2.2.1,vU a.fy.fD.2.2.2.2.2.2.1,vU a.fy.fD.2.2.2.2.2.2.2,vI a.fC,vI a.fTied]) (.agg #[vU b.fy.fN.1,vU b.fy.fN.2.1,vU b.fy.fN.2.2.1,vU b.fy.fN.2.2.2.1,vU b.fy.fN.2.2.2.2.1,vU b.fy.fN.2.2.2.2.2.1,vU b.fy.fN.2.2.2.2.2.2.1,vU b.fy.fN.2.2.2.2.2.2.2,vU b.fy.fD.1,vU b.fy.fD.2.1,vU b.fy.fD.2.2.1,vU b.fy.fD.2.2.2.1,vU b.fy.fD.2.2.2.2.1,vU b.fy.fD.2.2.2.2.2.1,vU b.fy.fD.2.2.2.2.2.2.1,vU b.fy.fD.2.2.2.2.2.2.2,vI b.fC,vI b.fTied]); binOp .eql 57 (.agg #[vU a.fy.fN.1,vU a.fy.fN.2.1,vU a.fy.fN.2.2.1,vU a.fy.fN.2.2.2.1,vU a.fy.fN.2.2.2.2.1,vU a.fy.fN.2.2.2.2.2.1,vU a.fy.fN.2.2.2.2.2.2.1,vU a.fy.fN.2.2.2.2.2.2.2,vU a.fy.fD.1,vU a.fy.fD.2.1,vU a.fy.fD.2.2.1,vU a.fy.fD.2.2.2.1,vU a.fy.fD.2.2.2.2.1,vU a.fy.fD.2.2.2.2.2.1,vU a.fy.fD.2.2.2.2.2.2.1,vU a.fy.fD.2.2.2.2.2.2.2,vI a.fC,vI a.fTied]) (.agg #[vU b.fy.fN.1,vU b.fy.fN.2.1,vU b.fy.fN.2.2.1,vU b.fy.fN.2.2.2.1,vU b.fy.fN.2.2.2.2.1,vU b.fy.fN.2.2.2.2.2.1,vU b.fy.fN.2.2.2.2.2.2.1,vU b.fy.fN.2.2.2.2.2.2.2,vU b.fy.fD.1,vU b.fy.fD.2.1,vU b.fy.fD.2.2.1,vU b.fy.fD.2.2.2.1,vU b.fy.fD.2.2.2.2.1,vU b.fy.fD.2.2.2.2.2.1,vU b.fy.fD.2.2.2.2.2.2.1,vU b.fy.fD.2.2.2.2.2.2.2,vI b.fC,vI b.fTied]):Sem Value).run Tryz.prog p = .ok (.bool (decide (a = b))) p:=
  iR (ks:=[.int .u64,.int .u64,.int .u64,.int .u64,.int .u64,.int .u64,.int .u64,.int .u64,.int .u64,.int .u64,.int .u64,.int .u64,.int .u64,.int .u64,.int .u64,.int .u64,.int .i64,.int .i64]) (xs:=[vU a.fy.fN.1,vU a.fy.fN.2.1,vU a.fy.fN.2.2.1,vU a.fy.fN.2.2.2.1,vU a.fy.fN.2.2.2.2.1,vU a.fy.fN.2.2.2.2.2.1,vU a.fy.fN.2.2.2.2.2.2.1,vU a.fy.fN.2.2.2.2.2.2.2,vU a.fy.fD.1,vU a.fy.fD.2.1,vU a.fy.fD.2.2.1,vU a.fy.fD.2.2.2.1,vU a.fy.fD.2.2.2.2.1,vU a.fy.fD.2.2.2.2.2.1,vU a.fy.fD.2.2.2.2.2.2.1,vU a.fy.fD.2.2.2.2.2.2.2,vI a.fC,vI a.fTied]) (ys:=[vU b.fy.fN.1,vU b.fy.fN.2.1,vU b.fy.fN.2.2.1,vU b.fy.fN.2.2.2.1,vU b.fy.fN.2.2.2.2.1,vU b.fy.fN.2.2.2.2.2.1,vU b.fy.fN.2.2.2.2.2.2.1,vU b.fy.fN.2.2.2.2.2.2.2,vU b.fy.fD.1,vU b.fy.fD.2.1,vU b.fy.fD.2.2.1,vU b.fy.fD.2.2.2.1,vU b.fy.fD.2.2.2.2.1,vU b.fy.fD.2.2.2.2.2.1,vU b.fy.fD.2.2.2.2.2.2.1,vU b.fy.fD.2.2.2.2.2.2.2,vI b.fC,vI b.fTied]) (by kernel_rfl) (by kernel_rfl) (by kernel_rfl) rfl rfl ⟨fun h=>by
    simp only [aY,veq,Bool.and_eq_true,beq_iff_eq,and_true] at h
    obtain ⟨h0,h1,h2,h3,h4,h5,h6,h7,h8,h9,b0,c0,d0,g0,j0,k0,p0,q0⟩:=h
    exact ex_Te (ai h0) (ai h1) (ai h2) (ai h3) (ai h4) (ai h5) (ai h6) (ai h7) (ai h8) (ai h9) (ai b0) (ai c0) (ai d0) (ai g0) (ai j0) (ai k0) p0 q0,fun h=>by subst h; simp [aY,veq]⟩ _ _ p
def aq_l1 (_n:Nat) (a0:List Te) (a1:List Te) (c0:Nat -> Option (Bool ⊕ Unit)):Nat -> Option (Bool ⊕ Unit)
  | b0=>(if b0 < a0.length then (a0[b0]?).bind fun d0=>(a1[b0]?).bind fun g0=>(if d0 = g0 then c0 (b0 + 1) else some (.inl false)) else some (.inr ()))
def aq_p (n:Nat) (a0:List Te) (a1:List Te):Option Bool:=
  (if a0.length = a1.length then thn (ap (aq_l1 n a0 a1) n 0) (fun _=>some true) else some false)
theorem aq_c (n:Nat) {L w} (_hL:hl L w) {a0:List Te} {v0_0:Value} (h0_0:Rep.R w L [v0_0] a0) {a1:List Te} {v1_0:Value} (h1_0:Rep.R w L [v1_0] a1)  {r:Bool} (h:aq_p n a0 a1 = some r) :
 Cl 20 #[v0_0,v1_0] w (aj w fun _ u=>u = .bool r):=by
 unfold aq_p at h
 have hS0:=Ax w
 refine AC func20 rfl rfl rfl fun _ cs0 hb0=>Ae<|Af rfl<|Aa<|Aj<|Ae<|Ac rfl ?_
 have hl1:a0.length <= 281474976710656:=AT h0_0
 refine Ab (Bb (xs:=a0) underlying52 rfl h0_0)<|Ac rfl ?_
 have hl2:a1.length <= 281474976710656:=AT h1_0
 refine Ab (Bb (xs:=a1) underlying52 rfl h1_0)<|Ab (FV.neqN (i:=a0.length) (j:=a1.length) rfl rfl)<|Aa<|MX.ifn rfl h (fun c3 h=>?_) (fun c3 h=>?_)
 refine Ao<|Aj<|Ae<|Ac rfl<|Ab (Bb (xs:=a0) underlying52 rfl h0_0)<|Ac rfl<|Aa<|Ar<|tn h fun R0 C0 j0=>MX.lo (α:=Nat) (fun b0=>[(0,v0_0),(1,v1_0),(12,vI ((a0.length:Nat):Int)),(13,vI ((b0:Nat):Int))]) (fun b0=>[]) (fun b0=>b0) 0 C0 hS0 ?_
 rintro J0 b0 U0 t0 g0 u0 h
 unfold aq_l1 at h
 try dsimp only at h
 refine Ae<|Ab (Bi (i:=b0) (j:=a0.length) rfl rfl)<|Aa<|Aj<|AJ rfl h (fun q0 h=>?_) (fun q0 h=>?_)
 refine Ao<|Aj<|Ar<|Ae<|Ac rfl<|Af rfl<|Aa<|Aj<|du 9 fun c0 d0=>Rv 0 c0 rfl d0 (fun _=>Ai rfl)<|Rv 1 c0 rfl d0 (fun _=>Ai rfl)<|bk h fun k0 F0 h=>?_
 obtain ⟨H0,K0,v0,y0,P0,D0,A0⟩:=Bk (AQ h0_0 g0) F0
 obtain rfl:=dK D0
 refine Rv 2 c0 rfl d0 (fun _=>Ba 18 b0 rfl v0 rfl rfl y0)<|Rx 3 256 c0 rfl d0 (AE rfl A0)<|Rv 4 c0 rfl d0 (fun _=>Ai rfl)<|Rv 5 c0 rfl d0 (fun _=>Ai rfl)<|bk h fun p0 G0 h=>?_
 obtain ⟨I0,M0,x0,z0,Q0,E0,B0⟩:=Bk (AQ h1_0 g0) G0
 obtain rfl:=dK E0
 refine Rv 6 c0 rfl d0 (fun _=>Ba 18 b0 rfl x0 rfl rfl z0)<|Rx 7 256 c0 rfl d0 (AE rfl B0)<|Rv 8 c0 rfl d0 (fun _=>FV.neqV (xs:=((gA k0)).toArray) (ys:=((gA p0)).toArray) rfl rfl (by kernel_rfl) (eqlD_57 k0 p0))<|AI (dk c0)<|MX.ifn rfl h (fun s0 h=>?_) (fun s0 h=>?_)
 refine Ao<|Av<|Al<|Ab (Bd (i:=b0) (j:=1) rfl rfl (by omega))<|Ac rfl<|Aa<|t0 (b0 + 1) g0 u0 h
 refine Ae<|Af rfl<|Aa ?_
 have h:=av h j0
 refine Am rfl<|AW hb0 func20 rfl rfl ?_
 cases h
 exact g0.gv
 refine AR rfl ?_
 have h:=aB h j0
 try dsimp only at h
 refine Ae<|Af rfl<|Aa<|Am rfl<|AW hb0 func20 rfl rfl ?_
 cases h
 exact g0.gv
 refine Ae<|Af rfl<|Aa<|Am rfl<|AW hb0 func20 rfl rfl ?_
 cases h
 exact hS0.gv
def aB_l1 (_n:Nat) (a0:List Int) (d0:Int × Nat -> Option Int):Int × Nat -> Option Int
  | (c0,b0)=>(if b0 < a0.length then (a0[b0]?).bind fun g0=>d0 (max c0 g0,b0 + 1) else some c0)
def aB_p (n:Nat) (a0:List Int):Option Int:=
  (if a0.length < 1 then none else (a0[0]?).bind fun x3=>Option.bind (ap (aB_l1 n a0) n (x3,1)) (fun b0=>some b0))
theorem aB_c (n:Nat) {L w} (_hL:hl L w) {a0:List Int} {v0_0:Value} (h0_0:Rep.R w L [v0_0] a0)  {r:Int} (h:aB_p n a0 = some r) :
 Cl 113 #[v0_0] w (aj w fun _ u=>u = vI r):=by
 unfold aB_p at h
 have hS0:=Ax w
 refine AC func113 rfl rfl rfl fun _ cs0 hb0=>Ae<|Af rfl<|Aa<|Aj<|Ae<|Ac rfl ?_
 have hl1:a0.length <= 281474976710656:=AT h0_0
 refine Ab (Bb (xs:=a0) underlying38 rfl h0_0)<|Ab (Bi (i:=a0.length) (j:=1) rfl rfl)<|Aa<|AJ rfl h (fun c2 h=>?_) (fun c2 h=>?_)
 refine Al ?_
 cases h
 refine Ao<|Ae<|Ac rfl<|bk h fun x3 hx3 h=>?_
 obtain ⟨A4,c5,he6,hk7,cs8,hr9,z0⟩:=Bk h0_0 hx3
 have t0:cs8 = [vI x3]:=hr9; subst t0
 refine Ab (Ba 1 0 rfl he6 rfl rfl hk7)<|AK rfl (z0 0 _ rfl)<|Af rfl<|Aa<|Aj<|Ae<|Af rfl<|Aa<|Ar ?_
 obtain ⟨H0,B0,x0⟩:=ar h
 refine MX.lo (α:=Int × Nat) (fun ⟨c0,b0⟩=>[(0,v0_0),(3,vI c0),(4,vI ((b0:Nat):Int))]) (fun ⟨c0,b0⟩=>[]) (fun ⟨c0,b0⟩=>(c0,b0)) (x3,1) B0 hS0 ?_
 rintro F0 ⟨c0,b0⟩ I0 q0 d0 s0 h
 unfold aB_l1 at h
 try dsimp only at h
 refine Aj<|Ae<|Ac rfl<|Ac rfl ?_
 have j0:=AQ h0_0 d0
 refine Ab (Bb (xs:=a0) underlying38 rfl j0)<|Ab (Bi (i:=b0) (j:=a0.length) rfl rfl)<|Aa<|AJ rfl h (fun k0 h=>?_) (fun k0 h=>?_)
 refine Ao<|Aj<|Ar<|Al<|Ac rfl<|Ac rfl<|Ac rfl<|bk h fun g0 D0 h=>?_
 obtain ⟨E0,G0,u0,y0,p0,C0,A0⟩:=Bk j0 D0
 have v0:p0 = [vI g0]:=C0; subst v0
 refine Ab (Ba 1 b0 rfl u0 rfl rfl y0)<|AK rfl (A0 0 _ rfl)<|Ab (FV.max2 (i:=c0) (j:=g0) rfl rfl)<|Af rfl<|Aa<|Av<|Al<|Ac rfl<|Ab (Bd (i:=b0) (j:=1) rfl rfl (by omega))<|Af rfl<|Aa<|q0 (max c0 g0,b0 + 1) d0 s0 h
 refine AR rfl ?_
 have h:=x0 _ h
 try dsimp only at h
 refine Ae<|Ac rfl<|Af rfl<|Aa<|Am rfl<|AW hb0 func113 rfl rfl ?_
 cases h
 exact d0.gv
def aY_l1 (_n:Nat) (a0:List Int) (y3:Int) (d0:Int × Nat -> Option (Int ⊕ Int)):Int × Nat -> Option (Int ⊕ Int)
  | (c0,b0)=>(if b0 < a0.length then (a0[b0]?).bind fun g0=>(if g0 = y3 then (if c0 < 0 then d0 (((b0:Nat):Int),b0 + 1) else some (.inl (-1:Int))) else d0 (c0,b0 + 1)) else some (.inr c0))
def aY_p (n:Nat) (a0:List Int):Option Int:=
  (if a0.length = 0 then some (-1:Int) else (aB_p n a0).bind fun y3=>thn (ap (aY_l1 n a0 y3) n ((-1),0)) (fun b0=>some b0))
theorem aY_c (n:Nat) {L w} (hL:hl L w) {a0:List Int} {v0_0:Value} (h0_0:Rep.R w L [v0_0] a0)  {r:Int} (h:aY_p n a0 = some r) :
 Cl 76 #[v0_0] w (aj w fun _ u=>u = vI r):=by
 unfold aY_p at h
 have hS0:=Ax w
 refine AC func76 rfl rfl rfl fun _ cs0 hb0=>Ae<|Af rfl<|Aa<|Aj<|Ae<|Ac rfl ?_
 have hl1:a0.length <= 281474976710656:=AT h0_0
 refine Ab (Bb (xs:=a0) underlying38 rfl h0_0)<|Ab (FV.eqlN (i:=a0.length) (j:=0) rfl rfl)<|Aa<|AJ rfl h (fun c2 h=>?_) (fun c2 h=>?_)
 refine Ae<|Af rfl<|Aa<|Am rfl<|AW hb0 func76 rfl rfl ?_
 cases h
 exact hS0.gv
 refine Ao<|Ae<|Ac rfl<|bk h fun y3 hy3 h=>Bf (vI y3) (bd 113) rfl (e1 rfl) (fun p q=>aB_c n (hS0.hL0 hL q) (hS0.kd h0_0 q) hy3) rfl<|Af rfl<|Af rfl<|Aa<|Aj<|Ae<|Ac rfl<|Ab (Bb (xs:=a0) underlying38 rfl h0_0)<|Ac rfl<|Aa<|Ar<|tn h fun G0 A0 q0=>MX.lo (α:=Int × Nat) (fun ⟨c0,b0⟩=>[(3,vI y3),(4,vI c0),(12,v0_0),(13,vI ((a0.length:Nat):Int)),(14,vI ((b0:Nat):Int))]) (fun ⟨c0,b0⟩=>[]) (fun ⟨c0,b0⟩=>(c0,b0)) ((-1),0) A0 hS0 ?_
 rintro E0 ⟨c0,b0⟩ H0 k0 d0 p0 h
 unfold aY_l1 at h
 try dsimp only at h
 refine Ae<|Ab (Bi (i:=b0) (j:=a0.length) rfl rfl)<|Aa<|Aj<|AJ rfl h (fun s0 h=>?_) (fun s0 h=>?_)
 refine Ao<|Aj<|Ar<|Ae<|Ac rfl<|bk h fun g0 C0 h=>?_
 obtain ⟨D0,F0,v0,y0,u0,B0,z0⟩:=Bk (AQ h0_0 d0) C0
 have x0:u0 = [vI g0]:=B0; subst x0
 refine Ab (Ba 1 b0 rfl v0 rfl rfl y0)<|AK rfl (z0 0 _ rfl)<|Af rfl<|Af rfl<|Aa<|Ar<|Ae<|Ac rfl<|Ac rfl<|Ab (FV.eql (i:=g0) (j:=y3) rfl rfl)<|Ac rfl<|RG.ifd (s:=23) rfl h (fun j0 h=>?_) (fun j0 h=>?_)
 refine AP (Ai rfl)<|AP (FV.lss (i:=c0) (j:=0) rfl rfl)<|Bz rfl rfl<|Af rfl<|Aa<|AJ rfl h (fun t0 h=>?_) (fun t0 h=>?_)
 refine Al<|Ac rfl<|Af rfl<|Aa<|Av<|Av<|Al<|Ab (Bd (i:=b0) (j:=1) rfl rfl (by omega))<|Ac rfl<|Aa<|k0 (((b0:Nat):Int),b0 + 1) d0 p0 h
 refine Ae<|Ac rfl<|Ac rfl<|Ab (FV.eql (i:=g0) (j:=y3) rfl rfl)<|Af rfl<|Aa<|MX.cond_kt rfl (decide_eq_true j0)<|Ae<|Af rfl<|Aa ?_
 have h:=av h q0
 refine Am rfl<|AW hb0 func76 rfl rfl ?_
 cases h
 exact d0.gv
 refine Az<|Az<|RG.pf rfl rfl<|Af rfl<|Aa<|Bm rfl<|Ae<|Ac rfl<|Ac rfl<|Ab (FV.eql (i:=g0) (j:=y3) rfl rfl)<|Af rfl<|Aa<|MX.cond_kf rfl (decide_eq_false j0)<|Ao<|Av<|Av<|Al<|Ab (Bd (i:=b0) (j:=1) rfl rfl (by omega))<|Ac rfl<|Aa<|k0 (c0,b0 + 1) d0 p0 h
 refine AR rfl ?_
 have h:=aB h q0
 try dsimp only at h
 refine Ae<|Ac rfl<|Af rfl<|Aa<|Am rfl<|AW hb0 func76 rfl rfl ?_
 cases h
 exact d0.gv
def aF_l1 (n:Nat) (d0:List (List Int)) (g0:Nat × (List Int) -> Option (List Int)):Nat × (List Int) -> Option (List Int)
  | (b0,c0)=>(if b0 < d0.length then (d0[b0]?).bind fun j0=>(aY_p n j0).bind fun p0=>(app c0 ([p0]:List Int)).bind fun k0=>g0 (b0 + 1,k0) else some c0)
def aF_p (n:Nat) (a0:Tf) (a1:List Int) (a2:Int):Option (Except Td (List Int)):=
  (aG_p n a0 a1 a2).bind fun y1=>exc y1 (fun d0=>(ah_p n d0).bind fun g0=>Option.bind (ap (aF_l1 n g0) n (0,([]:List Int))) (fun c0=>some (.ok c0))) (fun b0=>some (.error b0))
theorem aF_c (n:Nat) {L w} (hL:hl L w) (a0:Tf) {v0_3:Value} (h0_3:Rep.R w L [v0_3] a0.fq) {p0:Nat} (m0:∀ j9 v9,([vI a0.fh,vI a0.fc,vI a0.fe,v0_3]:List Value)[j9]? = some v9 -> w.cell? ((⟨p0,0,none⟩:Addr).add j9) = some v9) {a1:List Int} {v1_0:Value} (h1_0:Rep.R w L [v1_0] a1) {p1:Nat} (m1:∀ j9 v9,([v1_0]:List Value)[j9]? = some v9 -> w.cell? ((⟨p1,0,none⟩:Addr).add j9) = some v9) {a2:Int} {p2:Nat} (m2:∀ j9 v9,([vI a2]:List Value)[j9]? = some v9 -> w.cell? ((⟨p2,0,none⟩:Addr).add j9) = some v9)  {r:Except Td (List Int)} (h:aF_p n a0 a1 a2 = some r) :
 Cl 75 #[.pointer (some ⟨p0,0,none⟩),.pointer (some ⟨p1,0,none⟩),.pointer (some ⟨p2,0,none⟩)] w (aC w (fun (y:List Int) w' u=>∃ v0_0:Value,u = v0_0/\Rep.R w' L [v0_0] y) (fun e=>.iface 138 (.agg #[vI e.fw])) r):=by
 unfold aF_p at h
 have hS0:=Ax w
 refine By func75 rfl rfl rfl fun _ cs0 hb0 hp0=>Ae<|Af rfl<|Aa<|Aj<|Ae<|Ab (AE rfl (fun j9 v9 h9=>hS0.ag.cell0 (m0 j9 v9 h9)))<|AK rfl ((fun j9 v9 h9=>hS0.ag.cell0 (m1 j9 v9 h9)) 0 _ rfl)<|AK rfl ((fun j9 v9 h9=>hS0.ag.cell0 (m2 j9 v9 h9)) 0 _ rfl)<|xk h (fun F1 hy1 h=>?_) (fun z1 hy1 h=>?_)
 refine Bg (fst:=[]) (cap:=[]) .plain (bd 72) rfl (e3 rfl rfl rfl) (fun p q=>aG_c n (hS0.hL hL q) a0 (Au h0_3 q) (Au h1_0 q) hy1) fun W1 M0=>?_
 obtain ⟨H0,G1⟩:=hS0.agr M0
 cases h
 exact AS hp0 func75 ⟨H0.ag,rfl⟩
 refine jE (bd 72) rfl (e3 rfl rfl rfl) (fun p q=>AO (aG_c n (hS0.hL hL q) a0 (Au h0_3 q) (Au h1_0 q) hy1)) rfl fun Z1 V1 P0 ⟨Q1,R1,hu_,g1,j1⟩=>?_
 subst hu_
 obtain ⟨v0,I1⟩:=hS0.agr P0
 refine bk h fun q0 u1 h=>jE (bd 73) rfl (e1 rfl) (fun p q=>ah_c n (v0.hL hL q) z1 (Au g1 q) (Au j1 q) u1) rfl fun b2 x1 Q0 ⟨U1,hu_,u0⟩=>?_
 subst hu_
 obtain ⟨x0,J1⟩:=v0.agr Q0
 have K1:q0.length <= 281474976710656:=AT u0
 refine Ab (Bb (xs:=q0) underlying64 rfl u0)<|Ac rfl<|Aa<|Ar ?_
 have y0:=x0.nilRow 3 (Rep.size Int)
 obtain ⟨M1,Y0,V0⟩:=ar h
 refine MX.lf (α:=Nat × (List Int) × Value × (List Value)) (fun ⟨b0,d0,c0,j0⟩=>[(3,c0),(10,x1),(11,vI ((q0.length:Nat):Int)),(12,vI ((b0:Nat):Int))]) (fun ⟨b0,d0,c0,j0⟩=>[rr w 3 Int c0 d0.length j0]) (fun ⟨b0,d0,c0,j0⟩ D0=>Cells D0 (bl [rr w 3 Int c0 d0.length j0] ++ L) j0 d0) (fun ⟨b0,d0,c0,j0⟩=>(b0,d0)) (0,([]:List Int),vN,[]) Y0 y0 (AD (cs:=[]) (xs:=([]:List Int)) y0 L (AU _ _)) ?_
 rintro B1 ⟨b0,d0,c0,j0⟩ D0 G0 k0 z0 C0 h
 unfold aF_l1 at h
 try dsimp only at h
 refine Ae<|Ab (Bi (i:=b0) (j:=q0.length) rfl rfl)<|Aa<|Aj<|AJ rfl h (fun E0 h=>?_) (fun E0 h=>?_)
 refine Ao<|Aj<|Ar<|Ae<|bk h fun c2 k1 h=>?_
 obtain ⟨A1,D1,U0,W0,E1,Z0,X0⟩:=Bk (Ay u0 (Tt (St.nilRowT x0 3 (Rep.size Int)) z0)) k1
 obtain ⟨P1,rfl,b1⟩:=bh Z0
 refine Ab (Ba 1 b0 rfl U0 rfl rfl W0)<|AK rfl (X0 0 _ rfl)<|Af rfl<|Aa<|Al<|Ac rfl<|Ac rfl<|bk h fun g0 s1 h=>Bf (vI g0) (bd 76) rfl (e1 rfl) (fun p q=>aY_c n (k0.hL0 hL q) (k0.kd b1 q) s1) rfl<|Ak .plain rfl (jA g0 (vI g0) k0 bb (e1 rfl)) fun X1 C1 s0 A0=>bk h fun y1 q1 h=>RG.doesL .plain rfl (DoesL.app (α:=Int) (ys:=([g0]:List Int)) q1 s0 (fun _ _=>.t1) bb rfl rfl (AG C0 A0) (Src.row (α:=Int) s0 .hd (jC g0 (vI g0) s0 L rfl))) fun v1 Y1 ⟨F0,I0,K0,R0⟩=>Af rfl<|Aa<|Av<|Al<|Ab (Bd (i:=b0) (j:=1) rfl rfl (by omega))<|Ac rfl<|Aa ?_
 obtain ⟨J0,B0⟩:=AL I0 .d1
 exact G0 (b0 + 1,y1,v1,F0) J0 (Tt z0 (Tt A0 (Tt K0 B0))) (AG R0 B0) h
 refine AR rfl ?_
 have h:=V0 _ h
 try dsimp only at h
 refine Ae<|Ac rfl<|Af rfl<|Aa<|Am rfl ?_
 have t0:=St.delS k0 .hd
 have H1:=St.delT k0 .hd
 have c1:=Rep.at_ (α:=Int) (v:=c0) (xs:=d0) t0 L (Bt (α:=Int) k0 .hd C0 hL)
 refine AW hb0 func75 rfl rfl ?_
 cases h
 exact ⟨t0.ag,fun p q=>ax ⟨c0,rfl,t0.kd c1 q⟩⟩
def bf_p (n:Nat) (a0:Tf) (a1:List Int) (a2:Int):Option ((List Int) × Int):=
  (aF_p n a0 a1 a2).bind fun c0=>exc c0 (fun d0=>some (d0,(0:Int))) (fun b0=>some (([]:List Int),b0.fw))
theorem bf_c (n:Nat) {L w} (hL:hl L w) (a0:Tf) {v0_3:Value} (h0_3:Rep.R w L [v0_3] a0.fq) {a1:List Int} {v1_0:Value} (h1_0:Rep.R w L [v1_0] a1) {a2:Int}  {r:(List Int) × Int} (h:bf_p n a0 a1 a2 = some r) :
 Cl 24 #[.agg #[vI a0.fh,vI a0.fc,vI a0.fe,v0_3],v1_0,vI a2] w (aj w fun w' u=>∃ v0_0:Value,u = .tuple #[v0_0,vI r.2]/\Rep.R w' L [v0_0] r.1):=by
 unfold bf_p at h
 refine AC func24 rfl rfl rfl fun _ cs0 hb0=>Ae<|RG.bx (Ax w) rfl rfl fun M1 g0 D0 B1=>RG.bx D0 rfl (Rep.c1 (AQ h1_0 D0)) fun V1 j0 M0 C1=>RG.bx M0 rfl rfl fun W1 k0 P0 D1=>Af rfl<|Af rfl<|Aa<|Ae<|Ab (Bu (vs:=[]) (us:=[vP g0,vP j0,vP k0]) ah (e3 rfl rfl rfl))<|Bo (fst:=[]) (cap:=[]) (vs:=[.func (.func 75) #[] #[vP g0,vP j0,vP k0]]) .plain (bd 74) func74 rfl rfl rfl rfl (e1 rfl) rfl fun x1 E0 J1=>Ae<|RG.nl [vN] P0 fun X1 p0 Q0 E1=>RG.nl [vI 0] Q0 fun Y1 d0 b0 F1=>Aa<|Ae<|Ab (Bu (vs:=[]) (us:=[vP p0,vP d0]) ah (e2 rfl rfl))<|RG.defer (fst:=[]) (cap:=[vP p0,vP d0]) (vs:=[]) rfl .plain rfl ah<|Aa<|Ae<|Ac rfl<|xk h (fun s0 z0 h=>?_) (fun g2 z0 h=>?_)
 refine Bg (fst:=[]) (cap:=[vP g0,vP j0,vP k0]) .plain (bd 75) rfl ah (fun p q=>aF_c n (b0.hL hL q) a0 (b0.km h0_3 q) (ac q (b0.memA .t4)) (b0.km h1_0 q) (ac q (b0.memA .t3)) (ac q (b0.memA .t2)) z0) fun Z1 b1=>?_
 obtain ⟨R0,G1⟩:=b0.agr b1
 refine PN.callD (vs:=[]) (cap:=[vP p0,vP d0]) (bd 112) func112 rfl rfl rfl fun v1 g1 k1=>Ae<|RG.recover1 .plain g1 rfl<|Af rfl<|Aa<|Ae<|Ac rfl<|Ab (FV.neqI underlying20 rfl rfl)<|Aa<|Bs rfl<|Ae<|Ac rfl<|Ab (FV.assertT rfl rfl)<|Ac rfl<|Ab (Ah rfl rfl)<|Ab (Ah rfl rfl)<|RG.nl [vI 0] R0 fun b2 s1 U0 H1=>AV [vI s0.fw] U0 .hd (o1 rfl) fun c2 u0 I1=>Af rfl<|Aa<|Aj<|Ae<|Ac rfl<|Ab (BB rfl)<|Aa<|Bm rfl<|Ao<|Ae<|Af rfl<|Aa<|du 3 fun c0 A0=>Rv 0 c0 rfl A0 (fun _=>Ai rfl)<|Rv 1 c0 rfl A0 (fun _=>Bn 0 rfl)<|RD.mo (α:=Unit) (fun ()=>[(1,vP d0),(19,vI s0.fw)]) (fun ()=>[.cells d0 [vI 0] 49,.cells p0 [vN] 38,.cells k0 [vI a2] 3,.cells j0 [v1_0] 39,.cells g0 [vI a0.fh,vI a0.fc,vI a0.fe,v0_3] 37]) u0 1 15 ?_ ?_
 rintro ⟨⟩ d2 G0 y1
 try dsimp only
 refine BA 4 31 c0 rfl rfl .plain (AB (news:=[vI s0.fw]) G0 .hd rfl rfl rfl rfl rfl rfl (o1 rfl)) fun P1 q0 z1=>AI (dk c0)<|MX.fin rfl<|RT.leaveD1 k1 func112 rfl .nil<|Ap (u:=.tuple #[vN,vI s0.fw]) E0 func74 rfl (.cons (.one rfl rfl ((q0.memA .t1) 0 _ rfl)) (.cons (.one rfl rfl ((q0.memA .hd) 0 _ rfl)) .nil)) rfl<|Ab (Ah rfl rfl)<|Ab (Ah rfl rfl)<|Af rfl<|Af rfl<|Aa<|Am rfl ?_
 have p1:=Rep.nilAt (α:=Int) q0 L
 refine Ap hb0 func24 rfl (.cons (.tmp rfl) (.cons (.tmp rfl) .nil)) rfl ?_
 cases h
 exact ⟨q0.ag,fun p q=>⟨vN,rfl,q0.kd p1 q⟩⟩
 intro C0
 refine RD.each [2,3] (rk c0) ⟨?_,?_,trivial⟩
 refine RO.val (m' :=7) (sk c0) rfl .plain rfl (AY rfl ((u0.memA .hd) 0 _ rfl))<|BA 3 15 c0 rfl rfl .plain (AB (news:=[vN]) u0 .t2 rfl rfl rfl rfl rfl rfl (o1 rfl)) fun q1 v0 x0=>?_
 obtain ⟨H0,V0⟩:=AL v0 .d1
 exact C0 () H0 (Tt x0 V0)
 refine RO.now (m' :=11) (sk c0) rfl rfl .plain (AB (news:=[vN]) u0 .t2 rfl rfl rfl rfl rfl rfl (o1 rfl)) fun q1 v0 x0=>Rx 2 16 c0 rfl A0 (AY rfl ((v0.memA .hd) 0 _ rfl)) ?_
 obtain ⟨I0,W0⟩:=AL v0 .d1
 exact C0 () I0 (Tt x0 W0)
 refine Bj (fst:=[]) (cap:=[vP g0,vP j0,vP k0]) .plain (bd 75) rfl ah (fun p q=>AO (aF_c n (b0.hL hL q) a0 (b0.km h0_3 q) (ac q (b0.memA .t4)) (b0.km h1_0 q) (ac q (b0.memA .t3)) (ac q (b0.memA .t2)) z0)) rfl fun Q1 B0 Z0 ⟨K1,hu_,y0⟩=>?_
 subst hu_
 obtain ⟨J0,A1⟩:=b0.agr Z0
 refine RG.now .plain (AB (news:=[B0]) J0 .t1 rfl rfl rfl (Rep.c1 y0) rfl rfl (o1 (Bc y0))) fun R1 K0 X0=>AV [vI 0] K0 .hd (o1 rfl) fun U1 t0 Y0=>Aa<|Am rfl<|RT.callD (vs:=[]) (cap:=[vP p0,vP d0]) (bd 112) func112 rfl rfl rfl fun u1 F0 j1=>Ae<|RG.recover0 .plain F0 rfl<|Af rfl<|Aa<|Ae<|Ac rfl<|Ab (FV.neqI0 underlying20 rfl rfl)<|Aa<|Bm rfl<|Ao<|MX.fin rfl<|RT.leaveD0 F0 j1 func112 rfl .nil<|Ap (u:=.tuple #[B0,vI 0]) E0 func74 rfl (.cons (.one rfl rfl ((t0.memA .t1) 0 _ rfl)) (.cons (.one rfl rfl ((t0.memA .hd) 0 _ rfl)) .nil)) rfl<|Ab (Ah rfl rfl)<|Ab (Ah rfl rfl)<|Af rfl<|Af rfl<|Aa<|Am rfl<|Ap hb0 func24 rfl (.cons (.tmp rfl) (.cons (.tmp rfl) .nil)) rfl ?_
 cases h
 exact ⟨t0.ag,fun p q=>⟨B0,rfl,t0.kd (Ay y0 (Tt X0 Y0)) q⟩⟩
def aN_p (n:Nat) (a0:Int) (a1:Int):Option Ta:=
  (cp_p n a0 a1).bind fun b0=>some b0.1
theorem aN_c (n:Nat) {L w} (hL:hl L w) {a0:Int} {a1:Int}  {r:Ta} (h:aN_p n a0 a1 = some r) :
 Cl 33 #[vI a0,vI a1] w (aj w fun _ u=>u = .agg ((aa r)).toArray):=by
 unfold aN_p at h
 refine AC func33 rfl rfl rfl fun _ cs0 hb0=>Ae<|RG.nl zL (Ax w) fun x0 p0 c0 s0=>Aa<|Ae<|Ac rfl<|Ac rfl<|bk h fun b0 k0 h=>Bf (.tuple #[.agg ((aa b0.1)).toArray,vI b0.2]) (bd 82) rfl (e2 rfl rfl) (fun p q=>cp_c n (c0.hL0 hL q)  k0) rfl<|Ac rfl<|Ab (Ah rfl rfl)<|Ab (Ah rfl rfl)<|RG.nl zL c0 fun y0 q0 j0 t0=>AV (aa b0.1) j0 .hd (ao rfl) fun z0 d0 u0=>Af rfl<|Aa<|Ae<|Ab (AE rfl (d0.memA .hd))<|AV (aa b0.1) d0 .t1 (ao rfl) fun A0 g0 v0=>Aa<|Am rfl<|Ap hb0 func33 rfl (.cons (.many (cs:=(aa b0.1)) rfl rfl (g0.memA .t1)) .nil) rfl ?_
 cases h
 exact g0.gv
def aS_p (n:Nat) (a0:Ta) (a1:Int) (a2:Int) (a3:Int):Option Bool:=
  (aN_p n a2 a3).bind fun b0=>(if a0 = b0 then some (decide (a1 = 0)) else some false)
theorem aS_c (n:Nat) {L w} (hL:hl L w) (a0:Ta) {a1:Int} {a2:Int} {p2:Nat} (m2:∀ j9 v9,([vI a2]:List Value)[j9]? = some v9 -> w.cell? ((⟨p2,0,none⟩:Addr).add j9) = some v9) {a3:Int} {p3:Nat} (m3:∀ j9 v9,([vI a3]:List Value)[j9]? = some v9 -> w.cell? ((⟨p3,0,none⟩:Addr).add j9) = some v9)  {r:Bool} (h:aS_p n a0 a1 a2 a3 = some r) :
 Cl 77 #[.agg ((aa a0)).toArray,vI a1,.pointer (some ⟨p2,0,none⟩),.pointer (some ⟨p3,0,none⟩)] w (aj w fun _ u=>u = .bool r):=by
 unfold aS_p at h
 refine AC func77 rfl rfl rfl fun _ cs0 hb0=>Ae<|RG.bx (Ax w) rfl rfl fun s0 p0 d0 q0=>Af rfl<|Aa<|Aj<|du 10 fun b0 c0=>Rx 0 1008 b0 rfl c0 (AE rfl (d0.memA .hd))<|Rx 1 1016 b0 rfl c0 (AY rfl ((fun j9 v9 h9=>d0.ag.cell0 (m2 j9 v9 h9)) 0 _ rfl))<|Rx 2 1016 b0 rfl c0 (AY rfl ((fun j9 v9 h9=>d0.ag.cell0 (m3 j9 v9 h9)) 0 _ rfl))<|bk h fun g0 k0 h=>RD.cq 3 15 1008 (.agg ((aa g0)).toArray) b0 rfl c0 (bd 33) rfl (e2 rfl rfl) (fun p q=>aN_c n (d0.hL0 hL q)  k0) rfl<|Rv 4 b0 rfl c0 (fun _=>FV.eqlV (v:=.agg ((aa a0)).toArray) (u:=.agg ((aa g0)).toArray) rfl rfl (gu a0 g0))<|Rv 5 b0 rfl c0 (fun _=>Ai rfl)<|RD.ifd (s:=12) rfl h (fun j0 h=>?_) (fun j0 h=>?_)
 refine Bv 6 127 b0 rfl c0 (.yes rfl rfl) (fun _=>Ai rfl) rfl<|Bv 7 255 b0 rfl c0 (.yes rfl rfl) (fun _=>FV.eql (i:=a1) (j:=0) rfl rfl) rfl<|Rv 8 b0 rfl c0 (fun _=>FV.pick_t rfl rfl)<|Rv 9 b0 rfl c0 (fun _=>Bh rfl)<|AI (dk b0)<|Am rfl<|AW hb0 func77 rfl rfl ?_
 cases h
 exact d0.gv
 refine AZ 255 2 [(6,13),(7,14)] (F:=[(12,false)]) (U:=[]) b0 c0 (.cons rfl .nil) .nil ?_
 dsimp only [az,List.map]
 refine Rv 8 b0 rfl c0 (fun _=>AH rfl rfl)<|Rv 9 b0 rfl c0 (fun _=>Bh rfl)<|AI (dk b0)<|Am rfl<|AW hb0 func77 rfl rfl ?_
 cases h
 exact d0.gv
theorem cm_c (_n:Nat) {L w} (_hL:hl L w) (a0:Int) (a1:Int)  :
 Cl 25 #[vI a0,vI a1] w (aj w fun w' u=>∃ b0 c0:Nat,u = .func (.func 77) #[] #[vP b0,vP c0]/\St w w' [.cells b0 [vI a0] 3,.cells c0 [vI a1] 3]):=by
 refine AC func25 rfl rfl rfl fun _ cs0 hb0=>Ae<|RG.bx (Ax w) rfl rfl fun t0 b0 j0 p0=>RG.bx j0 rfl rfl fun u0 c0 k0 q0=>Af rfl<|Aa<|Ae<|Ab (Bu (vs:=[]) (us:=[vP b0,vP c0]) ah (e2 rfl rfl))<|Af rfl<|Aa<|Am rfl<|Ap (u:=.func (.func 77) #[] #[vP b0,vP c0]) hb0 func25 rfl (.cons (.tmp rfl) .nil) rfl ?_
 obtain ⟨g0,s0⟩:=AL k0 (.a1 .d0)
 exact ⟨g0.ag,fun p q=>⟨b0,c0,rfl,g0.agree q⟩⟩
def ba_l1 (_n:Nat) (k0:(List Int) × Int) (j0:Int × Nat × (List Int) -> Option ((List Int) × Int)):Int × Nat × (List Int) -> Option ((List Int) × Int)
  | (g0,b0,c0)=>(if b0 < k0.1.length then (k0.1[b0]?).bind fun d0=>(if d0 < 0 then (chk (g0 + 1)).bind fun p0=>j0 (p0,b0 + 1,c0) else (idx c0 d0).bind fun s0=>(chk (s0 + 1)).bind fun q0=>(put c0 ((d0.toNat:Nat):Int) q0).bind fun t0=>j0 (g0,b0 + 1,t0)) else some (c0,g0))
def ba_p (n:Nat) (a0:Tf) (a1:List Int) (a2:Int):Option ((List Int) × Int × Int):=
  (bf_p n a0 a1 a2).bind fun b0=>(if b0.2 = 0 then (mk a0.fc (0:Int)).bind fun d0=>Option.bind (ap (ba_l1 n b0) n (0,0,d0)) (fun (c0,g0)=>some (c0,g0,(0:Int))) else some (([]:List Int),(0:Int),b0.2))
theorem ba_c (n:Nat) {L w} (hL:hl L w) (a0:Tf) {v0_3:Value} (h0_3:Rep.R w L [v0_3] a0.fq) {a1:List Int} {v1_0:Value} (h1_0:Rep.R w L [v1_0] a1) {a2:Int}  {r:(List Int) × Int × Int} (h:ba_p n a0 a1 a2 = some r) :
 Cl 27 #[.agg #[vI a0.fh,vI a0.fc,vI a0.fe,v0_3],v1_0,vI a2] w (aj w fun w' u=>∃ v0_0:Value,u = .tuple #[v0_0,vI r.2.1,vI r.2.2]/\Rep.R w' L [v0_0] r.1):=by
 unfold ba_p at h
 refine AC func27 rfl rfl rfl fun _ cs0 hb0=>Ae<|RG.bx (Ax w) rfl rfl fun g2 Q1 p0 W1=>Af rfl<|Af rfl<|Af rfl<|Aa<|Ae<|Ab (AE rfl (p0.memA .hd))<|Ac rfl<|Ac rfl<|bk h fun t0 H1 h=>jE (bd 24) rfl (e3 rfl rfl rfl) (fun p q=>bf_c n (p0.hL hL q) a0 (p0.km h0_3 q) (p0.km h1_0 q) H1) rfl fun j2 d2 d1 ⟨J1,hu_,H0⟩=>?_
 subst hu_
 obtain ⟨q0,Y1⟩:=p0.agr d1
 refine Ac rfl<|Ab (Ah rfl rfl)<|Ab (Ah rfl rfl)<|Af rfl<|Af rfl<|Aa<|Aj<|Ae<|Ac rfl<|Ab (FV.neq (i:=t0.2) (j:=0) rfl rfl)<|Aa<|MX.ifn rfl h (fun V0 h=>?_) (fun V0 h=>?_)
 refine Ao<|Ae<|Bl 1 rfl<|AK rfl ((q0.memA .hd) 1 _ rfl)<|bk h fun M0 I0 h=>Ak .plain rfl (Does.mk (α:=Int) I0 q0 bb rfl) fun p2 k0 B0 D0=>Af rfl<|Aa<|Aj<|Ae<|Ac rfl ?_
 have G0:=Ay H0 D0
 have Z1:t0.1.length <= 281474976710656:=AT G0
 refine Ab (Bb (xs:=t0.1) underlying38 rfl G0)<|Ac rfl<|Aa<|Ar ?_
 obtain ⟨Z0,C0⟩:=AL B0 (.a0 .done)
 obtain ⟨b2,v1,q1⟩:=ar h
 refine MX.lf (α:=Int × Nat × (List Int) × (List Value)) (fun ⟨g0,b0,c0,d0⟩=>[(6,(.slice (some ⟨k0,0,none⟩) a0.fc.toNat a0.fc.toNat)),(7,vI g0),(25,J1),(26,vI ((t0.1.length:Nat):Int)),(27,vI ((b0:Nat):Int))]) (fun ⟨g0,b0,c0,d0⟩=>[rr w 3 Int (.slice (some ⟨k0,0,none⟩) a0.fc.toNat a0.fc.toNat) c0.length d0]) (fun ⟨g0,b0,c0,d0⟩ J0=>Cells J0 (bl [rr w 3 Int (.slice (some ⟨k0,0,none⟩) a0.fc.toNat a0.fc.toNat) c0.length d0] ++ L) d0 c0) (fun ⟨g0,b0,c0,d0⟩=>(g0,b0,c0)) (0,0,M0,(List.replicate a0.fc.toNat [vI 0]).flatten) v1 Z0 (AG (AD (cs:=(List.replicate a0.fc.toNat [vI 0]).flatten) (xs:=M0) B0 L (Cells.mk I0 rfl)) C0) ?_
 rintro P1 ⟨g0,b0,c0,d0⟩ J0 A0 j0 y0 u0 h
 unfold ba_l1 at h
 try dsimp only at h
 refine Ae<|Ab (Bi (i:=b0) (j:=t0.1.length) rfl rfl)<|Aa<|Aj<|AJ rfl h (fun R0 h=>?_) (fun R0 h=>?_)
 refine Ao<|Aj<|Ar<|Ae<|bk h fun s0 D1 h=>?_
 obtain ⟨M1,R1,j1,s1,W0,x1,t1⟩:=Bk (Ay H0 (Tt D0 (Tt C0 y0))) D1
 have k1:W0 = [vI s0]:=x1; subst k1
 refine Ab (Ba 1 b0 rfl j1 rfl rfl s1)<|AK rfl (t1 0 _ rfl)<|Af rfl<|Aa<|Aj<|Ae<|Ac rfl<|Ab (FV.lss (i:=s0) (j:=0) rfl rfl)<|Aa<|AJ rfl h (fun U0 h=>?_) (fun U0 h=>?_)
 refine Ae<|Ac rfl<|bk h fun I1 B1 h=>Ab (Br (i:=g0) (j:=1) rfl rfl B1)<|Af rfl<|Aa<|AR rfl<|Al<|Ab (Bd (i:=b0) (j:=1) rfl rfl (by omega))<|Ac rfl<|Aa<|A0 (I1,b0 + 1,c0,d0) j0 y0 u0 h
 refine Ao<|Al<|Ac rfl<|Ac rfl<|bk h fun K0 E1 h=>?_
 obtain ⟨F0,F1⟩:=aD E1
 obtain ⟨P0,U1,v0,z0,X0,y1,u1⟩:=St.nth (α:=Int) j0 .hd u0 F1
 obtain ⟨Q0,V1,E0⟩:=Bp (α:=Int) j0 .hd z0
 obtain rfl:P0 = ⟨Q0,0,none⟩:=by rw [E0] at v0; cases v0; rfl
 have p1:X0 = [vI K0]:=y1; subst p1
 refine Ab (Ba 1 (s0.toNat) rfl v0 rfl F0 z0)<|AK rfl (u1 0 _ rfl)<|bk h fun c2 C1 h=>Ab (Br (i:=K0) (j:=1) rfl rfl C1)<|Ab (Ba 1 (s0.toNat) rfl v0 rfl F0 z0)<|bk h fun K1 G1 h=>RG.acts' .plain (Acts.set (α:=Int) (i:=s0.toNat) G1 j0 E0 (fun _=>.hd) u0 rfl rfl rfl rfl rfl rfl) fun k2 ⟨Y0,b1,c1,g1⟩=>Aa<|Av<|Al<|Ab (Bd (i:=b0) (j:=1) rfl rfl (by omega))<|Ac rfl<|Aa<|A0 (g0,b0 + 1,K1,Y0) b1 (Tt y0 c1) g1 h
 refine AR rfl ?_
 have h:=q1 _ h
 try dsimp only at h
 refine Ae<|Ac rfl<|Ac rfl<|Af rfl<|Af rfl<|Af rfl<|Aa<|Am rfl ?_
 have x0:=St.delS j0 .hd
 have X1:=St.delT j0 .hd
 have z1:=Rep.at_ (α:=Int) (v:=(.slice (some ⟨k0,0,none⟩) a0.fc.toNat a0.fc.toNat)) (xs:=c0) x0 L (Bt (α:=Int) j0 .hd u0 hL)
 refine Ap hb0 func27 rfl (.cons (.tmp rfl) (.cons (.tmp rfl) (.cons (.tmp rfl) .nil))) rfl ?_
 cases h
 exact ⟨x0.ag,fun p q=>⟨(.slice (some ⟨k0,0,none⟩) a0.fc.toNat a0.fc.toNat),rfl,x0.kd z1 q⟩⟩
 refine Ae<|Ac rfl<|Af rfl<|Af rfl<|Af rfl<|Aa<|Am rfl ?_
 have A1:=Rep.nilAt (α:=Int) q0 L
 refine Ap hb0 func27 rfl (.cons (.tmp rfl) (.cons (.tmp rfl) (.cons (.tmp rfl) .nil))) rfl ?_
 cases h
 exact ⟨q0.ag,fun p q=>⟨vN,rfl,q0.kd A1 q⟩⟩
def ak_l1 (_n:Nat) (a0:List Int) (a1:List Int) (b0:Nat -> Option (Bool ⊕ Unit)):Nat -> Option (Bool ⊕ Unit)
  | i32=>(if i32 < a0.length then (a0[i32]?).bind fun c0=>(a1[i32]?).bind fun d0=>(if c0 = d0 then b0 (i32 + 1) else some (.inl false)) else some (.inr ()))
def ak_p (n:Nat) (a0:List Int) (a1:List Int):Option Bool:=
  (if a0.length = a1.length then thn (ap (ak_l1 n a0 a1) n 0) (fun _=>some true) else some false)
theorem ak_c (n:Nat) {L w} (_hL:hl L w) {a0:List Int} {v0_0:Value} (h0_0:Rep.R w L [v0_0] a0) {a1:List Int} {v1_0:Value} (h1_0:Rep.R w L [v1_0] a1)  {r:Bool} (h:ak_p n a0 a1 = some r) :
 Cl 28 #[v0_0,v1_0] w (aj w fun _ u=>u = .bool r):=by
 unfold ak_p at h
 have hS0:=Ax w
 refine AC func28 rfl rfl rfl fun _ cs0 hb0=>Ae<|Af rfl<|Aa<|Aj<|Ae<|Ac rfl ?_
 have hl1:a0.length <= 281474976710656:=AT h0_0
 refine Ab (Bb (xs:=a0) underlying38 rfl h0_0)<|Ac rfl ?_
 have hl2:a1.length <= 281474976710656:=AT h1_0
 refine Ab (Bb (xs:=a1) underlying38 rfl h1_0)<|Ab (FV.neqN (i:=a0.length) (j:=a1.length) rfl rfl)<|Aa<|MX.ifn rfl h (fun c3 h=>?_) (fun c3 h=>?_)
 refine Ao<|Aj<|Ae<|Ac rfl<|Ab (Bb (xs:=a0) underlying38 rfl h0_0)<|Ac rfl<|Aa<|Ar<|tn h fun U0 F0 g0=>MX.lo (α:=Nat) (fun i32=>[(0,v0_0),(1,v1_0),(12,vI ((a0.length:Nat):Int)),(13,vI ((i32:Nat):Int))]) (fun i32=>[]) (fun i32=>i32) 0 F0 hS0 ?_
 rintro P0 i32 V0 u0 d0 v0 h
 unfold ak_l1 at h
 try dsimp only at h
 refine Ae<|Ab (Bi (i:=i32) (j:=a0.length) rfl rfl)<|Aa<|Aj<|AJ rfl h (fun p0 h=>?_) (fun p0 h=>?_)
 refine Ao<|Aj<|Ar<|Ae<|Ac rfl<|Af rfl<|Aa<|Aj<|du 9 fun b0 c0=>Rv 0 b0 rfl c0 (fun _=>Ai rfl)<|Rv 1 b0 rfl c0 (fun _=>Ai rfl)<|bk h fun j0 I0 h=>?_
 obtain ⟨K0,Q0,x0,B0,s0,G0,D0⟩:=Bk (AQ h0_0 d0) I0
 have y0:s0 = [vI j0]:=G0; subst y0
 refine Rv 2 b0 rfl c0 (fun _=>Ba 1 i32 rfl x0 rfl rfl B0)<|Rx 3 256 b0 rfl c0 (AY rfl (D0 0 _ rfl))<|Rv 4 b0 rfl c0 (fun _=>Ai rfl)<|Rv 5 b0 rfl c0 (fun _=>Ai rfl)<|bk h fun k0 J0 h=>?_
 obtain ⟨M0,R0,z0,C0,t0,H0,E0⟩:=Bk (AQ h1_0 d0) J0
 have A0:t0 = [vI k0]:=H0; subst A0
 refine Rv 6 b0 rfl c0 (fun _=>Ba 1 i32 rfl z0 rfl rfl C0)<|Rx 7 256 b0 rfl c0 (AY rfl (E0 0 _ rfl))<|Rv 8 b0 rfl c0 (fun _=>FV.neq (i:=j0) (j:=k0) rfl rfl)<|AI (dk b0)<|MX.ifn rfl h (fun q0 h=>?_) (fun q0 h=>?_)
 refine Ao<|Av<|Al<|Ab (Bd (i:=i32) (j:=1) rfl rfl (by omega))<|Ac rfl<|Aa<|u0 (i32 + 1) d0 v0 h
 refine Ae<|Af rfl<|Aa ?_
 have h:=av h g0
 refine Am rfl<|AW hb0 func28 rfl rfl ?_
 cases h
 exact d0.gv
 refine AR rfl ?_
 have h:=aB h g0
 try dsimp only at h
 refine Ae<|Af rfl<|Aa<|Am rfl<|AW hb0 func28 rfl rfl ?_
 cases h
 exact d0.gv
 refine Ae<|Af rfl<|Aa<|Am rfl<|AW hb0 func28 rfl rfl ?_
 cases h
 exact hS0.gv
theorem el97:ElT Tryz.prog 97 42 (Rep.size (Int × Int)) 16 (.agg #[vI 0,vI 0]) [vI 0,vI 0]:=⟨underlying97,by kernel_rfl,rfl,rfl,rfl,rfl⟩
theorem gP:ElT Tryz.prog 35 63 (Rep.size Tc) 104 (.agg #[.string ⟨#[]⟩,vI 0,vN,vN,vN,.bool false]) [.string ⟨#[]⟩,vI 0,vN,vN,vN,.bool false]:=⟨underlying35,by kernel_rfl,rfl,rfl,rfl,rfl⟩
def aL_l1 (_n:Nat) (g0:List (Int × Int)) (j0:Nat × (List Tc) -> Option (List Tc)):Nat × (List Tc) -> Option (List Tc)
  | (b0,d0)=>(if b0 < g0.length then (g0[b0]?).bind fun c0=>(ig ⟨#[117]⟩ (chr (w32 ((97 + b0:Nat):Int)))).bind fun k0=>(app d0 ([(⟨k0,(10:Int),([]:List Int),([c0.1,c0.2]:List Int),([]:List Int),false⟩:Tc)]:List Tc)).bind fun p0=>j0 (b0 + 1,p0) else some d0)
def aL_p (n:Nat) (a0:List (Int × Int)):Option Tf:=
  jn (fun d0=>Option.bind (ap (aL_l1 n d0) n (0,([]:List Tc))) (fun c0=>some (⟨(0:Int),(2:Int),(0:Int),c0⟩:Tf))) (fun b0=>(if a0.length = 0 then b0 ([((6:Int),(2:Int)),((4:Int),(5:Int)),((3:Int),(3:Int))]:List (Int × Int)) else b0 a0))
theorem aL_c (n:Nat) {L w} (hL:hl L w) {a0:List (Int × Int)} {v0_0:Value} (h0_0:Rep.R w L [v0_0] a0)  {r:Tf} (h:aL_p n a0 = some r) :
 Cl 31 #[v0_0] w (aj w fun w' u=>∃ (v0_3:Value) (cs0_3:List Value),u = .agg #[vI r.fh,vI r.fc,vI r.fe,v0_3]/\St w w' (aH w.heap.size [(63,Rep.size Tc,v0_3,r.fq.length,cs0_3)])/\Cells w' (bl (aH w.heap.size [(63,Rep.size Tc,v0_3,r.fq.length,cs0_3)]) ++ L) cs0_3 (r.fq:List Tc)):=by
 unfold aL_p at h
 refine AC func31 rfl rfl rfl fun _ cs0 hb0=>Ae<|RG.nl [vI 0,vI 0,vI 0,vN] (Ax w) fun C2 t0 v0 s2=>Aa<|Aj<|Ae<|Ac rfl ?_
 have F0:=AQ h0_0 v0
 have x2:a0.length <= 281474976710656:=AT F0
 refine Ab (Bb (xs:=a0) underlying97 rfl F0)<|Ab (FV.eqlN (i:=a0.length) (j:=0) rfl rfl)<|Aa<|MX.jf (α:=(List (Int × Int)) × Value) (fun ⟨j0,s0⟩=>[(0,s0),(2,vP t0)]) (fun ⟨j0,s0⟩=>[.cells t0 [vI 0,vI 0,vI 0,vN] 37]) (fun ⟨j0,s0⟩ q1=>Rep.R q1 (bl [.cells t0 [vI 0,vI 0,vI 0,vN] 37] ++ L) [s0] j0) (fun ⟨j0,s0⟩=>j0) v0 h ?_ ?_
 rintro ⟨j0,s0⟩ q1 B1 u2 k1 h
 try dsimp only at h
 refine Ae<|Ab (AX (vs:=[vI 2]) (u:=.agg #[vI 0,vI 2,vI 0,vN]) (e1 rfl) (fun p=>by kernel_rfl))<|RG.nl [vI 0,vI 0,vI 0,vN] B1 fun M2 B0 C1 X0=>AV [vI 0,vI 2,vI 0,vN] C1 .hd (ao rfl) fun P2 P0 Y0=>Aa<|Aj<|Ae<|Ac rfl ?_
 have d1:=Ay k1 (Tt X0 Y0)
 have y2:j0.length <= 281474976710656:=AT d1
 refine Ab (Bb (xs:=j0) underlying97 rfl d1)<|Ac rfl<|Aa<|Ar ?_
 have E0:=P0.nilRow 63 (Rep.size Tc)
 have Q0:=E0.nilRow 63 (Rep.size Tc)
 have Z0:=St.nilRowT E0 63 (Rep.size Tc)
 have v2:=AD (cs:=[]) (xs:=([]:List Tc)) Q0 L (AU _ _)
 obtain ⟨B2,U1,P1⟩:=ar h
 refine MX.lf (α:=Nat × (List Tc) × Value × (List Value)) (fun ⟨c0,p0,d0,k0⟩=>[(2,vP t0),(3,vP B0),(14,s0),(15,vI ((j0.length:Nat):Int)),(16,vI ((c0:Nat):Int))]) (fun ⟨c0,p0,d0,k0⟩=>[rr w 63 Tc vN (([]:List Tc).length) [],rr w 63 Tc d0 p0.length k0,.cells B0 [vI 0,vI 2,vI 0,d0] 37,.cells t0 [vI 0,vI 0,vI 0,vN] 37]) (fun ⟨c0,p0,d0,k0⟩ p1=>Cells p1 (bl [rr w 63 Tc vN (([]:List Tc).length) [],rr w 63 Tc d0 p0.length k0,.cells B0 [vI 0,vI 2,vI 0,d0] 37,.cells t0 [vI 0,vI 0,vI 0,vN] 37] ++ L) k0 p0) (fun ⟨c0,p0,d0,k0⟩=>(c0,p0)) (0,([]:List Tc),vN,[]) U1 Q0 (AG (AD (cs:=[]) (xs:=([]:List Tc)) E0 L (AU _ _)) Z0) ?_
 rintro c2 ⟨c0,p0,d0,k0⟩ p1 x1 x0 R0 b1 h
 unfold aL_l1 at h
 try dsimp only at h
 refine Ae<|Ab (Bi (i:=c0) (j:=j0.length) rfl rfl)<|Aa<|Aj<|AJ rfl h (fun s1 h=>?_) (fun s1 h=>?_)
 refine Ao<|Aj<|Ar<|Ae<|Ac rfl<|bk h fun b0 X1 h=>?_
 obtain ⟨b2,p2,M1,Q1,q2,V1,R1⟩:=Bk (Ay k1 (Tt X0 (Tt Y0 (Tt (St.nilRowT P0 63 (Rep.size Tc)) (Tt Z0 R0))))) X1
 obtain rfl:=fT V1
 refine Ab (Ba 2 c0 rfl M1 rfl rfl Q1)<|Ab (AE rfl R1)<|RG.nl [vI 0,vI 0] x0 fun D2 j2 y1 D1=>Af rfl<|AV [vI b0.1,vI b0.2] y1 .hd (ao rfl) fun E2 y0 E1=>Aa<|Al<|Bl 3 rfl<|AK rfl ((y0.memA .t3) 3 _ rfl)<|Ac rfl<|Ab (Bd (i:=97) (j:=c0) rfl rfl (by omega))<|Ab (FV.conv32 (i:=((97 + c0:Nat):Int)) underlying3 underlying21 rfl)<|Ab (FV.conv32S (i:=w32 ((97 + c0:Nat):Int)) underlying21 underlying9 rfl)<|bk h fun g0 W1 h=>Ab (FV.addS W1 rfl rfl)<|Ab (AN (m:=1) (k:=0) (len:=2) rfl rfl rfl rfl (by omega))<|AK rfl ((y0.memA .hd) 0 _ rfl)<|Ab (AN (m:=1) (k:=1) (len:=2) rfl rfl rfl rfl (by omega))<|AK rfl ((y0.memA .hd) 1 _ rfl)<|Ak .plain rfl (Be (α:=Int) (xs:=([b0.1,b0.2]:List Int)) (vs:=[vI b0.1,vI b0.2]) (ds' :=[vI b0.1,vI b0.2]) rfl y0 bb rfl (e2 rfl rfl) (by kernel_rfl) rfl) fun F2 q0 u0 F1=>Ab (AX (vs:=[.string g0,vI 10,(vS q0 2)]) (u:=.agg #[.string g0,vI 10,vN,(vS q0 2),vN,.bool false]) (e3 rfl rfl rfl) (fun p=>by kernel_rfl)) ?_
 have z2:=Rep.nilAt (α:=Int) u0 L
 have C0:=St.delS u0 .hd
 have A2:=Rep.nilAt (α:=Int) C0 L
 refine Ak .plain rfl (Be (α:=Tc) (xs:=([(⟨g0,(10:Int),([]:List Int),([b0.1,b0.2]:List Int),([]:List Int),false⟩:Tc)]:List Tc)) (vs:=[.agg #[.string g0,vI 10,vN,(vS q0 2),vN,.bool false]]) (ds' :=[.string g0,vI 10,vN,(vS q0 2),vN,.bool false]) rfl C0 gP rfl (e1 rfl) (by kernel_rfl) rfl) fun G2 k2 z0 U0=>?_
 have j1:=Rep.nilAt (α:=Int) z0 L
 refine bk h fun Z1 Y1 h=>?_
 have g1:=Tt D1 (Tt E1 (Tt F1 (Tt (St.delT u0 .hd) U0)))
 refine RG.doesL .plain rfl (DoesL.app (α:=Tc) (ys:=([(⟨g0,(10:Int),([]:List Int),([b0.1,b0.2]:List Int),([]:List Int),false⟩:Tc)]:List Tc)) Y1 z0 (fun _ _=>.t3) gP rfl rfl (AG b1 g1) (Src.row (α:=Tc) z0 .hd (AD (cs:=[.string g0,vI 10,vN,(vS q0 2),vN,.bool false]) (xs:=(([(⟨g0,(10:Int),([]:List Int),([b0.1,b0.2]:List Int),([]:List Int),false⟩:Tc)]:List Tc):List Tc)) z0 L (Aq (cs:=[.string g0,vI 10,vN,(vS q0 2),vN,.bool false]) (ds:=[]) (iv g0 (10:Int) ([]:List Int) j1 ([b0.1,b0.2]:List Int) (Ay (Rep.at_ (α:=Int) (v:=(vS q0 2)) (xs:=([b0.1,b0.2]:List Int)) C0 L (Bt (α:=Int) u0 .hd (AD (cs:=[vI b0.1,vI b0.2]) (xs:=(([b0.1,b0.2]:List Int):List Int)) u0 L (Aq (cs:=[vI b0.1]) (ds:=[vI b0.2]) rfl (Aq (cs:=[vI b0.2]) (ds:=[]) rfl (AU _ _)))) hL)) U0) ([]:List Int) j1 false) (AU _ _))))) fun G0 H2 ⟨v1,D0,G1,K1⟩=>Bl 3 rfl<|RG.now .plain (Acts.store (j:=3) (old:=[vI 0,vI 2,vI 0,d0]) (news:=[G0]) (new' :=[vI 0,vI 2,vI 0,G0]) D0 .t4 rfl rfl rfl (St.c1 (α:=Tc) D0 .t3) rfl rfl (o1 (St.o1 (α:=Tc) D0 .t3)) rfl) fun I2 z1 V0=>Aa<|Av<|Al<|Ab (Bd (i:=c0) (j:=1) rfl rfl (by omega))<|Ac rfl<|Aa ?_
 obtain ⟨A1,W0⟩:=AL z1 .d2
 exact x1 (c0 + 1,Z1,G0,v1) A1 (Tt R0 (Tt g1 (Tt G1 (Tt V0 W0)))) (AG K1 (Tt V0 W0)) h
 refine AR rfl ?_
 have h:=P1 _ h
 try dsimp only at h
 refine Ae<|Ab (AE rfl (x0.memA .t2))<|AV [vI 0,vI 2,vI 0,d0] x0 .t3 (o4 rfl rfl rfl (St.o1 (α:=Tc) x0 .t1)) fun J2 J0 H1=>Aa<|Am rfl<|Ap (u:=.agg #[vI 0,vI 2,vI 0,d0]) hb0 func31 rfl (.cons (.many (cs:=[vI 0,vI 2,vI 0,d0]) rfl rfl (J0.memA .t3)) .nil) rfl ?_
 obtain ⟨K0,I1⟩:=AL J0 (.a1 .done)
 cases h
 exact ⟨K0.ag,fun p q=>⟨d0,k0,rfl,K0.agree q,Cells.keep0 (AG b1 (Tt H1 I1)) q⟩⟩
 intro g2 I0 h
 try dsimp only at h
 refine AJ rfl h (fun u1 h=>?_) (fun u1 h=>?_)
 refine Al<|Ab (AX (vs:=[vI 6,vI 2]) (u:=.agg #[vI 6,vI 2]) (e2 rfl rfl) (fun p=>by kernel_rfl))<|Ab (AX (vs:=[vI 4,vI 5]) (u:=.agg #[vI 4,vI 5]) (e2 rfl rfl) (fun p=>by kernel_rfl))<|Ab (AX (vs:=[vI 3,vI 3]) (u:=.agg #[vI 3,vI 3]) (e2 rfl rfl) (fun p=>by kernel_rfl))<|Ak .plain rfl (Be (α:=Int × Int) (xs:=([((6:Int),(2:Int)),((4:Int),(5:Int)),((3:Int),(3:Int))]:List (Int × Int))) (vs:=[.agg #[vI 6,vI 2],.agg #[vI 4,vI 5],.agg #[vI 3,vI 3]]) (ds' :=[vI 6,vI 2,vI 4,vI 5,vI 3,vI 3]) rfl v0 el97 rfl (e3 rfl rfl rfl) (by kernel_rfl) rfl) fun K2 H0 A0 J1=>Af rfl<|Aa ?_
 have M0:=St.delS A0 .hd
 exact I0 (([((6:Int),(2:Int)),((4:Int),(5:Int)),((3:Int),(3:Int))]:List (Int × Int)),(vS H0 3)) M0 (Tt J1 (St.delT A0 .hd)) (Rep.at_ (α:=Int × Int) (v:=(vS H0 3)) (xs:=([((6:Int),(2:Int)),((4:Int),(5:Int)),((3:Int),(3:Int))]:List (Int × Int))) M0 L (Bt (α:=Int × Int) A0 .hd (AD (cs:=[vI 6,vI 2,vI 4,vI 5,vI 3,vI 3]) (xs:=(([((6:Int),(2:Int)),((4:Int),(5:Int)),((3:Int),(3:Int))]:List (Int × Int)):List (Int × Int))) A0 L (Aq (cs:=[vI 6,vI 2]) (ds:=[vI 4,vI 5,vI 3,vI 3]) (ef (6:Int) (2:Int)) (Aq (cs:=[vI 4,vI 5]) (ds:=[vI 3,vI 3]) (ef (4:Int) (5:Int)) (Aq (cs:=[vI 3,vI 3]) (ds:=[]) (ef (3:Int) (3:Int)) (AU _ _))))) hL)) h
 refine Ao<|I0 (a0,v0_0) v0 (Tr.refl _ _) F0 h
def br_p (n:Nat) (a0:List Int) (a1:Int) (a2:List Int):Option Bool:=
  (ak_p n a0 a2).bind fun y1=>(if y1 = true then some (decide (a1 = 0)) else some false)
theorem br_c (n:Nat) {L w} (hL:hl L w) {a0:List Int} {v0_0:Value} (h0_0:Rep.R w L [v0_0] a0) {a1:Int} {a2:List Int} {v2_0:Value} (h2_0:Rep.R w L [v2_0] a2) {p2:Nat} (m2:∀ j9 v9,([v2_0]:List Value)[j9]? = some v9 -> w.cell? ((⟨p2,0,none⟩:Addr).add j9) = some v9)  {r:Bool} (h:br_p n a0 a1 a2 = some r) :
 Cl 81 #[v0_0,vI a1,.pointer (some ⟨p2,0,none⟩)] w (aj w fun _ u=>u = .bool r):=by
 unfold br_p at h
 have hS0:=Ax w
 refine AC func81 rfl rfl rfl fun _ cs0 hb0=>Ae<|Af rfl<|Aa<|Ae<|Ac rfl<|AK rfl ((fun j9 v9 h9=>hS0.ag.cell0 (m2 j9 v9 h9)) 0 _ rfl)<|bk h fun y1 hy1 h=>Bf (.bool y1) (bd 28) rfl (e2 rfl rfl) (fun p q=>ak_c n (hS0.hL0 hL q) (hS0.kd h0_0 q) (hS0.kd h2_0 q) hy1) rfl<|Ac rfl<|RG.ifb (s:=9) rfl h (fun c2 h=>?_) (fun c2 h=>?_)
 refine AP (Ai rfl)<|AP (FV.eql (i:=a1) (j:=0) rfl rfl)<|Bz rfl rfl<|Af rfl<|Aa<|Am rfl<|AW hb0 func81 rfl rfl ?_
 cases h
 exact hS0.gv
 refine Az<|Az<|RG.pf rfl rfl<|Af rfl<|Aa<|Am rfl<|AW hb0 func81 rfl rfl ?_
 cases h
 exact hS0.gv
theorem cx_c (_n:Nat) {L w} (_hL:hl L w) (a0:List Int) {v0_0:Value} (h0_0:Rep.R w L [v0_0] a0)  :
 Cl 32 #[v0_0] w (aj w fun w' u=>∃ b0:Nat,u = .func (.func 81) #[] #[vP b0]/\St w w' [.cells b0 [v0_0] 38]):=by
 refine AC func32 rfl rfl rfl fun _ cs0 hb0=>Ae<|RG.bx (Ax w) rfl (Rep.c1 h0_0) fun g0 b0 c0 d0=>Af rfl<|Aa<|Ae<|Ab (Bu (vs:=[]) (us:=[vP b0]) ah (e1 rfl))<|Af rfl<|Aa<|Am rfl<|Ap (u:=.func (.func 81) #[] #[vP b0]) hb0 func32 rfl (.cons (.tmp rfl) .nil) rfl<|⟨c0.ag,fun p q=>⟨b0,rfl,c0.agree q⟩⟩

theorem iG:ElT Tryz.prog 39 3 (Rep.size Int) 8 (vI 0) [vI 0]:=⟨underlying39,by kernel_rfl,rfl,rfl,rfl,rfl⟩
def bo_p (n:Nat):Option Bool:=
  (aL_p n ([]:List (Int × Int))).bind fun y1=>(ba_p n y1 ([(0:Int),(1:Int),(2:Int)]:List Int) (3:Int)).bind fun b0=>(ci_p n y1 ([(0:Int),(1:Int),(2:Int)]:List Int) (3:Int) (0:Int) (1:Int)).bind fun k0=>(ca_p n y1 ([(0:Int),(1:Int),(2:Int)]:List Int) (3:Int) (0:Int) (0:Int)).bind fun A0=>(ca_p n y1 ([(0:Int),(1:Int),(2:Int)]:List Int) (3:Int) (0:Int) (2:Int)).bind fun B0=>(bf_p n y1 ([(0:Int),(1:Int),(2:Int)]:List Int) (3:Int)).bind fun c0=>(br_p n c0.1 c0.2 ([(0:Int),(1:Int),(-1:Int)]:List Int)).bind fun p0=>(if p0 = true then (ak_p n b0.1 ([(1:Int),(1:Int)]:List Int)).bind fun q0=>(if q0 = true then (if b0.2.1 = 1 then (if b0.2.2 = 0 then (ca_p n y1 ([(0:Int),(1:Int),(2:Int)]:List Int) (3:Int) (0:Int) (1:Int)).bind fun d0=>(aS_p n d0.1 d0.2 (7:Int) (46:Int)).bind fun s0=>(if s0 = true then (cg_p n y1 ([(0:Int),(1:Int),(2:Int)]:List Int) (3:Int) (0:Int) (1:Int)).bind fun g0=>(aS_p n g0.1 g0.2 (7:Int) (108:Int)).bind fun t0=>(if t0 = true then (if k0.2 = 0 then (aN_p n (-1:Int) (4:Int)).bind fun u0=>(aN_p n (0:Int) (1:Int)).bind fun v0=>(aN_p n (1:Int) (18:Int)).bind fun x0=>(aq_p n k0.1 ([(⟨u0,(1:Int),(1:Int)⟩:Te),(⟨v0,(2:Int),(1:Int)⟩:Te),(⟨x0,(3:Int),(1:Int)⟩:Te)]:List Te)).bind fun y0=>(if y0 = true then (cq_p n y1 ([(0:Int),(1:Int),(2:Int)]:List Int) (3:Int) (0:Int) (1:Int)).bind fun j0=>(aS_p n j0.1 j0.2 (-1:Int) (6:Int)).bind fun z0=>(if z0 = true then (if A0.2 = 2 then some (decide (B0.2 = 2)) else some false) else some false) else some false) else some false) else some false) else some false) else some false) else some false) else some false) else some false)
theorem bo_c (n:Nat) {L w} (hL:hl L w)  {r:Bool} (h:bo_p n = some r) :
 Cl 10 #[] w (aj w fun _ u=>u = .bool r):=by
 unfold bo_p at h
 have hS0:=Ax w
 refine AC func10 rfl rfl rfl fun _ cs0 hb0=>Ae<|Af rfl<|Aa<|Ae<|bk h fun y1 hy1 h=>jE (bd 31) rfl (e1 rfl) (fun p q=>cg (b0:=w.heap.size) (aL_c n (hS0.hL hL q) (Au (Rep.nilAt (α:=Int × Int) hS0 L) q) hy1) q (Nat.le_trans hS0.ag.size q.size)) rfl fun w3 vu4 hag5 ⟨Z1,y2,hu7,s6,F2⟩=>?_
 subst hu7
 have hS8:=cD hS0 s6
 have hT9:=eA hS0 s6
 refine Ak .plain rfl (Be (α:=Int) (xs:=([(0:Int),(1:Int),(2:Int)]:List Int)) (vs:=[vI 0,vI 1,vI 2]) (ds' :=[vI 0,vI 1,vI 2]) rfl hS8 iG rfl (e3 rfl rfl rfl) (by kernel_rfl) rfl) fun k4 c2 E1 B2=>RG.nl [vI 0,vI 0,vI 0,vN] E1 fun q4 H3 F1 I1=>AV [vI y1.fh,vI y1.fc,vI y1.fe,Z1] F1 .hd (o4 rfl rfl rfl (St.o1 (α:=Tc) F1 .t2)) fun s4 P0 J1=>Af rfl<|Aa<|Ae<|Ab (AE rfl (P0.memA .hd))<|Ac rfl ?_
 have Q0:=St.delS P0 .t2
 have v0:=Rep.at_ (α:=Tc) (v:=Z1) (xs:=y1.fq) Q0 L (Bt (α:=Tc) P0 .t2 (AG (AD (cs:=y2) (xs:=(y1.fq:List Tc)) hS8 L (cj F2)) (Tt B2 (Tt I1 J1))) hL)
 have k1:=St.delS Q0 .t1
 have u1:=St.delT Q0 .t1
 have x0:=Rep.at_ (α:=Int) (v:=(vS c2 3)) (xs:=([(0:Int),(1:Int),(2:Int)]:List Int)) k1 L (Bt (α:=Int) Q0 .t1 (AG (AD (cs:=[vI 0,vI 1,vI 2]) (xs:=(([(0:Int),(1:Int),(2:Int)]:List Int):List Int)) E1 L (Aq (cs:=[vI 0]) (ds:=[vI 1,vI 2]) rfl (Aq (cs:=[vI 1]) (ds:=[vI 2]) rfl (Aq (cs:=[vI 2]) (ds:=[]) rfl (AU _ _))))) (Tt I1 (Tt J1 (St.delT P0 .t2)))) hL)
 refine bk h fun b2 k3 h=>jE (bd 27) rfl (e3 rfl rfl rfl) (fun p q=>ba_c n (k1.hL hL q) y1 (Au (Ay v0 u1) q) (Au x0 q) k3) rfl fun u4 c4 D2 ⟨U3,hu_,H2⟩=>?_
 subst hu_
 obtain ⟨p1,E0⟩:=k1.agr D2
 refine Ac rfl<|Ab (Ah rfl rfl)<|Ab (Ah rfl rfl)<|Ab (Ah rfl rfl)<|Af rfl<|Af rfl<|Af rfl<|Aa<|Ae<|Ab (AE rfl (p1.memA .hd))<|Ac rfl<|bk h fun E3 p3 h=>jE (bd 16) rfl (e5 rfl rfl rfl rfl rfl) (fun p q=>ci_c n (p1.hL hL q) y1 (Au (Ay v0 (Tt u1 E0)) q) (Au (Ay x0 E0) q) p3) rfl fun v4 d4 E2 ⟨V3,hu_,I2⟩=>?_
 subst hu_
 obtain ⟨z0,W0⟩:=p1.agr E2
 refine Ac rfl<|Ab (Ah rfl rfl)<|Ab (Ah rfl rfl)<|Af rfl<|Af rfl<|Aa<|Ae<|Ab (AE rfl (z0.memA .hd))<|Ac rfl<|bk h fun g1 q3 h=>?_
 have P1:=Tt u1 (Tt E0 W0)
 refine Bf (.tuple #[.agg ((aa g1.1)).toArray,vI g1.2]) (bd 12) rfl (e5 rfl rfl rfl rfl rfl) (fun p q=>ca_c n (z0.hL0 hL q) y1 (z0.kd (Ay v0 P1) q) (z0.kd (Ay x0 (Tt E0 W0)) q) q3) rfl<|Ac rfl<|Ab (Ah rfl rfl)<|Ab (Ah rfl rfl)<|RG.nl zL z0 fun x4 I3 z2 X0=>AV (aa g1.1) z2 .hd (ao rfl) fun y4 A0 Y0=>Af rfl<|Aa<|Ae<|Ab (AE rfl (A0.memA .t1))<|Ac rfl<|bk h fun j1 s3 h=>?_
 have Q1:=Tt P1 (Tt X0 Y0)
 have R1:=Tt E0 (Tt W0 (Tt X0 Y0))
 refine Bf (.tuple #[.agg ((aa j1.1)).toArray,vI j1.2]) (bd 12) rfl (e5 rfl rfl rfl rfl rfl) (fun p q=>ca_c n (A0.hL0 hL q) y1 (A0.kd (Ay v0 Q1) q) (A0.kd (Ay x0 R1) q) s3) rfl<|Ac rfl<|Ab (Ah rfl rfl)<|Ab (Ah rfl rfl)<|RG.nl zL A0 fun z4 J3 A2 Z0=>AV (aa j1.1) A2 .hd (ao rfl) fun A4 G1 b1=>Af rfl<|Aa<|Aj<|du 72 fun c0 d0=>Rx 2 4722366482869645213680 c0 rfl d0 (AE rfl (G1.memA .t2))<|Rv 3 c0 rfl d0 (fun _=>Ai rfl)<|RD.nu 0 13 c0 rfl .plain rfl (Be (α:=Int) (xs:=([(0:Int),(1:Int),(-1:Int)]:List Int)) (vs:=[vI 0,vI 1,vI (-1)]) (ds' :=[vI 0,vI 1,vI (-1)]) rfl G1 bb rfl (e3 rfl rfl rfl) (by kernel_rfl) rfl) fun x3 C1 R0 c1=>?_
 have U0:=St.delS R0 .hd
 have d1:=St.delT R0 .hd
 have U1:=Rep.at_ (α:=Int) (v:=(vS C1 3)) (xs:=([(0:Int),(1:Int),(-1:Int)]:List Int)) U0 L (Bt (α:=Int) R0 .hd (AD (cs:=[vI 0,vI 1,vI (-1)]) (xs:=(([(0:Int),(1:Int),(-1:Int)]:List Int):List Int)) R0 L (Aq (cs:=[vI 0]) (ds:=[vI 1,vI (-1)]) rfl (Aq (cs:=[vI 1]) (ds:=[vI (-1)]) rfl (Aq (cs:=[vI (-1)]) (ds:=[]) rfl (AU _ _))))) hL)
 refine BC 1 15 c0 rfl .plain (bd 32) rfl (e1 rfl) (fun p q=>Calls.gives (cx_c n (U0.hL hL q) ([(0:Int),(1:Int),(-1:Int)]:List Int) (Au U1 q)) fun (w8:World) (u8:Value) ⟨b0_,hu_,s_⟩=>(⟨b0_,hu_,s_.from q⟩:∃ M0:Nat,u8 = Value.func (.func 81) #[] #[vP M0]/\St x3 w8 [.cells M0 [(vS C1 3)] 38])) rfl fun B4 W3 K3 ⟨M0,J2,V1⟩=>?_
 subst J2
 have D1:=dC U0 V1
 have B0:=fQ U0 V1
 refine bk h fun C4 Q2 h=>?_
 have K1:=Tt Q1 (Tt Z0 (Tt b1 (Tt c1 (Tt d1 B0))))
 have M1:=Tt R1 (Tt Z0 (Tt b1 (Tt c1 (Tt d1 B0))))
 refine BC 4 31 c0 rfl .plain (bd 24) rfl (e3 rfl rfl rfl) (fun p q=>bf_c n (D1.hL hL q) y1 (Au (Ay v0 K1) q) (Au (Ay x0 M1) q) Q2) rfl fun g4 X3 C2 ⟨R3,hu_,G2⟩=>?_
 subst hu_
 obtain ⟨y0,C0⟩:=D1.agr C2
 refine Rv 5 c0 rfl d0 (fun _=>Ah rfl rfl)<|Rv 6 c0 rfl d0 (fun _=>Ah rfl rfl)<|bk h fun y3 R2 h=>RD.callq (i:=7) (m' :=255) (W:=4722366482869645213440) (tk c0) rfl d0 (v:=.bool y3) (fst:=[]) (cap:=[vP M0]) .plain (bd 81) rfl (e2 rfl rfl) (fun p q=>br_c n (y0.hL0 hL q) (y0.kd G2 q) (y0.kd (Ay U1 (Tt B0 C0)) q) (ac q (y0.memA .hd)) R2) rfl<|Rv 8 c0 rfl d0 (fun _=>Ai rfl)<|RD.ifb (s:=47) rfl h (fun d2 h=>?_) (fun d2 h=>?_)
 refine Bv 9 1023 c0 rfl d0 (.yes rfl rfl) (fun _=>Ai rfl) rfl<|RD.nu 10 2047 c0 rfl (.yes rfl rfl) rfl (Be (α:=Int) (xs:=([(1:Int),(1:Int)]:List Int)) (vs:=[vI 1,vI 1]) (ds' :=[vI 1,vI 1]) rfl y0 bb rfl (e2 rfl rfl) (by kernel_rfl) rfl) fun t3 F3 k0 V0=>bk h fun z3 U2 h=>RD.callq (i:=11) (m' :=4095) (W:=4722366482869645209600) (tk c0) rfl d0 (v:=.bool z3) (fst:=[]) (cap:=[]) (.yes rfl rfl) (bd 28) rfl (e2 rfl rfl) (fun p q=>ak_c n (k0.hL0 hL q) (k0.kd (Ay H2 (Tt W0 (Tt X0 (Tt Y0 (Tt Z0 (Tt b1 (Tt c1 (Tt d1 (Tt B0 (Tt C0 V0)))))))))) q) (Au (St.lend (α:=Int) (L:=L) k0 .hd (AD (cs:=[vI 1,vI 1]) (xs:=(([(1:Int),(1:Int)]:List Int):List Int)) k0 L (Aq (cs:=[vI 1]) (ds:=[vI 1]) rfl (Aq (cs:=[vI 1]) (ds:=[]) rfl (AU _ _)))) hL) q) U2) rfl<|Rv 12 c0 rfl d0 (fun _=>FV.pick_t rfl rfl)<|Rv 13 c0 rfl d0 (fun _=>Ai rfl)<|RD.ifb (s:=52) rfl h (fun g2 h=>?_) (fun g2 h=>?_)
 refine Bv 14 32767 c0 rfl d0 (.yes rfl rfl) (fun _=>Ai rfl) rfl<|Bv 15 65535 c0 rfl d0 (.yes rfl rfl) (fun _=>FV.eql (i:=b2.2.1) (j:=1) rfl rfl) rfl<|Rv 16 c0 rfl d0 (fun _=>FV.pick_t rfl rfl)<|Rv 17 c0 rfl d0 (fun _=>Ai rfl)<|RD.ifd (s:=56) rfl h (fun j2 h=>?_) (fun j2 h=>?_)
 refine Bv 18 524287 c0 rfl d0 (.yes rfl rfl) (fun _=>Ai rfl) rfl<|Bv 19 1048575 c0 rfl d0 (.yes rfl rfl) (fun _=>FV.eql (i:=b2.2.2) (j:=0) rfl rfl) rfl<|Rv 20 c0 rfl d0 (fun _=>FV.pick_t rfl rfl)<|Rv 21 c0 rfl d0 (fun _=>Ai rfl)<|RD.ifd (s:=60) rfl h (fun k2 h=>?_) (fun k2 h=>?_)
 refine RD.val (i:=23) (m' :=12582911) (W:=4722366482869611659264) (tk c0) rfl d0 (.yes rfl rfl) (AE rfl (k0.memA .t4)) rfl<|Bv 24 29360127 c0 rfl d0 (.yes rfl rfl) (fun _=>Ai rfl) rfl<|BC 22 33554431 c0 rfl (.yes rfl rfl) (bd 25) rfl (e2 rfl rfl) (fun p q=>Calls.gives (cm_c n (k0.hL hL q) (7:Int) (46:Int)) fun (w8:World) (u8:Value) ⟨b0_,b1_,hu_,s_⟩=>(⟨b0_,b1_,hu_,s_.from q⟩:∃ F0 G0:Nat,u8 = Value.func (.func 77) #[] #[vP F0,vP G0]/\St t3 w8 [.cells F0 [vI 7] 3,.cells G0 [vI 46] 3])) rfl fun u3 Y3 M3 ⟨F0,G0,K2,W1⟩=>?_
 subst K2
 have p0:=dE k0 W1
 have q1:=fX k0 W1
 refine bk h fun z1 V2 h=>?_
 have v1:=Tt K1 (Tt C0 (Tt V0 q1))
 have x1:=Tt M1 (Tt C0 (Tt V0 q1))
 refine RD.callq (i:=25) (m' :=67108863) (W:=4722366482869578104832) (tk c0) rfl d0 (v:=.tuple #[.agg ((aa z1.1)).toArray,vI z1.2]) (fst:=[]) (cap:=[]) (.yes rfl rfl) (bd 12) rfl (e5 rfl rfl rfl rfl rfl) (fun p q=>ca_c n (p0.hL0 hL q) y1 (p0.kd (Ay v0 v1) q) (p0.kd (Ay x0 x1) q) V2) rfl<|Bv 26 134217727 c0 rfl d0 (.yes rfl rfl) (fun _=>Ah rfl rfl) rfl<|Bv 27 268435455 c0 rfl d0 (.yes rfl rfl) (fun _=>Ah rfl rfl) rfl<|bk h fun A3 W2 h=>RD.callq (i:=28) (m' :=536870911) (W:=4722366482869108342784) (tk c0) rfl d0 (v:=.bool A3) (fst:=[]) (cap:=[vP F0,vP G0]) (.yes rfl rfl) (bd 77) rfl (e2 rfl rfl) (fun p q=>aS_c n (p0.hL0 hL q) z1.1 (ac q (p0.memA .hd)) (ac q (p0.memA .t1)) W2) rfl<|Rv 29 c0 rfl d0 (fun _=>FV.pick_t rfl rfl)<|Rv 30 c0 rfl d0 (fun _=>Ai rfl)<|RD.ifb (s:=69) rfl h (fun p2 h=>?_) (fun p2 h=>?_)
 refine RD.val (i:=32) (m' :=6442450943) (W:=4722366482852465344512) (tk c0) rfl d0 (.yes rfl rfl) (AE rfl (p0.memA .t6)) rfl<|Bv 33 15032385535 c0 rfl d0 (.yes rfl rfl) (fun _=>Ai rfl) rfl<|BC 31 17179869183 c0 rfl (.yes rfl rfl) (bd 25) rfl (e2 rfl rfl) (fun p q=>Calls.gives (cm_c n (p0.hL hL q) (7:Int) (108:Int)) fun (w8:World) (u8:Value) ⟨b0_,b1_,hu_,s_⟩=>(⟨b0_,b1_,hu_,s_.from q⟩:∃ H0 I0:Nat,u8 = Value.func (.func 77) #[] #[vP H0,vP I0]/\St u3 w8 [.cells H0 [vI 7] 3,.cells I0 [vI 108] 3])) rfl fun j4 Z3 P3 ⟨H0,I0,M2,X1⟩=>?_
 subst M2
 have g0:=dE p0 X1
 have D0:=fX p0 X1
 refine bk h fun A1 X2 h=>RD.callq (i:=34) (m' :=34359738367) (W:=4722366482835285475328) (tk c0) rfl d0 (v:=.tuple #[.agg ((aa A1.1)).toArray,vI A1.2]) (fst:=[]) (cap:=[]) (.yes rfl rfl) (bd 14) rfl (e5 rfl rfl rfl rfl rfl) (fun p q=>cg_c n (g0.hL0 hL q) y1 (g0.kd (Ay v0 (Tt v1 D0)) q) (g0.kd (Ay x0 (Tt x1 D0)) q) X2) rfl<|Bv 35 68719476735 c0 rfl d0 (.yes rfl rfl) (fun _=>Ah rfl rfl) rfl<|Bv 36 137438953471 c0 rfl d0 (.yes rfl rfl) (fun _=>Ah rfl rfl) rfl<|bk h fun B3 Y2 h=>RD.callq (i:=37) (m' :=274877906943) (W:=4722366482594767306752) (tk c0) rfl d0 (v:=.bool B3) (fst:=[]) (cap:=[vP H0,vP I0]) (.yes rfl rfl) (bd 77) rfl (e2 rfl rfl) (fun p q=>aS_c n (g0.hL0 hL q) A1.1 (ac q (g0.memA .hd)) (ac q (g0.memA .t1)) Y2) rfl<|Rv 38 c0 rfl d0 (fun _=>FV.pick_t rfl rfl)<|Rv 39 c0 rfl d0 (fun _=>Ai rfl)<|RD.ifb (s:=78) rfl h (fun q2 h=>?_) (fun q2 h=>?_)
 refine Bv 40 2199023255551 c0 rfl d0 (.yes rfl rfl) (fun _=>Ai rfl) rfl<|Bv 41 4398046511103 c0 rfl d0 (.yes rfl rfl) (fun _=>FV.eql (i:=E3.2) (j:=0) rfl rfl) rfl<|Rv 42 c0 rfl d0 (fun _=>FV.pick_t rfl rfl)<|Rv 43 c0 rfl d0 (fun _=>Ai rfl)<|RD.ifd (s:=82) rfl h (fun s2 h=>?_) (fun s2 h=>?_)
 refine Bv 44 35184372088831 c0 rfl d0 (.yes rfl rfl) (fun _=>Ai rfl) rfl<|bk h fun s0 Z2 h=>RD.callq (i:=45) (m' :=70368744177663) (W:=4722366412500901036032) (tk c0) rfl d0 (v:=.agg ((aa s0)).toArray) (fst:=[]) (cap:=[]) (.yes rfl rfl) (bd 33) rfl (e2 rfl rfl) (fun p q=>aN_c n (g0.hL0 hL q)  Z2) rfl<|Bv 46 140737488355327 c0 rfl d0 (.yes rfl rfl) (fun _=>AX (vs:=[.agg ((aa s0)).toArray,vI 1,vI 1]) (u:=.agg ((aa s0 ++ ([vI 1,vI 1]:List Value))).toArray) (e3 rfl rfl rfl) (fun p=>by kernel_rfl)) rfl<|bk h fun q0 b3 h=>RD.callq (i:=47) (m' :=281474976710655) (W:=4722366201394668503040) (tk c0) rfl d0 (v:=.agg ((aa q0)).toArray) (fst:=[]) (cap:=[]) (.yes rfl rfl) (bd 33) rfl (e2 rfl rfl) (fun p q=>aN_c n (g0.hL0 hL q)  b3) rfl<|Bv 48 562949953421311 c0 rfl d0 (.yes rfl rfl) (fun _=>AX (vs:=[.agg ((aa q0)).toArray,vI 2,vI 1]) (u:=.agg ((aa q0 ++ ([vI 2,vI 1]:List Value))).toArray) (e3 rfl rfl rfl) (fun p=>by kernel_rfl)) rfl<|bk h fun j0 c3 h=>RD.callq (i:=49) (m' :=1125899906842623) (W:=4722365356969738371072) (tk c0) rfl d0 (v:=.agg ((aa j0)).toArray) (fst:=[]) (cap:=[]) (.yes rfl rfl) (bd 33) rfl (e2 rfl rfl) (fun p q=>aN_c n (g0.hL0 hL q)  c3) rfl<|Bv 50 2251799813685247 c0 rfl d0 (.yes rfl rfl) (fun _=>AX (vs:=[.agg ((aa j0)).toArray,vI 3,vI 1]) (u:=.agg ((aa j0 ++ ([vI 3,vI 1]:List Value))).toArray) (e3 rfl rfl rfl) (fun p=>by kernel_rfl)) rfl<|RD.nu 51 4503599627370495 c0 rfl (.yes rfl rfl) rfl (Be (α:=Te) (xs:=([(⟨s0,(1:Int),(1:Int)⟩:Te),(⟨q0,(2:Int),(1:Int)⟩:Te),(⟨j0,(3:Int),(1:Int)⟩:Te)]:List Te)) (vs:=[.agg ((aa s0 ++ ([vI 1,vI 1]:List Value))).toArray,.agg ((aa q0 ++ ([vI 2,vI 1]:List Value))).toArray,.agg ((aa j0 ++ ([vI 3,vI 1]:List Value))).toArray]) (ds' :=(aa s0 ++ ([vI 1,vI 1]:List Value) ++ aa q0 ++ ([vI 2,vI 1]:List Value) ++ aa j0 ++ ([vI 3,vI 1]:List Value))) rfl g0 il rfl (e3 rfl rfl rfl) (by kernel_rfl) rfl) fun v3 G3 t0 s1=>bk h fun C3 d3 h=>RD.callq (i:=52) (m' :=9007199254740991) (W:=4722357475670390472704) (tk c0) rfl d0 (v:=.bool C3) (fst:=[]) (cap:=[]) (.yes rfl rfl) (bd 20) rfl (e2 rfl rfl) (fun p q=>aq_c n (t0.hL0 hL q) (t0.kd (Ay I2 (Tt X0 (Tt Y0 (Tt Z0 (Tt b1 (Tt c1 (Tt d1 (Tt B0 (Tt C0 (Tt V0 (Tt q1 (Tt D0 s1)))))))))))) q) (Au (St.lend (α:=Te) (L:=L) t0 .hd (AD (cs:=(aa s0 ++ ([vI 1,vI 1]:List Value) ++ aa q0 ++ ([vI 2,vI 1]:List Value) ++ aa j0 ++ ([vI 3,vI 1]:List Value))) (xs:=(([(⟨s0,(1:Int),(1:Int)⟩:Te),(⟨q0,(2:Int),(1:Int)⟩:Te),(⟨j0,(3:Int),(1:Int)⟩:Te)]:List Te):List Te)) t0 L (Aq (cs:=(aa s0 ++ ([vI 1,vI 1]:List Value))) (ds:=(aa q0 ++ ([vI 2,vI 1]:List Value) ++ aa j0 ++ ([vI 3,vI 1]:List Value))) (dz s0 (1:Int) (1:Int)) (Aq (cs:=(aa q0 ++ ([vI 2,vI 1]:List Value))) (ds:=(aa j0 ++ ([vI 3,vI 1]:List Value))) (dz q0 (2:Int) (1:Int)) (Aq (cs:=(aa j0 ++ ([vI 3,vI 1]:List Value))) (ds:=[]) (dz j0 (3:Int) (1:Int)) (AU _ _))))) hL) q) d3) rfl<|Rv 53 c0 rfl d0 (fun _=>FV.pick_t rfl rfl)<|Rv 54 c0 rfl d0 (fun _=>Ai rfl)<|RD.ifb (s:=93) rfl h (fun u2 h=>?_) (fun u2 h=>?_)
 refine RD.val (i:=56) (m' :=108086391056891903) (W:=4722078252493493501952) (tk c0) rfl d0 (.yes rfl rfl) (AE rfl (t0.memA .t9)) rfl<|Bv 57 252201579132747775 c0 rfl d0 (.yes rfl rfl) (fun _=>Ai rfl) rfl<|BC 55 288230376151711743 c0 rfl (.yes rfl rfl) (bd 25) rfl (e2 rfl rfl) (fun p q=>Calls.gives (cm_c n (t0.hL hL q) (-1:Int) (6:Int)) fun (w8:World) (u8:Value) ⟨b0_,b1_,hu_,s_⟩=>(⟨b0_,b1_,hu_,s_.from q⟩:∃ J0 K0:Nat,u8 = Value.func (.func 77) #[] #[vP J0,vP K0]/\St v3 w8 [.cells J0 [vI (-1)] 3,.cells K0 [vI 6] 3])) rfl fun p4 b4 Q3 ⟨J0,K0,P2,Y1⟩=>?_
 subst P2
 have u0:=dE t0 Y1
 have H1:=fX t0 Y1
 refine bk h fun B1 g3 h=>RD.callq (i:=58) (m' :=576460752303423487) (W:=4721790022117341790208) (tk c0) rfl d0 (v:=.tuple #[.agg ((aa B1.1)).toArray,vI B1.2]) (fst:=[]) (cap:=[]) (.yes rfl rfl) (bd 18) rfl (e5 rfl rfl rfl rfl rfl) (fun p q=>cq_c n (u0.hL0 hL q) y1 (u0.kd (Ay v0 (Tt v1 (Tt D0 (Tt s1 H1)))) q) (u0.kd (Ay x0 (Tt x1 (Tt D0 (Tt s1 H1)))) q) g3) rfl<|Bv 59 1152921504606846975 c0 rfl d0 (.yes rfl rfl) (fun _=>Ah rfl rfl) rfl<|Bv 60 2305843009213693951 c0 rfl d0 (.yes rfl rfl) (fun _=>Ah rfl rfl) rfl<|bk h fun D3 j3 h=>RD.callq (i:=61) (m' :=4611686018427387903) (W:=4717754796851217825792) (tk c0) rfl d0 (v:=.bool D3) (fst:=[]) (cap:=[vP J0,vP K0]) (.yes rfl rfl) (bd 77) rfl (e2 rfl rfl) (fun p q=>aS_c n (u0.hL0 hL q) B1.1 (ac q (u0.memA .hd)) (ac q (u0.memA .t1)) j3) rfl<|Rv 62 c0 rfl d0 (fun _=>FV.pick_t rfl rfl)<|Rv 63 c0 rfl d0 (fun _=>Ai rfl)<|RD.ifb (s:=102) rfl h (fun v2 h=>?_) (fun v2 h=>?_)
 refine Bv 64 36893488147419103231 c0 rfl d0 (.yes rfl rfl) (fun _=>Ai rfl) rfl<|Bv 65 73786976294838206463 c0 rfl d0 (.yes rfl rfl) (fun _=>FV.eql (i:=g1.2) (j:=2) rfl rfl) rfl<|Rv 66 c0 rfl d0 (fun _=>FV.pick_t rfl rfl)<|Rv 67 c0 rfl d0 (fun _=>Ai rfl)<|RD.ifd (s:=106) rfl h (fun x2 h=>?_) (fun x2 h=>?_)
 refine Bv 68 590295810358705651711 c0 rfl d0 (.yes rfl rfl) (fun _=>Ai rfl) rfl<|Bv 69 1180591620717411303423 c0 rfl d0 (.yes rfl rfl) (fun _=>FV.eql (i:=j1.2) (j:=2) rfl rfl) rfl<|Rv 70 c0 rfl d0 (fun _=>FV.pick_t rfl rfl)<|Rv 71 c0 rfl d0 (fun _=>Bh rfl)<|AI (dk c0)<|Am rfl<|AW hb0 func10 rfl rfl ?_
 cases h
 exact u0.gv
 refine AZ 1180591620717411303423 2 [(68,107),(69,108)] (F:=[(106,false)]) (U:=[]) c0 d0 (.cons rfl .nil) .nil ?_
 dsimp only [az,List.map]
 refine Rv 70 c0 rfl d0 (fun _=>AH rfl rfl)<|Rv 71 c0 rfl d0 (fun _=>Bh rfl)<|AI (dk c0)<|Am rfl<|AW hb0 func10 rfl rfl ?_
 cases h
 exact u0.gv
 refine AZ 73786976294838206463 6 [(64,103),(65,104)] (F:=[(102,false)]) (U:=[]) c0 d0 (.cons rfl .nil) .nil ?_
 dsimp only [az,List.map]
 refine Rv 66 c0 rfl d0 (fun _=>AH rfl rfl)<|Rv 67 c0 rfl d0 (fun _=>Ai rfl)<|AZ 1180591620717411303423 2 [(68,107),(69,108)] (F:=[(106,false)]) (U:=[]) c0 d0 (.cons rfl .nil) .nil ?_
 dsimp only [az,List.map]
 refine Rv 70 c0 rfl d0 (fun _=>AH rfl rfl)<|Rv 71 c0 rfl d0 (fun _=>Bh rfl)<|AI (dk c0)<|Am rfl<|AW hb0 func10 rfl rfl ?_
 cases h
 exact u0.gv
 refine AZ 4611686018427387903 10 [(55,94),(56,95),(57,96),(58,97),(59,98),(60,99),(61,100)] (F:=[(93,false)]) (U:=[]) c0 d0 (.cons rfl .nil) .nil ?_
 dsimp only [az,List.map]
 refine Rv 62 c0 rfl d0 (fun _=>AH rfl rfl)<|Rv 63 c0 rfl d0 (fun _=>Ai rfl)<|AZ 73786976294838206463 6 [(64,103),(65,104)] (F:=[(102,false)]) (U:=[]) c0 d0 (.cons rfl .nil) .nil ?_
 dsimp only [az,List.map]
 refine Rv 66 c0 rfl d0 (fun _=>AH rfl rfl)<|Rv 67 c0 rfl d0 (fun _=>Ai rfl)<|AZ 1180591620717411303423 2 [(68,107),(69,108)] (F:=[(106,false)]) (U:=[]) c0 d0 (.cons rfl .nil) .nil ?_
 dsimp only [az,List.map]
 refine Rv 70 c0 rfl d0 (fun _=>AH rfl rfl)<|Rv 71 c0 rfl d0 (fun _=>Bh rfl)<|AI (dk c0)<|Am rfl<|AW hb0 func10 rfl rfl ?_
 cases h
 exact t0.gv
 refine AZ 9007199254740991 19 [(44,83),(45,84),(46,85),(47,86),(48,87),(49,88),(50,89),(51,90),(52,91)] (F:=[(82,false)]) (U:=[]) c0 d0 (.cons rfl .nil) .nil ?_
 dsimp only [az,List.map]
 refine Rv 53 c0 rfl d0 (fun _=>AH rfl rfl)<|Rv 54 c0 rfl d0 (fun _=>Ai rfl)<|AZ 4611686018427387903 10 [(55,94),(56,95),(57,96),(58,97),(59,98),(60,99),(61,100)] (F:=[(93,false)]) (U:=[]) c0 d0 (.cons rfl .nil) .nil ?_
 dsimp only [az,List.map]
 refine Rv 62 c0 rfl d0 (fun _=>AH rfl rfl)<|Rv 63 c0 rfl d0 (fun _=>Ai rfl)<|AZ 73786976294838206463 6 [(64,103),(65,104)] (F:=[(102,false)]) (U:=[]) c0 d0 (.cons rfl .nil) .nil ?_
 dsimp only [az,List.map]
 refine Rv 66 c0 rfl d0 (fun _=>AH rfl rfl)<|Rv 67 c0 rfl d0 (fun _=>Ai rfl)<|AZ 1180591620717411303423 2 [(68,107),(69,108)] (F:=[(106,false)]) (U:=[]) c0 d0 (.cons rfl .nil) .nil ?_
 dsimp only [az,List.map]
 refine Rv 70 c0 rfl d0 (fun _=>AH rfl rfl)<|Rv 71 c0 rfl d0 (fun _=>Bh rfl)<|AI (dk c0)<|Am rfl<|AW hb0 func10 rfl rfl ?_
 cases h
 exact g0.gv
 refine AZ 4398046511103 30 [(40,79),(41,80)] (F:=[(78,false)]) (U:=[]) c0 d0 (.cons rfl .nil) .nil ?_
 dsimp only [az,List.map]
 refine Rv 42 c0 rfl d0 (fun _=>AH rfl rfl)<|Rv 43 c0 rfl d0 (fun _=>Ai rfl)<|AZ 9007199254740991 19 [(44,83),(45,84),(46,85),(47,86),(48,87),(49,88),(50,89),(51,90),(52,91)] (F:=[(82,false)]) (U:=[]) c0 d0 (.cons rfl .nil) .nil ?_
 dsimp only [az,List.map]
 refine Rv 53 c0 rfl d0 (fun _=>AH rfl rfl)<|Rv 54 c0 rfl d0 (fun _=>Ai rfl)<|AZ 4611686018427387903 10 [(55,94),(56,95),(57,96),(58,97),(59,98),(60,99),(61,100)] (F:=[(93,false)]) (U:=[]) c0 d0 (.cons rfl .nil) .nil ?_
 dsimp only [az,List.map]
 refine Rv 62 c0 rfl d0 (fun _=>AH rfl rfl)<|Rv 63 c0 rfl d0 (fun _=>Ai rfl)<|AZ 73786976294838206463 6 [(64,103),(65,104)] (F:=[(102,false)]) (U:=[]) c0 d0 (.cons rfl .nil) .nil ?_
 dsimp only [az,List.map]
 refine Rv 66 c0 rfl d0 (fun _=>AH rfl rfl)<|Rv 67 c0 rfl d0 (fun _=>Ai rfl)<|AZ 1180591620717411303423 2 [(68,107),(69,108)] (F:=[(106,false)]) (U:=[]) c0 d0 (.cons rfl .nil) .nil ?_
 dsimp only [az,List.map]
 refine Rv 70 c0 rfl d0 (fun _=>AH rfl rfl)<|Rv 71 c0 rfl d0 (fun _=>Bh rfl)<|AI (dk c0)<|Am rfl<|AW hb0 func10 rfl rfl ?_
 cases h
 exact g0.gv
 refine AZ 274877906943 34 [(31,70),(32,71),(33,72),(34,73),(35,74),(36,75),(37,76)] (F:=[(69,false)]) (U:=[]) c0 d0 (.cons rfl .nil) .nil ?_
 dsimp only [az,List.map]
 refine Rv 38 c0 rfl d0 (fun _=>AH rfl rfl)<|Rv 39 c0 rfl d0 (fun _=>Ai rfl)<|AZ 4398046511103 30 [(40,79),(41,80)] (F:=[(78,false)]) (U:=[]) c0 d0 (.cons rfl .nil) .nil ?_
 dsimp only [az,List.map]
 refine Rv 42 c0 rfl d0 (fun _=>AH rfl rfl)<|Rv 43 c0 rfl d0 (fun _=>Ai rfl)<|AZ 9007199254740991 19 [(44,83),(45,84),(46,85),(47,86),(48,87),(49,88),(50,89),(51,90),(52,91)] (F:=[(82,false)]) (U:=[]) c0 d0 (.cons rfl .nil) .nil ?_
 dsimp only [az,List.map]
 refine Rv 53 c0 rfl d0 (fun _=>AH rfl rfl)<|Rv 54 c0 rfl d0 (fun _=>Ai rfl)<|AZ 4611686018427387903 10 [(55,94),(56,95),(57,96),(58,97),(59,98),(60,99),(61,100)] (F:=[(93,false)]) (U:=[]) c0 d0 (.cons rfl .nil) .nil ?_
 dsimp only [az,List.map]
 refine Rv 62 c0 rfl d0 (fun _=>AH rfl rfl)<|Rv 63 c0 rfl d0 (fun _=>Ai rfl)<|AZ 73786976294838206463 6 [(64,103),(65,104)] (F:=[(102,false)]) (U:=[]) c0 d0 (.cons rfl .nil) .nil ?_
 dsimp only [az,List.map]
 refine Rv 66 c0 rfl d0 (fun _=>AH rfl rfl)<|Rv 67 c0 rfl d0 (fun _=>Ai rfl)<|AZ 1180591620717411303423 2 [(68,107),(69,108)] (F:=[(106,false)]) (U:=[]) c0 d0 (.cons rfl .nil) .nil ?_
 dsimp only [az,List.map]
 refine Rv 70 c0 rfl d0 (fun _=>AH rfl rfl)<|Rv 71 c0 rfl d0 (fun _=>Bh rfl)<|AI (dk c0)<|Am rfl<|AW hb0 func10 rfl rfl ?_
 cases h
 exact p0.gv
 refine AZ 536870911 43 [(22,61),(23,62),(24,63),(25,64),(26,65),(27,66),(28,67)] (F:=[(60,false)]) (U:=[]) c0 d0 (.cons rfl .nil) .nil ?_
 dsimp only [az,List.map]
 refine Rv 29 c0 rfl d0 (fun _=>AH rfl rfl)<|Rv 30 c0 rfl d0 (fun _=>Ai rfl)<|AZ 274877906943 34 [(31,70),(32,71),(33,72),(34,73),(35,74),(36,75),(37,76)] (F:=[(69,false)]) (U:=[]) c0 d0 (.cons rfl .nil) .nil ?_
 dsimp only [az,List.map]
 refine Rv 38 c0 rfl d0 (fun _=>AH rfl rfl)<|Rv 39 c0 rfl d0 (fun _=>Ai rfl)<|AZ 4398046511103 30 [(40,79),(41,80)] (F:=[(78,false)]) (U:=[]) c0 d0 (.cons rfl .nil) .nil ?_
 dsimp only [az,List.map]
 refine Rv 42 c0 rfl d0 (fun _=>AH rfl rfl)<|Rv 43 c0 rfl d0 (fun _=>Ai rfl)<|AZ 9007199254740991 19 [(44,83),(45,84),(46,85),(47,86),(48,87),(49,88),(50,89),(51,90),(52,91)] (F:=[(82,false)]) (U:=[]) c0 d0 (.cons rfl .nil) .nil ?_
 dsimp only [az,List.map]
 refine Rv 53 c0 rfl d0 (fun _=>AH rfl rfl)<|Rv 54 c0 rfl d0 (fun _=>Ai rfl)<|AZ 4611686018427387903 10 [(55,94),(56,95),(57,96),(58,97),(59,98),(60,99),(61,100)] (F:=[(93,false)]) (U:=[]) c0 d0 (.cons rfl .nil) .nil ?_
 dsimp only [az,List.map]
 refine Rv 62 c0 rfl d0 (fun _=>AH rfl rfl)<|Rv 63 c0 rfl d0 (fun _=>Ai rfl)<|AZ 73786976294838206463 6 [(64,103),(65,104)] (F:=[(102,false)]) (U:=[]) c0 d0 (.cons rfl .nil) .nil ?_
 dsimp only [az,List.map]
 refine Rv 66 c0 rfl d0 (fun _=>AH rfl rfl)<|Rv 67 c0 rfl d0 (fun _=>Ai rfl)<|AZ 1180591620717411303423 2 [(68,107),(69,108)] (F:=[(106,false)]) (U:=[]) c0 d0 (.cons rfl .nil) .nil ?_
 dsimp only [az,List.map]
 refine Rv 70 c0 rfl d0 (fun _=>AH rfl rfl)<|Rv 71 c0 rfl d0 (fun _=>Bh rfl)<|AI (dk c0)<|Am rfl<|AW hb0 func10 rfl rfl ?_
 cases h
 exact k0.gv
 refine AZ 1048575 52 [(18,57),(19,58)] (F:=[(56,false)]) (U:=[]) c0 d0 (.cons rfl .nil) .nil ?_
 dsimp only [az,List.map]
 refine Rv 20 c0 rfl d0 (fun _=>AH rfl rfl)<|Rv 21 c0 rfl d0 (fun _=>Ai rfl)<|AZ 536870911 43 [(22,61),(23,62),(24,63),(25,64),(26,65),(27,66),(28,67)] (F:=[(60,false)]) (U:=[]) c0 d0 (.cons rfl .nil) .nil ?_
 dsimp only [az,List.map]
 refine Rv 29 c0 rfl d0 (fun _=>AH rfl rfl)<|Rv 30 c0 rfl d0 (fun _=>Ai rfl)<|AZ 274877906943 34 [(31,70),(32,71),(33,72),(34,73),(35,74),(36,75),(37,76)] (F:=[(69,false)]) (U:=[]) c0 d0 (.cons rfl .nil) .nil ?_
 dsimp only [az,List.map]
 refine Rv 38 c0 rfl d0 (fun _=>AH rfl rfl)<|Rv 39 c0 rfl d0 (fun _=>Ai rfl)<|AZ 4398046511103 30 [(40,79),(41,80)] (F:=[(78,false)]) (U:=[]) c0 d0 (.cons rfl .nil) .nil ?_
 dsimp only [az,List.map]
 refine Rv 42 c0 rfl d0 (fun _=>AH rfl rfl)<|Rv 43 c0 rfl d0 (fun _=>Ai rfl)<|AZ 9007199254740991 19 [(44,83),(45,84),(46,85),(47,86),(48,87),(49,88),(50,89),(51,90),(52,91)] (F:=[(82,false)]) (U:=[]) c0 d0 (.cons rfl .nil) .nil ?_
 dsimp only [az,List.map]
 refine Rv 53 c0 rfl d0 (fun _=>AH rfl rfl)<|Rv 54 c0 rfl d0 (fun _=>Ai rfl)<|AZ 4611686018427387903 10 [(55,94),(56,95),(57,96),(58,97),(59,98),(60,99),(61,100)] (F:=[(93,false)]) (U:=[]) c0 d0 (.cons rfl .nil) .nil ?_
 dsimp only [az,List.map]
 refine Rv 62 c0 rfl d0 (fun _=>AH rfl rfl)<|Rv 63 c0 rfl d0 (fun _=>Ai rfl)<|AZ 73786976294838206463 6 [(64,103),(65,104)] (F:=[(102,false)]) (U:=[]) c0 d0 (.cons rfl .nil) .nil ?_
 dsimp only [az,List.map]
 refine Rv 66 c0 rfl d0 (fun _=>AH rfl rfl)<|Rv 67 c0 rfl d0 (fun _=>Ai rfl)<|AZ 1180591620717411303423 2 [(68,107),(69,108)] (F:=[(106,false)]) (U:=[]) c0 d0 (.cons rfl .nil) .nil ?_
 dsimp only [az,List.map]
 refine Rv 70 c0 rfl d0 (fun _=>AH rfl rfl)<|Rv 71 c0 rfl d0 (fun _=>Bh rfl)<|AI (dk c0)<|Am rfl<|AW hb0 func10 rfl rfl ?_
 cases h
 exact k0.gv
 refine AZ 65535 56 [(14,53),(15,54)] (F:=[(52,false)]) (U:=[]) c0 d0 (.cons rfl .nil) .nil ?_
 dsimp only [az,List.map]
 refine Rv 16 c0 rfl d0 (fun _=>AH rfl rfl)<|Rv 17 c0 rfl d0 (fun _=>Ai rfl)<|AZ 1048575 52 [(18,57),(19,58)] (F:=[(56,false)]) (U:=[]) c0 d0 (.cons rfl .nil) .nil ?_
 dsimp only [az,List.map]
 refine Rv 20 c0 rfl d0 (fun _=>AH rfl rfl)<|Rv 21 c0 rfl d0 (fun _=>Ai rfl)<|AZ 536870911 43 [(22,61),(23,62),(24,63),(25,64),(26,65),(27,66),(28,67)] (F:=[(60,false)]) (U:=[]) c0 d0 (.cons rfl .nil) .nil ?_
 dsimp only [az,List.map]
 refine Rv 29 c0 rfl d0 (fun _=>AH rfl rfl)<|Rv 30 c0 rfl d0 (fun _=>Ai rfl)<|AZ 274877906943 34 [(31,70),(32,71),(33,72),(34,73),(35,74),(36,75),(37,76)] (F:=[(69,false)]) (U:=[]) c0 d0 (.cons rfl .nil) .nil ?_
 dsimp only [az,List.map]
 refine Rv 38 c0 rfl d0 (fun _=>AH rfl rfl)<|Rv 39 c0 rfl d0 (fun _=>Ai rfl)<|AZ 4398046511103 30 [(40,79),(41,80)] (F:=[(78,false)]) (U:=[]) c0 d0 (.cons rfl .nil) .nil ?_
 dsimp only [az,List.map]
 refine Rv 42 c0 rfl d0 (fun _=>AH rfl rfl)<|Rv 43 c0 rfl d0 (fun _=>Ai rfl)<|AZ 9007199254740991 19 [(44,83),(45,84),(46,85),(47,86),(48,87),(49,88),(50,89),(51,90),(52,91)] (F:=[(82,false)]) (U:=[]) c0 d0 (.cons rfl .nil) .nil ?_
 dsimp only [az,List.map]
 refine Rv 53 c0 rfl d0 (fun _=>AH rfl rfl)<|Rv 54 c0 rfl d0 (fun _=>Ai rfl)<|AZ 4611686018427387903 10 [(55,94),(56,95),(57,96),(58,97),(59,98),(60,99),(61,100)] (F:=[(93,false)]) (U:=[]) c0 d0 (.cons rfl .nil) .nil ?_
 dsimp only [az,List.map]
 refine Rv 62 c0 rfl d0 (fun _=>AH rfl rfl)<|Rv 63 c0 rfl d0 (fun _=>Ai rfl)<|AZ 73786976294838206463 6 [(64,103),(65,104)] (F:=[(102,false)]) (U:=[]) c0 d0 (.cons rfl .nil) .nil ?_
 dsimp only [az,List.map]
 refine Rv 66 c0 rfl d0 (fun _=>AH rfl rfl)<|Rv 67 c0 rfl d0 (fun _=>Ai rfl)<|AZ 1180591620717411303423 2 [(68,107),(69,108)] (F:=[(106,false)]) (U:=[]) c0 d0 (.cons rfl .nil) .nil ?_
 dsimp only [az,List.map]
 refine Rv 70 c0 rfl d0 (fun _=>AH rfl rfl)<|Rv 71 c0 rfl d0 (fun _=>Bh rfl)<|AI (dk c0)<|Am rfl<|AW hb0 func10 rfl rfl ?_
 cases h
 exact k0.gv
 refine AZ 4095 60 [(9,48),(10,49),(11,50)] (F:=[(47,false)]) (U:=[]) c0 d0 (.cons rfl .nil) .nil ?_
 dsimp only [az,List.map]
 refine Rv 12 c0 rfl d0 (fun _=>AH rfl rfl)<|Rv 13 c0 rfl d0 (fun _=>Ai rfl)<|AZ 65535 56 [(14,53),(15,54)] (F:=[(52,false)]) (U:=[]) c0 d0 (.cons rfl .nil) .nil ?_
 dsimp only [az,List.map]
 refine Rv 16 c0 rfl d0 (fun _=>AH rfl rfl)<|Rv 17 c0 rfl d0 (fun _=>Ai rfl)<|AZ 1048575 52 [(18,57),(19,58)] (F:=[(56,false)]) (U:=[]) c0 d0 (.cons rfl .nil) .nil ?_
 dsimp only [az,List.map]
 refine Rv 20 c0 rfl d0 (fun _=>AH rfl rfl)<|Rv 21 c0 rfl d0 (fun _=>Ai rfl)<|AZ 536870911 43 [(22,61),(23,62),(24,63),(25,64),(26,65),(27,66),(28,67)] (F:=[(60,false)]) (U:=[]) c0 d0 (.cons rfl .nil) .nil ?_
 dsimp only [az,List.map]
 refine Rv 29 c0 rfl d0 (fun _=>AH rfl rfl)<|Rv 30 c0 rfl d0 (fun _=>Ai rfl)<|AZ 274877906943 34 [(31,70),(32,71),(33,72),(34,73),(35,74),(36,75),(37,76)] (F:=[(69,false)]) (U:=[]) c0 d0 (.cons rfl .nil) .nil ?_
 dsimp only [az,List.map]
 refine Rv 38 c0 rfl d0 (fun _=>AH rfl rfl)<|Rv 39 c0 rfl d0 (fun _=>Ai rfl)<|AZ 4398046511103 30 [(40,79),(41,80)] (F:=[(78,false)]) (U:=[]) c0 d0 (.cons rfl .nil) .nil ?_
 dsimp only [az,List.map]
 refine Rv 42 c0 rfl d0 (fun _=>AH rfl rfl)<|Rv 43 c0 rfl d0 (fun _=>Ai rfl)<|AZ 9007199254740991 19 [(44,83),(45,84),(46,85),(47,86),(48,87),(49,88),(50,89),(51,90),(52,91)] (F:=[(82,false)]) (U:=[]) c0 d0 (.cons rfl .nil) .nil ?_
 dsimp only [az,List.map]
 refine Rv 53 c0 rfl d0 (fun _=>AH rfl rfl)<|Rv 54 c0 rfl d0 (fun _=>Ai rfl)<|AZ 4611686018427387903 10 [(55,94),(56,95),(57,96),(58,97),(59,98),(60,99),(61,100)] (F:=[(93,false)]) (U:=[]) c0 d0 (.cons rfl .nil) .nil ?_
 dsimp only [az,List.map]
 refine Rv 62 c0 rfl d0 (fun _=>AH rfl rfl)<|Rv 63 c0 rfl d0 (fun _=>Ai rfl)<|AZ 73786976294838206463 6 [(64,103),(65,104)] (F:=[(102,false)]) (U:=[]) c0 d0 (.cons rfl .nil) .nil ?_
 dsimp only [az,List.map]
 refine Rv 66 c0 rfl d0 (fun _=>AH rfl rfl)<|Rv 67 c0 rfl d0 (fun _=>Ai rfl)<|AZ 1180591620717411303423 2 [(68,107),(69,108)] (F:=[(106,false)]) (U:=[]) c0 d0 (.cons rfl .nil) .nil ?_
 dsimp only [az,List.map]
 refine Rv 70 c0 rfl d0 (fun _=>AH rfl rfl)<|Rv 71 c0 rfl d0 (fun _=>Bh rfl)<|AI (dk c0)<|Am rfl<|AW hb0 func10 rfl rfl ?_
 cases h
 exact y0.gv
structure Tj where
  fN:UInt8
  fB:List UInt8
  fMore:List (UInt8 × UInt8)
  fLabels:List UInt8
  fK:UInt8
  deriving DecidableEq
instance:Rep Tj:=Rep.via (β:=UInt8 × (List UInt8) × (List (UInt8 × UInt8)) × (List UInt8) × UInt8) fun x=>(x.fN,x.fB,x.fMore,x.fLabels,x.fK)
def aP_p (_n:Nat) (a0:Tj):Option Int:=
  some ((1 + ((a0.fN % (9:UInt8)).toNat):Nat):Int)
theorem aP_c (n:Nat) {L w} (_hL:hl L w) (a0:Tj) {v0_1:Value} (_h0_1:Rep.R w L [v0_1] a0.fB) {v0_2:Value} (_h0_2:Rep.R w L [v0_2] a0.fMore) {v0_3:Value} (_h0_3:Rep.R w L [v0_3] a0.fLabels)  {r:Int} (h:aP_p n a0 = some r) :
 Cl 67 #[.agg #[.int .u8 (a0.fN.toNat:Int),v0_1,v0_2,v0_3,.int .u8 (a0.fK.toNat:Int)]] w (aj w fun _ u=>u = vI r):=by
 unfold aP_p at h
 refine AC func67 rfl rfl rfl fun _ cs0 hb0=>Ae<|RG.bx (Ax w) rfl rfl fun j0 c0 b0 d0=>Af rfl<|Aa<|Ae<|Bl 0 rfl<|AK rfl ((b0.memA .hd) 0 _ rfl)<|Ab (FV.rem8 (a:=a0.fN) (b:=(9:UInt8)) rfl rfl (by decide)) ?_
 have g0:=(a0.fN % (9:UInt8)).toNat_lt
 refine Ab (FV.convN (i:=(a0.fN % (9:UInt8)).toNat) underlying5 underlying3 rfl (by omega))<|Ab (Bd (i:=1) (j:=(a0.fN % (9:UInt8)).toNat) rfl rfl (by omega))<|Af rfl<|Aa<|Am rfl<|AW hb0 func67 rfl rfl ?_
 cases h
 exact b0.gv
def aE_p (_n:Nat) (a0:Tj) (a1:Int):Option Int:=
  (if a1 < ((a0.fLabels.length:Nat):Int) then (idx a0.fLabels a1).bind fun b0=>some ((b0.toNat:Nat):Int) else some (0:Int))
theorem aE_c (n:Nat) {L w} (_hL:hl L w) (a0:Tj) {v0_1:Value} (_h0_1:Rep.R w L [v0_1] a0.fB) {v0_2:Value} (_h0_2:Rep.R w L [v0_2] a0.fMore) {v0_3:Value} (h0_3:Rep.R w L [v0_3] a0.fLabels) {a1:Int}  {r:Int} (h:aE_p n a0 a1 = some r) :
 Cl 68 #[.agg #[.int .u8 (a0.fN.toNat:Int),v0_1,v0_2,v0_3,.int .u8 (a0.fK.toNat:Int)],vI a1] w (aj w fun _ u=>u = vI r):=by
 unfold aE_p at h
 refine AC func68 rfl rfl rfl fun _ cs0 hb0=>Ae<|RG.bx (Ax w) rfl rfl fun E0 z0 b0 B0=>Af rfl<|Aa<|Aj<|Ae<|Ac rfl<|Bl 3 rfl<|AK rfl ((b0.memA .hd) 3 _ rfl) ?_
 have c0:=AQ h0_3 b0
 have C0:a0.fLabels.length <= 281474976710656:=AT c0
 refine Ab (Bb (xs:=a0.fLabels) underlying22 rfl c0)<|Ab (FV.lss (i:=a1) (j:=((a0.fLabels.length:Nat):Int)) rfl rfl)<|Aa<|AJ rfl h (fun g0 h=>?_) (fun g0 h=>?_)
 refine Ae<|Bl 3 rfl<|AK rfl ((b0.memA .hd) 3 _ rfl)<|Ac rfl<|bk h fun d0 v0 h=>?_
 obtain ⟨q0,x0⟩:=aD v0
 obtain ⟨y0,A0,k0,s0,j0,u0,t0⟩:=Bk c0 x0
 have p0:j0 = [.int .u8 (d0.toNat:Int)]:=u0; subst p0
 refine Ab (Ba 1 (a1.toNat) rfl k0 rfl q0 s0)<|AK rfl (t0 0 _ rfl) ?_
 have D0:=d0.toNat_lt
 refine Ab (FV.convN (i:=d0.toNat) underlying5 underlying3 rfl (by omega))<|Af rfl<|Aa<|Am rfl<|AW hb0 func68 rfl rfl ?_
 cases h
 exact b0.gv
 refine Ao<|Ae<|Af rfl<|Aa<|Am rfl<|AW hb0 func68 rfl rfl ?_
 cases h
 exact b0.gv
def ax_l1 (_n:Nat) (a0:List Int) (a1:Int) (d0:Nat -> Option (Bool ⊕ Unit)):Nat -> Option (Bool ⊕ Unit)
  | b0=>(if b0 < a0.length then (a0[b0]?).bind fun c0=>(if c0 < 0 then some (.inl false) else (if a1 <= c0 then some (.inl false) else d0 (b0 + 1))) else some (.inr ()))
def ax_p (n:Nat) (a0:List Int) (a1:Int):Option Bool:=
  thn (ap (ax_l1 n a0 a1) n 0) (fun _=>(if 1 <= a0.length then some (decide (a0.length <= 64)) else some false))
theorem ax_c (n:Nat) {L w} (_hL:hl L w) {a0:List Int} {v0_0:Value} (h0_0:Rep.R w L [v0_0] a0) {a1:Int}  {r:Bool} (h:ax_p n a0 a1 = some r) :
 Cl 106 #[v0_0,vI a1] w (aj w fun _ u=>u = .bool r):=by
 unfold ax_p at h
 refine AC func106 rfl rfl rfl fun _ cs0 hb0=>Ae<|Af rfl<|Aa<|Aj<|Ae<|Af rfl<|Aa<|Ar<|tn h fun I0 B0 g0=>MX.lo (α:=Nat) (fun b0=>[(0,v0_0),(1,vI a1),(5,vI ((b0:Nat):Int))]) (fun b0=>[]) (fun b0=>b0) 0 B0 (Ax w) ?_
 rintro F0 b0 J0 y0 c0 z0 h
 unfold ax_l1 at h
 try dsimp only at h
 refine Aj<|Ae<|Ac rfl<|Ac rfl ?_
 have d0:=AQ h0_0 c0
 have H0:a0.length <= 281474976710656:=AT d0
 refine Ab (Bb (xs:=a0) underlying39 rfl d0)<|Ab (Bi (i:=b0) (j:=a0.length) rfl rfl)<|Aa<|AJ rfl h (fun s0 h=>?_) (fun s0 h=>?_)
 refine Ao<|Aj<|Ar<|Ae<|Ac rfl<|Ac rfl<|bk h fun j0 D0 h=>?_
 obtain ⟨E0,G0,k0,p0,x0,C0,q0⟩:=Bk d0 D0
 have A0:x0 = [vI j0]:=C0; subst A0
 refine Ab (Ba 1 b0 rfl k0 rfl rfl p0)<|AK rfl (q0 0 _ rfl)<|Ab (FV.lss (i:=j0) (j:=0) rfl rfl)<|Ac rfl<|RG.ifd (s:=17) rfl h (fun t0 h=>?_) (fun t0 h=>?_)
 refine Az<|Az<|Az<|Az<|Az<|Az<|Bz rfl rfl<|Aa<|Bs rfl<|Ae<|Af rfl<|Aa ?_
 have h:=av h g0
 refine Am rfl<|AW hb0 func106 rfl rfl ?_
 cases h
 exact c0.gv
 refine AP (Ai rfl)<|AP (Ai rfl)<|AP (Ba 1 b0 rfl k0 rfl rfl p0)<|AP (AY rfl (q0 0 _ rfl))<|AP (Ai rfl)<|AP (FV.geq (i:=j0) (j:=a1) rfl rfl)<|RG.pf rfl rfl<|Aa<|AJ rfl h (fun u0 h=>?_) (fun u0 h=>?_)
 refine Ae<|Af rfl<|Aa ?_
 have h:=av h g0
 refine Am rfl<|AW hb0 func106 rfl rfl ?_
 cases h
 exact c0.gv
 refine Ao<|Av<|Al<|Ac rfl<|Ab (Bd (i:=b0) (j:=1) rfl rfl (by omega))<|Af rfl<|Aa<|y0 (b0 + 1) c0 z0 h
 refine AR rfl ?_
 have h:=aB h g0
 try dsimp only at h
 refine Ae<|Ac rfl<|Ab (Bb (xs:=a0) underlying39 rfl d0)<|Ab (FV.geqN (i:=a0.length) (j:=1) rfl rfl)<|Ac rfl<|RG.ifd (s:=28) rfl h (fun v0 h=>?_) (fun v0 h=>?_)
 refine AP (Ai rfl)<|AP (Bb (xs:=a0) underlying39 rfl d0)<|AP (FV.leqN (i:=a0.length) (j:=64) rfl rfl)<|Bz rfl rfl<|Af rfl<|Aa<|Am rfl<|AW hb0 func106 rfl rfl ?_
 cases h
 exact c0.gv
 refine Az<|Az<|Az<|RG.pf rfl rfl<|Af rfl<|Aa<|Am rfl<|AW hb0 func106 rfl rfl ?_
 cases h
 exact c0.gv
def az_l1 (_n:Nat) (a0:List Int) (q0:Int × Nat × (List Int) × (List Int) -> Option (List Int)):Int × Nat × (List Int) × (List Int) -> Option (List Int)
  | (g0,b0,k0,d0)=>(if b0 < a0.length then (a0[b0]?).bind fun c0=>(idx d0 c0).bind fun t0=>jn (fun (y0,p0)=>(idx p0 c0).bind fun u0=>(app k0 ([u0]:List Int)).bind fun v0=>q0 (y0,b0 + 1,v0,p0)) (fun j0=>(if t0 < 0 then (put d0 ((c0.toNat:Nat):Int) g0).bind fun x0=>(chk (g0 + 1)).bind fun s0=>j0 (s0,x0) else j0 (g0,d0))) else some k0)
def az_p (n:Nat) (a0:List Int):Option ((List Int) × Int):=
  (ax_p n a0 (8:Int)).bind fun y1=>(if y1 = true then Option.bind (ap (az_l1 n a0) n (0,0,([]:List Int),([(-1:Int),(-1:Int),(-1:Int),(-1:Int),(-1:Int),(-1:Int),(-1:Int),(-1:Int)]:List Int))) (fun b0=>some (b0,(0:Int))) else some (([]:List Int),(210:Int)))
theorem az_c (n:Nat) {L w} (hL:hl L w) {a0:List Int} {v0_0:Value} (h0_0:Rep.R w L [v0_0] a0)  {r:(List Int) × Int} (h:az_p n a0 = some r) :
 Cl 69 #[v0_0] w (aj w fun w' u=>∃ v0_0:Value,u = .tuple #[v0_0,vI r.2]/\Rep.R w' L [v0_0] r.1):=by
 unfold az_p at h
 have hS0:=Ax w
 refine AC func69 rfl rfl rfl fun _ cs0 hb0=>Ae<|Af rfl<|Af rfl<|Aa<|Aj<|Ae<|Ac rfl<|bk h fun y1 hy1 h=>Bf (.bool y1) (bd 106) rfl (e2 rfl rfl) (fun p q=>ax_c n (hS0.hL0 hL q) (hS0.kd h0_0 q) hy1) rfl<|Ab (BB rfl)<|Aa<|MX.ifnb rfl h (fun c2 h=>?_) (fun c2 h=>?_)
 refine Ao<|Ae<|Ak .plain rfl (Be (α:=Int) (xs:=([(-1:Int),(-1:Int),(-1:Int),(-1:Int),(-1:Int),(-1:Int),(-1:Int),(-1:Int)]:List Int)) (vs:=[vI (-1),vI (-1),vI (-1),vI (-1),vI (-1),vI (-1),vI (-1),vI (-1)]) (ds' :=[vI (-1),vI (-1),vI (-1),vI (-1),vI (-1),vI (-1),vI (-1),vI (-1)]) rfl hS0 bb rfl (e8 rfl rfl rfl rfl rfl rfl rfl rfl) (by kernel_rfl) rfl) fun g3 v0 B0 Z2=>Af rfl<|Aa<|Ae<|Af rfl<|Aa<|Ae<|Af rfl<|Aa<|Aj<|Ae<|Af rfl<|Aa<|Ar ?_
 have K0:=B0.nilRow 3 (Rep.size Int)
 obtain ⟨d3,p2,Z1⟩:=ar h
 refine MX.lf (α:=Int × Nat × (List Int) × (List Int) × Value × (List Value) × (List Value)) (fun ⟨u0,b0,d0,j0,c0,g0,k0⟩=>[(0,v0_0),(4,(vS v0 8)),(5,vI u0),(6,c0),(7,vI ((b0:Nat):Int))]) (fun ⟨u0,b0,d0,j0,c0,g0,k0⟩=>[rr w 3 Int c0 d0.length g0,rr w 3 Int (vS v0 8) j0.length k0]) (fun ⟨u0,b0,d0,j0,c0,g0,k0⟩ I0=>Cells I0 (bl [rr w 3 Int c0 d0.length g0,rr w 3 Int (vS v0 8) j0.length k0] ++ L) g0 d0/\Cells I0 (bl [rr w 3 Int c0 d0.length g0,rr w 3 Int (vS v0 8) j0.length k0] ++ L) k0 j0) (fun ⟨u0,b0,d0,j0,c0,g0,k0⟩=>(u0,b0,d0,j0)) (0,0,([]:List Int),([(-1:Int),(-1:Int),(-1:Int),(-1:Int),(-1:Int),(-1:Int),(-1:Int),(-1:Int)]:List Int),vN,[],[vI (-1),vI (-1),vI (-1),vI (-1),vI (-1),vI (-1),vI (-1),vI (-1)]) p2 K0 ⟨(AD (cs:=[]) (xs:=([]:List Int)) K0 L (AU _ _)),(AG (AD (cs:=[vI (-1),vI (-1),vI (-1),vI (-1),vI (-1),vI (-1),vI (-1),vI (-1)]) (xs:=(([(-1:Int),(-1:Int),(-1:Int),(-1:Int),(-1:Int),(-1:Int),(-1:Int),(-1:Int)]:List Int):List Int)) B0 L (Aq (cs:=[vI (-1)]) (ds:=[vI (-1),vI (-1),vI (-1),vI (-1),vI (-1),vI (-1),vI (-1)]) rfl (Aq (cs:=[vI (-1)]) (ds:=[vI (-1),vI (-1),vI (-1),vI (-1),vI (-1),vI (-1)]) rfl (Aq (cs:=[vI (-1)]) (ds:=[vI (-1),vI (-1),vI (-1),vI (-1),vI (-1)]) rfl (Aq (cs:=[vI (-1)]) (ds:=[vI (-1),vI (-1),vI (-1),vI (-1)]) rfl (Aq (cs:=[vI (-1)]) (ds:=[vI (-1),vI (-1),vI (-1)]) rfl (Aq (cs:=[vI (-1)]) (ds:=[vI (-1),vI (-1)]) rfl (Aq (cs:=[vI (-1)]) (ds:=[vI (-1)]) rfl (Aq (cs:=[vI (-1)]) (ds:=[]) rfl (AU _ _)))))))))) (St.nilRowT B0 3 (Rep.size Int)))⟩ ?_
 rintro M2 ⟨u0,b0,d0,j0,c0,g0,k0⟩ I0 F1 p0 J1 ⟨R0,E0⟩ h
 unfold az_l1 at h
 try dsimp only at h
 refine Aj<|Ae<|Ac rfl<|Ac rfl ?_
 have H0:=AQ h0_0 p0
 have c3:a0.length <= 281474976710656:=AT H0
 refine Ab (Bb (xs:=a0) underlying39 rfl H0)<|Ab (Bi (i:=b0) (j:=a0.length) rfl rfl)<|Aa<|AJ rfl h (fun v1 h=>?_) (fun v1 h=>?_)
 refine Ao<|Aj<|Ar<|Aj<|Ae<|Ac rfl<|Ac rfl<|Ac rfl<|bk h fun y0 g1 h=>?_
 obtain ⟨J2,R2,V0,Y0,z1,q2,b1⟩:=Bk H0 g1
 have R1:z1 = [vI y0]:=q2; subst R1
 refine Ab (Ba 1 b0 rfl V0 rfl rfl Y0)<|AK rfl (b1 0 _ rfl)<|bk h fun k1 z2 h=>?_
 obtain ⟨X0,A2⟩:=aD z2
 obtain ⟨p1,U2,A0,G0,A1,s2,g2⟩:=St.nth (α:=Int) p0 .t1 E0 A2
 obtain ⟨s1,V2,W0⟩:=Bp (α:=Int) p0 .t1 G0
 obtain rfl:p1 = ⟨s1,0,none⟩:=by rw [W0] at A0; cases A0; rfl
 have U1:A1 = [vI k1]:=s2; subst U1
 refine Ab (Ba 1 (y0.toNat) rfl A0 rfl X0 G0)<|AK rfl (g2 0 _ rfl)<|Ab (FV.lss (i:=k1) (j:=0) rfl rfl)<|Aa<|MX.jf (α:=Int × (List Int) × (List Value)) (fun ⟨x0,q0,s0⟩=>[(0,v0_0),(4,(vS v0 8)),(5,vI x0),(6,c0),(7,vI ((b0:Nat):Int))]) (fun ⟨x0,q0,s0⟩=>[rr w 3 Int c0 d0.length g0,rr w 3 Int (vS v0 8) q0.length s0]) (fun ⟨x0,q0,s0⟩ j1=>Cells j1 (bl [rr w 3 Int c0 d0.length g0,rr w 3 Int (vS v0 8) q0.length s0] ++ L) s0 q0) (fun ⟨x0,q0,s0⟩=>(x0,q0)) p0 h ?_ ?_
 rintro ⟨x0,q0,s0⟩ j1 z0 M0 U0 h
 try dsimp only at h
 refine Al<|Ac rfl<|Ac rfl<|Ac rfl<|Ac rfl ?_
 obtain ⟨K2,W2,V1,d2,B1,t2,j2⟩:=Bk (AQ h0_0 z0) g1
 have W1:B1 = [vI y0]:=t2; subst W1
 refine Ab (Ba 1 b0 rfl V1 rfl rfl d2)<|AK rfl (j2 0 _ rfl)<|bk h fun t0 B2 h=>?_
 obtain ⟨b2,C2⟩:=aD B2
 obtain ⟨q1,X2,F0,Z0,C1,u2,k2⟩:=St.nth (α:=Int) z0 .t1 U0 C2
 obtain ⟨u1,Y2,X1⟩:=Bp (α:=Int) z0 .t1 Z0
 obtain rfl:q1 = ⟨u1,0,none⟩:=by rw [X1] at F0; cases F0; rfl
 have Y1:C1 = [vI t0]:=u2; subst Y1
 refine Ab (Ba 1 (y0.toNat) rfl F0 rfl b2 Z0)<|AK rfl (k2 0 _ rfl)<|Ak .plain rfl (jA t0 (vI t0) z0 iG (e1 rfl)) fun j3 Q2 C0 P0=>bk h fun H2 D2 h=>RG.doesL .plain rfl (DoesL.app (α:=Int) (ys:=([t0]:List Int)) D2 C0 (fun _ _=>.t1) iG rfl rfl (AG R0 (Tt M0 P0)) (Src.row (α:=Int) C0 .hd (jC t0 (vI t0) C0 L rfl))) fun G2 k3 ⟨D1,G1,K1,P1⟩=>Af rfl<|Aa<|Av<|Al<|Ac rfl<|Ab (Bd (i:=b0) (j:=1) rfl rfl (by omega))<|Af rfl<|Aa ?_
 obtain ⟨H1,Q0⟩:=AL G1 .d1
 have c1:=Tt P0 (Tt K1 Q0)
 exact F1 (x0,b0 + 1,H2,q0,G2,D1,s0) H1 (Tt J1 (Tt M0 c1)) ⟨(AG P1 Q0),(AG U0 c1)⟩ h
 intro P2 J0 h
 try dsimp only at h
 refine AJ rfl h (fun x1 h=>?_) (fun x1 h=>?_)
 refine Ae<|Ac rfl<|Ac rfl<|Ac rfl<|Ab (Ba 1 b0 rfl V0 rfl rfl Y0)<|AK rfl (b1 0 _ rfl)<|Ac rfl<|Ab (Ba 1 (y0.toNat) rfl A0 rfl X0 G0)<|bk h fun I2 E2 h=>RG.acts' .plain (Acts.set (α:=Int) (i:=y0.toNat) E2 p0 W0 (fun _=>.t1) E0 rfl rfl rfl rfl rfl rfl) fun p3 ⟨E1,I1,M1,Q1⟩=>Aa<|Al<|Ac rfl<|bk h fun F2 y2 h=>Ab (Br (i:=u0) (j:=1) rfl rfl y2)<|Af rfl<|Aa<|J0 (F2,I2,E1) I1 M1 Q1 h
 refine Ao<|J0 (u0,j0,k0) p0 (Tr.refl _ _) E0 h
 refine AR rfl ?_
 have h:=Z1 _ h
 try dsimp only at h
 refine Ae<|Ac rfl<|Af rfl<|Af rfl<|Aa<|Am rfl ?_
 have D0:=St.delS p0 .hd
 have b3:=St.delT p0 .hd
 have v2:=Rep.at_ (α:=Int) (v:=c0) (xs:=d0) D0 L (Bt (α:=Int) p0 .hd R0 hL)
 refine Ap hb0 func69 rfl (.cons (.tmp rfl) (.cons (.tmp rfl) .nil)) rfl ?_
 cases h
 exact ⟨D0.ag,fun p q=>⟨c0,rfl,D0.kd v2 q⟩⟩
 refine Ae<|Af rfl<|Af rfl<|Aa<|Am rfl ?_
 have x2:=Rep.nilAt (α:=Int) hS0 L
 refine Ap hb0 func69 rfl (.cons (.tmp rfl) (.cons (.tmp rfl) .nil)) rfl ?_
 cases h
 exact ⟨hS0.ag,fun p q=>⟨vN,rfl,hS0.kd x2 q⟩⟩
def ac_l1 (_n:Nat) (c0:(List Int) × Int) (g0:Int × Nat -> Option Int):Int × Nat -> Option Int
  | (d0,b0)=>(if b0 < c0.1.length then (c0.1[b0]?).bind fun k0=>(chk (k0 + 1)).bind fun j0=>g0 (max d0 j0,b0 + 1) else some d0)
def ac_l2 (n:Nat) (a0:Tj) (d0:Int × (List Int) -> Option (List Int)):Int × (List Int) -> Option (List Int)
  | (b0,c0)=>(aP_p n a0).bind fun p0=>(if b0 < p0 then (aE_p n a0 b0).bind fun q0=>(cL q0 ((1 + ((a0.fK % (8:UInt8)).toNat):Nat):Int)).bind fun j0=>(app c0 ([j0]:List Int)).bind fun k0=>(chk (b0 + 1)).bind fun g0=>d0 (g0,k0) else some c0)
def ac_p (n:Nat) (a0:Tj):Option ((List Int) × Int):=
  Option.bind (ap (ac_l2 n a0) n (0,([]:List Int))) (fun c0=>(az_p n c0).bind fun b0=>Option.bind (ap (ac_l1 n b0) n (0,0)) (fun d0=>some (b0.1,d0)))
theorem ac_c (n:Nat) {L w} (hL:hl L w) (a0:Tj) {v0_1:Value} (h0_1:Rep.R w L [v0_1] a0.fB) {v0_2:Value} (h0_2:Rep.R w L [v0_2] a0.fMore) {v0_3:Value} (h0_3:Rep.R w L [v0_3] a0.fLabels)  {r:(List Int) × Int} (h:ac_p n a0 = some r) :
 Cl 21 #[.agg #[.int .u8 (a0.fN.toNat:Int),v0_1,v0_2,v0_3,.int .u8 (a0.fK.toNat:Int)]] w (aj w fun w' u=>∃ v0_0:Value,u = .tuple #[v0_0,vI r.2]/\Rep.R w' L [v0_0] r.1):=by
 unfold ac_p at h
 refine AC func21 rfl rfl rfl fun _ cs0 hb0=>Ae<|RG.bx (Ax w) rfl rfl fun u2 x0 C0 d2=>Af rfl<|Af rfl<|Aa<|Ae<|Af rfl<|Aa<|Aj<|Ae<|Af rfl<|Aa<|Ar ?_
 have D0:=C0.nilRow 3 (Rep.size Int)
 have g2:=St.nilRowT C0 3 (Rep.size Int)
 obtain ⟨q2,C1,y1⟩:=ar h
 refine MX.lf (α:=Int × (List Int) × Value × (List Value)) (fun ⟨q0,j0,p0,s0⟩=>[(1,vP x0),(4,p0),(5,vI q0)]) (fun ⟨q0,j0,p0,s0⟩=>[rr w 3 Int p0 j0.length s0,.cells x0 [.int .u8 (a0.fN.toNat:Int),v0_1,v0_2,v0_3,.int .u8 (a0.fK.toNat:Int)] 25]) (fun ⟨q0,j0,p0,s0⟩ K0=>Cells K0 (bl [rr w 3 Int p0 j0.length s0,.cells x0 [.int .u8 (a0.fN.toNat:Int),v0_1,v0_2,v0_3,.int .u8 (a0.fK.toNat:Int)] 25] ++ L) s0 j0) (fun ⟨q0,j0,p0,s0⟩=>(q0,j0)) (0,([]:List Int),vN,[]) C1 D0 (AD (cs:=[]) (xs:=([]:List Int)) D0 L (AU _ _)) ?_
 rintro X1 ⟨q0,j0,p0,s0⟩ K0 Y0 c0 p1 H0 h
 unfold ac_l2 at h
 try dsimp only at h
 refine Aj<|Ae<|Ac rfl<|Ab (AE rfl (c0.memA .t1))<|bk h fun P0 M1 h=>Bf (vI P0) (bd 67) rfl (e1 rfl) (fun p q=>aP_c n (c0.hL0 hL q) a0 (c0.k0 h0_1 q) (c0.k0 h0_2 q) (c0.k0 h0_3 q) M1) rfl<|Ab (FV.lss (i:=q0) (j:=P0) rfl rfl)<|Aa<|AJ rfl h (fun U0 h=>?_) (fun U0 h=>?_)
 refine Ao<|Aj<|Ar<|du 11 fun b0 d0=>Rv 0 b0 rfl d0 (fun _=>Ai rfl)<|Rx 1 7688 b0 rfl d0 (AE rfl (c0.memA .t1))<|Rv 2 b0 rfl d0 (fun _=>Ai rfl)<|bk h fun Q0 P1 h=>RD.cq 3 15 7680 (vI Q0) b0 rfl d0 (bd 68) rfl (e2 rfl rfl) (fun p q=>aE_c n (c0.hL0 hL q) a0 (c0.k0 h0_1 q) (c0.k0 h0_2 q) (c0.k0 h0_3 q) P1) rfl<|Rv 4 b0 rfl d0 (fun _=>Bn 4 rfl)<|Rx 5 8128 b0 rfl d0 (AY rfl ((c0.memA .t1) 4 _ rfl))<|Rv 6 b0 rfl d0 (fun _=>FV.rem8 (a:=a0.fK) (b:=(8:UInt8)) rfl rfl (by decide)) ?_
 have k2:=(a0.fK % (8:UInt8)).toNat_lt
 refine Rv 7 b0 rfl d0 (fun _=>FV.convN (i:=(a0.fK % (8:UInt8)).toNat) underlying5 underlying3 rfl (by omega))<|Rv 8 b0 rfl d0 (fun _=>Bd (i:=1) (j:=(a0.fK % (8:UInt8)).toNat) rfl rfl (by omega))<|bk h fun t0 H1 h=>Rv 9 b0 rfl d0 (fun _=>FV.remc (i:=Q0) (j:=((1 + ((a0.fK % (8:UInt8)).toNat):Nat):Int)) rfl rfl H1)<|RD.nu 10 2047 b0 rfl .plain rfl (jA t0 (vI t0) c0 iG (e1 rfl)) fun x2 Y1 y0 E0=>bk h fun U1 J1 h=>Bx (i:=11) (rk b0) (RO.doesL (m' :=4095) (sk b0) rfl rfl .plain rfl (DoesL.app (α:=Int) (ys:=([t0]:List Int)) J1 y0 (fun _ _=>.t1) iG rfl rfl (AG H0 E0) (Src.row (α:=Int) y0 .hd (jC t0 (vI t0) y0 L rfl))) (fun R1 t2 ⟨V0,Z0,j1,s1⟩=>?_))
 refine Bx (i:=12) (rk b0) (RO.val (m' :=8191) (sk b0) rfl .plain rfl (Bh rfl) ?_)
 refine AI (dk b0)<|Av<|Al<|Ac rfl<|bk h fun Q1 F1 h=>Ab (Br (i:=q0) (j:=1) rfl rfl F1)<|Af rfl<|Aa ?_
 obtain ⟨b1,F0⟩:=AL Z0 .d1
 exact Y0 (Q1,U1,R1,V0) b1 (Tt p1 (Tt E0 (Tt j1 F0))) (AG s1 F0) h
 refine AR rfl ?_
 have h:=y1 _ h
 try dsimp only at h
 refine Ae<|Ac rfl ?_
 have z0:=St.delS c0 .hd
 have b2:=St.delT c0 .hd
 refine bk h fun B0 K1 h=>jE (bd 69) rfl (e1 rfl) (fun p q=>az_c n (z0.hL hL q) (Au (Rep.at_ (α:=Int) (v:=p0) (xs:=j0) z0 L (Bt (α:=Int) c0 .hd H0 hL)) q) K1) rfl fun v2 s2 q1 ⟨J0,hu_,D1⟩=>?_
 subst hu_
 obtain ⟨c1,c2⟩:=z0.agr q1
 refine Ac rfl<|Ab (Ah rfl rfl)<|Ab (Ah rfl rfl)<|Af rfl<|Aa<|Ae<|Af rfl<|Aa<|Aj<|Ae<|Af rfl<|Aa<|Ar ?_
 obtain ⟨g1,k1⟩:=AL c1 .done
 obtain ⟨p2,B1,x1⟩:=ar h
 refine MX.lo (α:=Int × Nat) (fun ⟨u0,g0⟩=>[(4,J0),(6,vI u0),(7,vI ((g0:Nat):Int))]) (fun ⟨u0,g0⟩=>[]) (fun ⟨u0,g0⟩=>(u0,g0)) (0,0) B1 g1 ?_
 rintro W1 ⟨u0,g0⟩ y2 X0 A0 G0 h
 unfold ac_l1 at h
 try dsimp only at h
 refine Aj<|Ae<|Ac rfl<|Ac rfl ?_
 have v0:=Ay D1 (Tt k1 G0)
 have j2:B0.1.length <= 281474976710656:=AT v0
 refine Ab (Bb (xs:=B0.1) underlying39 rfl v0)<|Ab (Bi (i:=g0) (j:=B0.1.length) rfl rfl)<|Aa<|AJ rfl h (fun R0 h=>?_) (fun R0 h=>?_)
 refine Ao<|Aj<|Ar<|Al<|Ac rfl<|Ac rfl<|Ac rfl<|bk h fun M0 I1 h=>?_
 obtain ⟨V1,Z1,u1,z1,W0,E1,A1⟩:=Bk v0 I1
 have v1:W0 = [vI M0]:=E1; subst v1
 refine Ab (Ba 1 g0 rfl u1 rfl rfl z1)<|AK rfl (A1 0 _ rfl)<|bk h fun I0 G1 h=>Ab (Br (i:=M0) (j:=1) rfl rfl G1)<|Ab (FV.max2 (i:=u0) (j:=I0) rfl rfl)<|Af rfl<|Aa<|Av<|Al<|Ac rfl<|Ab (Bd (i:=g0) (j:=1) rfl rfl (by omega))<|Af rfl<|Aa<|X0 (max u0 I0,g0 + 1) A0 G0 h
 refine AR rfl ?_
 have h:=x1 _ h
 try dsimp only at h
 refine Ae<|Ac rfl<|Ac rfl<|Af rfl<|Af rfl<|Aa<|Am rfl<|Ap hb0 func21 rfl (.cons (.tmp rfl) (.cons (.tmp rfl) .nil)) rfl ?_
 cases h
 exact ⟨A0.ag,fun p q=>⟨J0,rfl,A0.kd v0 q⟩⟩
def bP_p (n:Nat) (a0:Tf) (a1:List Int) (a2:Int):Option (Except Td (List (List Int))):=
  (aG_p n a0 a1 a2).bind fun y1=>exc y1 (fun c0=>(ah_p n c0).bind fun d0=>some (.ok d0)) (fun b0=>some (.error b0))
theorem bP_c (n:Nat) {L w} (hL:hl L w) (a0:Tf) {v0_3:Value} (h0_3:Rep.R w L [v0_3] a0.fq) {p0:Nat} (m0:∀ j9 v9,([vI a0.fh,vI a0.fc,vI a0.fe,v0_3]:List Value)[j9]? = some v9 -> w.cell? ((⟨p0,0,none⟩:Addr).add j9) = some v9) {a1:List Int} {v1_0:Value} (h1_0:Rep.R w L [v1_0] a1) {p1:Nat} (m1:∀ j9 v9,([v1_0]:List Value)[j9]? = some v9 -> w.cell? ((⟨p1,0,none⟩:Addr).add j9) = some v9) {a2:Int} {p2:Nat} (m2:∀ j9 v9,([vI a2]:List Value)[j9]? = some v9 -> w.cell? ((⟨p2,0,none⟩:Addr).add j9) = some v9)  {r:Except Td (List (List Int))} (h:bP_p n a0 a1 a2 = some r) :
 Cl 71 #[.pointer (some ⟨p0,0,none⟩),.pointer (some ⟨p1,0,none⟩),.pointer (some ⟨p2,0,none⟩)] w (aC w (fun (y:List (List Int)) w' u=>∃ v0_0:Value,u = v0_0/\Rep.R w' L [v0_0] y) (fun e=>.iface 138 (.agg #[vI e.fw])) r):=by
 unfold bP_p at h
 have hS0:=Ax w
 refine By func71 rfl rfl rfl fun _ cs0 hb0 hp0=>Ae<|Af rfl<|Aa<|Ae<|Ab (AE rfl (fun j9 v9 h9=>hS0.ag.cell0 (m0 j9 v9 h9)))<|AK rfl ((fun j9 v9 h9=>hS0.ag.cell0 (m1 j9 v9 h9)) 0 _ rfl)<|AK rfl ((fun j9 v9 h9=>hS0.ag.cell0 (m2 j9 v9 h9)) 0 _ rfl)<|xk h (fun y0 hy1 h=>?_) (fun x0 hy1 h=>?_)
 refine Bg (fst:=[]) (cap:=[]) .plain (bd 72) rfl (e3 rfl rfl rfl) (fun p q=>aG_c n (hS0.hL hL q) a0 (Au h0_3 q) (Au h1_0 q) hy1) fun G0 g0=>?_
 obtain ⟨d0,z0⟩:=hS0.agr g0
 cases h
 exact AS hp0 func71 ⟨d0.ag,rfl⟩
 refine jE (bd 72) rfl (e3 rfl rfl rfl) (fun p q=>AO (aG_c n (hS0.hL hL q) a0 (Au h0_3 q) (Au h1_0 q) hy1)) rfl fun H0 F0 j0 ⟨C0,D0,hu_,q0,s0⟩=>?_
 subst hu_
 obtain ⟨b0,A0⟩:=hS0.agr j0
 refine bk h fun J0 u0 h=>jE (bd 73) rfl (e1 rfl) (fun p q=>ah_c n (b0.hL hL q) x0 (Au q0 q) (Au s0 q) u0) rfl fun I0 v0 k0 ⟨E0,hu_,t0⟩=>?_
 subst hu_
 obtain ⟨c0,B0⟩:=b0.agr k0
 refine Af rfl<|Aa<|Am rfl<|AW hb0 func71 rfl rfl ?_
 cases h
 exact ⟨c0.ag,fun p q=>ax ⟨v0,rfl,c0.kd t0 q⟩⟩
def bZ_p (n:Nat) (a0:Tf) (a1:List Int) (a2:Int):Option ((List (List Int)) × Int):=
  (bP_p n a0 a1 a2).bind fun c0=>exc c0 (fun d0=>some (d0,(0:Int))) (fun b0=>some (([]:List (List Int)),b0.fw))
theorem bZ_c (n:Nat) {L w} (hL:hl L w) (a0:Tf) {v0_3:Value} (h0_3:Rep.R w L [v0_3] a0.fq) {a1:List Int} {v1_0:Value} (h1_0:Rep.R w L [v1_0] a1) {a2:Int}  {r:(List (List Int)) × Int} (h:bZ_p n a0 a1 a2 = some r) :
 Cl 23 #[.agg #[vI a0.fh,vI a0.fc,vI a0.fe,v0_3],v1_0,vI a2] w (aj w fun w' u=>∃ v0_0:Value,u = .tuple #[v0_0,vI r.2]/\Rep.R w' L [v0_0] r.1):=by
 unfold bZ_p at h
 refine AC func23 rfl rfl rfl fun _ cs0 hb0=>Ae<|RG.bx (Ax w) rfl rfl fun M1 g0 D0 B1=>RG.bx D0 rfl (Rep.c1 (AQ h1_0 D0)) fun V1 j0 M0 C1=>RG.bx M0 rfl rfl fun W1 k0 P0 D1=>Af rfl<|Af rfl<|Aa<|Ae<|Ab (Bu (vs:=[]) (us:=[vP g0,vP j0,vP k0]) ah (e3 rfl rfl rfl))<|Bo (fst:=[]) (cap:=[]) (vs:=[.func (.func 71) #[] #[vP g0,vP j0,vP k0]]) .plain (bd 70) func70 rfl rfl rfl rfl (e1 rfl) rfl fun x1 E0 J1=>Ae<|RG.nl [vN] P0 fun X1 p0 Q0 E1=>RG.nl [vI 0] Q0 fun Y1 d0 b0 F1=>Aa<|Ae<|Ab (Bu (vs:=[]) (us:=[vP p0,vP d0]) ah (e2 rfl rfl))<|RG.defer (fst:=[]) (cap:=[vP p0,vP d0]) (vs:=[]) rfl .plain rfl ah<|Aa<|Ae<|Ac rfl<|xk h (fun s0 z0 h=>?_) (fun g2 z0 h=>?_)
 refine Bg (fst:=[]) (cap:=[vP g0,vP j0,vP k0]) .plain (bd 71) rfl ah (fun p q=>bP_c n (b0.hL hL q) a0 (b0.km h0_3 q) (ac q (b0.memA .t4)) (b0.km h1_0 q) (ac q (b0.memA .t3)) (ac q (b0.memA .t2)) z0) fun Z1 b1=>?_
 obtain ⟨R0,G1⟩:=b0.agr b1
 refine PN.callD (vs:=[]) (cap:=[vP p0,vP d0]) (bd 107) func107 rfl rfl rfl fun v1 g1 k1=>Ae<|RG.recover1 .plain g1 rfl<|Af rfl<|Aa<|Ae<|Ac rfl<|Ab (FV.neqI underlying20 rfl rfl)<|Aa<|Bs rfl<|Ae<|Ac rfl<|Ab (FV.assertT rfl rfl)<|Ac rfl<|Ab (Ah rfl rfl)<|Ab (Ah rfl rfl)<|RG.nl [vI 0] R0 fun b2 s1 U0 H1=>AV [vI s0.fw] U0 .hd (o1 rfl) fun c2 u0 I1=>Af rfl<|Aa<|Aj<|Ae<|Ac rfl<|Ab (BB rfl)<|Aa<|Bm rfl<|Ao<|Ae<|Af rfl<|Aa<|du 3 fun c0 A0=>Rv 0 c0 rfl A0 (fun _=>Ai rfl)<|Rv 1 c0 rfl A0 (fun _=>Bn 0 rfl)<|RD.mo (α:=Unit) (fun ()=>[(1,vP d0),(19,vI s0.fw)]) (fun ()=>[.cells d0 [vI 0] 49,.cells p0 [vN] 64,.cells k0 [vI a2] 3,.cells j0 [v1_0] 39,.cells g0 [vI a0.fh,vI a0.fc,vI a0.fe,v0_3] 37]) u0 1 15 ?_ ?_
 rintro ⟨⟩ d2 G0 y1
 try dsimp only
 refine BA 4 31 c0 rfl rfl .plain (AB (news:=[vI s0.fw]) G0 .hd rfl rfl rfl rfl rfl rfl (o1 rfl)) fun P1 q0 z1=>AI (dk c0)<|MX.fin rfl<|RT.leaveD1 k1 func107 rfl .nil<|Ap (u:=.tuple #[vN,vI s0.fw]) E0 func70 rfl (.cons (.one rfl rfl ((q0.memA .t1) 0 _ rfl)) (.cons (.one rfl rfl ((q0.memA .hd) 0 _ rfl)) .nil)) rfl<|Ab (Ah rfl rfl)<|Ab (Ah rfl rfl)<|Af rfl<|Af rfl<|Aa<|Am rfl ?_
 have p1:=Rep.nilAt (α:=List Int) q0 L
 refine Ap hb0 func23 rfl (.cons (.tmp rfl) (.cons (.tmp rfl) .nil)) rfl ?_
 cases h
 exact ⟨q0.ag,fun p q=>⟨vN,rfl,q0.kd p1 q⟩⟩
 intro C0
 refine RD.each [2,3] (rk c0) ⟨?_,?_,trivial⟩
 refine RO.val (m' :=7) (sk c0) rfl .plain rfl (AY rfl ((u0.memA .hd) 0 _ rfl))<|BA 3 15 c0 rfl rfl .plain (AB (news:=[vN]) u0 .t2 rfl rfl rfl rfl rfl rfl (o1 rfl)) fun q1 v0 x0=>?_
 obtain ⟨H0,V0⟩:=AL v0 .d1
 exact C0 () H0 (Tt x0 V0)
 refine RO.now (m' :=11) (sk c0) rfl rfl .plain (AB (news:=[vN]) u0 .t2 rfl rfl rfl rfl rfl rfl (o1 rfl)) fun q1 v0 x0=>Rx 2 16 c0 rfl A0 (AY rfl ((v0.memA .hd) 0 _ rfl)) ?_
 obtain ⟨I0,W0⟩:=AL v0 .d1
 exact C0 () I0 (Tt x0 W0)
 refine Bj (fst:=[]) (cap:=[vP g0,vP j0,vP k0]) .plain (bd 71) rfl ah (fun p q=>AO (bP_c n (b0.hL hL q) a0 (b0.km h0_3 q) (ac q (b0.memA .t4)) (b0.km h1_0 q) (ac q (b0.memA .t3)) (ac q (b0.memA .t2)) z0)) rfl fun Q1 B0 Z0 ⟨K1,hu_,y0⟩=>?_
 subst hu_
 obtain ⟨J0,A1⟩:=b0.agr Z0
 refine RG.now .plain (AB (news:=[B0]) J0 .t1 rfl rfl rfl (Rep.c1 y0) rfl rfl (o1 (Bc y0))) fun R1 K0 X0=>AV [vI 0] K0 .hd (o1 rfl) fun U1 t0 Y0=>Aa<|Am rfl<|RT.callD (vs:=[]) (cap:=[vP p0,vP d0]) (bd 107) func107 rfl rfl rfl fun u1 F0 j1=>Ae<|RG.recover0 .plain F0 rfl<|Af rfl<|Aa<|Ae<|Ac rfl<|Ab (FV.neqI0 underlying20 rfl rfl)<|Aa<|Bm rfl<|Ao<|MX.fin rfl<|RT.leaveD0 F0 j1 func107 rfl .nil<|Ap (u:=.tuple #[B0,vI 0]) E0 func70 rfl (.cons (.one rfl rfl ((t0.memA .t1) 0 _ rfl)) (.cons (.one rfl rfl ((t0.memA .hd) 0 _ rfl)) .nil)) rfl<|Ab (Ah rfl rfl)<|Ab (Ah rfl rfl)<|Af rfl<|Af rfl<|Aa<|Am rfl<|Ap hb0 func23 rfl (.cons (.tmp rfl) (.cons (.tmp rfl) .nil)) rfl ?_
 cases h
 exact ⟨t0.ag,fun p q=>⟨B0,rfl,t0.kd (Ay y0 (Tt X0 Y0)) q⟩⟩
structure Ti where
  fh:UInt8
  fc:UInt8
  fe:UInt8
  ft:UInt8
  fNums:List UInt8
  deriving DecidableEq
instance:Rep Ti:=Rep.via (β:=UInt8 × UInt8 × UInt8 × UInt8 × (List UInt8)) fun x=>(x.fh,x.fc,x.fe,x.ft,x.fNums)
def ar_p (_n:Nat) (a0:Ti) (a1:Int):Option Int:=
  (if a0.fNums.length = 0 then some (1:Int) else (cL a1 ((a0.fNums.length:Nat):Int)).bind fun b0=>(idx a0.fNums b0).bind fun c0=>some ((c0.toNat:Nat):Int))
theorem ar_c (n:Nat) {L w} (_hL:hl L w) (a0:Ti) {v0_4:Value} (h0_4:Rep.R w L [v0_4] a0.fNums) {a1:Int}  {r:Int} (h:ar_p n a0 a1 = some r) :
 Cl 78 #[.agg #[.int .u8 (a0.fh.toNat:Int),.int .u8 (a0.fc.toNat:Int),.int .u8 (a0.fe.toNat:Int),.int .u8 (a0.ft.toNat:Int),v0_4],vI a1] w (aj w fun _ u=>u = vI r):=by
 unfold ar_p at h
 refine AC func78 rfl rfl rfl fun _ cs0 hb0=>Ae<|RG.bx (Ax w) rfl rfl fun I0 D0 d0 F0=>Af rfl<|Aa<|Aj<|Ae<|Bl 4 rfl<|AK rfl ((d0.memA .hd) 4 _ rfl) ?_
 have g0:=AQ h0_4 d0
 have G0:a0.fNums.length <= 281474976710656:=AT g0
 refine Ab (Bb (xs:=a0.fNums) underlying22 rfl g0)<|Ab (FV.eqlN (i:=a0.fNums.length) (j:=0) rfl rfl)<|Aa<|AJ rfl h (fun k0 h=>?_) (fun k0 h=>?_)
 refine Ae<|Af rfl<|Aa<|Am rfl<|AW hb0 func78 rfl rfl ?_
 cases h
 exact d0.gv
 refine Ao<|Aj<|du 11 fun b0 c0=>Rv 0 b0 rfl c0 (fun _=>Bn 4 rfl)<|Rx 1 1920 b0 rfl c0 (AY rfl ((d0.memA .hd) 4 _ rfl))<|Rv 2 b0 rfl c0 (fun _=>Ai rfl)<|Rv 3 b0 rfl c0 (fun _=>Bn 4 rfl)<|Rx 4 2016 b0 rfl c0 (AY rfl ((d0.memA .hd) 4 _ rfl))<|Rx 5 1984 b0 rfl c0 (Bb (xs:=a0.fNums) underlying22 rfl g0)<|bk h fun B0 y0 h=>Rv 6 b0 rfl c0 (fun _=>FV.remc (i:=a1) (j:=((a0.fNums.length:Nat):Int)) rfl rfl y0)<|bk h fun j0 z0 h=>?_
 obtain ⟨t0,A0⟩:=aD z0
 obtain ⟨C0,E0,q0,u0,p0,x0,v0⟩:=Bk g0 A0
 have s0:p0 = [.int .u8 (j0.toNat:Int)]:=x0; subst s0
 refine Rv 7 b0 rfl c0 (fun _=>Ba 1 (B0.toNat) rfl q0 rfl t0 u0)<|Rx 8 1536 b0 rfl c0 (AY rfl (v0 0 _ rfl)) ?_
 have H0:=j0.toNat_lt
 refine Rv 9 b0 rfl c0 (fun _=>FV.convN (i:=j0.toNat) underlying5 underlying3 rfl (by omega))<|Rv 10 b0 rfl c0 (fun _=>Bh rfl)<|AI (dk b0)<|Am rfl<|AW hb0 func78 rfl rfl ?_
 cases h
 exact d0.gv
def aj_l1 (n:Nat) (a1:Int) (a2:Int) (a0:Ti) (a3:Int) (d0:Int × (List Int) -> Option (List Int)):Int × (List Int) -> Option (List Int)
  | (b0,c0)=>(if b0 < a1 then (chk (a2 + b0)).bind fun j0=>(ar_p n a0 j0).bind fun p0=>(app c0 ([min p0 a3]:List Int)).bind fun k0=>(chk (b0 + 1)).bind fun g0=>d0 (g0,k0) else some c0)
def aj_p (n:Nat) (a0:Ti) (a1:Int) (a2:Int) (a3:Int):Option (List Int):=
  Option.bind (ap (aj_l1 n a1 a2 a0 a3) n (0,([]:List Int))) (fun b0=>some b0)
theorem aj_c (n:Nat) {L w} (hL:hl L w) (a0:Ti) {v0_4:Value} (h0_4:Rep.R w L [v0_4] a0.fNums) {a1:Int} {a2:Int} {a3:Int}  {r:List Int} (h:aj_p n a0 a1 a2 a3 = some r) :
 Cl 79 #[.agg #[.int .u8 (a0.fh.toNat:Int),.int .u8 (a0.fc.toNat:Int),.int .u8 (a0.fe.toNat:Int),.int .u8 (a0.ft.toNat:Int),v0_4],vI a1,vI a2,vI a3] w (aj w fun w' u=>∃ v0_0:Value,u = v0_0/\Rep.R w' L [v0_0] r):=by
 unfold aj_p at h
 refine AC func79 rfl rfl rfl fun _ cs0 hb0=>Ae<|RG.bx (Ax w) rfl rfl fun p1 q0 u0 c1=>Af rfl<|Aa<|Ae<|Af rfl<|Aa<|Aj<|Ae<|Af rfl<|Aa<|Ar ?_
 have v0:=u0.nilRow 3 (Rep.size Int)
 have g1:=St.nilRowT u0 3 (Rep.size Int)
 obtain ⟨j1,K0,J0⟩:=ar h
 refine MX.lf (α:=Int × (List Int) × Value × (List Value)) (fun ⟨g0,c0,b0,j0⟩=>[(1,vI a1),(2,vI a2),(3,vI a3),(4,vP q0),(9,b0),(10,vI g0)]) (fun ⟨g0,c0,b0,j0⟩=>[rr w 3 Int b0 c0.length j0,.cells q0 [.int .u8 (a0.fh.toNat:Int),.int .u8 (a0.fc.toNat:Int),.int .u8 (a0.fe.toNat:Int),.int .u8 (a0.ft.toNat:Int),v0_4] 27]) (fun ⟨g0,c0,b0,j0⟩ A0=>Cells A0 (bl [rr w 3 Int b0 c0.length j0,.cells q0 [.int .u8 (a0.fh.toNat:Int),.int .u8 (a0.fc.toNat:Int),.int .u8 (a0.fe.toNat:Int),.int .u8 (a0.ft.toNat:Int),v0_4] 27] ++ L) j0 c0) (fun ⟨g0,c0,b0,j0⟩=>(g0,c0)) (0,([]:List Int),vN,[]) K0 v0 (AD (cs:=[]) (xs:=([]:List Int)) v0 L (AU _ _)) ?_
 rintro Y0 ⟨g0,c0,b0,j0⟩ A0 D0 p0 G0 z0 h
 unfold aj_l1 at h
 try dsimp only at h
 refine Aj<|Ae<|Ac rfl<|Ac rfl<|Ab (FV.lss (i:=g0) (j:=a1) rfl rfl)<|Aa<|AJ rfl h (fun B0 h=>?_) (fun B0 h=>?_)
 refine Ao<|Aj<|Ar<|Al<|Ac rfl<|Ab (AE rfl (p0.memA .t1))<|Ac rfl<|Ac rfl<|bk h fun k1 Q0 h=>Ab (Br (i:=a2) (j:=g0) rfl rfl Q0)<|bk h fun d0 U0 h=>Bf (vI d0) (bd 78) rfl (e2 rfl rfl) (fun p q=>ar_c n (p0.hL0 hL q) a0 (p0.k0 h0_4 q) U0) rfl<|Ac rfl<|Ab (FV.min2 (i:=d0) (j:=a3) rfl rfl)<|Ak .plain rfl (jA (min d0 a3) (vI (min d0 a3)) p0 bb (e1 rfl)) fun q1 Z0 t0 y0=>bk h fun X0 R0 h=>RG.doesL .plain rfl (DoesL.app (α:=Int) (ys:=([min d0 a3]:List Int)) R0 t0 (fun _ _=>.t1) bb rfl rfl (AG z0 y0) (Src.row (α:=Int) t0 .hd (jC (min d0 a3) (vI (min d0 a3)) t0 L rfl))) fun W0 s1 ⟨C0,F0,H0,I0⟩=>Af rfl<|Aa<|Av<|Al<|Ac rfl<|bk h fun V0 P0 h=>Ab (Br (i:=g0) (j:=1) rfl rfl P0)<|Af rfl<|Aa ?_
 obtain ⟨E0,x0⟩:=AL F0 .d1
 exact D0 (V0,X0,W0,C0) E0 (Tt G0 (Tt y0 (Tt H0 x0))) (AG I0 x0) h
 refine AR rfl ?_
 have h:=J0 _ h
 try dsimp only at h
 refine Ae<|Ac rfl<|Af rfl<|Aa<|Am rfl ?_
 have s0:=St.delS p0 .hd
 have b1:=St.delT p0 .hd
 have M0:=Rep.at_ (α:=Int) (v:=b0) (xs:=c0) s0 L (Bt (α:=Int) p0 .hd z0 hL)
 refine AW hb0 func79 rfl rfl ?_
 cases h
 exact ⟨s0.ag,fun p q=>⟨b0,rfl,s0.kd M0 q⟩⟩
theorem el22:ElT Tryz.prog 22 5 (Rep.size UInt8) 1 (.int .u8 0) [.int .u8 0]:=⟨underlying22,by kernel_rfl,rfl,rfl,rfl,rfl⟩
def ab_l1 (n:Nat) (a0:Ti) (t0:Int) (d0:Nat × (List Int) -> Option (List Int)):Nat × (List Int) -> Option (List Int)
  | (b0,c0)=>(if b0 < ((a0.fe % (3:UInt8)).toNat) then (chk (9 * t0)).bind fun g0=>(chk (g0 + 7)).bind fun j0=>(chk (j0 + ((b0:Nat):Int))).bind fun k0=>(ar_p n a0 k0).bind fun s0=>(cL s0 3).bind fun p0=>(app c0 ([p0]:List Int)).bind fun q0=>d0 (b0 + 1,q0) else some c0)
def ab_l2 (_n:Nat) (a0:Ti) (d0:Nat × (List Tc) -> Option (List Tc)):Nat × (List Tc) -> Option (List Tc)
  | (b0,c0)=>(if b0 < ((a0.ft % (2:UInt8)).toNat) then (mk (((a0.fh % (3:UInt8)).toNat:Nat):Int) (0:Int)).bind fun g0=>(mk (((a0.fc % (4:UInt8)).toNat:Nat):Int) (0:Int)).bind fun j0=>(mk (((a0.fe % (3:UInt8)).toNat:Nat):Int) (0:Int)).bind fun k0=>(app c0 ([(⟨⟨#[115,101,97]⟩,(0:Int),g0,j0,k0,true⟩:Tc)]:List Tc)).bind fun p0=>d0 (b0 + 1,p0) else some c0)
def ab_l3 (n:Nat) (a1:Int) (a0:Ti) (g0:Int × (List Tc) -> Option (List Tc)):Int × (List Tc) -> Option (List Tc)
  | (b0,c0)=>(if b0 < a1 then (cL b0 26).bind fun j0=>(chk (97 + j0)).bind fun k0=>(dl b0 26).bind fun p0=>(cL p0 26).bind fun q0=>(chk (97 + q0)).bind fun s0=>(chk (9 * b0)).bind fun t0=>(ar_p n a0 t0).bind fun d0=>(ig ⟨#[117]⟩ (bstr ([aE k0,aE s0]:List UInt8))).bind fun u0=>(chk (9 * b0)).bind fun v0=>(chk (v0 + 1)).bind fun x0=>(aj_p n a0 (((a0.fh % (3:UInt8)).toNat:Nat):Int) x0 d0).bind fun D0=>(chk (9 * b0)).bind fun y0=>(chk (y0 + 3)).bind fun z0=>(aj_p n a0 (((a0.fc % (4:UInt8)).toNat:Nat):Int) z0 (255:Int)).bind fun E0=>Option.bind (ap (ab_l1 n a0 b0) n (0,([]:List Int))) (fun B0=>(app c0 ([(⟨u0,d0,D0,E0,B0,false⟩:Tc)]:List Tc)).bind fun C0=>(chk (b0 + 1)).bind fun A0=>g0 (A0,C0)) else some c0)
def ab_p (n:Nat) (a0:Ti) (a1:Int):Option Tf:=
  Option.bind (ap (ab_l3 n a1 a0) n (0,([]:List Tc))) (fun c0=>Option.bind (ap (ab_l2 n a0) n (0,c0)) (fun b0=>some (⟨(((a0.fh % (3:UInt8)).toNat:Nat):Int),(((a0.fc % (4:UInt8)).toNat:Nat):Int),(((a0.fe % (3:UInt8)).toNat:Nat):Int),b0⟩:Tf)))
theorem ab_c (n:Nat) {L w} (hL:hl L w) (a0:Ti) {v0_4:Value} (h0_4:Rep.R w L [v0_4] a0.fNums) {a1:Int}  {r:Tf} (h:ab_p n a0 a1 = some r) :
 Cl 26 #[.agg #[.int .u8 (a0.fh.toNat:Int),.int .u8 (a0.fc.toNat:Int),.int .u8 (a0.fe.toNat:Int),.int .u8 (a0.ft.toNat:Int),v0_4],vI a1] w (aj w fun w' u=>∃ v0_3:Value,u = .agg #[vI r.fh,vI r.fc,vI r.fe,v0_3]/\Rep.R w' L [v0_3] r.fq):=by
 unfold ab_p at h
 refine AC func26 rfl rfl rfl fun _ cs0 hb0=>Ae<|RG.bx (Ax w) rfl rfl fun q8 u0 H4 J7=>RG.nl [vI 0,vI 0,vI 0,vN] H4 fun y8 v0 X1 K7=>Aa<|Ae<|Bl 0 rfl<|AK rfl ((X1.memA .t1) 0 _ rfl)<|Ab (FV.rem8 (a:=a0.fh) (b:=(3:UInt8)) rfl rfl (by decide)) ?_
 have V7:=(a0.fh % (3:UInt8)).toNat_lt
 refine Ab (FV.convN (i:=(a0.fh % (3:UInt8)).toNat) underlying5 underlying3 rfl (by omega))<|Bl 1 rfl<|AK rfl ((X1.memA .t1) 1 _ rfl)<|Ab (FV.rem8 (a:=a0.fc) (b:=(4:UInt8)) rfl rfl (by decide)) ?_
 have W7:=(a0.fc % (4:UInt8)).toNat_lt
 refine Ab (FV.convN (i:=(a0.fc % (4:UInt8)).toNat) underlying5 underlying3 rfl (by omega))<|Bl 2 rfl<|AK rfl ((X1.memA .t1) 2 _ rfl)<|Ab (FV.rem8 (a:=a0.fe) (b:=(3:UInt8)) rfl rfl (by decide)) ?_
 have X7:=(a0.fe % (3:UInt8)).toNat_lt
 refine Ab (FV.convN (i:=(a0.fe % (3:UInt8)).toNat) underlying5 underlying3 rfl (by omega))<|Ab (AX (vs:=[vI (((a0.fh % (3:UInt8)).toNat:Nat):Int),vI (((a0.fc % (4:UInt8)).toNat:Nat):Int),vI (((a0.fe % (3:UInt8)).toNat:Nat):Int)]) (u:=.agg #[vI (((a0.fh % (3:UInt8)).toNat:Nat):Int),vI (((a0.fc % (4:UInt8)).toNat:Nat):Int),vI (((a0.fe % (3:UInt8)).toNat:Nat):Int),vN]) (e3 rfl rfl rfl) (fun p=>by kernel_rfl))<|RG.nl [vI 0,vI 0,vI 0,vN] X1 fun z8 x0 I4 M7=>AV [vI (((a0.fh % (3:UInt8)).toNat:Nat):Int),vI (((a0.fc % (4:UInt8)).toNat:Nat):Int),vI (((a0.fe % (3:UInt8)).toNat:Nat):Int),vN] I4 .hd (ao rfl) fun A8 g3 P7=>Aa<|Aj<|Ae<|Af rfl<|Aa<|Ar ?_
 have A2:=g3.nilRow 63 (Rep.size Tc)
 have Q7:=St.nilRowT g3 63 (Rep.size Tc)
 have j3:=A2.nilRow 63 (Rep.size Tc)
 have R7:=AD (cs:=[]) (xs:=([]:List Tc)) j3 L (AU _ _)
 obtain ⟨Z7,M5,I5⟩:=ar h
 refine MX.lf (α:=Int × (List Tc) × Value × (List Value)) (fun ⟨z0,X0,y0,Z0⟩=>[(1,vI a1),(2,vP u0),(4,vP v0),(5,vP x0),(6,vI z0)]) (fun ⟨z0,X0,y0,Z0⟩=>[rr w 63 Tc vN (([]:List Tc).length) [],rr w 63 Tc y0 X0.length Z0,.cells x0 [vI (((a0.fh % (3:UInt8)).toNat:Nat):Int),vI (((a0.fc % (4:UInt8)).toNat:Nat):Int),vI (((a0.fe % (3:UInt8)).toNat:Nat):Int),y0] 37,.cells v0 [vI 0,vI 0,vI 0,vN] 37,.cells u0 [.int .u8 (a0.fh.toNat:Int),.int .u8 (a0.fc.toNat:Int),.int .u8 (a0.fe.toNat:Int),.int .u8 (a0.ft.toNat:Int),v0_4] 27]) (fun ⟨z0,X0,y0,Z0⟩ c4=>Cells c4 (bl [rr w 63 Tc vN (([]:List Tc).length) [],rr w 63 Tc y0 X0.length Z0,.cells x0 [vI (((a0.fh % (3:UInt8)).toNat:Nat):Int),vI (((a0.fc % (4:UInt8)).toNat:Nat):Int),vI (((a0.fe % (3:UInt8)).toNat:Nat):Int),y0] 37,.cells v0 [vI 0,vI 0,vI 0,vN] 37,.cells u0 [.int .u8 (a0.fh.toNat:Int),.int .u8 (a0.fc.toNat:Int),.int .u8 (a0.fe.toNat:Int),.int .u8 (a0.ft.toNat:Int),v0_4] 27] ++ L) Z0 X0) (fun ⟨z0,X0,y0,Z0⟩=>(z0,X0)) (0,([]:List Tc),vN,[]) M5 j3 (AG (AD (cs:=[]) (xs:=([]:List Tc)) A2 L (AU _ _)) (St.nilRowT A2 63 (Rep.size Tc))) ?_
 rintro t7 ⟨z0,X0,y0,Z0⟩ c4 y4 I1 c5 E3 h
 unfold ab_l3 at h
 try dsimp only at h
 refine Aj<|Ae<|Ac rfl<|Ac rfl<|Ab (FV.lss (i:=z0) (j:=a1) rfl rfl)<|Aa<|AJ rfl h (fun p4 h=>?_) (fun p4 h=>?_)
 refine Ao<|Aj<|Ar<|Aj<|du 18 fun c0 q0=>Rv 0 c0 rfl q0 (fun _=>Ai rfl)<|bk h fun H6 R5 h=>Rv 1 c0 rfl q0 (fun _=>FV.remc (i:=z0) (j:=26) rfl rfl R5)<|bk h fun D0 U5 h=>Rv 2 c0 rfl q0 (fun _=>Br (i:=97) (j:=H6) rfl rfl U5)<|Rv 3 c0 rfl q0 (fun _=>FV.convU8 (i:=D0) underlying3 underlying5 rfl)<|Rv 4 c0 rfl q0 (fun _=>Ai rfl)<|bk h fun I6 V5 h=>Rv 5 c0 rfl q0 (fun _=>FV.quoc (i:=z0) (j:=26) rfl rfl V5)<|bk h fun J6 W5 h=>Rv 6 c0 rfl q0 (fun _=>FV.remc (i:=I6) (j:=26) rfl rfl W5)<|bk h fun t0 X5 h=>Rv 7 c0 rfl q0 (fun _=>Br (i:=97) (j:=J6) rfl rfl X5)<|Rv 8 c0 rfl q0 (fun _=>FV.convU8 (i:=t0) underlying3 underlying5 rfl)<|Rx 12 360448 c0 rfl q0 (AE rfl (I1.memA .t4))<|Rv 13 c0 rfl q0 (fun _=>Ai rfl)<|bk h fun c8 Y5 h=>Rv 14 c0 rfl q0 (fun _=>FV.mulc (i:=9) (j:=z0) rfl rfl Y5)<|bk h fun g0 D6 h=>RD.cq 15 61951 327680 (vI g0) c0 rfl q0 (bd 78) rfl (e2 rfl rfl) (fun p q=>ar_c n (I1.hL0 hL q) a0 (I1.k0 h0_4 q) D6) rfl<|bk h fun j0 Z3 h=>RD.mo (α:=Nat) (fun G1=>[(1,vI a1),(2,vP u0),(4,vP v0),(5,vP x0),(6,vI z0),(44,.agg #[.string j0,vI g0,vN,vN,vN,.bool false]),(7,vP G1)]) (fun G1=>[.cells G1 [.string ⟨#[]⟩,vI 0,vN,vN,vN,.bool false] 63,rr w 63 Tc vN (([]:List Tc).length) [],rr w 63 Tc y0 X0.length Z0,.cells x0 [vI (((a0.fh % (3:UInt8)).toNat:Nat):Int),vI (((a0.fc % (4:UInt8)).toNat:Nat):Int),vI (((a0.fe % (3:UInt8)).toNat:Nat):Int),y0] 37,.cells v0 [vI 0,vI 0,vI 0,vN] 37,.cells u0 [.int .u8 (a0.fh.toNat:Int),.int .u8 (a0.fc.toNat:Int),.int .u8 (a0.fe.toNat:Int),.int .u8 (a0.ft.toNat:Int),v0_4] 27]) I1 1 262143 ?_ ?_
 rintro G1 P8 J4 d5
 try dsimp only
 refine BA 18 524287 c0 rfl rfl .plain (AB (news:=[.string j0,vI g0,vN,vN,vN,.bool false]) J4 .hd rfl rfl rfl rfl rfl rfl (ao rfl)) fun B8 Q1 g5=>AI (dk c0)<|Ae<|Ab (AE rfl (Q1.memA .t5))<|Bl 0 rfl<|AK rfl ((Q1.memA .t3) 0 _ rfl)<|Ac rfl<|bk h fun K6 Z5 h=>Ab (FV.mulc (i:=9) (j:=z0) rfl rfl Z5)<|bk h fun d8 b6 h=>Ab (Br (i:=K6) (j:=1) rfl rfl b6)<|Bl 1 rfl<|AK rfl ((Q1.memA .hd) 1 _ rfl)<|bk h fun s2 E6 h=>jE (bd 79) rfl (e4 rfl rfl rfl rfl) (fun p q=>aj_c n (Q1.hL hL q) a0 (Q1.km h0_4 q) E6) rfl fun C8 W0 u5 ⟨k8,hu_,c2⟩=>?_
 subst hu_
 obtain ⟨K4,j5⟩:=Q1.agr u5
 refine Bl 2 rfl<|RG.now .plain (Acts.store (j:=2) (old:=[.string j0,vI g0,vN,vN,vN,.bool false]) (news:=[W0]) (new' :=[.string j0,vI g0,W0,vN,vN,.bool false]) K4 .hd rfl rfl rfl (Rep.c1 c2) rfl rfl (o1 (Bc c2)) rfl) fun D8 R1 v3=>Aa<|Ae<|Ab (AE rfl (R1.memA .t5))<|Bl 1 rfl<|AK rfl ((R1.memA .t3) 1 _ rfl)<|Ac rfl<|bk h fun M6 c6 h=>Ab (FV.mulc (i:=9) (j:=z0) rfl rfl c6)<|bk h fun g8 d6 h=>Ab (Br (i:=M6) (j:=3) rfl rfl d6)<|bk h fun u2 F6 h=>jE (bd 79) rfl (e4 rfl rfl rfl rfl) (fun p q=>aj_c n (R1.hL hL q) a0 (R1.km h0_4 q) F6) rfl fun E8 z1 v5 ⟨p8,hu_,g2⟩=>?_
 subst hu_
 obtain ⟨M4,x3⟩:=R1.agr v5
 refine Bl 3 rfl<|RG.now .plain (Acts.store (j:=3) (old:=[.string j0,vI g0,W0,vN,vN,.bool false]) (news:=[z1]) (new' :=[.string j0,vI g0,W0,z1,vN,.bool false]) M4 .hd rfl rfl rfl (Rep.c1 g2) rfl rfl (o1 (Bc g2)) rfl) fun F8 k3 V2=>Aa<|Aj<|Ae<|Af rfl<|Aa<|Ar ?_
 have p3:=k3.nilRow 3 (Rep.size Int)
 have W2:=St.nilRowT k3 3 (Rep.size Int)
 obtain ⟨b8,P5,J5⟩:=ar h
 refine MX.lf (α:=Nat × (List Int) × Value × (List Value)) (fun ⟨x1,R0,K0,H1⟩=>[(1,vI a1),(2,vP u0),(4,vP v0),(5,vP x0),(6,vI z0),(7,vP G1),(8,vI ((x1:Nat):Int))]) (fun ⟨x1,R0,K0,H1⟩=>[rr w 3 Int K0 R0.length H1,.cells G1 [.string j0,vI g0,W0,z1,K0,.bool false] 63,rr w 63 Tc vN (([]:List Tc).length) [],rr w 63 Tc y0 X0.length Z0,.cells x0 [vI (((a0.fh % (3:UInt8)).toNat:Nat):Int),vI (((a0.fc % (4:UInt8)).toNat:Nat):Int),vI (((a0.fe % (3:UInt8)).toNat:Nat):Int),y0] 37,.cells v0 [vI 0,vI 0,vI 0,vN] 37,.cells u0 [.int .u8 (a0.fh.toNat:Int),.int .u8 (a0.fc.toNat:Int),.int .u8 (a0.fe.toNat:Int),.int .u8 (a0.ft.toNat:Int),v0_4] 27]) (fun ⟨x1,R0,K0,H1⟩ d4=>Cells d4 (bl [rr w 3 Int K0 R0.length H1,.cells G1 [.string j0,vI g0,W0,z1,K0,.bool false] 63,rr w 63 Tc vN (([]:List Tc).length) [],rr w 63 Tc y0 X0.length Z0,.cells x0 [vI (((a0.fh % (3:UInt8)).toNat:Nat):Int),vI (((a0.fc % (4:UInt8)).toNat:Nat):Int),vI (((a0.fe % (3:UInt8)).toNat:Nat):Int),y0] 37,.cells v0 [vI 0,vI 0,vI 0,vN] 37,.cells u0 [.int .u8 (a0.fh.toNat:Int),.int .u8 (a0.fc.toNat:Int),.int .u8 (a0.fe.toNat:Int),.int .u8 (a0.ft.toNat:Int),v0_4] 27] ++ L) H1 R0) (fun ⟨x1,R0,K0,H1⟩=>(x1,R0)) (0,([]:List Int),vN,[]) P5 p3 (AD (cs:=[]) (xs:=([]:List Int)) p3 L (AU _ _)) ?_
 rintro u7 ⟨x1,R0,K0,H1⟩ d4 z4 b1 Z1 F3 h
 unfold ab_l1 at h
 try dsimp only at h
 refine Aj<|Ae<|Ac rfl<|Bl 2 rfl<|AK rfl ((b1.memA .t4) 2 _ rfl)<|Ab (Bi (i:=x1) (j:=(a0.fe % (3:UInt8)).toNat) rfl rfl)<|Aa<|AJ rfl h (fun q4 h=>?_) (fun q4 h=>?_)
 refine Ao<|Aj<|Ar<|du 11 fun s0 y1=>Rv 0 s0 rfl y1 (fun _=>Bn 4 rfl)<|Rx 1 14336 s0 rfl y1 (AY rfl ((b1.memA .t1) 4 _ rfl))<|Rx 2 16128 s0 rfl y1 (AE rfl (b1.memA .t6))<|Rv 3 s0 rfl y1 (fun _=>Ai rfl)<|bk h fun P6 g6 h=>Rv 4 s0 rfl y1 (fun _=>FV.mulc (i:=9) (j:=z0) rfl rfl g6)<|bk h fun Q6 j6 h=>Rv 5 s0 rfl y1 (fun _=>Br (i:=P6) (j:=7) rfl rfl j6)<|Rv 6 s0 rfl y1 (fun _=>Ai rfl)<|bk h fun j8 k6 h=>Rv 7 s0 rfl y1 (fun _=>Br (i:=Q6) (j:=((x1:Nat):Int)) rfl rfl k6)<|bk h fun g4 G6 h=>RD.cq 8 511 15872 (vI g4) s0 rfl y1 (bd 78) rfl (e2 rfl rfl) (fun p q=>ar_c n (b1.hL0 hL q) a0 (b1.k0 h0_4 q) G6) rfl<|bk h fun K1 p6 h=>Rv 9 s0 rfl y1 (fun _=>FV.remc (i:=g4) (j:=3) rfl rfl p6)<|RD.nu 10 2047 s0 rfl .plain rfl (jA K1 (vI K1) b1 bb (e1 rfl)) fun G8 x7 C2 y3=>bk h fun X6 B6 h=>Bx (i:=11) (rk s0) (RO.doesL (m' :=4095) (sk s0) rfl rfl .plain rfl (DoesL.app (α:=Int) (ys:=([K1]:List Int)) B6 C2 (fun _ _=>.t1) bb rfl rfl (AG F3 y3) (Src.row (α:=Int) C2 .hd (jC K1 (vI K1) C2 L rfl))) (fun Z2 H8 ⟨u4,D2,k5,C5⟩=>?_))
 refine Bx (i:=12) (rk s0) (RO.val (m' :=8191) (sk s0) rfl .plain rfl (Bn 4 rfl) ?_)
 refine BA 13 16383 s0 rfl rfl .plain (Acts.store (j:=4) (old:=[.string j0,vI g0,W0,z1,K0,.bool false]) (news:=[Z2]) (new' :=[.string j0,vI g0,W0,z1,Z2,.bool false]) D2 .t2 rfl rfl rfl (St.c1 (α:=Int) D2 .t1) rfl rfl (o1 (St.o1 (α:=Int) D2 .t1)) rfl) fun I8 P4 z3=>AI (dk s0)<|Av<|Al<|Ac rfl<|Ab (Bd (i:=x1) (j:=1) rfl rfl (by omega))<|Af rfl<|Aa ?_
 obtain ⟨Q4,A3⟩:=AL P4 .d1
 exact z4 (x1 + 1,X6,Z2,u4) Q4 (Tt Z1 (Tt y3 (Tt k5 (Tt z3 A3)))) (AG C5 (Tt z3 A3)) h
 refine AR rfl ?_
 have h:=J5 _ h
 try dsimp only at h
 refine Al<|Bl 3 rfl<|AK rfl ((b1.memA .t4) 3 _ rfl)<|Ab (AE rfl (b1.memA .t1)) ?_
 have q3:=St.delS b1 .hd
 have X2:=St.delT b1 .hd
 have Y3:=Rep.at_ (α:=Int) (v:=K0) (xs:=R0) q3 L (Bt (α:=Int) b1 .hd F3 hL)
 have Q3:=Tt v3 (Tt x3 (Tt V2 (Tt W2 (Tt Z1 X2))))
 have R3:=Tt V2 (Tt W2 (Tt Z1 X2))
 obtain ⟨k7,F7,x6,_⟩:=Rep.sl (Ay c2 Q3)
 obtain ⟨p7,G7,y6,_⟩:=Rep.sl (Ay g2 R3)
 obtain ⟨q7,H7,z6,_⟩:=Rep.sl Y3
 refine Ak .plain rfl (Be (α:=Tc) (xs:=([(⟨j0,g0,s2,u2,R0,false⟩:Tc)]:List Tc)) (vs:=[.agg #[.string j0,vI g0,W0,z1,K0,.bool false]]) (ds' :=[.string j0,vI g0,W0,z1,K0,.bool false]) rfl q3 gP rfl (e1 rfl) (by rw [x6,y6,z6]; try kernel_rfl) rfl) fun J8 y7 E2 b2=>bk h fun Y6 C6 h=>?_
 have U3:=Tt d5 (Tt g5 (Tt j5 (Tt v3 (Tt x3 (Tt V2 (Tt W2 (Tt Z1 (Tt X2 b2))))))))
 refine RG.doesL .plain rfl (DoesL.app (α:=Tc) (ys:=([(⟨j0,g0,s2,u2,R0,false⟩:Tc)]:List Tc)) C6 E2 (fun _ _=>.t3) gP rfl rfl (AG E3 U3) (Src.row (α:=Tc) E2 .hd (AD (cs:=[.string j0,vI g0,W0,z1,K0,.bool false]) (xs:=(([(⟨j0,g0,s2,u2,R0,false⟩:Tc)]:List Tc):List Tc)) E2 L (Aq (cs:=[.string j0,vI g0,W0,z1,K0,.bool false]) (ds:=[]) (iv j0 g0 s2 (Ay c2 (Tt Q3 b2)) u2 (Ay g2 (Tt R3 b2)) R0 (Ay Y3 b2) false) (AU _ _))))) fun b3 K8 ⟨v4,F2,p5,D5⟩=>Bl 3 rfl<|RG.now .plain (Acts.store (j:=3) (old:=[vI (((a0.fh % (3:UInt8)).toNat:Nat):Int),vI (((a0.fc % (4:UInt8)).toNat:Nat):Int),vI (((a0.fe % (3:UInt8)).toNat:Nat):Int),y0]) (news:=[b3]) (new' :=[vI (((a0.fh % (3:UInt8)).toNat:Nat):Int),vI (((a0.fc % (4:UInt8)).toNat:Nat):Int),vI (((a0.fe % (3:UInt8)).toNat:Nat):Int),b3]) F2 .t4 rfl rfl rfl (St.c1 (α:=Tc) F2 .t3) rfl rfl (o1 (St.o1 (α:=Tc) F2 .t3)) rfl) fun M8 R4 B3=>Aa<|Av<|Al<|Ac rfl<|bk h fun R6 q6 h=>Ab (Br (i:=z0) (j:=1) rfl rfl q6)<|Af rfl<|Aa ?_
 obtain ⟨U4,C3⟩:=AL R4 .d2
 exact y4 (R6,Y6,b3,v4) U4 (Tt c5 (Tt U3 (Tt p5 (Tt B3 C3)))) (AG D5 (Tt B3 C3)) h
 intro c3
 refine RD.each [9,17] (rk c0) ⟨?_,?_,trivial⟩
 refine RO.new (m' :=62463) (sk c0) rfl .plain rfl (Be (α:=UInt8) (xs:=([aE D0,aE t0]:List UInt8)) (vs:=[.int .u8 ((aE D0).toNat:Int),.int .u8 ((aE t0).toNat:Int)]) (ds' :=[.int .u8 ((aE D0).toNat:Int),.int .u8 ((aE t0).toNat:Int)]) rfl I1 el22 rfl (e2 rfl rfl) (by kernel_rfl) rfl) fun U6 j4 J1 R2=>?_
 have B5:=AD (cs:=[.int .u8 ((aE D0).toNat:Int),.int .u8 ((aE t0).toNat:Int)]) (xs:=(([aE D0,aE t0]:List UInt8):List UInt8)) J1 L (Aq (cs:=[.int .u8 ((aE D0).toNat:Int)]) (ds:=[.int .u8 ((aE t0).toNat:Int)]) rfl (Aq (cs:=[.int .u8 ((aE t0).toNat:Int)]) (ds:=[]) rfl (AU _ _)))
 refine Rx 10 329728 c0 rfl q0 (FV.bytesS (xs:=([aE D0,aE t0]:List UInt8)) underlying22 underlying9 underlying5 rfl (Src.row (α:=UInt8) J1 .hd B5))<|Rv 11 c0 rfl q0 (fun _=>FV.addS Z3 rfl rfl)<|Rv 16 c0 rfl q0 (fun _=>AX (vs:=[.string j0,vI g0]) (u:=.agg #[.string j0,vI g0,vN,vN,vN,.bool false]) (e2 rfl rfl) (fun p=>by kernel_rfl))<|RD.nu 17 262143 c0 rfl .plain rfl (AA [.string ⟨#[]⟩,vI 0,vN,vN,vN,.bool false] J1) fun V6 v2 B2 U2=>?_
 obtain ⟨V4,q5⟩:=AL B2 (.a0 .d1)
 exact c3 v2 V4 (Tt R2 (Tt U2 q5))
 refine RO.new (m' :=193023) (sk c0) rfl .plain rfl (AA [.string ⟨#[]⟩,vI 0,vN,vN,vN,.bool false] I1) fun V6 v2 B2 U2=>RD.nu 9 193535 c0 rfl .plain rfl (Be (α:=UInt8) (xs:=([aE D0,aE t0]:List UInt8)) (vs:=[.int .u8 ((aE D0).toNat:Int),.int .u8 ((aE t0).toNat:Int)]) (ds' :=[.int .u8 ((aE D0).toNat:Int),.int .u8 ((aE t0).toNat:Int)]) rfl B2 el22 rfl (e2 rfl rfl) (by kernel_rfl) rfl) fun U6 j4 J1 R2=>Rx 10 329728 c0 rfl q0 (FV.bytesS (xs:=([aE D0,aE t0]:List UInt8)) underlying22 underlying9 underlying5 rfl (Src.row (α:=UInt8) J1 .hd (AD (cs:=[.int .u8 ((aE D0).toNat:Int),.int .u8 ((aE t0).toNat:Int)]) (xs:=(([aE D0,aE t0]:List UInt8):List UInt8)) J1 L (Aq (cs:=[.int .u8 ((aE D0).toNat:Int)]) (ds:=[.int .u8 ((aE t0).toNat:Int)]) rfl (Aq (cs:=[.int .u8 ((aE t0).toNat:Int)]) (ds:=[]) rfl (AU _ _))))))<|Rv 11 c0 rfl q0 (fun _=>FV.addS Z3 rfl rfl)<|Rv 16 c0 rfl q0 (fun _=>AX (vs:=[.string j0,vI g0]) (u:=.agg #[.string j0,vI g0,vN,vN,vN,.bool false]) (e2 rfl rfl) (fun p=>by kernel_rfl)) ?_
 obtain ⟨W4,s5⟩:=AL J1 .d1
 exact c3 v2 W4 (Tt U2 (Tt R2 s5))
 refine AR rfl ?_
 have h:=I5 _ h
 try dsimp only at h
 refine Aj<|Ae<|Af rfl<|Aa<|Ar ?_
 obtain ⟨Y7,K5,H5⟩:=ar h
 refine MX.lf (α:=Nat × (List Tc) × Value × (List Value)) (fun ⟨v1,Q0,p0,Y0⟩=>[(2,vP u0),(4,vP v0),(5,vP x0),(9,vI ((v1:Nat):Int))]) (fun ⟨v1,Q0,p0,Y0⟩=>[rr w 63 Tc vN (([]:List Tc).length) [],rr w 63 Tc p0 Q0.length Y0,.cells x0 [vI (((a0.fh % (3:UInt8)).toNat:Nat):Int),vI (((a0.fc % (4:UInt8)).toNat:Nat):Int),vI (((a0.fe % (3:UInt8)).toNat:Nat):Int),p0] 37,.cells v0 [vI 0,vI 0,vI 0,vN] 37,.cells u0 [.int .u8 (a0.fh.toNat:Int),.int .u8 (a0.fc.toNat:Int),.int .u8 (a0.fe.toNat:Int),.int .u8 (a0.ft.toNat:Int),v0_4] 27]) (fun ⟨v1,Q0,p0,Y0⟩ b4=>Cells b4 (bl [rr w 63 Tc vN (([]:List Tc).length) [],rr w 63 Tc p0 Q0.length Y0,.cells x0 [vI (((a0.fh % (3:UInt8)).toNat:Nat):Int),vI (((a0.fc % (4:UInt8)).toNat:Nat):Int),vI (((a0.fe % (3:UInt8)).toNat:Nat):Int),p0] 37,.cells v0 [vI 0,vI 0,vI 0,vN] 37,.cells u0 [.int .u8 (a0.fh.toNat:Int),.int .u8 (a0.fc.toNat:Int),.int .u8 (a0.fe.toNat:Int),.int .u8 (a0.ft.toNat:Int),v0_4] 27] ++ L) Y0 Q0) (fun ⟨v1,Q0,p0,Y0⟩=>(v1,Q0)) (0,X0,y0,Z0) K5 I1 E3 ?_
 rintro s7 ⟨v1,Q0,p0,Y0⟩ b4 x4 U0 X4 D3 h
 unfold ab_l2 at h
 try dsimp only at h
 refine Aj<|Ae<|Ac rfl<|Bl 3 rfl<|AK rfl ((U0.memA .t4) 3 _ rfl)<|Ab (FV.rem8 (a:=a0.ft) (b:=(2:UInt8)) rfl rfl (by decide)) ?_
 have U7:=(a0.ft % (2:UInt8)).toNat_lt
 refine Ab (FV.convN (i:=(a0.ft % (2:UInt8)).toNat) underlying5 underlying3 rfl (by omega))<|Ab (Bi (i:=v1) (j:=(a0.ft % (2:UInt8)).toNat) rfl rfl)<|Aa<|AJ rfl h (fun k4 h=>?_) (fun k4 h=>?_)
 refine Ao<|Aj<|Ar<|du 13 fun b0 A1=>Rv 0 b0 rfl A1 (fun _=>Bn 3 rfl)<|Rx 1 57344 b0 rfl A1 (AY rfl ((U0.memA .t2) 3 _ rfl))<|Rv 2 b0 rfl A1 (fun _=>Bn 0 rfl)<|Rx 3 63504 b0 rfl A1 (AY rfl ((U0.memA .t2) 0 _ rfl))<|Rv 5 b0 rfl A1 (fun _=>Bn 1 rfl)<|Rx 6 63616 b0 rfl A1 (AY rfl ((U0.memA .t2) 1 _ rfl))<|Rv 8 b0 rfl A1 (fun _=>Bn 2 rfl)<|Rx 9 64512 b0 rfl A1 (AY rfl ((U0.memA .t2) 2 _ rfl))<|bk h fun H0 q1 h=>bk h fun I0 s1 h=>bk h fun J0 u1 h=>RD.mf (α:=Value × (List Value) × Value × (List Value) × Value × (List Value)) (fun ⟨E0,B1,F0,C1,G0,D1⟩=>[(2,vP u0),(4,vP v0),(5,vP x0),(9,vI ((v1:Nat):Int)),(97,p0),(100,G0),(103,F0),(106,E0)]) (fun ⟨E0,B1,F0,C1,G0,D1⟩=>[rr w 3 Int E0 J0.length B1,rr w 3 Int F0 I0.length C1,rr w 3 Int G0 H0.length D1,rr w 63 Tc vN (([]:List Tc).length) [],rr w 63 Tc p0 Q0.length Y0,.cells x0 [vI (((a0.fh % (3:UInt8)).toNat:Nat):Int),vI (((a0.fc % (4:UInt8)).toNat:Nat):Int),vI (((a0.fe % (3:UInt8)).toNat:Nat):Int),p0] 37,.cells v0 [vI 0,vI 0,vI 0,vN] 37,.cells u0 [.int .u8 (a0.fh.toNat:Int),.int .u8 (a0.fc.toNat:Int),.int .u8 (a0.fe.toNat:Int),.int .u8 (a0.ft.toNat:Int),v0_4] 27]) (fun ⟨E0,B1,F0,C1,G0,D1⟩ q2=>Cells q2 (bl [rr w 3 Int E0 J0.length B1,rr w 3 Int F0 I0.length C1,rr w 3 Int G0 H0.length D1,rr w 63 Tc vN (([]:List Tc).length) [],rr w 63 Tc p0 Q0.length Y0,.cells x0 [vI (((a0.fh % (3:UInt8)).toNat:Nat):Int),vI (((a0.fc % (4:UInt8)).toNat:Nat):Int),vI (((a0.fe % (3:UInt8)).toNat:Nat):Int),p0] 37,.cells v0 [vI 0,vI 0,vI 0,vN] 37,.cells u0 [.int .u8 (a0.fh.toNat:Int),.int .u8 (a0.fc.toNat:Int),.int .u8 (a0.fe.toNat:Int),.int .u8 (a0.ft.toNat:Int),v0_4] 27] ++ L) B1 (J0:List Int)/\Cells q2 (bl [rr w 3 Int E0 J0.length B1,rr w 3 Int F0 I0.length C1,rr w 3 Int G0 H0.length D1,rr w 63 Tc vN (([]:List Tc).length) [],rr w 63 Tc p0 Q0.length Y0,.cells x0 [vI (((a0.fh % (3:UInt8)).toNat:Nat):Int),vI (((a0.fc % (4:UInt8)).toNat:Nat):Int),vI (((a0.fe % (3:UInt8)).toNat:Nat):Int),p0] 37,.cells v0 [vI 0,vI 0,vI 0,vN] 37,.cells u0 [.int .u8 (a0.fh.toNat:Int),.int .u8 (a0.fc.toNat:Int),.int .u8 (a0.fe.toNat:Int),.int .u8 (a0.ft.toNat:Int),v0_4] 27] ++ L) C1 (I0:List Int)/\Cells q2 (bl [rr w 3 Int E0 J0.length B1,rr w 3 Int F0 I0.length C1,rr w 3 Int G0 H0.length D1,rr w 63 Tc vN (([]:List Tc).length) [],rr w 63 Tc p0 Q0.length Y0,.cells x0 [vI (((a0.fh % (3:UInt8)).toNat:Nat):Int),vI (((a0.fc % (4:UInt8)).toNat:Nat):Int),vI (((a0.fe % (3:UInt8)).toNat:Nat):Int),p0] 37,.cells v0 [vI 0,vI 0,vI 0,vN] 37,.cells u0 [.int .u8 (a0.fh.toNat:Int),.int .u8 (a0.fc.toNat:Int),.int .u8 (a0.fe.toNat:Int),.int .u8 (a0.ft.toNat:Int),v0_4] 27] ++ L) D1 (H0:List Int)) U0 5 2047 ?_ ?_
 rintro ⟨E0,B1,F0,C1,G0,D1⟩ q2 P1 Y4 ⟨x5,y5,z5⟩
 try dsimp only
 obtain ⟨Z6,z7,E5⟩:=St.rowV (α:=Int) P1 .t2
 obtain ⟨b7,A7,F5⟩:=St.rowV (α:=Int) P1 .t1
 obtain ⟨c7,B7,G5⟩:=St.rowV (α:=Int) P1 .hd
 refine Rv 11 b0 rfl A1 (fun _=>AX (vs:=[.string ⟨#[115,101,97]⟩,.bool true,G0,F0,E0]) (u:=.agg #[.string ⟨#[115,101,97]⟩,vI 0,G0,F0,E0,.bool true]) (e5 rfl rfl rfl rfl rfl) (fun p=>by rw [E5,F5,G5]; try kernel_rfl)) ?_
 have U1:=St.delS P1 .t2
 have G2:=St.delT P1 .t2
 have V3:=Rep.at_ (α:=Int) (v:=G0) (xs:=H0) U1 L (Bt (α:=Int) P1 .t2 z5 hL)
 have V1:=St.delS U1 .t1
 have H2:=St.delT U1 .t1
 have W3:=Rep.at_ (α:=Int) (v:=F0) (xs:=I0) V1 L (Bt (α:=Int) U1 .t1 (AG y5 G2) hL)
 have d3:=St.delS V1 .hd
 have Y1:=St.delT V1 .hd
 have X3:=Rep.at_ (α:=Int) (v:=E0) (xs:=J0) d3 L (Bt (α:=Int) V1 .hd (AG x5 (Tt G2 H2)) hL)
 obtain ⟨d7,C7,s6,_⟩:=Rep.sl (Ay V3 (Tt H2 Y1))
 obtain ⟨g7,D7,u6,_⟩:=Rep.sl (Ay W3 Y1)
 obtain ⟨j7,E7,v6,_⟩:=Rep.sl X3
 refine RD.nu 12 8191 b0 rfl .plain rfl (Be (α:=Tc) (xs:=([(⟨⟨#[115,101,97]⟩,(0:Int),H0,I0,J0,true⟩:Tc)]:List Tc)) (vs:=[.agg #[.string ⟨#[115,101,97]⟩,vI 0,G0,F0,E0,.bool true]]) (ds' :=[.string ⟨#[115,101,97]⟩,vI 0,G0,F0,E0,.bool true]) rfl d3 gP rfl (e1 rfl) (by rw [s6,u6,v6]; try kernel_rfl) rfl) fun s8 v7 x2 I2=>?_
 have G3:=Tt H2 (Tt Y1 I2)
 refine bk h fun W6 A6 h=>?_
 have H3:=Tt Y4 (Tt G2 G3)
 refine Bx (i:=13) (rk b0) (RO.doesL (m' :=16383) (sk b0) rfl rfl .plain rfl (DoesL.app (α:=Tc) (ys:=([(⟨⟨#[115,101,97]⟩,(0:Int),H0,I0,J0,true⟩:Tc)]:List Tc)) A6 x2 (fun _ _=>.t2) gP rfl rfl (AG D3 H3) (Src.row (α:=Tc) x2 .hd (AD (cs:=[.string ⟨#[115,101,97]⟩,vI 0,G0,F0,E0,.bool true]) (xs:=(([(⟨⟨#[115,101,97]⟩,(0:Int),H0,I0,J0,true⟩:Tc)]:List Tc):List Tc)) x2 L (Aq (cs:=[.string ⟨#[115,101,97]⟩,vI 0,G0,F0,E0,.bool true]) (ds:=[]) (iv ⟨#[115,101,97]⟩ (0:Int) H0 (Ay V3 G3) I0 (Ay W3 (Tt Y1 I2)) J0 (Ay X3 I2) true) (AU _ _))))) (fun Y2 t8 ⟨s4,y2,Z4,A5⟩=>?_))
 refine Bx (i:=14) (rk b0) (RO.val (m' :=32767) (sk b0) rfl .plain rfl (Bn 3 rfl) ?_)
 refine BA 15 65535 b0 rfl rfl .plain (Acts.store (j:=3) (old:=[vI (((a0.fh % (3:UInt8)).toNat:Nat):Int),vI (((a0.fc % (4:UInt8)).toNat:Nat):Int),vI (((a0.fe % (3:UInt8)).toNat:Nat):Int),p0]) (news:=[Y2]) (new' :=[vI (((a0.fh % (3:UInt8)).toNat:Nat):Int),vI (((a0.fc % (4:UInt8)).toNat:Nat):Int),vI (((a0.fe % (3:UInt8)).toNat:Nat):Int),Y2]) y2 .t3 rfl rfl rfl (St.c1 (α:=Tc) y2 .t2) rfl rfl (o1 (St.o1 (α:=Tc) y2 .t2)) rfl) fun v8 A4 s3=>AI (dk b0)<|Av<|Al<|Ac rfl<|Ab (Bd (i:=v1) (j:=1) rfl rfl (by omega))<|Af rfl<|Aa ?_
 obtain ⟨B4,u3⟩:=AL A4 .d1
 exact x4 (v1 + 1,W6,Y2,s4) B4 (Tt X4 (Tt H3 (Tt Z4 (Tt s3 u3)))) (AG A5 (Tt s3 u3)) h
 intro M1
 refine RD.each [4,7,10] (rk b0) ⟨?_,?_,?_,trivial⟩
 refine RO.new (m' :=895) (sk b0) rfl .plain rfl (Does.mk (α:=Int) q1 U0 bb rfl) fun j2 g1 A0 V0=>?_
 have E1:=AD (cs:=(List.replicate (((a0.fh % (3:UInt8)).toNat:Nat):Int).toNat [vI 0]).flatten) (xs:=H0) A0 L (Cells.mk q1 rfl)
 refine RD.each [7,10] (rk b0) ⟨?_,?_,trivial⟩
 refine RO.new (m' :=1023) (sk b0) rfl .plain rfl (Does.mk (α:=Int) s1 A0 bb rfl) fun k2 j1 B0 M0=>?_
 have F1:=AD (cs:=(List.replicate (((a0.fc % (4:UInt8)).toNat:Nat):Int).toNat [vI 0]).flatten) (xs:=I0) B0 L (Cells.mk s1 rfl)
 refine RD.nu 10 2047 b0 rfl .plain rfl (Does.mk (α:=Int) u1 B0 bb rfl) fun p2 k1 C0 P0=>?_
 have p1:=AD (cs:=(List.replicate (((a0.fe % (3:UInt8)).toNat:Nat):Int).toNat [vI 0]).flatten) (xs:=J0) C0 L (Cells.mk u1 rfl)
 exact M1 ((.slice (some ⟨k1,0,none⟩) (((a0.fe % (3:UInt8)).toNat:Nat):Int).toNat (((a0.fe % (3:UInt8)).toNat:Nat):Int).toNat),(List.replicate (((a0.fe % (3:UInt8)).toNat:Nat):Int).toNat [vI 0]).flatten,(.slice (some ⟨j1,0,none⟩) (((a0.fc % (4:UInt8)).toNat:Nat):Int).toNat (((a0.fc % (4:UInt8)).toNat:Nat):Int).toNat),(List.replicate (((a0.fc % (4:UInt8)).toNat:Nat):Int).toNat [vI 0]).flatten,(.slice (some ⟨g1,0,none⟩) (((a0.fh % (3:UInt8)).toNat:Nat):Int).toNat (((a0.fh % (3:UInt8)).toNat:Nat):Int).toNat),(List.replicate (((a0.fh % (3:UInt8)).toNat:Nat):Int).toNat [vI 0]).flatten) C0 (Tt V0 (Tt M0 P0)) ⟨p1,(AG F1 P0),(AG E1 (Tt M0 P0))⟩
 refine RO.new (m' :=1919) (sk b0) rfl .plain rfl (Does.mk (α:=Int) u1 A0 bb rfl) fun p2 k1 C0 P0=>?_
 have p1:=AD (cs:=(List.replicate (((a0.fe % (3:UInt8)).toNat:Nat):Int).toNat [vI 0]).flatten) (xs:=J0) C0 L (Cells.mk u1 rfl)
 refine RD.nu 7 2047 b0 rfl .plain rfl (Does.mk (α:=Int) s1 C0 bb rfl) fun k2 j1 B0 M0=>?_
 have F1:=AD (cs:=(List.replicate (((a0.fc % (4:UInt8)).toNat:Nat):Int).toNat [vI 0]).flatten) (xs:=I0) B0 L (Cells.mk s1 rfl)
 obtain ⟨C4,J2⟩:=AL B0 (.a1 .d0)
 have I3:=Tt P0 (Tt M0 J2)
 exact M1 ((.slice (some ⟨k1,0,none⟩) (((a0.fe % (3:UInt8)).toNat:Nat):Int).toNat (((a0.fe % (3:UInt8)).toNat:Nat):Int).toNat),(List.replicate (((a0.fe % (3:UInt8)).toNat:Nat):Int).toNat [vI 0]).flatten,(.slice (some ⟨j1,0,none⟩) (((a0.fc % (4:UInt8)).toNat:Nat):Int).toNat (((a0.fc % (4:UInt8)).toNat:Nat):Int).toNat),(List.replicate (((a0.fc % (4:UInt8)).toNat:Nat):Int).toNat [vI 0]).flatten,(.slice (some ⟨g1,0,none⟩) (((a0.fh % (3:UInt8)).toNat:Nat):Int).toNat (((a0.fh % (3:UInt8)).toNat:Nat):Int).toNat),(List.replicate (((a0.fh % (3:UInt8)).toNat:Nat):Int).toNat [vI 0]).flatten) C4 (Tt V0 I3) ⟨(AG p1 (Tt M0 J2)),(AG F1 J2),(AG E1 I3)⟩
 refine RO.new (m' :=1007) (sk b0) rfl .plain rfl (Does.mk (α:=Int) s1 U0 bb rfl) fun k2 j1 B0 M0=>?_
 have F1:=AD (cs:=(List.replicate (((a0.fc % (4:UInt8)).toNat:Nat):Int).toNat [vI 0]).flatten) (xs:=I0) B0 L (Cells.mk s1 rfl)
 refine RD.each [4,10] (rk b0) ⟨?_,?_,trivial⟩
 refine RO.new (m' :=1023) (sk b0) rfl .plain rfl (Does.mk (α:=Int) q1 B0 bb rfl) fun j2 g1 A0 V0=>?_
 have E1:=AD (cs:=(List.replicate (((a0.fh % (3:UInt8)).toNat:Nat):Int).toNat [vI 0]).flatten) (xs:=H0) A0 L (Cells.mk q1 rfl)
 refine RD.nu 10 2047 b0 rfl .plain rfl (Does.mk (α:=Int) u1 A0 bb rfl) fun p2 k1 C0 P0=>?_
 have p1:=AD (cs:=(List.replicate (((a0.fe % (3:UInt8)).toNat:Nat):Int).toNat [vI 0]).flatten) (xs:=J0) C0 L (Cells.mk u1 rfl)
 obtain ⟨D4,K2⟩:=AL C0 (.a0 (.a1 .d0))
 have J3:=Tt V0 (Tt P0 K2)
 exact M1 ((.slice (some ⟨k1,0,none⟩) (((a0.fe % (3:UInt8)).toNat:Nat):Int).toNat (((a0.fe % (3:UInt8)).toNat:Nat):Int).toNat),(List.replicate (((a0.fe % (3:UInt8)).toNat:Nat):Int).toNat [vI 0]).flatten,(.slice (some ⟨j1,0,none⟩) (((a0.fc % (4:UInt8)).toNat:Nat):Int).toNat (((a0.fc % (4:UInt8)).toNat:Nat):Int).toNat),(List.replicate (((a0.fc % (4:UInt8)).toNat:Nat):Int).toNat [vI 0]).flatten,(.slice (some ⟨g1,0,none⟩) (((a0.fh % (3:UInt8)).toNat:Nat):Int).toNat (((a0.fh % (3:UInt8)).toNat:Nat):Int).toNat),(List.replicate (((a0.fh % (3:UInt8)).toNat:Nat):Int).toNat [vI 0]).flatten) D4 (Tt M0 J3) ⟨(AG p1 K2),(AG F1 J3),(AG E1 (Tt P0 K2))⟩
 refine RO.new (m' :=2031) (sk b0) rfl .plain rfl (Does.mk (α:=Int) u1 B0 bb rfl) fun p2 k1 C0 P0=>?_
 have p1:=AD (cs:=(List.replicate (((a0.fe % (3:UInt8)).toNat:Nat):Int).toNat [vI 0]).flatten) (xs:=J0) C0 L (Cells.mk u1 rfl)
 refine RD.nu 4 2047 b0 rfl .plain rfl (Does.mk (α:=Int) q1 C0 bb rfl) fun j2 g1 A0 V0=>?_
 have E1:=AD (cs:=(List.replicate (((a0.fh % (3:UInt8)).toNat:Nat):Int).toNat [vI 0]).flatten) (xs:=H0) A0 L (Cells.mk q1 rfl)
 obtain ⟨E4,M2⟩:=AL A0 (.a1 (.a1 .d0))
 have K3:=Tt P0 (Tt V0 M2)
 exact M1 ((.slice (some ⟨k1,0,none⟩) (((a0.fe % (3:UInt8)).toNat:Nat):Int).toNat (((a0.fe % (3:UInt8)).toNat:Nat):Int).toNat),(List.replicate (((a0.fe % (3:UInt8)).toNat:Nat):Int).toNat [vI 0]).flatten,(.slice (some ⟨j1,0,none⟩) (((a0.fc % (4:UInt8)).toNat:Nat):Int).toNat (((a0.fc % (4:UInt8)).toNat:Nat):Int).toNat),(List.replicate (((a0.fc % (4:UInt8)).toNat:Nat):Int).toNat [vI 0]).flatten,(.slice (some ⟨g1,0,none⟩) (((a0.fh % (3:UInt8)).toNat:Nat):Int).toNat (((a0.fh % (3:UInt8)).toNat:Nat):Int).toNat),(List.replicate (((a0.fh % (3:UInt8)).toNat:Nat):Int).toNat [vI 0]).flatten) E4 (Tt M0 K3) ⟨(AG p1 (Tt V0 M2)),(AG F1 K3),(AG E1 M2)⟩
 refine RO.new (m' :=1903) (sk b0) rfl .plain rfl (Does.mk (α:=Int) u1 U0 bb rfl) fun p2 k1 C0 P0=>?_
 have p1:=AD (cs:=(List.replicate (((a0.fe % (3:UInt8)).toNat:Nat):Int).toNat [vI 0]).flatten) (xs:=J0) C0 L (Cells.mk u1 rfl)
 refine RD.each [4,7] (rk b0) ⟨?_,?_,trivial⟩
 refine RO.new (m' :=1919) (sk b0) rfl .plain rfl (Does.mk (α:=Int) q1 C0 bb rfl) fun j2 g1 A0 V0=>?_
 have E1:=AD (cs:=(List.replicate (((a0.fh % (3:UInt8)).toNat:Nat):Int).toNat [vI 0]).flatten) (xs:=H0) A0 L (Cells.mk q1 rfl)
 refine RD.nu 7 2047 b0 rfl .plain rfl (Does.mk (α:=Int) s1 A0 bb rfl) fun k2 j1 B0 M0=>?_
 have F1:=AD (cs:=(List.replicate (((a0.fc % (4:UInt8)).toNat:Nat):Int).toNat [vI 0]).flatten) (xs:=I0) B0 L (Cells.mk s1 rfl)
 obtain ⟨F4,P2⟩:=AL B0 (.a2 .d0)
 have M3:=Tt V0 (Tt M0 P2)
 exact M1 ((.slice (some ⟨k1,0,none⟩) (((a0.fe % (3:UInt8)).toNat:Nat):Int).toNat (((a0.fe % (3:UInt8)).toNat:Nat):Int).toNat),(List.replicate (((a0.fe % (3:UInt8)).toNat:Nat):Int).toNat [vI 0]).flatten,(.slice (some ⟨j1,0,none⟩) (((a0.fc % (4:UInt8)).toNat:Nat):Int).toNat (((a0.fc % (4:UInt8)).toNat:Nat):Int).toNat),(List.replicate (((a0.fc % (4:UInt8)).toNat:Nat):Int).toNat [vI 0]).flatten,(.slice (some ⟨g1,0,none⟩) (((a0.fh % (3:UInt8)).toNat:Nat):Int).toNat (((a0.fh % (3:UInt8)).toNat:Nat):Int).toNat),(List.replicate (((a0.fh % (3:UInt8)).toNat:Nat):Int).toNat [vI 0]).flatten) F4 (Tt P0 M3) ⟨(AG p1 M3),(AG F1 P2),(AG E1 (Tt M0 P2))⟩
 refine RO.new (m' :=2031) (sk b0) rfl .plain rfl (Does.mk (α:=Int) s1 C0 bb rfl) fun k2 j1 B0 M0=>RD.nu 4 2047 b0 rfl .plain rfl (Does.mk (α:=Int) q1 B0 bb rfl) fun j2 g1 A0 V0=>?_
 obtain ⟨G4,Q2⟩:=AL A0 (.a2 (.a1 .d0))
 have P3:=Tt M0 (Tt V0 Q2)
 exact M1 ((.slice (some ⟨k1,0,none⟩) (((a0.fe % (3:UInt8)).toNat:Nat):Int).toNat (((a0.fe % (3:UInt8)).toNat:Nat):Int).toNat),(List.replicate (((a0.fe % (3:UInt8)).toNat:Nat):Int).toNat [vI 0]).flatten,(.slice (some ⟨j1,0,none⟩) (((a0.fc % (4:UInt8)).toNat:Nat):Int).toNat (((a0.fc % (4:UInt8)).toNat:Nat):Int).toNat),(List.replicate (((a0.fc % (4:UInt8)).toNat:Nat):Int).toNat [vI 0]).flatten,(.slice (some ⟨g1,0,none⟩) (((a0.fh % (3:UInt8)).toNat:Nat):Int).toNat (((a0.fh % (3:UInt8)).toNat:Nat):Int).toNat),(List.replicate (((a0.fh % (3:UInt8)).toNat:Nat):Int).toNat [vI 0]).flatten) G4 (Tt P0 P3) ⟨(AG p1 P3),(AG (AD (cs:=(List.replicate (((a0.fc % (4:UInt8)).toNat:Nat):Int).toNat [vI 0]).flatten) (xs:=I0) B0 L (Cells.mk s1 rfl)) (Tt V0 Q2)),(AG (AD (cs:=(List.replicate (((a0.fh % (3:UInt8)).toNat:Nat):Int).toNat [vI 0]).flatten) (xs:=H0) A0 L (Cells.mk q1 rfl)) Q2)⟩
 refine AR rfl ?_
 have h:=H5 _ h
 try dsimp only at h
 refine Ae<|Ab (AE rfl (U0.memA .t2))<|AV [vI (((a0.fh % (3:UInt8)).toNat:Nat):Int),vI (((a0.fc % (4:UInt8)).toNat:Nat):Int),vI (((a0.fe % (3:UInt8)).toNat:Nat):Int),p0] U0 .t3 (o4 rfl rfl rfl (St.o1 (α:=Tc) U0 .t1)) fun x8 z2 b5=>Aa<|Am rfl ?_
 have W1:=St.delS z2 .t1
 have I7:=St.delT z2 .t1
 have Q5:=Rep.at_ (α:=Tc) (v:=p0) (xs:=Q0) W1 L (Bt (α:=Tc) z2 .t1 (AG D3 b5) hL)
 refine Ap hb0 func26 rfl (.cons (.many (cs:=[vI (((a0.fh % (3:UInt8)).toNat:Nat):Int),vI (((a0.fc % (4:UInt8)).toNat:Nat):Int),vI (((a0.fe % (3:UInt8)).toNat:Nat):Int),p0]) rfl rfl (W1.memA .t2)) .nil) rfl ?_
 cases h
 exact ⟨W1.ag,fun p q=>⟨p0,rfl,W1.kd Q5 q⟩⟩
def aQ_p (_n:Nat) (a0:Int):Option Bool:=
  some (!(decide (a0 = 0)))
theorem aQ_c (n:Nat) {L w} (_hL:hl L w) {a0:Int}  {r:Bool} (h:aQ_p n a0 = some r) :
 Cl 30 #[vI a0] w (aj w fun _ u=>u = .bool r):=by
 unfold aQ_p at h
 have hS0:=Ax w
 refine AC func30 rfl rfl rfl fun _ cs0 hb0=>Ae<|Af rfl<|Aa<|Ae<|Ac rfl<|Ab (FV.neq (i:=a0) (j:=0) rfl rfl)<|Af rfl<|Aa<|Am rfl<|AW hb0 func30 rfl rfl ?_
 cases h
 exact hS0.gv
end Go.Proofs.YtibdeoeglcngoaaGreatDoor
