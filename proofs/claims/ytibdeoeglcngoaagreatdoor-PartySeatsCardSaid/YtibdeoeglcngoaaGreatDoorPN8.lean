import Derived.Test.YtibdeoeglcngoaaGreatDoorPN6
namespace Go.Proofs.YtibdeoeglcngoaaGreatDoor
open Go Go.RowKit Tryz
set_option maxRecDepth 4000
set_option maxHeartbeats 4000000

structure Tl where
  fE:UInt8
  fA:UInt8
  fN:Int
  deriving DecidableEq
instance:Rep Tl:=Rep.via (β:=UInt8 × UInt8 × Int) fun x=>(x.fE,x.fA,x.fN)
def bo_p (_n:Nat) (a0:Tl) (a1:Td):Option Td:=
  (app ([]:List Tc) a1.ft).bind fun c0=>(if c0.length = 0 then some (⟨a1.fe,a1.fc,a1.fh,c0⟩:Td) else (ct ((a0.fA.toNat:Nat):Int) ((c0.length:Nat):Int)).bind fun d0=>(idx c0 d0).bind fun b0=>(if ((a0.fE % (7:UInt8)).toNat) = 0 then (put c0 ((d0.toNat:Nat):Int) (⟨b0.fw,a0.fN,b0.fe,b0.fC,b0.fB,b0.fq⟩:Tc)).bind fun j0=>some (⟨a1.fe,a1.fc,a1.fh,j0⟩:Td) else (if ((a0.fE % (7:UInt8)).toNat) = 1 then (app ([a0.fN]:List Int) b0.fC).bind fun p0=>(put c0 ((d0.toNat:Nat):Int) (⟨b0.fw,b0.fv,b0.fe,p0,b0.fB,b0.fq⟩:Tc)).bind fun q0=>some (⟨a1.fe,a1.fc,a1.fh,q0⟩:Td) else (if ((a0.fE % (7:UInt8)).toNat) = 2 then (app ([]:List Int) b0.fe).bind fun k0=>(app k0 ([a0.fN]:List Int)).bind fun s0=>(put c0 ((d0.toNat:Nat):Int) (⟨b0.fw,b0.fv,s0,b0.fC,b0.fB,b0.fq⟩:Tc)).bind fun t0=>some (⟨a1.fe,a1.fc,a1.fh,t0⟩:Td) else (if ((a0.fE % (7:UInt8)).toNat) = 3 then (put c0 ((d0.toNat:Nat):Int) (⟨b0.fw,b0.fv,b0.fe,b0.fC,b0.fB,(!b0.fq)⟩:Tc)).bind fun u0=>some (⟨a1.fe,a1.fc,a1.fh,u0⟩:Td) else (if ((a0.fE % (7:UInt8)).toNat) = 4 then (c0[0]?).bind fun g0=>(put c0 ((d0.toNat:Nat):Int) (⟨g0.fw,b0.fv,b0.fe,b0.fC,b0.fB,b0.fq⟩:Tc)).bind fun v0=>some (⟨a1.fe,a1.fc,a1.fh,v0⟩:Td) else (if ((a0.fE % (7:UInt8)).toNat) = 5 then some (⟨a1.fe,a1.fc,a0.fN,c0⟩:Td) else (put c0 ((d0.toNat:Nat):Int) (⟨b0.fw,b0.fv,b0.fe,b0.fC,([a0.fN]:List Int),b0.fq⟩:Tc)).bind fun x0=>some (⟨a1.fe,a1.fc,a1.fh,x0⟩:Td))))))))
theorem bo_c (n:Nat) {L w} (hL:hl L w) (a0:Tl) (a1:Td) {v1_3:Value} (h1_3:Rep.R w L [v1_3] a1.ft)  {r:Td} (h:bo_p n a0 a1 = some r) :
 Cl 42 #[.agg #[.int .u8 (a0.fE.toNat:Int),.int .u8 (a0.fA.toNat:Int),vI a0.fN],.agg #[vI a1.fe,vI a1.fc,vI a1.fh,v1_3]] w (ah w fun w' u=>∃ v0_3:Value,u = .agg #[vI r.fe,vI r.fc,vI r.fh,v0_3]/\Rep.R w' L [v0_3] r.ft):=by
 unfold bo_p at h
 refine AF func42 rfl rfl rfl fun _ cs0 hb0=>Ae<|RG.bx (AB w) rfl rfl fun w11 E9 J5 B00=>RG.bx J5 rfl rfl fun w16 F9 K5 E00=>RG.nl [vI 0,vI 0,vI 0,vN] K5 fun w21 Y1 y4 F00=>Aa<|Ae<|Ab (AI rfl (y4.memA .t1))<|RG.nl [vI 0,vI 0,vI 0,vN] y4 fun w26 Z1 A4 I00=>AY [vI a1.fe,vI a1.fc,vI a1.fh,v1_3] A4 .hd (o4 rfl rfl rfl (Bg (AS h1_3 A4))) fun w31 R6 V00=>Aa<|Ae<|Ao .plain rfl (jB Tc R6 fH) fun w35 G9 s2 W00=>Bb 3 rfl<|AN rfl ((s2.memA .t3) 3 _ rfl)<|bk h fun M1 p9 h=>RG.doesL .plain rfl (AU (α:=Tc) (ys:=a1.ft) p9 s2 (fun _ _=>.hd) fH rfl rfl (jD Tc s2 L) (BH (AS h1_3 s2))) fun v0 w42 ⟨y2,X2,X00,j1⟩=>Bb 3 rfl<|RG.now .plain (BN (j:=3) (old:=[vI a1.fe,vI a1.fc,vI a1.fh,v1_3]) (news:=[v0]) (new' :=[vI a1.fe,vI a1.fc,vI a1.fh,v0]) X2 .t1 rfl rfl rfl (St.c1 (α:=Tc) X2 .hd) rfl rfl (o1 (St.o1 (α:=Tc) X2 .hd)) rfl) fun w49 u0 g1=>?_
 refine Aa<|Aj<|Ae<|Bb 3 rfl<|AN rfl ((u0.memA .t1) 3 _ rfl) ?_
 have k01:M1.length <= 4294967296:=St.rowLe (α:=Tc) u0 .hd
 obtain ⟨B9,R9,R7⟩:=St.rowV (α:=Tc) u0 .hd
 refine Ab (FV.lenV underlying35 rfl R7)<|Ab (BL (i:=M1.length) (j:=0) rfl rfl)<|Aa<|AM rfl h (fun H5 h=>?_) (fun H5 h=>?_)
 refine Ae<|Ab (AI rfl (u0.memA .t1))<|AY [vI a1.fe,vI a1.fc,vI a1.fh,v0] u0 .t2 (o4 rfl rfl rfl (St.o1 (α:=Tc) u0 .hd)) fun w57 Y2 p7=>Aa<|Am rfl ?_
 have u2:=BD Y2 .hd
 have Y00:=BE Y2 .hd
 have P8:=BF (α:=Tc) (v:=v0) (xs:=M1) u2 L (Bk (α:=Tc) Y2 .hd (Aq j1 (Tt g1 p7)) hL)
 refine Au hb0 func42 rfl (.cons (.many (cs:=[vI a1.fe,vI a1.fc,vI a1.fh,v0]) rfl rfl (u2.memA .t1)) .nil) rfl ?_
 cases h
 exact ⟨u2.ag,fun p q=>⟨v0,rfl,u2.kd P8 q⟩⟩
 refine Ar<|Aj<|du 11 fun s1 x1=>Rv 0 s1 rfl x1 (fun _=>Bl 3 rfl)<|Rx 1 1536 s1 rfl x1 (AL rfl ((u0.memA .t1) 3 _ rfl))<|Rv 2 s1 rfl x1 (fun _=>Bl 1 rfl)<|Rx 3 1808 s1 rfl x1 (AL rfl ((u0.memA .t4) 1 _ rfl)) ?_
 have E01:=a0.fA.toNat_lt
 refine Rv 4 s1 rfl x1 (fun _=>FV.convN (i:=a0.fA.toNat) underlying5 underlying3 rfl (by omega))<|Rv 5 s1 rfl x1 (fun _=>Bl 3 rfl)<|Rx 6 1920 s1 rfl x1 (AL rfl ((u0.memA .t1) 3 _ rfl)) ?_
 obtain ⟨C9,U9,U7⟩:=St.rowV (α:=Tc) u0 .hd
 refine Rx 7 1792 s1 rfl x1 (FV.lenV underlying35 rfl U7)<|bk h fun K1 V8 h=>Rv 8 s1 rfl x1 (fun _=>FV.remc (i:=((a0.fA.toNat:Nat):Int)) (j:=((M1.length:Nat):Int)) rfl rfl V8)<|bk h fun g0 X8 h=>?_
 obtain ⟨W7,b1⟩:=az X8
 have I1:=Aq j1 g1
 obtain ⟨A5,V9,b4,H4,x00,Q8,X1⟩:=St.nth (α:=Tc) u0 .hd I1 b1
 obtain ⟨v4,W9,Z0⟩:=BA (α:=Tc) u0 .hd H4
 obtain rfl:A5 = ⟨v4,0,none⟩:=by rw [Z0] at b4; cases b4; rfl
 obtain ⟨v86,v87,v88,rfl,X0,R8,D01⟩:=aM Q8
 refine Rv 9 s1 rfl x1 (fun _=>Bc 6 (K1.toNat) rfl b4 rfl W7 H4)<|Rv 10 s1 rfl x1 (fun _=>Bp rfl)<|AP (dk s1)<|Aj<|Ae<|Bb 0 rfl<|AN rfl ((u0.memA .t4) 0 _ rfl)<|Ab (FV.rem8 (a:=a0.fE) (b:=(7:UInt8)) rfl rfl (by decide))<|Aa<|Av<|Ae<|Ab (BL (i:=(a0.fE % (7:UInt8)).toNat) (j:=0) rfl rfl)<|Af rfl<|Aa<|AM rfl h (fun I5 h=>?_) (fun I5 h=>?_)
 refine Ap<|Ac rfl<|Bb 2 rfl<|AN rfl ((u0.memA .t4) 2 _ rfl)<|Ab (FV.nilCheck rfl)<|Bb 1 rfl ?_
 obtain ⟨X9,V7,j01,y00,U8,v01,H7⟩:=St.nthAt (α:=Tc) u0 .hd I1 b1 Z0
 obtain ⟨V4,W4,X4,rfl,Y7,Z7,b8⟩:=aM U8
 refine bk h fun u9 Y8 h=>RG.acts' .plain (Acts.setPart (α:=Tc) (i:=K1.toNat) (tot:=1) (ds:=[.string g0.fw,vI g0.fv,V4,W4,X4,.bool g0.fq]) (news:=[vI a0.fN]) (full:=[.string g0.fw,vI a0.fN,V4,W4,X4,.bool g0.fq]) Y8 u0 V7 (fun _=>.hd) I1 H7 rfl rfl rfl rfl rfl rfl (cQ g0.fw a0.fN g0.fe Y7 g0.fC Z7 g0.fB b8 g0.fq) rfl (o1 rfl)) fun M01 ⟨Y9,z2,z00,q7⟩=>Aa<|Ax<|Ae<|Ab (AI rfl (z2.memA .t1))<|AY [vI a1.fe,vI a1.fc,vI a1.fh,v0] z2 .t2 (o4 rfl rfl rfl (St.o1 (α:=Tc) z2 .hd)) fun Q01 A2 U6=>Aa<|Am rfl ?_
 have b2:=BD A2 .hd
 have A00:=BE A2 .hd
 have c8:=BF (α:=Tc) (v:=v0) (xs:=u9) b2 L (Bk (α:=Tc) A2 .hd (Aq q7 U6) hL)
 refine Au hb0 func42 rfl (.cons (.many (cs:=[vI a1.fe,vI a1.fc,vI a1.fh,v0]) rfl rfl (b2.memA .t1)) .nil) rfl ?_
 cases h
 exact ⟨b2.ag,fun p q=>⟨v0,rfl,b2.kd c8 q⟩⟩
 refine Ae<|Ab (BL (i:=(a0.fE % (7:UInt8)).toNat) (j:=1) rfl rfl)<|Af rfl<|Aa<|AM rfl h (fun C5 h=>?_) (fun C5 h=>?_)
 refine du 8 fun d1 R1=>Rv 0 d1 rfl R1 (fun _=>Ah rfl)<|Rv 1 d1 rfl R1 (fun _=>Bl 2 rfl)<|Rx 2 3848 d1 rfl R1 (AL rfl ((u0.memA .t4) 2 _ rfl))<|Rv 4 d1 rfl R1 (fun _=>Ah rfl)<|Rv 5 d1 rfl R1 (fun _=>FV.nilCheck rfl)<|Rv 6 d1 rfl R1 (fun _=>Bl 3 rfl)<|Rx 7 3840 d1 rfl R1 (AL rfl (X1 3 _ rfl))<|RD.nu 3 255 d1 rfl .plain rfl (jA a0.fN (vI a0.fN) u0 av (e1 rfl)) fun R01 D9 x4 B4=>bk h fun x5 Z8 h=>Bi (i:=8) (rk d1) (Bt (m' :=511) (sk d1) rfl rfl .plain rfl (AU (α:=Int) (ys:=g0.fC) Z8 x4 (fun _ _=>.hd) av rfl rfl (jC a0.fN (vI a0.fN) x4 L rfl) (BH (Ay R8 B4))) (fun p4 U01 ⟨Z9,B2,V6,s7⟩=>?_))
 refine Bi (i:=9) (rk d1) (Bu (m' :=1023) (sk d1) rfl .plain rfl (FV.nilCheck rfl) ?_)
 refine Bi (i:=10) (rk d1) (Bu (m' :=2047) (sk d1) rfl .plain rfl (Bl 3 rfl) ?_)
 have C2:=BD B2 .hd
 have g4:=BF (α:=Int) (v:=p4) (xs:=x5) C2 L (Bk (α:=Int) B2 .hd s7 hL)
 have I4:=Aq j1 (Tt g1 (Tt B4 (Tt V6 (BE B2 .hd))))
 obtain ⟨H9,I7,Z00,b00,d8,p01,C7⟩:=St.nthAt (α:=Tc) C2 .hd I4 b1 Z0
 obtain ⟨Y4,q9,Z4,rfl,g8,x01,j8⟩:=aM d8
 refine bk h fun v9 b9 h=>Bi (i:=11) (rk d1) (RO.acts (m' :=4095) (sk d1) rfl rfl .plain (Acts.setPart (α:=Tc) (i:=K1.toNat) (tot:=3) (ds:=[.string g0.fw,vI g0.fv,Y4,q9,Z4,.bool g0.fq]) (news:=[p4]) (full:=[.string g0.fw,vI g0.fv,Y4,p4,Z4,.bool g0.fq]) b9 C2 I7 (fun _=>.hd) I4 C7 rfl rfl rfl rfl rfl (Rep.c1 g4) (cQ g0.fw g0.fv g0.fe g8 x5 g4 g0.fB j8 g0.fq) rfl (o1 (Bg g4))) (fun V01 ⟨c00,D2,C00,t7⟩=>?_))
 refine AP (dk d1)<|Ax<|Ae<|Ab (AI rfl (D2.memA .t1))<|AY [vI a1.fe,vI a1.fc,vI a1.fh,v0] D2 .t2 (o4 rfl rfl rfl (St.o1 (α:=Tc) D2 .hd)) fun X01 E2 W6=>Aa<|Am rfl ?_
 have c2:=BD E2 .hd
 have D00:=BE E2 .hd
 have k8:=BF (α:=Tc) (v:=v0) (xs:=v9) c2 L (Bk (α:=Tc) E2 .hd (Aq t7 W6) hL)
 refine Au hb0 func42 rfl (.cons (.many (cs:=[vI a1.fe,vI a1.fc,vI a1.fh,v0]) rfl rfl (c2.memA .t1)) .nil) rfl ?_
 cases h
 exact ⟨c2.ag,fun p q=>⟨v0,rfl,c2.kd k8 q⟩⟩
 refine Ae<|Ab (BL (i:=(a0.fE % (7:UInt8)).toNat) (j:=2) rfl rfl)<|Af rfl<|Aa<|AM rfl h (fun D5 h=>?_) (fun D5 h=>?_)
 refine du 6 fun b0 J1=>Rv 0 b0 rfl J1 (fun _=>Ah rfl)<|Rv 2 b0 rfl J1 (fun _=>Ah rfl)<|Rv 3 b0 rfl J1 (fun _=>FV.nilCheck rfl)<|Rv 4 b0 rfl J1 (fun _=>Bl 2 rfl)<|bk h fun v2 y0 h=>RD.mf (α:=Value × (List Value) × Value × (List Value)) (fun ⟨U1,P1,V1,Q1⟩=>[(4,vP Y1),(5,vP Z1),(59,.pointer (some (Addr.add ⟨v4,0,none⟩ (K1.toNat * 6)))),(65,V1),(68,U1)]) (fun ⟨U1,P1,V1,Q1⟩=>[rr w 3 Int U1 (([a0.fN]:List Int).length) P1,rr w 3 Int V1 v2.length Q1,rr w 63 Tc v0 M1.length y2,.cells Z1 [vI a1.fe,vI a1.fc,vI a1.fh,v0] 37,.cells Y1 [vI 0,vI 0,vI 0,vN] 37]) (fun ⟨U1,P1,V1,Q1⟩ s4=>Cells s4 (bl [rr w 3 Int U1 (([a0.fN]:List Int).length) P1,rr w 3 Int V1 v2.length Q1,rr w 63 Tc v0 M1.length y2,.cells Z1 [vI a1.fe,vI a1.fc,vI a1.fh,v0] 37,.cells Y1 [vI 0,vI 0,vI 0,vN] 37] ++ L) P1 (([a0.fN]:List Int):List Int)/\Cells s4 (bl [rr w 3 Int U1 (([a0.fN]:List Int).length) P1,rr w 3 Int V1 v2.length Q1,rr w 63 Tc v0 M1.length y2,.cells Z1 [vI a1.fe,vI a1.fc,vI a1.fh,v0] 37,.cells Y1 [vI 0,vI 0,vI 0,vN] 37] ++ L) Q1 (v2:List Int)) u0 4 1023 ?_ ?_
 rintro ⟨U1,P1,V1,Q1⟩ s4 z4 X6 ⟨u7,v7⟩
 try dsimp only
 refine bk h fun y5 c9 h=>Bi (i:=10) (rk b0) (Bt (m' :=2047) (sk b0) rfl rfl .plain rfl (AU (α:=Int) (ys:=([a0.fN]:List Int)) c9 z4 (fun _ _=>.t1) av rfl rfl v7 (Src.row (α:=Int) z4 .hd u7)) (fun q4 b02 ⟨d00,F2,Y6,x7⟩=>?_))
 refine Bi (i:=11) (rk b0) (Bu (m' :=4095) (sk b0) rfl .plain rfl (FV.nilCheck rfl) ?_)
 refine Bi (i:=12) (rk b0) (Bu (m' :=8191) (sk b0) rfl .plain rfl (Bl 2 rfl) ?_)
 have G2:=BD F2 .t1
 have j4:=BF (α:=Int) (v:=q4) (xs:=y5) G2 L (Bk (α:=Int) F2 .t1 x7 hL)
 have J4:=Aq j1 (Tt g1 (Tt X6 (Tt Y6 (BE F2 .t1))))
 obtain ⟨I9,J7,b01,g00,p8,q01,D7⟩:=St.nthAt (α:=Tc) G2 .t1 J4 b1 Z0
 obtain ⟨s9,b5,c5,rfl,y01,q8,s8⟩:=aM p8
 refine bk h fun x9 d9 h=>Bi (i:=13) (rk b0) (RO.acts (m' :=16383) (sk b0) rfl rfl .plain (Acts.setPart (α:=Tc) (i:=K1.toNat) (tot:=2) (ds:=[.string g0.fw,vI g0.fv,s9,b5,c5,.bool g0.fq]) (news:=[q4]) (full:=[.string g0.fw,vI g0.fv,q4,b5,c5,.bool g0.fq]) d9 G2 J7 (fun _=>.t1) J4 D7 rfl rfl rfl rfl rfl (Rep.c1 j4) (cQ g0.fw g0.fv y5 j4 g0.fC q8 g0.fB s8 g0.fq) rfl (o1 (Bg j4))) (fun c02 ⟨j00,H2,G00,y7⟩=>?_))
 refine AP (dk b0)<|Ax<|Ae<|Ab (AI rfl (H2.memA .t2))<|AY [vI a1.fe,vI a1.fc,vI a1.fh,v0] H2 .t3 (o4 rfl rfl rfl (St.o1 (α:=Tc) H2 .t1)) fun d02 I2 Z6=>Aa<|Am rfl ?_
 have d2:=BD I2 .t1
 have H00:=BE I2 .t1
 have t8:=BF (α:=Tc) (v:=v0) (xs:=x9) d2 L (Bk (α:=Tc) I2 .t1 (Aq y7 Z6) hL)
 refine Au hb0 func42 rfl (.cons (.many (cs:=[vI a1.fe,vI a1.fc,vI a1.fh,v0]) rfl rfl (d2.memA .t2)) .nil) rfl ?_
 cases h
 exact ⟨d2.ag,fun p q=>⟨v0,rfl,d2.kd t8 q⟩⟩
 intro x0
 refine Bv [1,5,7] (rk b0) ⟨?_,?_,?_,trivial⟩
 refine BO (m' :=31) (sk b0) rfl .plain rfl (jB Int u0 av) fun u1 p1 k0 j0=>?_
 have t0:=jD Int k0 L
 refine Bv [5,7] (rk b0) ⟨?_,?_,trivial⟩
 have v1:=Aq j1 (Tt g1 j0)
 obtain ⟨z1,C1,D1,A1,W0,V0,B1⟩:=St.nthAt (α:=Tc) k0 .t1 v1 b1 Z0
 obtain ⟨W1,F1,G1,rfl,K0,q1,E1⟩:=aM W0
 refine Bu (m' :=63) (sk b0) rfl .plain rfl (AL rfl (V0 2 _ rfl))<|Bv [6,7] (rk b0) ⟨?_,?_,trivial⟩
 refine Bt (m' :=127) (sk b0) rfl rfl .plain rfl (AU (α:=Int) (ys:=g0.fe) y0 k0 (fun _ _=>.hd) av rfl rfl t0 (BH K0)) fun Y0 H1 ⟨Q0,H0,R0,U0⟩=>Bi (i:=7) (rk b0) (Bu (m' :=255) (sk b0) rfl .plain rfl (Bl 2 rfl) ?_)
 refine Bi (i:=8) (rk b0) (Bu (m' :=511) (sk b0) rfl .plain rfl (AL rfl ((H0.memA .t5) 2 _ rfl)) ?_)
 refine RD.nu 9 1023 b0 rfl .plain rfl (jA a0.fN (vI a0.fN) H0 av (e1 rfl)) fun z0 p0 d0 c0=>?_
 have q0:=jC a0.fN (vI a0.fN) d0 L rfl
 obtain ⟨M5,Z2⟩:=AH d0 (.a0 (.a0 (.a0 (.a0 (.a0 .done)))))
 exact x0 ((vS p0 1),[vI a0.fN],Y0,Q0) M5 (Tt j0 (Tt R0 (Tt c0 Z2))) ⟨(Aq q0 Z2),(Aq U0 (Tt c0 Z2))⟩
 refine Bu (m' :=191) (sk b0) rfl .plain rfl (Bl 2 rfl)<|Bv [6,8] (rk b0) ⟨?_,?_,trivial⟩
 refine Bt (m' :=255) (sk b0) rfl rfl .plain rfl (AU (α:=Int) (ys:=g0.fe) y0 k0 (fun _ _=>.hd) av rfl rfl t0 (BH K0)) fun Y0 H1 ⟨Q0,H0,R0,U0⟩=>Bi (i:=8) (rk b0) (Bu (m' :=511) (sk b0) rfl .plain rfl (AL rfl ((H0.memA .t5) 2 _ rfl)) ?_)
 refine RD.nu 9 1023 b0 rfl .plain rfl (jA a0.fN (vI a0.fN) H0 av (e1 rfl)) fun z0 p0 d0 c0=>?_
 have q0:=jC a0.fN (vI a0.fN) d0 L rfl
 obtain ⟨P5,b3⟩:=AH d0 (.a0 (.a0 (.a0 (.a0 (.a0 .done)))))
 exact x0 ((vS p0 1),[vI a0.fN],Y0,Q0) P5 (Tt j0 (Tt R0 (Tt c0 b3))) ⟨(Aq q0 b3),(Aq U0 (Tt c0 b3))⟩
 refine Bu (m' :=447) (sk b0) rfl .plain rfl (AL rfl ((k0.memA .t5) 2 _ rfl))<|Bv [6,9] (rk b0) ⟨?_,?_,trivial⟩
 refine Bt (m' :=511) (sk b0) rfl rfl .plain rfl (AU (α:=Int) (ys:=g0.fe) y0 k0 (fun _ _=>.hd) av rfl rfl t0 (BH K0)) fun Y0 H1 ⟨Q0,H0,R0,U0⟩=>RD.nu 9 1023 b0 rfl .plain rfl (jA a0.fN (vI a0.fN) H0 av (e1 rfl)) fun z0 p0 d0 c0=>?_
 have q0:=jC a0.fN (vI a0.fN) d0 L rfl
 obtain ⟨Q5,c3⟩:=AH d0 (.a0 (.a0 (.a0 (.a0 (.a0 .done)))))
 exact x0 ((vS p0 1),[vI a0.fN],Y0,Q0) Q5 (Tt j0 (Tt R0 (Tt c0 c3))) ⟨(Aq q0 c3),(Aq U0 (Tt c0 c3))⟩
 refine BO (m' :=959) (sk b0) rfl .plain rfl (jA a0.fN (vI a0.fN) k0 av (e1 rfl)) fun z0 p0 d0 c0=>?_
 have q0:=jC a0.fN (vI a0.fN) d0 L rfl
 have s0:=Ay K0 c0
 have P0:=Aq t0 c0
 refine Bi (i:=6) (rk b0) (Bt (m' :=1023) (sk b0) rfl rfl .plain rfl (AU (α:=Int) (ys:=g0.fe) y0 d0 (fun _ _=>.t1) av rfl rfl P0 (BH s0)) (fun M0 y1 ⟨G0,I0,C0,J0⟩=>?_))
 obtain ⟨R5,d3⟩:=AH I0 (.a0 (.a0 (.a0 (.a0 (.a0 .done)))))
 exact x0 ((vS p0 1),[vI a0.fN],M0,G0) R5 (Tt j0 (Tt c0 (Tt C0 d3))) ⟨(Aq q0 (Tt C0 d3)),(Aq J0 d3)⟩
 refine Bu (m' :=159) (sk b0) rfl .plain rfl (Bl 2 rfl)<|Bv [5,8] (rk b0) ⟨?_,?_,trivial⟩
 have v1:=Aq j1 (Tt g1 j0)
 obtain ⟨z1,C1,D1,A1,W0,V0,B1⟩:=St.nthAt (α:=Tc) k0 .t1 v1 b1 Z0
 obtain ⟨W1,F1,G1,rfl,K0,q1,E1⟩:=aM W0
 refine Bu (m' :=191) (sk b0) rfl .plain rfl (AL rfl (V0 2 _ rfl))<|Bv [6,8] (rk b0) ⟨?_,?_,trivial⟩
 refine Bt (m' :=255) (sk b0) rfl rfl .plain rfl (AU (α:=Int) (ys:=g0.fe) y0 k0 (fun _ _=>.hd) av rfl rfl t0 (BH K0)) fun Y0 H1 ⟨Q0,H0,R0,U0⟩=>Bi (i:=8) (rk b0) (Bu (m' :=511) (sk b0) rfl .plain rfl (AL rfl ((H0.memA .t5) 2 _ rfl)) ?_)
 refine RD.nu 9 1023 b0 rfl .plain rfl (jA a0.fN (vI a0.fN) H0 av (e1 rfl)) fun z0 p0 d0 c0=>?_
 have q0:=jC a0.fN (vI a0.fN) d0 L rfl
 obtain ⟨U5,g3⟩:=AH d0 (.a0 (.a0 (.a0 (.a0 (.a0 .done)))))
 exact x0 ((vS p0 1),[vI a0.fN],Y0,Q0) U5 (Tt j0 (Tt R0 (Tt c0 g3))) ⟨(Aq q0 g3),(Aq U0 (Tt c0 g3))⟩
 refine Bu (m' :=447) (sk b0) rfl .plain rfl (AL rfl ((k0.memA .t5) 2 _ rfl))<|Bv [6,9] (rk b0) ⟨?_,?_,trivial⟩
 refine Bt (m' :=511) (sk b0) rfl rfl .plain rfl (AU (α:=Int) (ys:=g0.fe) y0 k0 (fun _ _=>.hd) av rfl rfl t0 (BH K0)) fun Y0 H1 ⟨Q0,H0,R0,U0⟩=>RD.nu 9 1023 b0 rfl .plain rfl (jA a0.fN (vI a0.fN) H0 av (e1 rfl)) fun z0 p0 d0 c0=>?_
 have q0:=jC a0.fN (vI a0.fN) d0 L rfl
 obtain ⟨V5,j3⟩:=AH d0 (.a0 (.a0 (.a0 (.a0 (.a0 .done)))))
 exact x0 ((vS p0 1),[vI a0.fN],Y0,Q0) V5 (Tt j0 (Tt R0 (Tt c0 j3))) ⟨(Aq q0 j3),(Aq U0 (Tt c0 j3))⟩
 refine BO (m' :=959) (sk b0) rfl .plain rfl (jA a0.fN (vI a0.fN) k0 av (e1 rfl)) fun z0 p0 d0 c0=>?_
 have q0:=jC a0.fN (vI a0.fN) d0 L rfl
 have s0:=Ay K0 c0
 have P0:=Aq t0 c0
 refine Bi (i:=6) (rk b0) (Bt (m' :=1023) (sk b0) rfl rfl .plain rfl (AU (α:=Int) (ys:=g0.fe) y0 d0 (fun _ _=>.t1) av rfl rfl P0 (BH s0)) (fun M0 y1 ⟨G0,I0,C0,J0⟩=>?_))
 obtain ⟨W5,k3⟩:=AH I0 (.a0 (.a0 (.a0 (.a0 (.a0 .done)))))
 exact x0 ((vS p0 1),[vI a0.fN],M0,G0) W5 (Tt j0 (Tt c0 (Tt C0 k3))) ⟨(Aq q0 (Tt C0 k3)),(Aq J0 k3)⟩
 refine Bu (m' :=415) (sk b0) rfl .plain rfl (AL rfl ((k0.memA .t5) 2 _ rfl))<|Bv [5,9] (rk b0) ⟨?_,?_,trivial⟩
 have v1:=Aq j1 (Tt g1 j0)
 obtain ⟨z1,C1,D1,A1,W0,V0,B1⟩:=St.nthAt (α:=Tc) k0 .t1 v1 b1 Z0
 obtain ⟨W1,F1,G1,rfl,K0,q1,E1⟩:=aM W0
 refine Bu (m' :=447) (sk b0) rfl .plain rfl (AL rfl (V0 2 _ rfl))<|Bv [6,9] (rk b0) ⟨?_,?_,trivial⟩
 refine Bt (m' :=511) (sk b0) rfl rfl .plain rfl (AU (α:=Int) (ys:=g0.fe) y0 k0 (fun _ _=>.hd) av rfl rfl t0 (BH K0)) fun Y0 H1 ⟨Q0,H0,R0,U0⟩=>RD.nu 9 1023 b0 rfl .plain rfl (jA a0.fN (vI a0.fN) H0 av (e1 rfl)) fun z0 p0 d0 c0=>?_
 have q0:=jC a0.fN (vI a0.fN) d0 L rfl
 obtain ⟨X5,p3⟩:=AH d0 (.a0 (.a0 (.a0 (.a0 (.a0 .done)))))
 exact x0 ((vS p0 1),[vI a0.fN],Y0,Q0) X5 (Tt j0 (Tt R0 (Tt c0 p3))) ⟨(Aq q0 p3),(Aq U0 (Tt c0 p3))⟩
 refine BO (m' :=959) (sk b0) rfl .plain rfl (jA a0.fN (vI a0.fN) k0 av (e1 rfl)) fun z0 p0 d0 c0=>?_
 have q0:=jC a0.fN (vI a0.fN) d0 L rfl
 have s0:=Ay K0 c0
 have P0:=Aq t0 c0
 refine Bi (i:=6) (rk b0) (Bt (m' :=1023) (sk b0) rfl rfl .plain rfl (AU (α:=Int) (ys:=g0.fe) y0 d0 (fun _ _=>.t1) av rfl rfl P0 (BH s0)) (fun M0 y1 ⟨G0,I0,C0,J0⟩=>?_))
 obtain ⟨Y5,q3⟩:=AH I0 (.a0 (.a0 (.a0 (.a0 (.a0 .done)))))
 exact x0 ((vS p0 1),[vI a0.fN],M0,G0) Y5 (Tt j0 (Tt c0 (Tt C0 q3))) ⟨(Aq q0 (Tt C0 q3)),(Aq J0 q3)⟩
 refine BO (m' :=927) (sk b0) rfl .plain rfl (jA a0.fN (vI a0.fN) k0 av (e1 rfl)) fun z0 p0 d0 c0=>?_
 have q0:=jC a0.fN (vI a0.fN) d0 L rfl
 have d4:=Tt g1 (Tt j0 c0)
 have c4:=Aq j1 d4
 obtain ⟨z1,C1,D1,A1,W0,V0,B1⟩:=St.nthAt (α:=Tc) d0 .t2 c4 b1 Z0
 obtain ⟨F1,G1,v5,rfl,q1,E1,U4⟩:=aM W0
 refine Rx 5 15424 b0 rfl J1 (AL rfl (V0 2 _ rfl)) ?_
 have s0:=Aq t0 c0
 refine Bi (i:=6) (rk b0) (Bt (m' :=1023) (sk b0) rfl rfl .plain rfl (AU (α:=Int) (ys:=g0.fe) y0 d0 (fun _ _=>.t1) av rfl rfl s0 (BH q1)) (fun F0 k1 ⟨D0,A0,B0,E0⟩=>?_))
 obtain ⟨Z5,s3⟩:=AH A0 (.a0 (.a0 (.a0 (.a0 (.a0 .done)))))
 exact x0 ((vS p0 1),[vI a0.fN],F0,D0) Z5 (Tt j0 (Tt c0 (Tt B0 s3))) ⟨(Aq q0 (Tt B0 s3)),(Aq E0 s3)⟩
 refine Bu (m' :=61) (sk b0) rfl .plain rfl (AL rfl (X1 2 _ rfl))<|Bv [1,7] (rk b0) ⟨?_,?_,trivial⟩
 refine BO (m' :=63) (sk b0) rfl .plain rfl (jB Int u0 av) fun u1 p1 k0 j0=>?_
 have t0:=jD Int k0 L
 refine Bv [6,7] (rk b0) ⟨?_,?_,trivial⟩
 have s0:=Ay X0 j0
 refine Bt (m' :=127) (sk b0) rfl rfl .plain rfl (AU (α:=Int) (ys:=g0.fe) y0 k0 (fun _ _=>.hd) av rfl rfl t0 (BH s0)) fun F0 k1 ⟨D0,A0,B0,E0⟩=>Bi (i:=7) (rk b0) (Bu (m' :=255) (sk b0) rfl .plain rfl (Bl 2 rfl) ?_)
 refine Bi (i:=8) (rk b0) (Bu (m' :=511) (sk b0) rfl .plain rfl (AL rfl ((A0.memA .t5) 2 _ rfl)) ?_)
 refine RD.nu 9 1023 b0 rfl .plain rfl (jA a0.fN (vI a0.fN) A0 av (e1 rfl)) fun z0 p0 d0 c0=>?_
 have q0:=jC a0.fN (vI a0.fN) d0 L rfl
 obtain ⟨b6,u3⟩:=AH d0 (.a0 (.a0 (.a0 (.a0 (.a0 .done)))))
 exact x0 ((vS p0 1),[vI a0.fN],F0,D0) b6 (Tt j0 (Tt B0 (Tt c0 u3))) ⟨(Aq q0 u3),(Aq E0 (Tt c0 u3))⟩
 refine Bu (m' :=191) (sk b0) rfl .plain rfl (Bl 2 rfl)<|Bv [6,8] (rk b0) ⟨?_,?_,trivial⟩
 have s0:=Ay X0 j0
 refine Bt (m' :=255) (sk b0) rfl rfl .plain rfl (AU (α:=Int) (ys:=g0.fe) y0 k0 (fun _ _=>.hd) av rfl rfl t0 (BH s0)) fun F0 k1 ⟨D0,A0,B0,E0⟩=>Bi (i:=8) (rk b0) (Bu (m' :=511) (sk b0) rfl .plain rfl (AL rfl ((A0.memA .t5) 2 _ rfl)) ?_)
 refine RD.nu 9 1023 b0 rfl .plain rfl (jA a0.fN (vI a0.fN) A0 av (e1 rfl)) fun z0 p0 d0 c0=>?_
 have q0:=jC a0.fN (vI a0.fN) d0 L rfl
 obtain ⟨c6,v3⟩:=AH d0 (.a0 (.a0 (.a0 (.a0 (.a0 .done)))))
 exact x0 ((vS p0 1),[vI a0.fN],F0,D0) c6 (Tt j0 (Tt B0 (Tt c0 v3))) ⟨(Aq q0 v3),(Aq E0 (Tt c0 v3))⟩
 refine Bu (m' :=447) (sk b0) rfl .plain rfl (AL rfl ((k0.memA .t5) 2 _ rfl))<|Bv [6,9] (rk b0) ⟨?_,?_,trivial⟩
 have s0:=Ay X0 j0
 refine Bt (m' :=511) (sk b0) rfl rfl .plain rfl (AU (α:=Int) (ys:=g0.fe) y0 k0 (fun _ _=>.hd) av rfl rfl t0 (BH s0)) fun F0 k1 ⟨D0,A0,B0,E0⟩=>RD.nu 9 1023 b0 rfl .plain rfl (jA a0.fN (vI a0.fN) A0 av (e1 rfl)) fun z0 p0 d0 c0=>?_
 have q0:=jC a0.fN (vI a0.fN) d0 L rfl
 obtain ⟨d6,x3⟩:=AH d0 (.a0 (.a0 (.a0 (.a0 (.a0 .done)))))
 exact x0 ((vS p0 1),[vI a0.fN],F0,D0) d6 (Tt j0 (Tt B0 (Tt c0 x3))) ⟨(Aq q0 x3),(Aq E0 (Tt c0 x3))⟩
 refine BO (m' :=959) (sk b0) rfl .plain rfl (jA a0.fN (vI a0.fN) k0 av (e1 rfl)) fun z0 p0 d0 c0=>?_
 have q0:=jC a0.fN (vI a0.fN) d0 L rfl
 have s0:=Ay X0 (Tt j0 c0)
 have P0:=Aq t0 c0
 refine Bi (i:=6) (rk b0) (Bt (m' :=1023) (sk b0) rfl rfl .plain rfl (AU (α:=Int) (ys:=g0.fe) y0 d0 (fun _ _=>.t1) av rfl rfl P0 (BH s0)) (fun M0 y1 ⟨G0,I0,C0,J0⟩=>?_))
 obtain ⟨g6,y3⟩:=AH I0 (.a0 (.a0 (.a0 (.a0 (.a0 .done)))))
 exact x0 ((vS p0 1),[vI a0.fN],M0,G0) g6 (Tt j0 (Tt c0 (Tt C0 y3))) ⟨(Aq q0 (Tt C0 y3)),(Aq J0 y3)⟩
 refine Bu (m' :=189) (sk b0) rfl .plain rfl (Bl 2 rfl)<|Bv [1,8] (rk b0) ⟨?_,?_,trivial⟩
 refine BO (m' :=191) (sk b0) rfl .plain rfl (jB Int u0 av) fun u1 p1 k0 j0=>?_
 have t0:=jD Int k0 L
 refine Bv [6,8] (rk b0) ⟨?_,?_,trivial⟩
 have s0:=Ay X0 j0
 refine Bt (m' :=255) (sk b0) rfl rfl .plain rfl (AU (α:=Int) (ys:=g0.fe) y0 k0 (fun _ _=>.hd) av rfl rfl t0 (BH s0)) fun F0 k1 ⟨D0,A0,B0,E0⟩=>Bi (i:=8) (rk b0) (Bu (m' :=511) (sk b0) rfl .plain rfl (AL rfl ((A0.memA .t5) 2 _ rfl)) ?_)
 refine RD.nu 9 1023 b0 rfl .plain rfl (jA a0.fN (vI a0.fN) A0 av (e1 rfl)) fun z0 p0 d0 c0=>?_
 have q0:=jC a0.fN (vI a0.fN) d0 L rfl
 obtain ⟨j6,z3⟩:=AH d0 (.a0 (.a0 (.a0 (.a0 (.a0 .done)))))
 exact x0 ((vS p0 1),[vI a0.fN],F0,D0) j6 (Tt j0 (Tt B0 (Tt c0 z3))) ⟨(Aq q0 z3),(Aq E0 (Tt c0 z3))⟩
 refine Bu (m' :=447) (sk b0) rfl .plain rfl (AL rfl ((k0.memA .t5) 2 _ rfl))<|Bv [6,9] (rk b0) ⟨?_,?_,trivial⟩
 have s0:=Ay X0 j0
 refine Bt (m' :=511) (sk b0) rfl rfl .plain rfl (AU (α:=Int) (ys:=g0.fe) y0 k0 (fun _ _=>.hd) av rfl rfl t0 (BH s0)) fun F0 k1 ⟨D0,A0,B0,E0⟩=>RD.nu 9 1023 b0 rfl .plain rfl (jA a0.fN (vI a0.fN) A0 av (e1 rfl)) fun z0 p0 d0 c0=>?_
 have q0:=jC a0.fN (vI a0.fN) d0 L rfl
 obtain ⟨k6,A3⟩:=AH d0 (.a0 (.a0 (.a0 (.a0 (.a0 .done)))))
 exact x0 ((vS p0 1),[vI a0.fN],F0,D0) k6 (Tt j0 (Tt B0 (Tt c0 A3))) ⟨(Aq q0 A3),(Aq E0 (Tt c0 A3))⟩
 refine BO (m' :=959) (sk b0) rfl .plain rfl (jA a0.fN (vI a0.fN) k0 av (e1 rfl)) fun z0 p0 d0 c0=>?_
 have q0:=jC a0.fN (vI a0.fN) d0 L rfl
 have s0:=Ay X0 (Tt j0 c0)
 have P0:=Aq t0 c0
 refine Bi (i:=6) (rk b0) (Bt (m' :=1023) (sk b0) rfl rfl .plain rfl (AU (α:=Int) (ys:=g0.fe) y0 d0 (fun _ _=>.t1) av rfl rfl P0 (BH s0)) (fun M0 y1 ⟨G0,I0,C0,J0⟩=>?_))
 obtain ⟨p6,B3⟩:=AH I0 (.a0 (.a0 (.a0 (.a0 (.a0 .done)))))
 exact x0 ((vS p0 1),[vI a0.fN],M0,G0) p6 (Tt j0 (Tt c0 (Tt C0 B3))) ⟨(Aq q0 (Tt C0 B3)),(Aq J0 B3)⟩
 refine Bu (m' :=445) (sk b0) rfl .plain rfl (AL rfl ((u0.memA .t4) 2 _ rfl))<|Bv [1,9] (rk b0) ⟨?_,?_,trivial⟩
 refine BO (m' :=447) (sk b0) rfl .plain rfl (jB Int u0 av) fun u1 p1 k0 j0=>?_
 have t0:=jD Int k0 L
 refine Bv [6,9] (rk b0) ⟨?_,?_,trivial⟩
 have s0:=Ay X0 j0
 refine Bt (m' :=511) (sk b0) rfl rfl .plain rfl (AU (α:=Int) (ys:=g0.fe) y0 k0 (fun _ _=>.hd) av rfl rfl t0 (BH s0)) fun F0 k1 ⟨D0,A0,B0,E0⟩=>RD.nu 9 1023 b0 rfl .plain rfl (jA a0.fN (vI a0.fN) A0 av (e1 rfl)) fun z0 p0 d0 c0=>?_
 have q0:=jC a0.fN (vI a0.fN) d0 L rfl
 obtain ⟨q6,C3⟩:=AH d0 (.a0 (.a0 (.a0 (.a0 (.a0 .done)))))
 exact x0 ((vS p0 1),[vI a0.fN],F0,D0) q6 (Tt j0 (Tt B0 (Tt c0 C3))) ⟨(Aq q0 C3),(Aq E0 (Tt c0 C3))⟩
 refine BO (m' :=959) (sk b0) rfl .plain rfl (jA a0.fN (vI a0.fN) k0 av (e1 rfl)) fun z0 p0 d0 c0=>?_
 have q0:=jC a0.fN (vI a0.fN) d0 L rfl
 have s0:=Ay X0 (Tt j0 c0)
 have P0:=Aq t0 c0
 refine Bi (i:=6) (rk b0) (Bt (m' :=1023) (sk b0) rfl rfl .plain rfl (AU (α:=Int) (ys:=g0.fe) y0 d0 (fun _ _=>.t1) av rfl rfl P0 (BH s0)) (fun M0 y1 ⟨G0,I0,C0,J0⟩=>?_))
 obtain ⟨s6,D3⟩:=AH I0 (.a0 (.a0 (.a0 (.a0 (.a0 .done)))))
 exact x0 ((vS p0 1),[vI a0.fN],M0,G0) s6 (Tt j0 (Tt c0 (Tt C0 D3))) ⟨(Aq q0 (Tt C0 D3)),(Aq J0 D3)⟩
 refine BO (m' :=957) (sk b0) rfl .plain rfl (jA a0.fN (vI a0.fN) u0 av (e1 rfl)) fun z0 p0 d0 c0=>?_
 have q0:=jC a0.fN (vI a0.fN) d0 L rfl
 refine RD.nu 1 959 b0 rfl .plain rfl (jB Int d0 av) fun u1 p1 k0 j0=>?_
 have t0:=jD Int k0 L
 have s0:=Ay X0 (Tt c0 j0)
 refine Bi (i:=6) (rk b0) (Bt (m' :=1023) (sk b0) rfl rfl .plain rfl (AU (α:=Int) (ys:=g0.fe) y0 k0 (fun _ _=>.hd) av rfl rfl t0 (BH s0)) (fun F0 k1 ⟨D0,A0,B0,E0⟩=>?_))
 obtain ⟨t6,C4⟩:=AH A0 (.a1 (.a0 (.a0 (.a0 (.a0 .done)))))
 have M4:=Tt j0 (Tt B0 C4)
 exact x0 ((vS p0 1),[vI a0.fN],F0,D0) t6 (Tt c0 M4) ⟨(Aq q0 M4),(Aq E0 C4)⟩
 refine Bu (m' :=157) (sk b0) rfl .plain rfl (Bl 2 rfl)<|Bv [1,5,8] (rk b0) ⟨?_,?_,?_,trivial⟩
 refine BO (m' :=159) (sk b0) rfl .plain rfl (jB Int u0 av) fun u1 p1 k0 j0=>?_
 have t0:=jD Int k0 L
 refine Bv [5,8] (rk b0) ⟨?_,?_,trivial⟩
 have v1:=Aq j1 (Tt g1 j0)
 obtain ⟨z1,C1,D1,A1,W0,V0,B1⟩:=St.nthAt (α:=Tc) k0 .t1 v1 b1 Z0
 obtain ⟨W1,F1,G1,rfl,K0,q1,E1⟩:=aM W0
 refine Bu (m' :=191) (sk b0) rfl .plain rfl (AL rfl (V0 2 _ rfl))<|Bv [6,8] (rk b0) ⟨?_,?_,trivial⟩
 refine Bt (m' :=255) (sk b0) rfl rfl .plain rfl (AU (α:=Int) (ys:=g0.fe) y0 k0 (fun _ _=>.hd) av rfl rfl t0 (BH K0)) fun Y0 H1 ⟨Q0,H0,R0,U0⟩=>Bi (i:=8) (rk b0) (Bu (m' :=511) (sk b0) rfl .plain rfl (AL rfl ((H0.memA .t5) 2 _ rfl)) ?_)
 refine RD.nu 9 1023 b0 rfl .plain rfl (jA a0.fN (vI a0.fN) H0 av (e1 rfl)) fun z0 p0 d0 c0=>?_
 have q0:=jC a0.fN (vI a0.fN) d0 L rfl
 obtain ⟨u6,E3⟩:=AH d0 (.a0 (.a0 (.a0 (.a0 (.a0 .done)))))
 exact x0 ((vS p0 1),[vI a0.fN],Y0,Q0) u6 (Tt j0 (Tt R0 (Tt c0 E3))) ⟨(Aq q0 E3),(Aq U0 (Tt c0 E3))⟩
 refine Bu (m' :=447) (sk b0) rfl .plain rfl (AL rfl ((k0.memA .t5) 2 _ rfl))<|Bv [6,9] (rk b0) ⟨?_,?_,trivial⟩
 refine Bt (m' :=511) (sk b0) rfl rfl .plain rfl (AU (α:=Int) (ys:=g0.fe) y0 k0 (fun _ _=>.hd) av rfl rfl t0 (BH K0)) fun Y0 H1 ⟨Q0,H0,R0,U0⟩=>RD.nu 9 1023 b0 rfl .plain rfl (jA a0.fN (vI a0.fN) H0 av (e1 rfl)) fun z0 p0 d0 c0=>?_
 have q0:=jC a0.fN (vI a0.fN) d0 L rfl
 obtain ⟨v6,F3⟩:=AH d0 (.a0 (.a0 (.a0 (.a0 (.a0 .done)))))
 exact x0 ((vS p0 1),[vI a0.fN],Y0,Q0) v6 (Tt j0 (Tt R0 (Tt c0 F3))) ⟨(Aq q0 F3),(Aq U0 (Tt c0 F3))⟩
 refine BO (m' :=959) (sk b0) rfl .plain rfl (jA a0.fN (vI a0.fN) k0 av (e1 rfl)) fun z0 p0 d0 c0=>?_
 have q0:=jC a0.fN (vI a0.fN) d0 L rfl
 have s0:=Ay K0 c0
 have P0:=Aq t0 c0
 refine Bi (i:=6) (rk b0) (Bt (m' :=1023) (sk b0) rfl rfl .plain rfl (AU (α:=Int) (ys:=g0.fe) y0 d0 (fun _ _=>.t1) av rfl rfl P0 (BH s0)) (fun M0 y1 ⟨G0,I0,C0,J0⟩=>?_))
 obtain ⟨x6,G3⟩:=AH I0 (.a0 (.a0 (.a0 (.a0 (.a0 .done)))))
 exact x0 ((vS p0 1),[vI a0.fN],M0,G0) x6 (Tt j0 (Tt c0 (Tt C0 G3))) ⟨(Aq q0 (Tt C0 G3)),(Aq J0 G3)⟩
 refine Bu (m' :=415) (sk b0) rfl .plain rfl (AL rfl ((k0.memA .t5) 2 _ rfl))<|Bv [5,9] (rk b0) ⟨?_,?_,trivial⟩
 have v1:=Aq j1 (Tt g1 j0)
 obtain ⟨z1,C1,D1,A1,W0,V0,B1⟩:=St.nthAt (α:=Tc) k0 .t1 v1 b1 Z0
 obtain ⟨W1,F1,G1,rfl,K0,q1,E1⟩:=aM W0
 refine Bu (m' :=447) (sk b0) rfl .plain rfl (AL rfl (V0 2 _ rfl))<|Bv [6,9] (rk b0) ⟨?_,?_,trivial⟩
 refine Bt (m' :=511) (sk b0) rfl rfl .plain rfl (AU (α:=Int) (ys:=g0.fe) y0 k0 (fun _ _=>.hd) av rfl rfl t0 (BH K0)) fun Y0 H1 ⟨Q0,H0,R0,U0⟩=>RD.nu 9 1023 b0 rfl .plain rfl (jA a0.fN (vI a0.fN) H0 av (e1 rfl)) fun z0 p0 d0 c0=>?_
 have q0:=jC a0.fN (vI a0.fN) d0 L rfl
 obtain ⟨y6,H3⟩:=AH d0 (.a0 (.a0 (.a0 (.a0 (.a0 .done)))))
 exact x0 ((vS p0 1),[vI a0.fN],Y0,Q0) y6 (Tt j0 (Tt R0 (Tt c0 H3))) ⟨(Aq q0 H3),(Aq U0 (Tt c0 H3))⟩
 refine BO (m' :=959) (sk b0) rfl .plain rfl (jA a0.fN (vI a0.fN) k0 av (e1 rfl)) fun z0 p0 d0 c0=>?_
 have q0:=jC a0.fN (vI a0.fN) d0 L rfl
 have s0:=Ay K0 c0
 have P0:=Aq t0 c0
 refine Bi (i:=6) (rk b0) (Bt (m' :=1023) (sk b0) rfl rfl .plain rfl (AU (α:=Int) (ys:=g0.fe) y0 d0 (fun _ _=>.t1) av rfl rfl P0 (BH s0)) (fun M0 y1 ⟨G0,I0,C0,J0⟩=>?_))
 obtain ⟨z6,I3⟩:=AH I0 (.a0 (.a0 (.a0 (.a0 (.a0 .done)))))
 exact x0 ((vS p0 1),[vI a0.fN],M0,G0) z6 (Tt j0 (Tt c0 (Tt C0 I3))) ⟨(Aq q0 (Tt C0 I3)),(Aq J0 I3)⟩
 refine BO (m' :=927) (sk b0) rfl .plain rfl (jA a0.fN (vI a0.fN) k0 av (e1 rfl)) fun z0 p0 d0 c0=>?_
 have q0:=jC a0.fN (vI a0.fN) d0 L rfl
 have d4:=Tt g1 (Tt j0 c0)
 have c4:=Aq j1 d4
 obtain ⟨z1,C1,D1,A1,W0,V0,B1⟩:=St.nthAt (α:=Tc) d0 .t2 c4 b1 Z0
 obtain ⟨F1,G1,v5,rfl,q1,E1,U4⟩:=aM W0
 refine Rx 5 15424 b0 rfl J1 (AL rfl (V0 2 _ rfl)) ?_
 have s0:=Aq t0 c0
 refine Bi (i:=6) (rk b0) (Bt (m' :=1023) (sk b0) rfl rfl .plain rfl (AU (α:=Int) (ys:=g0.fe) y0 d0 (fun _ _=>.t1) av rfl rfl s0 (BH q1)) (fun F0 k1 ⟨D0,A0,B0,E0⟩=>?_))
 obtain ⟨A6,J3⟩:=AH A0 (.a0 (.a0 (.a0 (.a0 (.a0 .done)))))
 exact x0 ((vS p0 1),[vI a0.fN],F0,D0) A6 (Tt j0 (Tt c0 (Tt B0 J3))) ⟨(Aq q0 (Tt B0 J3)),(Aq E0 J3)⟩
 refine Bu (m' :=189) (sk b0) rfl .plain rfl (AL rfl (X1 2 _ rfl))<|Bv [1,8] (rk b0) ⟨?_,?_,trivial⟩
 refine BO (m' :=191) (sk b0) rfl .plain rfl (jB Int u0 av) fun u1 p1 k0 j0=>?_
 have t0:=jD Int k0 L
 refine Bv [6,8] (rk b0) ⟨?_,?_,trivial⟩
 have s0:=Ay X0 j0
 refine Bt (m' :=255) (sk b0) rfl rfl .plain rfl (AU (α:=Int) (ys:=g0.fe) y0 k0 (fun _ _=>.hd) av rfl rfl t0 (BH s0)) fun F0 k1 ⟨D0,A0,B0,E0⟩=>Bi (i:=8) (rk b0) (Bu (m' :=511) (sk b0) rfl .plain rfl (AL rfl ((A0.memA .t5) 2 _ rfl)) ?_)
 refine RD.nu 9 1023 b0 rfl .plain rfl (jA a0.fN (vI a0.fN) A0 av (e1 rfl)) fun z0 p0 d0 c0=>?_
 have q0:=jC a0.fN (vI a0.fN) d0 L rfl
 obtain ⟨B6,K3⟩:=AH d0 (.a0 (.a0 (.a0 (.a0 (.a0 .done)))))
 exact x0 ((vS p0 1),[vI a0.fN],F0,D0) B6 (Tt j0 (Tt B0 (Tt c0 K3))) ⟨(Aq q0 K3),(Aq E0 (Tt c0 K3))⟩
 refine Bu (m' :=447) (sk b0) rfl .plain rfl (AL rfl ((k0.memA .t5) 2 _ rfl))<|Bv [6,9] (rk b0) ⟨?_,?_,trivial⟩
 have s0:=Ay X0 j0
 refine Bt (m' :=511) (sk b0) rfl rfl .plain rfl (AU (α:=Int) (ys:=g0.fe) y0 k0 (fun _ _=>.hd) av rfl rfl t0 (BH s0)) fun F0 k1 ⟨D0,A0,B0,E0⟩=>RD.nu 9 1023 b0 rfl .plain rfl (jA a0.fN (vI a0.fN) A0 av (e1 rfl)) fun z0 p0 d0 c0=>?_
 have q0:=jC a0.fN (vI a0.fN) d0 L rfl
 obtain ⟨C6,M3⟩:=AH d0 (.a0 (.a0 (.a0 (.a0 (.a0 .done)))))
 exact x0 ((vS p0 1),[vI a0.fN],F0,D0) C6 (Tt j0 (Tt B0 (Tt c0 M3))) ⟨(Aq q0 M3),(Aq E0 (Tt c0 M3))⟩
 refine BO (m' :=959) (sk b0) rfl .plain rfl (jA a0.fN (vI a0.fN) k0 av (e1 rfl)) fun z0 p0 d0 c0=>?_
 have q0:=jC a0.fN (vI a0.fN) d0 L rfl
 have s0:=Ay X0 (Tt j0 c0)
 have P0:=Aq t0 c0
 refine Bi (i:=6) (rk b0) (Bt (m' :=1023) (sk b0) rfl rfl .plain rfl (AU (α:=Int) (ys:=g0.fe) y0 d0 (fun _ _=>.t1) av rfl rfl P0 (BH s0)) (fun M0 y1 ⟨G0,I0,C0,J0⟩=>?_))
 obtain ⟨D6,P3⟩:=AH I0 (.a0 (.a0 (.a0 (.a0 (.a0 .done)))))
 exact x0 ((vS p0 1),[vI a0.fN],M0,G0) D6 (Tt j0 (Tt c0 (Tt C0 P3))) ⟨(Aq q0 (Tt C0 P3)),(Aq J0 P3)⟩
 refine Bu (m' :=445) (sk b0) rfl .plain rfl (AL rfl ((u0.memA .t4) 2 _ rfl))<|Bv [1,9] (rk b0) ⟨?_,?_,trivial⟩
 refine BO (m' :=447) (sk b0) rfl .plain rfl (jB Int u0 av) fun u1 p1 k0 j0=>?_
 have t0:=jD Int k0 L
 refine Bv [6,9] (rk b0) ⟨?_,?_,trivial⟩
 have s0:=Ay X0 j0
 refine Bt (m' :=511) (sk b0) rfl rfl .plain rfl (AU (α:=Int) (ys:=g0.fe) y0 k0 (fun _ _=>.hd) av rfl rfl t0 (BH s0)) fun F0 k1 ⟨D0,A0,B0,E0⟩=>RD.nu 9 1023 b0 rfl .plain rfl (jA a0.fN (vI a0.fN) A0 av (e1 rfl)) fun z0 p0 d0 c0=>?_
 have q0:=jC a0.fN (vI a0.fN) d0 L rfl
 obtain ⟨E6,Q3⟩:=AH d0 (.a0 (.a0 (.a0 (.a0 (.a0 .done)))))
 exact x0 ((vS p0 1),[vI a0.fN],F0,D0) E6 (Tt j0 (Tt B0 (Tt c0 Q3))) ⟨(Aq q0 Q3),(Aq E0 (Tt c0 Q3))⟩
 refine BO (m' :=959) (sk b0) rfl .plain rfl (jA a0.fN (vI a0.fN) k0 av (e1 rfl)) fun z0 p0 d0 c0=>?_
 have q0:=jC a0.fN (vI a0.fN) d0 L rfl
 have s0:=Ay X0 (Tt j0 c0)
 have P0:=Aq t0 c0
 refine Bi (i:=6) (rk b0) (Bt (m' :=1023) (sk b0) rfl rfl .plain rfl (AU (α:=Int) (ys:=g0.fe) y0 d0 (fun _ _=>.t1) av rfl rfl P0 (BH s0)) (fun M0 y1 ⟨G0,I0,C0,J0⟩=>?_))
 obtain ⟨F6,R3⟩:=AH I0 (.a0 (.a0 (.a0 (.a0 (.a0 .done)))))
 exact x0 ((vS p0 1),[vI a0.fN],M0,G0) F6 (Tt j0 (Tt c0 (Tt C0 R3))) ⟨(Aq q0 (Tt C0 R3)),(Aq J0 R3)⟩
 refine BO (m' :=957) (sk b0) rfl .plain rfl (jA a0.fN (vI a0.fN) u0 av (e1 rfl)) fun z0 p0 d0 c0=>?_
 have q0:=jC a0.fN (vI a0.fN) d0 L rfl
 refine RD.nu 1 959 b0 rfl .plain rfl (jB Int d0 av) fun u1 p1 k0 j0=>?_
 have t0:=jD Int k0 L
 have s0:=Ay X0 (Tt c0 j0)
 refine Bi (i:=6) (rk b0) (Bt (m' :=1023) (sk b0) rfl rfl .plain rfl (AU (α:=Int) (ys:=g0.fe) y0 k0 (fun _ _=>.hd) av rfl rfl t0 (BH s0)) (fun F0 k1 ⟨D0,A0,B0,E0⟩=>?_))
 obtain ⟨G6,D4⟩:=AH A0 (.a1 (.a0 (.a0 (.a0 (.a0 .done)))))
 have P4:=Tt j0 (Tt B0 D4)
 exact x0 ((vS p0 1),[vI a0.fN],F0,D0) G6 (Tt c0 P4) ⟨(Aq q0 P4),(Aq E0 D4)⟩
 refine Bu (m' :=413) (sk b0) rfl .plain rfl (AL rfl ((u0.memA .t4) 2 _ rfl))<|Bv [1,5,9] (rk b0) ⟨?_,?_,?_,trivial⟩
 refine BO (m' :=415) (sk b0) rfl .plain rfl (jB Int u0 av) fun u1 p1 k0 j0=>?_
 have t0:=jD Int k0 L
 refine Bv [5,9] (rk b0) ⟨?_,?_,trivial⟩
 have v1:=Aq j1 (Tt g1 j0)
 obtain ⟨z1,C1,D1,A1,W0,V0,B1⟩:=St.nthAt (α:=Tc) k0 .t1 v1 b1 Z0
 obtain ⟨W1,F1,G1,rfl,K0,q1,E1⟩:=aM W0
 refine Bu (m' :=447) (sk b0) rfl .plain rfl (AL rfl (V0 2 _ rfl))<|Bv [6,9] (rk b0) ⟨?_,?_,trivial⟩
 refine Bt (m' :=511) (sk b0) rfl rfl .plain rfl (AU (α:=Int) (ys:=g0.fe) y0 k0 (fun _ _=>.hd) av rfl rfl t0 (BH K0)) fun Y0 H1 ⟨Q0,H0,R0,U0⟩=>RD.nu 9 1023 b0 rfl .plain rfl (jA a0.fN (vI a0.fN) H0 av (e1 rfl)) fun z0 p0 d0 c0=>?_
 have q0:=jC a0.fN (vI a0.fN) d0 L rfl
 obtain ⟨H6,U3⟩:=AH d0 (.a0 (.a0 (.a0 (.a0 (.a0 .done)))))
 exact x0 ((vS p0 1),[vI a0.fN],Y0,Q0) H6 (Tt j0 (Tt R0 (Tt c0 U3))) ⟨(Aq q0 U3),(Aq U0 (Tt c0 U3))⟩
 refine BO (m' :=959) (sk b0) rfl .plain rfl (jA a0.fN (vI a0.fN) k0 av (e1 rfl)) fun z0 p0 d0 c0=>?_
 have q0:=jC a0.fN (vI a0.fN) d0 L rfl
 have s0:=Ay K0 c0
 have P0:=Aq t0 c0
 refine Bi (i:=6) (rk b0) (Bt (m' :=1023) (sk b0) rfl rfl .plain rfl (AU (α:=Int) (ys:=g0.fe) y0 d0 (fun _ _=>.t1) av rfl rfl P0 (BH s0)) (fun M0 y1 ⟨G0,I0,C0,J0⟩=>?_))
 obtain ⟨I6,V3⟩:=AH I0 (.a0 (.a0 (.a0 (.a0 (.a0 .done)))))
 exact x0 ((vS p0 1),[vI a0.fN],M0,G0) I6 (Tt j0 (Tt c0 (Tt C0 V3))) ⟨(Aq q0 (Tt C0 V3)),(Aq J0 V3)⟩
 refine BO (m' :=927) (sk b0) rfl .plain rfl (jA a0.fN (vI a0.fN) k0 av (e1 rfl)) fun z0 p0 d0 c0=>?_
 have q0:=jC a0.fN (vI a0.fN) d0 L rfl
 obtain ⟨z1,C1,D1,A1,W0,V0,B1⟩:=St.nthAt (α:=Tc) d0 .t2 (Aq j1 (Tt g1 (Tt j0 c0))) b1 Z0
 obtain ⟨F1,G1,v5,rfl,q1,E1,U4⟩:=aM W0
 refine Rx 5 15424 b0 rfl J1 (AL rfl (V0 2 _ rfl)) ?_
 have s0:=Aq t0 c0
 refine Bi (i:=6) (rk b0) (Bt (m' :=1023) (sk b0) rfl rfl .plain rfl (AU (α:=Int) (ys:=g0.fe) y0 d0 (fun _ _=>.t1) av rfl rfl s0 (BH q1)) (fun F0 k1 ⟨D0,A0,B0,E0⟩=>?_))
 obtain ⟨J6,W3⟩:=AH A0 (.a0 (.a0 (.a0 (.a0 (.a0 .done)))))
 exact x0 ((vS p0 1),[vI a0.fN],F0,D0) J6 (Tt j0 (Tt c0 (Tt B0 W3))) ⟨(Aq q0 (Tt B0 W3)),(Aq E0 W3)⟩
 refine Bu (m' :=445) (sk b0) rfl .plain rfl (AL rfl (X1 2 _ rfl))<|Bv [1,9] (rk b0) ⟨?_,?_,trivial⟩
 refine BO (m' :=447) (sk b0) rfl .plain rfl (jB Int u0 av) fun u1 p1 k0 j0=>?_
 have t0:=jD Int k0 L
 refine Bv [6,9] (rk b0) ⟨?_,?_,trivial⟩
 have s0:=Ay X0 j0
 refine Bt (m' :=511) (sk b0) rfl rfl .plain rfl (AU (α:=Int) (ys:=g0.fe) y0 k0 (fun _ _=>.hd) av rfl rfl t0 (BH s0)) fun F0 k1 ⟨D0,A0,B0,E0⟩=>RD.nu 9 1023 b0 rfl .plain rfl (jA a0.fN (vI a0.fN) A0 av (e1 rfl)) fun z0 p0 d0 c0=>?_
 have q0:=jC a0.fN (vI a0.fN) d0 L rfl
 obtain ⟨K6,X3⟩:=AH d0 (.a0 (.a0 (.a0 (.a0 (.a0 .done)))))
 exact x0 ((vS p0 1),[vI a0.fN],F0,D0) K6 (Tt j0 (Tt B0 (Tt c0 X3))) ⟨(Aq q0 X3),(Aq E0 (Tt c0 X3))⟩
 refine BO (m' :=959) (sk b0) rfl .plain rfl (jA a0.fN (vI a0.fN) k0 av (e1 rfl)) fun z0 p0 d0 c0=>?_
 have q0:=jC a0.fN (vI a0.fN) d0 L rfl
 have s0:=Ay X0 (Tt j0 c0)
 refine Bi (i:=6) (rk b0) (Bt (m' :=1023) (sk b0) rfl rfl .plain rfl (AU (α:=Int) (ys:=g0.fe) y0 d0 (fun _ _=>.t1) av rfl rfl (Aq t0 c0) (BH s0)) (fun M0 y1 ⟨G0,I0,C0,J0⟩=>?_))
 obtain ⟨M6,Y3⟩:=AH I0 (.a0 (.a0 (.a0 (.a0 (.a0 .done)))))
 exact x0 ((vS p0 1),[vI a0.fN],M0,G0) M6 (Tt j0 (Tt c0 (Tt C0 Y3))) ⟨(Aq q0 (Tt C0 Y3)),(Aq J0 Y3)⟩
 refine BO (m' :=957) (sk b0) rfl .plain rfl (jA a0.fN (vI a0.fN) u0 av (e1 rfl)) fun z0 p0 d0 c0=>?_
 have q0:=jC a0.fN (vI a0.fN) d0 L rfl
 refine RD.nu 1 959 b0 rfl .plain rfl (jB Int d0 av) fun u1 p1 k0 j0=>?_
 have t0:=jD Int k0 L
 have s0:=Ay X0 (Tt c0 j0)
 refine Bi (i:=6) (rk b0) (Bt (m' :=1023) (sk b0) rfl rfl .plain rfl (AU (α:=Int) (ys:=g0.fe) y0 k0 (fun _ _=>.hd) av rfl rfl t0 (BH s0)) (fun F0 k1 ⟨D0,A0,B0,E0⟩=>?_))
 obtain ⟨P6,E4⟩:=AH A0 (.a1 (.a0 (.a0 (.a0 (.a0 .done)))))
 have Q4:=Tt j0 (Tt B0 E4)
 exact x0 ((vS p0 1),[vI a0.fN],F0,D0) P6 (Tt c0 Q4) ⟨(Aq q0 Q4),(Aq E0 E4)⟩
 refine BO (m' :=925) (sk b0) rfl .plain rfl (jA a0.fN (vI a0.fN) u0 av (e1 rfl)) fun z0 p0 d0 c0=>?_
 have q0:=jC a0.fN (vI a0.fN) d0 L rfl
 obtain ⟨z1,C1,D1,A1,W0,V0,B1⟩:=St.nthAt (α:=Tc) d0 .t1 (Aq j1 (Tt g1 c0)) b1 Z0
 obtain ⟨W1,F1,G1,rfl,K0,q1,E1⟩:=aM W0
 refine Rx 5 15424 b0 rfl J1 (AL rfl (V0 2 _ rfl))<|RD.nu 1 959 b0 rfl .plain rfl (jB Int d0 av) fun u1 p1 k0 j0=>Bi (i:=6) (rk b0) (Bt (m' :=1023) (sk b0) rfl rfl .plain rfl (AU (α:=Int) (ys:=g0.fe) y0 k0 (fun _ _=>.hd) av rfl rfl (jD Int k0 L) (BH (Ay K0 j0))) (fun F0 k1 ⟨D0,A0,B0,E0⟩=>?_))
 obtain ⟨Q6,F4⟩:=AH A0 (.a1 (.a0 (.a0 (.a0 (.a0 .done)))))
 have R4:=Tt j0 (Tt B0 F4)
 exact x0 ((vS p0 1),[vI a0.fN],F0,D0) Q6 (Tt c0 R4) ⟨(Aq q0 R4),(Aq E0 F4)⟩
 refine Ae<|Ab (BL (i:=(a0.fE % (7:UInt8)).toNat) (j:=3) rfl rfl)<|Af rfl<|Aa<|AM rfl h (fun E5 h=>?_) (fun E5 h=>?_)
 refine Ap<|Ac rfl<|Ac rfl<|Ab (FV.nilCheck rfl)<|Bb 5 rfl<|AN rfl (X1 5 _ rfl)<|Ab (Bo rfl)<|Ab (FV.nilCheck rfl)<|Bb 5 rfl ?_
 obtain ⟨J9,K7,c01,k00,v8,s01,E7⟩:=St.nthAt (α:=Tc) u0 .hd I1 b1 Z0
 obtain ⟨d5,g5,j5,rfl,x8,y8,z8⟩:=aM v8
 refine bk h fun y9 g9 h=>RG.acts' .plain (Acts.setPart (α:=Tc) (i:=K1.toNat) (tot:=5) (ds:=[.string g0.fw,vI g0.fv,d5,g5,j5,.bool g0.fq]) (news:=[.bool (!g0.fq)]) (full:=[.string g0.fw,vI g0.fv,d5,g5,j5,.bool (!g0.fq)]) g9 u0 K7 (fun _=>.hd) I1 E7 rfl rfl rfl rfl rfl rfl (cQ g0.fw g0.fv g0.fe x8 g0.fC y8 g0.fB z8 (!g0.fq)) rfl (o1 rfl)) fun g02 ⟨p00,J2,J00,z7⟩=>Aa<|Ax<|Ae<|Ab (AI rfl (J2.memA .t1))<|AY [vI a1.fe,vI a1.fc,vI a1.fh,v0] J2 .t2 (o4 rfl rfl rfl (St.o1 (α:=Tc) J2 .hd)) fun j02 K2 b7=>Aa<|Am rfl ?_
 have g2:=BD K2 .hd
 have K00:=BE K2 .hd
 have A8:=BF (α:=Tc) (v:=v0) (xs:=y9) g2 L (Bk (α:=Tc) K2 .hd (Aq z7 b7) hL)
 refine Au hb0 func42 rfl (.cons (.many (cs:=[vI a1.fe,vI a1.fc,vI a1.fh,v0]) rfl rfl (g2.memA .t1)) .nil) rfl ?_
 cases h
 exact ⟨g2.ag,fun p q=>⟨v0,rfl,g2.kd A8 q⟩⟩
 refine Ae<|Ab (BL (i:=(a0.fE % (7:UInt8)).toNat) (j:=4) rfl rfl)<|Af rfl<|Aa<|AM rfl h (fun F5 h=>?_) (fun F5 h=>?_)
 refine Ap<|Ac rfl<|Bb 3 rfl<|AN rfl ((u0.memA .t1) 3 _ rfl)<|bk h fun u4 W8 h=>?_
 obtain ⟨z5,K9,Z3,G4,q00,B8,X7⟩:=St.nth (α:=Tc) u0 .hd I1 W8
 obtain ⟨B5,M9,M7⟩:=BA (α:=Tc) u0 .hd G4
 obtain rfl:z5 = ⟨B5,0,none⟩:=by rw [M7] at Z3; cases Z3; rfl
 obtain ⟨F01,G01,H01,rfl,z01,A01,B01⟩:=aM B8
 refine Ab (Bc 6 0 rfl Z3 rfl rfl G4)<|Bb 0 rfl<|AN rfl (X7 0 _ rfl)<|Ab (FV.nilCheck rfl)<|Bb 0 rfl ?_
 obtain ⟨P9,P7,d01,s00,C8,t01,F7⟩:=St.nthAt (α:=Tc) u0 .hd I1 b1 Z0
 obtain ⟨k5,p5,q5,rfl,D8,E8,F8⟩:=aM C8
 refine bk h fun z9 j9 h=>RG.acts' .plain (Acts.setPart (α:=Tc) (i:=K1.toNat) (tot:=0) (ds:=[.string g0.fw,vI g0.fv,k5,p5,q5,.bool g0.fq]) (news:=[.string u4.fw]) (full:=[.string u4.fw,vI g0.fv,k5,p5,q5,.bool g0.fq]) j9 u0 P7 (fun _=>.hd) I1 F7 rfl rfl rfl rfl rfl rfl (cQ u4.fw g0.fv g0.fe D8 g0.fC E8 g0.fB F8 g0.fq) rfl (o1 rfl)) fun k02 ⟨t00,M2,M00,A7⟩=>Aa<|Ax<|Ae<|Ab (AI rfl (M2.memA .t1))<|AY [vI a1.fe,vI a1.fc,vI a1.fh,v0] M2 .t2 (o4 rfl rfl rfl (St.o1 (α:=Tc) M2 .hd)) fun p02 P2 c7=>Aa<|Am rfl ?_
 have j2:=BD P2 .hd
 have P00:=BE P2 .hd
 have G8:=BF (α:=Tc) (v:=v0) (xs:=z9) j2 L (Bk (α:=Tc) P2 .hd (Aq A7 c7) hL)
 refine Au hb0 func42 rfl (.cons (.many (cs:=[vI a1.fe,vI a1.fc,vI a1.fh,v0]) rfl rfl (j2.memA .t1)) .nil) rfl ?_
 cases h
 exact ⟨j2.ag,fun p q=>⟨v0,rfl,j2.kd G8 q⟩⟩
 refine Ae<|Ab (BL (i:=(a0.fE % (7:UInt8)).toNat) (j:=5) rfl rfl)<|Af rfl<|Aa<|AM rfl h (fun G5 h=>?_) (fun G5 h=>?_)
 refine Ap<|Bb 2 rfl<|AN rfl ((u0.memA .t4) 2 _ rfl)<|Bb 2 rfl<|RG.now .plain (BN (j:=2) (old:=[vI a1.fe,vI a1.fc,vI a1.fh,v0]) (news:=[vI a0.fN]) (new' :=[vI a1.fe,vI a1.fc,vI a0.fN,v0]) u0 .t1 rfl rfl rfl rfl rfl rfl (o1 rfl) rfl) fun q02 Q2 d7=>Aa<|Ax<|Ae<|Ab (AI rfl (Q2.memA .t1))<|AY [vI a1.fe,vI a1.fc,vI a0.fN,v0] Q2 .t2 (o4 rfl rfl rfl (St.o1 (α:=Tc) Q2 .hd)) fun s02 R2 g7=>Aa<|Am rfl ?_
 have k2:=BD R2 .hd
 have Q00:=BE R2 .hd
 have H8:=BF (α:=Tc) (v:=v0) (xs:=M1) k2 L (Bk (α:=Tc) R2 .hd (Aq j1 (Tt g1 (Tt d7 g7))) hL)
 refine Au hb0 func42 rfl (.cons (.many (cs:=[vI a1.fe,vI a1.fc,vI a0.fN,v0]) rfl rfl (k2.memA .t1)) .nil) rfl ?_
 cases h
 exact ⟨k2.ag,fun p q=>⟨v0,rfl,k2.kd H8 q⟩⟩
 refine Ap<|Ac rfl<|Bb 2 rfl<|AN rfl ((u0.memA .t4) 2 _ rfl)<|Ao .plain rfl (jA a0.fN (vI a0.fN) u0 av (e1 rfl)) fun t02 x2 p2 j7=>Ab (FV.nilCheck rfl)<|Bb 4 rfl ?_
 have U2:=BD p2 .hd
 have k4:=BF (α:=Int) (v:=(vS x2 1)) (xs:=([a0.fN]:List Int)) U2 L (Bk (α:=Int) p2 .hd (jC a0.fN (vI a0.fN) p2 L rfl) hL)
 have K4:=Aq j1 (Tt g1 (Tt j7 (BE p2 .hd)))
 obtain ⟨Q9,Q7,g01,u00,I8,u01,G7⟩:=St.nthAt (α:=Tc) U2 .hd K4 b1 Z0
 obtain ⟨s5,u5,t9,rfl,J8,K8,C01⟩:=aM I8
 refine bk h fun A9 k9 h=>RG.acts' .plain (Acts.setPart (α:=Tc) (i:=K1.toNat) (tot:=4) (ds:=[.string g0.fw,vI g0.fv,s5,u5,t9,.bool g0.fq]) (news:=[(vS x2 1)]) (full:=[.string g0.fw,vI g0.fv,s5,u5,(vS x2 1),.bool g0.fq]) k9 U2 Q7 (fun _=>.hd) K4 G7 rfl rfl rfl rfl rfl (Rep.c1 k4) (cQ g0.fw g0.fv g0.fe J8 g0.fC K8 ([a0.fN]:List Int) k4 g0.fq) rfl (o1 (Bg k4))) fun u02 ⟨v00,V2,R00,B7⟩=>Aa<|Ax<|Ae<|Ab (AI rfl (V2.memA .t1))<|AY [vI a1.fe,vI a1.fc,vI a1.fh,v0] V2 .t2 (o4 rfl rfl rfl (St.o1 (α:=Tc) V2 .hd)) fun v02 W2 k7=>Aa<|Am rfl ?_
 have q2:=BD W2 .hd
 have U00:=BE W2 .hd
 have M8:=BF (α:=Tc) (v:=v0) (xs:=A9) q2 L (Bk (α:=Tc) W2 .hd (Aq B7 k7) hL)
 refine Au hb0 func42 rfl (.cons (.many (cs:=[vI a1.fe,vI a1.fc,vI a1.fh,v0]) rfl rfl (q2.memA .t1)) .nil) rfl ?_
 cases h
 exact ⟨q2.ag,fun p q=>⟨v0,rfl,q2.kd M8 q⟩⟩
def bp_p (_n:Nat) (a0:Tl) (a1:List Int):Option (List Int):=
  (app ([]:List Int) a1).bind fun b0=>(if ((a0.fE % (4:UInt8)).toNat) = 0 then (ct ((a0.fA.toNat:Nat):Int) ((b0.length:Nat):Int)).bind fun c0=>(idx b0 c0).bind fun _x37=>(put b0 ((c0.toNat:Nat):Int) a0.fN).bind fun d0=>some d0 else (if ((a0.fE % (4:UInt8)).toNat) = 1 then (app b0 ([a0.fN]:List Int)).bind fun g0=>some g0 else (if ((a0.fE % (4:UInt8)).toNat) = 2 then (cut b0 0 (((b0.length:Nat):Int) - 1)).bind fun j0=>some j0 else some b0)))
theorem bp_c (n:Nat) {L w} (hL:hl L w) (a0:Tl) {a1:List Int} {v1_0:Value} (h1_0:Rep.R w L [v1_0] a1)  {r:List Int} (h:bp_p n a0 a1 = some r) :
 Cl 43 #[.agg #[.int .u8 (a0.fE.toNat:Int),.int .u8 (a0.fA.toNat:Int),vI a0.fN],v1_0] w (ah w fun w' u=>∃ v0_0:Value,u = v0_0/\Rep.R w' L [v0_0] r):=by
 unfold bp_p at h
 refine AF func43 rfl rfl rfl fun _ cs0 hb0=>Ae<|RG.bx (AB w) rfl rfl fun d2 B1 A0 K1=>Af rfl<|Aa<|Ae<|Af rfl<|Aa<|Ae<|Ac rfl<|Ac rfl ?_
 have p0:=A0.nilRow 3 (Rep.size Int)
 have M1:=St.nilRowT A0 3 (Rep.size Int)
 refine bk h fun g0 k1 h=>RG.doesL .plain rfl (AU (α:=Int) (ys:=a1) k1 p0 (fun _ _=>.hd) eL rfl rfl (Aw (cs:=[]) (xs:=([]:List Int)) p0 L (AC _ _)) (BH (AS h1_0 p0))) fun k0 g2 ⟨H1,b0,P1,j0⟩=>Af rfl<|Aa<|Aj<|Ae<|Bb 0 rfl<|AN rfl ((b0.memA .t1) 0 _ rfl)<|Ab (FV.rem8 (a:=a0.fE) (b:=(4:UInt8)) rfl rfl (by decide))<|Aa<|Av<|Ae<|Ab (BL (i:=(a0.fE % (4:UInt8)).toNat) (j:=0) rfl rfl)<|Af rfl<|Aa<|AM rfl h (fun H0 h=>?_) (fun H0 h=>?_)
 refine du 10 fun c0 d0=>Rv 0 c0 rfl d0 (fun _=>Ah rfl)<|Rv 1 c0 rfl d0 (fun _=>Bl 1 rfl)<|Rx 2 1608 c0 rfl d0 (AL rfl ((b0.memA .t1) 1 _ rfl)) ?_
 have c2:=a0.fA.toNat_lt
 refine Rv 3 c0 rfl d0 (fun _=>FV.convN (i:=a0.fA.toNat) underlying5 underlying3 rfl (by omega))<|Rv 4 c0 rfl d0 (fun _=>Ah rfl) ?_
 have Y1:g0.length <= 4294967296:=St.rowLe (α:=Int) b0 .hd
 obtain ⟨z1,D1,R0⟩:=St.rowV (α:=Int) b0 .hd
 refine Rx 5 1600 c0 rfl d0 (FV.lenV underlying39 rfl R0)<|bk h fun D0 d1 h=>Rv 6 c0 rfl d0 (fun _=>FV.remc (i:=((a0.fA.toNat:Nat):Int)) (j:=((g0.length:Nat):Int)) rfl rfl d1)<|Rv 7 c0 rfl d0 (fun _=>Bl 2 rfl)<|Rx 8 1536 c0 rfl d0 (AL rfl ((b0.memA .t1) 2 _ rfl))<|bk h fun v1 g1 h=>?_
 obtain ⟨W0,j1⟩:=az g1
 obtain ⟨F0,E1,z0,C0,K0,X0,b2⟩:=St.nth (α:=Int) b0 .hd j0 j1
 obtain ⟨G0,F1,B0⟩:=BA (α:=Int) b0 .hd C0
 obtain rfl:F0 = ⟨G0,0,none⟩:=by rw [B0] at z0; cases z0; rfl
 have U0:K0 = [vI v1]:=X0; subst U0
 refine Rv 9 c0 rfl d0 (fun _=>Bc 1 (D0.toNat) rfl z0 rfl W0 C0)<|bk h fun x1 p1 h=>Bi (i:=10) (rk c0) (RO.acts (m' :=2047) (sk c0) rfl rfl .plain (Acts.set (α:=Int) (i:=D0.toNat) p1 b0 B0 (fun _=>.hd) j0 rfl rfl rfl rfl rfl rfl) (fun j2 ⟨I1,q0,Q1,P0⟩=>?_))
 refine AP (dk c0)<|Ax<|Ae<|Ac rfl<|Af rfl<|Aa<|Am rfl ?_
 have s0:=BD q0 .hd
 have R1:=BE q0 .hd
 have Y0:=BF (α:=Int) (v:=k0) (xs:=x1) s0 L (Bk (α:=Int) q0 .hd P0 hL)
 refine AQ hb0 func43 rfl rfl ?_
 cases h
 exact ⟨s0.ag,fun p q=>⟨k0,rfl,s0.kd Y0 q⟩⟩
 refine Ae<|Ab (BL (i:=(a0.fE % (4:UInt8)).toNat) (j:=1) rfl rfl)<|Af rfl<|Aa<|AM rfl h (fun I0 h=>?_) (fun I0 h=>?_)
 refine Ap<|Ac rfl<|Bb 2 rfl<|AN rfl ((b0.memA .t1) 2 _ rfl)<|Ao .plain rfl (jA a0.fN (vI a0.fN) b0 eL (e1 rfl)) fun k2 C1 t0 M0=>bk h fun y1 q1 h=>RG.doesL .plain rfl (AU (α:=Int) (ys:=([a0.fN]:List Int)) q1 t0 (fun _ _=>.t1) eL rfl rfl (Aq j0 M0) (Src.row (α:=Int) t0 .hd (jC a0.fN (vI a0.fN) t0 L rfl))) fun E0 p2 ⟨J1,u0,U1,Q0⟩=>Af rfl<|Aa<|Ax<|Ae<|Ac rfl<|Af rfl<|Aa<|Am rfl ?_
 have v0:=BD u0 .t1
 have V1:=BE u0 .t1
 have Z0:=BF (α:=Int) (v:=E0) (xs:=y1) v0 L (Bk (α:=Int) u0 .t1 Q0 hL)
 refine AQ hb0 func43 rfl rfl ?_
 cases h
 exact ⟨v0.ag,fun p q=>⟨E0,rfl,v0.kd Z0 q⟩⟩
 refine Ae<|Ab (BL (i:=(a0.fE % (4:UInt8)).toNat) (j:=2) rfl rfl)<|Af rfl<|Aa<|AM rfl h (fun J0 h=>?_) (fun J0 h=>?_)
 refine Ap<|Ac rfl<|Ac rfl ?_
 have Z1:g0.length <= 4294967296:=St.rowLe (α:=Int) b0 .hd
 obtain ⟨A1,G1,V0⟩:=St.rowV (α:=Int) b0 .hd
 refine Ab (FV.lenV underlying39 rfl V0)<|Ab (FV.subI (i:=((g0.length:Nat):Int)) (j:=1) rfl rfl (by omega)) ?_
 have x0:=BD b0 .hd
 have W1:=BE b0 .hd
 refine bk h fun q2 s1 h=>RG.valE .plain rfl (FV.cutL (α:=Int) s1 rfl rfl (BF (α:=Int) (v:=k0) (xs:=g0) x0 L (Bk (α:=Int) b0 .hd j0 hL)) rfl ⟨_,rfl⟩) fun u1 b1=>Af rfl<|Aa<|Ax<|Ae<|Ac rfl<|Af rfl<|Aa<|Am rfl<|AQ hb0 func43 rfl rfl ?_
 cases h
 exact ⟨x0.ag,fun p q=>⟨u1,rfl,x0.kd b1 q⟩⟩
 refine Ar<|Ax<|Ae<|Ac rfl<|Af rfl<|Aa<|Am rfl ?_
 have y0:=BD b0 .hd
 have X1:=BE b0 .hd
 have c1:=BF (α:=Int) (v:=k0) (xs:=g0) y0 L (Bk (α:=Int) b0 .hd j0 hL)
 refine AQ hb0 func43 rfl rfl ?_
 cases h
 exact ⟨y0.ag,fun p q=>⟨k0,rfl,y0.kd c1 q⟩⟩
structure Tj where
  fr:Td
  fp:List Int
  deriving DecidableEq
instance:Rep Tj:=Rep.via (β:=Td × (List Int)) fun x=>(x.fr,x.fp)
theorem op_Td {w:World} {L:List Nat} {cs:List Value} {x:Td} (h:Rep.R w L cs x):∃ v3:Value,cs = [vI x.fe,vI x.fc,vI x.fh,v3]/\Rep.R w L [v3] x.ft:=by
  obtain ⟨c0,r0,rfl,h0,h⟩:=h
  have e0:c0 = [vI x.fe]:=h0; subst e0
  obtain ⟨c1,r1,rfl,h1,h⟩:=h
  have e1:c1 = [vI x.fc]:=h1; subst e1
  obtain ⟨c2,r2,rfl,h2,h⟩:=h
  have e2:c2 = [vI x.fh]:=h2; subst e2
  obtain ⟨v3,rfl,kv3⟩:=aP (xs:=x.ft) h
  exact ⟨v3,rfl,kv3⟩
theorem mk_Td {w:World} {L:List Nat} (a0:Int) (a1:Int) (a2:Int) (a3:List Tc) {u3:Value} (h3:Rep.R w L [u3] a3):Rep.R w L [vI a0,vI a1,vI a2,u3] (⟨a0,a1,a2,a3⟩:Td):=⟨[vI a0],[vI a1,vI a2,u3],rfl,rfl,⟨[vI a1],[vI a2,u3],rfl,rfl,⟨[vI a2],[u3],rfl,rfl,h3⟩⟩⟩
theorem op_Tj {w:World} {L:List Nat} {cs:List Value} {x:Tj} (h:Rep.R w L cs x):∃ v3 v4:Value,cs = [vI x.fr.fe,vI x.fr.fc,vI x.fr.fh,v3,v4]/\Rep.R w L [v3] x.fr.ft/\Rep.R w L [v4] x.fp:=by
  obtain ⟨c0,r0,rfl,h0,h⟩:=h
  obtain ⟨v3,rfl,kv3⟩:=op_Td (x:=x.fr) h0
  obtain ⟨v4,rfl,kv4⟩:=aP (xs:=x.fp) h
  exact ⟨v3,v4,rfl,kv3,kv4⟩
theorem fM {w:World} {L:List Nat} (a0:Td) {u3:Value} (h3:Rep.R w L [u3] a0.ft) (a1:List Int) {u4:Value} (h4:Rep.R w L [u4] a1):Rep.R w L [vI a0.fe,vI a0.fc,vI a0.fh,u3,u4] (⟨a0,a1⟩:Tj):=⟨[vI a0.fe,vI a0.fc,vI a0.fh,u3],[u4],rfl,mk_Td a0.fe a0.fc a0.fh a0.ft h3,h4⟩
theorem el32:ElT Tryz.prog 32 41 (Rep.size Tj) 72 (.agg #[vI 0,vI 0,vI 0,vN,vN]) [vI 0,vI 0,vI 0,vN,vN]:=⟨underlying32,by kernel_rfl,rfl,rfl,rfl,rfl⟩
def bq_p (n:Nat) (a0:Tk) (a1:Ti) (a2:Tl) (a3:Tl):Option ((List Tj) × Int):=
  (ac_p n a0).bind fun b0=>(aR_p n a1 ((b0.1.length:Nat):Int)).bind fun c0=>(ab_p n a1 ((b0.1.length:Nat):Int)).bind fun g0=>(bo_p n a3 c0).bind fun j0=>(bp_p n a2 b0.1).bind fun d0=>some (([(⟨c0,b0.1⟩:Tj),(⟨g0,b0.1⟩:Tj),(⟨j0,b0.1⟩:Tj),(⟨c0,d0⟩:Tj),(⟨(⟨(0:Int),(0:Int),(0:Int),([]:List Tc)⟩:Td),([]:List Int)⟩:Tj)]:List Tj),b0.2)
theorem bq_c (n:Nat) {L w} (hL:hl L w) (a0:Tk) {v0_1:Value} (h0_1:Rep.R w L [v0_1] a0.fB) {v0_2:Value} (h0_2:Rep.R w L [v0_2] a0.fMore) {v0_3:Value} (h0_3:Rep.R w L [v0_3] a0.fLabels) (a1:Ti) {v1_4:Value} (h1_4:Rep.R w L [v1_4] a1.fNums) (a2:Tl) (a3:Tl)  {r:(List Tj) × Int} (h:bq_p n a0 a1 a2 a3 = some r) :
 Cl 11 #[.agg #[.int .u8 (a0.fN.toNat:Int),v0_1,v0_2,v0_3,.int .u8 (a0.fK.toNat:Int)],.agg #[.int .u8 (a1.fe.toNat:Int),.int .u8 (a1.fc.toNat:Int),.int .u8 (a1.fh.toNat:Int),.int .u8 (a1.fq.toNat:Int),v1_4],.agg #[.int .u8 (a2.fE.toNat:Int),.int .u8 (a2.fA.toNat:Int),vI a2.fN],.agg #[.int .u8 (a3.fE.toNat:Int),.int .u8 (a3.fA.toNat:Int),vI a3.fN]] w (ah w fun w' u=>∃ v0_0:Value,u = .tuple #[v0_0,vI r.2]/\Rep.R w' L [v0_0] r.1):=by
 unfold bq_p at h
 refine AF func11 rfl rfl rfl fun _ cs0 hb0=>Ae<|RG.bx (AB w) rfl rfl fun x3 z2 p1 W2=>RG.bx p1 rfl rfl fun z3 A2 q1 Y2=>RG.bx q1 rfl rfl fun A3 B2 s1 Z2=>RG.bx s1 rfl rfl fun B3 C2 z0 b3=>Af rfl<|Af rfl<|Aa<|Ae<|Ab (AI rfl (z0.memA .t3))<|bk h fun q0 W1 h=>jE (bd 21) rfl (e1 rfl) (fun p q=>ac_c n (z0.hL hL q) a0 (z0.km h0_1 q) (z0.km h0_2 q) (z0.km h0_3 q) W1) rfl fun C3 p3 y1 ⟨j0,hu_,v0⟩=>?_
 subst hu_
 obtain ⟨D0,c3⟩:=z0.agr y1
 refine Ac rfl<|Ab (Ai rfl rfl)<|Ab (Ai rfl rfl)<|Af rfl<|Af rfl<|Aa<|Ae<|Ab (AI rfl (D0.memA .t2))<|Ac rfl ?_
 have d3:q0.1.length <= 281474976710656:=AX v0
 refine Ab (Be (xs:=q0.1) underlying39 rfl v0)<|bk h fun b0 X1 h=>jE (bd 22) rfl (e2 rfl rfl) (fun p q=>aR_c n (D0.hL hL q) a1 (D0.km h1_4 q) X1) rfl fun D3 q3 z1 ⟨p0,hu_,C0⟩=>?_
 subst hu_
 obtain ⟨u1,Z0⟩:=D0.agr z1
 refine RG.nl [vI 0,vI 0,vI 0,vN] u1 fun E3 D2 v1 E0=>AY [vI b0.fe,vI b0.fc,vI b0.fh,p0] v1 .hd (o4 rfl rfl rfl (Bg (Ay C0 E0))) fun F3 s0 J0=>Aa<|Aj<|du 24 fun d0 k0=>Rx 0 13631492 d0 rfl k0 (AI rfl (s0.memA .hd))<|Rv 1 d0 rfl k0 (fun _=>Ah rfl) ?_
 obtain ⟨q2,M2,K1,_⟩:=Rep.sl (Ay C0 (Tt E0 J0))
 have Q0:=Tt Z0 (Tt E0 J0)
 have d1:=Ay v0 Q0
 obtain ⟨s2,P2,M1,_⟩:=Rep.sl d1
 refine Rv 2 d0 rfl k0 (fun _=>AZ (vs:=[.agg #[vI b0.fe,vI b0.fc,vI b0.fh,p0],j0]) (u:=.agg #[vI b0.fe,vI b0.fc,vI b0.fh,p0,j0]) (e2 rfl rfl) (fun p=>by rw [K1,M1]; try kernel_rfl))<|Rx 3 14035264 d0 rfl k0 (AI rfl (s0.memA .t3))<|Rv 4 d0 rfl k0 (fun _=>Ah rfl)<|Rx 5 14035264 d0 rfl k0 (Be (xs:=q0.1) underlying39 rfl d1)<|Rv 7 d0 rfl k0 (fun _=>Ah rfl)<|Rx 9 14034944 d0 rfl k0 (AI rfl (s0.memA .t1))<|Rx 10 14034944 d0 rfl k0 (AI rfl (s0.memA .hd))<|Rv 12 d0 rfl k0 (fun _=>Ah rfl)<|Rx 14 13893632 d0 rfl k0 (AI rfl (s0.memA .hd))<|Rx 15 14024704 d0 rfl k0 (AI rfl (s0.memA .t2))<|Rv 16 d0 rfl k0 (fun _=>Ah rfl)<|Rv 19 d0 rfl k0 (fun _=>AZ (vs:=[]) (u:=.agg #[vI 0,vI 0,vI 0,vN,vN]) ai (fun p=>by kernel_rfl))<|Rv 21 d0 rfl k0 (fun _=>Ah rfl)<|bk h fun g0 Y1 h=>BQ 6 2742015 d0 rfl .plain (bd 26) rfl (e2 rfl rfl) (fun p q=>ab_c n (s0.hL hL q) a1 (s0.km h1_4 q) Y1) rfl fun G3 s3 A1 ⟨x0,hu_,U0⟩=>?_
 subst hu_
 obtain ⟨X0,K0⟩:=s0.agr A1
 obtain ⟨u2,Q2,P1,_⟩:=Rep.sl U0
 obtain ⟨v2,R2,Q1,_⟩:=Rep.sl (Ay v0 (Tt Q0 K0))
 refine Rv 8 d0 rfl k0 (fun _=>AZ (vs:=[.agg #[vI g0.fe,vI g0.fc,vI g0.fh,x0],j0]) (u:=.agg #[vI g0.fe,vI g0.fc,vI g0.fh,x0,j0]) (e2 rfl rfl) (fun p=>by rw [P1,Q1]; try kernel_rfl))<|bk h fun c0 Z1 h=>?_
 have j1:=Tt E0 (Tt J0 K0)
 refine BQ 11 2744319 d0 rfl .plain (bd 42) rfl (e2 rfl rfl) (fun p q=>bo_c n (X0.hL hL q) a3 b0 (Az (Ay C0 j1) q) Z1) rfl fun H3 u3 B1 ⟨u0,hu_,V0⟩=>?_
 subst hu_
 obtain ⟨Y0,F0⟩:=X0.agr B1
 obtain ⟨x2,U2,R1,_⟩:=Rep.sl V0
 have k1:=Tt Q0 (Tt K0 F0)
 have g1:=Ay v0 k1
 obtain ⟨y2,V2,U1,_⟩:=Rep.sl g1
 refine Rv 13 d0 rfl k0 (fun _=>AZ (vs:=[.agg #[vI c0.fe,vI c0.fc,vI c0.fh,u0],j0]) (u:=.agg #[vI c0.fe,vI c0.fc,vI c0.fh,u0,j0]) (e2 rfl rfl) (fun p=>by rw [R1,U1]; try kernel_rfl))<|bk h fun G0 V1 h=>BQ 17 2883583 d0 rfl .plain (bd 43) rfl (e2 rfl rfl) (fun p q=>bp_c n (Y0.hL hL q) a2 (Az g1 q) V1) rfl fun v3 t0 x1 ⟨k3,hu_,R0⟩=>?_
 subst hu_
 obtain ⟨H0,A0⟩:=Y0.agr x1
 have P0:=Tt j1 (Tt F0 A0)
 have b1:=Ay C0 P0
 obtain ⟨b2,E2,D1,_⟩:=Rep.sl b1
 obtain ⟨c2,F2,E1,_⟩:=Rep.sl R0
 refine Rv 18 d0 rfl k0 (fun _=>AZ (vs:=[.agg #[vI b0.fe,vI b0.fc,vI b0.fh,p0],t0]) (u:=.agg #[vI b0.fe,vI b0.fc,vI b0.fh,p0,t0]) (e2 rfl rfl) (fun p=>by rw [D1,E1]; try kernel_rfl)) ?_
 have g3:=Rep.nilAt (α:=Tc) H0 L
 have j3:=Rep.nilAt (α:=Int) H0 L
 obtain ⟨d2,G2,F1,_⟩:=Rep.sl b1
 obtain ⟨g2,H2,G1,_⟩:=Rep.sl (Ay v0 (Tt Z0 P0))
 obtain ⟨j2,I2,H1,_⟩:=Rep.sl (Ay U0 (Tt F0 A0))
 obtain ⟨k2,J2,I1,_⟩:=Rep.sl (Ay V0 A0)
 obtain ⟨p2,K2,J1,_⟩:=Rep.sl R0
 refine RD.nu 20 4194303 d0 rfl .plain rfl (AD (α:=Tj) (xs:=([(⟨b0,q0.1⟩:Tj),(⟨g0,q0.1⟩:Tj),(⟨c0,q0.1⟩:Tj),(⟨b0,G0⟩:Tj),(⟨(⟨(0:Int),(0:Int),(0:Int),([]:List Tc)⟩:Td),([]:List Int)⟩:Tj)]:List Tj)) (vs:=[.agg #[vI b0.fe,vI b0.fc,vI b0.fh,p0,j0],.agg #[vI g0.fe,vI g0.fc,vI g0.fh,x0,j0],.agg #[vI c0.fe,vI c0.fc,vI c0.fh,u0,j0],.agg #[vI b0.fe,vI b0.fc,vI b0.fh,p0,t0],.agg #[vI 0,vI 0,vI 0,vN,vN]]) (ds' :=[vI b0.fe,vI b0.fc,vI b0.fh,p0,j0,vI g0.fe,vI g0.fc,vI g0.fh,x0,j0,vI c0.fe,vI c0.fc,vI c0.fh,u0,j0,vI b0.fe,vI b0.fc,vI b0.fh,p0,t0,vI 0,vI 0,vI 0,vN,vN]) rfl H0 el32 rfl (e5 rfl rfl rfl rfl rfl) (by rw [F1,G1,H1,I1,J1]; try kernel_rfl) rfl) fun y3 W0 y0 B0=>?_
 have c1:=Ay C0 (Tt P0 B0)
 have M0:=Ay v0 (Tt k1 (Tt A0 B0))
 refine Rv 22 d0 rfl k0 (fun _=>Bp rfl)<|Rv 23 d0 rfl k0 (fun _=>Bp rfl)<|AP (dk d0)<|Am rfl ?_
 have I0:=BD y0 .hd
 have X2:=BE y0 .hd
 have C1:=BF (α:=Tj) (v:=(vS W0 5)) (xs:=([(⟨b0,q0.1⟩:Tj),(⟨g0,q0.1⟩:Tj),(⟨c0,q0.1⟩:Tj),(⟨b0,G0⟩:Tj),(⟨(⟨(0:Int),(0:Int),(0:Int),([]:List Tc)⟩:Td),([]:List Int)⟩:Tj)]:List Tj)) I0 L (Bk (α:=Tj) y0 .hd (Aw (cs:=[vI b0.fe,vI b0.fc,vI b0.fh,p0,j0,vI g0.fe,vI g0.fc,vI g0.fh,x0,j0,vI c0.fe,vI c0.fc,vI c0.fh,u0,j0,vI b0.fe,vI b0.fc,vI b0.fh,p0,t0,vI 0,vI 0,vI 0,vN,vN]) (xs:=(([(⟨b0,q0.1⟩:Tj),(⟨g0,q0.1⟩:Tj),(⟨c0,q0.1⟩:Tj),(⟨b0,G0⟩:Tj),(⟨(⟨(0:Int),(0:Int),(0:Int),([]:List Tc)⟩:Td),([]:List Int)⟩:Tj)]:List Tj):List Tj)) y0 L (Ak (cs:=[vI b0.fe,vI b0.fc,vI b0.fh,p0,j0]) (ds:=[vI g0.fe,vI g0.fc,vI g0.fh,x0,j0,vI c0.fe,vI c0.fc,vI c0.fh,u0,j0,vI b0.fe,vI b0.fc,vI b0.fh,p0,t0,vI 0,vI 0,vI 0,vN,vN]) (fM b0 c1 q0.1 M0) (Ak (cs:=[vI g0.fe,vI g0.fc,vI g0.fh,x0,j0]) (ds:=[vI c0.fe,vI c0.fc,vI c0.fh,u0,j0,vI b0.fe,vI b0.fc,vI b0.fh,p0,t0,vI 0,vI 0,vI 0,vN,vN]) (fM g0 (Ay U0 (Tt F0 (Tt A0 B0))) q0.1 M0) (Ak (cs:=[vI c0.fe,vI c0.fc,vI c0.fh,u0,j0]) (ds:=[vI b0.fe,vI b0.fc,vI b0.fh,p0,t0,vI 0,vI 0,vI 0,vN,vN]) (fM c0 (Ay V0 (Tt A0 B0)) q0.1 M0) (Ak (cs:=[vI b0.fe,vI b0.fc,vI b0.fh,p0,t0]) (ds:=[vI 0,vI 0,vI 0,vN,vN]) (fM b0 c1 G0 (Ay R0 B0)) (Ak (cs:=[vI 0,vI 0,vI 0,vN,vN]) (ds:=[]) (fM (⟨(0:Int),(0:Int),(0:Int),([]:List Tc)⟩:Td) (Rep.nilAt (α:=Tc) y0 L) ([]:List Int) (Rep.nilAt (α:=Int) y0 L)) (AC _ _))))))) hL)
 refine Au hb0 func11 rfl (.cons (.tmp rfl) (.cons (.tmp rfl) .nil)) rfl ?_
 cases h
 exact ⟨I0.ag,fun p q=>⟨(vS W0 5),rfl,I0.kd C1 q⟩⟩
def bV_p (n:Nat) (a0:Td) (a1:List Int) (a2:Int):Option (Except Te (List (List Int))):=
  (aJ_p n a0 a1 a2).bind fun y1=>exc y1 (fun c0=>(aj_p n c0).bind fun d0=>some (.ok d0)) (fun b0=>some (.error b0))
theorem bV_c (n:Nat) {L w} (hL:hl L w) (a0:Td) {v0_3:Value} (h0_3:Rep.R w L [v0_3] a0.ft) {p0:Nat} (m0:∀ j9 v9,([vI a0.fe,vI a0.fc,vI a0.fh,v0_3]:List Value)[j9]? = some v9 -> w.cell? ((⟨p0,0,none⟩:Addr).add j9) = some v9) {a1:List Int} {v1_0:Value} (h1_0:Rep.R w L [v1_0] a1) {p1:Nat} (m1:∀ j9 v9,([v1_0]:List Value)[j9]? = some v9 -> w.cell? ((⟨p1,0,none⟩:Addr).add j9) = some v9) {a2:Int} {p2:Nat} (m2:∀ j9 v9,([vI a2]:List Value)[j9]? = some v9 -> w.cell? ((⟨p2,0,none⟩:Addr).add j9) = some v9)  {r:Except Te (List (List Int))} (h:bV_p n a0 a1 a2 = some r) :
 Cl 71 #[.pointer (some ⟨p0,0,none⟩),.pointer (some ⟨p1,0,none⟩),.pointer (some ⟨p2,0,none⟩)] w (aE w (fun (y:List (List Int)) w' u=>∃ v0_0:Value,u = v0_0/\Rep.R w' L [v0_0] y) (fun e=>.iface 138 (.agg #[vI e.fy])) r):=by
 unfold bV_p at h
 have hS0:=AB w
 refine BP func71 rfl rfl rfl fun _ cs0 hb0 hp0=>Ae<|Af rfl<|Aa<|Ae<|Ab (AI rfl (fun j9 v9 h9=>hS0.ag.cell0 (m0 j9 v9 h9)))<|AN rfl ((fun j9 v9 h9=>hS0.ag.cell0 (m1 j9 v9 h9)) 0 _ rfl)<|AN rfl ((fun j9 v9 h9=>hS0.ag.cell0 (m2 j9 v9 h9)) 0 _ rfl)<|xk h (fun y0 hy1 h=>?_) (fun x0 hy1 h=>?_)
 refine Bs (fst:=[]) (cap:=[]) .plain (bd 72) rfl (e3 rfl rfl rfl) (fun p q=>aJ_c n (hS0.hL hL q) a0 (Az h0_3 q) (Az h1_0 q) hy1) fun G0 g0=>?_
 obtain ⟨d0,z0⟩:=hS0.agr g0
 cases h
 exact Ba hp0 func71 ⟨d0.ag,rfl⟩
 refine jE (bd 72) rfl (e3 rfl rfl rfl) (fun p q=>AW (aJ_c n (hS0.hL hL q) a0 (Az h0_3 q) (Az h1_0 q) hy1)) rfl fun H0 F0 j0 ⟨C0,D0,hu_,q0,s0⟩=>?_
 subst hu_
 obtain ⟨b0,A0⟩:=hS0.agr j0
 refine bk h fun J0 u0 h=>jE (bd 73) rfl (e1 rfl) (fun p q=>aj_c n (b0.hL hL q) x0 (Az q0 q) (Az s0 q) u0) rfl fun I0 v0 k0 ⟨E0,hu_,t0⟩=>?_
 subst hu_
 obtain ⟨c0,B0⟩:=b0.agr k0
 refine Af rfl<|Aa<|Am rfl<|AQ hb0 func71 rfl rfl ?_
 cases h
 exact ⟨c0.ag,fun p q=>aA ⟨v0,rfl,c0.kd t0 q⟩⟩
def ce_p (n:Nat) (a0:Td) (a1:List Int) (a2:Int):Option ((List (List Int)) × Int):=
  (bV_p n a0 a1 a2).bind fun c0=>exc c0 (fun d0=>some (d0,(0:Int))) (fun b0=>some (([]:List (List Int)),b0.fy))
theorem ce_c (n:Nat) {L w} (hL:hl L w) (a0:Td) {v0_3:Value} (h0_3:Rep.R w L [v0_3] a0.ft) {a1:List Int} {v1_0:Value} (h1_0:Rep.R w L [v1_0] a1) {a2:Int}  {r:(List (List Int)) × Int} (h:ce_p n a0 a1 a2 = some r) :
 Cl 23 #[.agg #[vI a0.fe,vI a0.fc,vI a0.fh,v0_3],v1_0,vI a2] w (ah w fun w' u=>∃ v0_0:Value,u = .tuple #[v0_0,vI r.2]/\Rep.R w' L [v0_0] r.1):=by
 unfold ce_p at h
 refine AF func23 rfl rfl rfl fun _ cs0 hb0=>Ae<|RG.bx (AB w) rfl rfl fun M1 g0 D0 B1=>RG.bx D0 rfl (Rep.c1 (AS h1_0 D0)) fun V1 j0 M0 C1=>RG.bx M0 rfl rfl fun W1 k0 P0 D1=>Af rfl<|Af rfl<|Aa<|Ae<|Ab (BM (vs:=[]) (us:=[vP g0,vP j0,vP k0]) ai (e3 rfl rfl rfl))<|BG (fst:=[]) (cap:=[]) (vs:=[.func (.func 71) #[] #[vP g0,vP j0,vP k0]]) .plain (bd 70) func70 rfl rfl rfl rfl (e1 rfl) rfl fun x1 E0 J1=>Ae<|RG.nl [vN] P0 fun X1 p0 Q0 E1=>RG.nl [vI 0] Q0 fun Y1 d0 b0 F1=>Aa<|Ae<|Ab (BM (vs:=[]) (us:=[vP p0,vP d0]) ai (e2 rfl rfl))<|RG.defer (fst:=[]) (cap:=[vP p0,vP d0]) (vs:=[]) rfl .plain rfl ai<|Aa<|Ae<|Ac rfl<|xk h (fun s0 z0 h=>?_) (fun g2 z0 h=>?_)
 refine Bs (fst:=[]) (cap:=[vP g0,vP j0,vP k0]) .plain (bd 71) rfl ai (fun p q=>bV_c n (b0.hL hL q) a0 (b0.km h0_3 q) (ac q (b0.memA .t4)) (b0.km h1_0 q) (ac q (b0.memA .t3)) (ac q (b0.memA .t2)) z0) fun Z1 b1=>?_
 obtain ⟨R0,G1⟩:=b0.agr b1
 refine PN.callD (vs:=[]) (cap:=[vP p0,vP d0]) (bd 107) func107 rfl rfl rfl fun v1 g1 k1=>Ae<|RG.recover1 .plain g1 rfl<|Af rfl<|Aa<|Ae<|Ac rfl<|Ab (FV.neqI underlying20 rfl rfl)<|Aa<|Br rfl<|Ae<|Ac rfl<|Ab (FV.assertT rfl rfl)<|Ac rfl<|Ab (Ai rfl rfl)<|Ab (Ai rfl rfl)<|RG.nl [vI 0] R0 fun b2 s1 U0 H1=>AY [vI s0.fy] U0 .hd (o1 rfl) fun c2 u0 I1=>Af rfl<|Aa<|Aj<|Ae<|Ac rfl<|Ab (Bo rfl)<|Aa<|By rfl<|Ar<|Ae<|Af rfl<|Aa<|du 3 fun c0 A0=>Rv 0 c0 rfl A0 (fun _=>Ah rfl)<|Rv 1 c0 rfl A0 (fun _=>Bl 0 rfl)<|RD.mo (α:=Unit) (fun ()=>[(1,vP d0),(19,vI s0.fy)]) (fun ()=>[.cells d0 [vI 0] 49,.cells p0 [vN] 64,.cells k0 [vI a2] 3,.cells j0 [v1_0] 39,.cells g0 [vI a0.fe,vI a0.fc,vI a0.fh,v0_3] 37]) u0 1 15 ?_ ?_
 rintro ⟨⟩ d2 G0 y1
 try dsimp only
 refine BR 4 31 c0 rfl rfl .plain (AJ (news:=[vI s0.fy]) G0 .hd rfl rfl rfl rfl rfl rfl (o1 rfl)) fun P1 q0 z1=>AP (dk c0)<|MX.fin rfl<|RT.leaveD1 k1 func107 rfl .nil<|Au (u:=.tuple #[vN,vI s0.fy]) E0 func70 rfl (.cons (.one rfl rfl ((q0.memA .t1) 0 _ rfl)) (.cons (.one rfl rfl ((q0.memA .hd) 0 _ rfl)) .nil)) rfl<|Ab (Ai rfl rfl)<|Ab (Ai rfl rfl)<|Af rfl<|Af rfl<|Aa<|Am rfl ?_
 have p1:=Rep.nilAt (α:=List Int) q0 L
 refine Au hb0 func23 rfl (.cons (.tmp rfl) (.cons (.tmp rfl) .nil)) rfl ?_
 cases h
 exact ⟨q0.ag,fun p q=>⟨vN,rfl,q0.kd p1 q⟩⟩
 intro C0
 refine Bv [2,3] (rk c0) ⟨?_,?_,trivial⟩
 refine Bu (m' :=7) (sk c0) rfl .plain rfl (AL rfl ((u0.memA .hd) 0 _ rfl))<|BR 3 15 c0 rfl rfl .plain (AJ (news:=[vN]) u0 .t2 rfl rfl rfl rfl rfl rfl (o1 rfl)) fun q1 v0 x0=>?_
 obtain ⟨H0,V0⟩:=AH v0 .d1
 exact C0 () H0 (Tt x0 V0)
 refine RO.now (m' :=11) (sk c0) rfl rfl .plain (AJ (news:=[vN]) u0 .t2 rfl rfl rfl rfl rfl rfl (o1 rfl)) fun q1 v0 x0=>Rx 2 16 c0 rfl A0 (AL rfl ((v0.memA .hd) 0 _ rfl)) ?_
 obtain ⟨I0,W0⟩:=AH v0 .d1
 exact C0 () I0 (Tt x0 W0)
 refine Bm (fst:=[]) (cap:=[vP g0,vP j0,vP k0]) .plain (bd 71) rfl ai (fun p q=>AW (bV_c n (b0.hL hL q) a0 (b0.km h0_3 q) (ac q (b0.memA .t4)) (b0.km h1_0 q) (ac q (b0.memA .t3)) (ac q (b0.memA .t2)) z0)) rfl fun Q1 B0 Z0 ⟨K1,hu_,y0⟩=>?_
 subst hu_
 obtain ⟨J0,A1⟩:=b0.agr Z0
 refine RG.now .plain (AJ (news:=[B0]) J0 .t1 rfl rfl rfl (Rep.c1 y0) rfl rfl (o1 (Bg y0))) fun R1 K0 X0=>AY [vI 0] K0 .hd (o1 rfl) fun U1 t0 Y0=>Aa<|Am rfl<|RT.callD (vs:=[]) (cap:=[vP p0,vP d0]) (bd 107) func107 rfl rfl rfl fun u1 F0 j1=>Ae<|RG.recover0 .plain F0 rfl<|Af rfl<|Aa<|Ae<|Ac rfl<|Ab (FV.neqI0 underlying20 rfl rfl)<|Aa<|By rfl<|Ar<|MX.fin rfl<|RT.leaveD0 F0 j1 func107 rfl .nil<|Au (u:=.tuple #[B0,vI 0]) E0 func70 rfl (.cons (.one rfl rfl ((t0.memA .t1) 0 _ rfl)) (.cons (.one rfl rfl ((t0.memA .hd) 0 _ rfl)) .nil)) rfl<|Ab (Ai rfl rfl)<|Ab (Ai rfl rfl)<|Af rfl<|Af rfl<|Aa<|Am rfl<|Au hb0 func23 rfl (.cons (.tmp rfl) (.cons (.tmp rfl) .nil)) rfl ?_
 cases h
 exact ⟨t0.ag,fun p q=>⟨B0,rfl,t0.kd (Ay y0 (Tt X0 Y0)) q⟩⟩
def aM_l1 (_n:Nat) (a0:ByteArray) (g0:Int -> Option (Bool ⊕ Unit)):Int -> Option (Bool ⊕ Unit)
  | d0=>(if d0 < ((a0.size:Nat):Int) then (fV a0 d0).bind fun b0=>jn (fun j0=>(if j0 = true then some (.inl false) else (chk (d0 + 1)).bind fun k0=>g0 k0)) (fun c0=>(if 65 <= b0.toNat then (if b0.toNat <= 90 then c0 false else (if 97 <= b0.toNat then (if b0.toNat <= 122 then c0 false else (if 48 <= b0.toNat then (if b0.toNat <= 57 then c0 false else (if b0.toNat = 45 then c0 false else c0 (!(decide (b0.toNat = 95))))) else (if b0.toNat = 45 then c0 false else c0 (!(decide (b0.toNat = 95)))))) else (if 48 <= b0.toNat then (if b0.toNat <= 57 then c0 false else (if b0.toNat = 45 then c0 false else c0 (!(decide (b0.toNat = 95))))) else (if b0.toNat = 45 then c0 false else c0 (!(decide (b0.toNat = 95))))))) else (if 97 <= b0.toNat then (if b0.toNat <= 122 then c0 false else (if 48 <= b0.toNat then (if b0.toNat <= 57 then c0 false else (if b0.toNat = 45 then c0 false else c0 (!(decide (b0.toNat = 95))))) else (if b0.toNat = 45 then c0 false else c0 (!(decide (b0.toNat = 95)))))) else (if 48 <= b0.toNat then (if b0.toNat <= 57 then c0 false else (if b0.toNat = 45 then c0 false else c0 (!(decide (b0.toNat = 95))))) else (if b0.toNat = 45 then c0 false else c0 (!(decide (b0.toNat = 95)))))))) else some (.inr ()))
def aM_p (n:Nat) (a0:ByteArray):Option Bool:=
  thn (ak (aM_l1 n a0) n 0) (fun _=>(if 1 <= a0.size then some (decide (a0.size <= 12)) else some false))
theorem aM_c (n:Nat) {L w} (_hL:hl L w) {a0:ByteArray}  {r:Bool} (h:aM_p n a0 = some r) :
 Cl 218 #[.string a0] w (ah w fun _ u=>u = .bool r):=by
 unfold aM_p at h
 refine AF func218 rfl rfl rfl fun _ cs0 hb0=>Ae<|Af rfl<|Aa<|Aj<|Ae<|Af rfl<|Aa<|Av<|tn h fun q1 b1 p0=>MX.lo (α:=Int) (fun g0=>[(0,.string a0),(3,vI g0)]) (fun g0=>[]) (fun g0=>g0) 0 b1 (AB w) ?_
 rintro k1 g0 s1 W0 c0 X0 h
 unfold aM_l1 at h
 try dsimp only at h
 refine Aj<|Ae<|Ac rfl<|Ac rfl<|Ab (BI underlying9 rfl)<|Ab (BS (i:=g0) (j:=((a0.size:Nat):Int)) rfl rfl)<|Aa<|AM rfl h (fun q0 h=>?_) (fun q0 h=>?_)
 refine Ar<|Aj<|Av<|Ae<|Ac rfl<|Ac rfl<|bk h fun b0 g1 h=>?_
 obtain ⟨Z0,d1⟩:=cI g1
 refine Ab (FV.strAt (k:=g0.toNat) underlying9 rfl rfl Z0 d1)<|Af rfl<|Aa<|Aj<|MX.jo (α:=Bool) (fun j0=>[(0,.string a0),(3,vI g0),(44,.bool j0)]) (fun j0=>[]) (fun j0=>j0) c0 h ?_ ?_
 rintro j0 u1 k0 Y0 h
 try dsimp only at h
 refine MX.ifb rfl h (fun s0 h=>?_) (fun s0 h=>?_)
 refine Ae<|Af rfl<|Aa ?_
 have h:=au h p0
 refine Am rfl<|AQ hb0 func218 rfl rfl ?_
 cases h
 exact k0.gv
 refine Ar<|Ax<|Ap<|Ac rfl<|bk h fun j1 c1 h=>Ab (BC (i:=g0) (j:=1) rfl rfl c1)<|Af rfl<|Aa<|W0 j1 k0 (Tt X0 Y0) h
 intro p1 d0 h
 try dsimp only at h
 refine Ap<|Ac rfl<|Ab (FV.geqN (i:=b0.toNat) (j:=65) rfl rfl)<|Ac rfl<|BB (s:=16) rfl h (fun t0 h=>?_) (fun t0 h=>?_)
 refine AE (Ah rfl)<|AE (FV.leqN (i:=b0.toNat) (j:=90) rfl rfl)<|Bd rfl rfl<|Ac rfl<|BB (s:=20) rfl h (fun u0 h=>?_) (fun u0 h=>?_)
 refine Al<|Al<|Al<|RG.un<|RG.un<|Al<|Bd rfl rfl<|Ac rfl<|Al<|Al<|Al<|RG.un<|RG.un<|Al<|Bd rfl rfl<|Ac rfl<|Al<|Al<|Bd rfl rfl<|Ac rfl<|Al<|Al<|Bd rfl rfl<|Ab (Bo rfl)<|Aa<|d0 false c0 (Bw _ _) h
 refine AE (Ah rfl)<|AE (FV.geqN (i:=b0.toNat) (j:=97) rfl rfl)<|AE (Ah rfl)<|BB (s:=23) rfl h (fun v0 h=>?_) (fun v0 h=>?_)
 refine AE (Ah rfl)<|AE (FV.leqN (i:=b0.toNat) (j:=122) rfl rfl)<|AE (BK rfl rfl)<|Bx rfl rfl<|Ac rfl<|BB (s:=28) rfl h (fun x0 h=>?_) (fun x0 h=>?_)
 refine Al<|Al<|Al<|RG.un<|RG.un<|Al<|Bd rfl rfl<|Ac rfl<|Al<|Al<|Bd rfl rfl<|Ac rfl<|Al<|Al<|Bd rfl rfl<|Ab (Bo rfl)<|Aa<|d0 false c0 (Bw _ _) h
 refine AE (Ah rfl)<|AE (FV.geqN (i:=b0.toNat) (j:=48) rfl rfl)<|AE (Ah rfl)<|BB (s:=31) rfl h (fun y0 h=>?_) (fun y0 h=>?_)
 refine AE (Ah rfl)<|AE (FV.leqN (i:=b0.toNat) (j:=57) rfl rfl)<|AE (BK rfl rfl)<|Bx rfl rfl<|Ac rfl<|BB (s:=36) rfl h (fun z0 h=>?_) (fun z0 h=>?_)
 refine Al<|Al<|Bd rfl rfl<|Ac rfl<|Al<|Al<|Bd rfl rfl<|Ab (Bo rfl)<|Aa<|d0 false c0 (Bw _ _) h
 refine AE (Ah rfl)<|AE (BL (i:=b0.toNat) (j:=45) rfl rfl)<|Bx rfl rfl<|Ac rfl<|BB (s:=40) rfl h (fun A0 h=>?_) (fun A0 h=>?_)
 refine Al<|Al<|Bd rfl rfl<|Ab (Bo rfl)<|Aa<|d0 false c0 (Bw _ _) h
 refine AE (Ah rfl)<|AE (BL (i:=b0.toNat) (j:=95) rfl rfl)<|Bx rfl rfl<|Ab (Bo rfl)<|Aa<|d0 (!(decide (b0.toNat = 95))) c0 (Bw _ _) h
 refine Al<|Al<|AE (AO rfl rfl)<|Bx rfl rfl<|Ac rfl<|AE (Ah rfl)<|AE (BL (i:=b0.toNat) (j:=45) rfl rfl)<|Bx rfl rfl<|Ac rfl<|BB (s:=40) rfl h (fun B0 h=>?_) (fun B0 h=>?_)
 refine Al<|Al<|Bd rfl rfl<|Ab (Bo rfl)<|Aa<|d0 false c0 (Bw _ _) h
 refine AE (Ah rfl)<|AE (BL (i:=b0.toNat) (j:=95) rfl rfl)<|Bx rfl rfl<|Ab (Bo rfl)<|Aa<|d0 (!(decide (b0.toNat = 95))) c0 (Bw _ _) h
 refine Al<|Al<|AE (AO rfl rfl)<|Bx rfl rfl<|Ac rfl<|AE (Ah rfl)<|AE (FV.geqN (i:=b0.toNat) (j:=48) rfl rfl)<|AE (Ah rfl)<|BB (s:=31) rfl h (fun C0 h=>?_) (fun C0 h=>?_)
 refine AE (Ah rfl)<|AE (FV.leqN (i:=b0.toNat) (j:=57) rfl rfl)<|AE (BK rfl rfl)<|Bx rfl rfl<|Ac rfl<|BB (s:=36) rfl h (fun D0 h=>?_) (fun D0 h=>?_)
 refine Al<|Al<|Bd rfl rfl<|Ac rfl<|Al<|Al<|Bd rfl rfl<|Ab (Bo rfl)<|Aa<|d0 false c0 (Bw _ _) h
 refine AE (Ah rfl)<|AE (BL (i:=b0.toNat) (j:=45) rfl rfl)<|Bx rfl rfl<|Ac rfl<|BB (s:=40) rfl h (fun E0 h=>?_) (fun E0 h=>?_)
 refine Al<|Al<|Bd rfl rfl<|Ab (Bo rfl)<|Aa<|d0 false c0 (Bw _ _) h
 refine AE (Ah rfl)<|AE (BL (i:=b0.toNat) (j:=95) rfl rfl)<|Bx rfl rfl<|Ab (Bo rfl)<|Aa<|d0 (!(decide (b0.toNat = 95))) c0 (Bw _ _) h
 refine Al<|Al<|AE (AO rfl rfl)<|Bx rfl rfl<|Ac rfl<|AE (Ah rfl)<|AE (BL (i:=b0.toNat) (j:=45) rfl rfl)<|Bx rfl rfl<|Ac rfl<|BB (s:=40) rfl h (fun F0 h=>?_) (fun F0 h=>?_)
 refine Al<|Al<|Bd rfl rfl<|Ab (Bo rfl)<|Aa<|d0 false c0 (Bw _ _) h
 refine AE (Ah rfl)<|AE (BL (i:=b0.toNat) (j:=95) rfl rfl)<|Bx rfl rfl<|Ab (Bo rfl)<|Aa<|d0 (!(decide (b0.toNat = 95))) c0 (Bw _ _) h
 refine Al<|Al<|Bx rfl rfl<|Ac rfl<|AE (Ah rfl)<|AE (FV.geqN (i:=b0.toNat) (j:=97) rfl rfl)<|AE (Ah rfl)<|BB (s:=23) rfl h (fun G0 h=>?_) (fun G0 h=>?_)
 refine AE (Ah rfl)<|AE (FV.leqN (i:=b0.toNat) (j:=122) rfl rfl)<|AE (BK rfl rfl)<|Bx rfl rfl<|Ac rfl<|BB (s:=28) rfl h (fun H0 h=>?_) (fun H0 h=>?_)
 refine Al<|Al<|Al<|RG.un<|RG.un<|Al<|Bd rfl rfl<|Ac rfl<|Al<|Al<|Bd rfl rfl<|Ac rfl<|Al<|Al<|Bd rfl rfl<|Ab (Bo rfl)<|Aa<|d0 false c0 (Bw _ _) h
 refine AE (Ah rfl)<|AE (FV.geqN (i:=b0.toNat) (j:=48) rfl rfl)<|AE (Ah rfl)<|BB (s:=31) rfl h (fun I0 h=>?_) (fun I0 h=>?_)
 refine AE (Ah rfl)<|AE (FV.leqN (i:=b0.toNat) (j:=57) rfl rfl)<|AE (BK rfl rfl)<|Bx rfl rfl<|Ac rfl<|BB (s:=36) rfl h (fun J0 h=>?_) (fun J0 h=>?_)
 refine Al<|Al<|Bd rfl rfl<|Ac rfl<|Al<|Al<|Bd rfl rfl<|Ab (Bo rfl)<|Aa<|d0 false c0 (Bw _ _) h
 refine AE (Ah rfl)<|AE (BL (i:=b0.toNat) (j:=45) rfl rfl)<|Bx rfl rfl<|Ac rfl<|BB (s:=40) rfl h (fun K0 h=>?_) (fun K0 h=>?_)
 refine Al<|Al<|Bd rfl rfl<|Ab (Bo rfl)<|Aa<|d0 false c0 (Bw _ _) h
 refine AE (Ah rfl)<|AE (BL (i:=b0.toNat) (j:=95) rfl rfl)<|Bx rfl rfl<|Ab (Bo rfl)<|Aa<|d0 (!(decide (b0.toNat = 95))) c0 (Bw _ _) h
 refine Al<|Al<|AE (AO rfl rfl)<|Bx rfl rfl<|Ac rfl<|AE (Ah rfl)<|AE (BL (i:=b0.toNat) (j:=45) rfl rfl)<|Bx rfl rfl<|Ac rfl<|BB (s:=40) rfl h (fun M0 h=>?_) (fun M0 h=>?_)
 refine Al<|Al<|Bd rfl rfl<|Ab (Bo rfl)<|Aa<|d0 false c0 (Bw _ _) h
 refine AE (Ah rfl)<|AE (BL (i:=b0.toNat) (j:=95) rfl rfl)<|Bx rfl rfl<|Ab (Bo rfl)<|Aa<|d0 (!(decide (b0.toNat = 95))) c0 (Bw _ _) h
 refine Al<|Al<|AE (AO rfl rfl)<|Bx rfl rfl<|Ac rfl<|AE (Ah rfl)<|AE (FV.geqN (i:=b0.toNat) (j:=48) rfl rfl)<|AE (Ah rfl)<|BB (s:=31) rfl h (fun P0 h=>?_) (fun P0 h=>?_)
 refine AE (Ah rfl)<|AE (FV.leqN (i:=b0.toNat) (j:=57) rfl rfl)<|AE (BK rfl rfl)<|Bx rfl rfl<|Ac rfl<|BB (s:=36) rfl h (fun Q0 h=>?_) (fun Q0 h=>?_)
 refine Al<|Al<|Bd rfl rfl<|Ac rfl<|Al<|Al<|Bd rfl rfl<|Ab (Bo rfl)<|Aa<|d0 false c0 (Bw _ _) h
 refine AE (Ah rfl)<|AE (BL (i:=b0.toNat) (j:=45) rfl rfl)<|Bx rfl rfl<|Ac rfl<|BB (s:=40) rfl h (fun R0 h=>?_) (fun R0 h=>?_)
 refine Al<|Al<|Bd rfl rfl<|Ab (Bo rfl)<|Aa<|d0 false c0 (Bw _ _) h
 refine AE (Ah rfl)<|AE (BL (i:=b0.toNat) (j:=95) rfl rfl)<|Bx rfl rfl<|Ab (Bo rfl)<|Aa<|d0 (!(decide (b0.toNat = 95))) c0 (Bw _ _) h
 refine Al<|Al<|AE (AO rfl rfl)<|Bx rfl rfl<|Ac rfl<|AE (Ah rfl)<|AE (BL (i:=b0.toNat) (j:=45) rfl rfl)<|Bx rfl rfl<|Ac rfl<|BB (s:=40) rfl h (fun U0 h=>?_) (fun U0 h=>?_)
 refine Al<|Al<|Bd rfl rfl<|Ab (Bo rfl)<|Aa<|d0 false c0 (Bw _ _) h
 refine AE (Ah rfl)<|AE (BL (i:=b0.toNat) (j:=95) rfl rfl)<|Bx rfl rfl<|Ab (Bo rfl)<|Aa<|d0 (!(decide (b0.toNat = 95))) c0 (Bw _ _) h
 refine AT rfl ?_
 have h:=ay h p0
 try dsimp only at h
 refine Ae<|Ac rfl<|Ab (BI underlying9 rfl)<|Ab (FV.geqN (i:=a0.size) (j:=1) rfl rfl)<|Ac rfl<|BB (s:=48) rfl h (fun V0 h=>?_) (fun V0 h=>?_)
 refine AE (Ah rfl)<|AE (BI underlying9 rfl)<|AE (FV.leqN (i:=a0.size) (j:=12) rfl rfl)<|Bd rfl rfl<|Af rfl<|Aa<|Am rfl<|AQ hb0 func218 rfl rfl ?_
 cases h
 exact c0.gv
 refine Al<|Al<|Al<|Bx rfl rfl<|Af rfl<|Aa<|Am rfl<|AQ hb0 func218 rfl rfl ?_
 cases h
 exact c0.gv
def am_l1 (_n:Nat) (a0:List Int) (a2:Int) (d0:Nat -> Option (Bool ⊕ Unit)):Nat -> Option (Bool ⊕ Unit)
  | b0=>(if b0 < a0.length then (a0[b0]?).bind fun c0=>(if c0 < 0 then some (.inl false) else (if a2 < c0 then some (.inl false) else d0 (b0 + 1))) else some (.inr ()))
def am_p (n:Nat) (a0:List Int) (a1:Int) (a2:Int):Option Bool:=
  thn (ak (am_l1 n a0 a2) n 0) (fun _=>some (decide (((a0.length:Nat):Int) = a1)))
theorem am_c (n:Nat) {L w} (_hL:hl L w) {a0:List Int} {v0_0:Value} (h0_0:Rep.R w L [v0_0] a0) {a1:Int} {a2:Int}  {r:Bool} (h:am_p n a0 a1 a2 = some r) :
 Cl 219 #[v0_0,vI a1,vI a2] w (ah w fun _ u=>u = .bool r):=by
 unfold am_p at h
 refine AF func219 rfl rfl rfl fun _ cs0 hb0=>Ae<|Af rfl<|Aa<|Aj<|Ae<|Af rfl<|Aa<|Av<|tn h fun H0 A0 g0=>MX.lo (α:=Nat) (fun b0=>[(0,v0_0),(1,vI a1),(2,vI a2),(7,vI ((b0:Nat):Int))]) (fun b0=>[]) (fun b0=>b0) 0 A0 (AB w) ?_
 rintro E0 b0 I0 x0 c0 y0 h
 unfold am_l1 at h
 try dsimp only at h
 refine Aj<|Ae<|Ac rfl<|Ac rfl ?_
 have d0:=AS h0_0 c0
 have G0:a0.length <= 281474976710656:=AX d0
 refine Ab (Be (xs:=a0) underlying38 rfl d0)<|Ab (Bq (i:=b0) (j:=a0.length) rfl rfl)<|Aa<|AM rfl h (fun s0 h=>?_) (fun s0 h=>?_)
 refine Ar<|Aj<|Av<|Ae<|Ac rfl<|Ac rfl<|bk h fun j0 C0 h=>?_
 obtain ⟨D0,F0,k0,p0,v0,B0,q0⟩:=Bn d0 C0
 have z0:v0 = [vI j0]:=B0; subst z0
 refine Ab (Bc 1 b0 rfl k0 rfl rfl p0)<|AN rfl (q0 0 _ rfl)<|Ab (BS (i:=j0) (j:=0) rfl rfl)<|Ac rfl<|BB (s:=19) rfl h (fun t0 h=>?_) (fun t0 h=>?_)
 refine Al<|Al<|Al<|Al<|Al<|Al<|Bd rfl rfl<|Aa<|Br rfl<|Ae<|Af rfl<|Aa ?_
 have h:=au h g0
 refine Am rfl<|AQ hb0 func219 rfl rfl ?_
 cases h
 exact c0.gv
 refine AE (Ah rfl)<|AE (Ah rfl)<|AE (Bc 1 b0 rfl k0 rfl rfl p0)<|AE (AL rfl (q0 0 _ rfl))<|AE (Ah rfl)<|AE (FV.gtr (i:=j0) (j:=a2) rfl rfl)<|Bx rfl rfl<|Aa<|AM rfl h (fun u0 h=>?_) (fun u0 h=>?_)
 refine Ae<|Af rfl<|Aa ?_
 have h:=au h g0
 refine Am rfl<|AQ hb0 func219 rfl rfl ?_
 cases h
 exact c0.gv
 refine Ar<|Ax<|Ap<|Ac rfl<|Ab (Bf (i:=b0) (j:=1) rfl rfl (by omega))<|Af rfl<|Aa<|x0 (b0 + 1) c0 y0 h
 refine AT rfl ?_
 have h:=ay h g0
 try dsimp only at h
 refine Ae<|Ac rfl<|Ab (Be (xs:=a0) underlying38 rfl d0)<|Ac rfl<|Ab (FV.eql (i:=((a0.length:Nat):Int)) (j:=a1) rfl rfl)<|Af rfl<|Aa<|Am rfl<|AQ hb0 func219 rfl rfl ?_
 cases h
 exact c0.gv
def bw_p (n:Nat) (a0:Td) (a1:Tc):Option Bool:=
  (aM_p n a1.fw).bind fun b0=>(if b0 = true then (if a1.fv < 0 then some false else (if 1000000000 < a1.fv then some false else (am_p n a1.fe a0.fe a1.fv).bind fun c0=>(if c0 = true then (am_p n a1.fC a0.fc (1000000000:Int)).bind fun d0=>(if d0 = true then (am_p n a1.fB a0.fh (63:Int)).bind fun g0=>(if g0 = true then (if a1.fq = true then (if a1.fv = 0 then (am_p n a1.fC a0.fc (0:Int)).bind fun j0=>(if j0 = true then (am_p n a1.fB a0.fh (0:Int)).bind fun k0=>some k0 else some false) else some false) else some true) else some false) else some false) else some false))) else some false)
theorem bw_c (n:Nat) {L w} (hL:hl L w) (a0:Td) {v0_3:Value} (_h0_3:Rep.R w L [v0_3] a0.ft) (a1:Tc) {v1_2:Value} (h1_2:Rep.R w L [v1_2] a1.fe) {v1_3:Value} (h1_3:Rep.R w L [v1_3] a1.fC) {v1_4:Value} (h1_4:Rep.R w L [v1_4] a1.fB)  {r:Bool} (h:bw_p n a0 a1 = some r) :
 Cl 193 #[.agg #[vI a0.fe,vI a0.fc,vI a0.fh,v0_3],.agg #[.string a1.fw,vI a1.fv,v1_2,v1_3,v1_4,.bool a1.fq]] w (ah w fun _ u=>u = .bool r):=by
 unfold bw_p at h
 refine AF func193 rfl rfl rfl fun _ cs0 hb0=>Ae<|RG.bx (AB w) rfl rfl fun Q0 J0 v0 M0=>RG.bx v0 rfl rfl fun R0 K0 b0 P0=>Af rfl<|Aa<|Aj<|Ae<|Bb 0 rfl<|AN rfl ((b0.memA .hd) 0 _ rfl)<|bk h fun D0 x0 h=>Bh (.bool D0) (bd 218) rfl (e1 rfl) (fun p q=>aM_c n (b0.hL0 hL q)  x0) rfl<|Ab (Bo rfl)<|Ac rfl<|RG.ifnb (s:=9) rfl h (fun c0 h=>?_) (fun c0 h=>?_)
 refine RG.fg 1 rfl<|AE (AL rfl ((b0.memA .hd) 1 _ rfl))<|AE (BS (i:=a1.fv) (j:=0) rfl rfl)<|Bx rfl rfl<|Ac rfl<|BB (s:=14) rfl h (fun d0 h=>?_) (fun d0 h=>?_)
 refine Al<|Al<|Al<|Bd rfl rfl<|Aa<|Br rfl<|Ae<|Af rfl<|Aa<|Am rfl<|AQ hb0 func193 rfl rfl ?_
 cases h
 exact b0.gv
 refine RG.fg 1 rfl<|AE (AL rfl ((b0.memA .hd) 1 _ rfl))<|AE (FV.gtr (i:=a1.fv) (j:=1000000000) rfl rfl)<|Bx rfl rfl<|Aa<|AM rfl h (fun g0 h=>?_) (fun g0 h=>?_)
 refine Ae<|Af rfl<|Aa<|Am rfl<|AQ hb0 func193 rfl rfl ?_
 cases h
 exact b0.gv
 refine Ar<|Aj<|Ae<|Bb 2 rfl<|AN rfl ((b0.memA .hd) 2 _ rfl)<|Bb 0 rfl<|AN rfl ((b0.memA .t1) 0 _ rfl)<|Bb 1 rfl<|AN rfl ((b0.memA .hd) 1 _ rfl)<|bk h fun E0 y0 h=>Bh (.bool E0) (bd 219) rfl (e3 rfl rfl rfl) (fun p q=>am_c n (b0.hL0 hL q) (b0.k0 h1_2 q) y0) rfl<|Ab (Bo rfl)<|Ac rfl<|RG.ifnb (s:=27) rfl h (fun j0 h=>?_) (fun j0 h=>?_)
 refine RG.fg 3 rfl<|AE (AL rfl ((b0.memA .hd) 3 _ rfl))<|RG.fg 1 rfl<|AE (AL rfl ((b0.memA .t1) 1 _ rfl))<|bk h fun F0 z0 h=>RG.callq' (v:=.bool F0) (fst:=[]) (cap:=[]) (.yes rfl rfl) (bd 219) rfl (e3 rfl rfl rfl) (fun p q=>am_c n (b0.hL0 hL q) (b0.k0 h1_3 q) z0) rfl<|AE (Bo rfl)<|Bx rfl rfl<|Ac rfl<|RG.ifnb (s:=35) rfl h (fun p0 h=>?_) (fun p0 h=>?_)
 refine RG.fg 4 rfl<|AE (AL rfl ((b0.memA .hd) 4 _ rfl))<|RG.fg 2 rfl<|AE (AL rfl ((b0.memA .t1) 2 _ rfl))<|bk h fun G0 A0 h=>RG.callq' (v:=.bool G0) (fst:=[]) (cap:=[]) (.yes rfl rfl) (bd 219) rfl (e3 rfl rfl rfl) (fun p q=>am_c n (b0.hL0 hL q) (b0.k0 h1_4 q) A0) rfl<|AE (Bo rfl)<|Bx rfl rfl<|Aa<|MX.ifnb rfl h (fun q0 h=>?_) (fun q0 h=>?_)
 refine Ar<|Aj<|Ae<|Bb 5 rfl<|AN rfl ((b0.memA .hd) 5 _ rfl)<|Aa<|MX.ifb rfl h (fun s0 h=>?_) (fun s0 h=>?_)
 refine Ae<|Bb 1 rfl<|AN rfl ((b0.memA .hd) 1 _ rfl)<|Ab (FV.eql (i:=a1.fv) (j:=0) rfl rfl)<|Ac rfl<|BB (s:=48) rfl h (fun t0 h=>?_) (fun t0 h=>?_)
 refine RG.fg 3 rfl<|AE (AL rfl ((b0.memA .hd) 3 _ rfl))<|RG.fg 1 rfl<|AE (AL rfl ((b0.memA .t1) 1 _ rfl))<|bk h fun H0 B0 h=>RG.callq' (v:=.bool H0) (fst:=[]) (cap:=[]) (.yes rfl rfl) (bd 219) rfl (e3 rfl rfl rfl) (fun p q=>am_c n (b0.hL0 hL q) (b0.k0 h1_3 q) B0) rfl<|Bd rfl rfl<|Ac rfl<|RG.ifb (s:=55) rfl h (fun u0 h=>?_) (fun u0 h=>?_)
 refine RG.fg 4 rfl<|AE (AL rfl ((b0.memA .hd) 4 _ rfl))<|RG.fg 2 rfl<|AE (AL rfl ((b0.memA .t1) 2 _ rfl))<|bk h fun I0 C0 h=>RG.callq' (v:=.bool I0) (fst:=[]) (cap:=[]) (.yes rfl rfl) (bd 219) rfl (e3 rfl rfl rfl) (fun p q=>am_c n (b0.hL0 hL q) (b0.k0 h1_4 q) C0) rfl<|Bd rfl rfl<|Af rfl<|Aa<|Am rfl<|AQ hb0 func193 rfl rfl ?_
 cases h
 exact b0.gv
 refine Al<|Al<|Al<|Al<|Al<|Bx rfl rfl<|Af rfl<|Aa<|Am rfl<|AQ hb0 func193 rfl rfl ?_
 cases h
 exact b0.gv
 refine Al<|Al<|Al<|Al<|Al<|Bx rfl rfl<|Ac rfl<|Al<|Al<|Al<|Al<|Al<|Bx rfl rfl<|Af rfl<|Aa<|Am rfl<|AQ hb0 func193 rfl rfl ?_
 cases h
 exact b0.gv
 refine Ar<|Ae<|Af rfl<|Aa<|Am rfl<|AQ hb0 func193 rfl rfl ?_
 cases h
 exact b0.gv
 refine Ae<|Af rfl<|Aa<|Am rfl<|AQ hb0 func193 rfl rfl ?_
 cases h
 exact b0.gv
 refine Al<|Al<|Al<|Al<|Al<|Al<|Bd rfl rfl<|Aa<|Br rfl<|Ae<|Af rfl<|Aa<|Am rfl<|AQ hb0 func193 rfl rfl ?_
 cases h
 exact b0.gv
 refine Al<|Al<|Al<|Al<|Al<|Al<|Bd rfl rfl<|Ac rfl<|Al<|Al<|Al<|Al<|Al<|Al<|Bd rfl rfl<|Aa<|Br rfl<|Ae<|Af rfl<|Aa<|Am rfl<|AQ hb0 func193 rfl rfl ?_
 cases h
 exact b0.gv
 refine Al<|Al<|Al<|Bd rfl rfl<|Ac rfl<|Al<|Al<|Al<|Bd rfl rfl<|Aa<|Br rfl<|Ae<|Af rfl<|Aa<|Am rfl<|AQ hb0 func193 rfl rfl ?_
 cases h
 exact b0.gv

def ah_l1 (_n:Nat) (j0:Nat) (a0:Td) (d0:Tc) (c0:Nat -> Option ((Int ⊕ Unit) ⊕ Unit)):Nat -> Option ((Int ⊕ Unit) ⊕ Unit)
  | b0=>(if b0 < j0 then (a0.ft[b0]?).bind fun g0=>(if g0.fw = d0.fw then some (.inl (.inl (161:Int))) else (if g0.fq = true then (if d0.fq = true then c0 (b0 + 1) else some (.inl (.inl (161:Int)))) else c0 (b0 + 1))) else some (.inr ()))
def ah_l2 (n:Nat) (a0:Td) (d0:Nat -> Option (Int ⊕ Unit)):Nat -> Option (Int ⊕ Unit)
  | b0=>(if b0 < a0.ft.length then (a0.ft[b0]?).bind fun c0=>(bw_p n a0 c0).bind fun g0=>(if g0 = true then thn (ak (ah_l1 n b0 a0 c0) n 0) (fun _=>d0 (b0 + 1)) else some (.inl (161:Int))) else some (.inr ()))
def ah_p (n:Nat) (a0:Td):Option Int:=
  jn (fun c0=>(if c0 = true then some (161:Int) else (if a0.ft.length < 1 then some (161:Int) else (if 64 < a0.ft.length then some (161:Int) else (a0.ft[0]?).bind fun d0=>(if d0.fq = true then some (161:Int) else thn (ak (ah_l2 n a0) n 0) (fun _=>some (0:Int))))))) (fun b0=>(if a0.fe < 0 then b0 true else (if 6 < a0.fe then b0 true else (if a0.fc < 0 then b0 true else (if 12 < a0.fc then b0 true else (if a0.fh < 0 then b0 true else b0 (decide (3 < a0.fh))))))))
theorem ah_c (n:Nat) {L w} (hL:hl L w) (a0:Td) {v0_3:Value} (h0_3:Rep.R w L [v0_3] a0.ft)  {r:Int} (h:ah_p n a0 = some r) :
 Cl 154 #[.agg #[vI a0.fe,vI a0.fc,vI a0.fh,v0_3]] w (ah w fun _ u=>u = vI r):=by
 unfold ah_p at h
 refine AF func154 rfl rfl rfl fun _ cs0 hb0=>Ae<|RG.bx (AB w) rfl rfl fun Z2 v0 d0 t2=>Af rfl<|Aa<|Aj<|Aj<|MX.jo (α:=Bool) (fun y0=>[(1,vP v0),(32,.bool y0)]) (fun y0=>[.cells v0 [vI a0.fe,vI a0.fc,vI a0.fh,v0_3] 37]) (fun y0=>y0) d0 h ?_ ?_
 rintro y0 c3 s0 u2 h
 try dsimp only at h
 refine MX.ifb rfl h (fun V0 h=>?_) (fun V0 h=>?_)
 refine Ae<|Af rfl<|Aa<|Am rfl<|AQ hb0 func154 rfl rfl ?_
 cases h
 exact s0.gv
 refine Ar<|Aj<|Ae<|Bb 3 rfl<|AN rfl ((s0.memA .hd) 3 _ rfl) ?_
 have A0:=AS h0_3 s0
 have v2:a0.ft.length <= 281474976710656:=AX A0
 refine Ab (Be (xs:=a0.ft) underlying35 rfl A0)<|Ab (Bq (i:=a0.ft.length) (j:=1) rfl rfl)<|Ac rfl<|BB (s:=37) rfl h (fun j1 h=>?_) (fun j1 h=>?_)
 refine Al<|Al<|Al<|Al<|Bd rfl rfl<|Ac rfl<|Al<|Al<|Al<|Al<|Al<|Bd rfl rfl<|Aa<|Br rfl<|Ae<|Af rfl<|Aa<|Am rfl<|AQ hb0 func154 rfl rfl ?_
 cases h
 exact s0.gv
 refine RG.fg 3 rfl<|AE (AL rfl ((s0.memA .hd) 3 _ rfl))<|AE (Be (xs:=a0.ft) underlying35 rfl A0)<|AE (FV.gtrN (i:=a0.ft.length) (j:=64) rfl rfl)<|Bx rfl rfl<|Ac rfl<|BB (s:=43) rfl h (fun k1 h=>?_) (fun k1 h=>?_)
 refine Al<|Al<|Al<|Al<|Al<|Bd rfl rfl<|Aa<|Br rfl<|Ae<|Af rfl<|Aa<|Am rfl<|AQ hb0 func154 rfl rfl ?_
 cases h
 exact s0.gv
 refine RG.fg 3 rfl<|AE (AL rfl ((s0.memA .hd) 3 _ rfl))<|bk h fun j3 M1 h=>?_
 obtain ⟨X1,j2,v1,y1,s2,J1,A1⟩:=Bn A0 M1
 obtain ⟨W2,X2,Y2,rfl,D2,E2,F2⟩:=aM J1
 refine AE (Bc 6 0 rfl v1 rfl rfl y1)<|RG.fg 5 rfl<|AE (AL rfl (A1 5 _ rfl))<|Bx rfl rfl<|Aa<|MX.ifb rfl h (fun p1 h=>?_) (fun p1 h=>?_)
 refine Ae<|Af rfl<|Aa<|Am rfl<|AQ hb0 func154 rfl rfl ?_
 cases h
 exact s0.gv
 refine Ar<|Aj<|Ae<|Af rfl<|Aa<|Av<|tn h fun G2 B1 z0=>MX.lo (α:=Nat) (fun g0=>[(1,vP v0),(3,vI ((g0:Nat):Int))]) (fun g0=>[.cells v0 [vI a0.fe,vI a0.fc,vI a0.fh,v0_3] 37]) (fun g0=>g0) 0 B1 s0 ?_
 rintro Y1 g0 b3 q1 j0 s1 h
 unfold ah_l2 at h
 try dsimp only at h
 refine Aj<|Ae<|Ac rfl<|Bb 3 rfl<|AN rfl ((j0.memA .hd) 3 _ rfl) ?_
 have I0:=AS h0_3 j0
 refine Ab (Be (xs:=a0.ft) underlying35 rfl I0)<|Ab (Bq (i:=g0) (j:=a0.ft.length) rfl rfl)<|Aa<|AM rfl h (fun Q0 h=>?_) (fun Q0 h=>?_)
 refine Ar<|Aj<|Av<|Aj<|Aj<|du 8 fun t0 u0=>Rx 0 192 t0 rfl u0 (AI rfl (j0.memA .hd))<|Rv 1 t0 rfl u0 (fun _=>Bl 3 rfl)<|Rx 2 240 t0 rfl u0 (AL rfl ((j0.memA .hd) 3 _ rfl))<|Rv 3 t0 rfl u0 (fun _=>Ah rfl)<|bk h fun Q1 P0 h=>?_
 obtain ⟨U1,c2,u1,x1,k2,D1,z1⟩:=Bn I0 P0
 obtain ⟨I2,J2,K2,rfl,E1,F1,G1⟩:=aM D1
 refine Rv 4 t0 rfl u0 (fun _=>Bc 6 g0 rfl u1 rfl rfl x1)<|Rx 5 192 t0 rfl u0 (AI rfl z1)<|bk h fun R1 P1 h=>RD.cq 6 127 128 (.bool R1) t0 rfl u0 (bd 193) rfl (e2 rfl rfl) (fun p q=>bw_c n (j0.hL0 hL q) a0 (j0.k0 h0_3 q) Q1 (j0.kd E1 q) (j0.kd F1 q) (j0.kd G1 q) P1) rfl<|Rv 7 t0 rfl u0 (fun _=>Bo rfl)<|AP (dk t0)<|MX.ifnb rfl h (fun R0 h=>?_) (fun R0 h=>?_)
 refine Ar<|Ae<|Af rfl<|Aa<|Av<|tn h fun H2 C1 C0=>MX.lo (α:=Nat) (fun p0=>[(1,vP v0),(3,vI ((g0:Nat):Int)),(4,vI ((p0:Nat):Int))]) (fun p0=>[.cells v0 [vI a0.fe,vI a0.fc,vI a0.fh,v0_3] 37]) (fun p0=>p0) 0 C1 j0 ?_
 rintro Z1 p0 d3 D0 q0 B0 h
 unfold ah_l1 at h
 try dsimp only at h
 refine Aj<|Ae<|Ac rfl<|Ac rfl<|Ab (Bq (i:=p0) (j:=g0) rfl rfl)<|Aa<|AM rfl h (fun U0 h=>?_) (fun U0 h=>?_)
 refine Ar<|Aj<|Av<|Aj<|du 30 fun b0 c0=>Rv 0 b0 rfl c0 (fun _=>Bl 3 rfl)<|Rx 1 1073737784 b0 rfl c0 (AL rfl ((q0.memA .hd) 3 _ rfl))<|Rv 2 b0 rfl c0 (fun _=>Ah rfl)<|bk h fun g3 K1 h=>?_
 have K0:=AS h0_3 q0
 obtain ⟨V1,d2,E0,G0,p2,H1,J0⟩:=Bn K0 K1
 obtain ⟨M2,P2,Q2,rfl,x2,y2,z2⟩:=aM H1
 refine Rv 3 b0 rfl c0 (fun _=>Bc 6 p0 rfl E0 rfl rfl G0)<|Rv 4 b0 rfl c0 (fun _=>Bl 0 rfl)<|Rx 5 1073737728 b0 rfl c0 (AL rfl (J0 0 _ rfl))<|Rv 6 b0 rfl c0 (fun _=>Bl 3 rfl)<|Rx 7 1073741312 b0 rfl c0 (AL rfl ((q0.memA .hd) 3 _ rfl))<|Rv 8 b0 rfl c0 (fun _=>Ah rfl) ?_
 obtain ⟨W1,g2,F0,H0,q2,I1,M0⟩:=Bn K0 P0
 obtain ⟨R2,U2,V2,rfl,A2,B2,C2⟩:=aM I1
 refine Rv 9 b0 rfl c0 (fun _=>Bc 6 g0 rfl F0 rfl rfl H0)<|Rv 10 b0 rfl c0 (fun _=>Bl 0 rfl)<|Rx 11 1073737728 b0 rfl c0 (AL rfl (M0 0 _ rfl))<|Rv 12 b0 rfl c0 (fun _=>FV.eqlS rfl rfl)<|Rv 13 b0 rfl c0 (fun _=>Ah rfl)<|RD.ifd (s:=83) rfl h (fun W0 h=>?_) (fun W0 h=>?_)
 refine Bj 536870911 1 [(14,84),(15,85),(16,86),(17,87),(18,88),(19,89),(20,90),(21,91),(22,92),(23,93),(24,94),(25,95),(26,96),(27,97),(28,98)] (F:=[(83,true)]) (U:=[]) b0 c0 (.cons rfl .nil) .nil ?_
 dsimp only [aB,List.map]
 refine Rv 29 b0 rfl c0 (fun _=>BK rfl rfl)<|AP (dk b0)<|Br rfl<|Ae<|Af rfl<|Aa ?_
 have h:=au h C0
 have h:=au h z0
 refine Am rfl<|AQ hb0 func154 rfl rfl ?_
 cases h
 exact q0.gv
 refine BJ 14 32767 b0 rfl c0 (.yes rfl rfl) (fun _=>Bl 3 rfl) rfl<|RD.val (i:=15) (m' :=65535) (W:=1073610752) (tk b0) rfl c0 (.yes rfl rfl) (AL rfl ((q0.memA .hd) 3 _ rfl)) rfl<|BJ 16 131071 b0 rfl c0 (.yes rfl rfl) (fun _=>Ah rfl) rfl<|BJ 17 262143 b0 rfl c0 (.yes rfl rfl) (fun _=>Bc 6 p0 rfl E0 rfl rfl G0) rfl<|BJ 18 524287 b0 rfl c0 (.yes rfl rfl) (fun _=>Bl 5 rfl) rfl<|RD.val (i:=19) (m' :=1048575) (W:=1072693248) (tk b0) rfl c0 (.yes rfl rfl) (AL rfl (J0 5 _ rfl)) rfl<|BJ 20 2097151 b0 rfl c0 (.yes rfl rfl) (fun _=>Ah rfl) rfl<|RD.ifb (s:=90) rfl h (fun X0 h=>?_) (fun X0 h=>?_)
 refine BJ 21 4194303 b0 rfl c0 (.yes rfl rfl) (fun _=>Bl 3 rfl) rfl<|RD.val (i:=22) (m' :=8388607) (W:=1056964608) (tk b0) rfl c0 (.yes rfl rfl) (AL rfl ((q0.memA .hd) 3 _ rfl)) rfl<|BJ 23 16777215 b0 rfl c0 (.yes rfl rfl) (fun _=>Ah rfl) rfl<|BJ 24 33554431 b0 rfl c0 (.yes rfl rfl) (fun _=>Bc 6 g0 rfl F0 rfl rfl H0) rfl<|BJ 25 67108863 b0 rfl c0 (.yes rfl rfl) (fun _=>Bl 5 rfl) rfl<|RD.val (i:=26) (m' :=134217727) (W:=939524096) (tk b0) rfl c0 (.yes rfl rfl) (AL rfl (M0 5 _ rfl)) rfl<|BJ 27 268435455 b0 rfl c0 (.yes rfl rfl) (fun _=>Bo rfl) rfl<|BJ 28 536870911 b0 rfl c0 (.yes rfl rfl) (fun _=>BK rfl rfl) rfl<|Rv 29 b0 rfl c0 (fun _=>AO rfl rfl)<|AP (dk b0)<|MX.ifnb rfl h (fun Y0 h=>?_) (fun Y0 h=>?_)
 refine Ar<|Ax<|Ap<|Ac rfl<|Ab (Bf (i:=p0) (j:=1) rfl rfl (by omega))<|Af rfl<|Aa<|D0 (p0 + 1) q0 B0 h
 refine Ae<|Af rfl<|Aa ?_
 have h:=au h C0
 have h:=au h z0
 refine Am rfl<|AQ hb0 func154 rfl rfl ?_
 cases h
 exact q0.gv
 refine Bj 268435455 2 [(21,91),(22,92),(23,93),(24,94),(25,95),(26,96),(27,97)] (F:=[(90,false)]) (U:=[]) b0 c0 (.cons rfl .nil) .nil ?_
 dsimp only [aB,List.map]
 refine BJ 28 536870911 b0 rfl c0 (.yes rfl rfl) (fun _=>AO rfl rfl) rfl<|Rv 29 b0 rfl c0 (fun _=>AO rfl rfl)<|AP (dk b0)<|By rfl<|Ar<|Ax<|Ap<|Ac rfl<|Ab (Bf (i:=p0) (j:=1) rfl rfl (by omega))<|Af rfl<|Aa<|D0 (p0 + 1) q0 B0 h
 refine AT rfl ?_
 have h:=ay h C0
 try dsimp only at h
 refine Ax<|Ap<|Ac rfl<|Ab (Bf (i:=g0) (j:=1) rfl rfl (by omega))<|Af rfl<|Aa<|q1 (g0 + 1) q0 (Tt s1 B0) h
 refine Ae<|Af rfl<|Aa ?_
 have h:=au h z0
 refine Am rfl<|AQ hb0 func154 rfl rfl ?_
 cases h
 exact j0.gv
 refine AT rfl ?_
 have h:=ay h z0
 try dsimp only at h
 refine Ae<|Af rfl<|Aa<|Am rfl<|AQ hb0 func154 rfl rfl ?_
 cases h
 exact j0.gv
 intro b2 x0 h
 try dsimp only at h
 refine Ap<|Bb 0 rfl<|AN rfl ((d0.memA .hd) 0 _ rfl)<|Ab (BS (i:=a0.fe) (j:=0) rfl rfl)<|Ac rfl<|BB (s:=8) rfl h (fun Z0 h=>?_) (fun Z0 h=>?_)
 refine Al<|Al<|Al<|Bd rfl rfl<|Ac rfl<|Al<|Al<|Al<|Bd rfl rfl<|Ac rfl<|Al<|Al<|Al<|Bd rfl rfl<|Ac rfl<|Al<|Al<|Al<|Bd rfl rfl<|Ac rfl<|Al<|Al<|Al<|Bd rfl rfl<|Aa<|x0 true d0 (Bw _ _) h
 refine RG.fg 0 rfl<|AE (AL rfl ((d0.memA .hd) 0 _ rfl))<|AE (FV.gtr (i:=a0.fe) (j:=6) rfl rfl)<|Bx rfl rfl<|Ac rfl<|BB (s:=13) rfl h (fun b1 h=>?_) (fun b1 h=>?_)
 refine Al<|Al<|Al<|Bd rfl rfl<|Ac rfl<|Al<|Al<|Al<|Bd rfl rfl<|Ac rfl<|Al<|Al<|Al<|Bd rfl rfl<|Ac rfl<|Al<|Al<|Al<|Bd rfl rfl<|Aa<|x0 true d0 (Bw _ _) h
 refine RG.fg 1 rfl<|AE (AL rfl ((d0.memA .hd) 1 _ rfl))<|AE (BS (i:=a0.fc) (j:=0) rfl rfl)<|Bx rfl rfl<|Ac rfl<|BB (s:=18) rfl h (fun c1 h=>?_) (fun c1 h=>?_)
 refine Al<|Al<|Al<|Bd rfl rfl<|Ac rfl<|Al<|Al<|Al<|Bd rfl rfl<|Ac rfl<|Al<|Al<|Al<|Bd rfl rfl<|Aa<|x0 true d0 (Bw _ _) h
 refine RG.fg 1 rfl<|AE (AL rfl ((d0.memA .hd) 1 _ rfl))<|AE (FV.gtr (i:=a0.fc) (j:=12) rfl rfl)<|Bx rfl rfl<|Ac rfl<|BB (s:=23) rfl h (fun d1 h=>?_) (fun d1 h=>?_)
 refine Al<|Al<|Al<|Bd rfl rfl<|Ac rfl<|Al<|Al<|Al<|Bd rfl rfl<|Aa<|x0 true d0 (Bw _ _) h
 refine RG.fg 2 rfl<|AE (AL rfl ((d0.memA .hd) 2 _ rfl))<|AE (BS (i:=a0.fh) (j:=0) rfl rfl)<|Bx rfl rfl<|Ac rfl<|BB (s:=28) rfl h (fun g1 h=>?_) (fun g1 h=>?_)
 refine Al<|Al<|Al<|Bd rfl rfl<|Aa<|x0 true d0 (Bw _ _) h
 refine RG.fg 2 rfl<|AE (AL rfl ((d0.memA .hd) 2 _ rfl))<|AE (FV.gtr (i:=a0.fh) (j:=3) rfl rfl)<|Bx rfl rfl<|Aa<|x0 (decide (3 < a0.fh)) d0 (Bw _ _) h
def bx_p (n:Nat) (a0:Td) (a1:Int):Option Int:=
  (ah_p n a0).bind fun b0=>(if b0 = 0 then (if a1 < 1 then some (2:Int) else (if 8 < a1 then some (2:Int) else some (0:Int))) else some b0)
theorem bx_c (n:Nat) {L w} (hL:hl L w) (a0:Td) {v0_3:Value} (h0_3:Rep.R w L [v0_3] a0.ft) {a1:Int}  {r:Int} (h:bx_p n a0 a1 = some r) :
 Cl 123 #[.agg #[vI a0.fe,vI a0.fc,vI a0.fh,v0_3],vI a1] w (ah w fun _ u=>u = vI r):=by
 unfold bx_p at h
 refine AF func123 rfl rfl rfl fun _ cs0 hb0=>Ae<|RG.bx (AB w) rfl rfl fun t0 q0 b0 s0=>Af rfl<|Aa<|Aj<|Ae<|Ab (AI rfl (b0.memA .hd))<|bk h fun c0 p0 h=>Bh (vI c0) (bd 154) rfl (e1 rfl) (fun p q=>ah_c n (b0.hL0 hL q) a0 (b0.k0 h0_3 q) p0) rfl<|Af rfl<|Aa<|Ae<|Ac rfl<|Ab (FV.neq (i:=c0) (j:=0) rfl rfl)<|Aa<|MX.ifn rfl h (fun d0 h=>?_) (fun d0 h=>?_)
 refine Ar<|Aj<|Ae<|Ac rfl<|Ab (BS (i:=a1) (j:=1) rfl rfl)<|Ac rfl<|BB (s:=13) rfl h (fun g0 h=>?_) (fun g0 h=>?_)
 refine Al<|Al<|Bd rfl rfl<|Aa<|Br rfl<|Ae<|Af rfl<|Aa<|Am rfl<|AQ hb0 func123 rfl rfl ?_
 cases h
 exact b0.gv
 refine AE (Ah rfl)<|AE (FV.gtr (i:=a1) (j:=8) rfl rfl)<|Bx rfl rfl<|Aa<|AM rfl h (fun j0 h=>?_) (fun j0 h=>?_)
 refine Ae<|Af rfl<|Aa<|Am rfl<|AQ hb0 func123 rfl rfl ?_
 cases h
 exact b0.gv
 refine Ar<|Ae<|Af rfl<|Aa<|Am rfl<|AQ hb0 func123 rfl rfl ?_
 cases h
 exact b0.gv
 refine Ae<|Ac rfl<|Af rfl<|Aa<|Am rfl<|AQ hb0 func123 rfl rfl ?_
 cases h
 exact b0.gv
def av_l1 (_n:Nat) (a2:Int) (j0:List Bool) (c0:Int -> Option (Bool ⊕ Unit)):Int -> Option (Bool ⊕ Unit)
  | b0=>(if b0 < a2 then (idx j0 b0).bind fun g0=>(if g0 = true then (chk (b0 + 1)).bind fun d0=>c0 d0 else some (.inl false)) else some (.inr ()))
def av_l2 (_n:Nat) (a1:Int) (a0:List Int) (a2:Int) (g0:Int × (List Bool) -> Option (Bool ⊕ (List Bool))):Int × (List Bool) -> Option (Bool ⊕ (List Bool))
  | (d0,c0)=>(if d0 < a1 then (idx a0 d0).bind fun b0=>(if b0 < 0 then some (.inl false) else (if a2 <= b0 then some (.inl false) else (idx c0 b0).bind fun _x127=>(put c0 ((b0.toNat:Nat):Int) true).bind fun k0=>(chk (d0 + 1)).bind fun j0=>g0 (j0,k0))) else some (.inr c0))
def av_p (n:Nat) (a0:List Int) (a1:Int) (a2:Int):Option Bool:=
  (if ((a0.length:Nat):Int) = a1 then (mk a2 false).bind fun c0=>thn (ak (av_l2 n a1 a0 a2) n (0,c0)) (fun b0=>thn (ak (av_l1 n a2 b0) n 0) (fun _=>some true)) else some false)
theorem av_c (n:Nat) {L w} (_hL:hl L w) {a0:List Int} {v0_0:Value} (h0_0:Rep.R w L [v0_0] a0) {a1:Int} {a2:Int}  {r:Bool} (h:av_p n a0 a1 a2 = some r) :
 Cl 124 #[v0_0,vI a1,vI a2] w (ah w fun _ u=>u = .bool r):=by
 unfold av_p at h
 have hS0:=AB w
 refine AF func124 rfl rfl rfl fun _ cs0 hb0=>Ae<|Af rfl<|Aa<|Aj<|Ae<|Ac rfl ?_
 have hl1:a0.length <= 281474976710656:=AX h0_0
 refine Ab (Be (xs:=a0) underlying39 rfl h0_0)<|Ac rfl<|Ab (FV.neq (i:=((a0.length:Nat):Int)) (j:=a1) rfl rfl)<|Aa<|MX.ifn rfl h (fun c2 h=>?_) (fun c2 h=>?_)
 refine Ar<|Ae<|Ac rfl<|bk h fun J0 H0 h=>Ao .plain rfl (Does.mk (α:=Bool) H0 hS0 dC rfl) fun x2 k0 B0 s2=>Af rfl<|Aa<|Aj<|Ae<|Af rfl<|Aa<|Av<|tn h fun u2 B1 x0=>MX.lf (α:=Int × (List Bool) × (List Value)) (fun ⟨b0,c0,d0⟩=>[(0,v0_0),(1,vI a1),(2,vI a2),(7,(.slice (some ⟨k0,0,none⟩) a2.toNat a2.toNat)),(8,vI b0)]) (fun ⟨b0,c0,d0⟩=>[rr w 4 Bool (.slice (some ⟨k0,0,none⟩) a2.toNat a2.toNat) c0.length d0]) (fun ⟨b0,c0,d0⟩ I0=>Cells I0 (bl [rr w 4 Bool (.slice (some ⟨k0,0,none⟩) a2.toNat a2.toNat) c0.length d0] ++ L) d0 c0) (fun ⟨b0,c0,d0⟩=>(b0,c0)) (0,J0,(List.replicate a2.toNat [.bool false]).flatten) B1 B0 (Aw (cs:=(List.replicate a2.toNat [.bool false]).flatten) (xs:=J0) B0 L (BT H0 rfl)) ?_
 rintro b2 ⟨b0,c0,d0⟩ I0 d1 j0 k1 s0 h
 unfold av_l2 at h
 try dsimp only at h
 refine Aj<|Ae<|Ac rfl<|Ac rfl<|Ab (BS (i:=b0) (j:=a1) rfl rfl)<|Aa<|AM rfl h (fun R0 h=>?_) (fun R0 h=>?_)
 refine Ar<|Aj<|Av<|Aj<|Ae<|Ac rfl<|Ac rfl<|bk h fun q0 I1 h=>?_
 obtain ⟨y0,J1⟩:=az I1
 obtain ⟨Z1,g2,t0,z0,Y0,D1,A0⟩:=Bn (AS h0_0 j0) J1
 have s1:Y0 = [vI q0]:=D1; subst s1
 refine Ab (Bc 1 (b0.toNat) rfl t0 rfl y0 z0)<|AN rfl (A0 0 _ rfl)<|Ab (BS (i:=q0) (j:=0) rfl rfl)<|Ac rfl<|BB (s:=26) rfl h (fun U0 h=>?_) (fun U0 h=>?_)
 refine Al<|Al<|Al<|Al<|Al<|Al<|Bd rfl rfl<|Aa<|Br rfl<|Ae<|Af rfl<|Aa ?_
 have h:=au h x0
 refine Am rfl<|AQ hb0 func124 rfl rfl ?_
 cases h
 exact j0.gv
 refine AE (Ah rfl)<|AE (Ah rfl)<|AE (Bc 1 (b0.toNat) rfl t0 rfl y0 z0)<|AE (AL rfl (A0 0 _ rfl))<|AE (Ah rfl)<|AE (FV.geq (i:=q0) (j:=a2) rfl rfl)<|Bx rfl rfl<|Aa<|AM rfl h (fun V0 h=>?_) (fun V0 h=>?_)
 refine Ae<|Af rfl<|Aa ?_
 have h:=au h x0
 refine Am rfl<|AQ hb0 func124 rfl rfl ?_
 cases h
 exact j0.gv
 refine Ar<|Ap<|Ac rfl<|Ac rfl<|Ac rfl<|Ab (Bc 1 (b0.toNat) rfl t0 rfl y0 z0)<|AN rfl (A0 0 _ rfl)<|bk h fun W1 K1 h=>?_
 obtain ⟨y1,M1⟩:=az K1
 obtain ⟨K0,j2,u0,F0,Z0,E1,t2⟩:=St.nth (α:=Bool) j0 .hd s0 M1
 obtain ⟨P0,k2,D0⟩:=BA (α:=Bool) j0 .hd F0
 obtain rfl:K0 = ⟨P0,0,none⟩:=by rw [D0] at u0; cases u0; rfl
 have u1:Z0 = [.bool W1]:=E1; subst u1
 refine Ab (Bc 1 (q0.toNat) rfl u0 rfl y1 F0)<|bk h fun Y1 R1 h=>RG.acts' .plain (Acts.set (α:=Bool) (i:=q0.toNat) R1 j0 D0 (fun _=>.hd) s0 rfl rfl rfl rfl rfl rfl) fun y2 ⟨b1,j1,p1,q1⟩=>Aa<|Ax<|Ap<|Ac rfl<|bk h fun U1 G1 h=>Ab (BC (i:=b0) (j:=1) rfl rfl G1)<|Af rfl<|Aa<|d1 (U1,Y1,b1) j1 (Tt k1 p1) q1 h
 refine AT rfl ?_
 have h:=ay h x0
 try dsimp only at h
 refine Aj<|Ae<|Af rfl<|Aa<|Av<|tn h fun v2 C1 E0=>MX.lo (α:=Int) (fun g0=>[(2,vI a2),(7,(.slice (some ⟨k0,0,none⟩) a2.toNat a2.toNat)),(9,vI g0)]) (fun g0=>[rr w 4 Bool (.slice (some ⟨k0,0,none⟩) a2.toNat a2.toNat) c0.length d0]) (fun g0=>g0) 0 C1 j0 ?_
 rintro d2 g0 z2 g1 p0 C0 h
 unfold av_l1 at h
 try dsimp only at h
 refine Aj<|Ae<|Ac rfl<|Ac rfl<|Ab (BS (i:=g0) (j:=a2) rfl rfl)<|Aa<|AM rfl h (fun W0 h=>?_) (fun W0 h=>?_)
 refine Ar<|Aj<|Av<|Ae<|Ac rfl<|Ac rfl<|bk h fun X1 P1 h=>?_
 obtain ⟨z1,Q1⟩:=az P1
 obtain ⟨M0,p2,v0,G0,c1,F1,A1⟩:=St.nth (α:=Bool) p0 .hd (Aq s0 C0) Q1
 obtain ⟨Q0,q2,v1⟩:=BA (α:=Bool) p0 .hd G0
 obtain rfl:M0 = ⟨Q0,0,none⟩:=by rw [v1] at v0; cases v0; rfl
 have x1:c1 = [.bool X1]:=F1; subst x1
 refine Ab (Bc 1 (g0.toNat) rfl v0 rfl z1 G0)<|AN rfl (A1 0 _ rfl)<|Ab (Bo rfl)<|Aa<|MX.ifnb rfl h (fun X0 h=>?_) (fun X0 h=>?_)
 refine Ar<|Ax<|Ap<|Ac rfl<|bk h fun V1 H1 h=>Ab (BC (i:=g0) (j:=1) rfl rfl H1)<|Af rfl<|Aa<|g1 V1 p0 C0 h
 refine Ae<|Af rfl<|Aa ?_
 have h:=au h E0
 refine Am rfl<|AQ hb0 func124 rfl rfl ?_
 cases h
 exact p0.gv
 refine AT rfl ?_
 have h:=ay h E0
 try dsimp only at h
 refine Ae<|Af rfl<|Aa<|Am rfl<|AQ hb0 func124 rfl rfl ?_
 cases h
 exact p0.gv
 refine Ae<|Af rfl<|Aa<|Am rfl<|AQ hb0 func124 rfl rfl ?_
 cases h
 exact hS0.gv
def aF_l1 (_n:Nat) (a0:Td) (c0:Nat -> Option Nat):Nat -> Option Nat
  | b0=>(if b0 < a0.ft.length then (a0.ft[b0]?).bind fun d0=>(if d0.fq = true then some b0 else c0 (b0 + 1)) else some b0)
def aF_p (n:Nat) (a0:Td):Option Int:=
  jn (fun c0=>some ((c0:Nat):Int)) (fun b0=>Option.bind (ak (aF_l1 n a0) n 0) (b0))
theorem aF_c (n:Nat) {L w} (_hL:hl L w) (a0:Td) {v0_3:Value} (h0_3:Rep.R w L [v0_3] a0.ft)  {r:Int} (h:aF_p n a0 = some r) :
 Cl 194 #[.agg #[vI a0.fe,vI a0.fc,vI a0.fh,v0_3]] w (ah w fun _ u=>u = vI r):=by
 unfold aF_p at h
 refine AF func194 rfl rfl rfl fun _ cs0 hb0=>Ae<|RG.bx (AB w) rfl rfl fun d1 k0 q0 Q0=>Af rfl<|Aa<|Ae<|Af rfl<|Aa<|Aj<|Av<|MX.xo (α:=Nat) 0 (fun d0=>[(3,vI ((d0:Nat):Int))]) (fun d0=>[]) (fun d0=>d0) q0 rfl h ?_ ?_
 rintro d0 j1 z0 R0 h
 try dsimp only at h
 refine Ae<|Ac rfl<|Af rfl<|Aa<|Am rfl<|AQ hb0 func194 rfl rfl ?_
 cases h
 exact z0.gv
 intro K0 p0 h
 try dsimp only at h
 obtain ⟨Y0,F0,s0⟩:=ar h
 refine MX.lo (α:=Nat) (fun b0=>[(1,vP k0),(3,vI ((b0:Nat):Int))]) (fun b0=>[.cells k0 [vI a0.fe,vI a0.fc,vI a0.fh,v0_3] 37]) (fun b0=>b0) 0 F0 q0 ?_
 rintro J0 b0 g1 v0 c0 g0 h
 unfold aF_l1 at h
 try dsimp only at h
 refine Aj<|Ae<|Ac rfl<|Bb 3 rfl<|AN rfl ((c0.memA .hd) 3 _ rfl) ?_
 have j0:=AS h0_3 c0
 have U0:a0.ft.length <= 281474976710656:=AX j0
 refine Ab (Be (xs:=a0.ft) underlying35 rfl j0)<|Ab (Bq (i:=b0) (j:=a0.ft.length) rfl rfl)<|Ac rfl<|BB (s:=9) rfl h (fun t0 h=>?_) (fun t0 h=>?_)
 refine RG.fg 3 rfl<|AE (AL rfl ((c0.memA .hd) 3 _ rfl))<|AE (Ah rfl)<|bk h fun k1 H0 h=>?_
 obtain ⟨I0,M0,C0,D0,P0,G0,E0⟩:=Bn j0 H0
 obtain ⟨Z0,b1,c1,rfl,V0,W0,X0⟩:=aM G0
 refine AE (Bc 6 b0 rfl C0 rfl rfl D0)<|RG.fg 5 rfl<|AE (AL rfl (E0 5 _ rfl))<|AE (Bo rfl)<|Bd rfl rfl<|Aa<|MX.ifnb rfl h (fun u0 h=>?_) (fun u0 h=>?_)
 refine AT rfl ?_
 have h:=s0 _ h
 try dsimp only at h
 obtain ⟨x0,A0⟩:=AH c0 .done
 exact p0 b0 x0 (Tt g0 A0) h
 refine Ar<|Av<|Ap<|Ac rfl<|Ab (Bf (i:=b0) (j:=1) rfl rfl (by omega))<|Af rfl<|Aa<|Ax<|v0 (b0 + 1) c0 g0 h
 refine Al<|Al<|Al<|Al<|Al<|Al<|Al<|Bx rfl rfl<|Aa<|By rfl<|AT rfl ?_
 have h:=s0 _ h
 try dsimp only at h
 obtain ⟨y0,B0⟩:=AH c0 .done
 exact p0 b0 y0 (Tt g0 B0) h
def bL_p (n:Nat) (a0:Td):Option (Int × Int):=
  (ah_p n a0).bind fun b0=>(if b0 = 0 then (aF_p n a0).bind fun c0=>some (c0,(0:Int)) else some ((0:Int),b0))
theorem bL_c (n:Nat) {L w} (hL:hl L w) (a0:Td) {v0_3:Value} (h0_3:Rep.R w L [v0_3] a0.ft)  {r:Int × Int} (h:bL_p n a0 = some r) :
 Cl 155 #[.agg #[vI a0.fe,vI a0.fc,vI a0.fh,v0_3]] w (ah w fun _ u=>u = .tuple #[vI r.1,vI r.2]):=by
 unfold bL_p at h
 refine AF func155 rfl rfl rfl fun _ cs0 hb0=>Ae<|RG.bx (AB w) rfl rfl fun t0 q0 b0 s0=>Af rfl<|Af rfl<|Aa<|Aj<|Ae<|Ab (AI rfl (b0.memA .hd))<|bk h fun c0 g0 h=>Bh (vI c0) (bd 154) rfl (e1 rfl) (fun p q=>ah_c n (b0.hL0 hL q) a0 (b0.k0 h0_3 q) g0) rfl<|Af rfl<|Aa<|Ae<|Ac rfl<|Ab (FV.neq (i:=c0) (j:=0) rfl rfl)<|Aa<|MX.ifn rfl h (fun d0 h=>?_) (fun d0 h=>?_)
 refine Ar<|Ae<|Ab (AI rfl (b0.memA .hd))<|bk h fun p0 j0 h=>Bh (vI p0) (bd 194) rfl (e1 rfl) (fun p q=>aF_c n (b0.hL0 hL q) a0 (b0.k0 h0_3 q) j0) rfl<|Af rfl<|Af rfl<|Aa<|Am rfl<|Au hb0 func155 rfl (.cons (.tmp rfl) (.cons (.tmp rfl) .nil)) rfl ?_
 cases h
 exact b0.gv
 refine Ae<|Ac rfl<|Af rfl<|Af rfl<|Aa<|Am rfl<|Au hb0 func155 rfl (.cons (.tmp rfl) (.cons (.tmp rfl) .nil)) rfl ?_
 cases h
 exact b0.gv
def bM_p (n:Nat) (a0:Td):Option Int:=
  (bL_p n a0).bind fun b0=>some b0.1
theorem bM_c (n:Nat) {L w} (hL:hl L w) (a0:Td) {v0_3:Value} (h0_3:Rep.R w L [v0_3] a0.ft)  {r:Int} (h:bM_p n a0 = some r) :
 Cl 125 #[.agg #[vI a0.fe,vI a0.fc,vI a0.fh,v0_3]] w (ah w fun _ u=>u = vI r):=by
 unfold bM_p at h
 refine AF func125 rfl rfl rfl fun _ cs0 hb0=>Ae<|RG.bx (AB w) rfl rfl fun p0 g0 b0 j0=>Af rfl<|Aa<|Ae<|Ab (AI rfl (b0.memA .hd))<|bk h fun c0 d0 h=>Bh (.tuple #[vI c0.1,vI c0.2]) (bd 155) rfl (e1 rfl) (fun p q=>bL_c n (b0.hL0 hL q) a0 (b0.k0 h0_3 q) d0) rfl<|Ac rfl<|Ab (Ai rfl rfl)<|Ab (Ai rfl rfl)<|Af rfl<|Af rfl<|Aa<|Ae<|Ac rfl<|Af rfl<|Aa<|Am rfl<|AQ hb0 func125 rfl rfl ?_
 cases h
 exact b0.gv
def bn_p (n:Nat) (a0:Td) (a1:List Int) (a2:Int):Option Int:=
  (bx_p n a0 a2).bind fun b0=>(if b0 = 0 then (bM_p n a0).bind fun c0=>(av_p n a1 c0 a2).bind fun d0=>(if d0 = true then some (0:Int) else some (220:Int)) else some b0)
theorem bn_c (n:Nat) {L w} (hL:hl L w) (a0:Td) {v0_3:Value} (h0_3:Rep.R w L [v0_3] a0.ft) {a1:List Int} {v1_0:Value} (h1_0:Rep.R w L [v1_0] a1) {a2:Int}  {r:Int} (h:bn_p n a0 a1 a2 = some r) :
 Cl 88 #[.agg #[vI a0.fe,vI a0.fc,vI a0.fh,v0_3],v1_0,vI a2] w (ah w fun _ u=>u = vI r):=by
 unfold bn_p at h
 refine AF func88 rfl rfl rfl fun _ cs0 hb0=>Ae<|RG.bx (AB w) rfl rfl fun x0 u0 b0 v0=>Af rfl<|Aa<|Aj<|Ae<|Ab (AI rfl (b0.memA .hd))<|Ac rfl<|bk h fun c0 j0 h=>Bh (vI c0) (bd 123) rfl (e2 rfl rfl) (fun p q=>bx_c n (b0.hL0 hL q) a0 (b0.k0 h0_3 q) j0) rfl<|Af rfl<|Aa<|Ae<|Ac rfl<|Ab (FV.neq (i:=c0) (j:=0) rfl rfl)<|Aa<|MX.ifn rfl h (fun d0 h=>?_) (fun d0 h=>?_)
 refine Ar<|Aj<|Ae<|Ac rfl<|Ab (AI rfl (b0.memA .hd))<|bk h fun s0 p0 h=>Bh (vI s0) (bd 125) rfl (e1 rfl) (fun p q=>bM_c n (b0.hL0 hL q) a0 (b0.k0 h0_3 q) p0) rfl<|Ac rfl<|bk h fun t0 q0 h=>Bh (.bool t0) (bd 124) rfl (e3 rfl rfl rfl) (fun p q=>av_c n (b0.hL0 hL q) (b0.k0 h1_0 q) q0) rfl<|Ab (Bo rfl)<|Aa<|MX.ifnb rfl h (fun g0 h=>?_) (fun g0 h=>?_)
 refine Ar<|Ae<|Af rfl<|Aa<|Am rfl<|AQ hb0 func88 rfl rfl ?_
 cases h
 exact b0.gv
 refine Ae<|Af rfl<|Aa<|Am rfl<|AQ hb0 func88 rfl rfl ?_
 cases h
 exact b0.gv
 refine Ae<|Ac rfl<|Af rfl<|Aa<|Am rfl<|AQ hb0 func88 rfl rfl ?_
 cases h
 exact b0.gv
def aa_l1 (_n:Nat) (a0:Td) (a1:List Int) (d0:Nat) (v0:Int) (g0:Int × (List Int) -> Option (List Int)):Int × (List Int) -> Option (List Int)
  | (b0,c0)=>(if b0 < a0.fc then (a1[d0]?).bind fun p0=>(if p0 = v0 then (idx c0 b0).bind fun q0=>(a0.ft[d0]?).bind fun s0=>(idx s0.fC b0).bind fun t0=>(chk (q0 + t0)).bind fun j0=>(put c0 ((b0.toNat:Nat):Int) j0).bind fun u0=>(chk (b0 + 1)).bind fun k0=>g0 (k0,u0) else some c0) else some c0)
def aa_l2 (n:Nat) (a1:List Int) (a0:Td) (k0:Int) (d0:Nat × (List Int) -> Option (List Int)):Nat × (List Int) -> Option (List Int)
  | (b0,c0)=>(if b0 < a1.length then jn (fun j0=>d0 (b0 + 1,j0)) (fun g0=>Option.bind (ak (aa_l1 n a0 a1 b0 k0) n (0,c0)) (g0)) else some c0)
def aa_l3 (n:Nat) (a2:Int) (a0:Td) (a1:List Int) (d0:Int × (List (List Int)) -> Option (List (List Int))):Int × (List (List Int)) -> Option (List (List Int))
  | (b0,c0)=>(if b0 < a2 then (mk a0.fc (0:Int)).bind fun j0=>Option.bind (ak (aa_l2 n a1 a0 b0) n (0,j0)) (fun k0=>(app c0 ([k0]:List (List Int))).bind fun p0=>(chk (b0 + 1)).bind fun g0=>d0 (g0,p0)) else some c0)
def aa_p (n:Nat) (a0:Td) (a1:List Int) (a2:Int):Option ((List (List Int)) × Int):=
  (bn_p n a0 a1 a2).bind fun b0=>(if b0 = 0 then Option.bind (ak (aa_l3 n a2 a0 a1) n (0,([]:List (List Int)))) (fun c0=>some (c0,(0:Int))) else some (([]:List (List Int)),b0))
theorem aa_c (n:Nat) {L w} (hL:hl L w) (a0:Td) {v0_3:Value} (h0_3:Rep.R w L [v0_3] a0.ft) {a1:List Int} {v1_0:Value} (h1_0:Rep.R w L [v1_0] a1) {a2:Int}  {r:(List (List Int)) × Int} (h:aa_p n a0 a1 a2 = some r) :
 Cl 38 #[.agg #[vI a0.fe,vI a0.fc,vI a0.fh,v0_3],v1_0,vI a2] w (ah w fun w' u=>∃ v0_0:Value,u = .tuple #[v0_0,vI r.2]/\Rep.R w' L [v0_0] r.1):=by
 unfold aa_p at h
 refine AF func38 rfl rfl rfl fun _ cs0 hb0=>Ae<|RG.bx (AB w) rfl rfl fun q4 t0 z0 U3=>Af rfl<|Af rfl<|Aa<|Aj<|Ae<|Ab (AI rfl (z0.memA .hd))<|Ac rfl<|Ac rfl<|bk h fun B1 u3 h=>Bh (vI B1) (bd 88) rfl (e3 rfl rfl rfl) (fun p q=>bn_c n (z0.hL0 hL q) a0 (z0.k0 h0_3 q) (z0.k0 h1_0 q) u3) rfl<|Af rfl<|Aa<|Ae<|Ac rfl<|Ab (FV.neq (i:=B1) (j:=0) rfl rfl)<|Aa<|MX.ifn rfl h (fun F1 h=>?_) (fun F1 h=>?_)
 refine Ar<|Ae<|Af rfl<|Aa<|Aj<|Ae<|Af rfl<|Aa<|Av ?_
 have R0:=z0.nilRow 38 (Rep.size (List Int))
 have V3:=St.nilRowT z0 38 (Rep.size (List Int))
 obtain ⟨b4,K2,A2⟩:=ar h
 refine MX.lf (α:=Int × (List (List Int)) × Value × (List Value)) (fun ⟨u0,g0,c0,p0⟩=>[(1,v1_0),(2,vI a2),(3,vP t0),(9,c0),(10,vI u0)]) (fun ⟨u0,g0,c0,p0⟩=>[rr w 38 (List Int) c0 g0.length p0,.cells t0 [vI a0.fe,vI a0.fc,vI a0.fh,v0_3] 37]) (fun ⟨u0,g0,c0,p0⟩ q1=>Cells q1 (bl [rr w 38 (List Int) c0 g0.length p0,.cells t0 [vI a0.fe,vI a0.fc,vI a0.fh,v0_3] 37] ++ L) p0 g0) (fun ⟨u0,g0,c0,p0⟩=>(u0,g0)) (0,([]:List (List Int)),vN,[]) K2 R0 (Aw (cs:=[]) (xs:=([]:List (List Int))) R0 L (AC _ _)) ?_
 rintro E3 ⟨u0,g0,c0,p0⟩ q1 R1 F0 b2 Y0 h
 unfold aa_l3 at h
 try dsimp only at h
 refine Aj<|Ae<|Ac rfl<|Ac rfl<|Ab (BS (i:=u0) (j:=a2) rfl rfl)<|Aa<|AM rfl h (fun E1 h=>?_) (fun E1 h=>?_)
 refine Ar<|Aj<|Av<|Ae<|Bb 1 rfl<|AN rfl ((F0.memA .t1) 1 _ rfl)<|bk h fun A1 p1 h=>Ao .plain rfl (Does.mk (α:=Int) p1 F0 av rfl) fun s4 j0 Q0 c2=>Af rfl<|Aa<|Aj<|Ae<|Af rfl<|Aa<|Av ?_
 obtain ⟨c4,M2,B2⟩:=ar h
 refine MX.lf (α:=Nat × (List Int) × (List Value)) (fun ⟨q0,s0,C0⟩=>[(1,v1_0),(2,vI a2),(3,vP t0),(9,c0),(10,vI u0),(11,(.slice (some ⟨j0,0,none⟩) a0.fc.toNat a0.fc.toNat)),(12,vI ((q0:Nat):Int))]) (fun ⟨q0,s0,C0⟩=>[rr w 3 Int (.slice (some ⟨j0,0,none⟩) a0.fc.toNat a0.fc.toNat) s0.length C0,rr w 38 (List Int) c0 g0.length p0,.cells t0 [vI a0.fe,vI a0.fc,vI a0.fh,v0_3] 37]) (fun ⟨q0,s0,C0⟩ s1=>Cells s1 (bl [rr w 3 Int (.slice (some ⟨j0,0,none⟩) a0.fc.toNat a0.fc.toNat) s0.length C0,rr w 38 (List Int) c0 g0.length p0,.cells t0 [vI a0.fe,vI a0.fc,vI a0.fh,v0_3] 37] ++ L) C0 s0) (fun ⟨q0,s0,C0⟩=>(q0,s0)) (0,A1,(List.replicate a0.fc.toNat [vI 0]).flatten) M2 Q0 (Aw (cs:=(List.replicate a0.fc.toNat [vI 0]).flatten) (xs:=A1) Q0 L (BT p1 rfl)) ?_
 rintro F3 ⟨q0,s0,C0⟩ s1 U1 E0 V0 Z0 h
 unfold aa_l2 at h
 try dsimp only at h
 refine Aj<|Ae<|Ac rfl<|Ac rfl ?_
 have j1:=AS h1_0 E0
 have X3:a1.length <= 281474976710656:=AX j1
 refine Ab (Be (xs:=a1) underlying39 rfl j1)<|Ab (Bq (i:=q0) (j:=a1.length) rfl rfl)<|Aa<|AM rfl h (fun G1 h=>?_) (fun G1 h=>?_)
 refine Ar<|Aj<|Av<|Ae<|Af rfl<|Aa<|Av<|MX.xf (α:=(List Int) × (List Value)) 4 (fun ⟨B0,D0⟩=>[(1,v1_0),(2,vI a2),(3,vP t0),(9,c0),(10,vI u0),(11,(.slice (some ⟨j0,0,none⟩) a0.fc.toNat a0.fc.toNat)),(12,vI ((q0:Nat):Int))]) (fun ⟨B0,D0⟩=>[rr w 3 Int (.slice (some ⟨j0,0,none⟩) a0.fc.toNat a0.fc.toNat) B0.length D0,rr w 38 (List Int) c0 g0.length p0,.cells t0 [vI a0.fe,vI a0.fc,vI a0.fh,v0_3] 37]) (fun ⟨B0,D0⟩ u1=>Cells u1 (bl [rr w 3 Int (.slice (some ⟨j0,0,none⟩) a0.fc.toNat a0.fc.toNat) B0.length D0,rr w 38 (List Int) c0 g0.length p0,.cells t0 [vI a0.fe,vI a0.fc,vI a0.fh,v0_3] 37] ++ L) D0 B0) (fun ⟨B0,D0⟩=>B0) E0 rfl h ?_ ?_
 rintro ⟨B0,D0⟩ u1 W1 d2 k2 h
 try dsimp only at h
 refine Ax<|Ap<|Ac rfl<|Ab (Bf (i:=q0) (j:=1) rfl rfl (by omega))<|Af rfl<|Aa<|U1 (q0 + 1,B0,D0) W1 (Tt V0 d2) k2 h
 intro G3 P0 h
 try dsimp only at h
 obtain ⟨d4,P2,c1⟩:=ar h
 refine MX.lf (α:=Int × (List Int) × (List Value)) (fun ⟨v0,x0,y0⟩=>[(1,v1_0),(2,vI a2),(3,vP t0),(9,c0),(10,vI u0),(11,(.slice (some ⟨j0,0,none⟩) a0.fc.toNat a0.fc.toNat)),(12,vI ((q0:Nat):Int)),(13,vI v0)]) (fun ⟨v0,x0,y0⟩=>[rr w 3 Int (.slice (some ⟨j0,0,none⟩) a0.fc.toNat a0.fc.toNat) x0.length y0,rr w 38 (List Int) c0 g0.length p0,.cells t0 [vI a0.fe,vI a0.fc,vI a0.fh,v0_3] 37]) (fun ⟨v0,x0,y0⟩ v1=>Cells v1 (bl [rr w 3 Int (.slice (some ⟨j0,0,none⟩) a0.fc.toNat a0.fc.toNat) x0.length y0,rr w 38 (List Int) c0 g0.length p0,.cells t0 [vI a0.fe,vI a0.fc,vI a0.fh,v0_3] 37] ++ L) y0 x0) (fun ⟨v0,x0,y0⟩=>(v0,x0)) (0,s0,C0) P2 E0 Z0 ?_
 rintro H3 ⟨v0,x0,y0⟩ v1 V1 A0 K0 G0 h
 unfold aa_l1 at h
 try dsimp only at h
 refine Aj<|Ae<|Ac rfl<|Bb 1 rfl<|AN rfl ((A0.memA .t2) 1 _ rfl)<|Ab (BS (i:=v0) (j:=a0.fc) rfl rfl)<|Ac rfl<|BB (s:=39) rfl h (fun H1 h=>?_) (fun H1 h=>?_)
 refine AE (Ah rfl)<|AE (Ah rfl)<|bk h fun x1 d3 h=>?_
 obtain ⟨B3,J3,s2,D2,J1,Q2,G2⟩:=Bn (AS h1_0 A0) d3
 have u2:J1 = [vI x1]:=Q2; subst u2
 refine AE (Bc 1 q0 rfl s2 rfl rfl D2)<|AE (AL rfl (G2 0 _ rfl))<|AE (Ah rfl)<|AE (FV.eql (i:=x1) (j:=u0) rfl rfl)<|Bd rfl rfl<|Aa<|AM rfl h (fun I1 h=>?_) (fun I1 h=>?_)
 refine Ar<|Aj<|Av<|du 17 fun b0 d0=>Rv 0 b0 rfl d0 (fun _=>Ah rfl)<|Rv 1 b0 rfl d0 (fun _=>Ah rfl)<|Rv 2 b0 rfl d0 (fun _=>Ah rfl)<|Rv 3 b0 rfl d0 (fun _=>Ah rfl)<|bk h fun y1 g3 h=>?_
 obtain ⟨g1,j3⟩:=az g3
 obtain ⟨C1,K3,H0,M0,K1,R2,H2⟩:=St.nth (α:=Int) A0 .hd G0 j3
 obtain ⟨D1,M3,b1⟩:=BA (α:=Int) A0 .hd M0
 obtain rfl:C1 = ⟨D1,0,none⟩:=by rw [b1] at H0; cases H0; rfl
 have v2:K1 = [vI y1]:=R2; subst v2
 refine Rv 4 b0 rfl d0 (fun _=>Bc 1 (v0.toNat) rfl H0 rfl g1 M0)<|Rx 5 229376 b0 rfl d0 (AL rfl (H2 0 _ rfl))<|Rv 6 b0 rfl d0 (fun _=>Bl 3 rfl)<|Rx 7 257536 b0 rfl d0 (AL rfl ((A0.memA .t2) 3 _ rfl))<|Rv 8 b0 rfl d0 (fun _=>Ah rfl)<|bk h fun x4 k3 h=>?_
 obtain ⟨C3,P3,x2,E2,R3,U2,I2⟩:=Bn (AS h0_3 A0) k3
 obtain ⟨j4,k4,p4,rfl,Y3,V2,Z3⟩:=aM U2
 refine Rv 9 b0 rfl d0 (fun _=>Bc 6 q0 rfl x2 rfl rfl E2)<|Rv 10 b0 rfl d0 (fun _=>Bl 3 rfl)<|Rx 11 253952 b0 rfl d0 (AL rfl (I2 3 _ rfl))<|Rv 12 b0 rfl d0 (fun _=>Ah rfl)<|bk h fun z1 p3 h=>?_
 obtain ⟨C2,q3⟩:=az p3
 obtain ⟨D3,Q3,y2,F2,M1,W2,J2⟩:=Bn V2 q3
 have z2:M1 = [vI z1]:=W2; subst z2
 refine Rv 13 b0 rfl d0 (fun _=>Bc 1 (v0.toNat) rfl y2 rfl C2 F2)<|Rx 14 229376 b0 rfl d0 (AL rfl (J2 0 _ rfl))<|bk h fun g4 Z2 h=>Rv 15 b0 rfl d0 (fun _=>BC (i:=y1) (j:=z1) rfl rfl Z2)<|Rv 16 b0 rfl d0 (fun _=>Bc 1 (v0.toNat) rfl H0 rfl g1 M0)<|bk h fun z3 s3 h=>Bi (i:=17) (rk b0) (RO.acts (m' :=262143) (sk b0) rfl rfl .plain (Acts.set (α:=Int) (i:=v0.toNat) s3 A0 b1 (fun _=>.hd) G0 rfl rfl rfl rfl rfl rfl) (fun t4 ⟨P1,X1,g2,p2⟩=>?_))
 refine AP (dk b0)<|Ax<|Ap<|Ac rfl<|bk h fun v3 b3 h=>Ab (BC (i:=v0) (j:=1) rfl rfl b3)<|Af rfl<|Aa<|V1 (v3,z3,P1) X1 (Tt K0 g2) p2 h
 refine AT rfl ?_
 have h:=c1 _ h
 try dsimp only at h
 exact P0 (x0,y0) A0 K0 G0 h
 refine Al<|Al<|Al<|Al<|Al<|Al<|Bx rfl rfl<|Aa<|By rfl<|AT rfl ?_
 have h:=c1 _ h
 try dsimp only at h
 exact P0 (x0,y0) A0 K0 G0 h
 refine AT rfl ?_
 have h:=B2 _ h
 try dsimp only at h
 refine Ap<|Ac rfl<|Ac rfl ?_
 have U0:=BD E0 .hd
 refine Ao .plain rfl (AD (α:=List Int) (xs:=([s0]:List (List Int))) (vs:=[(.slice (some ⟨j0,0,none⟩) a0.fc.toNat a0.fc.toNat)]) (ds' :=[(.slice (some ⟨j0,0,none⟩) a0.fc.toNat a0.fc.toNat)]) rfl U0 el64 rfl (e1 rfl) (by kernel_rfl) rfl) fun u4 I3 I0 W0=>bk h fun A3 t3 h=>?_
 have k1:=Tt c2 (Tt V0 (Tt (BE E0 .hd) W0))
 refine RG.doesL .plain rfl (AU (α:=List Int) (ys:=([s0]:List (List Int))) t3 I0 (fun _ _=>.t1) el64 rfl rfl (Aq Y0 k1) (Src.row (α:=List Int) I0 .hd (Aw (cs:=[(.slice (some ⟨j0,0,none⟩) a0.fc.toNat a0.fc.toNat)]) (xs:=(([s0]:List (List Int)):List (List Int))) I0 L (Ak (cs:=[(.slice (some ⟨j0,0,none⟩) a0.fc.toNat a0.fc.toNat)]) (ds:=[]) (Ay (BF (α:=Int) (v:=(.slice (some ⟨j0,0,none⟩) a0.fc.toNat a0.fc.toNat)) (xs:=s0) U0 L (Bk (α:=Int) E0 .hd Z0 hL)) W0) (AC _ _))))) fun y3 v4 ⟨Q1,Y1,j2,q2⟩=>Af rfl<|Aa<|Ax<|Ap<|Ac rfl<|bk h fun x3 c3 h=>Ab (BC (i:=u0) (j:=1) rfl rfl c3)<|Af rfl<|Aa ?_
 obtain ⟨Z1,X0⟩:=AH Y1 .d1
 exact R1 (x3,A3,y3,Q1) Z1 (Tt b2 (Tt k1 (Tt j2 X0))) (Aq q2 X0) h
 refine AT rfl ?_
 have h:=A2 _ h
 try dsimp only at h
 refine Ae<|Ac rfl<|Af rfl<|Af rfl<|Aa<|Am rfl ?_
 have J0:=BD F0 .hd
 have W3:=BE F0 .hd
 have X2:=BF (α:=List Int) (v:=c0) (xs:=g0) J0 L (Bk (α:=List Int) F0 .hd Y0 hL)
 refine Au hb0 func38 rfl (.cons (.tmp rfl) (.cons (.tmp rfl) .nil)) rfl ?_
 cases h
 exact ⟨J0.ag,fun p q=>⟨c0,rfl,J0.kd X2 q⟩⟩
 refine Ae<|Ac rfl<|Af rfl<|Af rfl<|Aa<|Am rfl ?_
 have Y2:=Rep.nilAt (α:=List Int) z0 L
 refine Au hb0 func38 rfl (.cons (.tmp rfl) (.cons (.tmp rfl) .nil)) rfl ?_
 cases h
 exact ⟨z0.ag,fun p q=>⟨vN,rfl,z0.kd Y2 q⟩⟩
def ap_l1 (_n:Nat) (a0:List Int) (j0:Nat) (d0:Bool × Nat -> Option Bool):Bool × Nat -> Option Bool
  | (c0,b0)=>(if b0 < a0.length then (if b0 = j0 then d0 (c0,b0 + 1) else (a0[b0]?).bind fun p0=>(a0[j0]?).bind fun q0=>jn (fun k0=>d0 (k0,b0 + 1)) (fun g0=>(if q0 <= p0 then g0 false else g0 c0))) else some c0)
def ap_l2 (n:Nat) (a0:List Int) (c0:Nat -> Option (Int ⊕ Unit)):Nat -> Option (Int ⊕ Unit)
  | b0=>(if b0 < a0.length then Option.bind (ak (ap_l1 n a0 b0) n (true,0)) (fun d0=>(if d0 = true then some (.inl ((b0:Nat):Int)) else c0 (b0 + 1))) else some (.inr ()))
def ap_p (n:Nat) (a0:List Int):Option Int:=
  thn (ak (ap_l2 n a0) n 0) (fun _=>some (-1:Int))
theorem ap_c (n:Nat) {L w} (_hL:hl L w) {a0:List Int} {v0_0:Value} (h0_0:Rep.R w L [v0_0] a0)  {r:Int} (h:ap_p n a0 = some r) :
 Cl 89 #[v0_0] w (ah w fun _ u=>u = vI r):=by
 unfold ap_p at h
 refine AF func89 rfl rfl rfl fun _ cs0 hb0=>Ae<|Af rfl<|Aa<|Aj<|Ae<|Af rfl<|Aa<|Av<|tn h fun B1 c1 x0=>MX.lo (α:=Nat) (fun g0=>[(0,v0_0),(3,vI ((g0:Nat):Int))]) (fun g0=>[]) (fun g0=>g0) 0 c1 (AB w) ?_
 rintro v1 g0 E1 I0 q0 M0 h
 unfold ap_l2 at h
 try dsimp only at h
 refine Aj<|Ae<|Ac rfl<|Ac rfl ?_
 have y0:=AS h0_0 q0
 have z1:a0.length <= 281474976710656:=AX y0
 refine Ab (Be (xs:=a0) underlying38 rfl y0)<|Ab (Bq (i:=g0) (j:=a0.length) rfl rfl)<|Aa<|AM rfl h (fun F0 h=>?_) (fun F0 h=>?_)
 refine Ar<|Aj<|Av<|Ae<|Af rfl<|Aa<|Aj<|Ae<|Af rfl<|Aa<|Av ?_
 obtain ⟨A1,b1,V0⟩:=ar h
 refine MX.lo (α:=Bool × Nat) (fun ⟨k0,d0⟩=>[(0,v0_0),(3,vI ((g0:Nat):Int)),(4,.bool k0),(5,vI ((d0:Nat):Int))]) (fun ⟨k0,d0⟩=>[]) (fun ⟨k0,d0⟩=>(k0,d0)) (true,0) b1 q0 ?_
 rintro s1 ⟨k0,d0⟩ C1 u0 j0 s0 h
 unfold ap_l1 at h
 try dsimp only at h
 refine Aj<|Ae<|Ac rfl<|Ac rfl ?_
 have t0:=AS h0_0 j0
 refine Ab (Be (xs:=a0) underlying38 rfl t0)<|Ab (Bq (i:=d0) (j:=a0.length) rfl rfl)<|Aa<|AM rfl h (fun B0 h=>?_) (fun B0 h=>?_)
 refine Ar<|Aj<|Av<|Aj<|du 14 fun b0 c0=>Rv 0 b0 rfl c0 (fun _=>Ah rfl)<|Rv 1 b0 rfl c0 (fun _=>Ah rfl)<|Rv 2 b0 rfl c0 (fun _=>FV.neqN (i:=d0) (j:=g0) rfl rfl)<|Rv 3 b0 rfl c0 (fun _=>Ah rfl)<|RD.ifn (s:=21) rfl h (fun C0 h=>?_) (fun C0 h=>?_)
 refine Bj 8191 1 [(4,22),(5,23),(6,24),(7,25),(8,26),(9,27),(10,28),(11,29),(12,30)] (F:=[(21,false)]) (U:=[]) b0 c0 (.cons rfl .nil) .nil ?_
 dsimp only [aB,List.map]
 refine Rv 13 b0 rfl c0 (fun _=>AO rfl rfl)<|AP (dk b0)<|By rfl<|Ar<|Ax<|Ap<|Ac rfl<|Ab (Bf (i:=d0) (j:=1) rfl rfl (by omega))<|Af rfl<|Aa<|u0 (k0,d0 + 1) j0 s0 h
 refine BJ 4 31 b0 rfl c0 (.yes rfl rfl) (fun _=>Ah rfl) rfl<|BJ 5 63 b0 rfl c0 (.yes rfl rfl) (fun _=>Ah rfl) rfl<|bk h fun z0 j1 h=>?_
 obtain ⟨p1,x1,P0,W0,G0,d1,Y0⟩:=Bn t0 j1
 have Q0:G0 = [vI z0]:=d1; subst Q0
 refine BJ 6 127 b0 rfl c0 (.yes rfl rfl) (fun _=>Bc 1 d0 rfl P0 rfl rfl W0) rfl<|RD.val (i:=7) (m' :=255) (W:=12288) (tk b0) rfl c0 (.yes rfl rfl) (AL rfl (Y0 0 _ rfl)) rfl<|BJ 8 511 b0 rfl c0 (.yes rfl rfl) (fun _=>Ah rfl) rfl<|BJ 9 1023 b0 rfl c0 (.yes rfl rfl) (fun _=>Ah rfl) rfl<|bk h fun A0 k1 h=>?_
 obtain ⟨q1,y1,R0,X0,H0,g1,Z0⟩:=Bn t0 k1
 have U0:H0 = [vI A0]:=g1; subst U0
 refine BJ 10 2047 b0 rfl c0 (.yes rfl rfl) (fun _=>Bc 1 g0 rfl R0 rfl rfl X0) rfl<|RD.val (i:=11) (m' :=4095) (W:=12288) (tk b0) rfl c0 (.yes rfl rfl) (AL rfl (Z0 0 _ rfl)) rfl<|BJ 12 8191 b0 rfl c0 (.yes rfl rfl) (fun _=>FV.geq (i:=z0) (j:=A0) rfl rfl) rfl<|Rv 13 b0 rfl c0 (fun _=>BK rfl rfl)<|AP (dk b0)<|MX.jo (α:=Bool) (fun p0=>[(0,v0_0),(3,vI ((g0:Nat):Int)),(4,.bool p0),(5,vI ((d0:Nat):Int))]) (fun p0=>[]) (fun p0=>p0) j0 h ?_ ?_
 rintro p0 D1 J0 K0 h
 try dsimp only at h
 refine Ax<|Ap<|Ac rfl<|Ab (Bf (i:=d0) (j:=1) rfl rfl (by omega))<|Af rfl<|Aa<|u0 (p0,d0 + 1) J0 (Tt s0 K0) h
 intro u1 v0 h
 try dsimp only at h
 refine AM rfl h (fun D0 h=>?_) (fun D0 h=>?_)
 refine Ap<|Af rfl<|Aa<|v0 false j0 (Bw _ _) h
 refine Ar<|v0 k0 j0 (Bw _ _) h
 refine AT rfl ?_
 have h:=V0 _ h
 try dsimp only at h
 refine Ae<|Ac rfl<|Aa<|MX.ifb rfl h (fun E0 h=>?_) (fun E0 h=>?_)
 refine Ae<|Ac rfl<|Af rfl<|Aa ?_
 have h:=au h x0
 refine Am rfl<|AQ hb0 func89 rfl rfl ?_
 cases h
 exact j0.gv
 refine Ar<|Ax<|Ap<|Ac rfl<|Ab (Bf (i:=g0) (j:=1) rfl rfl (by omega))<|Af rfl<|Aa<|I0 (g0 + 1) j0 (Tt M0 s0) h
 refine AT rfl ?_
 have h:=ay h x0
 try dsimp only at h
 refine Ae<|Af rfl<|Aa<|Am rfl<|AQ hb0 func89 rfl rfl ?_
 cases h
 exact q0.gv
def ao_l1 (n:Nat) (a2:Int) (q0:(List (List Int)) × Int) (d0:Int × (List Int) -> Option (List Int)):Int × (List Int) -> Option (List Int)
  | (b0,c0)=>(if b0 < a2 then (idx q0.1 b0).bind fun j0=>(ap_p n j0).bind fun p0=>(app c0 ([p0]:List Int)).bind fun k0=>(chk (b0 + 1)).bind fun g0=>d0 (g0,k0) else some c0)
def ao_p (n:Nat) (a0:Td) (a1:List Int) (a2:Int):Option ((List Int) × Int):=
  (aa_p n a0 a1 a2).bind fun b0=>(if b0.2 = 0 then Option.bind (ak (ao_l1 n a2 b0) n (0,([]:List Int))) (fun c0=>some (c0,(0:Int))) else some (([]:List Int),b0.2))
theorem ao_c (n:Nat) {L w} (hL:hl L w) (a0:Td) {v0_3:Value} (h0_3:Rep.R w L [v0_3] a0.ft) {a1:List Int} {v1_0:Value} (h1_0:Rep.R w L [v1_0] a1) {a2:Int}  {r:(List Int) × Int} (h:ao_p n a0 a1 a2 = some r) :
 Cl 39 #[.agg #[vI a0.fe,vI a0.fc,vI a0.fh,v0_3],v1_0,vI a2] w (ah w fun w' u=>∃ v0_0:Value,u = .tuple #[v0_0,vI r.2]/\Rep.R w' L [v0_0] r.1):=by
 unfold ao_p at h
 refine AF func39 rfl rfl rfl fun _ cs0 hb0=>Ae<|RG.bx (AB w) rfl rfl fun P1 D1 p0 G1=>Af rfl<|Af rfl<|Aa<|Ae<|Ab (AI rfl (p0.memA .hd))<|Ac rfl<|Ac rfl<|bk h fun z1 s1 h=>jE (bd 38) rfl (e3 rfl rfl rfl) (fun p q=>aa_c n (p0.hL hL q) a0 (p0.km h0_3 q) (p0.km h1_0 q) s1) rfl fun U1 M1 K0 ⟨x1,hu_,c1⟩=>?_
 subst hu_
 obtain ⟨q0,I1⟩:=p0.agr K0
 refine Ac rfl<|Ab (Ai rfl rfl)<|Ab (Ai rfl rfl)<|Af rfl<|Af rfl<|Aa<|Aj<|Ae<|Ac rfl<|Ab (FV.neq (i:=z1.2) (j:=0) rfl rfl)<|Aa<|MX.ifn rfl h (fun D0 h=>?_) (fun D0 h=>?_)
 refine Ar<|Ae<|Af rfl<|Aa<|Aj<|Ae<|Af rfl<|Aa<|Av ?_
 have u0:=q0.nilRow 3 (Rep.size Int)
 obtain ⟨G0,v0⟩:=AH u0 (.a0 .done)
 obtain ⟨J1,W0,Q0⟩:=ar h
 refine MX.lf (α:=Int × (List Int) × Value × (List Value)) (fun ⟨d0,c0,b0,j0⟩=>[(2,vI a2),(8,x1),(10,b0),(11,vI d0)]) (fun ⟨d0,c0,b0,j0⟩=>[rr w 3 Int b0 c0.length j0]) (fun ⟨d0,c0,b0,j0⟩ B0=>Cells B0 (bl [rr w 3 Int b0 c0.length j0] ++ L) j0 c0) (fun ⟨d0,c0,b0,j0⟩=>(d0,c0)) (0,([]:List Int),vN,[]) W0 G0 (Aq (Aw (cs:=[]) (xs:=([]:List Int)) u0 L (AC _ _)) v0) ?_
 rintro B1 ⟨d0,c0,b0,j0⟩ B0 F0 k0 x0 A0 h
 unfold ao_l1 at h
 try dsimp only at h
 refine Aj<|Ae<|Ac rfl<|Ac rfl<|Ab (BS (i:=d0) (j:=a2) rfl rfl)<|Aa<|AM rfl h (fun C0 h=>?_) (fun C0 h=>?_)
 refine Ar<|Aj<|Av<|Ap<|Ac rfl<|Ac rfl<|Ac rfl<|bk h fun V1 j1 h=>?_
 obtain ⟨R0,k1⟩:=az j1
 obtain ⟨A1,E1,P0,U0,F1,X0,V0⟩:=Bn (Ay c1 (Tt (St.nilRowT q0 3 (Rep.size Int)) (Tt v0 x0))) k1
 obtain ⟨K1,rfl,Y0⟩:=aP X0
 refine Ab (Bc 1 (d0.toNat) rfl P0 rfl R0 U0)<|AN rfl (V0 0 _ rfl)<|bk h fun g0 q1 h=>Bh (vI g0) (bd 89) rfl (e1 rfl) (fun p q=>ap_c n (k0.hL0 hL q) (k0.kd Y0 q) q1) rfl<|Ao .plain rfl (jA g0 (vI g0) k0 av (e1 rfl)) fun Q1 C1 s0 y0=>bk h fun y1 p1 h=>RG.doesL .plain rfl (AU (α:=Int) (ys:=([g0]:List Int)) p1 s0 (fun _ _=>.t1) av rfl rfl (Aq A0 y0) (Src.row (α:=Int) s0 .hd (jC g0 (vI g0) s0 L rfl))) fun v1 R1 ⟨E0,H0,J0,M0⟩=>Af rfl<|Aa<|Ax<|Ap<|Ac rfl<|bk h fun u1 g1 h=>Ab (BC (i:=d0) (j:=1) rfl rfl g1)<|Af rfl<|Aa ?_
 obtain ⟨I0,z0⟩:=AH H0 .d1
 exact F0 (u1,y1,v1,E0) I0 (Tt x0 (Tt y0 (Tt J0 z0))) (Aq M0 z0) h
 refine AT rfl ?_
 have h:=Q0 _ h
 try dsimp only at h
 refine Ae<|Ac rfl<|Af rfl<|Af rfl<|Aa<|Am rfl ?_
 have t0:=BD k0 .hd
 have H1:=BE k0 .hd
 have Z0:=BF (α:=Int) (v:=b0) (xs:=c0) t0 L (Bk (α:=Int) k0 .hd A0 hL)
 refine Au hb0 func39 rfl (.cons (.tmp rfl) (.cons (.tmp rfl) .nil)) rfl ?_
 cases h
 exact ⟨t0.ag,fun p q=>⟨b0,rfl,t0.kd Z0 q⟩⟩
 refine Ae<|Ac rfl<|Af rfl<|Af rfl<|Aa<|Am rfl ?_
 have b1:=Rep.nilAt (α:=Int) q0 L
 refine Au hb0 func39 rfl (.cons (.tmp rfl) (.cons (.tmp rfl) .nil)) rfl ?_
 cases h
 exact ⟨q0.ag,fun p q=>⟨vN,rfl,q0.kd b1 q⟩⟩
def az_l1 (_n:Nat) (a2:Int) (x0:(List Int) × Int) (k0:Int × Int × (List Int) -> Option ((List Int) × Int)):Int × Int × (List Int) -> Option ((List Int) × Int)
  | (d0,g0,b0)=>(if g0 < a2 then (idx x0.1 g0).bind fun c0=>jn (fun (y0,u0)=>(chk (g0 + 1)).bind fun p0=>k0 (y0,p0,u0)) (fun j0=>(if c0 < 0 then (chk (d0 + 1)).bind fun q0=>j0 (q0,b0) else (idx b0 c0).bind fun t0=>(chk (t0 + 1)).bind fun s0=>(put b0 ((c0.toNat:Nat):Int) s0).bind fun v0=>j0 (d0,v0))) else some (b0,d0))
def az_p (n:Nat) (a0:Td) (a1:List Int) (a2:Int):Option ((List Int) × Int × Int):=
  (ao_p n a0 a1 a2).bind fun b0=>(if b0.2 = 0 then (mk a0.fc (0:Int)).bind fun d0=>Option.bind (ak (az_l1 n a2 b0) n (0,0,d0)) (fun (c0,g0)=>some (c0,g0,(0:Int))) else some (([]:List Int),(0:Int),b0.2))
theorem az_c (n:Nat) {L w} (hL:hl L w) (a0:Td) {v0_3:Value} (h0_3:Rep.R w L [v0_3] a0.ft) {a1:List Int} {v1_0:Value} (h1_0:Rep.R w L [v1_0] a1) {a2:Int}  {r:(List Int) × Int × Int} (h:az_p n a0 a1 a2 = some r) :
 Cl 40 #[.agg #[vI a0.fe,vI a0.fc,vI a0.fh,v0_3],v1_0,vI a2] w (ah w fun w' u=>∃ v0_0:Value,u = .tuple #[v0_0,vI r.2.1,vI r.2.2]/\Rep.R w' L [v0_0] r.1):=by
 unfold az_p at h
 refine AF func40 rfl rfl rfl fun _ cs0 hb0=>Ae<|RG.bx (AB w) rfl rfl fun z2 j2 t0 s2=>Af rfl<|Af rfl<|Af rfl<|Aa<|Ae<|Ab (AI rfl (t0.memA .hd))<|Ac rfl<|Ac rfl<|bk h fun b2 W1 h=>jE (bd 39) rfl (e3 rfl rfl rfl) (fun p q=>ao_c n (t0.hL hL q) a0 (t0.km h0_3 q) (t0.km h1_0 q) W1) rfl fun A2 y2 v1 ⟨P0,hu_,F1⟩=>?_
 subst hu_
 obtain ⟨u0,t2⟩:=t0.agr v1
 refine Ac rfl<|Ab (Ai rfl rfl)<|Ab (Ai rfl rfl)<|Af rfl<|Af rfl<|Aa<|Aj<|Ae<|Ac rfl<|Ab (FV.neq (i:=b2.2) (j:=0) rfl rfl)<|Aa<|MX.ifn rfl h (fun Z0 h=>?_) (fun Z0 h=>?_)
 refine Ar<|Ae<|Bb 1 rfl<|AN rfl ((u0.memA .hd) 1 _ rfl)<|bk h fun V0 M0 h=>Ao .plain rfl (Does.mk (α:=Int) M0 u0 av rfl) fun B2 g0 C0 u1=>Af rfl<|Aa<|Ae<|Af rfl<|Aa<|Aj<|Ae<|Af rfl<|Aa<|Av ?_
 obtain ⟨k1,D0⟩:=AH C0 (.a0 .done)
 obtain ⟨v2,D1,B1⟩:=ar h
 refine MX.lf (α:=Int × Int × (List Int) × (List Value)) (fun ⟨q0,b0,c0,j0⟩=>[(2,vI a2),(9,P0),(11,(.slice (some ⟨g0,0,none⟩) a0.fc.toNat a0.fc.toNat)),(12,vI q0),(13,vI b0)]) (fun ⟨q0,b0,c0,j0⟩=>[rr w 3 Int (.slice (some ⟨g0,0,none⟩) a0.fc.toNat a0.fc.toNat) c0.length j0]) (fun ⟨q0,b0,c0,j0⟩ Q0=>Cells Q0 (bl [rr w 3 Int (.slice (some ⟨g0,0,none⟩) a0.fc.toNat a0.fc.toNat) c0.length j0] ++ L) j0 c0) (fun ⟨q0,b0,c0,j0⟩=>(q0,b0,c0)) (0,0,V0,(List.replicate a0.fc.toNat [vI 0]).flatten) D1 k1 (Aq (Aw (cs:=(List.replicate a0.fc.toNat [vI 0]).flatten) (xs:=V0) C0 L (BT M0 rfl)) D0) ?_
 rintro d2 ⟨q0,b0,c0,j0⟩ Q0 j1 p0 E0 x0 h
 unfold az_l1 at h
 try dsimp only at h
 refine Aj<|Ae<|Ac rfl<|Ac rfl<|Ab (BS (i:=b0) (j:=a2) rfl rfl)<|Aa<|AM rfl h (fun Y0 h=>?_) (fun Y0 h=>?_)
 refine Ar<|Aj<|Av<|Ae<|Ac rfl<|Ac rfl<|bk h fun v0 P1 h=>?_
 obtain ⟨H0,Q1⟩:=az P1
 obtain ⟨c2,k2,F0,J0,c1,E1,K0⟩:=Bn (Ay F1 (Tt u1 (Tt D0 E0))) Q1
 have z1:c1 = [vI v0]:=E1; subst z1
 refine Ab (Bc 1 (b0.toNat) rfl F0 rfl H0 J0)<|AN rfl (K0 0 _ rfl)<|Ab (BS (i:=v0) (j:=0) rfl rfl)<|Aa<|MX.jf (α:=Int × (List Int) × (List Value)) (fun ⟨s0,d0,k0⟩=>[(2,vI a2),(9,P0),(11,(.slice (some ⟨g0,0,none⟩) a0.fc.toNat a0.fc.toNat)),(12,vI s0),(13,vI b0)]) (fun ⟨s0,d0,k0⟩=>[rr w 3 Int (.slice (some ⟨g0,0,none⟩) a0.fc.toNat a0.fc.toNat) d0.length k0]) (fun ⟨s0,d0,k0⟩ R0=>Cells R0 (bl [rr w 3 Int (.slice (some ⟨g0,0,none⟩) a0.fc.toNat a0.fc.toNat) d0.length k0] ++ L) k0 d0) (fun ⟨s0,d0,k0⟩=>(s0,d0)) p0 h ?_ ?_
 rintro ⟨s0,d0,k0⟩ R0 p1 s1 x1 h
 try dsimp only at h
 refine Ax<|Ap<|Ac rfl<|bk h fun X1 J1 h=>Ab (BC (i:=b0) (j:=1) rfl rfl J1)<|Af rfl<|Aa<|j1 (s0,X1,d0,k0) p1 (Tt E0 s1) x1 h
 intro g2 B0 h
 try dsimp only at h
 refine AM rfl h (fun b1 h=>?_) (fun b1 h=>?_)
 refine Ap<|Ac rfl<|bk h fun Y1 K1 h=>Ab (BC (i:=q0) (j:=1) rfl rfl K1)<|Af rfl<|Aa<|B0 (Y1,c0,j0) p0 (Bw _ _) x0 h
 refine Ap<|Ac rfl<|Ac rfl<|Ac rfl<|Ab (Bc 1 (b0.toNat) rfl F0 rfl H0 J0)<|AN rfl (K0 0 _ rfl)<|bk h fun U0 R1 h=>?_
 obtain ⟨I0,U1⟩:=az R1
 obtain ⟨W0,p2,y0,A0,d1,G1,C1⟩:=St.nth (α:=Int) p0 .hd x0 U1
 obtain ⟨X0,q2,G0⟩:=BA (α:=Int) p0 .hd A0
 obtain rfl:W0 = ⟨X0,0,none⟩:=by rw [G0] at y0; cases y0; rfl
 have A1:d1 = [vI U0]:=G1; subst A1
 refine Ab (Bc 1 (v0.toNat) rfl y0 rfl I0 A0)<|AN rfl (C1 0 _ rfl)<|bk h fun x2 M1 h=>Ab (BC (i:=U0) (j:=1) rfl rfl M1)<|Ab (Bc 1 (v0.toNat) rfl y0 rfl I0 A0)<|bk h fun Z1 V1 h=>RG.acts' .plain (Acts.set (α:=Int) (i:=v0.toNat) V1 p0 G0 (fun _=>.hd) x0 rfl rfl rfl rfl rfl rfl) fun C2 ⟨g1,q1,t1,y1⟩=>Aa<|B0 (q0,Z1,g1) q1 t1 y1 h
 refine AT rfl ?_
 have h:=B1 _ h
 try dsimp only at h
 refine Ae<|Ac rfl<|Ac rfl<|Af rfl<|Af rfl<|Af rfl<|Aa<|Am rfl ?_
 have z0:=BD p0 .hd
 have u2:=BE p0 .hd
 have H1:=BF (α:=Int) (v:=(.slice (some ⟨g0,0,none⟩) a0.fc.toNat a0.fc.toNat)) (xs:=c0) z0 L (Bk (α:=Int) p0 .hd x0 hL)
 refine Au hb0 func40 rfl (.cons (.tmp rfl) (.cons (.tmp rfl) (.cons (.tmp rfl) .nil))) rfl ?_
 cases h
 exact ⟨z0.ag,fun p q=>⟨(.slice (some ⟨g0,0,none⟩) a0.fc.toNat a0.fc.toNat),rfl,z0.kd H1 q⟩⟩
 refine Ae<|Ac rfl<|Af rfl<|Af rfl<|Af rfl<|Aa<|Am rfl ?_
 have I1:=Rep.nilAt (α:=Int) u0 L
 refine Au hb0 func40 rfl (.cons (.tmp rfl) (.cons (.tmp rfl) (.cons (.tmp rfl) .nil))) rfl ?_
 cases h
 exact ⟨u0.ag,fun p q=>⟨vN,rfl,u0.kd I1 q⟩⟩
def ai_l1 (n:Nat) (c0:(List (List Int)) × Int) (k0:(List (List Int)) × Int) (d0:Nat -> Option ((Bool ⊕ Unit) ⊕ Unit)):Nat -> Option ((Bool ⊕ Unit) ⊕ Unit)
  | b0=>(if b0 < c0.1.length then (c0.1[b0]?).bind fun g0=>(k0.1[b0]?).bind fun j0=>(al_p n g0 j0).bind fun p0=>(if p0 = true then d0 (b0 + 1) else some (.inl (.inl false))) else some (.inr ()))
def ai_l2 (n:Nat) (c0:(List Tj) × Int) (t0:Nat -> Option (Bool ⊕ Unit)):Nat -> Option (Bool ⊕ Unit)
  | d0=>(if d0 < c0.1.length then (c0.1[d0]?).bind fun b0=>(ce_p n b0.fr b0.fp c0.2).bind fun g0=>(aa_p n b0.fr b0.fp c0.2).bind fun j0=>(aY_p n b0.fr b0.fp c0.2).bind fun q0=>(ao_p n b0.fr b0.fp c0.2).bind fun s0=>(a9_p n b0.fr b0.fp c0.2).bind fun k0=>(az_p n b0.fr b0.fp c0.2).bind fun p0=>(if g0.1.length = j0.1.length then thn (ak (ai_l1 n g0 j0) n 0) (fun _=>(if g0.2 = j0.2 then (al_p n q0.1 s0.1).bind fun u0=>(if u0 = true then (if q0.2 = s0.2 then (al_p n k0.1 p0.1).bind fun v0=>(if v0 = true then (if k0.2.1 = p0.2.1 then (if k0.2.2 = p0.2.2 then t0 (d0 + 1) else some (.inl false)) else some (.inl false)) else some (.inl false)) else some (.inl false)) else some (.inl false)) else some (.inl false))) else some (.inl false)) else some (.inr ()))
def ai_p (n:Nat) (a0:Tk) (a1:Ti) (a2:Tl) (a3:Tl):Option Bool:=
  (bD_p n).bind fun b0=>(if b0 = true then (bq_p n a0 a1 a2 a3).bind fun c0=>thn (ak (ai_l2 n c0) n 0) (fun _=>some true) else some false)
theorem ai_c (n:Nat) {L w} (hL:hl L w) (a0:Tk) {v0_1:Value} (h0_1:Rep.R w L [v0_1] a0.fB) {v0_2:Value} (h0_2:Rep.R w L [v0_2] a0.fMore) {v0_3:Value} (h0_3:Rep.R w L [v0_3] a0.fLabels) (a1:Ti) {v1_4:Value} (h1_4:Rep.R w L [v1_4] a1.fNums) (a2:Tl) (a3:Tl)  {r:Bool} (h:ai_p n a0 a1 a2 a3 = some r) :
 Cl 9 #[.agg #[.int .u8 (a0.fN.toNat:Int),v0_1,v0_2,v0_3,.int .u8 (a0.fK.toNat:Int)],.agg #[.int .u8 (a1.fe.toNat:Int),.int .u8 (a1.fc.toNat:Int),.int .u8 (a1.fh.toNat:Int),.int .u8 (a1.fq.toNat:Int),v1_4],.agg #[.int .u8 (a2.fE.toNat:Int),.int .u8 (a2.fA.toNat:Int),vI a2.fN],.agg #[.int .u8 (a3.fE.toNat:Int),.int .u8 (a3.fA.toNat:Int),vI a3.fN]] w (ah w fun _ u=>u = .bool r):=by
 unfold ai_p at h
 refine AF func9 rfl rfl rfl fun _ cs0 hb0=>Ae<|RG.bx (AB w) rfl rfl fun C4 D3 K1 R3=>RG.bx K1 rfl rfl fun D4 E3 M1 U3=>RG.bx M1 rfl rfl fun E4 F3 P1 V3=>RG.bx P1 rfl rfl fun I4 G3 d0 W3=>Af rfl<|Aa<|Aj<|Ae<|bk h fun s3 Z2 h=>Bh (.bool s3) (bd 10) rfl ai (fun p q=>bD_c n (d0.hL0 hL q)  Z2) rfl<|Ab (Bo rfl)<|Aa<|MX.ifnb rfl h (fun y1 h=>?_) (fun y1 h=>?_)
 refine Ar<|Ae<|Ab (AI rfl (d0.memA .t3))<|Ab (AI rfl (d0.memA .t2))<|Ab (AI rfl (d0.memA .t1))<|Ab (AI rfl (d0.memA .hd))<|bk h fun C0 c3 h=>jE (bd 11) rfl (e4 rfl rfl rfl rfl) (fun p q=>bq_c n (d0.hL hL q) a0 (d0.km h0_1 q) (d0.km h0_2 q) (d0.km h0_3 q) a1 (d0.km h1_4 q) a2 a3 c3) rfl fun R4 B4 k2 ⟨k3,hu_,V0⟩=>?_
 subst hu_
 obtain ⟨U1,X3⟩:=d0.agr k2
 refine Ac rfl<|Ab (Ai rfl rfl)<|Ab (Ai rfl rfl)<|Af rfl<|Af rfl<|Aa<|Aj<|Ae<|Ac rfl ?_
 have b4:C0.1.length <= 281474976710656:=AX V0
 refine Ab (Be (xs:=C0.1) underlying32 rfl V0)<|Ac rfl<|Aa<|Av ?_
 obtain ⟨Q1,W1⟩:=AH U1 .done
 refine tn h fun d4 B2 j0=>MX.lo (α:=Nat) (fun k0=>[(10,vI C0.2),(37,k3),(38,vI ((C0.1.length:Nat):Int)),(39,vI ((k0:Nat):Int))]) (fun k0=>[]) (fun k0=>k0) 0 B2 Q1 ?_
 rintro B3 k0 U4 I1 W0 Y0 h
 unfold ai_l2 at h
 try dsimp only at h
 refine Ae<|Ab (Bq (i:=k0) (j:=C0.1.length) rfl rfl)<|Aa<|Aj<|AM rfl h (fun x1 h=>?_) (fun x1 h=>?_)
 refine Ar<|Aj<|Av<|Ae<|bk h fun b0 P2 h=>?_
 obtain ⟨y3,H3,p2,u2,K3,D2,y2⟩:=Bn (Ay V0 (Tt W1 Y0)) P2
 obtain ⟨q0,k1,rfl,s0,t0⟩:=op_Tj D2
 refine Ab (Bc 5 k0 rfl p2 rfl rfl u2)<|Ab (AI rfl y2)<|RG.nl [vI 0,vI 0,vI 0,vN,vN] W0 fun F4 v1 R1 y0=>AY [vI b0.fr.fe,vI b0.fr.fc,vI b0.fr.fh,q0,k1] R1 .hd (o5 rfl rfl rfl (Bg (Ay s0 y0)) (Bg (Ay t0 y0))) fun G4 D0 M0=>Aa<|Ae<|Bb 0 rfl<|Ab (Bz (cs:=[vI b0.fr.fe,vI b0.fr.fc,vI b0.fr.fh,q0]) rfl rfl (ap (D0.memA .hd) 0 4))<|Bb 4 rfl<|AN rfl ((D0.memA .hd) 4 _ rfl)<|Ac rfl<|bk h fun u0 U2 h=>jE (bd 23) rfl (e3 rfl rfl rfl) (fun p q=>ce_c n (D0.hL hL q) b0.fr (Az (Ay s0 (Tt y0 M0)) q) (Az (Ay t0 (Tt y0 M0)) q) U2) rfl fun H4 u4 Z1 ⟨p1,hu_,g1⟩=>?_
 subst hu_
 obtain ⟨E0,X1⟩:=D0.agr Z1
 refine Ac rfl<|Ab (Ai rfl rfl)<|Ab (Ai rfl rfl)<|Af rfl<|Af rfl<|Aa<|Ae<|Bb 0 rfl<|Ab (Bz (cs:=[vI b0.fr.fe,vI b0.fr.fc,vI b0.fr.fh,q0]) rfl rfl (ap (E0.memA .hd) 0 4))<|Bb 4 rfl<|AN rfl ((E0.memA .hd) 4 _ rfl)<|Ac rfl<|bk h fun K0 V2 h=>?_
 have A0:=Tt y0 (Tt M0 X1)
 refine jE (bd 38) rfl (e3 rfl rfl rfl) (fun p q=>aa_c n (E0.hL hL q) b0.fr (Az (Ay s0 A0) q) (Az (Ay t0 A0) q) V2) rfl fun J4 v4 b2 ⟨q1,hu_,j1⟩=>?_
 subst hu_
 obtain ⟨F0,J0⟩:=E0.agr b2
 refine Ac rfl<|Ab (Ai rfl rfl)<|Ab (Ai rfl rfl)<|Af rfl<|Af rfl<|Aa<|Ae<|Bb 0 rfl<|Ab (Bz (cs:=[vI b0.fr.fe,vI b0.fr.fc,vI b0.fr.fh,q0]) rfl rfl (ap (F0.memA .hd) 0 4))<|Bb 4 rfl<|AN rfl ((F0.memA .hd) 4 _ rfl)<|Ac rfl<|bk h fun p3 W2 h=>jE (bd 24) rfl (e3 rfl rfl rfl) (fun p q=>aY_c n (F0.hL hL q) b0.fr (Az (Ay s0 (Tt A0 J0)) q) (Az (Ay t0 (Tt A0 J0)) q) W2) rfl fun K4 x4 c2 ⟨j4,hu_,E2⟩=>?_
 subst hu_
 obtain ⟨G0,P0⟩:=F0.agr c2
 refine Ac rfl<|Ab (Ai rfl rfl)<|Ab (Ai rfl rfl)<|Af rfl<|Af rfl<|Aa<|Ae<|Bb 0 rfl<|Ab (Bz (cs:=[vI b0.fr.fe,vI b0.fr.fc,vI b0.fr.fh,q0]) rfl rfl (ap (G0.memA .hd) 0 4))<|Bb 4 rfl<|AN rfl ((G0.memA .hd) 4 _ rfl)<|Ac rfl<|bk h fun q3 X2 h=>?_
 have B0:=Tt A0 (Tt J0 P0)
 refine jE (bd 39) rfl (e3 rfl rfl rfl) (fun p q=>ao_c n (G0.hL hL q) b0.fr (Az (Ay s0 B0) q) (Az (Ay t0 B0) q) X2) rfl fun M4 y4 d2 ⟨k4,hu_,F2⟩=>?_
 subst hu_
 obtain ⟨H0,v0⟩:=G0.agr d2
 refine Ac rfl<|Ab (Ai rfl rfl)<|Ab (Ai rfl rfl)<|Af rfl<|Af rfl<|Aa<|Ae<|Bb 0 rfl<|Ab (Bz (cs:=[vI b0.fr.fe,vI b0.fr.fc,vI b0.fr.fh,q0]) rfl rfl (ap (H0.memA .hd) 0 4))<|Bb 4 rfl<|AN rfl ((H0.memA .hd) 4 _ rfl)<|Ac rfl<|bk h fun s1 Y2 h=>jE (bd 27) rfl (e3 rfl rfl rfl) (fun p q=>a9_c n (H0.hL hL q) b0.fr (Az (Ay s0 (Tt B0 v0)) q) (Az (Ay t0 (Tt B0 v0)) q) Y2) rfl fun P4 z4 g2 ⟨p4,hu_,G2⟩=>?_
 subst hu_
 obtain ⟨I0,z0⟩:=H0.agr g2
 refine Ac rfl<|Ab (Ai rfl rfl)<|Ab (Ai rfl rfl)<|Ab (Ai rfl rfl)<|Af rfl<|Af rfl<|Af rfl<|Aa<|Ae<|Bb 0 rfl<|Ab (Bz (cs:=[vI b0.fr.fe,vI b0.fr.fc,vI b0.fr.fh,q0]) rfl rfl (ap (I0.memA .hd) 0 4))<|Bb 4 rfl<|AN rfl ((I0.memA .hd) 4 _ rfl)<|Ac rfl<|bk h fun u1 b3 h=>?_
 have U0:=Tt B0 (Tt v0 z0)
 refine jE (bd 40) rfl (e3 rfl rfl rfl) (fun p q=>az_c n (I0.hL hL q) b0.fr (Az (Ay s0 U0) q) (Az (Ay t0 U0) q) b3) rfl fun Q4 A4 j2 ⟨q4,hu_,H2⟩=>?_
 subst hu_
 obtain ⟨X0,x0⟩:=I0.agr j2
 refine Ac rfl<|Ab (Ai rfl rfl)<|Ab (Ai rfl rfl)<|Ab (Ai rfl rfl)<|Af rfl<|Af rfl<|Af rfl<|Aa<|Aj<|Ap<|Ac rfl<|Ac rfl<|BG (fst:=[]) (cap:=[]) (vs:=[p1,q1,.func (.func 28) #[] #[]]) .plain (bd 41) func41 rfl rfl rfl rfl (e3 rfl rfl rfl) rfl fun M3 Q0 c4=>Ae<|Af rfl<|Aa<|Aj<|Ae<|Ac rfl ?_
 have c1:=Tt J0 (Tt P0 (Tt v0 (Tt z0 x0)))
 have R0:=Ay g1 c1
 have Y3:u0.1.length <= 281474976710656:=AX R0
 refine Ab (Be (xs:=u0.1) underlying64 rfl R0)<|Ac rfl ?_
 have d1:=Tt P0 (Tt v0 (Tt z0 x0))
 have b1:=Ay j1 d1
 have Z3:K0.1.length <= 281474976710656:=AX b1
 refine Ab (Be (xs:=K0.1) underlying64 rfl b1)<|Ab (FV.neqN (i:=u0.1.length) (j:=K0.1.length) rfl rfl)<|Aa<|MX.ifn rfl h (fun z1 h=>?_) (fun z1 h=>?_)
 refine Ar<|Aj<|Ae<|Ac rfl<|Ab (Be (xs:=u0.1) underlying64 rfl R0)<|Ac rfl<|Aa<|Av<|tn h fun g4 C2 Z0=>MX.lo (α:=Nat) (fun g0=>[(1,q1),(2,.func (.func 28) #[] #[]),(15,p1),(16,vI ((u0.1.length:Nat):Int)),(17,vI ((g0:Nat):Int))]) (fun g0=>[.cells v1 [vI b0.fr.fe,vI b0.fr.fc,vI b0.fr.fh,q0,k1] 41]) (fun g0=>g0) 0 C2 X0 ?_
 rintro C3 g0 V4 J1 c0 p0 h
 unfold ai_l1 at h
 try dsimp only at h
 refine Ae<|Ab (Bq (i:=g0) (j:=u0.1.length) rfl rfl)<|Aa<|Aj<|AM rfl h (fun A1 h=>?_) (fun A1 h=>?_)
 refine Ar<|Aj<|Av<|Ae<|Ac rfl<|bk h fun W4 Q2 h=>?_
 obtain ⟨z3,I3,q2,v2,P3,I2,z2⟩:=Bn (Ay g1 (Tt c1 p0)) Q2
 obtain ⟨s4,rfl,J2⟩:=aP I2
 refine Ab (Bc 1 g0 rfl q2 rfl rfl v2)<|AN rfl (z2 0 _ rfl)<|Af rfl<|Af rfl<|Aa<|Ae<|Ac rfl<|Ac rfl<|bk h fun X4 R2 h=>?_
 obtain ⟨A3,J3,s2,x2,Q3,K2,A2⟩:=Bn (Ay j1 (Tt d1 p0)) R2
 obtain ⟨t4,rfl,M2⟩:=aP K2
 refine Ab (Bc 1 g0 rfl s2 rfl rfl x2)<|AN rfl (A2 0 _ rfl)<|Af rfl<|Aa<|Ae<|Ac rfl<|Ac rfl<|Ac rfl<|bk h fun u3 d3 h=>Bh (.bool u3) (bd 28) rfl (e2 rfl rfl) (fun p q=>al_c n (c0.hL0 hL q) (c0.kd J2 q) (c0.kd M2 q) d3) rfl<|Ab (Bo rfl)<|Aa<|MX.ifnb rfl h (fun B1 h=>?_) (fun B1 h=>?_)
 refine Ar<|Ax<|Ap<|Ab (Bf (i:=g0) (j:=1) rfl rfl (by omega))<|Ac rfl<|Aa<|J1 (g0 + 1) c0 p0 h
 refine Ae<|Af rfl<|Aa ?_
 have h:=au h Z0
 refine Am rfl<|Au (u:=.bool false) Q0 func41 rfl (.cons (.tmp rfl) .nil) rfl<|Ab (Bo rfl)<|Ac rfl<|Al<|Al<|Al<|Bd rfl rfl<|Ac rfl<|Al<|Al<|Al<|Al<|Bd rfl rfl<|Ac rfl<|Al<|Al<|Al<|Bd rfl rfl<|Ac rfl<|Al<|Al<|Al<|Al<|Bd rfl rfl<|Ac rfl<|Al<|Al<|Al<|Bd rfl rfl<|Ac rfl<|Al<|Al<|Al<|Bd rfl rfl<|Aa<|Br rfl<|Ae<|Af rfl<|Aa ?_
 have h:=au h j0
 refine Am rfl<|AQ hb0 func9 rfl rfl ?_
 cases h
 exact c0.gv
 refine AT rfl ?_
 have h:=ay h Z0
 try dsimp only at h
 refine Ae<|Af rfl<|Aa<|Am rfl<|Au (u:=.bool true) Q0 func41 rfl (.cons (.tmp rfl) .nil) rfl<|Ab (Bo rfl)<|Ac rfl<|AE (Ah rfl)<|AE (Ah rfl)<|AE (FV.neq (i:=u0.2) (j:=K0.2) rfl rfl)<|Bx rfl rfl<|Ac rfl<|RG.ifn (s:=108) rfl h (fun C1 h=>?_) (fun C1 h=>?_)
 refine AE (Ah rfl)<|AE (Ah rfl)<|bk h fun v3 g3 h=>RG.callq' (v:=.bool v3) (fst:=[]) (cap:=[]) (.yes rfl rfl) (bd 28) rfl (e2 rfl rfl) (fun p q=>al_c n (c0.hL0 hL q) (c0.kd (Ay E2 (Tt v0 (Tt z0 (Tt x0 p0)))) q) (c0.kd (Ay F2 (Tt z0 (Tt x0 p0))) q) g3) rfl<|AE (Bo rfl)<|Bx rfl rfl<|Ac rfl<|RG.ifnb (s:=114) rfl h (fun D1 h=>?_) (fun D1 h=>?_)
 refine AE (Ah rfl)<|AE (Ah rfl)<|AE (FV.neq (i:=p3.2) (j:=q3.2) rfl rfl)<|Bx rfl rfl<|Ac rfl<|RG.ifn (s:=119) rfl h (fun E1 h=>?_) (fun E1 h=>?_)
 refine AE (Ah rfl)<|AE (Ah rfl)<|bk h fun x3 j3 h=>RG.callq' (v:=.bool x3) (fst:=[]) (cap:=[]) (.yes rfl rfl) (bd 28) rfl (e2 rfl rfl) (fun p q=>al_c n (c0.hL0 hL q) (c0.kd (Ay G2 (Tt x0 p0)) q) (c0.kd (Ay H2 p0) q) j3) rfl<|AE (Bo rfl)<|Bx rfl rfl<|Ac rfl<|RG.ifnb (s:=125) rfl h (fun F1 h=>?_) (fun F1 h=>?_)
 refine AE (Ah rfl)<|AE (Ah rfl)<|AE (FV.neq (i:=s1.2.1) (j:=u1.2.1) rfl rfl)<|Bx rfl rfl<|Ac rfl<|RG.ifn (s:=130) rfl h (fun G1 h=>?_) (fun G1 h=>?_)
 refine AE (Ah rfl)<|AE (Ah rfl)<|AE (FV.neq (i:=s1.2.2) (j:=u1.2.2) rfl rfl)<|Bx rfl rfl<|Aa<|MX.ifn rfl h (fun H1 h=>?_) (fun H1 h=>?_)
 refine Ar<|Ax<|Ap<|Ab (Bf (i:=k0) (j:=1) rfl rfl (by omega))<|Ac rfl<|Aa ?_
 obtain ⟨V1,Y1⟩:=AH c0 .done
 exact I1 (k0 + 1) V1 (Tt Y0 (Tt U0 (Tt x0 (Tt p0 Y1)))) h
 refine Ae<|Af rfl<|Aa ?_
 have h:=au h j0
 refine Am rfl<|AQ hb0 func9 rfl rfl ?_
 cases h
 exact c0.gv
 refine Al<|Al<|Al<|Bd rfl rfl<|Aa<|Br rfl<|Ae<|Af rfl<|Aa ?_
 have h:=au h j0
 refine Am rfl<|AQ hb0 func9 rfl rfl ?_
 cases h
 exact c0.gv
 refine Al<|Al<|Al<|Bd rfl rfl<|Ac rfl<|Al<|Al<|Al<|Bd rfl rfl<|Aa<|Br rfl<|Ae<|Af rfl<|Aa ?_
 have h:=au h j0
 refine Am rfl<|AQ hb0 func9 rfl rfl ?_
 cases h
 exact c0.gv
 refine Al<|Al<|Al<|Al<|Bd rfl rfl<|Ac rfl<|Al<|Al<|Al<|Bd rfl rfl<|Ac rfl<|Al<|Al<|Al<|Bd rfl rfl<|Aa<|Br rfl<|Ae<|Af rfl<|Aa ?_
 have h:=au h j0
 refine Am rfl<|AQ hb0 func9 rfl rfl ?_
 cases h
 exact c0.gv
 refine Al<|Al<|Al<|Bd rfl rfl<|Ac rfl<|Al<|Al<|Al<|Al<|Bd rfl rfl<|Ac rfl<|Al<|Al<|Al<|Bd rfl rfl<|Ac rfl<|Al<|Al<|Al<|Bd rfl rfl<|Aa<|Br rfl<|Ae<|Af rfl<|Aa ?_
 have h:=au h j0
 refine Am rfl<|AQ hb0 func9 rfl rfl ?_
 cases h
 exact c0.gv
 refine Al<|Al<|Al<|Al<|Bd rfl rfl<|Ac rfl<|Al<|Al<|Al<|Bd rfl rfl<|Ac rfl<|Al<|Al<|Al<|Al<|Bd rfl rfl<|Ac rfl<|Al<|Al<|Al<|Bd rfl rfl<|Ac rfl<|Al<|Al<|Al<|Bd rfl rfl<|Aa<|Br rfl<|Ae<|Af rfl<|Aa ?_
 have h:=au h j0
 refine Am rfl<|AQ hb0 func9 rfl rfl ?_
 cases h
 exact c0.gv
 refine Ae<|Af rfl<|Aa<|Am rfl<|Au (u:=.bool false) Q0 func41 rfl (.cons (.tmp rfl) .nil) rfl<|Ab (Bo rfl)<|Ac rfl<|Al<|Al<|Al<|Bd rfl rfl<|Ac rfl<|Al<|Al<|Al<|Al<|Bd rfl rfl<|Ac rfl<|Al<|Al<|Al<|Bd rfl rfl<|Ac rfl<|Al<|Al<|Al<|Al<|Bd rfl rfl<|Ac rfl<|Al<|Al<|Al<|Bd rfl rfl<|Ac rfl<|Al<|Al<|Al<|Bd rfl rfl<|Aa<|Br rfl<|Ae<|Af rfl<|Aa ?_
 have h:=au h j0
 refine Am rfl<|AQ hb0 func9 rfl rfl ?_
 cases h
 exact X0.gv
 refine AT rfl ?_
 have h:=ay h j0
 try dsimp only at h
 refine Ae<|Af rfl<|Aa<|Am rfl<|AQ hb0 func9 rfl rfl ?_
 cases h
 exact W0.gv
 refine Ae<|Af rfl<|Aa<|Am rfl<|AQ hb0 func9 rfl rfl ?_
 cases h
 exact d0.gv
end Go.Proofs.YtibdeoeglcngoaaGreatDoor
