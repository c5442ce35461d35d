import Derived.Test.YthffdckehlgmgaaGreatDoorVH6
namespace Go.Proofs.YthffdckehlgmgaaGreatDoor
open Go Go.RowKit Tryz
set_option maxRecDepth 4000
set_option maxHeartbeats 4000000

structure Tn where
  fG:UInt8
  fB:UInt8
  fN:Int
  deriving DecidableEq
instance:Rep Tn:=Rep.via (β:=UInt8 × UInt8 × Int) fun x=>(x.fG,x.fB,x.fN)
def ci_p (_n:Nat) (a0:Tn) (a1:Te):Oa Te:=
  (app ([]:List Tc) a1.ft).bind fun c0=>(if c0.length = 0 then some (⟨a1.fh,a1.fc,a1.fj,c0⟩:Te) else (ca ((a0.fB.toNat:Nat):Int) ((c0.length:Nat):Int)).bind fun d0=>(idx c0 d0).bind fun b0=>(if ((a0.fG % (7:UInt8)).toNat) = 0 then (put c0 ((d0.toNat:Nat):Int) (⟨b0.fx,a0.fN,b0.fh,b0.fE,b0.fC,b0.fu⟩:Tc)).bind fun j0=>some (⟨a1.fh,a1.fc,a1.fj,j0⟩:Te) else (if ((a0.fG % (7:UInt8)).toNat) = 1 then (app ([a0.fN]:List Int) b0.fE).bind fun p0=>(put c0 ((d0.toNat:Nat):Int) (⟨b0.fx,b0.fw,b0.fh,p0,b0.fC,b0.fu⟩:Tc)).bind fun q0=>some (⟨a1.fh,a1.fc,a1.fj,q0⟩:Te) else (if ((a0.fG % (7:UInt8)).toNat) = 2 then (app ([]:List Int) b0.fh).bind fun k0=>(app k0 ([a0.fN]:List Int)).bind fun s0=>(put c0 ((d0.toNat:Nat):Int) (⟨b0.fx,b0.fw,s0,b0.fE,b0.fC,b0.fu⟩:Tc)).bind fun t0=>some (⟨a1.fh,a1.fc,a1.fj,t0⟩:Te) else (if ((a0.fG % (7:UInt8)).toNat) = 3 then (put c0 ((d0.toNat:Nat):Int) (⟨b0.fx,b0.fw,b0.fh,b0.fE,b0.fC,(!b0.fu)⟩:Tc)).bind fun u0=>some (⟨a1.fh,a1.fc,a1.fj,u0⟩:Te) else (if ((a0.fG % (7:UInt8)).toNat) = 4 then (c0[0]?).bind fun g0=>(put c0 ((d0.toNat:Nat):Int) (⟨g0.fx,b0.fw,b0.fh,b0.fE,b0.fC,b0.fu⟩:Tc)).bind fun v0=>some (⟨a1.fh,a1.fc,a1.fj,v0⟩:Te) else (if ((a0.fG % (7:UInt8)).toNat) = 5 then some (⟨a1.fh,a1.fc,a0.fN,c0⟩:Te) else (put c0 ((d0.toNat:Nat):Int) (⟨b0.fx,b0.fw,b0.fh,b0.fE,([a0.fN]:List Int),b0.fu⟩:Tc)).bind fun x0=>some (⟨a1.fh,a1.fc,a1.fj,x0⟩:Te))))))))
theorem ci_c (n:Nat) {L w} (hL:hl L w) (a0:Tn) (a1:Te) {v1_3:Vc} (h1_3:Rep.R w L [v1_3] a1.ft)  {r:Te} (h:ci_p n a0 a1 = some r) :
 Cl 25 #[.agg #[.int .u8 (a0.fG.toNat:Int),.int .u8 (a0.fB.toNat:Int),vI a0.fN],.agg #[vI a1.fh,vI a1.fc,vI a1.fj,v1_3]] w (ae w fun w' u=>∃ v0_3:Vc,u = .agg #[vI r.fh,vI r.fc,vI r.fj,v0_3]/\Rep.R w' L [v0_3] r.ft):=by
 unfold ci_p at h
 refine AF func25 I I I fun _ cs0 hb0=>Af<|RG.bx (AA w) I I fun w11 z8 Y4 v9=>RG.bx Y4 I I fun w16 A8 Z4 z9=>RG.nl [vI 0,vI 0,vI 0,vN] Z4 fun w21 V1 P3 A9=>Aa<|Af<|Ac (AH I (P3.memA .t1))<|RG.nl [vI 0,vI 0,vI 0,vN] P3 fun w26 W1 R3 K9=>AV [vI a1.fh,vI a1.fc,vI a1.fj,v1_3] R3 .hd (o4 I I I (AY (AT h1_3 R3))) fun w31 F5 M9=>Aa<|Af<|Al .plain I (jB Tc F5 jR) fun w35 B8 k2 P9=>Bd 3 I<|AR I ((k2.memA .t3) 3 _ I)<|bk h fun s1 Z7 h=>RG.doesL .plain I (Bf (α:=Tc) (ys:=a1.ft) Z7 k2 (fun _ _=>.hd) jR I I (jD Tc k2 L) (Ca (AT h1_3 k2))) fun j0 w42 ⟨v2,V2,Q9,K0⟩=>Bd 3 I<|RG.now .plain (BT (j:=3) (old:=[vI a1.fh,vI a1.fc,vI a1.fj,v1_3]) (news:=[j0]) (new' :=[vI a1.fh,vI a1.fc,vI a1.fj,j0]) V2 .t1 I I I (St.c1 (α:=Tc) V2 .hd) I I (o1 (St.o1 (α:=Tc) V2 .hd)) I) fun w49 q0 J0=>?_
 refine Aa<|Aj<|Af<|Bd 3 I<|AR I ((q0.memA .t1) 3 _ I) ?_
 have b00:s1.length <= 4294967296:=St.rowLe (α:=Tc) q0 .hd
 obtain ⟨v8,J8,F6⟩:=St.rowV (α:=Tc) q0 .hd
 refine Ac (FV.lenV underlying35 I F6)<|Ac (BP (i:=s1.length) (j:=0) I I)<|Aa<|AQ I h (fun W4 h=>?_) (fun W4 h=>?_)
 refine Af<|Ac (AH I (q0.memA .t1))<|AV [vI a1.fh,vI a1.fc,vI a1.fj,j0] q0 .t2 (o4 I I I (St.o1 (α:=Tc) q0 .hd)) fun w57 W2 X5=>Aa<|Am I ?_
 have p2:=BA W2 .hd
 have R9:=BB W2 .hd
 have E7:=BC (α:=Tc) (v:=j0) (xs:=s1) p2 L (Bg (α:=Tc) W2 .hd (AB K0 (Tt J0 X5)) hL)
 refine Au hb0 func25 I (.cons (.many (cs:=[vI a1.fh,vI a1.fc,vI a1.fj,j0]) I I (p2.memA .t1)) .nil) I ?_
 cases h
 exact ⟨p2.ag,fun p q=>⟨j0,I,p2.kd E7 q⟩⟩
 refine Ar<|Aj<|du 11 fun M0 X0=>Rv 0 M0 I X0 (fun _=>Bi 3 I)<|Rx 1 1536 M0 I X0 (AP I ((q0.memA .t1) 3 _ I))<|Rv 2 M0 I X0 (fun _=>Bi 1 I)<|Rx 3 1808 M0 I X0 (AP I ((q0.memA .t4) 1 _ I)) ?_
 have z00:=a0.fB.toNat_lt
 refine Rv 4 M0 I X0 (fun _=>FV.convN (i:=a0.fB.toNat) underlying5 underlying3 I (by omega))<|Rv 5 M0 I X0 (fun _=>Bi 3 I)<|Rx 6 1920 M0 I X0 (AP I ((q0.memA .t1) 3 _ I)) ?_
 obtain ⟨x8,K8,G6⟩:=St.rowV (α:=Tc) q0 .hd
 refine Rx 7 1792 M0 I X0 (FV.lenV underlying35 I G6)<|bk h fun p1 J7 h=>Rv 8 M0 I X0 (fun _=>FV.remc (i:=((a0.fB.toNat:Nat):Int)) (j:=((s1.length:Nat):Int)) I I J7)<|bk h fun c0 M7 h=>?_
 obtain ⟨I6,I0⟩:=aA M7
 have k1:=AB K0 J0
 obtain ⟨K4,M8,A3,Z3,q9,G7,q2⟩:=BU (α:=Tc) q0 .hd k1 I0
 obtain ⟨K3,P8,H0⟩:=By (α:=Tc) q0 .hd Z3
 obtain rfl:K4 = ⟨K3,0,none⟩:=by rw [H0] at A3; cases A3; rfl
 obtain ⟨v86,v87,v88,rfl,d1,H7,y00⟩:=bm G7
 refine Rv 9 M0 I X0 (fun _=>Bb 6 (p1.toNat) I A3 I I6 Z3)<|Rv 10 M0 I X0 (fun _=>Be I)<|AN (dk M0)<|Aj<|Af<|Bd 0 I<|AR I ((q0.memA .t4) 0 _ I)<|Ac (FV.rem8 (a:=a0.fG) (b:=(7:UInt8)) I I (by decide))<|Aa<|Ax<|Af<|Ac (BP (i:=(a0.fG % (7:UInt8)).toNat) (j:=0) I I)<|Ag I<|Aa<|AQ I h (fun X4 h=>?_) (fun X4 h=>?_)
 refine Ap<|Ae I<|Bd 2 I<|AR I ((q0.memA .t4) 2 _ I)<|Ac (FV.nilCheck I)<|Bd 1 I ?_
 obtain ⟨Q8,H6,Z9,s9,I7,p00,y6⟩:=St.nthAt (α:=Tc) q0 .hd k1 I0 H0
 obtain ⟨p4,q4,s4,rfl,P6,Q6,R6⟩:=bm I7
 refine bk h fun j8 P7 h=>RG.acts' .plain (Acts.setPart (α:=Tc) (i:=p1.toNat) (tot:=1) (ds:=[.string c0.fx,vI c0.fw,p4,q4,s4,.bool c0.fu]) (news:=[vI a0.fN]) (full:=[.string c0.fx,vI a0.fN,p4,q4,s4,.bool c0.fu]) P7 q0 H6 (fun _=>.hd) k1 y6 I I I I I I (ea c0.fx a0.fN c0.fh P6 c0.fE Q6 c0.fC R6 c0.fu) I (o1 I)) fun G00 ⟨R8,x2,t9,Y5⟩=>Aa<|AC<|Af<|Ac (AH I (x2.memA .t1))<|AV [vI a1.fh,vI a1.fc,vI a1.fj,j0] x2 .t2 (o4 I I I (St.o1 (α:=Tc) x2 .hd)) fun I00 y2 G5=>Aa<|Am I ?_
 have X1:=BA y2 .hd
 have u9:=BB y2 .hd
 have U6:=BC (α:=Tc) (v:=j0) (xs:=j8) X1 L (Bg (α:=Tc) y2 .hd (AB Y5 G5) hL)
 refine Au hb0 func25 I (.cons (.many (cs:=[vI a1.fh,vI a1.fc,vI a1.fj,j0]) I I (X1.memA .t1)) .nil) I ?_
 cases h
 exact ⟨X1.ag,fun p q=>⟨j0,I,X1.kd U6 q⟩⟩
 refine Af<|Ac (BP (i:=(a0.fG % (7:UInt8)).toNat) (j:=1) I I)<|Ag I<|Aa<|AQ I h (fun P4 h=>?_) (fun P4 h=>?_)
 refine du 8 fun G0 g1=>Rv 0 G0 I g1 (fun _=>Ai I)<|Rv 1 G0 I g1 (fun _=>Bi 2 I)<|Rx 2 3848 G0 I g1 (AP I ((q0.memA .t4) 2 _ I))<|Rv 4 G0 I g1 (fun _=>Ai I)<|Rv 5 G0 I g1 (fun _=>FV.nilCheck I)<|Rv 6 G0 I g1 (fun _=>Bi 3 I)<|Rx 7 3840 G0 I g1 (AP I (q2 3 _ I))<|BS 3 255 G0 I .plain I (jA a0.fN (vI a0.fN) q0 ay (e1 I)) fun J00 y8 M3 U3=>bk h fun H4 Q7 h=>BM (i:=8) (rk G0) (BI (m' :=511) (sk G0) I I .plain I (Bf (α:=Int) (ys:=c0.fE) Q7 M3 (fun _ _=>.hd) ay I I (jC a0.fN (vI a0.fN) M3 L I) (Ca (Ao H7 U3))) (fun E3 K00 ⟨U8,z2,H5,Z5⟩=>?_))
 refine Rv 9 G0 I g1 (fun _=>FV.nilCheck I)<|Rv 10 G0 I g1 (fun _=>Bi 3 I) ?_
 have A2:=BA z2 .hd
 have B3:=BC (α:=Int) (v:=E3) (xs:=H4) A2 L (Bg (α:=Int) z2 .hd Z5 hL)
 have b4:=AB K0 (Tt J0 (Tt U3 (Tt H5 (BB z2 .hd))))
 obtain ⟨C8,z6,U9,V8,V6,c00,s6⟩:=St.nthAt (α:=Tc) A2 .hd b4 I0 H0
 obtain ⟨u4,b8,v4,rfl,W6,q00,X6⟩:=bm V6
 refine bk h fun k8 R7 h=>BM (i:=11) (rk G0) (RO.acts (m' :=4095) (sk G0) I I .plain (Acts.setPart (α:=Tc) (i:=p1.toNat) (tot:=3) (ds:=[.string c0.fx,vI c0.fw,u4,b8,v4,.bool c0.fu]) (news:=[E3]) (full:=[.string c0.fx,vI c0.fw,u4,E3,v4,.bool c0.fu]) R7 A2 z6 (fun _=>.hd) b4 s6 I I I I I (Rep.c1 B3) (ea c0.fx c0.fw c0.fh W6 H4 B3 c0.fC X6 c0.fu) I (o1 (AY B3))) (fun M00 ⟨W8,B2,x9,b6⟩=>?_))
 refine AN (dk G0)<|AC<|Af<|Ac (AH I (B2.memA .t1))<|AV [vI a1.fh,vI a1.fc,vI a1.fj,j0] B2 .t2 (o4 I I I (St.o1 (α:=Tc) B2 .hd)) fun Q00 C2 I5=>Aa<|Am I ?_
 have Y1:=BA C2 .hd
 have y9:=BB C2 .hd
 have Y6:=BC (α:=Tc) (v:=j0) (xs:=k8) Y1 L (Bg (α:=Tc) C2 .hd (AB b6 I5) hL)
 refine Au hb0 func25 I (.cons (.many (cs:=[vI a1.fh,vI a1.fc,vI a1.fj,j0]) I I (Y1.memA .t1)) .nil) I ?_
 cases h
 exact ⟨Y1.ag,fun p q=>⟨j0,I,Y1.kd Y6 q⟩⟩
 refine Af<|Ac (BP (i:=(a0.fG % (7:UInt8)).toNat) (j:=2) I I)<|Ag I<|Aa<|AQ I h (fun Q4 h=>?_) (fun Q4 h=>?_)
 refine du 6 fun b0 Z0=>Rv 0 b0 I Z0 (fun _=>Ai I)<|Rv 2 b0 I Z0 (fun _=>Ai I)<|Rv 3 b0 I Z0 (fun _=>FV.nilCheck I)<|Rv 4 b0 I Z0 (fun _=>Bi 2 I)<|Rv 7 b0 I Z0 (fun _=>Bi 2 I)<|bk h fun s2 z0 h=>RD.mf (α:=Vc × (List Vc) × Vc × (List Vc)) (fun ⟨D1,x1,E1,y1⟩=>[(4,vP V1),(5,vP W1),(59,.pointer (some (Addr.add ⟨K3,0,none⟩ (p1.toNat * 6)))),(65,E1),(68,D1)]) (fun ⟨D1,x1,E1,y1⟩=>[rr w 3 Int D1 (([a0.fN]:List Int).length) x1,rr w 3 Int E1 s2.length y1,rr w 99 Tc j0 s1.length v2,.cells W1 [vI a1.fh,vI a1.fc,vI a1.fj,j0] 37,.cells V1 [vI 0,vI 0,vI 0,vN] 37]) (fun ⟨D1,x1,E1,y1⟩ I3=>Cells I3 (bl [rr w 3 Int D1 (([a0.fN]:List Int).length) x1,rr w 3 Int E1 s2.length y1,rr w 99 Tc j0 s1.length v2,.cells W1 [vI a1.fh,vI a1.fc,vI a1.fj,j0] 37,.cells V1 [vI 0,vI 0,vI 0,vN] 37] ++ L) x1 (([a0.fN]:List Int):List Int)/\Cells I3 (bl [rr w 3 Int D1 (([a0.fN]:List Int).length) x1,rr w 3 Int E1 s2.length y1,rr w 99 Tc j0 s1.length v2,.cells W1 [vI a1.fh,vI a1.fc,vI a1.fj,j0] 37,.cells V1 [vI 0,vI 0,vI 0,vN] 37] ++ L) y1 (s2:List Int)) q0 4 1023 ?_ ?_
 rintro ⟨D1,x1,E1,y1⟩ I3 Q3 J5 ⟨c6,d6⟩
 try dsimp only
 refine bk h fun I4 U7 h=>BM (i:=10) (rk b0) (BI (m' :=2047) (sk b0) I I .plain I (Bf (α:=Int) (ys:=([a0.fN]:List Int)) U7 Q3 (fun _ _=>.t1) ay I I d6 (Src.row (α:=Int) Q3 .hd c6)) (fun F3 U00 ⟨X8,D2,K5,g6⟩=>?_))
 refine Rv 11 b0 I Z0 (fun _=>FV.nilCheck I)<|Rv 12 b0 I Z0 (fun _=>Bi 2 I) ?_
 have E2:=BA D2 .t1
 have C3:=BC (α:=Int) (v:=F3) (xs:=I4) E2 L (Bg (α:=Int) D2 .t1 g6 hL)
 have c4:=AB K0 (Tt J0 (Tt J5 (Tt K5 (BB D2 .t1))))
 obtain ⟨D8,A6,V9,Y8,Z6,d00,t6⟩:=St.nthAt (α:=Tc) E2 .t1 c4 I0 H0
 obtain ⟨c8,x4,y4,rfl,s00,b7,c7⟩:=bm Z6
 refine bk h fun p8 V7 h=>BM (i:=13) (rk b0) (RO.acts (m' :=16383) (sk b0) I I .plain (Acts.setPart (α:=Tc) (i:=p1.toNat) (tot:=2) (ds:=[.string c0.fx,vI c0.fw,c8,x4,y4,.bool c0.fu]) (news:=[F3]) (full:=[.string c0.fx,vI c0.fw,F3,x4,y4,.bool c0.fu]) V7 E2 A6 (fun _=>.t1) c4 t6 I I I I I (Rep.c1 C3) (ea c0.fx c0.fw I4 C3 c0.fE b7 c0.fC c7 c0.fu) I (o1 (AY C3))) (fun V00 ⟨Z8,F2,B9,j6⟩=>?_))
 refine AN (dk b0)<|AC<|Af<|Ac (AH I (F2.memA .t2))<|AV [vI a1.fh,vI a1.fc,vI a1.fj,j0] F2 .t3 (o4 I I I (St.o1 (α:=Tc) F2 .t1)) fun W00 G2 M5=>Aa<|Am I ?_
 have Z1:=BA G2 .t1
 have C9:=BB G2 .t1
 have d7:=BC (α:=Tc) (v:=j0) (xs:=p8) Z1 L (Bg (α:=Tc) G2 .t1 (AB j6 M5) hL)
 refine Au hb0 func25 I (.cons (.many (cs:=[vI a1.fh,vI a1.fc,vI a1.fj,j0]) I I (Z1.memA .t2)) .nil) I ?_
 cases h
 exact ⟨Z1.ag,fun p q=>⟨j0,I,Z1.kd d7 q⟩⟩
 intro x0
 refine Bz [1,5,8] (rk b0) ⟨?_,?_,?_,trivial⟩
 refine BH (m' :=159) (sk b0) I .plain I (jB Int q0 ay) fun F1 u1 p0 k0=>?_
 have v0:=jD Int p0 L
 refine Bz [5,8] (rk b0) ⟨?_,?_,trivial⟩
 have M1:=AB K0 (Tt J0 k0)
 obtain ⟨G1,J1,K1,H1,V0,U0,I1⟩:=St.nthAt (α:=Tc) p0 .t1 M1 I0 H0
 obtain ⟨G3,Q1,R1,rfl,W0,B1,P1⟩:=bm V0
 refine RO.val (m' :=191) (sk b0) I .plain I (AP I (U0 2 _ I))<|Bz [6,8] (rk b0) ⟨?_,?_,trivial⟩
 refine BI (m' :=255) (sk b0) I I .plain I (Bf (α:=Int) (ys:=c0.fh) z0 p0 (fun _ _=>.hd) ay I I v0 (Ca W0)) fun C1 H3 ⟨v1,j1,z1,A1⟩=>BM (i:=8) (rk b0) (RO.val (m' :=511) (sk b0) I .plain I (AP I ((j1.memA .t5) 2 _ I)) ?_)
 refine BS 9 1023 b0 I .plain I (jA a0.fN (vI a0.fN) j1 ay (e1 I)) fun B0 s0 g0 d0=>?_
 have t0:=jC a0.fN (vI a0.fN) g0 L I
 obtain ⟨b5,X2⟩:=AK g0 (.a0 (.a0 (.a0 (.a0 (.a0 .done)))))
 exact x0 ((vS s0 1),[vI a0.fN],C1,v1) b5 (Tt k0 (Tt z1 (Tt d0 X2))) ⟨(AB t0 X2),(AB A1 (Tt d0 X2))⟩
 refine RO.val (m' :=447) (sk b0) I .plain I (AP I ((p0.memA .t5) 2 _ I))<|Bz [6,9] (rk b0) ⟨?_,?_,trivial⟩
 refine BI (m' :=511) (sk b0) I I .plain I (Bf (α:=Int) (ys:=c0.fh) z0 p0 (fun _ _=>.hd) ay I I v0 (Ca W0)) fun C1 H3 ⟨v1,j1,z1,A1⟩=>BS 9 1023 b0 I .plain I (jA a0.fN (vI a0.fN) j1 ay (e1 I)) fun B0 s0 g0 d0=>?_
 have t0:=jC a0.fN (vI a0.fN) g0 L I
 obtain ⟨c5,Y2⟩:=AK g0 (.a0 (.a0 (.a0 (.a0 (.a0 .done)))))
 exact x0 ((vS s0 1),[vI a0.fN],C1,v1) c5 (Tt k0 (Tt z1 (Tt d0 Y2))) ⟨(AB t0 Y2),(AB A1 (Tt d0 Y2))⟩
 refine BH (m' :=959) (sk b0) I .plain I (jA a0.fN (vI a0.fN) p0 ay (e1 I)) fun B0 s0 g0 d0=>?_
 have t0:=jC a0.fN (vI a0.fN) g0 L I
 have u0:=Ao W0 d0
 have b1:=AB v0 d0
 refine BM (i:=6) (rk b0) (BI (m' :=1023) (sk b0) I I .plain I (Bf (α:=Int) (ys:=c0.fh) z0 g0 (fun _ _=>.t1) ay I I b1 (Ca u0)) (fun Y0 U1 ⟨P0,Q0,D0,R0⟩=>?_))
 obtain ⟨d5,Z2⟩:=AK Q0 (.a0 (.a0 (.a0 (.a0 (.a0 .done)))))
 exact x0 ((vS s0 1),[vI a0.fN],Y0,P0) d5 (Tt k0 (Tt d0 (Tt D0 Z2))) ⟨(AB t0 (Tt D0 Z2)),(AB R0 Z2)⟩
 refine RO.val (m' :=415) (sk b0) I .plain I (AP I ((p0.memA .t5) 2 _ I))<|Bz [5,9] (rk b0) ⟨?_,?_,trivial⟩
 have M1:=AB K0 (Tt J0 k0)
 obtain ⟨G1,J1,K1,H1,V0,U0,I1⟩:=St.nthAt (α:=Tc) p0 .t1 M1 I0 H0
 obtain ⟨G3,Q1,R1,rfl,W0,B1,P1⟩:=bm V0
 refine RO.val (m' :=447) (sk b0) I .plain I (AP I (U0 2 _ I))<|Bz [6,9] (rk b0) ⟨?_,?_,trivial⟩
 refine BI (m' :=511) (sk b0) I I .plain I (Bf (α:=Int) (ys:=c0.fh) z0 p0 (fun _ _=>.hd) ay I I v0 (Ca W0)) fun C1 H3 ⟨v1,j1,z1,A1⟩=>BS 9 1023 b0 I .plain I (jA a0.fN (vI a0.fN) j1 ay (e1 I)) fun B0 s0 g0 d0=>?_
 have t0:=jC a0.fN (vI a0.fN) g0 L I
 obtain ⟨g5,b3⟩:=AK g0 (.a0 (.a0 (.a0 (.a0 (.a0 .done)))))
 exact x0 ((vS s0 1),[vI a0.fN],C1,v1) g5 (Tt k0 (Tt z1 (Tt d0 b3))) ⟨(AB t0 b3),(AB A1 (Tt d0 b3))⟩
 refine BH (m' :=959) (sk b0) I .plain I (jA a0.fN (vI a0.fN) p0 ay (e1 I)) fun B0 s0 g0 d0=>?_
 have t0:=jC a0.fN (vI a0.fN) g0 L I
 have u0:=Ao W0 d0
 have b1:=AB v0 d0
 refine BM (i:=6) (rk b0) (BI (m' :=1023) (sk b0) I I .plain I (Bf (α:=Int) (ys:=c0.fh) z0 g0 (fun _ _=>.t1) ay I I b1 (Ca u0)) (fun Y0 U1 ⟨P0,Q0,D0,R0⟩=>?_))
 obtain ⟨j5,c3⟩:=AK Q0 (.a0 (.a0 (.a0 (.a0 (.a0 .done)))))
 exact x0 ((vS s0 1),[vI a0.fN],Y0,P0) j5 (Tt k0 (Tt d0 (Tt D0 c3))) ⟨(AB t0 (Tt D0 c3)),(AB R0 c3)⟩
 refine BH (m' :=927) (sk b0) I .plain I (jA a0.fN (vI a0.fN) p0 ay (e1 I)) fun B0 s0 g0 d0=>?_
 have t0:=jC a0.fN (vI a0.fN) g0 L I
 have M6:=Tt J0 (Tt k0 d0)
 have K6:=AB K0 M6
 obtain ⟨G1,J1,K1,H1,V0,U0,I1⟩:=St.nthAt (α:=Tc) g0 .t2 K6 I0 H0
 obtain ⟨Q1,R1,g8,rfl,B1,P1,F7⟩:=bm V0
 refine Rx 5 15424 b0 I Z0 (AP I (U0 2 _ I)) ?_
 have u0:=AB v0 d0
 refine BM (i:=6) (rk b0) (BI (m' :=1023) (sk b0) I I .plain I (Bf (α:=Int) (ys:=c0.fh) z0 g0 (fun _ _=>.t1) ay I I u0 (Ca B1)) (fun F0 q1 ⟨C0,A0,y0,E0⟩=>?_))
 obtain ⟨k5,d3⟩:=AK A0 (.a0 (.a0 (.a0 (.a0 (.a0 .done)))))
 exact x0 ((vS s0 1),[vI a0.fN],F0,C0) k5 (Tt k0 (Tt d0 (Tt y0 d3))) ⟨(AB t0 (Tt y0 d3)),(AB E0 d3)⟩
 refine RO.val (m' :=189) (sk b0) I .plain I (AP I (q2 2 _ I))<|Bz [1,8] (rk b0) ⟨?_,?_,trivial⟩
 refine BH (m' :=191) (sk b0) I .plain I (jB Int q0 ay) fun F1 u1 p0 k0=>?_
 have v0:=jD Int p0 L
 refine Bz [6,8] (rk b0) ⟨?_,?_,trivial⟩
 have u0:=Ao d1 k0
 refine BI (m' :=255) (sk b0) I I .plain I (Bf (α:=Int) (ys:=c0.fh) z0 p0 (fun _ _=>.hd) ay I I v0 (Ca u0)) fun F0 q1 ⟨C0,A0,y0,E0⟩=>BM (i:=8) (rk b0) (RO.val (m' :=511) (sk b0) I .plain I (AP I ((A0.memA .t5) 2 _ I)) ?_)
 refine BS 9 1023 b0 I .plain I (jA a0.fN (vI a0.fN) A0 ay (e1 I)) fun B0 s0 g0 d0=>?_
 have t0:=jC a0.fN (vI a0.fN) g0 L I
 obtain ⟨p5,g3⟩:=AK g0 (.a0 (.a0 (.a0 (.a0 (.a0 .done)))))
 exact x0 ((vS s0 1),[vI a0.fN],F0,C0) p5 (Tt k0 (Tt y0 (Tt d0 g3))) ⟨(AB t0 g3),(AB E0 (Tt d0 g3))⟩
 refine RO.val (m' :=447) (sk b0) I .plain I (AP I ((p0.memA .t5) 2 _ I))<|Bz [6,9] (rk b0) ⟨?_,?_,trivial⟩
 have u0:=Ao d1 k0
 refine BI (m' :=511) (sk b0) I I .plain I (Bf (α:=Int) (ys:=c0.fh) z0 p0 (fun _ _=>.hd) ay I I v0 (Ca u0)) fun F0 q1 ⟨C0,A0,y0,E0⟩=>BS 9 1023 b0 I .plain I (jA a0.fN (vI a0.fN) A0 ay (e1 I)) fun B0 s0 g0 d0=>?_
 have t0:=jC a0.fN (vI a0.fN) g0 L I
 obtain ⟨q5,j3⟩:=AK g0 (.a0 (.a0 (.a0 (.a0 (.a0 .done)))))
 exact x0 ((vS s0 1),[vI a0.fN],F0,C0) q5 (Tt k0 (Tt y0 (Tt d0 j3))) ⟨(AB t0 j3),(AB E0 (Tt d0 j3))⟩
 refine BH (m' :=959) (sk b0) I .plain I (jA a0.fN (vI a0.fN) p0 ay (e1 I)) fun B0 s0 g0 d0=>?_
 have t0:=jC a0.fN (vI a0.fN) g0 L I
 have u0:=Ao d1 (Tt k0 d0)
 have b1:=AB v0 d0
 refine BM (i:=6) (rk b0) (BI (m' :=1023) (sk b0) I I .plain I (Bf (α:=Int) (ys:=c0.fh) z0 g0 (fun _ _=>.t1) ay I I b1 (Ca u0)) (fun Y0 U1 ⟨P0,Q0,D0,R0⟩=>?_))
 obtain ⟨s5,k3⟩:=AK Q0 (.a0 (.a0 (.a0 (.a0 (.a0 .done)))))
 exact x0 ((vS s0 1),[vI a0.fN],Y0,P0) s5 (Tt k0 (Tt d0 (Tt D0 k3))) ⟨(AB t0 (Tt D0 k3)),(AB R0 k3)⟩
 refine RO.val (m' :=445) (sk b0) I .plain I (AP I ((q0.memA .t4) 2 _ I))<|Bz [1,9] (rk b0) ⟨?_,?_,trivial⟩
 refine BH (m' :=447) (sk b0) I .plain I (jB Int q0 ay) fun F1 u1 p0 k0=>?_
 have v0:=jD Int p0 L
 refine Bz [6,9] (rk b0) ⟨?_,?_,trivial⟩
 have u0:=Ao d1 k0
 refine BI (m' :=511) (sk b0) I I .plain I (Bf (α:=Int) (ys:=c0.fh) z0 p0 (fun _ _=>.hd) ay I I v0 (Ca u0)) fun F0 q1 ⟨C0,A0,y0,E0⟩=>BS 9 1023 b0 I .plain I (jA a0.fN (vI a0.fN) A0 ay (e1 I)) fun B0 s0 g0 d0=>?_
 have t0:=jC a0.fN (vI a0.fN) g0 L I
 obtain ⟨u5,p3⟩:=AK g0 (.a0 (.a0 (.a0 (.a0 (.a0 .done)))))
 exact x0 ((vS s0 1),[vI a0.fN],F0,C0) u5 (Tt k0 (Tt y0 (Tt d0 p3))) ⟨(AB t0 p3),(AB E0 (Tt d0 p3))⟩
 refine BH (m' :=959) (sk b0) I .plain I (jA a0.fN (vI a0.fN) p0 ay (e1 I)) fun B0 s0 g0 d0=>?_
 have t0:=jC a0.fN (vI a0.fN) g0 L I
 have u0:=Ao d1 (Tt k0 d0)
 have b1:=AB v0 d0
 refine BM (i:=6) (rk b0) (BI (m' :=1023) (sk b0) I I .plain I (Bf (α:=Int) (ys:=c0.fh) z0 g0 (fun _ _=>.t1) ay I I b1 (Ca u0)) (fun Y0 U1 ⟨P0,Q0,D0,R0⟩=>?_))
 obtain ⟨v5,q3⟩:=AK Q0 (.a0 (.a0 (.a0 (.a0 (.a0 .done)))))
 exact x0 ((vS s0 1),[vI a0.fN],Y0,P0) v5 (Tt k0 (Tt d0 (Tt D0 q3))) ⟨(AB t0 (Tt D0 q3)),(AB R0 q3)⟩
 refine BH (m' :=957) (sk b0) I .plain I (jA a0.fN (vI a0.fN) q0 ay (e1 I)) fun B0 s0 g0 d0=>?_
 have t0:=jC a0.fN (vI a0.fN) g0 L I
 refine BS 1 959 b0 I .plain I (jB Int g0 ay) fun F1 u1 p0 k0=>?_
 have v0:=jD Int p0 L
 have u0:=Ao d1 (Tt d0 k0)
 refine BM (i:=6) (rk b0) (BI (m' :=1023) (sk b0) I I .plain I (Bf (α:=Int) (ys:=c0.fh) z0 p0 (fun _ _=>.hd) ay I I v0 (Ca u0)) (fun F0 q1 ⟨C0,A0,y0,E0⟩=>?_))
 obtain ⟨x5,V3⟩:=AK A0 (.a1 (.a0 (.a0 (.a0 (.a0 .done)))))
 have g4:=Tt k0 (Tt y0 V3)
 exact x0 ((vS s0 1),[vI a0.fN],F0,C0) x5 (Tt d0 g4) ⟨(AB t0 g4),(AB E0 V3)⟩
 refine RO.val (m' :=413) (sk b0) I .plain I (AP I ((q0.memA .t4) 2 _ I))<|Bz [1,5,9] (rk b0) ⟨?_,?_,?_,trivial⟩
 refine BH (m' :=415) (sk b0) I .plain I (jB Int q0 ay) fun F1 u1 p0 k0=>?_
 have v0:=jD Int p0 L
 refine Bz [5,9] (rk b0) ⟨?_,?_,trivial⟩
 have M1:=AB K0 (Tt J0 k0)
 obtain ⟨G1,J1,K1,H1,V0,U0,I1⟩:=St.nthAt (α:=Tc) p0 .t1 M1 I0 H0
 obtain ⟨G3,Q1,R1,rfl,W0,B1,P1⟩:=bm V0
 refine RO.val (m' :=447) (sk b0) I .plain I (AP I (U0 2 _ I))<|Bz [6,9] (rk b0) ⟨?_,?_,trivial⟩
 refine BI (m' :=511) (sk b0) I I .plain I (Bf (α:=Int) (ys:=c0.fh) z0 p0 (fun _ _=>.hd) ay I I v0 (Ca W0)) fun C1 H3 ⟨v1,j1,z1,A1⟩=>BS 9 1023 b0 I .plain I (jA a0.fN (vI a0.fN) j1 ay (e1 I)) fun B0 s0 g0 d0=>?_
 have t0:=jC a0.fN (vI a0.fN) g0 L I
 obtain ⟨y5,s3⟩:=AK g0 (.a0 (.a0 (.a0 (.a0 (.a0 .done)))))
 exact x0 ((vS s0 1),[vI a0.fN],C1,v1) y5 (Tt k0 (Tt z1 (Tt d0 s3))) ⟨(AB t0 s3),(AB A1 (Tt d0 s3))⟩
 refine BH (m' :=959) (sk b0) I .plain I (jA a0.fN (vI a0.fN) p0 ay (e1 I)) fun B0 s0 g0 d0=>?_
 have t0:=jC a0.fN (vI a0.fN) g0 L I
 have u0:=Ao W0 d0
 have b1:=AB v0 d0
 refine BM (i:=6) (rk b0) (BI (m' :=1023) (sk b0) I I .plain I (Bf (α:=Int) (ys:=c0.fh) z0 g0 (fun _ _=>.t1) ay I I b1 (Ca u0)) (fun Y0 U1 ⟨P0,Q0,D0,R0⟩=>?_))
 obtain ⟨z5,u3⟩:=AK Q0 (.a0 (.a0 (.a0 (.a0 (.a0 .done)))))
 exact x0 ((vS s0 1),[vI a0.fN],Y0,P0) z5 (Tt k0 (Tt d0 (Tt D0 u3))) ⟨(AB t0 (Tt D0 u3)),(AB R0 u3)⟩
 refine BH (m' :=927) (sk b0) I .plain I (jA a0.fN (vI a0.fN) p0 ay (e1 I)) fun B0 s0 g0 d0=>?_
 have t0:=jC a0.fN (vI a0.fN) g0 L I
 obtain ⟨G1,J1,K1,H1,V0,U0,I1⟩:=St.nthAt (α:=Tc) g0 .t2 (AB K0 (Tt J0 (Tt k0 d0))) I0 H0
 obtain ⟨Q1,R1,g8,rfl,B1,P1,F7⟩:=bm V0
 refine Rx 5 15424 b0 I Z0 (AP I (U0 2 _ I)) ?_
 have u0:=AB v0 d0
 refine BM (i:=6) (rk b0) (BI (m' :=1023) (sk b0) I I .plain I (Bf (α:=Int) (ys:=c0.fh) z0 g0 (fun _ _=>.t1) ay I I u0 (Ca B1)) (fun F0 q1 ⟨C0,A0,y0,E0⟩=>?_))
 obtain ⟨A5,v3⟩:=AK A0 (.a0 (.a0 (.a0 (.a0 (.a0 .done)))))
 exact x0 ((vS s0 1),[vI a0.fN],F0,C0) A5 (Tt k0 (Tt d0 (Tt y0 v3))) ⟨(AB t0 (Tt y0 v3)),(AB E0 v3)⟩
 refine RO.val (m' :=445) (sk b0) I .plain I (AP I (q2 2 _ I))<|Bz [1,9] (rk b0) ⟨?_,?_,trivial⟩
 refine BH (m' :=447) (sk b0) I .plain I (jB Int q0 ay) fun F1 u1 p0 k0=>?_
 have v0:=jD Int p0 L
 refine Bz [6,9] (rk b0) ⟨?_,?_,trivial⟩
 have u0:=Ao d1 k0
 refine BI (m' :=511) (sk b0) I I .plain I (Bf (α:=Int) (ys:=c0.fh) z0 p0 (fun _ _=>.hd) ay I I v0 (Ca u0)) fun F0 q1 ⟨C0,A0,y0,E0⟩=>BS 9 1023 b0 I .plain I (jA a0.fN (vI a0.fN) A0 ay (e1 I)) fun B0 s0 g0 d0=>?_
 have t0:=jC a0.fN (vI a0.fN) g0 L I
 obtain ⟨B5,x3⟩:=AK g0 (.a0 (.a0 (.a0 (.a0 (.a0 .done)))))
 exact x0 ((vS s0 1),[vI a0.fN],F0,C0) B5 (Tt k0 (Tt y0 (Tt d0 x3))) ⟨(AB t0 x3),(AB E0 (Tt d0 x3))⟩
 refine BH (m' :=959) (sk b0) I .plain I (jA a0.fN (vI a0.fN) p0 ay (e1 I)) fun B0 s0 g0 d0=>?_
 have t0:=jC a0.fN (vI a0.fN) g0 L I
 have u0:=Ao d1 (Tt k0 d0)
 refine BM (i:=6) (rk b0) (BI (m' :=1023) (sk b0) I I .plain I (Bf (α:=Int) (ys:=c0.fh) z0 g0 (fun _ _=>.t1) ay I I (AB v0 d0) (Ca u0)) (fun Y0 U1 ⟨P0,Q0,D0,R0⟩=>?_))
 obtain ⟨C5,y3⟩:=AK Q0 (.a0 (.a0 (.a0 (.a0 (.a0 .done)))))
 exact x0 ((vS s0 1),[vI a0.fN],Y0,P0) C5 (Tt k0 (Tt d0 (Tt D0 y3))) ⟨(AB t0 (Tt D0 y3)),(AB R0 y3)⟩
 refine BH (m' :=957) (sk b0) I .plain I (jA a0.fN (vI a0.fN) q0 ay (e1 I)) fun B0 s0 g0 d0=>?_
 have t0:=jC a0.fN (vI a0.fN) g0 L I
 refine BS 1 959 b0 I .plain I (jB Int g0 ay) fun F1 u1 p0 k0=>?_
 have v0:=jD Int p0 L
 have u0:=Ao d1 (Tt d0 k0)
 refine BM (i:=6) (rk b0) (BI (m' :=1023) (sk b0) I I .plain I (Bf (α:=Int) (ys:=c0.fh) z0 p0 (fun _ _=>.hd) ay I I v0 (Ca u0)) (fun F0 q1 ⟨C0,A0,y0,E0⟩=>?_))
 obtain ⟨D5,W3⟩:=AK A0 (.a1 (.a0 (.a0 (.a0 (.a0 .done)))))
 have j4:=Tt k0 (Tt y0 W3)
 exact x0 ((vS s0 1),[vI a0.fN],F0,C0) D5 (Tt d0 j4) ⟨(AB t0 j4),(AB E0 W3)⟩
 refine BH (m' :=925) (sk b0) I .plain I (jA a0.fN (vI a0.fN) q0 ay (e1 I)) fun B0 s0 g0 d0=>?_
 have t0:=jC a0.fN (vI a0.fN) g0 L I
 obtain ⟨G1,J1,K1,H1,V0,U0,I1⟩:=St.nthAt (α:=Tc) g0 .t1 (AB K0 (Tt J0 d0)) I0 H0
 obtain ⟨G3,Q1,R1,rfl,W0,B1,P1⟩:=bm V0
 refine Rx 5 15424 b0 I Z0 (AP I (U0 2 _ I))<|BS 1 959 b0 I .plain I (jB Int g0 ay) fun F1 u1 p0 k0=>BM (i:=6) (rk b0) (BI (m' :=1023) (sk b0) I I .plain I (Bf (α:=Int) (ys:=c0.fh) z0 p0 (fun _ _=>.hd) ay I I (jD Int p0 L) (Ca (Ao W0 k0))) (fun F0 q1 ⟨C0,A0,y0,E0⟩=>?_))
 obtain ⟨E5,X3⟩:=AK A0 (.a1 (.a0 (.a0 (.a0 (.a0 .done)))))
 have k4:=Tt k0 (Tt y0 X3)
 exact x0 ((vS s0 1),[vI a0.fN],F0,C0) E5 (Tt d0 k4) ⟨(AB t0 k4),(AB E0 X3)⟩
 refine Af<|Ac (BP (i:=(a0.fG % (7:UInt8)).toNat) (j:=3) I I)<|Ag I<|Aa<|AQ I h (fun R4 h=>?_) (fun R4 h=>?_)
 refine Ap<|Ae I<|Ae I<|Ac (FV.nilCheck I)<|Bd 5 I<|AR I (q2 5 _ I)<|Ac (Bu I)<|Ac (FV.nilCheck I)<|Bd 5 I ?_
 obtain ⟨E8,B6,W9,b9,g7,g00,u6⟩:=St.nthAt (α:=Tc) q0 .hd k1 I0 H0
 obtain ⟨z4,A4,B4,rfl,j7,k7,p7⟩:=bm g7
 refine bk h fun q8 W7 h=>RG.acts' .plain (Acts.setPart (α:=Tc) (i:=p1.toNat) (tot:=5) (ds:=[.string c0.fx,vI c0.fw,z4,A4,B4,.bool c0.fu]) (news:=[.bool (!c0.fu)]) (full:=[.string c0.fx,vI c0.fw,z4,A4,B4,.bool (!c0.fu)]) W7 q0 B6 (fun _=>.hd) k1 u6 I I I I I I (ea c0.fx c0.fw c0.fh j7 c0.fE k7 c0.fC p7 (!c0.fu)) I (o1 I)) fun X00 ⟨c9,H2,D9,k6⟩=>Aa<|AC<|Af<|Ac (AH I (H2.memA .t1))<|AV [vI a1.fh,vI a1.fc,vI a1.fj,j0] H2 .t2 (o4 I I I (St.o1 (α:=Tc) H2 .hd)) fun Y00 I2 P5=>Aa<|Am I ?_
 have b2:=BA I2 .hd
 have E9:=BB I2 .hd
 have q7:=BC (α:=Tc) (v:=j0) (xs:=q8) b2 L (Bg (α:=Tc) I2 .hd (AB k6 P5) hL)
 refine Au hb0 func25 I (.cons (.many (cs:=[vI a1.fh,vI a1.fc,vI a1.fj,j0]) I I (b2.memA .t1)) .nil) I ?_
 cases h
 exact ⟨b2.ag,fun p q=>⟨j0,I,b2.kd q7 q⟩⟩
 refine Af<|Ac (BP (i:=(a0.fG % (7:UInt8)).toNat) (j:=4) I I)<|Ag I<|Aa<|AQ I h (fun U4 h=>?_) (fun U4 h=>?_)
 refine Ap<|Ae I<|Bd 3 I<|AR I ((q0.memA .t1) 3 _ I)<|bk h fun J3 K7 h=>?_
 obtain ⟨J4,F8,z3,Y3,d9,s7,J6⟩:=BU (α:=Tc) q0 .hd k1 K7
 obtain ⟨M4,G8,C6⟩:=By (α:=Tc) q0 .hd Y3
 obtain rfl:J4 = ⟨M4,0,none⟩:=by rw [C6] at z3; cases z3; rfl
 obtain ⟨A00,B00,C00,rfl,t00,u00,v00⟩:=bm s7
 refine Ac (Bb 6 0 I z3 I I Y3)<|Bd 0 I<|AR I (J6 0 _ I)<|Ac (FV.nilCheck I)<|Bd 0 I ?_
 obtain ⟨H8,D6,X9,g9,t7,j00,v6⟩:=St.nthAt (α:=Tc) q0 .hd k1 I0 H0
 obtain ⟨C4,D4,E4,rfl,u7,v7,x7⟩:=bm t7
 refine bk h fun s8 X7 h=>RG.acts' .plain (Acts.setPart (α:=Tc) (i:=p1.toNat) (tot:=0) (ds:=[.string c0.fx,vI c0.fw,C4,D4,E4,.bool c0.fu]) (news:=[.string J3.fx]) (full:=[.string J3.fx,vI c0.fw,C4,D4,E4,.bool c0.fu]) X7 q0 D6 (fun _=>.hd) k1 v6 I I I I I I (ea J3.fx c0.fw c0.fh u7 c0.fE v7 c0.fC x7 c0.fu) I (o1 I)) fun Z00 ⟨j9,J2,F9,p6⟩=>Aa<|AC<|Af<|Ac (AH I (J2.memA .t1))<|AV [vI a1.fh,vI a1.fc,vI a1.fj,j0] J2 .t2 (o4 I I I (St.o1 (α:=Tc) J2 .hd)) fun b01 K2 Q5=>Aa<|Am I ?_
 have c2:=BA K2 .hd
 have G9:=BB K2 .hd
 have y7:=BC (α:=Tc) (v:=j0) (xs:=s8) c2 L (Bg (α:=Tc) K2 .hd (AB p6 Q5) hL)
 refine Au hb0 func25 I (.cons (.many (cs:=[vI a1.fh,vI a1.fc,vI a1.fj,j0]) I I (c2.memA .t1)) .nil) I ?_
 cases h
 exact ⟨c2.ag,fun p q=>⟨j0,I,c2.kd y7 q⟩⟩
 refine Af<|Ac (BP (i:=(a0.fG % (7:UInt8)).toNat) (j:=5) I I)<|Ag I<|Aa<|AQ I h (fun V4 h=>?_) (fun V4 h=>?_)
 refine Ap<|Bd 2 I<|AR I ((q0.memA .t4) 2 _ I)<|Bd 2 I<|RG.now .plain (BT (j:=2) (old:=[vI a1.fh,vI a1.fc,vI a1.fj,j0]) (news:=[vI a0.fN]) (new' :=[vI a1.fh,vI a1.fc,vI a0.fN,j0]) q0 .t1 I I I I I I (o1 I) I) fun c01 M2 R5=>Aa<|AC<|Af<|Ac (AH I (M2.memA .t1))<|AV [vI a1.fh,vI a1.fc,vI a0.fN,j0] M2 .t2 (o4 I I I (St.o1 (α:=Tc) M2 .hd)) fun d01 P2 U5=>Aa<|Am I ?_
 have d2:=BA P2 .hd
 have H9:=BB P2 .hd
 have z7:=BC (α:=Tc) (v:=j0) (xs:=s1) d2 L (Bg (α:=Tc) P2 .hd (AB K0 (Tt J0 (Tt R5 U5))) hL)
 refine Au hb0 func25 I (.cons (.many (cs:=[vI a1.fh,vI a1.fc,vI a0.fN,j0]) I I (d2.memA .t1)) .nil) I ?_
 cases h
 exact ⟨d2.ag,fun p q=>⟨j0,I,d2.kd z7 q⟩⟩
 refine Ap<|Ae I<|Bd 2 I<|AR I ((q0.memA .t4) 2 _ I)<|Al .plain I (jA a0.fN (vI a0.fN) q0 ay (e1 I)) fun g01 u2 g2 V5=>Ac (FV.nilCheck I)<|Bd 4 I ?_
 have Q2:=BA g2 .hd
 have D3:=BC (α:=Int) (v:=(vS u2 1)) (xs:=([a0.fN]:List Int)) Q2 L (Bg (α:=Int) g2 .hd (jC a0.fN (vI a0.fN) g2 L I) hL)
 have d4:=AB K0 (Tt J0 (Tt V5 (BB g2 .hd)))
 obtain ⟨I8,E6,Y9,k9,A7,k00,x6⟩:=St.nthAt (α:=Tc) Q2 .hd d4 I0 H0
 obtain ⟨F4,G4,d8,rfl,B7,C7,x00⟩:=bm A7
 refine bk h fun t8 Y7 h=>RG.acts' .plain (Acts.setPart (α:=Tc) (i:=p1.toNat) (tot:=4) (ds:=[.string c0.fx,vI c0.fw,F4,G4,d8,.bool c0.fu]) (news:=[(vS u2 1)]) (full:=[.string c0.fx,vI c0.fw,F4,G4,(vS u2 1),.bool c0.fu]) Y7 Q2 E6 (fun _=>.hd) d4 x6 I I I I I (Rep.c1 D3) (ea c0.fx c0.fw c0.fh B7 c0.fE C7 ([a0.fN]:List Int) D3 c0.fu) I (o1 (AY D3))) fun j01 ⟨p9,R2,I9,q6⟩=>Aa<|AC<|Af<|Ac (AH I (R2.memA .t1))<|AV [vI a1.fh,vI a1.fc,vI a1.fj,j0] R2 .t2 (o4 I I I (St.o1 (α:=Tc) R2 .hd)) fun k01 U2 W5=>Aa<|Am I ?_
 have j2:=BA U2 .hd
 have J9:=BB U2 .hd
 have D7:=BC (α:=Tc) (v:=j0) (xs:=t8) j2 L (Bg (α:=Tc) U2 .hd (AB q6 W5) hL)
 refine Au hb0 func25 I (.cons (.many (cs:=[vI a1.fh,vI a1.fc,vI a1.fj,j0]) I I (j2.memA .t1)) .nil) I ?_
 cases h
 exact ⟨j2.ag,fun p q=>⟨j0,I,j2.kd D7 q⟩⟩
def cj_p (_n:Nat) (a0:Tn) (a1:List Int):Oa (List Int):=
  (app ([]:List Int) a1).bind fun b0=>(if ((a0.fG % (4:UInt8)).toNat) = 0 then (ca ((a0.fB.toNat:Nat):Int) ((b0.length:Nat):Int)).bind fun c0=>(idx b0 c0).bind fun _x37=>(put b0 ((c0.toNat:Nat):Int) a0.fN).bind fun d0=>some d0 else (if ((a0.fG % (4:UInt8)).toNat) = 1 then (app b0 ([a0.fN]:List Int)).bind fun g0=>some g0 else (if ((a0.fG % (4:UInt8)).toNat) = 2 then (cut b0 0 (((b0.length:Nat):Int) - 1)).bind fun j0=>some j0 else some b0)))
theorem cj_c (n:Nat) {L w} (hL:hl L w) (a0:Tn) {a1:List Int} {v1_0:Vc} (h1_0:Rep.R w L [v1_0] a1)  {r:List Int} (h:cj_p n a0 a1 = some r) :
 Cl 26 #[.agg #[.int .u8 (a0.fG.toNat:Int),.int .u8 (a0.fB.toNat:Int),vI a0.fN],v1_0] w (ae w fun w' u=>∃ v0_0:Vc,u = v0_0/\Rep.R w' L [v0_0] r):=by
 unfold cj_p at h
 refine AF func26 I I I fun _ cs0 hb0=>Af<|RG.bx (AA w) I I fun d2 B1 A0 K1=>Ag I<|Aa<|Af<|Ag I<|Aa<|Af<|Ae I<|Ae I ?_
 have p0:=A0.nilRow 3 (Rep.size Int)
 have M1:=BW A0 3 (Rep.size Int)
 refine bk h fun g0 k1 h=>RG.doesL .plain I (Bf (α:=Int) (ys:=a1) k1 p0 (fun _ _=>.hd) jK I I (AD (cs:=[]) (xs:=([]:List Int)) p0 L (AJ _ _)) (Ca (AT h1_0 p0))) fun k0 g2 ⟨H1,b0,P1,j0⟩=>Ag I<|Aa<|Aj<|Af<|Bd 0 I<|AR I ((b0.memA .t1) 0 _ I)<|Ac (FV.rem8 (a:=a0.fG) (b:=(4:UInt8)) I I (by decide))<|Aa<|Ax<|Af<|Ac (BP (i:=(a0.fG % (4:UInt8)).toNat) (j:=0) I I)<|Ag I<|Aa<|AQ I h (fun H0 h=>?_) (fun H0 h=>?_)
 refine du 10 fun c0 d0=>Rv 0 c0 I d0 (fun _=>Ai I)<|Rv 1 c0 I d0 (fun _=>Bi 1 I)<|Rx 2 1608 c0 I d0 (AP I ((b0.memA .t1) 1 _ I)) ?_
 have c2:=a0.fB.toNat_lt
 refine Rv 3 c0 I d0 (fun _=>FV.convN (i:=a0.fB.toNat) underlying5 underlying3 I (by omega))<|Rv 4 c0 I d0 (fun _=>Ai I) ?_
 have Y1:g0.length <= 4294967296:=St.rowLe (α:=Int) b0 .hd
 obtain ⟨z1,D1,R0⟩:=St.rowV (α:=Int) b0 .hd
 refine Rx 5 1600 c0 I d0 (FV.lenV underlying39 I R0)<|bk h fun D0 d1 h=>Rv 6 c0 I d0 (fun _=>FV.remc (i:=((a0.fB.toNat:Nat):Int)) (j:=((g0.length:Nat):Int)) I I d1)<|Rv 7 c0 I d0 (fun _=>Bi 2 I)<|Rx 8 1536 c0 I d0 (AP I ((b0.memA .t1) 2 _ I))<|bk h fun v1 g1 h=>?_
 obtain ⟨W0,j1⟩:=aA g1
 obtain ⟨F0,E1,z0,C0,K0,X0,b2⟩:=BU (α:=Int) b0 .hd j0 j1
 obtain ⟨G0,F1,B0⟩:=By (α:=Int) b0 .hd C0
 obtain rfl:F0 = ⟨G0,0,none⟩:=by rw [B0] at z0; cases z0; rfl
 have U0:K0 = [vI v1]:=X0; subst U0
 refine Rv 9 c0 I d0 (fun _=>Bb 1 (D0.toNat) I z0 I W0 C0)<|bk h fun x1 p1 h=>BM (i:=10) (rk c0) (RO.acts (m' :=2047) (sk c0) I I .plain (Cb (α:=Int) (i:=D0.toNat) p1 b0 B0 (fun _=>.hd) j0 I I I I I I) (fun j2 ⟨I1,q0,Q1,P0⟩=>?_))
 refine AN (dk c0)<|AC<|Af<|Ae I<|Ag I<|Aa<|Am I ?_
 have s0:=BA q0 .hd
 have R1:=BB q0 .hd
 have Y0:=BC (α:=Int) (v:=k0) (xs:=x1) s0 L (Bg (α:=Int) q0 .hd P0 hL)
 refine AW hb0 func26 I I ?_
 cases h
 exact ⟨s0.ag,fun p q=>⟨k0,I,s0.kd Y0 q⟩⟩
 refine Af<|Ac (BP (i:=(a0.fG % (4:UInt8)).toNat) (j:=1) I I)<|Ag I<|Aa<|AQ I h (fun I0 h=>?_) (fun I0 h=>?_)
 refine Ap<|Ae I<|Bd 2 I<|AR I ((b0.memA .t1) 2 _ I)<|Al .plain I (jA a0.fN (vI a0.fN) b0 jK (e1 I)) fun k2 C1 t0 M0=>bk h fun y1 q1 h=>RG.doesL .plain I (Bf (α:=Int) (ys:=([a0.fN]:List Int)) q1 t0 (fun _ _=>.t1) jK I I (AB j0 M0) (Src.row (α:=Int) t0 .hd (jC a0.fN (vI a0.fN) t0 L I))) fun E0 p2 ⟨J1,u0,U1,Q0⟩=>Ag I<|Aa<|AC<|Af<|Ae I<|Ag I<|Aa<|Am I ?_
 have v0:=BA u0 .t1
 have V1:=BB u0 .t1
 have Z0:=BC (α:=Int) (v:=E0) (xs:=y1) v0 L (Bg (α:=Int) u0 .t1 Q0 hL)
 refine AW hb0 func26 I I ?_
 cases h
 exact ⟨v0.ag,fun p q=>⟨E0,I,v0.kd Z0 q⟩⟩
 refine Af<|Ac (BP (i:=(a0.fG % (4:UInt8)).toNat) (j:=2) I I)<|Ag I<|Aa<|AQ I h (fun J0 h=>?_) (fun J0 h=>?_)
 refine Ap<|Ae I<|Ae I ?_
 have Z1:g0.length <= 4294967296:=St.rowLe (α:=Int) b0 .hd
 obtain ⟨A1,G1,V0⟩:=St.rowV (α:=Int) b0 .hd
 refine Ac (FV.lenV underlying39 I V0)<|Ac (FV.subI (i:=((g0.length:Nat):Int)) (j:=1) I I (by omega)) ?_
 have x0:=BA b0 .hd
 have W1:=BB b0 .hd
 refine bk h fun q2 s1 h=>RG.valE .plain I (FV.cutL (α:=Int) s1 I I (BC (α:=Int) (v:=k0) (xs:=g0) x0 L (Bg (α:=Int) b0 .hd j0 hL)) I ⟨_,I⟩) fun u1 b1=>Ag I<|Aa<|AC<|Af<|Ae I<|Ag I<|Aa<|Am I<|AW hb0 func26 I I ?_
 cases h
 exact ⟨x0.ag,fun p q=>⟨u1,I,x0.kd b1 q⟩⟩
 refine Ar<|AC<|Af<|Ae I<|Ag I<|Aa<|Am I ?_
 have y0:=BA b0 .hd
 have X1:=BB b0 .hd
 have c1:=BC (α:=Int) (v:=k0) (xs:=g0) y0 L (Bg (α:=Int) b0 .hd j0 hL)
 refine AW hb0 func26 I I ?_
 cases h
 exact ⟨y0.ag,fun p q=>⟨k0,I,y0.kd c1 q⟩⟩
structure Tk where
  fr:Te
  fp:List Int
  deriving DecidableEq
instance:Rep Tk:=Rep.via (β:=Te × (List Int)) fun x=>(x.fr,x.fp)
theorem op_Te {w:World} {L:List Nat} {cs:List Vc} {x:Te} (h:Rep.R w L cs x):∃ v3:Vc,cs = [vI x.fh,vI x.fc,vI x.fj,v3]/\Rep.R w L [v3] x.ft:=by
  obtain ⟨c0,r0,rfl,h0,h⟩:=h
  have e0:c0 = [vI x.fh]:=h0; subst e0
  obtain ⟨c1,r1,rfl,h1,h⟩:=h
  have e1:c1 = [vI x.fc]:=h1; subst e1
  obtain ⟨c2,r2,rfl,h2,h⟩:=h
  have e2:c2 = [vI x.fj]:=h2; subst e2
  obtain ⟨v3,rfl,kv3⟩:=bB (xs:=x.ft) h
  exact ⟨v3,I,kv3⟩
theorem mk_Te {w:World} {L:List Nat} (a0:Int) (a1:Int) (a2:Int) (a3:List Tc) {u3:Vc} (h3:Rep.R w L [u3] a3):Rep.R w L [vI a0,vI a1,vI a2,u3] (⟨a0,a1,a2,a3⟩:Te):=⟨[vI a0],[vI a1,vI a2,u3],rfl,rfl,⟨[vI a1],[vI a2,u3],rfl,rfl,⟨[vI a2],[u3],rfl,rfl,h3⟩⟩⟩
theorem op_Tk {w:World} {L:List Nat} {cs:List Vc} {x:Tk} (h:Rep.R w L cs x):∃ v3 v4:Vc,cs = [vI x.fr.fh,vI x.fr.fc,vI x.fr.fj,v3,v4]/\Rep.R w L [v3] x.fr.ft/\Rep.R w L [v4] x.fp:=by
  obtain ⟨c0,r0,rfl,h0,h⟩:=h
  obtain ⟨v3,rfl,kv3⟩:=op_Te (x:=x.fr) h0
  obtain ⟨v4,rfl,kv4⟩:=bB (xs:=x.fp) h
  exact ⟨v3,v4,I,kv3,kv4⟩
theorem kq {w:World} {L:List Nat} (a0:Te) {u3:Vc} (h3:Rep.R w L [u3] a0.ft) (a1:List Int) {u4:Vc} (h4:Rep.R w L [u4] a1):Rep.R w L [vI a0.fh,vI a0.fc,vI a0.fj,u3,u4] (⟨a0,a1⟩:Tk):=⟨[vI a0.fh,vI a0.fc,vI a0.fj,u3],[u4],rfl,mk_Te a0.fh a0.fc a0.fj a0.ft h3,h4⟩
theorem el32:ElT Tryz.prog 32 41 (Rep.size Tk) 72 (.agg #[vI 0,vI 0,vI 0,vN,vN]) [vI 0,vI 0,vI 0,vN,vN]:=⟨underlying32,by kernel_rfl,rfl,rfl,rfl,rfl⟩
def ck_p (n:Nat) (a0:Tm) (a1:Tl) (a2:Tn) (a3:Tn):Oa ((List Tk) × Int):=
  (ak_p n a0).bind fun b0=>(bL_p n a1 ((b0.1.length:Nat):Int)).bind fun c0=>(ab_p n a1 ((b0.1.length:Nat):Int)).bind fun g0=>(ci_p n a3 c0).bind fun j0=>(cj_p n a2 b0.1).bind fun d0=>some (([(⟨c0,b0.1⟩:Tk),(⟨g0,b0.1⟩:Tk),(⟨j0,b0.1⟩:Tk),(⟨c0,d0⟩:Tk),(⟨(⟨(0:Int),(0:Int),(0:Int),([]:List Tc)⟩:Te),([]:List Int)⟩:Tk)]:List Tk),b0.2)
theorem ck_c (n:Nat) {L w} (hL:hl L w) (a0:Tm) {v0_1:Vc} (h0_1:Rep.R w L [v0_1] a0.fC) {v0_2:Vc} (h0_2:Rep.R w L [v0_2] a0.fMore) {v0_3:Vc} (h0_3:Rep.R w L [v0_3] a0.fLabels) (a1:Tl) {v1_4:Vc} (h1_4:Rep.R w L [v1_4] a1.fNums) (a2:Tn) (a3:Tn)  {r:(List Tk) × Int} (h:ck_p n a0 a1 a2 a3 = some r) :
 Cl 5 #[.agg #[.int .u8 (a0.fN.toNat:Int),v0_1,v0_2,v0_3,.int .u8 (a0.fK.toNat:Int)],.agg #[.int .u8 (a1.fh.toNat:Int),.int .u8 (a1.fc.toNat:Int),.int .u8 (a1.fj.toNat:Int),.int .u8 (a1.fu.toNat:Int),v1_4],.agg #[.int .u8 (a2.fG.toNat:Int),.int .u8 (a2.fB.toNat:Int),vI a2.fN],.agg #[.int .u8 (a3.fG.toNat:Int),.int .u8 (a3.fB.toNat:Int),vI a3.fN]] w (ae w fun w' u=>∃ v0_0:Vc,u = .tuple #[v0_0,vI r.2]/\Rep.R w' L [v0_0] r.1):=by
 unfold ck_p at h
 refine AF func5 I I I fun _ cs0 hb0=>Af<|RG.bx (AA w) I I fun x3 z2 p1 W2=>RG.bx p1 I I fun z3 A2 q1 Y2=>RG.bx q1 I I fun A3 B2 s1 Z2=>RG.bx s1 I I fun B3 C2 z0 b3=>Ag I<|Ag I<|Aa<|Af<|Ac (AH I (z0.memA .t3))<|bk h fun q0 W1 h=>jE (bd 22) I (e1 I) (fun p q=>ak_c n (z0.hL hL q) a0 (z0.km h0_1 q) (z0.km h0_2 q) (z0.km h0_3 q) W1) I fun C3 p3 y1 ⟨j0,hu_,v0⟩=>?_
 subst hu_
 obtain ⟨D0,c3⟩:=z0.agr y1
 refine Ae I<|Ac (Ak I I)<|Ac (Ak I I)<|Ag I<|Ag I<|Aa<|Af<|Ac (AH I (D0.memA .t2))<|Ae I ?_
 have d3:=AU v0
 refine Ac (Ba (xs:=q0.1) underlying39 I v0)<|bk h fun b0 X1 h=>jE (bd 23) I (e2 I I) (fun p q=>bL_c n (D0.hL hL q) a1 (D0.km h1_4 q) X1) I fun D3 q3 z1 ⟨p0,hu_,C0⟩=>?_
 subst hu_
 obtain ⟨u1,Z0⟩:=D0.agr z1
 refine RG.nl [vI 0,vI 0,vI 0,vN] u1 fun E3 D2 v1 E0=>AV [vI b0.fh,vI b0.fc,vI b0.fj,p0] v1 .hd (o4 I I I (AY (Ao C0 E0))) fun F3 s0 J0=>Aa<|Aj<|du 24 fun d0 k0=>Rx 0 13631492 d0 I k0 (AH I (s0.memA .hd))<|Rv 1 d0 I k0 (fun _=>Ai I) ?_
 obtain ⟨q2,M2,K1,_⟩:=BR (Ao C0 (Tt E0 J0))
 have Q0:=Tt Z0 (Tt E0 J0)
 have d1:=Ao v0 Q0
 obtain ⟨s2,P2,M1,_⟩:=BR d1
 refine Rv 2 d0 I k0 (fun _=>AS (vs:=[.agg #[vI b0.fh,vI b0.fc,vI b0.fj,p0],j0]) (u:=.agg #[vI b0.fh,vI b0.fc,vI b0.fj,p0,j0]) (e2 I I) (fun p=>by rw [K1,M1]; try kernel_rfl))<|Rx 3 14035264 d0 I k0 (AH I (s0.memA .t3))<|Rv 4 d0 I k0 (fun _=>Ai I)<|Rx 5 14035264 d0 I k0 (Ba (xs:=q0.1) underlying39 I d1)<|Rv 7 d0 I k0 (fun _=>Ai I)<|Rx 9 14034944 d0 I k0 (AH I (s0.memA .t1))<|Rx 10 14034944 d0 I k0 (AH I (s0.memA .hd))<|Rv 12 d0 I k0 (fun _=>Ai I)<|Rx 14 13893632 d0 I k0 (AH I (s0.memA .hd))<|Rx 15 14024704 d0 I k0 (AH I (s0.memA .t2))<|Rv 16 d0 I k0 (fun _=>Ai I)<|Rv 19 d0 I k0 (fun _=>AS (vs:=[]) (u:=.agg #[vI 0,vI 0,vI 0,vN,vN]) ak (fun p=>by kernel_rfl))<|Rv 21 d0 I k0 (fun _=>Ai I)<|bk h fun g0 Y1 h=>Bs 6 2742015 d0 I .plain (bd 24) I (e2 I I) (fun p q=>ab_c n (s0.hL hL q) a1 (s0.km h1_4 q) Y1) I fun G3 s3 A1 ⟨x0,hu_,U0⟩=>?_
 subst hu_
 obtain ⟨X0,K0⟩:=s0.agr A1
 obtain ⟨u2,Q2,P1,_⟩:=BR U0
 obtain ⟨v2,R2,Q1,_⟩:=BR (Ao v0 (Tt Q0 K0))
 refine Rv 8 d0 I k0 (fun _=>AS (vs:=[.agg #[vI g0.fh,vI g0.fc,vI g0.fj,x0],j0]) (u:=.agg #[vI g0.fh,vI g0.fc,vI g0.fj,x0,j0]) (e2 I I) (fun p=>by rw [P1,Q1]; try kernel_rfl))<|bk h fun c0 Z1 h=>?_
 have j1:=Tt E0 (Tt J0 K0)
 refine Bs 11 2744319 d0 I .plain (bd 25) I (e2 I I) (fun p q=>ci_c n (X0.hL hL q) a3 b0 (Aw (Ao C0 j1) q) Z1) I fun H3 u3 B1 ⟨u0,hu_,V0⟩=>?_
 subst hu_
 obtain ⟨Y0,F0⟩:=X0.agr B1
 obtain ⟨x2,U2,R1,_⟩:=BR V0
 have k1:=Tt Q0 (Tt K0 F0)
 have g1:=Ao v0 k1
 obtain ⟨y2,V2,U1,_⟩:=BR g1
 refine Rv 13 d0 I k0 (fun _=>AS (vs:=[.agg #[vI c0.fh,vI c0.fc,vI c0.fj,u0],j0]) (u:=.agg #[vI c0.fh,vI c0.fc,vI c0.fj,u0,j0]) (e2 I I) (fun p=>by rw [R1,U1]; try kernel_rfl))<|bk h fun G0 V1 h=>Bs 17 2883583 d0 I .plain (bd 26) I (e2 I I) (fun p q=>cj_c n (Y0.hL hL q) a2 (Aw g1 q) V1) I fun v3 t0 x1 ⟨k3,hu_,R0⟩=>?_
 subst hu_
 obtain ⟨H0,A0⟩:=Y0.agr x1
 have P0:=Tt j1 (Tt F0 A0)
 have b1:=Ao C0 P0
 obtain ⟨b2,E2,D1,_⟩:=BR b1
 obtain ⟨c2,F2,E1,_⟩:=BR R0
 refine Rv 18 d0 I k0 (fun _=>AS (vs:=[.agg #[vI b0.fh,vI b0.fc,vI b0.fj,p0],t0]) (u:=.agg #[vI b0.fh,vI b0.fc,vI b0.fj,p0,t0]) (e2 I I) (fun p=>by rw [D1,E1]; try kernel_rfl)) ?_
 have g3:=Rep.nilAt (α:=Tc) H0 L
 have j3:=Rep.nilAt (α:=Int) H0 L
 obtain ⟨d2,G2,F1,_⟩:=BR b1
 obtain ⟨g2,H2,G1,_⟩:=BR (Ao v0 (Tt Z0 P0))
 obtain ⟨j2,I2,H1,_⟩:=BR (Ao U0 (Tt F0 A0))
 obtain ⟨k2,J2,I1,_⟩:=BR (Ao V0 A0)
 obtain ⟨p2,K2,J1,_⟩:=BR R0
 refine BS 20 4194303 d0 I .plain I (AL (α:=Tk) (xs:=([(⟨b0,q0.1⟩:Tk),(⟨g0,q0.1⟩:Tk),(⟨c0,q0.1⟩:Tk),(⟨b0,G0⟩:Tk),(⟨(⟨(0:Int),(0:Int),(0:Int),([]:List Tc)⟩:Te),([]:List Int)⟩:Tk)]:List Tk)) (vs:=[.agg #[vI b0.fh,vI b0.fc,vI b0.fj,p0,j0],.agg #[vI g0.fh,vI g0.fc,vI g0.fj,x0,j0],.agg #[vI c0.fh,vI c0.fc,vI c0.fj,u0,j0],.agg #[vI b0.fh,vI b0.fc,vI b0.fj,p0,t0],.agg #[vI 0,vI 0,vI 0,vN,vN]]) (ds' :=[vI b0.fh,vI b0.fc,vI b0.fj,p0,j0,vI g0.fh,vI g0.fc,vI g0.fj,x0,j0,vI c0.fh,vI c0.fc,vI c0.fj,u0,j0,vI b0.fh,vI b0.fc,vI b0.fj,p0,t0,vI 0,vI 0,vI 0,vN,vN]) I H0 el32 I (e5 I I I I I) (by rw [F1,G1,H1,I1,J1]; try kernel_rfl) I) fun y3 W0 y0 B0=>?_
 have c1:=Ao C0 (Tt P0 B0)
 have M0:=Ao v0 (Tt k1 (Tt A0 B0))
 refine Rv 22 d0 I k0 (fun _=>Be I)<|Rv 23 d0 I k0 (fun _=>Be I)<|AN (dk d0)<|Am I ?_
 have I0:=BA y0 .hd
 have X2:=BB y0 .hd
 have C1:=BC (α:=Tk) (v:=(vS W0 5)) (xs:=([(⟨b0,q0.1⟩:Tk),(⟨g0,q0.1⟩:Tk),(⟨c0,q0.1⟩:Tk),(⟨b0,G0⟩:Tk),(⟨(⟨(0:Int),(0:Int),(0:Int),([]:List Tc)⟩:Te),([]:List Int)⟩:Tk)]:List Tk)) I0 L (Bg (α:=Tk) y0 .hd (AD (cs:=[vI b0.fh,vI b0.fc,vI b0.fj,p0,j0,vI g0.fh,vI g0.fc,vI g0.fj,x0,j0,vI c0.fh,vI c0.fc,vI c0.fj,u0,j0,vI b0.fh,vI b0.fc,vI b0.fj,p0,t0,vI 0,vI 0,vI 0,vN,vN]) (xs:=(([(⟨b0,q0.1⟩:Tk),(⟨g0,q0.1⟩:Tk),(⟨c0,q0.1⟩:Tk),(⟨b0,G0⟩:Tk),(⟨(⟨(0:Int),(0:Int),(0:Int),([]:List Tc)⟩:Te),([]:List Int)⟩:Tk)]:List Tk):List Tk)) y0 L (Av (cs:=[vI b0.fh,vI b0.fc,vI b0.fj,p0,j0]) (ds:=[vI g0.fh,vI g0.fc,vI g0.fj,x0,j0,vI c0.fh,vI c0.fc,vI c0.fj,u0,j0,vI b0.fh,vI b0.fc,vI b0.fj,p0,t0,vI 0,vI 0,vI 0,vN,vN]) (kq b0 c1 q0.1 M0) (Av (cs:=[vI g0.fh,vI g0.fc,vI g0.fj,x0,j0]) (ds:=[vI c0.fh,vI c0.fc,vI c0.fj,u0,j0,vI b0.fh,vI b0.fc,vI b0.fj,p0,t0,vI 0,vI 0,vI 0,vN,vN]) (kq g0 (Ao U0 (Tt F0 (Tt A0 B0))) q0.1 M0) (Av (cs:=[vI c0.fh,vI c0.fc,vI c0.fj,u0,j0]) (ds:=[vI b0.fh,vI b0.fc,vI b0.fj,p0,t0,vI 0,vI 0,vI 0,vN,vN]) (kq c0 (Ao V0 (Tt A0 B0)) q0.1 M0) (Av (cs:=[vI b0.fh,vI b0.fc,vI b0.fj,p0,t0]) (ds:=[vI 0,vI 0,vI 0,vN,vN]) (kq b0 c1 G0 (Ao R0 B0)) (Av (cs:=[vI 0,vI 0,vI 0,vN,vN]) (ds:=[]) (kq (⟨(0:Int),(0:Int),(0:Int),([]:List Tc)⟩:Te) (Rep.nilAt (α:=Tc) y0 L) ([]:List Int) (Rep.nilAt (α:=Int) y0 L)) (AJ _ _))))))) hL)
 refine Au hb0 func5 I (.cons (.tmp I) (.cons (.tmp I) .nil)) I ?_
 cases h
 exact ⟨I0.ag,fun p q=>⟨(vS W0 5),I,I0.kd C1 q⟩⟩
def bE_l1 (_n:Nat) (a0:ByteArray) (g0:Int -> Oa (Bool ⊕ Unit)):Int -> Oa (Bool ⊕ Unit)
  | d0=>(if d0 < ((a0.size:Nat):Int) then (kB a0 d0).bind fun b0=>jn (fun j0=>(if j0 = true then some (.inl false) else (chk (d0 + 1)).bind fun k0=>g0 k0)) (fun c0=>(if 65 <= b0.toNat then (if b0.toNat <= 90 then c0 false else (if 97 <= b0.toNat then (if b0.toNat <= 122 then c0 false else (if 48 <= b0.toNat then (if b0.toNat <= 57 then c0 false else (if b0.toNat = 45 then c0 false else c0 (!(decide (b0.toNat = 95))))) else (if b0.toNat = 45 then c0 false else c0 (!(decide (b0.toNat = 95)))))) else (if 48 <= b0.toNat then (if b0.toNat <= 57 then c0 false else (if b0.toNat = 45 then c0 false else c0 (!(decide (b0.toNat = 95))))) else (if b0.toNat = 45 then c0 false else c0 (!(decide (b0.toNat = 95))))))) else (if 97 <= b0.toNat then (if b0.toNat <= 122 then c0 false else (if 48 <= b0.toNat then (if b0.toNat <= 57 then c0 false else (if b0.toNat = 45 then c0 false else c0 (!(decide (b0.toNat = 95))))) else (if b0.toNat = 45 then c0 false else c0 (!(decide (b0.toNat = 95)))))) else (if 48 <= b0.toNat then (if b0.toNat <= 57 then c0 false else (if b0.toNat = 45 then c0 false else c0 (!(decide (b0.toNat = 95))))) else (if b0.toNat = 45 then c0 false else c0 (!(decide (b0.toNat = 95)))))))) else some (.inr ()))
def bE_p (n:Nat) (a0:ByteArray):Oa Bool:=
  thn (aj (bE_l1 n a0) n 0) (fun _=>(if 1 <= a0.size then some (decide (a0.size <= 12)) else some false))
theorem bE_c (n:Nat) {L w} (_hL:hl L w) {a0:ByteArray}  {r:Bool} (h:bE_p n a0 = some r) :
 Cl 206 #[.string a0] w (ae w fun _ u=>u = .bool r):=by
 unfold bE_p at h
 refine AF func206 I I I fun _ cs0 hb0=>Af<|Ag I<|Aa<|Aj<|Af<|Ag I<|Aa<|Ax<|tn h fun q1 b1 p0=>MX.lo (α:=Int) (fun g0=>[(0,.string a0),(3,vI g0)]) (fun g0=>[]) (fun g0=>g0) 0 b1 (AA w) ?_
 rintro k1 g0 s1 W0 c0 X0 h
 unfold bE_l1 at h
 try dsimp only at h
 refine Aj<|Af<|Ae I<|Ae I<|Ac (BL underlying9 I)<|Ac (BO (i:=g0) (j:=((a0.size:Nat):Int)) I I)<|Aa<|AQ I h (fun q0 h=>?_) (fun q0 h=>?_)
 refine Ar<|Aj<|Ax<|Af<|Ae I<|Ae I<|bk h fun b0 g1 h=>?_
 obtain ⟨Z0,d1⟩:=ep g1
 refine Ac (FV.strAt (k:=g0.toNat) underlying9 I I Z0 d1)<|Ag I<|Aa<|Aj<|MX.jo (α:=Bool) (fun j0=>[(0,.string a0),(3,vI g0),(44,.bool j0)]) (fun j0=>[]) (fun j0=>j0) c0 h ?_ ?_
 rintro j0 u1 k0 Y0 h
 try dsimp only at h
 refine MX.ifb I h (fun s0 h=>?_) (fun s0 h=>?_)
 refine Af<|Ag I<|Aa ?_
 have h:=au h p0
 refine Am I<|AW hb0 func206 I I ?_
 cases h
 exact k0.gv
 refine Ar<|AC<|Ap<|Ae I<|bk h fun j1 c1 h=>Ac (Bw (i:=g0) (j:=1) I I c1)<|Ag I<|Aa<|W0 j1 k0 (Tt X0 Y0) h
 intro p1 d0 h
 try dsimp only at h
 refine Ap<|Ae I<|Ac (FV.geqN (i:=b0.toNat) (j:=65) I I)<|Ae I<|BD (s:=16) I h (fun t0 h=>?_) (fun t0 h=>?_)
 refine AG (Ai I)<|AG (FV.leqN (i:=b0.toNat) (j:=90) I I)<|Bn I I<|Ae I<|BD (s:=20) I h (fun u0 h=>?_) (fun u0 h=>?_)
 refine Aq<|Aq<|Aq<|RG.un<|RG.un<|Aq<|Bn I I<|Ae I<|Aq<|Aq<|Aq<|RG.un<|RG.un<|Aq<|Bn I I<|Ae I<|Aq<|Aq<|Bn I I<|Ae I<|Aq<|Aq<|Bn I I<|Ac (Bu I)<|Aa<|d0 false c0 (Bx _ _) h
 refine AG (Ai I)<|AG (FV.geqN (i:=b0.toNat) (j:=97) I I)<|AG (Ai I)<|BD (s:=23) I h (fun v0 h=>?_) (fun v0 h=>?_)
 refine AG (Ai I)<|AG (FV.leqN (i:=b0.toNat) (j:=122) I I)<|AG (BN I I)<|Bv I I<|Ae I<|BD (s:=28) I h (fun x0 h=>?_) (fun x0 h=>?_)
 refine Aq<|Aq<|Aq<|RG.un<|RG.un<|Aq<|Bn I I<|Ae I<|Aq<|Aq<|Bn I I<|Ae I<|Aq<|Aq<|Bn I I<|Ac (Bu I)<|Aa<|d0 false c0 (Bx _ _) h
 refine AG (Ai I)<|AG (FV.geqN (i:=b0.toNat) (j:=48) I I)<|AG (Ai I)<|BD (s:=31) I h (fun y0 h=>?_) (fun y0 h=>?_)
 refine AG (Ai I)<|AG (FV.leqN (i:=b0.toNat) (j:=57) I I)<|AG (BN I I)<|Bv I I<|Ae I<|BD (s:=36) I h (fun z0 h=>?_) (fun z0 h=>?_)
 refine Aq<|Aq<|Bn I I<|Ae I<|Aq<|Aq<|Bn I I<|Ac (Bu I)<|Aa<|d0 false c0 (Bx _ _) h
 refine AG (Ai I)<|AG (BP (i:=b0.toNat) (j:=45) I I)<|Bv I I<|Ae I<|BD (s:=40) I h (fun A0 h=>?_) (fun A0 h=>?_)
 refine Aq<|Aq<|Bn I I<|Ac (Bu I)<|Aa<|d0 false c0 (Bx _ _) h
 refine AG (Ai I)<|AG (BP (i:=b0.toNat) (j:=95) I I)<|Bv I I<|Ac (Bu I)<|Aa<|d0 (!(decide (b0.toNat = 95))) c0 (Bx _ _) h
 refine Aq<|Aq<|AG (AZ I I)<|Bv I I<|Ae I<|AG (Ai I)<|AG (BP (i:=b0.toNat) (j:=45) I I)<|Bv I I<|Ae I<|BD (s:=40) I h (fun B0 h=>?_) (fun B0 h=>?_)
 refine Aq<|Aq<|Bn I I<|Ac (Bu I)<|Aa<|d0 false c0 (Bx _ _) h
 refine AG (Ai I)<|AG (BP (i:=b0.toNat) (j:=95) I I)<|Bv I I<|Ac (Bu I)<|Aa<|d0 (!(decide (b0.toNat = 95))) c0 (Bx _ _) h
 refine Aq<|Aq<|AG (AZ I I)<|Bv I I<|Ae I<|AG (Ai I)<|AG (FV.geqN (i:=b0.toNat) (j:=48) I I)<|AG (Ai I)<|BD (s:=31) I h (fun C0 h=>?_) (fun C0 h=>?_)
 refine AG (Ai I)<|AG (FV.leqN (i:=b0.toNat) (j:=57) I I)<|AG (BN I I)<|Bv I I<|Ae I<|BD (s:=36) I h (fun D0 h=>?_) (fun D0 h=>?_)
 refine Aq<|Aq<|Bn I I<|Ae I<|Aq<|Aq<|Bn I I<|Ac (Bu I)<|Aa<|d0 false c0 (Bx _ _) h
 refine AG (Ai I)<|AG (BP (i:=b0.toNat) (j:=45) I I)<|Bv I I<|Ae I<|BD (s:=40) I h (fun E0 h=>?_) (fun E0 h=>?_)
 refine Aq<|Aq<|Bn I I<|Ac (Bu I)<|Aa<|d0 false c0 (Bx _ _) h
 refine AG (Ai I)<|AG (BP (i:=b0.toNat) (j:=95) I I)<|Bv I I<|Ac (Bu I)<|Aa<|d0 (!(decide (b0.toNat = 95))) c0 (Bx _ _) h
 refine Aq<|Aq<|AG (AZ I I)<|Bv I I<|Ae I<|AG (Ai I)<|AG (BP (i:=b0.toNat) (j:=45) I I)<|Bv I I<|Ae I<|BD (s:=40) I h (fun F0 h=>?_) (fun F0 h=>?_)
 refine Aq<|Aq<|Bn I I<|Ac (Bu I)<|Aa<|d0 false c0 (Bx _ _) h
 refine AG (Ai I)<|AG (BP (i:=b0.toNat) (j:=95) I I)<|Bv I I<|Ac (Bu I)<|Aa<|d0 (!(decide (b0.toNat = 95))) c0 (Bx _ _) h
 refine Aq<|Aq<|Bv I I<|Ae I<|AG (Ai I)<|AG (FV.geqN (i:=b0.toNat) (j:=97) I I)<|AG (Ai I)<|BD (s:=23) I h (fun G0 h=>?_) (fun G0 h=>?_)
 refine AG (Ai I)<|AG (FV.leqN (i:=b0.toNat) (j:=122) I I)<|AG (BN I I)<|Bv I I<|Ae I<|BD (s:=28) I h (fun H0 h=>?_) (fun H0 h=>?_)
 refine Aq<|Aq<|Aq<|RG.un<|RG.un<|Aq<|Bn I I<|Ae I<|Aq<|Aq<|Bn I I<|Ae I<|Aq<|Aq<|Bn I I<|Ac (Bu I)<|Aa<|d0 false c0 (Bx _ _) h
 refine AG (Ai I)<|AG (FV.geqN (i:=b0.toNat) (j:=48) I I)<|AG (Ai I)<|BD (s:=31) I h (fun I0 h=>?_) (fun I0 h=>?_)
 refine AG (Ai I)<|AG (FV.leqN (i:=b0.toNat) (j:=57) I I)<|AG (BN I I)<|Bv I I<|Ae I<|BD (s:=36) I h (fun J0 h=>?_) (fun J0 h=>?_)
 refine Aq<|Aq<|Bn I I<|Ae I<|Aq<|Aq<|Bn I I<|Ac (Bu I)<|Aa<|d0 false c0 (Bx _ _) h
 refine AG (Ai I)<|AG (BP (i:=b0.toNat) (j:=45) I I)<|Bv I I<|Ae I<|BD (s:=40) I h (fun K0 h=>?_) (fun K0 h=>?_)
 refine Aq<|Aq<|Bn I I<|Ac (Bu I)<|Aa<|d0 false c0 (Bx _ _) h
 refine AG (Ai I)<|AG (BP (i:=b0.toNat) (j:=95) I I)<|Bv I I<|Ac (Bu I)<|Aa<|d0 (!(decide (b0.toNat = 95))) c0 (Bx _ _) h
 refine Aq<|Aq<|AG (AZ I I)<|Bv I I<|Ae I<|AG (Ai I)<|AG (BP (i:=b0.toNat) (j:=45) I I)<|Bv I I<|Ae I<|BD (s:=40) I h (fun M0 h=>?_) (fun M0 h=>?_)
 refine Aq<|Aq<|Bn I I<|Ac (Bu I)<|Aa<|d0 false c0 (Bx _ _) h
 refine AG (Ai I)<|AG (BP (i:=b0.toNat) (j:=95) I I)<|Bv I I<|Ac (Bu I)<|Aa<|d0 (!(decide (b0.toNat = 95))) c0 (Bx _ _) h
 refine Aq<|Aq<|AG (AZ I I)<|Bv I I<|Ae I<|AG (Ai I)<|AG (FV.geqN (i:=b0.toNat) (j:=48) I I)<|AG (Ai I)<|BD (s:=31) I h (fun P0 h=>?_) (fun P0 h=>?_)
 refine AG (Ai I)<|AG (FV.leqN (i:=b0.toNat) (j:=57) I I)<|AG (BN I I)<|Bv I I<|Ae I<|BD (s:=36) I h (fun Q0 h=>?_) (fun Q0 h=>?_)
 refine Aq<|Aq<|Bn I I<|Ae I<|Aq<|Aq<|Bn I I<|Ac (Bu I)<|Aa<|d0 false c0 (Bx _ _) h
 refine AG (Ai I)<|AG (BP (i:=b0.toNat) (j:=45) I I)<|Bv I I<|Ae I<|BD (s:=40) I h (fun R0 h=>?_) (fun R0 h=>?_)
 refine Aq<|Aq<|Bn I I<|Ac (Bu I)<|Aa<|d0 false c0 (Bx _ _) h
 refine AG (Ai I)<|AG (BP (i:=b0.toNat) (j:=95) I I)<|Bv I I<|Ac (Bu I)<|Aa<|d0 (!(decide (b0.toNat = 95))) c0 (Bx _ _) h
 refine Aq<|Aq<|AG (AZ I I)<|Bv I I<|Ae I<|AG (Ai I)<|AG (BP (i:=b0.toNat) (j:=45) I I)<|Bv I I<|Ae I<|BD (s:=40) I h (fun U0 h=>?_) (fun U0 h=>?_)
 refine Aq<|Aq<|Bn I I<|Ac (Bu I)<|Aa<|d0 false c0 (Bx _ _) h
 refine AG (Ai I)<|AG (BP (i:=b0.toNat) (j:=95) I I)<|Bv I I<|Ac (Bu I)<|Aa<|d0 (!(decide (b0.toNat = 95))) c0 (Bx _ _) h
 refine AX I ?_
 have h:=aC h p0
 try dsimp only at h
 refine Af<|Ae I<|Ac (BL underlying9 I)<|Ac (FV.geqN (i:=a0.size) (j:=1) I I)<|Ae I<|BD (s:=48) I h (fun V0 h=>?_) (fun V0 h=>?_)
 refine AG (Ai I)<|AG (BL underlying9 I)<|AG (FV.leqN (i:=a0.size) (j:=12) I I)<|Bn I I<|Ag I<|Aa<|Am I<|AW hb0 func206 I I ?_
 cases h
 exact c0.gv
 refine Aq<|Aq<|Aq<|Bv I I<|Ag I<|Aa<|Am I<|AW hb0 func206 I I ?_
 cases h
 exact c0.gv
def av_l1 (_n:Nat) (a0:List Int) (a2:Int) (d0:Nat -> Oa (Bool ⊕ Unit)):Nat -> Oa (Bool ⊕ Unit)
  | b0=>(if b0 < a0.length then (a0[b0]?).bind fun c0=>(if c0 < 0 then some (.inl false) else (if a2 < c0 then some (.inl false) else d0 (b0 + 1))) else some (.inr ()))
def av_p (n:Nat) (a0:List Int) (a1:Int) (a2:Int):Oa Bool:=
  thn (aj (av_l1 n a0 a2) n 0) (fun _=>some (decide (((a0.length:Nat):Int) = a1)))
theorem av_c (n:Nat) {L w} (_hL:hl L w) {a0:List Int} {v0_0:Vc} (h0_0:Rep.R w L [v0_0] a0) {a1:Int} {a2:Int}  {r:Bool} (h:av_p n a0 a1 a2 = some r) :
 Cl 207 #[v0_0,vI a1,vI a2] w (ae w fun _ u=>u = .bool r):=by
 unfold av_p at h
 refine AF func207 I I I fun _ cs0 hb0=>Af<|Ag I<|Aa<|Aj<|Af<|Ag I<|Aa<|Ax<|tn h fun H0 A0 g0=>MX.lo (α:=Nat) (fun b0=>[(0,v0_0),(1,vI a1),(2,vI a2),(7,vn b0)]) (fun b0=>[]) (fun b0=>b0) 0 A0 (AA w) ?_
 rintro E0 b0 I0 x0 c0 y0 h
 unfold av_l1 at h
 try dsimp only at h
 refine Aj<|Af<|Ae I<|Ae I ?_
 have d0:=AT h0_0 c0
 have G0:=AU d0
 refine Ac (Ba (xs:=a0) underlying38 I d0)<|Ac (Bp (i:=b0) (j:=a0.length) I I)<|Aa<|AQ I h (fun s0 h=>?_) (fun s0 h=>?_)
 refine Ar<|Aj<|Ax<|Af<|Ae I<|Ae I<|bk h fun j0 C0 h=>?_
 obtain ⟨D0,F0,k0,p0,v0,B0,q0⟩:=Bh d0 C0
 have z0:v0 = [vI j0]:=B0; subst z0
 refine Ac (Bb 1 b0 I k0 I I p0)<|AR I (q0 0 _ I)<|Ac (BO (i:=j0) (j:=0) I I)<|Ae I<|BD (s:=19) I h (fun t0 h=>?_) (fun t0 h=>?_)
 refine Aq<|Aq<|Aq<|Aq<|Aq<|Aq<|Bn I I<|Aa<|Bq I<|Af<|Ag I<|Aa ?_
 have h:=au h g0
 refine Am I<|AW hb0 func207 I I ?_
 cases h
 exact c0.gv
 refine AG (Ai I)<|AG (Ai I)<|AG (Bb 1 b0 I k0 I I p0)<|AG (AP I (q0 0 _ I))<|AG (Ai I)<|AG (FV.gtr (i:=j0) (j:=a2) I I)<|Bv I I<|Aa<|AQ I h (fun u0 h=>?_) (fun u0 h=>?_)
 refine Af<|Ag I<|Aa ?_
 have h:=au h g0
 refine Am I<|AW hb0 func207 I I ?_
 cases h
 exact c0.gv
 refine Ar<|AC<|Ap<|Ae I<|Ac (Bl (i:=b0) (j:=1) I I (by omega))<|Ag I<|Aa<|x0 (b0 + 1) c0 y0 h
 refine AX I ?_
 have h:=aC h g0
 try dsimp only at h
 refine Af<|Ae I<|Ac (Ba (xs:=a0) underlying38 I d0)<|Ae I<|Ac (FV.eql (i:=((a0.length:Nat):Int)) (j:=a1) I I)<|Ag I<|Aa<|Am I<|AW hb0 func207 I I ?_
 cases h
 exact c0.gv
def cx_p (n:Nat) (a0:Te) (a1:Tc):Oa Bool:=
  (bE_p n a1.fx).bind fun b0=>(if b0 = true then (if a1.fw < 0 then some false else (if 1000000000 < a1.fw then some false else (av_p n a1.fh a0.fh a1.fw).bind fun c0=>(if c0 = true then (av_p n a1.fE a0.fc (1000000000:Int)).bind fun d0=>(if d0 = true then (av_p n a1.fC a0.fj (63:Int)).bind fun g0=>(if g0 = true then (if a1.fu = true then (if a1.fw = 0 then (av_p n a1.fE a0.fc (0:Int)).bind fun j0=>(if j0 = true then (av_p n a1.fC a0.fj (0:Int)).bind fun k0=>some k0 else some false) else some false) else some true) else some false) else some false) else some false))) else some false)
theorem cx_c (n:Nat) {L w} (hL:hl L w) (a0:Te) {v0_3:Vc} (_h0_3:Rep.R w L [v0_3] a0.ft) (a1:Tc) {v1_2:Vc} (h1_2:Rep.R w L [v1_2] a1.fh) {v1_3:Vc} (h1_3:Rep.R w L [v1_3] a1.fE) {v1_4:Vc} (h1_4:Rep.R w L [v1_4] a1.fC)  {r:Bool} (h:cx_p n a0 a1 = some r) :
 Cl 191 #[.agg #[vI a0.fh,vI a0.fc,vI a0.fj,v0_3],.agg #[.string a1.fx,vI a1.fw,v1_2,v1_3,v1_4,.bool a1.fu]] w (ae w fun _ u=>u = .bool r):=by
 unfold cx_p at h
 refine AF func191 I I I fun _ cs0 hb0=>Af<|RG.bx (AA w) I I fun Q0 J0 v0 M0=>RG.bx v0 I I fun R0 K0 b0 P0=>Ag I<|Aa<|Aj<|Af<|Bd 0 I<|AR I ((b0.memA .hd) 0 _ I)<|bk h fun D0 x0 h=>Bj (.bool D0) (bd 206) I (e1 I) (fun p q=>bE_c n (b0.hL0 hL q)  x0) I<|Ac (Bu I)<|Ae I<|RG.ifnb (s:=9) I h (fun c0 h=>?_) (fun c0 h=>?_)
 refine RG.fg 1 I<|AG (AP I ((b0.memA .hd) 1 _ I))<|AG (BO (i:=a1.fw) (j:=0) I I)<|Bv I I<|Ae I<|BD (s:=14) I h (fun d0 h=>?_) (fun d0 h=>?_)
 refine Aq<|Aq<|Aq<|Bn I I<|Aa<|Bq I<|Af<|Ag I<|Aa<|Am I<|AW hb0 func191 I I ?_
 cases h
 exact b0.gv
 refine RG.fg 1 I<|AG (AP I ((b0.memA .hd) 1 _ I))<|AG (FV.gtr (i:=a1.fw) (j:=1000000000) I I)<|Bv I I<|Aa<|AQ I h (fun g0 h=>?_) (fun g0 h=>?_)
 refine Af<|Ag I<|Aa<|Am I<|AW hb0 func191 I I ?_
 cases h
 exact b0.gv
 refine Ar<|Aj<|Af<|Bd 2 I<|AR I ((b0.memA .hd) 2 _ I)<|Bd 0 I<|AR I ((b0.memA .t1) 0 _ I)<|Bd 1 I<|AR I ((b0.memA .hd) 1 _ I)<|bk h fun E0 y0 h=>Bj (.bool E0) (bd 207) I (e3 I I I) (fun p q=>av_c n (b0.hL0 hL q) (b0.k0 h1_2 q) y0) I<|Ac (Bu I)<|Ae I<|RG.ifnb (s:=27) I h (fun j0 h=>?_) (fun j0 h=>?_)
 refine RG.fg 3 I<|AG (AP I ((b0.memA .hd) 3 _ I))<|RG.fg 1 I<|AG (AP I ((b0.memA .t1) 1 _ I))<|bk h fun F0 z0 h=>RG.callq' (v:=.bool F0) (fst:=[]) (cap:=[]) (.yes I I) (bd 207) I (e3 I I I) (fun p q=>av_c n (b0.hL0 hL q) (b0.k0 h1_3 q) z0) I<|AG (Bu I)<|Bv I I<|Ae I<|RG.ifnb (s:=35) I h (fun p0 h=>?_) (fun p0 h=>?_)
 refine RG.fg 4 I<|AG (AP I ((b0.memA .hd) 4 _ I))<|RG.fg 2 I<|AG (AP I ((b0.memA .t1) 2 _ I))<|bk h fun G0 A0 h=>RG.callq' (v:=.bool G0) (fst:=[]) (cap:=[]) (.yes I I) (bd 207) I (e3 I I I) (fun p q=>av_c n (b0.hL0 hL q) (b0.k0 h1_4 q) A0) I<|AG (Bu I)<|Bv I I<|Aa<|MX.ifnb I h (fun q0 h=>?_) (fun q0 h=>?_)
 refine Ar<|Aj<|Af<|Bd 5 I<|AR I ((b0.memA .hd) 5 _ I)<|Aa<|MX.ifb I h (fun s0 h=>?_) (fun s0 h=>?_)
 refine Af<|Bd 1 I<|AR I ((b0.memA .hd) 1 _ I)<|Ac (FV.eql (i:=a1.fw) (j:=0) I I)<|Ae I<|BD (s:=48) I h (fun t0 h=>?_) (fun t0 h=>?_)
 refine RG.fg 3 I<|AG (AP I ((b0.memA .hd) 3 _ I))<|RG.fg 1 I<|AG (AP I ((b0.memA .t1) 1 _ I))<|bk h fun H0 B0 h=>RG.callq' (v:=.bool H0) (fst:=[]) (cap:=[]) (.yes I I) (bd 207) I (e3 I I I) (fun p q=>av_c n (b0.hL0 hL q) (b0.k0 h1_3 q) B0) I<|Bn I I<|Ae I<|RG.ifb (s:=55) I h (fun u0 h=>?_) (fun u0 h=>?_)
 refine RG.fg 4 I<|AG (AP I ((b0.memA .hd) 4 _ I))<|RG.fg 2 I<|AG (AP I ((b0.memA .t1) 2 _ I))<|bk h fun I0 C0 h=>RG.callq' (v:=.bool I0) (fst:=[]) (cap:=[]) (.yes I I) (bd 207) I (e3 I I I) (fun p q=>av_c n (b0.hL0 hL q) (b0.k0 h1_4 q) C0) I<|Bn I I<|Ag I<|Aa<|Am I<|AW hb0 func191 I I ?_
 cases h
 exact b0.gv
 refine Aq<|Aq<|Aq<|Aq<|Aq<|Bv I I<|Ag I<|Aa<|Am I<|AW hb0 func191 I I ?_
 cases h
 exact b0.gv
 refine Aq<|Aq<|Aq<|Aq<|Aq<|Bv I I<|Ae I<|Aq<|Aq<|Aq<|Aq<|Aq<|Bv I I<|Ag I<|Aa<|Am I<|AW hb0 func191 I I ?_
 cases h
 exact b0.gv
 refine Ar<|Af<|Ag I<|Aa<|Am I<|AW hb0 func191 I I ?_
 cases h
 exact b0.gv
 refine Af<|Ag I<|Aa<|Am I<|AW hb0 func191 I I ?_
 cases h
 exact b0.gv
 refine Aq<|Aq<|Aq<|Aq<|Aq<|Aq<|Bn I I<|Aa<|Bq I<|Af<|Ag I<|Aa<|Am I<|AW hb0 func191 I I ?_
 cases h
 exact b0.gv
 refine Aq<|Aq<|Aq<|Aq<|Aq<|Aq<|Bn I I<|Ae I<|Aq<|Aq<|Aq<|Aq<|Aq<|Aq<|Bn I I<|Aa<|Bq I<|Af<|Ag I<|Aa<|Am I<|AW hb0 func191 I I ?_
 cases h
 exact b0.gv
 refine Aq<|Aq<|Aq<|Bn I I<|Ae I<|Aq<|Aq<|Aq<|Bn I I<|Aa<|Bq I<|Af<|Ag I<|Aa<|Am I<|AW hb0 func191 I I ?_
 cases h
 exact b0.gv
def am_l1 (_n:Nat) (j0:Nat) (a0:Te) (d0:Tc) (c0:Nat -> Oa ((Int ⊕ Unit) ⊕ Unit)):Nat -> Oa ((Int ⊕ Unit) ⊕ Unit)
  | b0=>(if b0 < j0 then (a0.ft[b0]?).bind fun g0=>(if g0.fx = d0.fx then some (.inl (.inl (161:Int))) else (if g0.fu = true then (if d0.fu = true then c0 (b0 + 1) else some (.inl (.inl (161:Int)))) else c0 (b0 + 1))) else some (.inr ()))
def am_l2 (n:Nat) (a0:Te) (d0:Nat -> Oa (Int ⊕ Unit)):Nat -> Oa (Int ⊕ Unit)
  | b0=>(if b0 < a0.ft.length then (a0.ft[b0]?).bind fun c0=>(cx_p n a0 c0).bind fun g0=>(if g0 = true then thn (aj (am_l1 n b0 a0 c0) n 0) (fun _=>d0 (b0 + 1)) else some (.inl (161:Int))) else some (.inr ()))
def am_p (n:Nat) (a0:Te):Oa Int:=
  jn (fun c0=>(if c0 = true then some (161:Int) else (if a0.ft.length < 1 then some (161:Int) else (if 64 < a0.ft.length then some (161:Int) else (a0.ft[0]?).bind fun d0=>(if d0.fu = true then some (161:Int) else thn (aj (am_l2 n a0) n 0) (fun _=>some (0:Int))))))) (fun b0=>(if a0.fh < 0 then b0 true else (if 6 < a0.fh then b0 true else (if a0.fc < 0 then b0 true else (if 12 < a0.fc then b0 true else (if a0.fj < 0 then b0 true else b0 (decide (3 < a0.fj))))))))
theorem am_c (n:Nat) {L w} (hL:hl L w) (a0:Te) {v0_3:Vc} (h0_3:Rep.R w L [v0_3] a0.ft)  {r:Int} (h:am_p n a0 = some r) :
 Cl 163 #[.agg #[vI a0.fh,vI a0.fc,vI a0.fj,v0_3]] w (ae w fun _ u=>u = vI r):=by
 unfold am_p at h
 refine AF func163 I I I fun _ cs0 hb0=>Af<|RG.bx (AA w) I I fun Z2 v0 d0 t2=>Ag I<|Aa<|Aj<|Aj<|MX.jo (α:=Bool) (fun y0=>[(1,vP v0),(32,.bool y0)]) (fun y0=>[.cells v0 [vI a0.fh,vI a0.fc,vI a0.fj,v0_3] 37]) (fun y0=>y0) d0 h ?_ ?_
 rintro y0 c3 s0 u2 h
 try dsimp only at h
 refine MX.ifb I h (fun V0 h=>?_) (fun V0 h=>?_)
 refine Af<|Ag I<|Aa<|Am I<|AW hb0 func163 I I ?_
 cases h
 exact s0.gv
 refine Ar<|Aj<|Af<|Bd 3 I<|AR I ((s0.memA .hd) 3 _ I) ?_
 have A0:=AT h0_3 s0
 have v2:=AU A0
 refine Ac (Ba (xs:=a0.ft) underlying35 I A0)<|Ac (Bp (i:=a0.ft.length) (j:=1) I I)<|Ae I<|BD (s:=37) I h (fun j1 h=>?_) (fun j1 h=>?_)
 refine Aq<|Aq<|Aq<|Aq<|Bn I I<|Ae I<|Aq<|Aq<|Aq<|Aq<|Aq<|Bn I I<|Aa<|Bq I<|Af<|Ag I<|Aa<|Am I<|AW hb0 func163 I I ?_
 cases h
 exact s0.gv
 refine RG.fg 3 I<|AG (AP I ((s0.memA .hd) 3 _ I))<|AG (Ba (xs:=a0.ft) underlying35 I A0)<|AG (FV.gtrN (i:=a0.ft.length) (j:=64) I I)<|Bv I I<|Ae I<|BD (s:=43) I h (fun k1 h=>?_) (fun k1 h=>?_)
 refine Aq<|Aq<|Aq<|Aq<|Aq<|Bn I I<|Aa<|Bq I<|Af<|Ag I<|Aa<|Am I<|AW hb0 func163 I I ?_
 cases h
 exact s0.gv
 refine RG.fg 3 I<|AG (AP I ((s0.memA .hd) 3 _ I))<|bk h fun j3 M1 h=>?_
 obtain ⟨X1,j2,v1,y1,s2,J1,A1⟩:=Bh A0 M1
 obtain ⟨W2,X2,Y2,rfl,D2,E2,F2⟩:=bm J1
 refine AG (Bb 6 0 I v1 I I y1)<|RG.fg 5 I<|AG (AP I (A1 5 _ I))<|Bv I I<|Aa<|MX.ifb I h (fun p1 h=>?_) (fun p1 h=>?_)
 refine Af<|Ag I<|Aa<|Am I<|AW hb0 func163 I I ?_
 cases h
 exact s0.gv
 refine Ar<|Aj<|Af<|Ag I<|Aa<|Ax<|tn h fun G2 B1 z0=>MX.lo (α:=Nat) (fun g0=>[(1,vP v0),(3,vn g0)]) (fun g0=>[.cells v0 [vI a0.fh,vI a0.fc,vI a0.fj,v0_3] 37]) (fun g0=>g0) 0 B1 s0 ?_
 rintro Y1 g0 b3 q1 j0 s1 h
 unfold am_l2 at h
 try dsimp only at h
 refine Aj<|Af<|Ae I<|Bd 3 I<|AR I ((j0.memA .hd) 3 _ I) ?_
 have I0:=AT h0_3 j0
 refine Ac (Ba (xs:=a0.ft) underlying35 I I0)<|Ac (Bp (i:=g0) (j:=a0.ft.length) I I)<|Aa<|AQ I h (fun Q0 h=>?_) (fun Q0 h=>?_)
 refine Ar<|Aj<|Ax<|Aj<|Aj<|du 8 fun t0 u0=>Rx 0 192 t0 I u0 (AH I (j0.memA .hd))<|Rv 1 t0 I u0 (fun _=>Bi 3 I)<|Rx 2 240 t0 I u0 (AP I ((j0.memA .hd) 3 _ I))<|Rv 3 t0 I u0 (fun _=>Ai I)<|bk h fun Q1 P0 h=>?_
 obtain ⟨U1,c2,u1,x1,k2,D1,z1⟩:=Bh I0 P0
 obtain ⟨I2,J2,K2,rfl,E1,F1,G1⟩:=bm D1
 refine Rv 4 t0 I u0 (fun _=>Bb 6 g0 I u1 I I x1)<|Rx 5 192 t0 I u0 (AH I z1)<|bk h fun R1 P1 h=>BV 6 127 128 (.bool R1) t0 I u0 (bd 191) I (e2 I I) (fun p q=>cx_c n (j0.hL0 hL q) a0 (j0.k0 h0_3 q) Q1 (j0.kd E1 q) (j0.kd F1 q) (j0.kd G1 q) P1) I<|Rv 7 t0 I u0 (fun _=>Bu I)<|AN (dk t0)<|MX.ifnb I h (fun R0 h=>?_) (fun R0 h=>?_)
 refine Ar<|Af<|Ag I<|Aa<|Ax<|tn h fun H2 C1 C0=>MX.lo (α:=Nat) (fun p0=>[(1,vP v0),(3,vn g0),(4,vn p0)]) (fun p0=>[.cells v0 [vI a0.fh,vI a0.fc,vI a0.fj,v0_3] 37]) (fun p0=>p0) 0 C1 j0 ?_
 rintro Z1 p0 d3 D0 q0 B0 h
 unfold am_l1 at h
 try dsimp only at h
 refine Aj<|Af<|Ae I<|Ae I<|Ac (Bp (i:=p0) (j:=g0) I I)<|Aa<|AQ I h (fun U0 h=>?_) (fun U0 h=>?_)
 refine Ar<|Aj<|Ax<|Aj<|du 30 fun b0 c0=>Rv 0 b0 I c0 (fun _=>Bi 3 I)<|Rx 1 1073737784 b0 I c0 (AP I ((q0.memA .hd) 3 _ I))<|Rv 2 b0 I c0 (fun _=>Ai I)<|bk h fun g3 K1 h=>?_
 have K0:=AT h0_3 q0
 obtain ⟨V1,d2,E0,G0,p2,H1,J0⟩:=Bh K0 K1
 obtain ⟨M2,P2,Q2,rfl,x2,y2,z2⟩:=bm H1
 refine Rv 3 b0 I c0 (fun _=>Bb 6 p0 I E0 I I G0)<|Rv 4 b0 I c0 (fun _=>Bi 0 I)<|Rx 5 1073737728 b0 I c0 (AP I (J0 0 _ I))<|Rv 6 b0 I c0 (fun _=>Bi 3 I)<|Rx 7 1073741312 b0 I c0 (AP I ((q0.memA .hd) 3 _ I))<|Rv 8 b0 I c0 (fun _=>Ai I) ?_
 obtain ⟨W1,g2,F0,H0,q2,I1,M0⟩:=Bh K0 P0
 obtain ⟨R2,U2,V2,rfl,A2,B2,C2⟩:=bm I1
 refine Rv 9 b0 I c0 (fun _=>Bb 6 g0 I F0 I I H0)<|Rv 10 b0 I c0 (fun _=>Bi 0 I)<|Rx 11 1073737728 b0 I c0 (AP I (M0 0 _ I))<|Rv 12 b0 I c0 (fun _=>FV.eqlS I I)<|Rv 13 b0 I c0 (fun _=>Ai I)<|RD.ifd (s:=83) I h (fun W0 h=>?_) (fun W0 h=>?_)
 refine Br 536870911 1 [(14,84),(15,85),(16,86),(17,87),(18,88),(19,89),(20,90),(21,91),(22,92),(23,93),(24,94),(25,95),(26,96),(27,97),(28,98)] (F:=[(83,true)]) (U:=[]) b0 c0 (.cons I .nil) .nil ?_
 dsimp only [aF,List.map]
 refine Rv 29 b0 I c0 (fun _=>BN I I)<|AN (dk b0)<|Bq I<|Af<|Ag I<|Aa ?_
 have h:=au h C0
 have h:=au h z0
 refine Am I<|AW hb0 func163 I I ?_
 cases h
 exact q0.gv
 refine BJ 14 32767 b0 I c0 (.yes I I) (fun _=>Bi 3 I) I<|RD.val (i:=15) (m' :=65535) (W:=1073610752) (tk b0) I c0 (.yes I I) (AP I ((q0.memA .hd) 3 _ I)) I<|BJ 16 131071 b0 I c0 (.yes I I) (fun _=>Ai I) I<|BJ 17 262143 b0 I c0 (.yes I I) (fun _=>Bb 6 p0 I E0 I I G0) I<|BJ 18 524287 b0 I c0 (.yes I I) (fun _=>Bi 5 I) I<|RD.val (i:=19) (m' :=1048575) (W:=1072693248) (tk b0) I c0 (.yes I I) (AP I (J0 5 _ I)) I<|BJ 20 2097151 b0 I c0 (.yes I I) (fun _=>Ai I) I<|RD.ifb (s:=90) I h (fun X0 h=>?_) (fun X0 h=>?_)
 refine BJ 21 4194303 b0 I c0 (.yes I I) (fun _=>Bi 3 I) I<|RD.val (i:=22) (m' :=8388607) (W:=1056964608) (tk b0) I c0 (.yes I I) (AP I ((q0.memA .hd) 3 _ I)) I<|BJ 23 16777215 b0 I c0 (.yes I I) (fun _=>Ai I) I<|BJ 24 33554431 b0 I c0 (.yes I I) (fun _=>Bb 6 g0 I F0 I I H0) I<|BJ 25 67108863 b0 I c0 (.yes I I) (fun _=>Bi 5 I) I<|RD.val (i:=26) (m' :=134217727) (W:=939524096) (tk b0) I c0 (.yes I I) (AP I (M0 5 _ I)) I<|BJ 27 268435455 b0 I c0 (.yes I I) (fun _=>Bu I) I<|BJ 28 536870911 b0 I c0 (.yes I I) (fun _=>BN I I) I<|Rv 29 b0 I c0 (fun _=>AZ I I)<|AN (dk b0)<|MX.ifnb I h (fun Y0 h=>?_) (fun Y0 h=>?_)
 refine Ar<|AC<|Ap<|Ae I<|Ac (Bl (i:=p0) (j:=1) I I (by omega))<|Ag I<|Aa<|D0 (p0 + 1) q0 B0 h
 refine Af<|Ag I<|Aa ?_
 have h:=au h C0
 have h:=au h z0
 refine Am I<|AW hb0 func163 I I ?_
 cases h
 exact q0.gv
 refine Br 268435455 2 [(21,91),(22,92),(23,93),(24,94),(25,95),(26,96),(27,97)] (F:=[(90,false)]) (U:=[]) b0 c0 (.cons I .nil) .nil ?_
 dsimp only [aF,List.map]
 refine BJ 28 536870911 b0 I c0 (.yes I I) (fun _=>AZ I I) I<|Rv 29 b0 I c0 (fun _=>AZ I I)<|AN (dk b0)<|BF I<|Ar<|AC<|Ap<|Ae I<|Ac (Bl (i:=p0) (j:=1) I I (by omega))<|Ag I<|Aa<|D0 (p0 + 1) q0 B0 h
 refine AX I ?_
 have h:=aC h C0
 try dsimp only at h
 refine AC<|Ap<|Ae I<|Ac (Bl (i:=g0) (j:=1) I I (by omega))<|Ag I<|Aa<|q1 (g0 + 1) q0 (Tt s1 B0) h
 refine Af<|Ag I<|Aa ?_
 have h:=au h z0
 refine Am I<|AW hb0 func163 I I ?_
 cases h
 exact j0.gv
 refine AX I ?_
 have h:=aC h z0
 try dsimp only at h
 refine Af<|Ag I<|Aa<|Am I<|AW hb0 func163 I I ?_
 cases h
 exact j0.gv
 intro b2 x0 h
 try dsimp only at h
 refine Ap<|Bd 0 I<|AR I ((d0.memA .hd) 0 _ I)<|Ac (BO (i:=a0.fh) (j:=0) I I)<|Ae I<|BD (s:=8) I h (fun Z0 h=>?_) (fun Z0 h=>?_)
 refine Aq<|Aq<|Aq<|Bn I I<|Ae I<|Aq<|Aq<|Aq<|Bn I I<|Ae I<|Aq<|Aq<|Aq<|Bn I I<|Ae I<|Aq<|Aq<|Aq<|Bn I I<|Ae I<|Aq<|Aq<|Aq<|Bn I I<|Aa<|x0 true d0 (Bx _ _) h
 refine RG.fg 0 I<|AG (AP I ((d0.memA .hd) 0 _ I))<|AG (FV.gtr (i:=a0.fh) (j:=6) I I)<|Bv I I<|Ae I<|BD (s:=13) I h (fun b1 h=>?_) (fun b1 h=>?_)
 refine Aq<|Aq<|Aq<|Bn I I<|Ae I<|Aq<|Aq<|Aq<|Bn I I<|Ae I<|Aq<|Aq<|Aq<|Bn I I<|Ae I<|Aq<|Aq<|Aq<|Bn I I<|Aa<|x0 true d0 (Bx _ _) h
 refine RG.fg 1 I<|AG (AP I ((d0.memA .hd) 1 _ I))<|AG (BO (i:=a0.fc) (j:=0) I I)<|Bv I I<|Ae I<|BD (s:=18) I h (fun c1 h=>?_) (fun c1 h=>?_)
 refine Aq<|Aq<|Aq<|Bn I I<|Ae I<|Aq<|Aq<|Aq<|Bn I I<|Ae I<|Aq<|Aq<|Aq<|Bn I I<|Aa<|x0 true d0 (Bx _ _) h
 refine RG.fg 1 I<|AG (AP I ((d0.memA .hd) 1 _ I))<|AG (FV.gtr (i:=a0.fc) (j:=12) I I)<|Bv I I<|Ae I<|BD (s:=23) I h (fun d1 h=>?_) (fun d1 h=>?_)
 refine Aq<|Aq<|Aq<|Bn I I<|Ae I<|Aq<|Aq<|Aq<|Bn I I<|Aa<|x0 true d0 (Bx _ _) h
 refine RG.fg 2 I<|AG (AP I ((d0.memA .hd) 2 _ I))<|AG (BO (i:=a0.fj) (j:=0) I I)<|Bv I I<|Ae I<|BD (s:=28) I h (fun g1 h=>?_) (fun g1 h=>?_)
 refine Aq<|Aq<|Aq<|Bn I I<|Aa<|x0 true d0 (Bx _ _) h
 refine RG.fg 2 I<|AG (AP I ((d0.memA .hd) 2 _ I))<|AG (FV.gtr (i:=a0.fj) (j:=3) I I)<|Bv I I<|Aa<|x0 (decide (3 < a0.fj)) d0 (Bx _ _) h
def cA_p (n:Nat) (a0:Te) (a1:Int):Oa Int:=
  (am_p n a0).bind fun b0=>(if b0 = 0 then (if a1 < 1 then some (2:Int) else (if 8 < a1 then some (2:Int) else some (0:Int))) else some b0)
theorem cA_c (n:Nat) {L w} (hL:hl L w) (a0:Te) {v0_3:Vc} (h0_3:Rep.R w L [v0_3] a0.ft) {a1:Int}  {r:Int} (h:cA_p n a0 a1 = some r) :
 Cl 121 #[.agg #[vI a0.fh,vI a0.fc,vI a0.fj,v0_3],vI a1] w (ae w fun _ u=>u = vI r):=by
 unfold cA_p at h
 refine AF func121 I I I fun _ cs0 hb0=>Af<|RG.bx (AA w) I I fun t0 q0 b0 s0=>Ag I<|Aa<|Aj<|Af<|Ac (AH I (b0.memA .hd))<|bk h fun c0 p0 h=>Bj (vI c0) (bd 163) I (e1 I) (fun p q=>am_c n (b0.hL0 hL q) a0 (b0.k0 h0_3 q) p0) I<|Ag I<|Aa<|Af<|Ae I<|Ac (FV.neq (i:=c0) (j:=0) I I)<|Aa<|MX.ifn I h (fun d0 h=>?_) (fun d0 h=>?_)
 refine Ar<|Aj<|Af<|Ae I<|Ac (BO (i:=a1) (j:=1) I I)<|Ae I<|BD (s:=13) I h (fun g0 h=>?_) (fun g0 h=>?_)
 refine Aq<|Aq<|Bn I I<|Aa<|Bq I<|Af<|Ag I<|Aa<|Am I<|AW hb0 func121 I I ?_
 cases h
 exact b0.gv
 refine AG (Ai I)<|AG (FV.gtr (i:=a1) (j:=8) I I)<|Bv I I<|Aa<|AQ I h (fun j0 h=>?_) (fun j0 h=>?_)
 refine Af<|Ag I<|Aa<|Am I<|AW hb0 func121 I I ?_
 cases h
 exact b0.gv
 refine Ar<|Af<|Ag I<|Aa<|Am I<|AW hb0 func121 I I ?_
 cases h
 exact b0.gv
 refine Af<|Ae I<|Ag I<|Aa<|Am I<|AW hb0 func121 I I ?_
 cases h
 exact b0.gv
def aK_l1 (_n:Nat) (a2:Int) (j0:List Bool) (c0:Int -> Oa (Bool ⊕ Unit)):Int -> Oa (Bool ⊕ Unit)
  | b0=>(if b0 < a2 then (idx j0 b0).bind fun g0=>(if g0 = true then (chk (b0 + 1)).bind fun d0=>c0 d0 else some (.inl false)) else some (.inr ()))
def aK_l2 (_n:Nat) (a1:Int) (a0:List Int) (a2:Int) (g0:Int × (List Bool) -> Oa (Bool ⊕ (List Bool))):Int × (List Bool) -> Oa (Bool ⊕ (List Bool))
  | (d0,c0)=>(if d0 < a1 then (idx a0 d0).bind fun b0=>(if b0 < 0 then some (.inl false) else (if a2 <= b0 then some (.inl false) else (idx c0 b0).bind fun _x127=>(put c0 ((b0.toNat:Nat):Int) true).bind fun k0=>(chk (d0 + 1)).bind fun j0=>g0 (j0,k0))) else some (.inr c0))
def aK_p (n:Nat) (a0:List Int) (a1:Int) (a2:Int):Oa Bool:=
  (if ((a0.length:Nat):Int) = a1 then (mk a2 false).bind fun c0=>thn (aj (aK_l2 n a1 a0 a2) n (0,c0)) (fun b0=>thn (aj (aK_l1 n a2 b0) n 0) (fun _=>some true)) else some false)
theorem aK_c (n:Nat) {L w} (_hL:hl L w) {a0:List Int} {v0_0:Vc} (h0_0:Rep.R w L [v0_0] a0) {a1:Int} {a2:Int}  {r:Bool} (h:aK_p n a0 a1 a2 = some r) :
 Cl 122 #[v0_0,vI a1,vI a2] w (ae w fun _ u=>u = .bool r):=by
 unfold aK_p at h
 have hS0:=AA w
 refine AF func122 I I I fun _ cs0 hb0=>Af<|Ag I<|Aa<|Aj<|Af<|Ae I ?_
 have hl1:=AU h0_0
 refine Ac (Ba (xs:=a0) underlying39 I h0_0)<|Ae I<|Ac (FV.neq (i:=((a0.length:Nat):Int)) (j:=a1) I I)<|Aa<|MX.ifn I h (fun c2 h=>?_) (fun c2 h=>?_)
 refine Ar<|Af<|Ae I<|bk h fun J0 H0 h=>Al .plain I (Does.mk (α:=Bool) H0 hS0 gz I) fun x2 k0 B0 s2=>Ag I<|Aa<|Aj<|Af<|Ag I<|Aa<|Ax<|tn h fun u2 B1 x0=>MX.lf (α:=Int × (List Bool) × (List Vc)) (fun ⟨b0,c0,d0⟩=>[(0,v0_0),(1,vI a1),(2,vI a2),(7,(.slice (some ⟨k0,0,none⟩) a2.toNat a2.toNat)),(8,vI b0)]) (fun ⟨b0,c0,d0⟩=>[rr w 4 Bool (.slice (some ⟨k0,0,none⟩) a2.toNat a2.toNat) c0.length d0]) (fun ⟨b0,c0,d0⟩ I0=>Cells I0 (bl [rr w 4 Bool (.slice (some ⟨k0,0,none⟩) a2.toNat a2.toNat) c0.length d0] ++ L) d0 c0) (fun ⟨b0,c0,d0⟩=>(b0,c0)) (0,J0,(List.replicate a2.toNat [.bool false]).flatten) B1 B0 (AD (cs:=(List.replicate a2.toNat [.bool false]).flatten) (xs:=J0) B0 L (BY H0 I)) ?_
 rintro b2 ⟨b0,c0,d0⟩ I0 d1 j0 k1 s0 h
 unfold aK_l2 at h
 try dsimp only at h
 refine Aj<|Af<|Ae I<|Ae I<|Ac (BO (i:=b0) (j:=a1) I I)<|Aa<|AQ I h (fun R0 h=>?_) (fun R0 h=>?_)
 refine Ar<|Aj<|Ax<|Aj<|Af<|Ae I<|Ae I<|bk h fun q0 I1 h=>?_
 obtain ⟨y0,J1⟩:=aA I1
 obtain ⟨Z1,g2,t0,z0,Y0,D1,A0⟩:=Bh (AT h0_0 j0) J1
 have s1:Y0 = [vI q0]:=D1; subst s1
 refine Ac (Bb 1 (b0.toNat) I t0 I y0 z0)<|AR I (A0 0 _ I)<|Ac (BO (i:=q0) (j:=0) I I)<|Ae I<|BD (s:=26) I h (fun U0 h=>?_) (fun U0 h=>?_)
 refine Aq<|Aq<|Aq<|Aq<|Aq<|Aq<|Bn I I<|Aa<|Bq I<|Af<|Ag I<|Aa ?_
 have h:=au h x0
 refine Am I<|AW hb0 func122 I I ?_
 cases h
 exact j0.gv
 refine AG (Ai I)<|AG (Ai I)<|AG (Bb 1 (b0.toNat) I t0 I y0 z0)<|AG (AP I (A0 0 _ I))<|AG (Ai I)<|AG (FV.geq (i:=q0) (j:=a2) I I)<|Bv I I<|Aa<|AQ I h (fun V0 h=>?_) (fun V0 h=>?_)
 refine Af<|Ag I<|Aa ?_
 have h:=au h x0
 refine Am I<|AW hb0 func122 I I ?_
 cases h
 exact j0.gv
 refine Ar<|Ap<|Ae I<|Ae I<|Ae I<|Ac (Bb 1 (b0.toNat) I t0 I y0 z0)<|AR I (A0 0 _ I)<|bk h fun W1 K1 h=>?_
 obtain ⟨y1,M1⟩:=aA K1
 obtain ⟨K0,j2,u0,F0,Z0,E1,t2⟩:=BU (α:=Bool) j0 .hd s0 M1
 obtain ⟨P0,k2,D0⟩:=By (α:=Bool) j0 .hd F0
 obtain rfl:K0 = ⟨P0,0,none⟩:=by rw [D0] at u0; cases u0; rfl
 have u1:Z0 = [.bool W1]:=E1; subst u1
 refine Ac (Bb 1 (q0.toNat) I u0 I y1 F0)<|bk h fun Y1 R1 h=>RG.acts' .plain (Cb (α:=Bool) (i:=q0.toNat) R1 j0 D0 (fun _=>.hd) s0 I I I I I I) fun y2 ⟨b1,j1,p1,q1⟩=>Aa<|AC<|Ap<|Ae I<|bk h fun U1 G1 h=>Ac (Bw (i:=b0) (j:=1) I I G1)<|Ag I<|Aa<|d1 (U1,Y1,b1) j1 (Tt k1 p1) q1 h
 refine AX I ?_
 have h:=aC h x0
 try dsimp only at h
 refine Aj<|Af<|Ag I<|Aa<|Ax<|tn h fun v2 C1 E0=>MX.lo (α:=Int) (fun g0=>[(2,vI a2),(7,(.slice (some ⟨k0,0,none⟩) a2.toNat a2.toNat)),(9,vI g0)]) (fun g0=>[rr w 4 Bool (.slice (some ⟨k0,0,none⟩) a2.toNat a2.toNat) c0.length d0]) (fun g0=>g0) 0 C1 j0 ?_
 rintro d2 g0 z2 g1 p0 C0 h
 unfold aK_l1 at h
 try dsimp only at h
 refine Aj<|Af<|Ae I<|Ae I<|Ac (BO (i:=g0) (j:=a2) I I)<|Aa<|AQ I h (fun W0 h=>?_) (fun W0 h=>?_)
 refine Ar<|Aj<|Ax<|Af<|Ae I<|Ae I<|bk h fun X1 P1 h=>?_
 obtain ⟨z1,Q1⟩:=aA P1
 obtain ⟨M0,p2,v0,G0,c1,F1,A1⟩:=BU (α:=Bool) p0 .hd (AB s0 C0) Q1
 obtain ⟨Q0,q2,v1⟩:=By (α:=Bool) p0 .hd G0
 obtain rfl:M0 = ⟨Q0,0,none⟩:=by rw [v1] at v0; cases v0; rfl
 have x1:c1 = [.bool X1]:=F1; subst x1
 refine Ac (Bb 1 (g0.toNat) I v0 I z1 G0)<|AR I (A1 0 _ I)<|Ac (Bu I)<|Aa<|MX.ifnb I h (fun X0 h=>?_) (fun X0 h=>?_)
 refine Ar<|AC<|Ap<|Ae I<|bk h fun V1 H1 h=>Ac (Bw (i:=g0) (j:=1) I I H1)<|Ag I<|Aa<|g1 V1 p0 C0 h
 refine Af<|Ag I<|Aa ?_
 have h:=au h E0
 refine Am I<|AW hb0 func122 I I ?_
 cases h
 exact p0.gv
 refine AX I ?_
 have h:=aC h E0
 try dsimp only at h
 refine Af<|Ag I<|Aa<|Am I<|AW hb0 func122 I I ?_
 cases h
 exact p0.gv
 refine Af<|Ag I<|Aa<|Am I<|AW hb0 func122 I I ?_
 cases h
 exact hS0.gv
def bh_l1 (_n:Nat) (a0:Te) (c0:Nat -> Oa Nat):Nat -> Oa Nat
  | b0=>(if b0 < a0.ft.length then (a0.ft[b0]?).bind fun d0=>(if d0.fu = true then some b0 else c0 (b0 + 1)) else some b0)
def bh_p (n:Nat) (a0:Te):Oa Int:=
  jn (fun c0=>some ((c0:Nat):Int)) (fun b0=>Option.bind (aj (bh_l1 n a0) n 0) (b0))
theorem bh_c (n:Nat) {L w} (_hL:hl L w) (a0:Te) {v0_3:Vc} (h0_3:Rep.R w L [v0_3] a0.ft)  {r:Int} (h:bh_p n a0 = some r) :
 Cl 192 #[.agg #[vI a0.fh,vI a0.fc,vI a0.fj,v0_3]] w (ae w fun _ u=>u = vI r):=by
 unfold bh_p at h
 refine AF func192 I I I fun _ cs0 hb0=>Af<|RG.bx (AA w) I I fun d1 k0 q0 Q0=>Ag I<|Aa<|Af<|Ag I<|Aa<|Aj<|Ax<|MX.xo (α:=Nat) 0 (fun d0=>[(3,vn d0)]) (fun d0=>[]) (fun d0=>d0) q0 I h ?_ ?_
 rintro d0 j1 z0 R0 h
 try dsimp only at h
 refine Af<|Ae I<|Ag I<|Aa<|Am I<|AW hb0 func192 I I ?_
 cases h
 exact z0.gv
 intro K0 p0 h
 try dsimp only at h
 obtain ⟨Y0,F0,s0⟩:=aq h
 refine MX.lo (α:=Nat) (fun b0=>[(1,vP k0),(3,vn b0)]) (fun b0=>[.cells k0 [vI a0.fh,vI a0.fc,vI a0.fj,v0_3] 37]) (fun b0=>b0) 0 F0 q0 ?_
 rintro J0 b0 g1 v0 c0 g0 h
 unfold bh_l1 at h
 try dsimp only at h
 refine Aj<|Af<|Ae I<|Bd 3 I<|AR I ((c0.memA .hd) 3 _ I) ?_
 have j0:=AT h0_3 c0
 have U0:=AU j0
 refine Ac (Ba (xs:=a0.ft) underlying35 I j0)<|Ac (Bp (i:=b0) (j:=a0.ft.length) I I)<|Ae I<|BD (s:=9) I h (fun t0 h=>?_) (fun t0 h=>?_)
 refine RG.fg 3 I<|AG (AP I ((c0.memA .hd) 3 _ I))<|AG (Ai I)<|bk h fun k1 H0 h=>?_
 obtain ⟨I0,M0,C0,D0,P0,G0,E0⟩:=Bh j0 H0
 obtain ⟨Z0,b1,c1,rfl,V0,W0,X0⟩:=bm G0
 refine AG (Bb 6 b0 I C0 I I D0)<|RG.fg 5 I<|AG (AP I (E0 5 _ I))<|AG (Bu I)<|Bn I I<|Aa<|MX.ifnb I h (fun u0 h=>?_) (fun u0 h=>?_)
 refine AX I ?_
 have h:=s0 _ h
 try dsimp only at h
 obtain ⟨x0,A0⟩:=AK c0 .done
 exact p0 b0 x0 (Tt g0 A0) h
 refine Ar<|Ax<|Ap<|Ae I<|Ac (Bl (i:=b0) (j:=1) I I (by omega))<|Ag I<|Aa<|AC<|v0 (b0 + 1) c0 g0 h
 refine Aq<|Aq<|Aq<|Aq<|Aq<|Aq<|Aq<|Bv I I<|Aa<|BF I<|AX I ?_
 have h:=s0 _ h
 try dsimp only at h
 obtain ⟨y0,B0⟩:=AK c0 .done
 exact p0 b0 y0 (Tt g0 B0) h
def cX_p (n:Nat) (a0:Te):Oa (Int × Int):=
  (am_p n a0).bind fun b0=>(if b0 = 0 then (bh_p n a0).bind fun c0=>some (c0,(0:Int)) else some ((0:Int),b0))
theorem cX_c (n:Nat) {L w} (hL:hl L w) (a0:Te) {v0_3:Vc} (h0_3:Rep.R w L [v0_3] a0.ft)  {r:Int × Int} (h:cX_p n a0 = some r) :
 Cl 164 #[.agg #[vI a0.fh,vI a0.fc,vI a0.fj,v0_3]] w (ae w fun _ u=>u = .tuple #[vI r.1,vI r.2]):=by
 unfold cX_p at h
 refine AF func164 I I I fun _ cs0 hb0=>Af<|RG.bx (AA w) I I fun t0 q0 b0 s0=>Ag I<|Ag I<|Aa<|Aj<|Af<|Ac (AH I (b0.memA .hd))<|bk h fun c0 g0 h=>Bj (vI c0) (bd 163) I (e1 I) (fun p q=>am_c n (b0.hL0 hL q) a0 (b0.k0 h0_3 q) g0) I<|Ag I<|Aa<|Af<|Ae I<|Ac (FV.neq (i:=c0) (j:=0) I I)<|Aa<|MX.ifn I h (fun d0 h=>?_) (fun d0 h=>?_)
 refine Ar<|Af<|Ac (AH I (b0.memA .hd))<|bk h fun p0 j0 h=>Bj (vI p0) (bd 192) I (e1 I) (fun p q=>bh_c n (b0.hL0 hL q) a0 (b0.k0 h0_3 q) j0) I<|Ag I<|Ag I<|Aa<|Am I<|Au hb0 func164 I (.cons (.tmp I) (.cons (.tmp I) .nil)) I ?_
 cases h
 exact b0.gv
 refine Af<|Ae I<|Ag I<|Ag I<|Aa<|Am I<|Au hb0 func164 I (.cons (.tmp I) (.cons (.tmp I) .nil)) I ?_
 cases h
 exact b0.gv
def cY_p (n:Nat) (a0:Te):Oa Int:=
  (cX_p n a0).bind fun b0=>some b0.1
theorem cY_c (n:Nat) {L w} (hL:hl L w) (a0:Te) {v0_3:Vc} (h0_3:Rep.R w L [v0_3] a0.ft)  {r:Int} (h:cY_p n a0 = some r) :
 Cl 123 #[.agg #[vI a0.fh,vI a0.fc,vI a0.fj,v0_3]] w (ae w fun _ u=>u = vI r):=by
 unfold cY_p at h
 refine AF func123 I I I fun _ cs0 hb0=>Af<|RG.bx (AA w) I I fun p0 g0 b0 j0=>Ag I<|Aa<|Af<|Ac (AH I (b0.memA .hd))<|bk h fun c0 d0 h=>Bj (.tuple #[vI c0.1,vI c0.2]) (bd 164) I (e1 I) (fun p q=>cX_c n (b0.hL0 hL q) a0 (b0.k0 h0_3 q) d0) I<|Ae I<|Ac (Ak I I)<|Ac (Ak I I)<|Ag I<|Ag I<|Aa<|Af<|Ae I<|Ag I<|Aa<|Am I<|AW hb0 func123 I I ?_
 cases h
 exact b0.gv
def ce_p (n:Nat) (a0:Te) (a1:List Int) (a2:Int):Oa Int:=
  (cA_p n a0 a2).bind fun b0=>(if b0 = 0 then (cY_p n a0).bind fun c0=>(aK_p n a1 c0 a2).bind fun d0=>(if d0 = true then some (0:Int) else some (220:Int)) else some b0)
theorem ce_c (n:Nat) {L w} (hL:hl L w) (a0:Te) {v0_3:Vc} (h0_3:Rep.R w L [v0_3] a0.ft) {a1:List Int} {v1_0:Vc} (h1_0:Rep.R w L [v1_0] a1) {a2:Int}  {r:Int} (h:ce_p n a0 a1 a2 = some r) :
 Cl 92 #[.agg #[vI a0.fh,vI a0.fc,vI a0.fj,v0_3],v1_0,vI a2] w (ae w fun _ u=>u = vI r):=by
 unfold ce_p at h
 refine AF func92 I I I fun _ cs0 hb0=>Af<|RG.bx (AA w) I I fun x0 u0 b0 v0=>Ag I<|Aa<|Aj<|Af<|Ac (AH I (b0.memA .hd))<|Ae I<|bk h fun c0 j0 h=>Bj (vI c0) (bd 121) I (e2 I I) (fun p q=>cA_c n (b0.hL0 hL q) a0 (b0.k0 h0_3 q) j0) I<|Ag I<|Aa<|Af<|Ae I<|Ac (FV.neq (i:=c0) (j:=0) I I)<|Aa<|MX.ifn I h (fun d0 h=>?_) (fun d0 h=>?_)
 refine Ar<|Aj<|Af<|Ae I<|Ac (AH I (b0.memA .hd))<|bk h fun s0 p0 h=>Bj (vI s0) (bd 123) I (e1 I) (fun p q=>cY_c n (b0.hL0 hL q) a0 (b0.k0 h0_3 q) p0) I<|Ae I<|bk h fun t0 q0 h=>Bj (.bool t0) (bd 122) I (e3 I I I) (fun p q=>aK_c n (b0.hL0 hL q) (b0.k0 h1_0 q) q0) I<|Ac (Bu I)<|Aa<|MX.ifnb I h (fun g0 h=>?_) (fun g0 h=>?_)
 refine Ar<|Af<|Ag I<|Aa<|Am I<|AW hb0 func92 I I ?_
 cases h
 exact b0.gv
 refine Af<|Ag I<|Aa<|Am I<|AW hb0 func92 I I ?_
 cases h
 exact b0.gv
 refine Af<|Ae I<|Ag I<|Aa<|Am I<|AW hb0 func92 I I ?_
 cases h
 exact b0.gv

def ac_l1 (_n:Nat) (a0:Te) (a1:List Int) (d0:Nat) (v0:Int) (g0:Int × (List Int) -> Oa (List Int)):Int × (List Int) -> Oa (List Int)
  | (b0,c0)=>(if b0 < a0.fc then (a1[d0]?).bind fun p0=>(if p0 = v0 then (idx c0 b0).bind fun q0=>(a0.ft[d0]?).bind fun s0=>(idx s0.fE b0).bind fun t0=>(chk (q0 + t0)).bind fun j0=>(put c0 ((b0.toNat:Nat):Int) j0).bind fun u0=>(chk (b0 + 1)).bind fun k0=>g0 (k0,u0) else some c0) else some c0)
def ac_l2 (n:Nat) (a1:List Int) (a0:Te) (k0:Int) (d0:Nat × (List Int) -> Oa (List Int)):Nat × (List Int) -> Oa (List Int)
  | (b0,c0)=>(if b0 < a1.length then jn (fun j0=>d0 (b0 + 1,j0)) (fun g0=>Option.bind (aj (ac_l1 n a0 a1 b0 k0) n (0,c0)) (g0)) else some c0)
def ac_l3 (n:Nat) (a2:Int) (a0:Te) (a1:List Int) (d0:Int × (List (List Int)) -> Oa (List (List Int))):Int × (List (List Int)) -> Oa (List (List Int))
  | (b0,c0)=>(if b0 < a2 then (mk a0.fc (0:Int)).bind fun j0=>Option.bind (aj (ac_l2 n a1 a0 b0) n (0,j0)) (fun k0=>(app c0 ([k0]:List (List Int))).bind fun p0=>(chk (b0 + 1)).bind fun g0=>d0 (g0,p0)) else some c0)
def ac_p (n:Nat) (a0:Te) (a1:List Int) (a2:Int):Oa ((List (List Int)) × Int):=
  (ce_p n a0 a1 a2).bind fun b0=>(if b0 = 0 then Option.bind (aj (ac_l3 n a2 a0 a1) n (0,([]:List (List Int)))) (fun c0=>some (c0,(0:Int))) else some (([]:List (List Int)),b0))
theorem ac_c (n:Nat) {L w} (hL:hl L w) (a0:Te) {v0_3:Vc} (h0_3:Rep.R w L [v0_3] a0.ft) {a1:List Int} {v1_0:Vc} (h1_0:Rep.R w L [v1_0] a1) {a2:Int}  {r:(List (List Int)) × Int} (h:ac_p n a0 a1 a2 = some r) :
 Cl 67 #[.agg #[vI a0.fh,vI a0.fc,vI a0.fj,v0_3],v1_0,vI a2] w (ae w fun w' u=>∃ v0_0:Vc,u = .tuple #[v0_0,vI r.2]/\Rep.R w' L [v0_0] r.1):=by
 unfold ac_p at h
 refine AF func67 I I I fun _ cs0 hb0=>Af<|RG.bx (AA w) I I fun q4 t0 z0 U3=>Ag I<|Ag I<|Aa<|Aj<|Af<|Ac (AH I (z0.memA .hd))<|Ae I<|Ae I<|bk h fun B1 u3 h=>Bj (vI B1) (bd 92) I (e3 I I I) (fun w9 hw9=>ce_c n (z0.hL0 hL hw9) a0 (z0.k0 h0_3 hw9) (z0.k0 h1_0 hw9) u3) I<|Ag I<|Aa<|Af<|Ae I<|Ac (FV.neq (i:=B1) (j:=0) I I)<|Aa<|MX.ifn I h (fun F1 h=>?_) (fun F1 h=>?_)
 refine Ar<|Af<|Ag I<|Aa<|Aj<|Af<|Ag I<|Aa<|Ax ?_
 have R0:=z0.nilRow 38 (Rep.size (List Int))
 have V3:=BW z0 38 (Rep.size (List Int))
 obtain ⟨b4,K2,A2⟩:=aq h
 refine MX.lf (α:=Int × (List (List Int)) × Vc × (List Vc)) (fun ⟨u0,g0,c0,p0⟩=>[(1,v1_0),(2,vI a2),(3,vP t0),(9,c0),(10,vI u0)]) (fun ⟨u0,g0,c0,p0⟩=>[rr w 38 (List Int) c0 g0.length p0,.cells t0 [vI a0.fh,vI a0.fc,vI a0.fj,v0_3] 37]) (fun ⟨u0,g0,c0,p0⟩ q1=>Cells q1 (bl [rr w 38 (List Int) c0 g0.length p0,.cells t0 [vI a0.fh,vI a0.fc,vI a0.fj,v0_3] 37] ++ L) p0 g0) (fun ⟨u0,g0,c0,p0⟩=>(u0,g0)) (0,([]:List (List Int)),vN,[]) K2 R0 (AD (cs:=[]) (xs:=([]:List (List Int))) R0 L (AJ _ _)) ?_
 rintro E3 ⟨u0,g0,c0,p0⟩ q1 R1 F0 b2 Y0 h
 unfold ac_l3 at h
 try dsimp only at h
 refine Aj<|Af<|Ae I<|Ae I<|Ac (BO (i:=u0) (j:=a2) I I)<|Aa<|AQ I h (fun E1 h=>?_) (fun E1 h=>?_)
 refine Ar<|Aj<|Ax<|Af<|Bd 1 I<|AR I ((F0.memA .t1) 1 _ I)<|bk h fun A1 p1 h=>Al .plain I (Does.mk (α:=Int) p1 F0 ay I) fun s4 j0 Q0 c2=>Ag I<|Aa<|Aj<|Af<|Ag I<|Aa<|Ax ?_
 obtain ⟨c4,M2,B2⟩:=aq h
 refine MX.lf (α:=Nat × (List Int) × (List Vc)) (fun ⟨q0,s0,C0⟩=>[(1,v1_0),(2,vI a2),(3,vP t0),(9,c0),(10,vI u0),(11,(.slice (some ⟨j0,0,none⟩) a0.fc.toNat a0.fc.toNat)),(12,vn q0)]) (fun ⟨q0,s0,C0⟩=>[rr w 3 Int (.slice (some ⟨j0,0,none⟩) a0.fc.toNat a0.fc.toNat) s0.length C0,rr w 38 (List Int) c0 g0.length p0,.cells t0 [vI a0.fh,vI a0.fc,vI a0.fj,v0_3] 37]) (fun ⟨q0,s0,C0⟩ s1=>Cells s1 (bl [rr w 3 Int (.slice (some ⟨j0,0,none⟩) a0.fc.toNat a0.fc.toNat) s0.length C0,rr w 38 (List Int) c0 g0.length p0,.cells t0 [vI a0.fh,vI a0.fc,vI a0.fj,v0_3] 37] ++ L) C0 s0) (fun ⟨q0,s0,C0⟩=>(q0,s0)) (0,A1,(List.replicate a0.fc.toNat [vI 0]).flatten) M2 Q0 (AD (cs:=(List.replicate a0.fc.toNat [vI 0]).flatten) (xs:=A1) Q0 L (BY p1 I)) ?_
 rintro F3 ⟨q0,s0,C0⟩ s1 U1 E0 V0 Z0 h
 unfold ac_l2 at h
 try dsimp only at h
 refine Aj<|Af<|Ae I<|Ae I ?_
 have j1:=AT h1_0 E0
 have X3:=AU j1
 refine Ac (Ba (xs:=a1) underlying39 I j1)<|Ac (Bp (i:=q0) (j:=a1.length) I I)<|Aa<|AQ I h (fun G1 h=>?_) (fun G1 h=>?_)
 refine Ar<|Aj<|Ax<|Af<|Ag I<|Aa<|Ax<|MX.xf (α:=(List Int) × (List Vc)) 4 (fun ⟨B0,D0⟩=>[(1,v1_0),(2,vI a2),(3,vP t0),(9,c0),(10,vI u0),(11,(.slice (some ⟨j0,0,none⟩) a0.fc.toNat a0.fc.toNat)),(12,vn q0)]) (fun ⟨B0,D0⟩=>[rr w 3 Int (.slice (some ⟨j0,0,none⟩) a0.fc.toNat a0.fc.toNat) B0.length D0,rr w 38 (List Int) c0 g0.length p0,.cells t0 [vI a0.fh,vI a0.fc,vI a0.fj,v0_3] 37]) (fun ⟨B0,D0⟩ u1=>Cells u1 (bl [rr w 3 Int (.slice (some ⟨j0,0,none⟩) a0.fc.toNat a0.fc.toNat) B0.length D0,rr w 38 (List Int) c0 g0.length p0,.cells t0 [vI a0.fh,vI a0.fc,vI a0.fj,v0_3] 37] ++ L) D0 B0) (fun ⟨B0,D0⟩=>B0) E0 I h ?_ ?_
 rintro ⟨B0,D0⟩ u1 W1 d2 k2 h
 try dsimp only at h
 refine AC<|Ap<|Ae I<|Ac (Bl (i:=q0) (j:=1) I I (by omega))<|Ag I<|Aa<|U1 (q0 + 1,B0,D0) W1 (Tt V0 d2) k2 h
 intro G3 P0 h
 try dsimp only at h
 obtain ⟨d4,P2,c1⟩:=aq h
 refine MX.lf (α:=Int × (List Int) × (List Vc)) (fun ⟨v0,x0,y0⟩=>[(1,v1_0),(2,vI a2),(3,vP t0),(9,c0),(10,vI u0),(11,(.slice (some ⟨j0,0,none⟩) a0.fc.toNat a0.fc.toNat)),(12,vn q0),(13,vI v0)]) (fun ⟨v0,x0,y0⟩=>[rr w 3 Int (.slice (some ⟨j0,0,none⟩) a0.fc.toNat a0.fc.toNat) x0.length y0,rr w 38 (List Int) c0 g0.length p0,.cells t0 [vI a0.fh,vI a0.fc,vI a0.fj,v0_3] 37]) (fun ⟨v0,x0,y0⟩ v1=>Cells v1 (bl [rr w 3 Int (.slice (some ⟨j0,0,none⟩) a0.fc.toNat a0.fc.toNat) x0.length y0,rr w 38 (List Int) c0 g0.length p0,.cells t0 [vI a0.fh,vI a0.fc,vI a0.fj,v0_3] 37] ++ L) y0 x0) (fun ⟨v0,x0,y0⟩=>(v0,x0)) (0,s0,C0) P2 E0 Z0 ?_
 rintro H3 ⟨v0,x0,y0⟩ v1 V1 A0 K0 G0 h
 unfold ac_l1 at h
 try dsimp only at h
 refine Aj<|Af<|Ae I<|Bd 1 I<|AR I ((A0.memA .t2) 1 _ I)<|Ac (BO (i:=v0) (j:=a0.fc) I I)<|Ae I<|BD (s:=39) I h (fun H1 h=>?_) (fun H1 h=>?_)
 refine AG (Ai I)<|AG (Ai I)<|bk h fun x1 d3 h=>?_
 obtain ⟨B3,J3,s2,D2,J1,Q2,G2⟩:=Bh (AT h1_0 A0) d3
 have u2:J1 = [vI x1]:=Q2; subst u2
 refine AG (Bb 1 q0 I s2 I I D2)<|AG (AP I (G2 0 _ I))<|AG (Ai I)<|AG (FV.eql (i:=x1) (j:=u0) I I)<|Bn I I<|Aa<|AQ I h (fun I1 h=>?_) (fun I1 h=>?_)
 refine Ar<|Aj<|Ax<|du 17 fun b0 d0=>Rv 0 b0 I d0 (fun _=>Ai I)<|Rv 1 b0 I d0 (fun _=>Ai I)<|Rv 2 b0 I d0 (fun _=>Ai I)<|Rv 3 b0 I d0 (fun _=>Ai I)<|bk h fun y1 g3 h=>?_
 obtain ⟨g1,j3⟩:=aA g3
 obtain ⟨C1,K3,H0,M0,K1,R2,H2⟩:=BU (α:=Int) A0 .hd G0 j3
 obtain ⟨D1,M3,b1⟩:=By (α:=Int) A0 .hd M0
 obtain rfl:C1 = ⟨D1,0,none⟩:=by rw [b1] at H0; cases H0; rfl
 have v2:K1 = [vI y1]:=R2; subst v2
 refine Rv 4 b0 I d0 (fun _=>Bb 1 (v0.toNat) I H0 I g1 M0)<|Rx 5 229376 b0 I d0 (AP I (H2 0 _ I))<|Rv 6 b0 I d0 (fun _=>Bi 3 I)<|Rx 7 257536 b0 I d0 (AP I ((A0.memA .t2) 3 _ I))<|Rv 8 b0 I d0 (fun _=>Ai I)<|bk h fun x4 k3 h=>?_
 obtain ⟨C3,P3,x2,E2,R3,U2,I2⟩:=Bh (AT h0_3 A0) k3
 obtain ⟨j4,k4,p4,rfl,Y3,V2,Z3⟩:=bm U2
 refine Rv 9 b0 I d0 (fun _=>Bb 6 q0 I x2 I I E2)<|Rv 10 b0 I d0 (fun _=>Bi 3 I)<|Rx 11 253952 b0 I d0 (AP I (I2 3 _ I))<|Rv 12 b0 I d0 (fun _=>Ai I)<|bk h fun z1 p3 h=>?_
 obtain ⟨C2,q3⟩:=aA p3
 obtain ⟨D3,Q3,y2,F2,M1,W2,J2⟩:=Bh V2 q3
 have z2:M1 = [vI z1]:=W2; subst z2
 refine Rv 13 b0 I d0 (fun _=>Bb 1 (v0.toNat) I y2 I C2 F2)<|Rx 14 229376 b0 I d0 (AP I (J2 0 _ I))<|bk h fun g4 Z2 h=>Rv 15 b0 I d0 (fun _=>Bw (i:=y1) (j:=z1) I I Z2)<|Rv 16 b0 I d0 (fun _=>Bb 1 (v0.toNat) I H0 I g1 M0)<|bk h fun z3 s3 h=>BM (i:=17) (rk b0) (RO.acts (m' :=262143) (sk b0) I I .plain (Cb (α:=Int) (i:=v0.toNat) s3 A0 b1 (fun _=>.hd) G0 I I I I I I) (fun t4 ⟨P1,X1,g2,p2⟩=>?_))
 refine AN (dk b0)<|AC<|Ap<|Ae I<|bk h fun v3 b3 h=>Ac (Bw (i:=v0) (j:=1) I I b3)<|Ag I<|Aa<|V1 (v3,z3,P1) X1 (Tt K0 g2) p2 h
 refine AX I ?_
 have h:=c1 _ h
 try dsimp only at h
 exact P0 (x0,y0) A0 K0 G0 h
 refine Aq<|Aq<|Aq<|Aq<|Aq<|Aq<|Bv I I<|Aa<|BF I<|AX I ?_
 have h:=c1 _ h
 try dsimp only at h
 exact P0 (x0,y0) A0 K0 G0 h
 refine AX I ?_
 have h:=B2 _ h
 try dsimp only at h
 refine Ap<|Ae I<|Ae I ?_
 have U0:=BA E0 .hd
 refine Al .plain I (AL (α:=List Int) (xs:=([s0]:List (List Int))) (vs:=[(.slice (some ⟨j0,0,none⟩) a0.fc.toNat a0.fc.toNat)]) (ds' :=[(.slice (some ⟨j0,0,none⟩) a0.fc.toNat a0.fc.toNat)]) I U0 oD I (e1 I) (by kernel_rfl) I) fun u4 I3 I0 W0=>bk h fun A3 t3 h=>?_
 have k1:=Tt c2 (Tt V0 (Tt (BB E0 .hd) W0))
 refine RG.doesL .plain I (Bf (α:=List Int) (ys:=([s0]:List (List Int))) t3 I0 (fun _ _=>.t1) oD I I (AB Y0 k1) (Src.row (α:=List Int) I0 .hd (AD (cs:=[(.slice (some ⟨j0,0,none⟩) a0.fc.toNat a0.fc.toNat)]) (xs:=(([s0]:List (List Int)):List (List Int))) I0 L (Av (cs:=[(.slice (some ⟨j0,0,none⟩) a0.fc.toNat a0.fc.toNat)]) (ds:=[]) (Ao (BC (α:=Int) (v:=(.slice (some ⟨j0,0,none⟩) a0.fc.toNat a0.fc.toNat)) (xs:=s0) U0 L (Bg (α:=Int) E0 .hd Z0 hL)) W0) (AJ _ _))))) fun y3 v4 ⟨Q1,Y1,j2,q2⟩=>Ag I<|Aa<|AC<|Ap<|Ae I<|bk h fun x3 c3 h=>Ac (Bw (i:=u0) (j:=1) I I c3)<|Ag I<|Aa ?_
 obtain ⟨Z1,X0⟩:=AK Y1 .d1
 exact R1 (x3,A3,y3,Q1) Z1 (Tt b2 (Tt k1 (Tt j2 X0))) (AB q2 X0) h
 refine AX I ?_
 have h:=A2 _ h
 try dsimp only at h
 refine Af<|Ae I<|Ag I<|Ag I<|Aa<|Am I ?_
 have J0:=BA F0 .hd
 have W3:=BB F0 .hd
 have X2:=BC (α:=List Int) (v:=c0) (xs:=g0) J0 L (Bg (α:=List Int) F0 .hd Y0 hL)
 refine Au hb0 func67 I (.cons (.tmp I) (.cons (.tmp I) .nil)) I ?_
 cases h
 exact ⟨J0.ag,fun w9 hw9=>⟨c0,I,J0.kd X2 hw9⟩⟩
 refine Af<|Ae I<|Ag I<|Ag I<|Aa<|Am I ?_
 have Y2:=Rep.nilAt (α:=List Int) z0 L
 refine Au hb0 func67 I (.cons (.tmp I) (.cons (.tmp I) .nil)) I ?_
 cases h
 exact ⟨z0.ag,fun w9 hw9=>⟨vN,I,z0.kd Y2 hw9⟩⟩
def ap_l1 (_n:Nat) (a2:Int) (v0:(List (List Int)) × Int) (a3:Int) (a4:Int) (p0:Int × (List (Int × Int)) -> Oa (List (Int × Int))):Int × (List (Int × Int)) -> Oa (List (Int × Int))
  | (c0,b0)=>(if c0 < a2 then (idx v0.1 c0).bind fun g0=>(idx g0 a3).bind fun j0=>(idx g0 a4).bind fun k0=>(chk (j0 + k0)).bind fun q0=>jn (fun t0=>(chk (c0 + 1)).bind fun s0=>p0 (s0,t0)) (fun d0=>(if 0 < q0 then (app b0 ([(j0,k0)]:List (Int × Int))).bind fun u0=>d0 u0 else d0 b0)) else some b0)
def ap_p (n:Nat) (a0:Te) (a1:List Int) (a2:Int) (a3:Int) (a4:Int):Oa ((List (Int × Int)) × Int):=
  (ac_p n a0 a1 a2).bind fun c0=>(if c0.2 = 0 then jn (fun g0=>(if g0 = true then some (([]:List (Int × Int)),(2:Int)) else Option.bind (aj (ap_l1 n a2 c0 a3 a4) n (0,([]:List (Int × Int)))) (fun d0=>(if d0.length = 0 then some (([]:List (Int × Int)),(7:Int)) else some (d0,(0:Int)))))) (fun b0=>(if a3 < 0 then b0 true else (if a0.fc <= a3 then b0 true else (if a4 < 0 then b0 true else (if a0.fc <= a4 then b0 true else b0 (decide (a3 = a4))))))) else some (([]:List (Int × Int)),c0.2))
theorem ap_c (n:Nat) {L w} (hL:hl L w) (a0:Te) {v0_3:Vc} (h0_3:Rep.R w L [v0_3] a0.ft) {a1:List Int} {v1_0:Vc} (h1_0:Rep.R w L [v1_0] a1) {a2:Int} {a3:Int} {a4:Int}  {r:(List (Int × Int)) × Int} (h:ap_p n a0 a1 a2 a3 a4 = some r) :
 Cl 32 #[.agg #[vI a0.fh,vI a0.fc,vI a0.fj,v0_3],v1_0,vI a2,vI a3,vI a4] w (ae w fun w' u=>∃ v0_0:Vc,u = .tuple #[v0_0,vI r.2]/\Rep.R w' L [v0_0] r.1):=by
 unfold ap_p at h
 refine AF func32 I I I fun _ cs0 hb0=>Af<|RG.bx (AA w) I I fun D3 j3 B0 v3=>Ag I<|Ag I<|Aa<|Af<|Ac (AH I (B0.memA .hd))<|Ae I<|Ae I<|bk h fun W2 P2 h=>jE (bd 67) I (e3 I I I) (fun w9 hw9=>ac_c n (B0.hL hL hw9) a0 (B0.km h0_3 hw9) (B0.km h1_0 hw9) P2) I fun E3 C3 d2 ⟨M0,hu_,u2⟩=>?_
 subst hu_
 obtain ⟨s0,x3⟩:=B0.agr d2
 refine Ae I<|Ac (Ak I I)<|Ac (Ak I I)<|Ag I<|Ag I<|Aa<|Aj<|Af<|Ae I<|Ac (FV.neq (i:=W2.2) (j:=0) I I)<|Aa<|MX.ifn I h (fun s1 h=>?_) (fun s1 h=>?_)
 refine Ar<|Aj<|Aj<|MX.jo (α:=Bool) (fun D0=>[(2,vI a2),(3,vI a3),(4,vI a4),(12,M0),(48,.bool D0)]) (fun D0=>[]) (fun D0=>D0) s0 h ?_ ?_
 rintro D0 H3 C0 U1 h
 try dsimp only at h
 refine MX.ifb I h (fun y1 h=>?_) (fun y1 h=>?_)
 refine Af<|Ag I<|Ag I<|Aa<|Am I ?_
 have B2:=Rep.nilAt (α:=Int × Int) C0 L
 refine Au hb0 func32 I (.cons (.tmp I) (.cons (.tmp I) .nil)) I ?_
 cases h
 exact ⟨C0.ag,fun w9 hw9=>⟨vN,I,C0.kd B2 hw9⟩⟩
 refine Ar<|Af<|Ag I<|Aa<|Aj<|Af<|Ag I<|Aa<|Ax ?_
 have Q0:=C0.nilRow 42 (Rep.size (Int × Int))
 obtain ⟨A3,t2,s2⟩:=aq h
 refine MX.lf (α:=Int × (List (Int × Int)) × Vc × (List Vc)) (fun ⟨j0,q0,u0,x0⟩=>[(2,vI a2),(3,vI a3),(4,vI a4),(12,M0),(14,u0),(15,vI j0)]) (fun ⟨j0,q0,u0,x0⟩=>[rr w 42 (Int × Int) u0 q0.length x0]) (fun ⟨j0,q0,u0,x0⟩ p1=>Cells p1 (bl [rr w 42 (Int × Int) u0 q0.length x0] ++ L) x0 q0) (fun ⟨j0,q0,u0,x0⟩=>(j0,q0)) (0,([]:List (Int × Int)),vN,[]) t2 Q0 (AD (cs:=[]) (xs:=([]:List (Int × Int))) Q0 L (AJ _ _)) ?_
 rintro c3 ⟨j0,q0,u0,x0⟩ p1 G1 t0 R0 K0 h
 unfold ap_l1 at h
 try dsimp only at h
 refine Aj<|Af<|Ae I<|Ae I<|Ac (BO (i:=j0) (j:=a2) I I)<|Aa<|AQ I h (fun u1 h=>?_) (fun u1 h=>?_)
 refine Ar<|Aj<|Ax<|Aj<|du 16 fun d0 g0=>Rv 0 d0 I g0 (fun _=>Ai I)<|Rv 1 d0 I g0 (fun _=>Ai I)<|bk h fun I3 F2 h=>?_
 obtain ⟨F0,G2⟩:=aA F2
 obtain ⟨X2,p3,E0,G0,u3,v2,H0⟩:=Bh (Ao u2 (Tt U1 (Tt (BW C0 42 (Rep.size (Int × Int))) R0))) G2
 obtain ⟨B3,rfl,k1⟩:=bB v2
 refine Rv 2 d0 I g0 (fun _=>Bb 1 (j0.toNat) I E0 I F0 G0)<|Rx 3 49248 d0 I g0 (AP I (H0 0 _ I))<|Rv 4 d0 I g0 (fun _=>Ai I)<|bk h fun k0 H2 h=>?_
 obtain ⟨Y0,I2⟩:=aA H2
 obtain ⟨Y2,q3,W0,b1,D1,x2,g1⟩:=Bh k1 I2
 have k2:D1 = [vI k0]:=x2; subst k2
 refine Rv 5 d0 I g0 (fun _=>Bb 1 (a3.toNat) I W0 I Y0 b1)<|Rx 6 49152 d0 I g0 (AP I (g1 0 _ I))<|Rv 7 d0 I g0 (fun _=>Ai I)<|Rv 8 d0 I g0 (fun _=>Ai I)<|Rv 9 d0 I g0 (fun _=>Bb 1 (j0.toNat) I E0 I F0 G0)<|Rx 10 61440 d0 I g0 (AP I (H0 0 _ I))<|Rv 11 d0 I g0 (fun _=>Ai I)<|bk h fun p0 J2 h=>?_
 obtain ⟨Z0,K2⟩:=aA J2
 obtain ⟨Z2,s3,X0,c1,E1,y2,j1⟩:=Bh k1 K2
 have p2:E1 = [vI p0]:=y2; subst p2
 refine Rv 12 d0 I g0 (fun _=>Bb 1 (a4.toNat) I X0 I Z0 c1)<|Rx 13 49152 d0 I g0 (AP I (j1 0 _ I))<|bk h fun Q2 D2 h=>Rv 14 d0 I g0 (fun _=>Bw (i:=k0) (j:=p0) I I D2)<|Rv 15 d0 I g0 (fun _=>FV.gtr (i:=Q2) (j:=0) I I)<|AN (dk d0)<|MX.jf (α:=(List (Int × Int)) × Vc × (List Vc)) (fun ⟨v0,z0,y0⟩=>[(2,vI a2),(3,vI a3),(4,vI a4),(12,M0),(14,z0),(15,vI j0)]) (fun ⟨v0,z0,y0⟩=>[rr w 42 (Int × Int) z0 v0.length y0]) (fun ⟨v0,z0,y0⟩ q1=>Cells q1 (bl [rr w 42 (Int × Int) z0 v0.length y0] ++ L) y0 v0) (fun ⟨v0,z0,y0⟩=>v0) t0 h ?_ ?_
 rintro ⟨v0,z0,y0⟩ q1 H1 V1 g2 h
 try dsimp only at h
 refine AC<|Ap<|Ae I<|bk h fun R2 E2 h=>Ac (Bw (i:=j0) (j:=1) I I E2)<|Ag I<|Aa<|G1 (R2,v0,z0,y0) H1 (Tt R0 V1) g2 h
 intro d3 P0 h
 try dsimp only at h
 refine AQ I h (fun v1 h=>?_) (fun v1 h=>?_)
 refine du 17 fun b0 c0=>Rv 0 b0 I c0 (fun _=>Ai I)<|Rv 1 b0 I c0 (fun _=>Ai I)<|Rv 2 b0 I c0 (fun _=>Ai I)<|Rv 3 b0 I c0 (fun _=>Bb 1 (j0.toNat) I E0 I F0 G0)<|Rx 4 491712 b0 I c0 (AP I (H0 0 _ I))<|Rv 5 b0 I c0 (fun _=>Ai I)<|Rv 6 b0 I c0 (fun _=>Bb 1 (a3.toNat) I W0 I Y0 b1)<|Rx 7 491520 b0 I c0 (AP I (g1 0 _ I))<|Rv 8 b0 I c0 (fun _=>Ai I)<|Rv 9 b0 I c0 (fun _=>Ai I)<|Rv 10 b0 I c0 (fun _=>Bb 1 (j0.toNat) I E0 I F0 G0)<|Rx 11 516096 b0 I c0 (AP I (H0 0 _ I))<|Rv 12 b0 I c0 (fun _=>Ai I)<|Rv 13 b0 I c0 (fun _=>Bb 1 (a4.toNat) I X0 I Z0 c1)<|Rx 14 491520 b0 I c0 (AP I (j1 0 _ I))<|Rv 15 b0 I c0 (fun _=>AS (vs:=[vI k0,vI p0]) (u:=.agg #[vI k0,vI p0]) (e2 I I) (fun w9=>by kernel_rfl))<|BS 16 131071 b0 I .plain I (AL (α:=Int × Int) (xs:=([(k0,p0)]:List (Int × Int))) (vs:=[.agg #[vI k0,vI p0]]) (ds' :=[vI k0,vI p0]) I t0 el81 I (e1 I) (by kernel_rfl) I) fun F3 k3 I0 U0=>bk h fun V2 M2 h=>BM (i:=17) (rk b0) (BI (m' :=262143) (sk b0) I I .plain I (Bf (α:=Int × Int) (ys:=([(k0,p0)]:List (Int × Int))) M2 I0 (fun _ _=>.t1) el81 I I (AB K0 U0) (Src.row (α:=Int × Int) I0 .hd (AD (cs:=[vI k0,vI p0]) (xs:=(([(k0,p0)]:List (Int × Int)):List (Int × Int))) I0 L (Av (cs:=[vI k0,vI p0]) (ds:=[]) (cW k0 p0) (AJ _ _))))) (fun U2 G3 ⟨F1,I1,W1,j2⟩=>?_))
 refine Rv 18 b0 I c0 (fun _=>Be I)<|AN (dk b0) ?_
 obtain ⟨J1,V0⟩:=AK I1 .d1
 exact P0 (V2,U2,F1) J1 (Tt U0 (Tt W1 V0)) (AB j2 V0) h
 refine Ar<|P0 (q0,u0,x0) t0 (Bx _ _) K0 h
 refine AX I ?_
 have h:=s2 _ h
 try dsimp only at h
 refine Aj<|Af<|Ae I ?_
 have z3:q0.length <= 4294967296:=St.rowLe (α:=Int × Int) t0 .hd
 obtain ⟨b3,t3,q2⟩:=St.rowV (α:=Int × Int) t0 .hd
 refine Ac (FV.lenV underlying81 I q2)<|Ac (BP (i:=q0.length) (j:=0) I I)<|Aa<|AQ I h (fun x1 h=>?_) (fun x1 h=>?_)
 refine Af<|Ag I<|Ag I<|Aa<|Am I ?_
 have z2:=Rep.nilAt (α:=Int × Int) t0 L
 refine Au hb0 func32 I (.cons (.tmp I) (.cons (.tmp I) .nil)) I ?_
 cases h
 exact ⟨t0.ag,fun w9 hw9=>⟨vN,I,t0.kd z2 hw9⟩⟩
 refine Ar<|Af<|Ae I<|Ag I<|Ag I<|Aa<|Am I ?_
 have J0:=BA t0 .hd
 have y3:=BB t0 .hd
 have A2:=BC (α:=Int × Int) (v:=u0) (xs:=q0) J0 L (Bg (α:=Int × Int) t0 .hd K0 hL)
 refine Au hb0 func32 I (.cons (.tmp I) (.cons (.tmp I) .nil)) I ?_
 cases h
 exact ⟨J0.ag,fun w9 hw9=>⟨u0,I,J0.kd A2 hw9⟩⟩
 intro g3 A0 h
 try dsimp only at h
 refine Ap<|Ae I<|Ac (BO (i:=a3) (j:=0) I I)<|Ae I<|BD (s:=28) I h (fun z1 h=>?_) (fun z1 h=>?_)
 refine Aq<|Aq<|Aq<|Aq<|Bn I I<|Ae I<|Aq<|Aq<|Bn I I<|Ae I<|Aq<|Aq<|Aq<|Aq<|Bn I I<|Ae I<|Aq<|Aq<|Aq<|Bn I I<|Aa ?_
 obtain ⟨K1,X1⟩:=AK s0 .done
 exact A0 true K1 X1 h
 refine AG (Ai I)<|RG.fg 1 I<|AG (AP I ((s0.memA .hd) 1 _ I))<|AG (FV.geq (i:=a3) (j:=a0.fc) I I)<|Bv I I<|Ae I<|BD (s:=34) I h (fun A1 h=>?_) (fun A1 h=>?_)
 refine Aq<|Aq<|Bn I I<|Ae I<|Aq<|Aq<|Aq<|Aq<|Bn I I<|Ae I<|Aq<|Aq<|Aq<|Bn I I<|Aa ?_
 obtain ⟨M1,Y1⟩:=AK s0 .done
 exact A0 true M1 Y1 h
 refine AG (Ai I)<|AG (BO (i:=a4) (j:=0) I I)<|Bv I I<|Ae I<|BD (s:=38) I h (fun B1 h=>?_) (fun B1 h=>?_)
 refine Aq<|Aq<|Aq<|Aq<|Bn I I<|Ae I<|Aq<|Aq<|Aq<|Bn I I<|Aa ?_
 obtain ⟨P1,Z1⟩:=AK s0 .done
 exact A0 true P1 Z1 h
 refine AG (Ai I)<|RG.fg 1 I<|AG (AP I ((s0.memA .hd) 1 _ I))<|AG (FV.geq (i:=a4) (j:=a0.fc) I I)<|Bv I I<|Ae I<|BD (s:=44) I h (fun C1 h=>?_) (fun C1 h=>?_)
 refine Aq<|Aq<|Aq<|Bn I I<|Aa ?_
 obtain ⟨Q1,b2⟩:=AK s0 .done
 exact A0 true Q1 b2 h
 refine AG (Ai I)<|AG (Ai I)<|AG (FV.eql (i:=a3) (j:=a4) I I)<|Bv I I<|Aa ?_
 obtain ⟨R1,c2⟩:=AK s0 .done
 exact A0 (decide (a3 = a4)) R1 c2 h
 refine Af<|Ae I<|Ag I<|Ag I<|Aa<|Am I ?_
 have C2:=Rep.nilAt (α:=Int × Int) s0 L
 refine Au hb0 func32 I (.cons (.tmp I) (.cons (.tmp I) .nil)) I ?_
 cases h
 exact ⟨s0.ag,fun w9 hw9=>⟨vN,I,s0.kd C2 hw9⟩⟩
def bv_p (_n:Nat) (a0:Int) (a1:Int):Oa Int:=
  (if a1 < a0 then (chk (2 * a0)).bind fun s2=>(chk (a0 + a1)).bind fun s3=>(chk (s2 - s3)).bind fun s4=>some s4 else (chk (2 * a0)).bind fun s5=>some s5)
theorem bv_c (n:Nat) {L w} (_hL:hl L w) {a0:Int} {a1:Int}  {r:Int} (h:bv_p n a0 a1 = some r) :
 Cl 33 #[vI a0,vI a1] w (ae w fun _ u=>u = vI r):=by
 unfold bv_p at h
 have hS0:=AA w
 refine AF func33 I I I fun _ cs0 hb0=>Af<|Ag I<|Aa<|Aj<|Af<|Ae I<|Ae I<|Ac (FV.gtr (i:=a0) (j:=a1) I I)<|Aa<|AQ I h (fun c1 h=>?_) (fun c1 h=>?_)
 refine Af<|Ae I<|bk h fun s2 hs2 h=>Ac (FV.mulc (i:=2) (j:=a0) I I hs2)<|Ae I<|Ae I<|bk h fun s3 hs3 h=>Ac (Bw (i:=a0) (j:=a1) I I hs3)<|bk h fun s4 hs4 h=>Ac (BQ (i:=s2) (j:=s3) I I hs4)<|Ag I<|Aa<|Am I<|AW hb0 func33 I I ?_
 cases h
 exact hS0.gv
 refine Ar<|Af<|Ae I<|bk h fun s5 hs5 h=>Ac (FV.mulc (i:=2) (j:=a0) I I hs5)<|Ag I<|Aa<|Am I<|AW hb0 func33 I I ?_
 cases h
 exact hS0.gv
def aJ_l1 (_n:Nat) (a0:List Int) (a1:List Int) (g0:Int -> Oa (Int ⊕ Unit)):Int -> Oa (Int ⊕ Unit)
  | b0=>(if 0 <= b0 then (idx a0 b0).bind fun c0=>(idx a1 b0).bind fun d0=>(if c0 = d0 then (chk (b0 - 1)).bind fun j0=>g0 j0 else (chk (c0 - d0)).bind fun k0=>some (.inl k0)) else some (.inr ()))
def aJ_p (n:Nat) (a0:List Int) (a1:List Int):Oa Int:=
  (if a0.length = a1.length then thn (aj (aJ_l1 n a0 a1) n (((a0.length:Nat):Int) - 1)) (fun _=>some (0:Int)) else some (((a0.length:Nat):Int) - ((a1.length:Nat):Int)))
theorem aJ_c (n:Nat) {L w} (_hL:hl L w) {a0:List Int} {v0_0:Vc} (h0_0:Rep.R w L [v0_0] a0) {a1:List Int} {v1_0:Vc} (h1_0:Rep.R w L [v1_0] a1)  {r:Int} (h:aJ_p n a0 a1 = some r) :
 Cl 165 #[v0_0,v1_0] w (ae w fun _ u=>u = vI r):=by
 unfold aJ_p at h
 have hS0:=AA w
 refine AF func165 I I I fun _ cs0 hb0=>Af<|Ag I<|Aa<|Aj<|Af<|Ae I ?_
 have hl1:=AU h0_0
 refine Ac (Ba (xs:=a0) underlying38 I h0_0)<|Ae I ?_
 have hl2:=AU h1_0
 refine Ac (Ba (xs:=a1) underlying38 I h1_0)<|Ac (FV.neqN (i:=a0.length) (j:=a1.length) I I)<|Aa<|MX.ifn I h (fun c3 h=>?_) (fun c3 h=>?_)
 refine Ar<|Aj<|Af<|Ae I<|Ac (Ba (xs:=a0) underlying38 I h0_0)<|Ac (FV.subI (i:=((a0.length:Nat):Int)) (j:=1) I I (by omega))<|Ag I<|Aa<|Ax<|tn h fun j1 K0 u0=>MX.lo (α:=Int) (fun c0=>[(0,v0_0),(1,v1_0),(5,vI c0)]) (fun c0=>[]) (fun c0=>c0) (((a0.length:Nat):Int) - 1) K0 hS0 ?_
 rintro c1 c0 p1 G0 k0 H0 h
 unfold aJ_l1 at h
 try dsimp only at h
 refine Aj<|Af<|Ae I<|Ac (FV.geq (i:=c0) (j:=0) I I)<|Aa<|AQ I h (fun C0 h=>?_) (fun C0 h=>?_)
 refine Ar<|Aj<|Ax<|Aj<|du 9 fun g0 j0=>Rv 0 g0 I j0 (fun _=>Ai I)<|Rv 1 g0 I j0 (fun _=>Ai I)<|bk h fun p0 U0 h=>?_
 obtain ⟨v0,V0⟩:=aA U0
 obtain ⟨Z0,d1,s0,y0,E0,M0,A0⟩:=Bh (AT h0_0 k0) V0
 have I0:E0 = [vI p0]:=M0; subst I0
 refine Rv 2 g0 I j0 (fun _=>Bb 1 (c0.toNat) I s0 I v0 y0)<|Rx 3 256 g0 I j0 (AP I (A0 0 _ I))<|Rv 4 g0 I j0 (fun _=>Ai I)<|Rv 5 g0 I j0 (fun _=>Ai I)<|bk h fun q0 W0 h=>?_
 obtain ⟨x0,X0⟩:=aA W0
 obtain ⟨b1,g1,t0,z0,F0,P0,B0⟩:=Bh (AT h1_0 k0) X0
 have J0:F0 = [vI q0]:=P0; subst J0
 refine Rv 6 g0 I j0 (fun _=>Bb 1 (c0.toNat) I t0 I x0 z0)<|Rx 7 256 g0 I j0 (AP I (B0 0 _ I))<|Rv 8 g0 I j0 (fun _=>FV.neq (i:=p0) (j:=q0) I I)<|AN (dk g0)<|MX.ifn I h (fun D0 h=>?_) (fun D0 h=>?_)
 refine Ar<|AC<|Ap<|Ae I<|bk h fun Y0 Q0 h=>Ac (BQ (i:=c0) (j:=1) I I Q0)<|Ag I<|Aa<|G0 Y0 k0 H0 h
 refine Aj<|du 10 fun b0 d0=>Rv 0 b0 I d0 (fun _=>Ai I)<|Rv 1 b0 I d0 (fun _=>Ai I)<|Rv 2 b0 I d0 (fun _=>Bb 1 (c0.toNat) I s0 I v0 y0)<|Rx 3 768 b0 I d0 (AP I (A0 0 _ I))<|Rv 4 b0 I d0 (fun _=>Ai I)<|Rv 5 b0 I d0 (fun _=>Ai I)<|Rv 6 b0 I d0 (fun _=>Bb 1 (c0.toNat) I t0 I x0 z0)<|Rx 7 768 b0 I d0 (AP I (B0 0 _ I))<|bk h fun k1 R0 h=>Rv 8 b0 I d0 (fun _=>BQ (i:=p0) (j:=q0) I I R0)<|Rv 9 b0 I d0 (fun _=>Be I)<|AN (dk b0) ?_
 have h:=au h u0
 refine Am I<|AW hb0 func165 I I ?_
 cases h
 exact k0.gv
 refine AX I ?_
 have h:=aC h u0
 try dsimp only at h
 refine Af<|Ag I<|Aa<|Am I<|AW hb0 func165 I I ?_
 cases h
 exact k0.gv
 refine Af<|Ae I<|Ac (Ba (xs:=a0) underlying38 I h0_0)<|Ae I<|Ac (Ba (xs:=a1) underlying38 I h1_0)<|Ac (FV.subI (i:=((a0.length:Nat):Int)) (j:=((a1.length:Nat):Int)) I I (by omega))<|Ag I<|Aa<|Am I<|AW hb0 func165 I I ?_
 cases h
 exact hS0.gv
def az_l1 (_n:Nat) (a0:List Int) (c0:Int -> Oa Int):Int -> Oa Int
  | b0=>(if 0 < b0 then (chk (b0 - 1)).bind fun d0=>(idx a0 d0).bind fun j0=>(if j0 = 0 then (chk (b0 - 1)).bind fun g0=>c0 g0 else some b0) else some b0)
def az_p (n:Nat) (a0:List Int):Oa (List Int):=
  jn (fun d0=>(cut a0 0 d0).bind fun c0=>some c0) (fun b0=>Option.bind (aj (az_l1 n a0) n ((a0.length:Nat):Int)) (b0))
theorem az_c (n:Nat) {L w} (_hL:hl L w) {a0:List Int} {v0_0:Vc} (h0_0:Rep.R w L [v0_0] a0)  {r:List Int} (h:az_p n a0 = some r) :
 Cl 178 #[v0_0] w (ae w fun w' u=>∃ v0_0:Vc,u = v0_0/\Rep.R w' L [v0_0] r):=by
 unfold az_p at h
 have hS0:=AA w
 refine AF func178 I I I fun _ cs0 hb0=>Af<|Ag I<|Aa<|Af<|Ae I ?_
 have hl1:=AU h0_0
 refine Ac (Ba (xs:=a0) underlying38 I h0_0)<|Ag I<|Aa<|Aj<|Ax<|MX.xo (α:=Int) 0 (fun c0=>[(0,v0_0),(3,vI c0)]) (fun c0=>[]) (fun c0=>c0) hS0 I h ?_ ?_
 rintro c0 Y0 g0 W0 h
 try dsimp only at h
 refine Af<|Ae I<|Ae I<|bk h fun b1 J0 h=>RG.valE .plain I (FV.cutL (α:=Int) J0 I I (AT h0_0 g0) I ⟨_,I⟩) fun P0 D0=>Ag I<|Aa<|Am I<|AW hb0 func178 I I ?_
 cases h
 exact ⟨g0.ag,fun w9 hw9=>⟨P0,I,g0.kd D0 hw9⟩⟩
 intro R0 k0 h
 try dsimp only at h
 obtain ⟨X0,C0,p0⟩:=aq h
 refine MX.lo (α:=Int) (fun b0=>[(0,v0_0),(3,vI b0)]) (fun b0=>[]) (fun b0=>b0) ((a0.length:Nat):Int) C0 hS0 ?_
 rintro U0 b0 Z0 v0 d0 j0 h
 unfold az_l1 at h
 try dsimp only at h
 refine Aj<|Af<|Ae I<|Ac (FV.gtr (i:=b0) (j:=0) I I)<|Ae I<|BD (s:=8) I h (fun s0 h=>?_) (fun s0 h=>?_)
 refine AG (Ai I)<|AG (Ai I)<|bk h fun K0 F0 h=>AG (BQ (i:=b0) (j:=1) I I F0)<|bk h fun q0 H0 h=>?_
 obtain ⟨z0,I0⟩:=aA H0
 obtain ⟨Q0,V0,x0,A0,u0,E0,B0⟩:=Bh (AT h0_0 d0) I0
 have y0:u0 = [vI q0]:=E0; subst y0
 refine AG (Bb 1 (K0.toNat) I x0 I z0 A0)<|AG (AP I (B0 0 _ I))<|AG (FV.eql (i:=q0) (j:=0) I I)<|Bn I I<|Aa<|AQ I h (fun t0 h=>?_) (fun t0 h=>?_)
 refine Ar<|Ax<|Ap<|Ae I<|bk h fun M0 G0 h=>Ac (BQ (i:=b0) (j:=1) I I G0)<|Ag I<|Aa<|AC<|v0 M0 d0 j0 h
 refine AX I ?_
 have h:=p0 _ h
 try dsimp only at h
 exact k0 b0 d0 j0 h
 refine Aq<|Aq<|Aq<|Aq<|Aq<|Aq<|Bv I I<|Aa<|BF I<|AX I ?_
 have h:=p0 _ h
 try dsimp only at h
 exact k0 b0 d0 j0 h
def ao_l1 (_n:Nat) (a0:List Int) (a1:List Int) (p0:Nat × Nat × (List Int) -> Oa (List Int)):Nat × Nat × (List Int) -> Oa (List Int)
  | (q0,b0,k0)=>(if b0 < a0.length then (a0[b0]?).bind fun v0=>(chk (v0 - ((q0:Nat):Int))).bind fun j0=>jn (fun c0=>jn (fun (s0,z0)=>(app k0 ([z0]:List Int)).bind fun y0=>p0 (s0,b0 + 1,y0)) (fun g0=>(if c0 < 0 then (chk (c0 + 4294967296)).bind fun t0=>g0 (1,t0) else g0 (0,c0)))) (fun d0=>(if b0 < a1.length then (a1[b0]?).bind fun x0=>(chk (j0 - x0)).bind fun u0=>d0 u0 else d0 j0)) else some k0)
def ao_p (n:Nat) (a0:List Int) (a1:List Int):Oa (List Int):=
  Option.bind (aj (ao_l1 n a0 a1) n (0,0,([]:List Int))) (fun b0=>(az_p n b0).bind fun c0=>some c0)
theorem ao_c (n:Nat) {L w} (hL:hl L w) {a0:List Int} {v0_0:Vc} (h0_0:Rep.R w L [v0_0] a0) {a1:List Int} {v1_0:Vc} (h1_0:Rep.R w L [v1_0] a1)  {r:List Int} (h:ao_p n a0 a1 = some r) :
 Cl 166 #[v0_0,v1_0] w (ae w fun w' u=>∃ v0_0:Vc,u = v0_0/\Rep.R w' L [v0_0] r):=by
 unfold ao_p at h
 have hS0:=AA w
 refine AF func166 I I I fun _ cs0 hb0=>Af<|Ag I<|Aa<|Af<|Ag I<|Aa<|Af<|Ag I<|Aa<|Aj<|Af<|Ag I<|Aa<|Ax ?_
 have B0:=hS0.nilRow 3 (Rep.size Int)
 have k2:=BW hS0 3 (Rep.size Int)
 obtain ⟨u2,C1,x1⟩:=aq h
 refine MX.lf (α:=Nat × Nat × (List Int) × Vc × (List Vc)) (fun ⟨p0,b0,g0,c0,j0⟩=>[(0,v0_0),(1,v1_0),(5,c0),(6,vn p0),(7,vn b0)]) (fun ⟨p0,b0,g0,c0,j0⟩=>[rr w 3 Int c0 g0.length j0]) (fun ⟨p0,b0,g0,c0,j0⟩ H0=>Cells H0 (bl [rr w 3 Int c0 g0.length j0] ++ L) j0 g0) (fun ⟨p0,b0,g0,c0,j0⟩=>(p0,b0,g0)) (0,0,([]:List Int),vN,[]) C1 B0 (AD (cs:=[]) (xs:=([]:List Int)) B0 L (AJ _ _)) ?_
 rintro Z1 ⟨p0,b0,g0,c0,j0⟩ H0 V0 k0 Z0 E0 h
 unfold ao_l1 at h
 try dsimp only at h
 refine Aj<|Af<|Ae I<|Ae I ?_
 have x0:=AT h0_0 k0
 have s2:=AU x0
 refine Ac (Ba (xs:=a0) underlying38 I x0)<|Ac (Bp (i:=b0) (j:=a0.length) I I)<|Aa<|AQ I h (fun K0 h=>?_) (fun K0 h=>?_)
 refine Ar<|Aj<|Ax<|Af<|Ae I<|Ae I<|bk h fun I0 J1 h=>?_
 obtain ⟨X1,g2,q1,y1,Q0,D1,A1⟩:=Bh x0 J1
 have s1:Q0 = [vI I0]:=D1; subst s1
 refine Ac (Bb 1 b0 I q1 I I y1)<|AR I (A1 0 _ I)<|Ae I<|bk h fun G0 G1 h=>Ac (BQ (i:=I0) (j:=((p0:Nat):Int)) I I G1)<|Ag I<|Aa<|Aj<|Af<|Ae I<|Ae I ?_
 have y0:=AT h1_0 k0
 have t2:=AU y0
 refine Ac (Ba (xs:=a1) underlying38 I y0)<|Ac (Bp (i:=b0) (j:=a1.length) I I)<|Aa<|MX.jo (α:=Int) (fun q0=>[(0,v0_0),(1,v1_0),(5,c0),(6,vn p0),(7,vn b0),(8,vI q0)]) (fun q0=>[rr w 3 Int c0 g0.length j0]) (fun q0=>q0) k0 h ?_ ?_
 rintro q0 A2 t0 b1 h
 try dsimp only at h
 refine Af<|Ag I<|Aa<|Aj<|Af<|Ae I<|Ac (BO (i:=q0) (j:=0) I I)<|Aa<|MX.jo (α:=Nat × Int) (fun ⟨s0,d0⟩=>[(0,v0_0),(1,v1_0),(5,c0),(6,vn s0),(7,vn b0),(8,vI d0)]) (fun ⟨s0,d0⟩=>[rr w 3 Int c0 g0.length j0]) (fun ⟨s0,d0⟩=>(s0,d0)) t0 h ?_ ?_
 rintro ⟨s0,d0⟩ B2 W0 c1 h
 try dsimp only at h
 refine Ap<|Ae I<|Ae I<|Al .plain I (jA d0 (vI d0) W0 ay (e1 I)) fun x2 d2 u0 g1=>bk h fun W1 M1 h=>?_
 have F0:=Tt b1 (Tt c1 g1)
 refine RG.doesL .plain I (Bf (α:=Int) (ys:=([d0]:List Int)) M1 u0 (fun _ _=>.t1) ay I I (AB E0 F0) (Src.row (α:=Int) u0 .hd (jC d0 (vI d0) u0 L I))) fun U1 y2 ⟨R0,X0,j1,p1⟩=>Ag I<|Aa<|AC<|Ap<|Ae I<|Ac (Bl (i:=b0) (j:=1) I I (by omega))<|Ag I<|Aa ?_
 obtain ⟨Y0,D0⟩:=AK X0 .d1
 exact V0 (s0,b0 + 1,W1,U1,R0) Y0 (Tt Z0 (Tt F0 (Tt j1 D0))) (AB p1 D0) h
 intro c2 A0 h
 try dsimp only at h
 refine AQ I h (fun M0 h=>?_) (fun M0 h=>?_)
 refine Af<|Ae I<|bk h fun Q1 H1 h=>Ac (Bw (i:=q0) (j:=4294967296) I I H1)<|Ag I<|Aa<|Ap<|Ag I<|Aa<|A0 (1,Q1) t0 (Bx _ _) h
 refine Ar<|A0 (0,q0) t0 (Bx _ _) h
 intro b2 z0 h
 try dsimp only at h
 refine AQ I h (fun P0 h=>?_) (fun P0 h=>?_)
 refine Ap<|Ae I<|Ae I<|Ae I<|bk h fun J0 K1 h=>?_
 obtain ⟨Y1,j2,u1,z1,U0,E1,B1⟩:=Bh y0 K1
 have v1:U0 = [vI J0]:=E1; subst v1
 refine Ac (Bb 1 b0 I u1 I I z1)<|AR I (B1 0 _ I)<|bk h fun R1 I1 h=>Ac (BQ (i:=G0) (j:=J0) I I I1)<|Ag I<|Aa<|z0 R1 k0 (Bx _ _) h
 refine Ar<|z0 G0 k0 (Bx _ _) h
 refine AX I ?_
 have h:=x1 _ h
 try dsimp only at h
 refine Af<|Ae I ?_
 have v0:=BA k0 .hd
 have p2:=BB k0 .hd
 refine bk h fun C2 P1 h=>jE (bd 178) I (e1 I) (fun w9 hw9=>az_c n (v0.hL hL hw9) (Aw (BC (α:=Int) (v:=c0) (xs:=g0) v0 L (Bg (α:=Int) k0 .hd E0 hL)) hw9) P1) I fun z2 V1 k1 ⟨v2,hu_,F1⟩=>?_
 subst hu_
 obtain ⟨C0,q2⟩:=v0.agr k1
 refine Ag I<|Aa<|Am I<|AW hb0 func166 I I ?_
 cases h
 exact ⟨C0.ag,fun w9 hw9=>⟨V1,I,C0.kd F1 hw9⟩⟩
structure Tf where
  fe:Bool
  fD:List Int
  deriving DecidableEq
instance:Rep Tf:=Rep.via (β:=Bool × (List Int)) fun x=>(x.fe,x.fD)
def aE_l1 (_n:Nat) (x0:List Int) (y0:Nat × U8 -> Oa (U8)):Nat × U8 -> Oa (U8)
  | (b0,j0,k0,p0,q0,s0,t0,u0,v0)=>(if b0 < x0.length then (([j0,k0,p0,q0,s0,t0,u0,v0]:List Ua)[b0 / 2]?).bind fun g0=>(x0[b0]?).bind fun d0=>(chk (32 * ((b0 % 2:Nat):Int))).bind fun z0=>(bG z0).bind fun c0=>y0 (b0 + 1,ax (b0 / 2) 0 (g0 + (shlU (ac d0) c0)) j0,ax (b0 / 2) 1 (g0 + (shlU (ac d0) c0)) k0,ax (b0 / 2) 2 (g0 + (shlU (ac d0) c0)) p0,ax (b0 / 2) 3 (g0 + (shlU (ac d0) c0)) q0,ax (b0 / 2) 4 (g0 + (shlU (ac d0) c0)) s0,ax (b0 / 2) 5 (g0 + (shlU (ac d0) c0)) t0,ax (b0 / 2) 6 (g0 + (shlU (ac d0) c0)) u0,ax (b0 / 2) 7 (g0 + (shlU (ac d0) c0)) v0) else some (j0,k0,p0,q0,s0,t0,u0,v0))
def aE_l2 (_n:Nat) (x0:List Int) (y0:Nat × U8 -> Oa (U8)):Nat × U8 -> Oa (U8)
  | (b0,j0,k0,p0,q0,s0,t0,u0,v0)=>(if b0 < x0.length then (([j0,k0,p0,q0,s0,t0,u0,v0]:List Ua)[b0 / 2]?).bind fun g0=>(x0[b0]?).bind fun d0=>(chk (32 * ((b0 % 2:Nat):Int))).bind fun z0=>(bG z0).bind fun c0=>y0 (b0 + 1,ax (b0 / 2) 0 (g0 + (shlU (ac d0) c0)) j0,ax (b0 / 2) 1 (g0 + (shlU (ac d0) c0)) k0,ax (b0 / 2) 2 (g0 + (shlU (ac d0) c0)) p0,ax (b0 / 2) 3 (g0 + (shlU (ac d0) c0)) q0,ax (b0 / 2) 4 (g0 + (shlU (ac d0) c0)) s0,ax (b0 / 2) 5 (g0 + (shlU (ac d0) c0)) t0,ax (b0 / 2) 6 (g0 + (shlU (ac d0) c0)) u0,ax (b0 / 2) 7 (g0 + (shlU (ac d0) c0)) v0) else some (j0,k0,p0,q0,s0,t0,u0,v0))
def aE_p (n:Nat) (a0:Tf):Oa ((U8) × Int):=
  (mk 16 (0:Int)).bind fun c0=>(c0[15]?).bind fun _x28=>(put c0 ((15:Nat):Int) (2147483648:Int)).bind fun I0=>(aJ_p n a0.fD I0).bind fun j0=>(if 0 < j0 then some ((0,0,0,0,0,0,0,0),(6:Int)) else (if j0 = 0 then (if a0.fe = true then (mk 17 (0:Int)).bind fun g0=>(g0[16]?).bind fun _x61=>(put g0 ((16:Nat):Int) (1:Int)).bind fun J0=>(ao_p n J0 a0.fD).bind fun M0=>Option.bind (aj (aE_l1 n M0) n (0,0,0,0,0,0,0,0,0)) (fun (k0,p0,q0,s0,t0,u0,v0,x0)=>some ((k0,p0,q0,s0,t0,u0,v0,x0),(0:Int))) else some ((0,0,0,0,0,0,0,0),(6:Int))) else jn (fun G0=>Option.bind (aj (aE_l2 n G0) n (0,0,0,0,0,0,0,0,0)) (fun (y0,z0,A0,B0,C0,D0,E0,F0)=>some ((y0,z0,A0,B0,C0,D0,E0,F0),(0:Int)))) (fun b0=>(if a0.fe = true then (mk 17 (0:Int)).bind fun d0=>(d0[16]?).bind fun _x369=>(put d0 ((16:Nat):Int) (1:Int)).bind fun H0=>(ao_p n H0 a0.fD).bind fun K0=>b0 K0 else b0 a0.fD))))
theorem aE_c (n:Nat) {L w} (hL:hl L w) (a0:Tf) {v0_1:Vc} (h0_1:Rep.R w L [v0_1] a0.fD)  {r:(U8) × Int} (h:aE_p n a0 = some r) :
 Cl 124 #[.agg #[.bool a0.fe,v0_1]] w (ae w fun _ u=>u = .tuple #[.agg ((ao r.1)).toArray,vI r.2]):=by
 unfold aE_p at h
 refine AF func124 I I I fun _ cs0 hb0=>Af<|RG.bx (AA w) I I fun c6 X4 G2 x5=>RG.nl zP G2 fun d6 V0 I2 y5=>Ag I<|Aa<|Af<|bk h fun G6 q4 h=>RG.doesH .plain I (Does.mkH (α:=Int) (L:=L) q4 I2 ay I (fun _ _=>rfl)) fun Y5 p6 ⟨p5,k1,B5,Q1⟩=>Ag I<|Aa<|Af<|Ae I<|bk h fun H4 g4 h=>?_
 obtain ⟨d2,Z4,v1,Y1,A2,U3,Q5⟩:=BU (α:=Int) k1 .hd Q1 g4
 obtain ⟨k2,c5,W1⟩:=By (α:=Int) k1 .hd Y1
 obtain rfl:d2 = ⟨k2,0,none⟩:=by rw [W1] at v1; cases v1; rfl
 have B3:A2 = [vI H4]:=U3; subst B3
 refine Ac (Bb 1 15 I v1 I I Y1)<|bk h fun I6 u4 h=>RG.acts' .plain (Cb (α:=Int) (i:=15) u4 k1 W1 (fun _=>.hd) Q1 I I I I I I) fun y6 ⟨t5,y0,E5,t3⟩=>Aa<|Af<|Bd 1 I<|AR I ((y0.memA .t2) 1 _ I)<|Ae I<|bk h fun B1 z4 h=>Bj (vI B1) (bd 165) I (e2 I I) (fun w9 hw9=>aJ_c n (y0.hL0 hL hw9) (y0.k0 h0_1 hw9) (Aw (St.lend (α:=Int) (L:=L) y0 .hd t3 hL) hw9) z4) I<|Ag I<|Aa<|Aj<|Af<|Ae I<|Ac (FV.gtr (i:=B1) (j:=0) I I)<|Ae I<|BD (s:=19) I h (fun x2 h=>?_) (fun x2 h=>?_)
 refine Aq<|Aq<|Aq<|RG.un<|RG.un<|RG.un<|Aq<|Bn I I<|Aa<|Bq I<|Af<|Ac (AS (vs:=[]) (u:=.agg zQ) ak (fun w9=>by kernel_rfl))<|AV zP y0 .t1 (ai I) fun z6 J1 F5=>Ag I<|Aa<|Am I<|Au hb0 func124 I (.cons (.many (cs:=zP) I I (J1.memA .t1)) (.cons (.tmp I) .nil)) I ?_
 cases h
 exact J1.gv
 refine AG (Ai I)<|AG (FV.eql (i:=B1) (j:=0) I I)<|AG (Ai I)<|BD (s:=22) I h (fun y2 h=>?_) (fun y2 h=>?_)
 refine RG.fg 0 I<|AG (AP I ((y0.memA .t2) 0 _ I))<|AG (Bu I)<|AG (BN I I)<|Bv I I<|Aa<|MX.ifnb I h (fun D1 h=>?_) (fun D1 h=>?_)
 refine Ar<|Af<|Bd 1 I<|AR I ((y0.memA .t2) 1 _ I)<|Ag I<|Aa<|Aj<|Af<|Bd 0 I<|AR I ((y0.memA .t2) 0 _ I)<|Aa<|MX.cond_kt I D1<|Af<|bk h fun J6 v4 h=>RG.doesH .plain I (Does.mkH (α:=Int) (L:=L) v4 y0 ay I (fun _ _=>rfl)) fun E4 A6 ⟨u5,s1,G5,U1⟩=>Ag I<|Aa<|Af<|Ae I<|bk h fun J4 p4 h=>?_
 obtain ⟨j2,j5,y1,b2,D2,Y3,V5⟩:=BU (α:=Int) s1 .hd U1 p4
 obtain ⟨q2,k5,X1⟩:=By (α:=Int) s1 .hd b2
 obtain rfl:j2 = ⟨q2,0,none⟩:=by rw [X1] at y1; cases y1; rfl
 have C3:D2 = [vI J4]:=Y3; subst C3
 refine Ac (Bb 1 16 I y1 I I b2)<|bk h fun M4 x4 h=>RG.acts' .plain (Cb (α:=Int) (i:=16) x4 s1 X1 (fun _=>.hd) U1 I I I I I I) fun B6 ⟨v5,u1,H5,u3⟩=>Aa<|Ap<|Ae I<|Ae I ?_
 have j1:=BA u1 .hd
 have I5:=BB u1 .hd
 refine bk h fun C1 A4 h=>jE (bd 166) I (e2 I I) (fun w9 hw9=>ao_c n (j1.hL hL hw9) (Aw (BC (α:=Int) (v:=E4) (xs:=M4) j1 L (Bg (α:=Int) u1 .hd u3 hL)) hw9) (j1.km h0_1 hw9) A4) I fun C6 G4 q3 ⟨b6,hu_,Z3⟩=>?_
 subst hu_
 obtain ⟨U2,J5⟩:=j1.agr q3
 refine Ag I<|Aa<|Af<|RG.nl zP U2 fun D6 d1 V2 k3=>Aa<|Aj<|Af<|Ag I<|Aa<|Ax ?_
 obtain ⟨H2,W2⟩:=AK V2 (.a0 (.a1 .done))
 obtain ⟨W5,M3,D3⟩:=aq h
 refine MX.lo (α:=Nat × U8) (fun ⟨b0,z0,A0,B0,C0,D0,E0,F0,G0⟩=>[(2,vP V0),(6,G4),(8,vP d1),(9,vn b0)]) (fun ⟨b0,z0,A0,B0,C0,D0,E0,F0,G0⟩=>[.cells d1 [vU z0,vU A0,vU B0,vU C0,vU D0,vU E0,vU F0,vU G0] 46,.cells V0 zP 46]) (fun ⟨b0,z0,A0,B0,C0,D0,E0,F0,G0⟩=>(b0,z0,A0,B0,C0,D0,E0,F0,G0)) (0,0,0,0,0,0,0,0,0) M3 H2 ?_
 rintro U4 ⟨b0,z0,A0,B0,C0,D0,E0,F0,G0⟩ E6 E2 X0 K1 h
 unfold aE_l1 at h
 try dsimp only at h
 refine Aj<|Af<|Ae I<|Ae I ?_
 have z1:=Ao Z3 (Tt k3 (Tt W2 K1))
 have K5:=AU z1
 refine Ac (Ba (xs:=C1) underlying38 I z1)<|Ac (Bp (i:=b0) (j:=C1.length) I I)<|Aa<|AQ I h (fun s2 h=>?_) (fun s2 h=>?_)
 refine Ar<|Aj<|Ax<|du 17 fun j0 v0=>Rv 0 j0 I v0 (fun _=>Ai I)<|Rv 1 j0 I v0 (fun _=>FV.quoN (i:=b0) (j:=2) I I I (by omega))<|Rv 2 j0 I v0 (fun _=>Ai I)<|Rv 3 j0 I v0 (fun _=>FV.quoN (i:=b0) (j:=2) I I I (by omega))<|bk h fun t0 Z0 h=>Rv 4 j0 I v0 (fun _=>AO (m:=1) (k:=b0 / 2) (len:=8) I I I I (aU Z0 I))<|Rx 5 229376 j0 I v0 (AP I ((aK (p:=⟨d1,0,none⟩) (cs:=([z0,A0,B0,C0,D0,E0,F0,G0]:List Ua).map (fun z9:Ua=>(vU z9:Vc)) ++ []) (i:=b0 / 2) (X0.memA .hd) (bJ (fun z9:Ua=>(vU z9:Vc)) Z0)) 0 _ I))<|Rv 6 j0 I v0 (fun _=>Ai I)<|Rv 7 j0 I v0 (fun _=>Ai I)<|bk h fun d0 d4 h=>?_
 obtain ⟨Q4,Y4,v3,F3,z2,Q3,J3⟩:=Bh z1 d4
 have x3:z2 = [vI d0]:=Q3; subst x3
 refine Rv 8 j0 I v0 (fun _=>Bb 1 b0 I v3 I I F3)<|Rx 9 246784 j0 I v0 (AP I (J3 0 _ I))<|Rv 10 j0 I v0 (fun _=>FV.convU (i:=d0) underlying3 underlying44 I)<|Rv 11 j0 I v0 (fun _=>Ai I)<|Rv 12 j0 I v0 (fun _=>FV.remN (i:=b0) (j:=2) I I I)<|bk h fun B4 b4 h=>Rv 13 j0 I v0 (fun _=>FV.mulc (i:=32) (j:=((b0 % 2:Nat):Int)) I I b4)<|bk h fun q0 G3 h=>Rv 14 j0 I v0 (fun _=>FV.shlI (a:=ac d0) (i:=B4) I I G3)<|Rv 15 j0 I v0 (fun _=>FV.addU (a:=t0) (b:=shlU (ac d0) q0) I I) ?_
 have P5:=aK (p:=⟨d1,0,none⟩) (cs:=([z0,A0,B0,C0,D0,E0,F0,G0]:List Ua).map (fun z9:Ua=>(vU z9:Vc)) ++ []) (i:=b0 / 2) (X0.memA .hd) (bJ (fun z9:Ua=>(vU z9:Vc)) Z0)
 refine Rv 16 j0 I v0 (fun _=>AO (m:=1) (k:=b0 / 2) (len:=8) I I I I (aU Z0 I))<|BG 17 262143 j0 I I .plain (Acts.storeArr (fun z9:Ua=>(vU z9:Vc)) (xs:=([z0,A0,B0,C0,D0,E0,F0,G0]:List Ua)) (pre:=[]) (post:=[]) (i:=b0 / 2) (m:=8) (x:=t0 + (shlU (ac d0) q0)) (old:=[vU z0,vU A0,vU B0,vU C0,vU D0,vU E0,vU F0,vU G0]) (new' :=[vW ((ax (b0 / 2) 0 (t0 + (shlU (ac d0) q0)) z0).toNat:Int),vW ((ax (b0 / 2) 1 (t0 + (shlU (ac d0) q0)) A0).toNat:Int),vW ((ax (b0 / 2) 2 (t0 + (shlU (ac d0) q0)) B0).toNat:Int),vW ((ax (b0 / 2) 3 (t0 + (shlU (ac d0) q0)) C0).toNat:Int),vW ((ax (b0 / 2) 4 (t0 + (shlU (ac d0) q0)) D0).toNat:Int),vW ((ax (b0 / 2) 5 (t0 + (shlU (ac d0) q0)) E0).toNat:Int),vW ((ax (b0 / 2) 6 (t0 + (shlU (ac d0) q0)) F0).toNat:Int),vW ((ax (b0 / 2) 7 (t0 + (shlU (ac d0) q0)) G0).toNat:Int)]) I I (aU Z0 I) X0 .hd I (eO _ _ _) I I (fun _=>⟨I,I⟩) I I) fun g6 J2 X2=>AN (dk j0)<|AC<|Ap<|Ae I<|Ac (Bl (i:=b0) (j:=1) I I (by omega))<|Ag I<|Aa<|E2 (b0 + 1,ax (b0 / 2) 0 (t0 + (shlU (ac d0) q0)) z0,ax (b0 / 2) 1 (t0 + (shlU (ac d0) q0)) A0,ax (b0 / 2) 2 (t0 + (shlU (ac d0) q0)) B0,ax (b0 / 2) 3 (t0 + (shlU (ac d0) q0)) C0,ax (b0 / 2) 4 (t0 + (shlU (ac d0) q0)) D0,ax (b0 / 2) 5 (t0 + (shlU (ac d0) q0)) E0,ax (b0 / 2) 6 (t0 + (shlU (ac d0) q0)) F0,ax (b0 / 2) 7 (t0 + (shlU (ac d0) q0)) G0) J2 (Tt K1 X2) h
 refine AX I ?_
 have h:=D3 _ h
 try dsimp only at h
 refine Af<|Ac (AH I (X0.memA .hd))<|AV [vU z0,vU A0,vU B0,vU C0,vU D0,vU E0,vU F0,vU G0] X0 .t1 (ai I) fun j6 F1 z5=>Ag I<|Aa<|Am I<|Au hb0 func124 I (.cons (.many (cs:=[vU z0,vU A0,vU B0,vU C0,vU D0,vU E0,vU F0,vU G0]) I I (F1.memA .t1)) (.cons (.tmp I) .nil)) I ?_
 cases h
 exact F1.gv
 refine Af<|Ac (AS (vs:=[]) (u:=.agg zQ) ak (fun w9=>by kernel_rfl))<|AV zP y0 .t1 (ai I) fun k6 G1 A5=>Ag I<|Aa<|Am I<|Au hb0 func124 I (.cons (.many (cs:=zP) I I (G1.memA .t1)) (.cons (.tmp I) .nil)) I ?_
 cases h
 exact G1.gv
 refine Aq<|Aq<|Aq<|AG (AZ I I)<|Bv I I<|Aa<|BF I<|Ar<|Af<|Bd 1 I<|AR I ((y0.memA .t2) 1 _ I)<|Ag I<|Aa<|Aj<|Af<|Bd 0 I<|AR I ((y0.memA .t2) 0 _ I)<|Aa<|MX.jf (α:=(List Int) × Vc) (fun ⟨U0,W0⟩=>[(2,vP V0),(6,W0)]) (fun ⟨U0,W0⟩=>[.cells V0 zP 46]) (fun ⟨U0,W0⟩ c2=>Rep.R c2 (bl [.cells V0 zP 46] ++ L) [W0] U0) (fun ⟨U0,W0⟩=>U0) y0 h ?_ ?_
 rintro ⟨U0,W0⟩ c2 K2 C5 R3 h
 try dsimp only at h
 refine Af<|RG.nl zP K2 fun q6 c1 M2 Y2=>Aa<|Aj<|Af<|Ag I<|Aa<|Ax ?_
 obtain ⟨X5,P3,E3⟩:=aq h
 refine MX.lo (α:=Nat × U8) (fun ⟨c0,H0,I0,J0,K0,M0,P0,Q0,R0⟩=>[(2,vP V0),(6,W0),(8,vP c1),(9,vn c0)]) (fun ⟨c0,H0,I0,J0,K0,M0,P0,Q0,R0⟩=>[.cells c1 [vU H0,vU I0,vU J0,vU K0,vU M0,vU P0,vU Q0,vU R0] 46,.cells V0 zP 46]) (fun ⟨c0,H0,I0,J0,K0,M0,P0,Q0,R0⟩=>(c0,H0,I0,J0,K0,M0,P0,Q0,R0)) (0,0,0,0,0,0,0,0,0) P3 M2 ?_
 rintro W4 ⟨c0,H0,I0,J0,K0,M0,P0,Q0,R0⟩ F6 F2 Y0 M1 h
 unfold aE_l2 at h
 try dsimp only at h
 refine Aj<|Af<|Ae I<|Ae I ?_
 have A1:=Ao R3 (Tt Y2 M1)
 have M5:=AU A1
 refine Ac (Ba (xs:=U0) underlying38 I A1)<|Ac (Bp (i:=c0) (j:=U0.length) I I)<|Aa<|AQ I h (fun u2 h=>?_) (fun u2 h=>?_)
 refine Ar<|Aj<|Ax<|du 17 fun p0 x0=>Rv 0 p0 I x0 (fun _=>Ai I)<|Rv 1 p0 I x0 (fun _=>FV.quoN (i:=c0) (j:=2) I I I (by omega))<|Rv 2 p0 I x0 (fun _=>Ai I)<|Rv 3 p0 I x0 (fun _=>FV.quoN (i:=c0) (j:=2) I I I (by omega))<|bk h fun u0 b1 h=>Rv 4 p0 I x0 (fun _=>AO (m:=1) (k:=c0 / 2) (len:=8) I I I I (aU b1 I))<|Rx 5 229376 p0 I x0 (AP I ((aK (p:=⟨c1,0,none⟩) (cs:=([H0,I0,J0,K0,M0,P0,Q0,R0]:List Ua).map (fun z9:Ua=>(vU z9:Vc)) ++ []) (i:=c0 / 2) (Y0.memA .hd) (bJ (fun z9:Ua=>(vU z9:Vc)) b1)) 0 _ I))<|Rv 6 p0 I x0 (fun _=>Ai I)<|Rv 7 p0 I x0 (fun _=>Ai I)<|bk h fun g0 j4 h=>?_
 obtain ⟨R4,b5,y3,H3,B2,V3,K3⟩:=Bh A1 j4
 have z3:B2 = [vI g0]:=V3; subst z3
 refine Rv 8 p0 I x0 (fun _=>Bb 1 c0 I y3 I I H3)<|Rx 9 246784 p0 I x0 (AP I (K3 0 _ I))<|Rv 10 p0 I x0 (fun _=>FV.convU (i:=g0) underlying3 underlying44 I)<|Rv 11 p0 I x0 (fun _=>Ai I)<|Rv 12 p0 I x0 (fun _=>FV.remN (i:=c0) (j:=2) I I I)<|bk h fun C4 c4 h=>Rv 13 p0 I x0 (fun _=>FV.mulc (i:=32) (j:=((c0 % 2:Nat):Int)) I I c4)<|bk h fun s0 I3 h=>Rv 14 p0 I x0 (fun _=>FV.shlI (a:=ac g0) (i:=C4) I I I3)<|Rv 15 p0 I x0 (fun _=>FV.addU (a:=u0) (b:=shlU (ac g0) s0) I I) ?_
 have R5:=aK (p:=⟨c1,0,none⟩) (cs:=([H0,I0,J0,K0,M0,P0,Q0,R0]:List Ua).map (fun z9:Ua=>(vU z9:Vc)) ++ []) (i:=c0 / 2) (Y0.memA .hd) (bJ (fun z9:Ua=>(vU z9:Vc)) b1)
 refine Rv 16 p0 I x0 (fun _=>AO (m:=1) (k:=c0 / 2) (len:=8) I I I I (aU b1 I))<|BG 17 262143 p0 I I .plain (Acts.storeArr (fun z9:Ua=>(vU z9:Vc)) (xs:=([H0,I0,J0,K0,M0,P0,Q0,R0]:List Ua)) (pre:=[]) (post:=[]) (i:=c0 / 2) (m:=8) (x:=u0 + (shlU (ac g0) s0)) (old:=[vU H0,vU I0,vU J0,vU K0,vU M0,vU P0,vU Q0,vU R0]) (new' :=[vW ((ax (c0 / 2) 0 (u0 + (shlU (ac g0) s0)) H0).toNat:Int),vW ((ax (c0 / 2) 1 (u0 + (shlU (ac g0) s0)) I0).toNat:Int),vW ((ax (c0 / 2) 2 (u0 + (shlU (ac g0) s0)) J0).toNat:Int),vW ((ax (c0 / 2) 3 (u0 + (shlU (ac g0) s0)) K0).toNat:Int),vW ((ax (c0 / 2) 4 (u0 + (shlU (ac g0) s0)) M0).toNat:Int),vW ((ax (c0 / 2) 5 (u0 + (shlU (ac g0) s0)) P0).toNat:Int),vW ((ax (c0 / 2) 6 (u0 + (shlU (ac g0) s0)) Q0).toNat:Int),vW ((ax (c0 / 2) 7 (u0 + (shlU (ac g0) s0)) R0).toNat:Int)]) I I (aU b1 I) Y0 .hd I (eO _ _ _) I I (fun _=>⟨I,I⟩) I I) fun s6 P2 Z2=>AN (dk p0)<|AC<|Ap<|Ae I<|Ac (Bl (i:=c0) (j:=1) I I (by omega))<|Ag I<|Aa<|F2 (c0 + 1,ax (c0 / 2) 0 (u0 + (shlU (ac g0) s0)) H0,ax (c0 / 2) 1 (u0 + (shlU (ac g0) s0)) I0,ax (c0 / 2) 2 (u0 + (shlU (ac g0) s0)) J0,ax (c0 / 2) 3 (u0 + (shlU (ac g0) s0)) K0,ax (c0 / 2) 4 (u0 + (shlU (ac g0) s0)) M0,ax (c0 / 2) 5 (u0 + (shlU (ac g0) s0)) P0,ax (c0 / 2) 6 (u0 + (shlU (ac g0) s0)) Q0,ax (c0 / 2) 7 (u0 + (shlU (ac g0) s0)) R0) P2 (Tt M1 Z2) h
 refine AX I ?_
 have h:=E3 _ h
 try dsimp only at h
 refine Af<|Ac (AH I (Y0.memA .hd))<|AV [vU H0,vU I0,vU J0,vU K0,vU M0,vU P0,vU Q0,vU R0] Y0 .t1 (ai I) fun t6 H1 D5=>Ag I<|Aa<|Am I<|Au hb0 func124 I (.cons (.many (cs:=[vU H0,vU I0,vU J0,vU K0,vU M0,vU P0,vU Q0,vU R0]) I I (H1.memA .t1)) (.cons (.tmp I) .nil)) I ?_
 cases h
 exact H1.gv
 intro V4 E1 h
 try dsimp only at h
 refine MX.ifb I h (fun v2 h=>?_) (fun v2 h=>?_)
 refine Af<|bk h fun H6 s4 h=>RG.doesH .plain I (Does.mkH (α:=Int) (L:=L) s4 y0 ay I (fun _ _=>rfl)) fun D4 u6 ⟨q5,p1,b3,R1⟩=>Ag I<|Aa<|Af<|Ae I<|bk h fun I4 k4 h=>?_
 obtain ⟨g2,d5,x1,Z1,C2,W3,U5⟩:=BU (α:=Int) p1 .hd R1 k4
 obtain ⟨p2,g5,V1⟩:=By (α:=Int) p1 .hd Z1
 obtain rfl:g2 = ⟨p2,0,none⟩:=by rw [V1] at x1; cases x1; rfl
 have A3:C2 = [vI I4]:=W3; subst A3
 refine Ac (Bb 1 16 I x1 I I Z1)<|bk h fun K4 t4 h=>RG.acts' .plain (Cb (α:=Int) (i:=16) t4 p1 V1 (fun _=>.hd) R1 I I I I I I) fun v6 ⟨s5,q1,c3,s3⟩=>Aa<|Ap<|Ae I<|Ae I ?_
 have g1:=BA q1 .hd
 have d3:=BB q1 .hd
 refine bk h fun P4 y4 h=>jE (bd 166) I (e2 I I) (fun w9 hw9=>ao_c n (g1.hL hL hw9) (Aw (BC (α:=Int) (v:=D4) (xs:=K4) g1 L (Bg (α:=Int) q1 .hd s3 hL)) hw9) (g1.km h0_1 hw9) y4) I fun x6 F4 p3 ⟨Z5,hu_,X3⟩=>?_
 subst hu_
 obtain ⟨Q2,g3⟩:=g1.agr p3
 refine Ag I<|Aa ?_
 obtain ⟨R2,P1⟩:=AK Q2 (.a1 .done)
 exact E1 (P4,F4) R2 (Tt b3 (Tt c3 (Tt d3 (Tt g3 P1)))) (Ao X3 P1) h
 refine Ar ?_
 obtain ⟨I1,j3⟩:=AK y0 (.a1 .done)
 exact E1 (a0.fD,v0_1) I1 j3 (AT h0_1 I1) h
structure Th where
  fN:Tf
  fD:Tf
  deriving DecidableEq
instance:Rep Th:=Rep.via (β:=Tf × Tf) fun x=>(x.fN,x.fD)
def bp_p (n:Nat) (a0:Th):Oa (Ta × Int):=
  (aE_p n a0.fN).bind fun b0=>(aE_p n a0.fD).bind fun c0=>(if b0.2 = 0 then (if c0.2 = 0 then some ((⟨b0.1,c0.1⟩:Ta),(0:Int)) else some ((⟨(0,0,0,0,0,0,0,0),(0,0,0,0,0,0,0,0)⟩:Ta),(6:Int))) else some ((⟨(0,0,0,0,0,0,0,0),(0,0,0,0,0,0,0,0)⟩:Ta),(6:Int)))
theorem bp_c (n:Nat) {L w} (hL:hl L w) (a0:Th) {v0_1:Vc} (h0_1:Rep.R w L [v0_1] a0.fN.fD) {v0_3:Vc} (h0_3:Rep.R w L [v0_3] a0.fD.fD)  {r:Ta × Int} (h:bp_p n a0 = some r) :
 Cl 93 #[.agg #[.bool a0.fN.fe,v0_1,.bool a0.fD.fe,v0_3]] w (ae w fun _ u=>u = .tuple #[.agg ((ab r.1)).toArray,vI r.2]):=by
 unfold bp_p at h
 refine AF func93 I I I fun _ cs0 hb0=>Af<|RG.bx (AA w) I I fun R0 B0 v0 F0=>RG.nl zL v0 fun U0 C0 g0 G0=>Ag I<|Aa<|Af<|Bd 0 I<|Ac (Bk (cs:=[.bool a0.fN.fe,v0_1]) I I (ah (g0.memA .t1) 0 2))<|bk h fun b0 z0 h=>Bj (.tuple #[.agg ((ao b0.1)).toArray,vI b0.2]) (bd 124) I (e1 I) (fun w9 hw9=>aE_c n (g0.hL0 hL hw9) a0.fN (g0.k0 h0_1 hw9) z0) I<|Ae I<|Ac (Ak I I)<|Ac (Ak I I)<|RG.nl zP g0 fun V0 D0 x0 H0=>AV (ao b0.1) x0 .hd (ai I) fun W0 j0 I0=>Ag I<|Aa<|Af<|Bd 2 I<|Ac (Bk (cs:=[.bool a0.fD.fe,v0_3]) I I (ah (j0.memA .t2) 2 2))<|bk h fun c0 A0 h=>Bj (.tuple #[.agg ((ao c0.1)).toArray,vI c0.2]) (bd 124) I (e1 I) (fun w9 hw9=>aE_c n (j0.hL0 hL hw9) a0.fD (j0.k0 h0_3 hw9) A0) I<|Ae I<|Ac (Ak I I)<|Ac (Ak I I)<|RG.nl zP j0 fun X0 E0 y0 J0=>AV (ao c0.1) y0 .hd (ai I) fun Y0 d0 K0=>Ag I<|Aa<|Aj<|Af<|Ae I<|Ac (FV.neq (i:=b0.2) (j:=0) I I) ?_
 refine Ae I<|RG.ifn (s:=22) I h (fun t0 h=>?_) (fun t0 h=>?_)
 refine AG (Ai I)<|AG (FV.neq (i:=c0.2) (j:=0) I I)<|Bv I I<|Aa<|MX.ifn I h (fun u0 h=>?_) (fun u0 h=>?_)
 refine Ar<|Af<|Ac (AH I (d0.memA .t1))<|Ac (AH I (d0.memA .hd))<|Ac (AS (vs:=[.agg ((ao b0.1)).toArray,.agg ((ao c0.1)).toArray]) (u:=.agg ((ao b0.1 ++ ao c0.1)).toArray) (e2 I I) (fun w9=>by kernel_rfl))<|AV (ao b0.1 ++ ao c0.1) d0 .t2 (ai I) fun Z0 p0 M0=>Ag I<|Aa<|Am I<|Au hb0 func93 I (.cons (.many (cs:=(ao b0.1 ++ ao c0.1)) I I (p0.memA .t2)) (.cons (.tmp I) .nil)) I ?_
 cases h
 exact p0.gv
 refine Af<|Ac (AS (vs:=[]) (u:=.agg zM) ak (fun w9=>by kernel_rfl))<|AV zL d0 .t2 (ai I) fun b1 q0 P0=>Ag I<|Aa<|Am I<|Au hb0 func93 I (.cons (.many (cs:=zL) I I (q0.memA .t2)) (.cons (.tmp I) .nil)) I ?_
 cases h
 exact q0.gv
 refine Aq<|Aq<|Bn I I<|Aa<|Bq I<|Af<|Ac (AS (vs:=[]) (u:=.agg zM) ak (fun w9=>by kernel_rfl))<|AV zL d0 .t2 (ai I) fun c1 s0 Q0=>Ag I<|Aa<|Am I<|Au hb0 func93 I (.cons (.many (cs:=zL) I I (s0.memA .t2)) (.cons (.tmp I) .nil)) I ?_
 cases h
 exact s0.gv
def bj_l1 (_n:Nat) (a0:List Int) (j0:Int × Nat × (List Int) -> Oa ((List Int) × Int)):Int × Nat × (List Int) -> Oa ((List Int) × Int)
  | (g0,b0,d0)=>(if b0 < a0.length then (a0[b0]?).bind fun s0=>(chk (2 * s0)).bind fun k0=>(chk (k0 + g0)).bind fun c0=>(ca c0 4294967296).bind fun p0=>(app d0 ([p0]:List Int)).bind fun t0=>(cj c0 4294967296).bind fun q0=>j0 (q0,b0 + 1,t0) else some (d0,g0))
def bj_p (n:Nat) (a0:List Int) (a1:Int):Oa (List Int):=
  Option.bind (aj (bj_l1 n a0) n (a1,0,([]:List Int))) (fun (c0,g0)=>(app c0 ([g0]:List Int)).bind fun b0=>(az_p n b0).bind fun d0=>some d0)
theorem bj_c (n:Nat) {L w} (hL:hl L w) {a0:List Int} {v0_0:Vc} (h0_0:Rep.R w L [v0_0] a0) {a1:Int}  {r:List Int} (h:bj_p n a0 a1 = some r) :
 Cl 197 #[v0_0,vI a1] w (ae w fun w' u=>∃ v0_0:Vc,u = v0_0/\Rep.R w' L [v0_0] r):=by
 unfold bj_p at h
 have hS0:=AA w
 refine AF func197 I I I fun _ cs0 hb0=>Af<|Ag I<|Aa<|Af<|Ag I<|Aa<|Aj<|Af<|Ag I<|Aa<|Ax ?_
 have x0:=hS0.nilRow 3 (Rep.size Int)
 have P1:=BW hS0 3 (Rep.size Int)
 obtain ⟨W1,c1,Y0⟩:=aq h
 refine MX.lf (α:=Int × Nat × (List Int) × Vc × (List Vc)) (fun ⟨b0,c0,d0,k0,g0⟩=>[(0,v0_0),(1,vI b0),(5,k0),(6,vn c0)]) (fun ⟨b0,c0,d0,k0,g0⟩=>[rr w 3 Int k0 d0.length g0]) (fun ⟨b0,c0,d0,k0,g0⟩ D0=>Cells D0 (bl [rr w 3 Int k0 d0.length g0] ++ L) g0 d0) (fun ⟨b0,c0,d0,k0,g0⟩=>(b0,c0,d0)) (a1,0,([]:List Int),vN,[]) c1 x0 (AD (cs:=[]) (xs:=([]:List Int)) x0 L (AJ _ _)) ?_
 rintro H1 ⟨b0,c0,d0,k0,g0⟩ D0 I0 u0 Q0 B0 h
 unfold bj_l1 at h
 try dsimp only at h
 refine Aj<|Af<|Ae I<|Ae I ?_
 have v0:=AT h0_0 u0
 have V1:=AU v0
 refine Ac (Ba (xs:=a0) underlying38 I v0)<|Ac (Bp (i:=c0) (j:=a0.length) I I)<|Aa<|AQ I h (fun F0 h=>?_) (fun F0 h=>?_)
 refine Ar<|Aj<|Ax<|Af<|Ae I<|Ae I<|bk h fun E0 u1 h=>?_
 obtain ⟨G1,K1,W0,Z0,G0,g1,b1⟩:=Bh v0 u1
 have X0:G0 = [vI E0]:=g1; subst X0
 refine Ac (Bb 1 c0 I W0 I I Z0)<|AR I (b1 0 _ I)<|bk h fun z1 k1 h=>Ac (FV.mulc (i:=2) (j:=E0) I I k1)<|Ae I<|bk h fun C0 p1 h=>Ac (Bw (i:=z1) (j:=b0) I I p1)<|Ag I<|Aa<|Af<|Ae I<|Ae I<|bk h fun j0 q1 h=>Ac (FV.remc (i:=C0) (j:=4294967296) I I q1)<|Al .plain I (jA j0 (vI j0) u0 ay (e1 I)) fun Y1 I1 p0 z0=>bk h fun E1 v1 h=>RG.doesL .plain I (Bf (α:=Int) (ys:=([j0]:List Int)) v1 p0 (fun _ _=>.t1) ay I I (AB B0 z0) (Src.row (α:=Int) p0 .hd (jC j0 (vI j0) p0 L I))) fun B1 Z1 ⟨H0,J0,M0,U0⟩=>Ag I<|Aa<|Ap<|Ae I<|bk h fun A1 s1 h=>Ac (FV.quoc (i:=C0) (j:=4294967296) I I s1)<|Ag I<|Aa<|AC<|Ap<|Ae I<|Ac (Bl (i:=c0) (j:=1) I I (by omega))<|Ag I<|Aa ?_
 obtain ⟨K0,A0⟩:=AK J0 .d1
 exact I0 (A1,c0 + 1,E1,B1,H0) K0 (Tt Q0 (Tt z0 (Tt M0 A0))) (AB U0 A0) h
 refine AX I ?_
 have h:=Y0 _ h
 try dsimp only at h
 refine Af<|Ae I<|Ae I<|Al .plain I (jA b0 (vI b0) u0 ay (e1 I)) fun b2 J1 q0 P0=>bk h fun F1 x1 h=>RG.doesL .plain I (Bf (α:=Int) (ys:=([b0]:List Int)) x1 q0 (fun _ _=>.t1) ay I I (AB B0 P0) (Src.row (α:=Int) q0 .hd (jC b0 (vI b0) q0 L I))) fun C1 c2 ⟨M1,s0,Q1,V0⟩=>?_
 have t0:=BA s0 .t1
 have R1:=BB s0 .t1
 refine bk h fun g2 y1 h=>jE (bd 178) I (e1 I) (fun w9 hw9=>az_c n (t0.hL hL hw9) (Aw (BC (α:=Int) (v:=C1) (xs:=F1) t0 L (Bg (α:=Int) s0 .t1 V0 hL)) hw9) y1) I fun d2 D1 R0 ⟨X1,hu_,j1⟩=>?_
 subst hu_
 obtain ⟨y0,U1⟩:=t0.agr R0
 refine Ag I<|Aa<|Am I<|AW hb0 func197 I I ?_
 cases h
 exact ⟨y0.ag,fun w9 hw9=>⟨D1,I,y0.kd j1 hw9⟩⟩
def aA_l1 (n:Nat) (a0:List Int) (g0:Int) (a1:List Int) (p0:(List Int) × Int × (List Int) -> Oa ((List Int) × (List Int))):(List Int) × Int × (List Int) -> Oa ((List Int) × (List Int))
  | (k0,c0,b0)=>(if 0 <= c0 then (idx a0 g0).bind fun x0=>(bG c0).bind fun q0=>(ca (shrS x0 q0) 2).bind fun t0=>(bj_p n k0 t0).bind fun d0=>(aJ_p n d0 a1).bind fun C0=>jn (fun (z0,A0)=>(chk (c0 - 1)).bind fun u0=>p0 (z0,u0,A0)) (fun j0=>(if 0 <= C0 then (ao_p n d0 a1).bind fun D0=>(idx b0 g0).bind fun y0=>(bG c0).bind fun s0=>(chk (y0 + (shlS 1 s0))).bind fun v0=>(put b0 ((g0.toNat:Nat):Int) v0).bind fun B0=>j0 (D0,B0) else j0 (d0,b0))) else some (k0,b0))
def aA_l2 (n:Nat) (a0:List Int) (a1:List Int) (g0:(List Int) × Int × (List Int) -> Oa ((List Int) × (List Int))):(List Int) × Int × (List Int) -> Oa ((List Int) × (List Int))
  | (c0,b0,d0)=>(if 0 <= b0 then Option.bind (aj (aA_l1 n a0 b0 a1) n (c0,31,d0)) (fun (k0,p0)=>(chk (b0 - 1)).bind fun j0=>g0 (k0,j0,p0)) else some (d0,c0))
def aA_p (n:Nat) (a0:List Int) (a1:List Int):Oa ((List Int) × (List Int)):=
  (if ((a0.length:Nat):Int) <= (((a1.length:Nat):Int) - 1) then (app ([]:List Int) a0).bind fun g0=>some (([]:List Int),g0) else (mk (((a0.length:Nat):Int) - (((a1.length:Nat):Int) - 1)) (0:Int)).bind fun b0=>(cut a0 (((a0.length:Nat):Int) - (((a1.length:Nat):Int) - 1)) (a0.length:Int)).bind fun j0=>(app ([]:List Int) j0).bind fun k0=>Option.bind (aj (aA_l2 n a0 a1) n (k0,((b0.length:Nat):Int) - 1,b0)) (fun (d0,c0)=>(az_p n d0).bind fun p0=>some (p0,c0)))
theorem aA_c (n:Nat) {L w} (hL:hl L w) {a0:List Int} {v0_0:Vc} (h0_0:Rep.R w L [v0_0] a0) {a1:List Int} {v1_0:Vc} (h1_0:Rep.R w L [v1_0] a1)  {r:(List Int) × (List Int)} (h:aA_p n a0 a1 = some r) :
 Cl 179 #[v0_0,v1_0] w (ae w fun w' u=>∃ v0_0 v1_0:Vc,u = .tuple #[v0_0,v1_0]/\Rep.R w' L [v0_0] r.1/\Rep.R w' L [v1_0] r.2):=by
 unfold aA_p at h
 have hS0:=AA w
 refine AF func179 I I I fun _ cs0 hb0=>Af<|Ag I<|Ag I<|Aa<|Af<|Ae I ?_
 have hl1:=AU h1_0
 refine Ac (Ba (xs:=a1) underlying38 I h1_0)<|Ac (FV.subI (i:=((a1.length:Nat):Int)) (j:=1) I I (by omega))<|Ag I<|Aa<|Aj<|Af<|Ae I ?_
 have hl2:=AU h0_0
 refine Ac (Ba (xs:=a0) underlying38 I h0_0)<|Ae I<|Ac (FV.leq (i:=((a0.length:Nat):Int)) (j:=((a1.length:Nat):Int) - 1) I I)<|Aa<|AQ I h (fun c3 h=>?_) (fun c3 h=>?_)
 refine Af<|Al .plain I (jB Int hS0 ay) fun C4 V3 M0 g4=>Ae I<|bk h fun G3 p3 h=>RG.doesL .plain I (Bf (α:=Int) (ys:=a0) p3 M0 (fun _ _=>.hd) ay I I (jD Int M0 L) (Ca (AT h0_0 M0))) fun D1 H4 ⟨c4,J0,j4,u2⟩=>Ag I<|Ag I<|Aa<|Am I ?_
 have s4:=Rep.nilAt (α:=Int) J0 L
 have E0:=BA J0 .hd
 have k4:=BB J0 .hd
 have V2:=BC (α:=Int) (v:=D1) (xs:=G3) E0 L (Bg (α:=Int) J0 .hd u2 hL)
 refine Au hb0 func179 I (.cons (.tmp I) (.cons (.tmp I) .nil)) I ?_
 cases h
 exact ⟨E0.ag,fun w9 hw9=>⟨vN,D1,I,E0.kd (Rep.nilAt (α:=Int) E0 L) hw9,E0.kd V2 hw9⟩⟩
 refine Ar<|Af<|Ae I<|Ac (Ba (xs:=a0) underlying38 I h0_0)<|Ae I<|Ac (FV.subI (i:=((a0.length:Nat):Int)) (j:=((a1.length:Nat):Int) - 1) I I (by omega))<|bk h fun G0 C1 h=>Al .plain I (Does.mk (α:=Int) C1 hS0 ay I) fun I4 c0 j1 p4=>Ag I<|Aa<|Af<|Al .plain I (jB Int j1 ay) fun J4 W3 U0 g2=>Ae I<|Ae I ?_
 have z1:=AT h0_0 U0
 refine Ac (Ba (xs:=a0) underlying38 I z1)<|Ae I<|Ac (FV.subI (i:=((a0.length:Nat):Int)) (j:=((a1.length:Nat):Int) - 1) I I (by omega))<|bk h fun I3 s3 h=>RG.valE .plain I (FV.cutL (α:=Int) s3 I I z1 ⟨_,I⟩ I) fun B4 W2=>bk h fun G1 t3 h=>RG.doesL .plain I (Bf (α:=Int) (ys:=I3) t3 U0 (fun _ _=>.hd) ay I I (jD Int U0 L) (Ca W2)) fun E1 K4 ⟨d4,F0,j2,v2⟩=>Ag I<|Aa<|Aj<|Af<|Ae I ?_
 have q4:G0.length <= 4294967296:=St.rowLe (α:=Int) F0 .t1
 obtain ⟨P3,b4,A2⟩:=St.rowV (α:=Int) F0 .t1
 refine Ac (FV.lenV underlying38 I A2)<|Ac (FV.subI (i:=((G0.length:Nat):Int)) (j:=1) I I (by omega))<|Ag I<|Aa<|Ax ?_
 have k1:=BA F0 .hd
 obtain ⟨t4,J2,B2⟩:=aq h
 refine MX.lf (α:=(List Int) × Int × (List Int) × Vc × (List Vc)) (fun ⟨B0,b0,g0,y0,u0⟩=>[(0,v0_0),(1,v1_0),(7,(.slice (some ⟨c0,0,none⟩) (((a0.length:Nat):Int) - (((a1.length:Nat):Int) - 1)).toNat (((a0.length:Nat):Int) - (((a1.length:Nat):Int) - 1)).toNat)),(8,y0),(9,vI b0)]) (fun ⟨B0,b0,g0,y0,u0⟩=>[rr w 3 Int (.slice (some ⟨c0,0,none⟩) (((a0.length:Nat):Int) - (((a1.length:Nat):Int) - 1)).toNat (((a0.length:Nat):Int) - (((a1.length:Nat):Int) - 1)).toNat) g0.length u0]) (fun ⟨B0,b0,g0,y0,u0⟩ Z0=>Rep.R Z0 (bl [rr w 3 Int (.slice (some ⟨c0,0,none⟩) (((a0.length:Nat):Int) - (((a1.length:Nat):Int) - 1)).toNat (((a0.length:Nat):Int) - (((a1.length:Nat):Int) - 1)).toNat) g0.length u0] ++ L) [y0] B0/\Cells Z0 (bl [rr w 3 Int (.slice (some ⟨c0,0,none⟩) (((a0.length:Nat):Int) - (((a1.length:Nat):Int) - 1)).toNat (((a0.length:Nat):Int) - (((a1.length:Nat):Int) - 1)).toNat) g0.length u0] ++ L) u0 g0) (fun ⟨B0,b0,g0,y0,u0⟩=>(B0,b0,g0)) (G1,((G0.length:Nat):Int) - 1,G0,E1,(List.replicate (((a0.length:Nat):Int) - (((a1.length:Nat):Int) - 1)).toNat [vI 0]).flatten) J2 k1 ⟨(BC (α:=Int) (v:=E1) (xs:=G1) k1 L (Bg (α:=Int) F0 .hd v2 hL)),(AB (AD (cs:=(List.replicate (((a0.length:Nat):Int) - (((a1.length:Nat):Int) - 1)).toNat [vI 0]).flatten) (xs:=G0) j1 L (BY C1 I)) (Tt g2 (Tt j2 (BB F0 .hd))))⟩ ?_
 rintro Q3 ⟨B0,b0,g0,y0,u0⟩ Z0 V1 H0 Z1 ⟨A1,u1⟩ h
 unfold aA_l2 at h
 try dsimp only at h
 refine Aj<|Af<|Ae I<|Ac (FV.geq (i:=b0) (j:=0) I I)<|Aa<|AQ I h (fun K1 h=>?_) (fun K1 h=>?_)
 refine Ar<|Aj<|Ax<|Af<|Ag I<|Aa<|Ax ?_
 obtain ⟨u4,K2,C2⟩:=aq h
 refine MX.lf (α:=(List Int) × Int × (List Int) × Vc × (List Vc)) (fun ⟨C0,p0,j0,z0,q0⟩=>[(0,v0_0),(1,v1_0),(7,(.slice (some ⟨c0,0,none⟩) (((a0.length:Nat):Int) - (((a1.length:Nat):Int) - 1)).toNat (((a0.length:Nat):Int) - (((a1.length:Nat):Int) - 1)).toNat)),(8,z0),(9,vI b0),(10,vI p0)]) (fun ⟨C0,p0,j0,z0,q0⟩=>[rr w 3 Int (.slice (some ⟨c0,0,none⟩) (((a0.length:Nat):Int) - (((a1.length:Nat):Int) - 1)).toNat (((a0.length:Nat):Int) - (((a1.length:Nat):Int) - 1)).toNat) j0.length q0]) (fun ⟨C0,p0,j0,z0,q0⟩ b1=>Rep.R b1 (bl [rr w 3 Int (.slice (some ⟨c0,0,none⟩) (((a0.length:Nat):Int) - (((a1.length:Nat):Int) - 1)).toNat (((a0.length:Nat):Int) - (((a1.length:Nat):Int) - 1)).toNat) j0.length q0] ++ L) [z0] C0/\Cells b1 (bl [rr w 3 Int (.slice (some ⟨c0,0,none⟩) (((a0.length:Nat):Int) - (((a1.length:Nat):Int) - 1)).toNat (((a0.length:Nat):Int) - (((a1.length:Nat):Int) - 1)).toNat) j0.length q0] ++ L) q0 j0) (fun ⟨C0,p0,j0,z0,q0⟩=>(C0,p0,j0)) (B0,31,g0,y0,u0) K2 H0 ⟨A1,u1⟩ ?_
 rintro R3 ⟨C0,p0,j0,z0,q0⟩ b1 W1 I0 p1 ⟨B1,W0⟩ h
 unfold aA_l1 at h
 try dsimp only at h
 refine Aj<|Af<|Ae I<|Ac (FV.geq (i:=p0) (j:=0) I I)<|Aa<|AQ I h (fun M1 h=>?_) (fun M1 h=>?_)
 refine Ar<|Aj<|Ax<|Af<|Ae I<|Ae I<|Ae I<|bk h fun d1 d3 h=>?_
 obtain ⟨D2,g3⟩:=aA d3
 obtain ⟨M3,X3,x2,E2,Q1,M2,H2⟩:=Bh (AT h0_0 I0) g3
 have y2:Q1 = [vI d1]:=M2; subst y2
 refine Ac (Bb 1 (b0.toNat) I x2 I D2 E2)<|AR I (H2 0 _ I)<|Ae I<|bk h fun z3 F2 h=>Ac (FV.shrSI (i:=d1) (q:=p0) I I F2)<|bk h fun v4 X2 h=>Ac (FV.remc (i:=shrS d1 z3) (j:=2) I I X2)<|bk h fun J3 u3 h=>jE (bd 197) I (e2 I I) (fun w9 hw9=>bj_c n (I0.hL hL hw9) (Aw B1 hw9) u3) I fun D4 D3 k2 ⟨y4,hu_,Y0⟩=>?_
 subst hu_
 obtain ⟨x0,V0⟩:=I0.agr k2
 refine Ag I<|Aa<|Af<|Ae I<|Ae I<|bk h fun H1 v3 h=>Bj (vI H1) (bd 165) I (e2 I I) (fun w9 hw9=>aJ_c n (x0.hL0 hL hw9) (x0.kd Y0 hw9) (x0.k0 h1_0 hw9) v3) I<|Ac (FV.geq (i:=H1) (j:=0) I I)<|Aa<|MX.jf (α:=(List Int) × (List Int) × Vc × (List Vc)) (fun ⟨D0,t0,A0,v0⟩=>[(0,v0_0),(1,v1_0),(7,(.slice (some ⟨c0,0,none⟩) (((a0.length:Nat):Int) - (((a1.length:Nat):Int) - 1)).toNat (((a0.length:Nat):Int) - (((a1.length:Nat):Int) - 1)).toNat)),(8,A0),(9,vI b0),(10,vI p0)]) (fun ⟨D0,t0,A0,v0⟩=>[rr w 3 Int (.slice (some ⟨c0,0,none⟩) (((a0.length:Nat):Int) - (((a1.length:Nat):Int) - 1)).toNat (((a0.length:Nat):Int) - (((a1.length:Nat):Int) - 1)).toNat) t0.length v0]) (fun ⟨D0,t0,A0,v0⟩ c1=>Rep.R c1 (bl [rr w 3 Int (.slice (some ⟨c0,0,none⟩) (((a0.length:Nat):Int) - (((a1.length:Nat):Int) - 1)).toNat (((a0.length:Nat):Int) - (((a1.length:Nat):Int) - 1)).toNat) t0.length v0] ++ L) [A0] D0/\Cells c1 (bl [rr w 3 Int (.slice (some ⟨c0,0,none⟩) (((a0.length:Nat):Int) - (((a1.length:Nat):Int) - 1)).toNat (((a0.length:Nat):Int) - (((a1.length:Nat):Int) - 1)).toNat) t0.length v0] ++ L) v0 t0) (fun ⟨D0,t0,A0,v0⟩=>(D0,t0)) x0 h ?_ ?_
 rintro ⟨D0,t0,A0,v0⟩ c1 X1 b2 ⟨P2,s2⟩ h
 try dsimp only at h
 refine AC<|Ap<|Ae I<|bk h fun B3 Y2 h=>Ac (BQ (i:=p0) (j:=1) I I Y2)<|Ag I<|Aa<|W1 (D0,B3,t0,A0,v0) X1 (Tt p1 (Tt V0 b2)) ⟨P2,s2⟩ h
 intro U3 g1 h
 try dsimp only at h
 refine AQ I h (fun P1 h=>?_) (fun P1 h=>?_)
 refine Af<|Ae I<|Ae I<|bk h fun K3 x3 h=>jE (bd 166) I (e2 I I) (fun w9 hw9=>ao_c n (x0.hL hL hw9) (Aw Y0 hw9) (x0.km h1_0 hw9) x3) I fun E4 E3 p2 ⟨z4,hu_,Q2⟩=>?_
 subst hu_
 obtain ⟨P0,q1⟩:=x0.agr p2
 refine Ag I<|Aa<|du 10 fun d0 s0=>Rv 0 d0 I s0 (fun _=>Ai I)<|Rv 1 d0 I s0 (fun _=>Ai I)<|Rv 2 d0 I s0 (fun _=>Ai I)<|Rv 3 d0 I s0 (fun _=>Ai I)<|bk h fun F1 j3 h=>?_
 obtain ⟨x1,k3⟩:=aA j3
 have y1:=AB W0 (Tt V0 q1)
 obtain ⟨I1,Y3,K0,X0,R1,R2,I2⟩:=BU (α:=Int) P0 .hd y1 k3
 obtain ⟨J1,Z3,v1⟩:=By (α:=Int) P0 .hd X0
 obtain rfl:I1 = ⟨J1,0,none⟩:=by rw [v1] at K0; cases K0; rfl
 have z2:R1 = [vI F1]:=R2; subst z2
 refine Rv 4 d0 I s0 (fun _=>Bb 1 (b0.toNat) I K0 I x1 X0)<|Rx 5 1792 d0 I s0 (AP I (I2 0 _ I))<|Rv 6 d0 I s0 (fun _=>Ai I)<|bk h fun A3 G2 h=>Rv 7 d0 I s0 (fun _=>FV.shlSI (i:=1) (q:=p0) I I G2)<|bk h fun x4 Z2 h=>Rv 8 d0 I s0 (fun _=>Bw (i:=F1) (j:=shlS 1 A3) I I Z2)<|Rv 9 d0 I s0 (fun _=>Bb 1 (b0.toNat) I K0 I x1 X0)<|bk h fun H3 q3 h=>BM (i:=10) (rk d0) (RO.acts (m' :=2047) (sk d0) I I .plain (Cb (α:=Int) (i:=b0.toNat) q3 P0 v1 (fun _=>.hd) y1 I I I I I I) (fun F4 ⟨U1,Y1,s1,t2⟩=>?_))
 refine AN (dk d0)<|g1 (K3,H3,E3,U1) Y1 (Tt q1 s1) ⟨(Ao Q2 s1),t2⟩ h
 refine Ar<|g1 (J3,j0,D3,q0) x0 (Bx _ _) ⟨Y0,(AB W0 V0)⟩ h
 refine AX I ?_
 have h:=C2 _ h
 try dsimp only at h
 refine AC<|Ap<|Ae I<|bk h fun C3 b3 h=>Ac (BQ (i:=b0) (j:=1) I I b3)<|Ag I<|Aa<|V1 (C0,C3,j0,z0,q0) I0 (Tt Z1 p1) ⟨B1,W0⟩ h
 refine AX I ?_
 have h:=B2 _ h
 try dsimp only at h
 refine Af<|Ae I ?_
 have Q0:=BA H0 .hd
 have c2:=BB H0 .hd
 refine bk h fun M4 y3 h=>jE (bd 178) I (e1 I) (fun w9 hw9=>az_c n (Q0.hL hL hw9) (Aw (BC (α:=Int) (v:=(.slice (some ⟨c0,0,none⟩) (((a0.length:Nat):Int) - (((a1.length:Nat):Int) - 1)).toNat (((a0.length:Nat):Int) - (((a1.length:Nat):Int) - 1)).toNat)) (xs:=g0) Q0 L (Bg (α:=Int) H0 .hd u1 hL)) hw9) y3) I fun G4 F3 q2 ⟨A4,hu_,U2⟩=>?_
 subst hu_
 obtain ⟨R0,d2⟩:=Q0.agr q2
 refine Ae I<|Ag I<|Ag I<|Aa<|Am I<|Au hb0 func179 I (.cons (.tmp I) (.cons (.tmp I) .nil)) I ?_
 cases h
 exact ⟨R0.ag,fun w9 hw9=>⟨F3,y0,I,R0.kd U2 hw9,R0.kd (Ao A1 (Tt c2 d2)) hw9⟩⟩
def aM_l1 (n:Nat) (d0:(List Int) × (List Int) -> Oa (List Int)):(List Int) × (List Int) -> Oa (List Int)
  | (c0,b0)=>(if 0 < b0.length then (aA_p n c0 b0).bind fun g0=>d0 (b0,g0.2) else some c0)
def aM_p (n:Nat) (a0:Tf) (a1:Tf):Oa Tf:=
  Option.bind (aj (aM_l1 n) n (a0.fD,a1.fD)) (fun b0=>some (⟨false,b0⟩:Tf))
theorem aM_c (n:Nat) {L w} (hL:hl L w) (a0:Tf) {v0_1:Vc} (h0_1:Rep.R w L [v0_1] a0.fD) (a1:Tf) {v1_1:Vc} (h1_1:Rep.R w L [v1_1] a1.fD)  {r:Tf} (h:aM_p n a0 a1 = some r) :
 Cl 144 #[.agg #[.bool a0.fe,v0_1],.agg #[.bool a1.fe,v1_1]] w (ae w fun w' u=>∃ v0_1:Vc,u = .agg #[.bool r.fe,v0_1]/\Rep.R w' L [v0_1] r.fD):=by
 unfold aM_p at h
 refine AF func144 I I I fun _ cs0 hb0=>Af<|RG.bx (AA w) I I fun s1 W0 C0 Z0=>RG.bx C0 I I fun u1 X0 D0 b1=>RG.nl [.bool false,vN] D0 fun v1 p0 t0 c1=>Aa<|Aj<|du 6 fun d0 j0=>Rv 0 d0 I j0 (fun _=>Bi 1 I)<|Rx 1 48 d0 I j0 (AP I ((t0.memA .t2) 1 _ I))<|Rv 2 d0 I j0 (fun _=>Bi 1 I)<|Rx 3 32 d0 I j0 (AP I ((t0.memA .t1) 1 _ I))<|Rv 4 d0 I j0 (fun _=>Be I)<|Rv 5 d0 I j0 (fun _=>Be I)<|AN (dk d0)<|Aj<|Ax ?_
 obtain ⟨u0,d1⟩:=AK t0 (.a0 .done)
 obtain ⟨k1,J0,I0⟩:=aq h
 refine MX.lf (α:=(List Int) × (List Int) × Vc × Vc) (fun ⟨k0,c0,b0,g0⟩=>[(4,vP p0),(5,b0),(6,g0)]) (fun ⟨k0,c0,b0,g0⟩=>[.cells p0 [.bool false,vN] 143]) (fun ⟨k0,c0,b0,g0⟩ y0=>Rep.R y0 (bl [.cells p0 [.bool false,vN] 143] ++ L) [b0] k0/\Rep.R y0 (bl [.cells p0 [.bool false,vN] 143] ++ L) [g0] c0) (fun ⟨k0,c0,b0,g0⟩=>(k0,c0)) (a0.fD,a1.fD,v0_1,v1_1) J0 u0 ⟨(AT h0_1 u0),(AT h1_1 u0)⟩ ?_
 rintro V0 ⟨k0,c0,b0,g0⟩ y0 B0 v0 F0 ⟨q0,s0⟩ h
 unfold aM_l1 at h
 try dsimp only at h
 refine Aj<|Af<|Ae I ?_
 have g1:=AU s0
 refine Ac (Ba (xs:=c0) underlying38 I s0)<|Ac (FV.gtrN (i:=c0.length) (j:=0) I I)<|Aa<|AQ I h (fun A0 h=>?_) (fun A0 h=>?_)
 refine Ar<|Ax<|Af<|Ae I<|Ae I<|bk h fun R0 P0 h=>jE (bd 179) I (e2 I I) (fun w9 hw9=>aA_c n (v0.hL hL hw9) (Aw q0 hw9) (Aw s0 hw9) P0) I fun x1 q1 H0 ⟨p1,Q0,hu_,j1,K0⟩=>?_
 subst hu_
 obtain ⟨E0,z0⟩:=v0.agr H0
 refine Ae I<|Ac (Ak I I)<|Ac (Ak I I)<|Ag I<|Ag I<|Aa<|Ap<|Ae I<|Ae I<|Ag I<|Ag I<|Aa<|AC<|B0 (c0,R0.2,g0,Q0) E0 (Tt F0 z0) ⟨(Ao s0 z0),K0⟩ h
 refine AX I ?_
 have h:=I0 _ h
 try dsimp only at h
 refine Af<|Ae I ?_
 obtain ⟨U0,Y0,M0,_⟩:=BR q0
 refine Ac (AS (vs:=[b0]) (u:=.agg #[.bool false,b0]) (e1 I) (fun w9=>by rw [M0]; try kernel_rfl))<|AV [.bool false,b0] v0 .hd (o2 I (AY q0)) fun y1 x0 G0=>Aa<|Am I<|Au hb0 func144 I (.cons (.many (cs:=[.bool false,b0]) I I (x0.memA .hd)) .nil) I ?_
 cases h
 exact ⟨x0.ag,fun w9 hw9=>⟨b0,I,x0.kd (Ao q0 G0) hw9⟩⟩
def aa_p (n:Nat) (a0:Bool) (a1:List Int):Oa Tf:=
  (az_p n a1).bind fun b0=>(if a0 = true then some (⟨(decide (0 < b0.length)),b0⟩:Tf) else some (⟨false,b0⟩:Tf))
theorem aa_c (n:Nat) {L w} (hL:hl L w) {a0:Bool} {a1:List Int} {v1_0:Vc} (h1_0:Rep.R w L [v1_0] a1)  {r:Tf} (h:aa_p n a0 a1 = some r) :
 Cl 169 #[.bool a0,v1_0] w (ae w fun w' u=>∃ v0_1:Vc,u = .agg #[.bool r.fe,v0_1]/\Rep.R w' L [v0_1] r.fD):=by
 unfold aa_p at h
 refine AF func169 I I I fun _ cs0 hb0=>Af<|RG.nl [.bool false,vN] (AA w) fun I0 B0 g0 E0=>Aa<|Af<|Ae I<|bk h fun d0 y0 h=>jE (bd 178) I (e1 I) (fun w9 hw9=>az_c n (g0.hL hL hw9) (g0.km h1_0 hw9) y0) I fun J0 b0 u0 ⟨H0,hu_,c0⟩=>?_
 subst hu_
 obtain ⟨p0,F0⟩:=g0.agr u0
 refine Ag I<|Aa<|Af<|Ae I<|Ae I<|RG.ifb (s:=8) I h (fun q0 h=>?_) (fun q0 h=>?_)
 refine AG (Ai I) ?_
 have G0:=AU c0
 refine AG (Ba (xs:=d0) underlying38 I c0)<|AG (FV.gtrN (i:=d0.length) (j:=0) I I)<|Bn I I<|Ae I ?_
 obtain ⟨z0,C0,v0,_⟩:=BR c0
 refine Ac (AS (vs:=[.bool (decide (0 < d0.length)),b0]) (u:=.agg #[.bool (decide (0 < d0.length)),b0]) (e2 I I) (fun w9=>by rw [v0]; try kernel_rfl))<|AV [.bool (decide (0 < d0.length)),b0] p0 .hd (o2 I (AY c0)) fun K0 j0 s0=>Aa<|Am I<|Au hb0 func169 I (.cons (.many (cs:=[.bool (decide (0 < d0.length)),b0]) I I (j0.memA .hd)) .nil) I ?_
 cases h
 exact ⟨j0.ag,fun w9 hw9=>⟨b0,I,j0.kd (Ao c0 s0) hw9⟩⟩
 refine Aq<|Aq<|Aq<|Bv I I<|Ae I ?_
 obtain ⟨A0,D0,x0,_⟩:=BR c0
 refine Ac (AS (vs:=[.bool false,b0]) (u:=.agg #[.bool false,b0]) (e2 I I) (fun w9=>by rw [x0]; try kernel_rfl))<|AV [.bool false,b0] p0 .hd (o2 I (AY c0)) fun M0 k0 t0=>Aa<|Am I<|Au hb0 func169 I (.cons (.many (cs:=[.bool false,b0]) I I (k0.memA .hd)) .nil) I ?_
 cases h
 exact ⟨k0.ag,fun w9 hw9=>⟨b0,I,k0.kd (Ao c0 t0) hw9⟩⟩
def bD_p (n:Nat) (a0:Tf):Oa Tf:=
  (aa_p n (!a0.fe) a0.fD).bind fun b0=>some b0
theorem bD_c (n:Nat) {L w} (hL:hl L w) (a0:Tf) {v0_1:Vc} (h0_1:Rep.R w L [v0_1] a0.fD)  {r:Tf} (h:bD_p n a0 = some r) :
 Cl 167 #[.agg #[.bool a0.fe,v0_1]] w (ae w fun w' u=>∃ v0_1:Vc,u = .agg #[.bool r.fe,v0_1]/\Rep.R w' L [v0_1] r.fD):=by
 unfold bD_p at h
 refine AF func167 I I I fun _ cs0 hb0=>Af<|RG.bx (AA w) I I fun B0 u0 k0 x0=>RG.nl [.bool false,vN] k0 fun C0 v0 b0 y0=>Aa<|Af<|Bd 0 I<|AR I ((b0.memA .t1) 0 _ I)<|Ac (Bu I)<|Bd 1 I<|AR I ((b0.memA .t1) 1 _ I)<|bk h fun j0 t0 h=>jE (bd 169) I (e2 I I) (fun w9 hw9=>aa_c n (b0.hL hL hw9) (b0.km h0_1 hw9) t0) I fun D0 A0 s0 ⟨d0,hu_,g0⟩=>?_
 subst hu_
 obtain ⟨p0,z0⟩:=b0.agr s0
 refine AV [.bool j0.fe,d0] p0 .hd (o2 I (AY g0)) fun E0 c0 q0=>Aa<|Am I<|Au hb0 func167 I (.cons (.many (cs:=[.bool j0.fe,d0]) I I (c0.memA .hd)) .nil) I ?_
 cases h
 exact ⟨c0.ag,fun w9 hw9=>⟨d0,I,c0.kd (Ao g0 q0) hw9⟩⟩
def aX_p (n:Nat) (a0:Int):Oa Tf:=
  jn (fun u16=>(aa_p n (decide (a0 < 0)) ([aB (u16 % (4294967296:Ua)),aB (u16 / (4294967296:Ua))]:List Int)).bind fun c0=>some c0) (fun b0=>(if a0 < 0 then b0 (-(ac a0)) else b0 (ac a0)))
theorem aX_c (n:Nat) {L w} (hL:hl L w) {a0:Int}  {r:Tf} (h:aX_p n a0 = some r) :
 Cl 126 #[vI a0] w (ae w fun w' u=>∃ v0_1:Vc,u = .agg #[.bool r.fe,v0_1]/\Rep.R w' L [v0_1] r.fD):=by
 unfold aX_p at h
 refine AF func126 I I I fun _ cs0 hb0=>Af<|RG.nl [.bool false,vN] (AA w) fun I0 k0 c0 C0=>Aa<|Af<|Ae I<|Ac (BO (i:=a0) (j:=0) I I)<|Ag I<|Aa<|Af<|Ae I<|Ac (FV.convU (i:=a0) underlying3 underlying44 I)<|Ag I<|Aa<|Aj<|Af<|Ae I<|Aa<|MX.jo (α:=Ua) (fun u16=>[(2,vP k0),(3,.bool (decide (a0 < 0))),(4,vU u16)]) (fun u16=>[.cells k0 [.bool false,vN] 143]) (fun u16=>u16) c0 h ?_ ?_
 rintro u16 P0 v0 D0 h
 try dsimp only at h
 refine Af<|Ae I<|Ae I<|Ac (FV.remU (a:=u16) (b:=(4294967296:Ua)) I I (by decide))<|Ac (FV.convUI (a:=u16 % (4294967296:Ua)) underlying44 underlying3 I)<|Ae I<|Ac (FV.quoU (a:=u16) (b:=(4294967296:Ua)) I I (by decide))<|Ac (FV.convUI (a:=u16 / (4294967296:Ua)) underlying44 underlying3 I)<|Al .plain I (AL (α:=Int) (xs:=([aB (u16 % (4294967296:Ua)),aB (u16 / (4294967296:Ua))]:List Int)) (vs:=[vI (aB (u16 % (4294967296:Ua))),vI (aB (u16 / (4294967296:Ua)))]) (ds' :=[vI (aB (u16 % (4294967296:Ua))),vI (aB (u16 / (4294967296:Ua)))]) I v0 ay I (e2 I I) (by kernel_rfl) I) fun J0 t0 b0 E0=>?_
 have d0:=BA b0 .hd
 have F0:=BB b0 .hd
 refine bk h fun s0 A0 h=>jE (bd 169) I (e2 I I) (fun w9 hw9=>aa_c n (d0.hL hL hw9) (Aw (BC (α:=Int) (v:=(vS t0 2)) (xs:=([aB (u16 % (4294967296:Ua)),aB (u16 / (4294967296:Ua))]:List Int)) d0 L (Bg (α:=Int) b0 .hd (AD (cs:=[vI (aB (u16 % (4294967296:Ua))),vI (aB (u16 / (4294967296:Ua)))]) (xs:=(([aB (u16 % (4294967296:Ua)),aB (u16 / (4294967296:Ua))]:List Int):List Int)) b0 L (Av (cs:=[vI (aB (u16 % (4294967296:Ua)))]) (ds:=[vI (aB (u16 / (4294967296:Ua)))]) I (Av (cs:=[vI (aB (u16 / (4294967296:Ua)))]) (ds:=[]) I (AJ _ _)))) hL)) hw9) A0) I fun K0 H0 z0 ⟨j0,hu_,q0⟩=>?_
 subst hu_
 obtain ⟨x0,G0⟩:=d0.agr z0
 refine AV [.bool s0.fe,j0] x0 .hd (o2 I (AY q0)) fun M0 g0 y0=>Aa<|Am I<|Au hb0 func126 I (.cons (.many (cs:=[.bool s0.fe,j0]) I I (g0.memA .hd)) .nil) I ?_
 cases h
 exact ⟨g0.ag,fun w9 hw9=>⟨j0,I,g0.kd (Ao q0 y0) hw9⟩⟩
 intro B0 p0 h
 try dsimp only at h
 refine AQ I h (fun u0 h=>?_) (fun u0 h=>?_)
 refine Ap<|Ae I<|Ac (FV.negU (a:=ac a0) I)<|Ag I<|Aa<|p0 (-(ac a0)) c0 (Bx _ _) h
 refine Ar<|p0 (ac a0) c0 (Bx _ _) h
def bt_l1 (_n:Nat) (a0:List Int) (a1:List Int) (g0:Int × Int × (List Int) -> Oa (List Int)):Int × Int × (List Int) -> Oa (List Int)
  | (c0,b0,d0)=>(if b0 < ((a0.length:Nat):Int) then (idx a0 b0).bind fun C0=>(chk (c0 + C0)).bind fun k0=>jn (fun q0=>(ca q0 4294967296).bind fun s0=>(app d0 ([s0]:List Int)).bind fun F0=>(cj q0 4294967296).bind fun t0=>(chk (b0 + 1)).bind fun u0=>g0 (t0,u0,F0)) (fun j0=>(if b0 < ((a1.length:Nat):Int) then (idx a1 b0).bind fun D0=>(chk (k0 + D0)).bind fun v0=>j0 v0 else j0 k0)) else (if b0 < ((a1.length:Nat):Int) then (idx a1 b0).bind fun E0=>(chk (c0 + E0)).bind fun p0=>(ca p0 4294967296).bind fun x0=>(app d0 ([x0]:List Int)).bind fun G0=>(cj p0 4294967296).bind fun y0=>g0 (y0,b0 + 1,G0) else (if 0 < c0 then (ca c0 4294967296).bind fun z0=>(app d0 ([z0]:List Int)).bind fun H0=>(cj c0 4294967296).bind fun A0=>(chk (b0 + 1)).bind fun B0=>g0 (A0,B0,H0) else some d0)))
def bt_p (n:Nat) (a0:List Int) (a1:List Int):Oa (List Int):=
  Option.bind (aj (bt_l1 n a0 a1) n (0,0,([]:List Int))) (fun b0=>some b0)
theorem bt_c (n:Nat) {L w} (hL:hl L w) {a0:List Int} {v0_0:Vc} (h0_0:Rep.R w L [v0_0] a0) {a1:List Int} {v1_0:Vc} (h1_0:Rep.R w L [v1_0] a1)  {r:List Int} (h:bt_p n a0 a1 = some r) :
 Cl 181 #[v0_0,v1_0] w (ae w fun w' u=>∃ v0_0:Vc,u = v0_0/\Rep.R w' L [v0_0] r):=by
 unfold bt_p at h
 have hS0:=AA w
 refine AF func181 I I I fun _ cs0 hb0=>Af<|Ag I<|Aa<|Af<|Ag I<|Aa<|Af<|Ag I<|Aa<|Aj<|Af<|Ag I<|Aa<|Ax ?_
 have I0:=hS0.nilRow 3 (Rep.size Int)
 have B3:=BW hS0 3 (Rep.size Int)
 obtain ⟨G3,j2,U1⟩:=aq h
 refine MX.lf (α:=Int × Int × (List Int) × Vc × (List Vc)) (fun ⟨g0,b0,j0,d0,k0⟩=>[(0,v0_0),(1,v1_0),(5,d0),(6,vI g0),(7,vI b0)]) (fun ⟨g0,b0,j0,d0,k0⟩=>[rr w 3 Int d0 j0.length k0]) (fun ⟨g0,b0,j0,d0,k0⟩ X0=>Cells X0 (bl [rr w 3 Int d0 j0.length k0] ++ L) k0 j0) (fun ⟨g0,b0,j0,d0,k0⟩=>(g0,b0,j0)) (0,0,([]:List Int),vN,[]) j2 I0 (AD (cs:=[]) (xs:=([]:List Int)) I0 L (AJ _ _)) ?_
 rintro s3 ⟨g0,b0,j0,d0,k0⟩ X0 A0 c0 F0 y0 h
 unfold bt_l1 at h
 try dsimp only at h
 refine Aj<|Af<|Ae I<|Ae I ?_
 have u0:=AT h0_0 c0
 have D3:=AU u0
 refine Ac (Ba (xs:=a0) underlying38 I u0)<|Ac (BO (i:=b0) (j:=((a0.length:Nat):Int)) I I)<|Ae I<|BD (s:=12) I h (fun x0 h=>?_) (fun x0 h=>?_)
 refine Aq<|Aq<|Aq<|Aq<|Bn I I<|Ae I<|Aq<|Aq<|Bn I I<|Aa<|Bq I<|Ar<|Aj<|Ax<|Aj<|Af<|Ae I<|Ae I<|Ac (Ba (xs:=a0) underlying38 I u0)<|Ac (BO (i:=b0) (j:=((a0.length:Nat):Int)) I I)<|Aa<|MX.cond_kt I (decide_eq_true x0)<|Ap<|Ae I<|Ae I<|Ae I<|bk h fun Y0 F2 h=>?_
 obtain ⟨V1,G2⟩:=aA F2
 obtain ⟨k3,y3,J1,Y1,j1,k2,c2⟩:=Bh u0 G2
 have K1:j1 = [vI Y0]:=k2; subst K1
 refine Ac (Bb 1 (b0.toNat) I J1 I V1 Y1)<|AR I (c2 0 _ I)<|bk h fun V0 t2 h=>Ac (Bw (i:=g0) (j:=Y0) I I t2)<|Ag I<|Aa<|Aj<|Af<|Ae I<|Ae I ?_
 have G0:=AT h1_0 c0
 have E3:=AU G0
 refine Ac (Ba (xs:=a1) underlying38 I G0)<|Ac (BO (i:=b0) (j:=((a1.length:Nat):Int)) I I)<|Aa<|MX.jo (α:=Int) (fun t0=>[(0,v0_0),(1,v1_0),(5,d0),(6,vI t0),(7,vI b0)]) (fun t0=>[rr w 3 Int d0 j0.length k0]) (fun t0=>t0) c0 h ?_ ?_
 rintro t0 Q3 v1 J0 h
 try dsimp only at h
 refine Af<|Ae I<|Ae I<|bk h fun p0 u2 h=>Ac (FV.remc (i:=t0) (j:=4294967296) I I u2)<|Al .plain I (jA p0 (vI p0) v1 ay (e1 I)) fun H3 u3 B0 K0=>bk h fun d3 M2 h=>RG.doesL .plain I (Bf (α:=Int) (ys:=([p0]:List Int)) M2 B0 (fun _ _=>.t1) ay I I (AB y0 (Tt J0 K0)) (Src.row (α:=Int) B0 .hd (jC p0 (vI p0) B0 L I))) fun Z2 I3 ⟨k1,x1,D1,G1⟩=>Ag I<|Aa<|Ap<|Ae I<|bk h fun R2 v2 h=>Ac (FV.quoc (i:=t0) (j:=4294967296) I I v2)<|Ag I<|Aa<|AC<|Ap<|Ae I<|bk h fun U2 x2 h=>Ac (Bw (i:=b0) (j:=1) I I x2)<|Ag I<|Aa ?_
 obtain ⟨y1,M0⟩:=AK x1 .d1
 exact A0 (R2,U2,d3,Z2,k1) y1 (Tt F0 (Tt J0 (Tt K0 (Tt D1 M0)))) (AB G1 M0) h
 intro t3 H0 h
 try dsimp only at h
 refine AQ I h (fun c1 h=>?_) (fun c1 h=>?_)
 refine Ap<|Ae I<|Ae I<|Ae I<|bk h fun Z0 H2 h=>?_
 obtain ⟨W1,I2⟩:=aA H2
 obtain ⟨p3,z3,M1,Z1,p1,p2,d2⟩:=Bh G0 I2
 have P1:p1 = [vI Z0]:=p2; subst P1
 refine Ac (Bb 1 (b0.toNat) I M1 I W1 Z1)<|AR I (d2 0 _ I)<|bk h fun V2 y2 h=>Ac (Bw (i:=V0) (j:=Z0) I I y2)<|Ag I<|Aa<|H0 V2 c0 (Bx _ _) h
 refine Ar<|H0 V0 c0 (Bx _ _) h
 refine AG (Ai I)<|AG (Ai I) ?_
 have v0:=AT h1_0 c0
 have F3:=AU v0
 refine AG (Ba (xs:=a1) underlying38 I v0)<|AG (BO (i:=b0) (j:=((a1.length:Nat):Int)) I I)<|Bv I I<|Ae I<|BD (s:=18) I h (fun z0 h=>?_) (fun z0 h=>?_)
 refine Aq<|Aq<|Bn I I<|Aa<|Bq I<|Ar<|Aj<|Ax<|Aj<|Af<|Ae I<|Ae I<|Ac (Ba (xs:=a0) underlying38 I u0)<|Ac (BO (i:=b0) (j:=((a0.length:Nat):Int)) I I)<|Aa<|MX.cond_kf I (decide_eq_false x0)<|Ar<|Aj<|Af<|Ae I<|Ae I<|Ac (Ba (xs:=a1) underlying38 I v0)<|Ac (BO (i:=b0) (j:=((a1.length:Nat):Int)) I I)<|Aa<|MX.cond_kt I (decide_eq_true z0)<|Ap<|Ae I<|Ae I<|Ae I<|bk h fun b1 J2 h=>?_
 obtain ⟨X1,K2⟩:=aA J2
 obtain ⟨q3,A3,Q1,b2,q1,q2,g2⟩:=Bh v0 K2
 have R1:q1 = [vI b1]:=q2; subst R1
 refine Ac (Bb 1 (b0.toNat) I Q1 I X1 b2)<|AR I (g2 0 _ I)<|bk h fun W0 z2 h=>Ac (Bw (i:=g0) (j:=b1) I I z2)<|Ag I<|Aa<|Af<|Ae I<|Ae I<|bk h fun q0 A2 h=>Ac (FV.remc (i:=W0) (j:=4294967296) I I A2)<|Al .plain I (jA q0 (vI q0) c0 ay (e1 I)) fun J3 v3 C0 P0=>bk h fun g3 P2 h=>RG.doesL .plain I (Bf (α:=Int) (ys:=([q0]:List Int)) P2 C0 (fun _ _=>.t1) ay I I (AB y0 P0) (Src.row (α:=Int) C0 .hd (jC q0 (vI q0) C0 L I))) fun b3 K3 ⟨s1,z1,E1,H1⟩=>Ag I<|Aa<|Ap<|Ae I<|bk h fun W2 B2 h=>Ac (FV.quoc (i:=W0) (j:=4294967296) I I B2)<|Ag I<|Aa<|AC<|Ap<|Ae I<|Ac (FV.addI (i:=b0) (j:=1) I I (by omega))<|Ag I<|Aa ?_
 obtain ⟨A1,Q0⟩:=AK z1 .d1
 exact A0 (W2,b0 + 1,g3,b3,s1) A1 (Tt F0 (Tt P0 (Tt E1 Q0))) (AB H1 Q0) h
 refine AG (Ai I)<|AG (FV.gtr (i:=g0) (j:=0) I I)<|Bv I I<|Aa<|AQ I h (fun g1 h=>?_) (fun g1 h=>?_)
 refine Ar<|Aj<|Ax<|Aj<|Af<|Ae I<|Ae I<|Ac (Ba (xs:=a0) underlying38 I u0)<|Ac (BO (i:=b0) (j:=((a0.length:Nat):Int)) I I)<|Aa<|MX.cond_kf I (decide_eq_false x0)<|Ar<|Aj<|Af<|Ae I<|Ae I<|Ac (Ba (xs:=a1) underlying38 I v0)<|Ac (BO (i:=b0) (j:=((a1.length:Nat):Int)) I I)<|Aa<|MX.cond_kf I (decide_eq_false z0)<|Ar<|Af<|Ae I<|Ae I<|bk h fun s0 C2 h=>Ac (FV.remc (i:=g0) (j:=4294967296) I I C2)<|Al .plain I (jA s0 (vI s0) c0 ay (e1 I)) fun M3 x3 D0 R0=>bk h fun j3 Q2 h=>RG.doesL .plain I (Bf (α:=Int) (ys:=([s0]:List Int)) Q2 D0 (fun _ _=>.t1) ay I I (AB y0 R0) (Src.row (α:=Int) D0 .hd (jC s0 (vI s0) D0 L I))) fun c3 P3 ⟨u1,B1,F1,I1⟩=>Ag I<|Aa<|Ap<|Ae I<|bk h fun X2 D2 h=>Ac (FV.quoc (i:=g0) (j:=4294967296) I I D2)<|Ag I<|Aa<|AC<|Ap<|Ae I<|bk h fun Y2 E2 h=>Ac (Bw (i:=b0) (j:=1) I I E2)<|Ag I<|Aa ?_
 obtain ⟨C1,U0⟩:=AK B1 .d1
 exact A0 (X2,Y2,j3,c3,u1) C1 (Tt F0 (Tt R0 (Tt F1 U0))) (AB I1 U0) h
 refine AX I ?_
 have h:=U1 _ h
 try dsimp only at h
 refine Af<|Ae I<|Ag I<|Aa<|Am I ?_
 have E0:=BA c0 .hd
 have C3:=BB c0 .hd
 have s2:=BC (α:=Int) (v:=d0) (xs:=j0) E0 L (Bg (α:=Int) c0 .hd y0 hL)
 refine AW hb0 func181 I I ?_
 cases h
 exact ⟨E0.ag,fun w9 hw9=>⟨d0,I,E0.kd s2 hw9⟩⟩
def bc_p (n:Nat) (a0:Tf) (a1:Tf):Oa Tf:=
  (if (a0.fe == a1.fe) = true then (bt_p n a0.fD a1.fD).bind fun b0=>(aa_p n a0.fe b0).bind fun c0=>some c0 else (aJ_p n a0.fD a1.fD).bind fun d0=>(if 0 <= d0 then (ao_p n a0.fD a1.fD).bind fun g0=>(aa_p n a0.fe g0).bind fun j0=>some j0 else (ao_p n a1.fD a0.fD).bind fun k0=>(aa_p n a1.fe k0).bind fun p0=>some p0))
theorem bc_c (n:Nat) {L w} (hL:hl L w) (a0:Tf) {v0_1:Vc} (h0_1:Rep.R w L [v0_1] a0.fD) (a1:Tf) {v1_1:Vc} (h1_1:Rep.R w L [v1_1] a1.fD)  {r:Tf} (h:bc_p n a0 a1 = some r) :
 Cl 147 #[.agg #[.bool a0.fe,v0_1],.agg #[.bool a1.fe,v1_1]] w (ae w fun w' u=>∃ v0_1:Vc,u = .agg #[.bool r.fe,v0_1]/\Rep.R w' L [v0_1] r.fD):=by
 unfold bc_p at h
 refine AF func147 I I I fun _ cs0 hb0=>Af<|RG.bx (AA w) I I fun b2 A1 M0 D1=>RG.bx M0 I I fun c2 B1 P0 E1=>RG.nl [.bool false,vN] P0 fun d2 C1 b0 F1=>Aa<|Aj<|Af<|Bd 0 I<|AR I ((b0.memA .t2) 0 _ I)<|Bd 0 I<|AR I ((b0.memA .t1) 0 _ I)<|Ac (FV.eqlB (a:=a0.fe) (b:=a1.fe) underlying4 I I)<|Aa<|MX.ifb I h (fun J0 h=>?_) (fun J0 h=>?_)
 refine Aj<|du 8 fun c0 j0=>Rv 0 c0 I j0 (fun _=>Bi 0 I)<|Rx 1 384 c0 I j0 (AP I ((b0.memA .t2) 0 _ I))<|Rv 2 c0 I j0 (fun _=>Bi 1 I)<|Rx 3 448 c0 I j0 (AP I ((b0.memA .t2) 1 _ I))<|Rv 4 c0 I j0 (fun _=>Bi 1 I)<|Rx 5 448 c0 I j0 (AP I ((b0.memA .t1) 1 _ I))<|bk h fun y2 q1 h=>Bs 6 127 c0 I .plain (bd 181) I (e2 I I) (fun w9 hw9=>bt_c n (b0.hL hL hw9) (b0.km h0_1 hw9) (b0.km h1_1 hw9) q1) I fun g2 U1 Y0 ⟨P1,hu_,j1⟩=>?_
 subst hu_
 obtain ⟨z0,G1⟩:=b0.agr Y0
 refine bk h fun F0 s1 h=>Bs 7 255 c0 I .plain (bd 169) I (e2 I I) (fun w9 hw9=>aa_c n (z0.hL hL hw9) (Aw j1 hw9) s1) I fun j2 V1 Z0 ⟨v0,hu_,C0⟩=>?_
 subst hu_
 obtain ⟨Q0,H1⟩:=z0.agr Z0
 refine BG 8 511 c0 I I .plain (AE (news:=[.bool F0.fe,v0]) Q0 .hd I I I I I I (o2 I (AY C0))) fun k2 s0 V0=>AN (dk c0)<|Am I<|Au hb0 func147 I (.cons (.many (cs:=[.bool F0.fe,v0]) I I (s0.memA .hd)) .nil) I ?_
 cases h
 exact ⟨s0.ag,fun w9 hw9=>⟨v0,I,s0.kd (Ao C0 V0) hw9⟩⟩
 refine Ar<|Aj<|Af<|Bd 1 I<|AR I ((b0.memA .t2) 1 _ I)<|Bd 1 I<|AR I ((b0.memA .t1) 1 _ I)<|bk h fun G0 u1 h=>Bj (vI G0) (bd 165) I (e2 I I) (fun w9 hw9=>aJ_c n (b0.hL0 hL hw9) (b0.k0 h0_1 hw9) (b0.k0 h1_1 hw9) u1) I<|Ac (FV.geq (i:=G0) (j:=0) I I)<|Aa<|AQ I h (fun K0 h=>?_) (fun K0 h=>?_)
 refine Aj<|du 8 fun d0 p0=>Rv 0 d0 I p0 (fun _=>Bi 0 I)<|Rx 1 384 d0 I p0 (AP I ((b0.memA .t2) 0 _ I))<|Rv 2 d0 I p0 (fun _=>Bi 1 I)<|Rx 3 448 d0 I p0 (AP I ((b0.memA .t2) 1 _ I))<|Rv 4 d0 I p0 (fun _=>Bi 1 I)<|Rx 5 448 d0 I p0 (AP I ((b0.memA .t1) 1 _ I))<|bk h fun z2 v1 h=>Bs 6 127 d0 I .plain (bd 166) I (e2 I I) (fun w9 hw9=>ao_c n (b0.hL hL hw9) (b0.km h0_1 hw9) (b0.km h1_1 hw9) v1) I fun p2 W1 b1 ⟨Q1,hu_,k1⟩=>?_
 subst hu_
 obtain ⟨A0,I1⟩:=b0.agr b1
 refine bk h fun H0 x1 h=>Bs 7 255 d0 I .plain (bd 169) I (e2 I I) (fun w9 hw9=>aa_c n (A0.hL hL hw9) (Aw k1 hw9) x1) I fun q2 X1 c1 ⟨x0,hu_,D0⟩=>?_
 subst hu_
 obtain ⟨R0,J1⟩:=A0.agr c1
 refine BG 8 511 d0 I I .plain (AE (news:=[.bool H0.fe,x0]) R0 .hd I I I I I I (o2 I (AY D0))) fun s2 t0 W0=>AN (dk d0)<|Am I<|Au hb0 func147 I (.cons (.many (cs:=[.bool H0.fe,x0]) I I (t0.memA .hd)) .nil) I ?_
 cases h
 exact ⟨t0.ag,fun w9 hw9=>⟨x0,I,t0.kd (Ao D0 W0) hw9⟩⟩
 refine Ar<|Aj<|du 8 fun g0 q0=>Rv 0 g0 I q0 (fun _=>Bi 0 I)<|Rx 1 384 g0 I q0 (AP I ((b0.memA .t1) 0 _ I))<|Rv 2 g0 I q0 (fun _=>Bi 1 I)<|Rx 3 448 g0 I q0 (AP I ((b0.memA .t1) 1 _ I))<|Rv 4 g0 I q0 (fun _=>Bi 1 I)<|Rx 5 448 g0 I q0 (AP I ((b0.memA .t2) 1 _ I))<|bk h fun A2 y1 h=>Bs 6 127 g0 I .plain (bd 166) I (e2 I I) (fun w9 hw9=>ao_c n (b0.hL hL hw9) (b0.km h1_1 hw9) (b0.km h0_1 hw9) y1) I fun u2 Y1 d1 ⟨R1,hu_,p1⟩=>?_
 subst hu_
 obtain ⟨B0,K1⟩:=b0.agr d1
 refine bk h fun I0 z1 h=>Bs 7 255 g0 I .plain (bd 169) I (e2 I I) (fun w9 hw9=>aa_c n (B0.hL hL hw9) (Aw p1 hw9) z1) I fun v2 Z1 g1 ⟨y0,hu_,E0⟩=>?_
 subst hu_
 obtain ⟨U0,M1⟩:=B0.agr g1
 refine BG 8 511 g0 I I .plain (AE (news:=[.bool I0.fe,y0]) U0 .hd I I I I I I (o2 I (AY E0))) fun x2 u0 X0=>AN (dk g0)<|Am I<|Au hb0 func147 I (.cons (.many (cs:=[.bool I0.fe,y0]) I I (u0.memA .hd)) .nil) I ?_
 cases h
 exact ⟨u0.ag,fun w9 hw9=>⟨y0,I,u0.kd (Ao E0 X0) hw9⟩⟩
def cg_p (n:Nat) (a0:Tf) (a1:Tf):Oa Tf:=
  (bD_p n a1).bind fun b0=>(bc_p n a0 b0).bind fun c0=>some c0
theorem cg_c (n:Nat) {L w} (hL:hl L w) (a0:Tf) {v0_1:Vc} (h0_1:Rep.R w L [v0_1] a0.fD) (a1:Tf) {v1_1:Vc} (h1_1:Rep.R w L [v1_1] a1.fD)  {r:Tf} (h:cg_p n a0 a1 = some r) :
 Cl 184 #[.agg #[.bool a0.fe,v0_1],.agg #[.bool a1.fe,v1_1]] w (ae w fun w' u=>∃ v0_1:Vc,u = .agg #[.bool r.fe,v0_1]/\Rep.R w' L [v0_1] r.fD):=by
 unfold cg_p at h
 refine AF func184 I I I fun _ cs0 hb0=>Af<|RG.bx (AA w) I I fun R0 D0 s0 G0=>RG.bx s0 I I fun U0 E0 t0 H0=>RG.nl [.bool false,vN] t0 fun V0 F0 c0 I0=>Aa<|Aj<|du 4 fun b0 p0=>Rx 0 24 b0 I p0 (AH I (c0.memA .t2))<|Rx 1 28 b0 I p0 (AH I (c0.memA .t1))<|bk h fun C0 A0 h=>Bs 2 7 b0 I .plain (bd 167) I (e1 I) (fun w9 hw9=>bD_c n (c0.hL hL hw9) a1 (c0.km h1_1 hw9) A0) I fun W0 P0 x0 ⟨M0,hu_,z0⟩=>?_
 subst hu_
 obtain ⟨d0,J0⟩:=c0.agr x0
 refine bk h fun q0 B0 h=>Bs 3 15 b0 I .plain (bd 147) I (e2 I I) (fun w9 hw9=>bc_c n (d0.hL hL hw9) a0 (d0.km h0_1 hw9) C0 (Aw z0 hw9) B0) I fun X0 Q0 y0 ⟨j0,hu_,k0⟩=>?_
 subst hu_
 obtain ⟨u0,K0⟩:=d0.agr y0
 refine BG 4 31 b0 I I .plain (AE (news:=[.bool q0.fe,j0]) u0 .hd I I I I I I (o2 I (AY k0))) fun Y0 g0 v0=>AN (dk b0)<|Am I<|Au hb0 func184 I (.cons (.many (cs:=[.bool q0.fe,j0]) I I (g0.memA .hd)) .nil) I ?_
 cases h
 exact ⟨g0.ag,fun w9 hw9=>⟨j0,I,g0.kd (Ao k0 v0) hw9⟩⟩
end Go.Proofs.YthffdckehlgmgaaGreatDoor
