import Derived.Test.YtkimkkgicmipbaaGreatDoorVT3
namespace Go.Proofs.YtkimkkgicmipbaaGreatDoor
open Go Go.RowKit Tryz
set_option maxRecDepth 4000
set_option maxHeartbeats 4000000

def aZ_p (_n:Nat) (a0:U8) (a1:U8):Oa ((U8)×Ua):=
  (sub64 a0.1 a1.1 (0:Ua)).bind fun b0=>(sub64 a0.2.1 a1.2.1 b0.2).bind fun c0=>(sub64 a0.2.2.1 a1.2.2.1 c0.2).bind fun d0=>(sub64 a0.2.2.2.1 a1.2.2.2.1 d0.2).bind fun g0=>(sub64 a0.2.2.2.2.1 a1.2.2.2.2.1 g0.2).bind fun j0=>(sub64 a0.2.2.2.2.2.1 a1.2.2.2.2.2.1 j0.2).bind fun k0=>(sub64 a0.2.2.2.2.2.2.1 a1.2.2.2.2.2.2.1 k0.2).bind fun p0=>(sub64 a0.2.2.2.2.2.2.2 a1.2.2.2.2.2.2.2 p0.2).bind fun q0=>some ((b0.1,c0.1,d0.1,g0.1,j0.1,k0.1,p0.1,q0.1),q0.2)
theorem aZ_c (n:Nat) {L w} (_hL:hl L w) (a0:U8) (a1:U8)  {r:(U8)×Ua} (h:aZ_p n a0 a1=some r) :
 Cl 129 #[.agg ((ae a0)).toArray,.agg ((ae a1)).toArray] w (aj w fun _ u=>u=.tuple #[.agg ((ae r.1)).toArray,vU r.2]):=by
 unfold aZ_p at h
 refine AJ func129 I I I fun _ cs0 hb0=>Ae<|RG.bx (AI w) I I fun J1 s1 Y0 x1=>RG.bx Y0 I I fun K1 u1 Z0 y1=>RG.nl zP Z0 fun M1 v1 J0 z1=>Af I<|Aa<|Ae<|Af I<|Aa<|Ai<|Ae<|Ab I<|Aa<|Aq<|MX.loop1<|Ae<|Ac (Bp (i:=0) (j:=8) I I)<|Aa<|Ai<|Ba I<|Am<|Ai<|Aq<|Ae<|Ab I<|Af I<|Aa<|du 13 fun c0 v0=>Rv 0 c0 I v0 (fun _=>Ah I)<|Rv 1 c0 I v0 (fun _=>Ah I)<|Rv 2 c0 I v0 (fun _=>AC (m:=1) (k:=0) (len:=8) I I I I (by omega))<|Rx 3 32512 c0 I v0 (Ay I ((J0.memA .t2) 0 _ I))<|Rv 4 c0 I v0 (fun _=>Ah I)<|Rv 5 c0 I v0 (fun _=>AC (m:=1) (k:=0) (len:=8) I I I I (by omega))<|Rx 6 32512 c0 I v0 (Ay I ((J0.memA .t1) 0 _ I))<|Rv 7 c0 I v0 (fun _=>Ah I)<|bk h fun b0 b1 h=>Rv 8 c0 I v0 (fun _=>FV.sub64 (a:=a0.1) (b:=a1.1) (c:=(0:Ua)) func140 I I I I I I I b1)<|Rv 9 c0 I v0 (fun _=>Ah I)<|Rv 10 c0 I v0 (fun _=>Al I I) ?_
 refine Rv 11 c0 I v0 (fun _=>Al I I)<|Rv 12 c0 I v0 (fun _=>AC (m:=1) (k:=0) (len:=8) I I I I (by omega))<|BC 13 16383 c0 I I .plain (BI (j:=0) (old:=(ae a0)) (news:=[vU b0.1]) (new' :=[vU b0.1,vU a0.2.1,vU a0.2.2.1,vU a0.2.2.2.1,vU a0.2.2.2.2.1,vU a0.2.2.2.2.2.1,vU a0.2.2.2.2.2.2.1,vU a0.2.2.2.2.2.2.2]) J0 .t2 I I I I I I (o1 I) I) fun P1 K0 A1=>Bb (i:=14) (rk c0) (Bg (m' :=32767) (sk c0) I .plain I (Bi I) ?_)
 refine AQ (dk c0)<|Ao<|Ak<|Ac (FV.add (i:=0) (j:=1) (r:=1) I I (by decide))<|Ab I<|Aa<|MX.again1<|Ae<|Ac (Bp (i:=1) (j:=8) I I)<|Aa<|Ai<|Ba I<|Am<|Ai<|Aq<|Ae<|Ab I<|Af I<|Aa<|du 13 fun d0 x0=>Rv 0 d0 I x0 (fun _=>Ah I)<|Rv 1 d0 I x0 (fun _=>Ah I)<|Rv 2 d0 I x0 (fun _=>AC (m:=1) (k:=1) (len:=8) I I I I (by omega))<|Rx 3 32512 d0 I x0 (Ay I ((K0.memA .t2) 1 _ I))<|Rv 4 d0 I x0 (fun _=>Ah I)<|Rv 5 d0 I x0 (fun _=>AC (m:=1) (k:=1) (len:=8) I I I I (by omega))<|Rx 6 32512 d0 I x0 (Ay I ((K0.memA .t1) 1 _ I))<|Rv 7 d0 I x0 (fun _=>Ah I)<|bk h fun t0 c1 h=>Rv 8 d0 I x0 (fun _=>FV.sub64 (a:=a0.2.1) (b:=a1.2.1) (c:=b0.2) func140 I I I I I I I c1)<|Rv 9 d0 I x0 (fun _=>Ah I)<|Rv 10 d0 I x0 (fun _=>Al I I)<|Rv 11 d0 I x0 (fun _=>Al I I)<|Rv 12 d0 I x0 (fun _=>AC (m:=1) (k:=1) (len:=8) I I I I (by omega))<|BC 13 16383 d0 I I .plain (BI (j:=1) (old:=[vU b0.1,vU a0.2.1,vU a0.2.2.1,vU a0.2.2.2.1,vU a0.2.2.2.2.1,vU a0.2.2.2.2.2.1,vU a0.2.2.2.2.2.2.1,vU a0.2.2.2.2.2.2.2]) (news:=[vU t0.1]) (new' :=[vU b0.1,vU t0.1,vU a0.2.2.1,vU a0.2.2.2.1,vU a0.2.2.2.2.1,vU a0.2.2.2.2.2.1,vU a0.2.2.2.2.2.2.1,vU a0.2.2.2.2.2.2.2]) K0 .t2 I I I I I I (o1 I) I) fun Q1 M0 B1=>Bb (i:=14) (rk d0) (Bg (m' :=32767) (sk d0) I .plain I (Bi I) ?_)
 refine AQ (dk d0)<|Ao<|Ak<|Ac (FV.add (i:=1) (j:=1) (r:=2) I I (by decide))<|Ab I<|Aa<|MX.again1<|Ae<|Ac (Bp (i:=2) (j:=8) I I)<|Aa<|Ai<|Ba I<|Am<|Ai<|Aq<|Ae<|Ab I<|Af I<|Aa<|du 13 fun g0 y0=>Rv 0 g0 I y0 (fun _=>Ah I)<|Rv 1 g0 I y0 (fun _=>Ah I)<|Rv 2 g0 I y0 (fun _=>AC (m:=1) (k:=2) (len:=8) I I I I (by omega))<|Rx 3 32512 g0 I y0 (Ay I ((M0.memA .t2) 2 _ I))<|Rv 4 g0 I y0 (fun _=>Ah I)<|Rv 5 g0 I y0 (fun _=>AC (m:=1) (k:=2) (len:=8) I I I I (by omega))<|Rx 6 32512 g0 I y0 (Ay I ((M0.memA .t1) 2 _ I))<|Rv 7 g0 I y0 (fun _=>Ah I)<|bk h fun u0 d1 h=>Rv 8 g0 I y0 (fun _=>FV.sub64 (a:=a0.2.2.1) (b:=a1.2.2.1) (c:=t0.2) func140 I I I I I I I d1)<|Rv 9 g0 I y0 (fun _=>Ah I)<|Rv 10 g0 I y0 (fun _=>Al I I)<|Rv 11 g0 I y0 (fun _=>Al I I)<|Rv 12 g0 I y0 (fun _=>AC (m:=1) (k:=2) (len:=8) I I I I (by omega))<|BC 13 16383 g0 I I .plain (BI (j:=2) (old:=[vU b0.1,vU t0.1,vU a0.2.2.1,vU a0.2.2.2.1,vU a0.2.2.2.2.1,vU a0.2.2.2.2.2.1,vU a0.2.2.2.2.2.2.1,vU a0.2.2.2.2.2.2.2]) (news:=[vU u0.1]) (new' :=[vU b0.1,vU t0.1,vU u0.1,vU a0.2.2.2.1,vU a0.2.2.2.2.1,vU a0.2.2.2.2.2.1,vU a0.2.2.2.2.2.2.1,vU a0.2.2.2.2.2.2.2]) M0 .t2 I I I I I I (o1 I) I) fun R1 P0 C1=>Bb (i:=14) (rk g0) (Bg (m' :=32767) (sk g0) I .plain I (Bi I) ?_)
 refine AQ (dk g0)<|Ao<|Ak<|Ac (FV.add (i:=2) (j:=1) (r:=3) I I (by decide))<|Ab I<|Aa<|MX.again1<|Ae<|Ac (Bp (i:=3) (j:=8) I I)<|Aa<|Ai<|Ba I<|Am<|Ai<|Aq<|Ae<|Ab I<|Af I<|Aa<|du 13 fun j0 z0=>Rv 0 j0 I z0 (fun _=>Ah I)<|Rv 1 j0 I z0 (fun _=>Ah I)<|Rv 2 j0 I z0 (fun _=>AC (m:=1) (k:=3) (len:=8) I I I I (by omega))<|Rx 3 32512 j0 I z0 (Ay I ((P0.memA .t2) 3 _ I))<|Rv 4 j0 I z0 (fun _=>Ah I)<|Rv 5 j0 I z0 (fun _=>AC (m:=1) (k:=3) (len:=8) I I I I (by omega))<|Rx 6 32512 j0 I z0 (Ay I ((P0.memA .t1) 3 _ I))<|Rv 7 j0 I z0 (fun _=>Ah I)<|bk h fun E0 g1 h=>Rv 8 j0 I z0 (fun _=>FV.sub64 (a:=a0.2.2.2.1) (b:=a1.2.2.2.1) (c:=u0.2) func140 I I I I I I I g1)<|Rv 9 j0 I z0 (fun _=>Ah I)<|Rv 10 j0 I z0 (fun _=>Al I I)<|Rv 11 j0 I z0 (fun _=>Al I I)<|Rv 12 j0 I z0 (fun _=>AC (m:=1) (k:=3) (len:=8) I I I I (by omega))<|BC 13 16383 j0 I I .plain (BI (j:=3) (old:=[vU b0.1,vU t0.1,vU u0.1,vU a0.2.2.2.1,vU a0.2.2.2.2.1,vU a0.2.2.2.2.2.1,vU a0.2.2.2.2.2.2.1,vU a0.2.2.2.2.2.2.2]) (news:=[vU E0.1]) (new' :=[vU b0.1,vU t0.1,vU u0.1,vU E0.1,vU a0.2.2.2.2.1,vU a0.2.2.2.2.2.1,vU a0.2.2.2.2.2.2.1,vU a0.2.2.2.2.2.2.2]) P0 .t2 I I I I I I (o1 I) I) fun U1 Q0 D1=>Bb (i:=14) (rk j0) (Bg (m' :=32767) (sk j0) I .plain I (Bi I) ?_)
 refine AQ (dk j0)<|Ao<|Ak<|Ac (FV.add (i:=3) (j:=1) (r:=4) I I (by decide))<|Ab I<|Aa<|MX.again1<|Ae<|Ac (Bp (i:=4) (j:=8) I I)<|Aa<|Ai<|Ba I<|Am<|Ai<|Aq<|Ae<|Ab I<|Af I<|Aa<|du 13 fun k0 A0=>Rv 0 k0 I A0 (fun _=>Ah I)<|Rv 1 k0 I A0 (fun _=>Ah I)<|Rv 2 k0 I A0 (fun _=>AC (m:=1) (k:=4) (len:=8) I I I I (by omega))<|Rx 3 32512 k0 I A0 (Ay I ((Q0.memA .t2) 4 _ I))<|Rv 4 k0 I A0 (fun _=>Ah I)<|Rv 5 k0 I A0 (fun _=>AC (m:=1) (k:=4) (len:=8) I I I I (by omega))<|Rx 6 32512 k0 I A0 (Ay I ((Q0.memA .t1) 4 _ I))<|Rv 7 k0 I A0 (fun _=>Ah I)<|bk h fun F0 j1 h=>Rv 8 k0 I A0 (fun _=>FV.sub64 (a:=a0.2.2.2.2.1) (b:=a1.2.2.2.2.1) (c:=E0.2) func140 I I I I I I I j1)<|Rv 9 k0 I A0 (fun _=>Ah I)<|Rv 10 k0 I A0 (fun _=>Al I I)<|Rv 11 k0 I A0 (fun _=>Al I I)<|Rv 12 k0 I A0 (fun _=>AC (m:=1) (k:=4) (len:=8) I I I I (by omega))<|BC 13 16383 k0 I I .plain (BI (j:=4) (old:=[vU b0.1,vU t0.1,vU u0.1,vU E0.1,vU a0.2.2.2.2.1,vU a0.2.2.2.2.2.1,vU a0.2.2.2.2.2.2.1,vU a0.2.2.2.2.2.2.2]) (news:=[vU F0.1]) (new' :=[vU b0.1,vU t0.1,vU u0.1,vU E0.1,vU F0.1,vU a0.2.2.2.2.2.1,vU a0.2.2.2.2.2.2.1,vU a0.2.2.2.2.2.2.2]) Q0 .t2 I I I I I I (o1 I) I) fun V1 R0 E1=>Bb (i:=14) (rk k0) (Bg (m' :=32767) (sk k0) I .plain I (Bi I) ?_)
 refine AQ (dk k0)<|Ao<|Ak<|Ac (FV.add (i:=4) (j:=1) (r:=5) I I (by decide))<|Ab I<|Aa<|MX.again1<|Ae<|Ac (Bp (i:=5) (j:=8) I I)<|Aa<|Ai<|Ba I<|Am<|Ai<|Aq<|Ae<|Ab I<|Af I<|Aa<|du 13 fun p0 B0=>Rv 0 p0 I B0 (fun _=>Ah I)<|Rv 1 p0 I B0 (fun _=>Ah I)<|Rv 2 p0 I B0 (fun _=>AC (m:=1) (k:=5) (len:=8) I I I I (by omega))<|Rx 3 32512 p0 I B0 (Ay I ((R0.memA .t2) 5 _ I))<|Rv 4 p0 I B0 (fun _=>Ah I)<|Rv 5 p0 I B0 (fun _=>AC (m:=1) (k:=5) (len:=8) I I I I (by omega))<|Rx 6 32512 p0 I B0 (Ay I ((R0.memA .t1) 5 _ I))<|Rv 7 p0 I B0 (fun _=>Ah I)<|bk h fun G0 k1 h=>Rv 8 p0 I B0 (fun _=>FV.sub64 (a:=a0.2.2.2.2.2.1) (b:=a1.2.2.2.2.2.1) (c:=F0.2) func140 I I I I I I I k1)<|Rv 9 p0 I B0 (fun _=>Ah I)<|Rv 10 p0 I B0 (fun _=>Al I I)<|Rv 11 p0 I B0 (fun _=>Al I I)<|Rv 12 p0 I B0 (fun _=>AC (m:=1) (k:=5) (len:=8) I I I I (by omega))<|BC 13 16383 p0 I I .plain (BI (j:=5) (old:=[vU b0.1,vU t0.1,vU u0.1,vU E0.1,vU F0.1,vU a0.2.2.2.2.2.1,vU a0.2.2.2.2.2.2.1,vU a0.2.2.2.2.2.2.2]) (news:=[vU G0.1]) (new' :=[vU b0.1,vU t0.1,vU u0.1,vU E0.1,vU F0.1,vU G0.1,vU a0.2.2.2.2.2.2.1,vU a0.2.2.2.2.2.2.2]) R0 .t2 I I I I I I (o1 I) I) fun W1 U0 F1=>Bb (i:=14) (rk p0) (Bg (m' :=32767) (sk p0) I .plain I (Bi I) ?_)
 refine AQ (dk p0)<|Ao<|Ak<|Ac (FV.add (i:=5) (j:=1) (r:=6) I I (by decide))<|Ab I<|Aa<|MX.again1<|Ae<|Ac (Bp (i:=6) (j:=8) I I)<|Aa<|Ai<|Ba I<|Am<|Ai<|Aq<|Ae<|Ab I<|Af I<|Aa<|du 13 fun q0 C0=>Rv 0 q0 I C0 (fun _=>Ah I)<|Rv 1 q0 I C0 (fun _=>Ah I)<|Rv 2 q0 I C0 (fun _=>AC (m:=1) (k:=6) (len:=8) I I I I (by omega))<|Rx 3 32512 q0 I C0 (Ay I ((U0.memA .t2) 6 _ I))<|Rv 4 q0 I C0 (fun _=>Ah I)<|Rv 5 q0 I C0 (fun _=>AC (m:=1) (k:=6) (len:=8) I I I I (by omega))<|Rx 6 32512 q0 I C0 (Ay I ((U0.memA .t1) 6 _ I))<|Rv 7 q0 I C0 (fun _=>Ah I)<|bk h fun H0 p1 h=>Rv 8 q0 I C0 (fun _=>FV.sub64 (a:=a0.2.2.2.2.2.2.1) (b:=a1.2.2.2.2.2.2.1) (c:=G0.2) func140 I I I I I I I p1)<|Rv 9 q0 I C0 (fun _=>Ah I)<|Rv 10 q0 I C0 (fun _=>Al I I)<|Rv 11 q0 I C0 (fun _=>Al I I)<|Rv 12 q0 I C0 (fun _=>AC (m:=1) (k:=6) (len:=8) I I I I (by omega))<|BC 13 16383 q0 I I .plain (BI (j:=6) (old:=[vU b0.1,vU t0.1,vU u0.1,vU E0.1,vU F0.1,vU G0.1,vU a0.2.2.2.2.2.2.1,vU a0.2.2.2.2.2.2.2]) (news:=[vU H0.1]) (new' :=[vU b0.1,vU t0.1,vU u0.1,vU E0.1,vU F0.1,vU G0.1,vU H0.1,vU a0.2.2.2.2.2.2.2]) U0 .t2 I I I I I I (o1 I) I) fun X1 V0 G1=>Bb (i:=14) (rk q0) (Bg (m' :=32767) (sk q0) I .plain I (Bi I) ?_)
 refine AQ (dk q0)<|Ao<|Ak<|Ac (FV.add (i:=6) (j:=1) (r:=7) I I (by decide))<|Ab I<|Aa<|MX.again1<|Ae<|Ac (Bp (i:=7) (j:=8) I I)<|Aa<|Ai<|Ba I<|Am<|Ai<|Aq<|Ae<|Ab I<|Af I<|Aa<|du 13 fun s0 D0=>Rv 0 s0 I D0 (fun _=>Ah I)<|Rv 1 s0 I D0 (fun _=>Ah I)<|Rv 2 s0 I D0 (fun _=>AC (m:=1) (k:=7) (len:=8) I I I I (by omega))<|Rx 3 32512 s0 I D0 (Ay I ((V0.memA .t2) 7 _ I))<|Rv 4 s0 I D0 (fun _=>Ah I)<|Rv 5 s0 I D0 (fun _=>AC (m:=1) (k:=7) (len:=8) I I I I (by omega))<|Rx 6 32512 s0 I D0 (Ay I ((V0.memA .t1) 7 _ I))<|Rv 7 s0 I D0 (fun _=>Ah I)<|bk h fun I0 q1 h=>Rv 8 s0 I D0 (fun _=>FV.sub64 (a:=a0.2.2.2.2.2.2.2) (b:=a1.2.2.2.2.2.2.2) (c:=H0.2) func140 I I I I I I I q1)<|Rv 9 s0 I D0 (fun _=>Ah I)<|Rv 10 s0 I D0 (fun _=>Al I I)<|Rv 11 s0 I D0 (fun _=>Al I I)<|Rv 12 s0 I D0 (fun _=>AC (m:=1) (k:=7) (len:=8) I I I I (by omega))<|BC 13 16383 s0 I I .plain (BI (j:=7) (old:=[vU b0.1,vU t0.1,vU u0.1,vU E0.1,vU F0.1,vU G0.1,vU H0.1,vU a0.2.2.2.2.2.2.2]) (news:=[vU I0.1]) (new' :=[vU b0.1,vU t0.1,vU u0.1,vU E0.1,vU F0.1,vU G0.1,vU H0.1,vU I0.1]) V0 .t2 I I I I I I (o1 I) I) fun Y1 W0 H1=>Bb (i:=14) (rk s0) (Bg (m' :=32767) (sk s0) I .plain I (Bi I) ?_)
 refine AQ (dk s0)<|Ao<|Ak<|Ac (FV.add (i:=7) (j:=1) (r:=8) I I (by decide))<|Ab I<|Aa<|MX.again1<|Ae<|Ac (Bp (i:=8) (j:=8) I I)<|Aa<|Ai<|Bn I<|AT I<|Ae<|Ac (AP I (W0.memA .t2))<|Ab I<|Bl [vU b0.1,vU t0.1,vU u0.1,vU E0.1,vU F0.1,vU G0.1,vU H0.1,vU I0.1] W0 .hd (aC I) fun Z1 X0 I1=>Af I<|Aa<|Ap I<|Aw hb0 func129 I (.cons (.many (cs:=[vU b0.1,vU t0.1,vU u0.1,vU E0.1,vU F0.1,vU G0.1,vU H0.1,vU I0.1]) I I (X0.memA .hd)) (.cons (.tmp I) .nil)) I ?_
 cases h
 exact X0.gv
structure Ti where
  fe:Bool
  fj:U8
  deriving DecidableEq
instance:Rep Ti:=Rep.via (β:=Bool×(U8)) fun x=>(x.fe,x.fj)
def kP (x:Ti):Lb Vc:=[.bool x.fe,vU x.fj.1,vU x.fj.2.1,vU x.fj.2.2.1,vU x.fj.2.2.2.1,vU x.fj.2.2.2.2.1,vU x.fj.2.2.2.2.2.1,vU x.fj.2.2.2.2.2.2.1,vU x.fj.2.2.2.2.2.2.2]
def cv_p (n:Nat) (a0:U8):Oa Ti:=
  (if (shrU a0.2.2.2.2.2.2.2 63)=(1:Ua) then (aZ_p n (0,0,0,0,0,0,0,0) a0).bind fun b0=>some (⟨(decide ((shrU a0.2.2.2.2.2.2.2 63)=(1:Ua))),b0.1⟩:Ti) else some (⟨(decide ((shrU a0.2.2.2.2.2.2.2 63)=(1:Ua))),a0⟩:Ti))
theorem cv_c (n:Nat) {L w} (hL:hl L w) (a0:U8)  {r:Ti} (h:cv_p n a0=some r) :
 Cl 114 #[.agg ((ae a0)).toArray] w (aj w fun _ u=>u=.agg ((kP r)).toArray):=by
 unfold cv_p at h
 refine AJ func114 I I I fun _ cs0 hb0=>Ae<|RG.bx (AI w) I I fun F0 u0 q0 y0=>RG.nl [.bool false,vW 0,vW 0,vW 0,vW 0,vW 0,vW 0,vW 0,vW 0] q0 fun G0 v0 d0 z0=>Aa<|Ae<|Ac (AC (m:=1) (k:=7) (len:=8) I I I I (by omega))<|AG I ((d0.memA .t1) 7 _ I)<|Ac (FV.shrU (a:=a0.2.2.2.2.2.2.2) (j:=63) I I)<|Ac (FV.eqlU (a:=shrU a0.2.2.2.2.2.2.2 63) (b:=(1:Ua)) I I)<|Ac (AP I (d0.memA .t1))<|Ac (Bj (vs:=[.bool (decide ((shrU a0.2.2.2.2.2.2.2 63)=(1:Ua))),.agg ((ae a0)).toArray]) (u:=.agg ((([.bool (decide ((shrU a0.2.2.2.2.2.2.2 63)=(1:Ua)))]:Lb Vc)++ae a0)).toArray) (e2 I I) (fun w9=>by kernel_rfl))<|RG.nl [.bool false,vW 0,vW 0,vW 0,vW 0,vW 0,vW 0,vW 0,vW 0] d0 fun H0 x0 s0 A0=>Bl (([.bool (decide ((shrU a0.2.2.2.2.2.2.2 63)=(1:Ua)))]:Lb Vc)++ae a0) s0 .hd (aC I) fun I0 b0 B0=>Aa<|Ai<|Ae<|Bh 0 I<|AG I ((b0.memA .hd) 0 _ I)<|Aa<|AO I h (fun p0 h=>?_) (fun p0 h=>?_)
 refine Ak<|Ac (Bj (vs:=[]) (u:=.agg zQ) aB (fun w9=>by kernel_rfl))<|Bh 1 I<|Ac (BK (cs:=(ae a0)) I I (ay (b0.memA .hd) 1 8))<|bk h fun c0 t0 h=>Bz (.tuple #[.agg ((ae c0.1)).toArray,vU c0.2]) (bd 129) I (e2 I I) (fun w9 hw9=>aZ_c n (b0.hL0 hL hw9) (0,0,0,0,0,0,0,0) a0 t0) I<|Ab I<|Ac (Al I I)<|Ac (Al I I)<|Bh 1 I<|RG.now .plain (BI (j:=1) (old:=(([.bool (decide ((shrU a0.2.2.2.2.2.2.2 63)=(1:Ua)))]:Lb Vc)++ae a0)) (news:=(ae c0.1)) (new' :=(([.bool (decide ((shrU a0.2.2.2.2.2.2.2 63)=(1:Ua)))]:Lb Vc)++ae c0.1)) b0 .hd I I I I I I (aC I) I) fun J0 g0 C0=>Aa<|Ae<|Ac (AP I (g0.memA .hd))<|Bl (([.bool (decide ((shrU a0.2.2.2.2.2.2.2 63)=(1:Ua)))]:Lb Vc)++ae c0.1) g0 .t1 (aC I) fun K0 j0 D0=>Aa<|Ap I<|Aw hb0 func114 I (.cons (.many (cs:=(([.bool (decide ((shrU a0.2.2.2.2.2.2.2 63)=(1:Ua)))]:Lb Vc)++ae c0.1)) I I (j0.memA .t1)) .nil) I ?_
 cases h
 exact j0.gv
 refine Am<|Ae<|Ac (AP I (b0.memA .hd))<|Bl (([.bool (decide ((shrU a0.2.2.2.2.2.2.2 63)=(1:Ua)))]:Lb Vc)++ae a0) b0 .t1 (aC I) fun M0 k0 E0=>Aa<|Ap I<|Aw hb0 func114 I (.cons (.many (cs:=(([.bool (decide ((shrU a0.2.2.2.2.2.2.2 63)=(1:Ua)))]:Lb Vc)++ae a0)) I I (k0.memA .t1)) .nil) I ?_
 cases h
 exact k0.gv
structure Tb where
  fe:Bool
  fk:Lb Ua
  deriving DecidableEq
instance:Rep Tb:=Rep.via (β:=Bool×(List UInt64)) fun x=>(x.fe,x.fk)
def ar_l1 (_n:Nat) (a1:Lb Ua) (c0:Int->Oa Int):Int->Oa Int
  | b0=>(if 0<b0 then (chk (b0-1)).bind fun d0=>(idx a1 d0).bind fun j0=>(if j0=(0:Ua) then (chk (b0-1)).bind fun g0=>c0 g0 else some b0) else some b0)
def ar_p (n:Nat) (a0:Bool) (a1:Lb Ua):Oa Tb:=
  jn (fun b0=>(if a0=true then (cut a1 0 b0).bind fun d0=>some (⟨(decide (0<b0)),d0⟩:Tb) else (cut a1 0 b0).bind fun g0=>some (⟨false,g0⟩:Tb))) (fun c0=>Option.bind (ah (ar_l1 n a1) n ((a1.length:Nat):Int)) (c0))
theorem ar_c (n:Nat) {L w} (_hL:hl L w) {a0:Bool} {a1:Lb Ua} {v1_0:Vc} (h1_0:Rep.R w L [v1_0] a1)  {r:Tb} (h:ar_p n a0 a1=some r) :
 Cl 115 #[.bool a0,v1_0] w (aj w fun w' u=>∃ v0_1:Vc,u=.agg #[.bool r.fe,v0_1]/\Rep.R w' L [v0_1] r.fk):=by
 unfold ar_p at h
 refine AJ func115 I I I fun _ cs0 hb0=>Ae<|RG.nl [.bool false,vN] (AI w) fun C1 j0 q0 z1=>Aa<|Ae<|Ab I ?_
 have A0:=AH h1_0 q0
 have A1:=AY A0
 refine Ac (Bf (xs:=a1) underlying101 I A0)<|Af I<|Aa<|Ai<|Aq<|MX.xo (α:=Int) 0 (fun b0=>[(0,.bool a0),(1,v1_0),(4,vP j0),(5,vI b0)]) (fun b0=>[.cells j0 [.bool false,vN] 119]) (fun b0=>b0) q0 I h ?_ ?_
 rintro b0 F1 k0 y1 h
 try dsimp only at h
 refine Ae<|Ab I<|Ab I<|RG.ifb (s:=21) I h (fun C0 h=>?_) (fun C0 h=>?_)
 refine Au (Ah I)<|Au (FV.gtr (i:=b0) (j:=0) I I)<|Bm I I<|Ab I<|Ab I<|bk h fun H1 c1 h=>RG.valE .plain I (FV.cutL (α:=Ua) c1 I I (AH h1_0 k0) I ⟨_,I⟩) fun d0 v0=>?_
 obtain ⟨k1,u1,X0,_⟩:=Rep.sl v0
 refine Ac (Bj (vs:=[.bool (decide (0<b0)),d0]) (u:=.agg #[.bool (decide (0<b0)),d0]) (e2 I I) (fun w9=>by rw [X0]; try kernel_rfl))<|Bl [.bool (decide (0<b0)),d0] k0 .hd (o2 I (Bs v0)) fun D1 s0 H0=>Aa<|Ap I<|Aw hb0 func115 I (.cons (.many (cs:=[.bool (decide (0<b0)),d0]) I I (s0.memA .hd)) .nil) I ?_
 cases h
 exact ⟨s0.ag,fun w9 hw9=>⟨d0,I,s0.kd (AB v0 H0) hw9⟩⟩
 refine Aj<|Aj<|Bo I I<|Ab I<|Ab I<|bk h fun I1 d1 h=>RG.valE .plain I (FV.cutL (α:=Ua) d1 I I (AH h1_0 k0) I ⟨_,I⟩) fun g0 x0=>?_
 obtain ⟨p1,v1,Y0,_⟩:=Rep.sl x0
 refine Ac (Bj (vs:=[.bool false,g0]) (u:=.agg #[.bool false,g0]) (e2 I I) (fun w9=>by rw [Y0]; try kernel_rfl))<|Bl [.bool false,g0] k0 .hd (o2 I (Bs x0)) fun E1 t0 I0=>Aa<|Ap I<|Aw hb0 func115 I (.cons (.many (cs:=[.bool false,g0]) I I (t0.memA .hd)) .nil) I ?_
 cases h
 exact ⟨t0.ag,fun w9 hw9=>⟨g0,I,t0.kd (AB x0 I0) hw9⟩⟩
 intro s1 y0 h
 try dsimp only at h
 obtain ⟨B1,R0,z0⟩:=ai h
 refine MX.lo (α:=Int) (fun c0=>[(0,.bool a0),(1,v1_0),(4,vP j0),(5,vI c0)]) (fun c0=>[.cells j0 [.bool false,vN] 119]) (fun c0=>c0) ((a1.length:Nat):Int) R0 q0 ?_
 rintro t1 c0 G1 G0 p0 u0 h
 unfold ar_l1 at h
 try dsimp only at h
 refine Ai<|Ae<|Ab I<|Ac (FV.gtr (i:=c0) (j:=0) I I)<|Ab I<|BD (s:=10) I h (fun D0 h=>?_) (fun D0 h=>?_)
 refine Au (Ah I)<|Au (Ah I)<|bk h fun g1 V0 h=>Au (FV.subc (i:=c0) (j:=1) I I V0)<|bk h fun B0 Z0 h=>?_
 obtain ⟨M0,b1⟩:=ax Z0
 obtain ⟨q1,x1,J0,P0,F0,U0,Q0⟩:=Bq (AH h1_0 p0) b1
 have K0:F0=[vU B0]:=U0; subst K0
 refine Au (AU 1 (g1.toNat) I J0 I M0 P0)<|Au (Ay I (Q0 0 _ I))<|Au (FV.eqlU (a:=B0) (b:=(0:Ua)) I I)<|Bm I I<|Aa<|AO I h (fun E0 h=>?_) (fun E0 h=>?_)
 refine Am<|Aq<|Ak<|Ab I<|bk h fun j1 W0 h=>Ac (FV.subc (i:=c0) (j:=1) I I W0)<|Af I<|Aa<|Ao<|G0 j1 p0 u0 h
 refine AT I ?_
 have h:=z0 _ h
 try dsimp only at h
 exact y0 c0 p0 u0 h
 refine Aj<|Aj<|Aj<|Aj<|Aj<|Aj<|Bo I I<|Aa<|Bn I<|AT I ?_
 have h:=z0 _ h
 try dsimp only at h
 exact y0 c0 p0 u0 h
def bM_p (n:Nat) (a0:U8):Oa Tb:=
  (cv_p n a0).bind fun b0=>(app ([]:Lb Ua) ([b0.fj.1,b0.fj.2.1,b0.fj.2.2.1,b0.fj.2.2.2.1,b0.fj.2.2.2.2.1,b0.fj.2.2.2.2.2.1,b0.fj.2.2.2.2.2.2.1,b0.fj.2.2.2.2.2.2.2]:Lb Ua)).bind fun c0=>(ar_p n b0.fe c0).bind fun d0=>some d0
theorem bM_c (n:Nat) {L w} (hL:hl L w) (a0:U8)  {r:Tb} (h:bM_p n a0=some r) :
 Cl 82 #[.agg ((ae a0)).toArray] w (aj w fun w' u=>∃ v0_1:Vc,u=.agg #[.bool r.fe,v0_1]/\Rep.R w' L [v0_1] r.fk):=by
 unfold bM_p at h
 refine AJ func82 I I I fun _ cs0 hb0=>Ae<|RG.bx (AI w) I I fun D1 s1 W0 u1=>RG.nl [.bool false,vN] W0 fun G1 A0 F0 z1=>Aa<|Ae<|Ac (AP I (F0.memA .t1))<|bk h fun b0 p1 h=>Bz (.agg ((kP b0)).toArray) (bd 114) I (e1 I) (fun w9 hw9=>cv_c n (F0.hL0 hL hw9) a0 p1) I<|RG.nl [.bool false,vW 0,vW 0,vW 0,vW 0,vW 0,vW 0,vW 0,vW 0] F0 fun H1 U0 c1 A1=>Bl (kP b0) c1 .hd (aC I) fun I1 u0 B1=>Aa<|Ai<|du 5 fun c0 y0=>Rv 0 c0 I y0 (fun _=>Bv 0 I)<|Rv 3 c0 I y0 (fun _=>Bv 1 I)<|Rx 4 224 c0 I y0 (FV.sliceA (len:=8) (m:=1) (p:=Addr.add ⟨U0,0,none⟩ 1) I I)<|bk h fun z0 G0 h=>RD.mf (α:=Vc×(Lb Vc)) (fun ⟨g0,j0⟩=>[(2,vP A0),(7,.bool b0.fe),(11,g0)]) (fun ⟨g0,j0⟩=>[rr w 44 Ua g0 z0.length j0,.cells A0 [.bool false,vN] 119]) (fun ⟨g0,j0⟩ Q0=>Cells Q0 (bl [rr w 44 Ua g0 z0.length j0,.cells A0 [.bool false,vN] 119]++L) j0 (z0:Lb Ua)) u0 2 63 ?_ ?_
 rintro ⟨g0,j0⟩ Q0 C0 v1 j1
 try dsimp only
 have D0:=BL C0 .hd
 have x1:=BM C0 .hd
 refine bk h fun R0 k1 h=>BQ 6 127 c0 I .plain (bd 115) I (e2 I I) (fun w9 hw9=>ar_c n (D0.hL hL hw9) (Ax (BN (α:=Ua) (v:=g0) (xs:=z0) D0 L (BA (α:=Ua) C0 .hd j1 hL)) hw9) k1) I fun E1 C1 g1 ⟨H0,hu_,M0⟩=>?_
 subst hu_
 obtain ⟨X0,y1⟩:=D0.agr g1
 refine BC 7 255 c0 I I .plain (Az (news:=[.bool R0.fe,H0]) X0 .hd I I I I I I (o2 I (Bs M0))) fun F1 E0 d1=>AQ (dk c0)<|Ap I<|Aw hb0 func82 I (.cons (.many (cs:=[.bool R0.fe,H0]) I I (E0.memA .hd)) .nil) I ?_
 cases h
 exact ⟨E0.ag,fun w9 hw9=>⟨H0,I,E0.kd (AB M0 d1) hw9⟩⟩
 intro B0
 refine Bc [1,2] (rk c0) ⟨?_,?_,trivial⟩
 refine Bg (m' :=27) (sk c0) I .plain I (Ay I ((u0.memA .hd) 0 _ I))<|RD.nu 2 31 c0 I .plain I (jB Ua u0 bT) fun q1 V0 d0 v0=>?_
 have x0:=jD Ua d0 L
 refine Bb (i:=5) (rk c0) (AZ (m' :=63) (sk c0) I I .plain I (AL (α:=Ua) (ys:=([b0.fj.1,b0.fj.2.1,b0.fj.2.2.1,b0.fj.2.2.2.1,b0.fj.2.2.2.2.1,b0.fj.2.2.2.2.2.1,b0.fj.2.2.2.2.2.2.1,b0.fj.2.2.2.2.2.2.2]:Lb Ua)) G0 d0 (fun _ _=>.hd) bT I I x0 (Src.arr (ds:=[vU b0.fj.1,vU b0.fj.2.1,vU b0.fj.2.2.1,vU b0.fj.2.2.2.1,vU b0.fj.2.2.2.2.1,vU b0.fj.2.2.2.2.2.1,vU b0.fj.2.2.2.2.2.2.1,vU b0.fj.2.2.2.2.2.2.2]) (ys:=([b0.fj.1,b0.fj.2.1,b0.fj.2.2.1,b0.fj.2.2.2.1,b0.fj.2.2.2.2.1,b0.fj.2.2.2.2.2.1,b0.fj.2.2.2.2.2.2.1,b0.fj.2.2.2.2.2.2.2]:Lb Ua)) (n:=8) (ay (d0.memA .t1) 1 8) (AE (cs:=[vU b0.fj.1]) (ds:=[vU b0.fj.2.1,vU b0.fj.2.2.1,vU b0.fj.2.2.2.1,vU b0.fj.2.2.2.2.1,vU b0.fj.2.2.2.2.2.1,vU b0.fj.2.2.2.2.2.2.1,vU b0.fj.2.2.2.2.2.2.2]) I (AE (cs:=[vU b0.fj.2.1]) (ds:=[vU b0.fj.2.2.1,vU b0.fj.2.2.2.1,vU b0.fj.2.2.2.2.1,vU b0.fj.2.2.2.2.2.1,vU b0.fj.2.2.2.2.2.2.1,vU b0.fj.2.2.2.2.2.2.2]) I (AE (cs:=[vU b0.fj.2.2.1]) (ds:=[vU b0.fj.2.2.2.1,vU b0.fj.2.2.2.2.1,vU b0.fj.2.2.2.2.2.1,vU b0.fj.2.2.2.2.2.2.1,vU b0.fj.2.2.2.2.2.2.2]) I (AE (cs:=[vU b0.fj.2.2.2.1]) (ds:=[vU b0.fj.2.2.2.2.1,vU b0.fj.2.2.2.2.2.1,vU b0.fj.2.2.2.2.2.2.1,vU b0.fj.2.2.2.2.2.2.2]) I (AE (cs:=[vU b0.fj.2.2.2.2.1]) (ds:=[vU b0.fj.2.2.2.2.2.1,vU b0.fj.2.2.2.2.2.2.1,vU b0.fj.2.2.2.2.2.2.2]) I (AE (cs:=[vU b0.fj.2.2.2.2.2.1]) (ds:=[vU b0.fj.2.2.2.2.2.2.1,vU b0.fj.2.2.2.2.2.2.2]) I (AE (cs:=[vU b0.fj.2.2.2.2.2.2.1]) (ds:=[vU b0.fj.2.2.2.2.2.2.2]) I (AE (cs:=[vU b0.fj.2.2.2.2.2.2.2]) (ds:=[]) I (AK _ _))))))))) I)) (fun t0 P0 ⟨p0,k0,q0,s0⟩=>?_))
 obtain ⟨Y0,I0⟩:=AX k0 (.a0 (.a1 .done))
 exact B0 (t0,p0) Y0 (Tt v0 (Tt q0 I0)) (Ar s0 I0)
 refine BH (m' :=29) (sk c0) I .plain I (jB Ua u0 bT) fun q1 V0 d0 v0=>?_
 have x0:=jD Ua d0 L
 refine Bc [1,5] (rk c0) ⟨?_,?_,trivial⟩
 refine Bg (m' :=31) (sk c0) I .plain I (Ay I ((d0.memA .t1) 0 _ I))<|Bb (i:=5) (rk c0) (AZ (m' :=63) (sk c0) I I .plain I (AL (α:=Ua) (ys:=([b0.fj.1,b0.fj.2.1,b0.fj.2.2.1,b0.fj.2.2.2.1,b0.fj.2.2.2.2.1,b0.fj.2.2.2.2.2.1,b0.fj.2.2.2.2.2.2.1,b0.fj.2.2.2.2.2.2.2]:Lb Ua)) G0 d0 (fun _ _=>.hd) bT I I x0 (Src.arr (ds:=[vU b0.fj.1,vU b0.fj.2.1,vU b0.fj.2.2.1,vU b0.fj.2.2.2.1,vU b0.fj.2.2.2.2.1,vU b0.fj.2.2.2.2.2.1,vU b0.fj.2.2.2.2.2.2.1,vU b0.fj.2.2.2.2.2.2.2]) (ys:=([b0.fj.1,b0.fj.2.1,b0.fj.2.2.1,b0.fj.2.2.2.1,b0.fj.2.2.2.2.1,b0.fj.2.2.2.2.2.1,b0.fj.2.2.2.2.2.2.1,b0.fj.2.2.2.2.2.2.2]:Lb Ua)) (n:=8) (ay (d0.memA .t1) 1 8) (AE (cs:=[vU b0.fj.1]) (ds:=[vU b0.fj.2.1,vU b0.fj.2.2.1,vU b0.fj.2.2.2.1,vU b0.fj.2.2.2.2.1,vU b0.fj.2.2.2.2.2.1,vU b0.fj.2.2.2.2.2.2.1,vU b0.fj.2.2.2.2.2.2.2]) I (AE (cs:=[vU b0.fj.2.1]) (ds:=[vU b0.fj.2.2.1,vU b0.fj.2.2.2.1,vU b0.fj.2.2.2.2.1,vU b0.fj.2.2.2.2.2.1,vU b0.fj.2.2.2.2.2.2.1,vU b0.fj.2.2.2.2.2.2.2]) I (AE (cs:=[vU b0.fj.2.2.1]) (ds:=[vU b0.fj.2.2.2.1,vU b0.fj.2.2.2.2.1,vU b0.fj.2.2.2.2.2.1,vU b0.fj.2.2.2.2.2.2.1,vU b0.fj.2.2.2.2.2.2.2]) I (AE (cs:=[vU b0.fj.2.2.2.1]) (ds:=[vU b0.fj.2.2.2.2.1,vU b0.fj.2.2.2.2.2.1,vU b0.fj.2.2.2.2.2.2.1,vU b0.fj.2.2.2.2.2.2.2]) I (AE (cs:=[vU b0.fj.2.2.2.2.1]) (ds:=[vU b0.fj.2.2.2.2.2.1,vU b0.fj.2.2.2.2.2.2.1,vU b0.fj.2.2.2.2.2.2.2]) I (AE (cs:=[vU b0.fj.2.2.2.2.2.1]) (ds:=[vU b0.fj.2.2.2.2.2.2.1,vU b0.fj.2.2.2.2.2.2.2]) I (AE (cs:=[vU b0.fj.2.2.2.2.2.2.1]) (ds:=[vU b0.fj.2.2.2.2.2.2.2]) I (AE (cs:=[vU b0.fj.2.2.2.2.2.2.2]) (ds:=[]) I (AK _ _))))))))) I)) (fun t0 P0 ⟨p0,k0,q0,s0⟩=>?_))
 obtain ⟨Z0,J0⟩:=AX k0 (.a0 (.a1 .done))
 exact B0 (t0,p0) Z0 (Tt v0 (Tt q0 J0)) (Ar s0 J0)
 refine AZ (m' :=61) (sk c0) I I .plain I (AL (α:=Ua) (ys:=([b0.fj.1,b0.fj.2.1,b0.fj.2.2.1,b0.fj.2.2.2.1,b0.fj.2.2.2.2.1,b0.fj.2.2.2.2.2.1,b0.fj.2.2.2.2.2.2.1,b0.fj.2.2.2.2.2.2.2]:Lb Ua)) G0 d0 (fun _ _=>.hd) bT I I x0 (Src.arr (ds:=[vU b0.fj.1,vU b0.fj.2.1,vU b0.fj.2.2.1,vU b0.fj.2.2.2.1,vU b0.fj.2.2.2.2.1,vU b0.fj.2.2.2.2.2.1,vU b0.fj.2.2.2.2.2.2.1,vU b0.fj.2.2.2.2.2.2.2]) (ys:=([b0.fj.1,b0.fj.2.1,b0.fj.2.2.1,b0.fj.2.2.2.1,b0.fj.2.2.2.2.1,b0.fj.2.2.2.2.2.1,b0.fj.2.2.2.2.2.2.1,b0.fj.2.2.2.2.2.2.2]:Lb Ua)) (n:=8) (ay (d0.memA .t1) 1 8) (AE (cs:=[vU b0.fj.1]) (ds:=[vU b0.fj.2.1,vU b0.fj.2.2.1,vU b0.fj.2.2.2.1,vU b0.fj.2.2.2.2.1,vU b0.fj.2.2.2.2.2.1,vU b0.fj.2.2.2.2.2.2.1,vU b0.fj.2.2.2.2.2.2.2]) I (AE (cs:=[vU b0.fj.2.1]) (ds:=[vU b0.fj.2.2.1,vU b0.fj.2.2.2.1,vU b0.fj.2.2.2.2.1,vU b0.fj.2.2.2.2.2.1,vU b0.fj.2.2.2.2.2.2.1,vU b0.fj.2.2.2.2.2.2.2]) I (AE (cs:=[vU b0.fj.2.2.1]) (ds:=[vU b0.fj.2.2.2.1,vU b0.fj.2.2.2.2.1,vU b0.fj.2.2.2.2.2.1,vU b0.fj.2.2.2.2.2.2.1,vU b0.fj.2.2.2.2.2.2.2]) I (AE (cs:=[vU b0.fj.2.2.2.1]) (ds:=[vU b0.fj.2.2.2.2.1,vU b0.fj.2.2.2.2.2.1,vU b0.fj.2.2.2.2.2.2.1,vU b0.fj.2.2.2.2.2.2.2]) I (AE (cs:=[vU b0.fj.2.2.2.2.1]) (ds:=[vU b0.fj.2.2.2.2.2.1,vU b0.fj.2.2.2.2.2.2.1,vU b0.fj.2.2.2.2.2.2.2]) I (AE (cs:=[vU b0.fj.2.2.2.2.2.1]) (ds:=[vU b0.fj.2.2.2.2.2.2.1,vU b0.fj.2.2.2.2.2.2.2]) I (AE (cs:=[vU b0.fj.2.2.2.2.2.2.1]) (ds:=[vU b0.fj.2.2.2.2.2.2.2]) I (AE (cs:=[vU b0.fj.2.2.2.2.2.2.2]) (ds:=[]) I (AK _ _))))))))) I)) fun t0 P0 ⟨p0,k0,q0,s0⟩=>Rx 1 192 c0 I y0 (Ay I ((k0.memA .t1) 0 _ I)) ?_
 obtain ⟨b1,K0⟩:=AX k0 (.a0 (.a1 .done))
 exact B0 (t0,p0) b1 (Tt v0 (Tt q0 K0)) (Ar s0 K0)
def bg_p (n:Nat) (a0:Int):Oa Tb:=
  (bK_p n a0).bind fun b0=>(bM_p n b0).bind fun c0=>some c0
theorem bg_c (n:Nat) {L w} (hL:hl L w) {a0:Int}  {r:Tb} (h:bg_p n a0=some r) :
 Cl 102 #[vI a0] w (aj w fun w' u=>∃ v0_1:Vc,u=.agg #[.bool r.fe,v0_1]/\Rep.R w' L [v0_1] r.fk):=by
 unfold bg_p at h
 refine AJ func102 I I I fun _ cs0 hb0=>Ae<|RG.nl [.bool false,vN] (AI w) fun A0 v0 b0 x0=>Aa<|Ae<|Ab I<|bk h fun j0 t0 h=>Bz (.agg ((ae j0)).toArray) (bd 8) I (e1 I) (fun w9 hw9=>bK_c n (b0.hL0 hL hw9)  t0) I<|bk h fun k0 u0 h=>jE (bd 82) I (e1 I) (fun w9 hw9=>bM_c n (b0.hL hL hw9) j0 u0) I fun B0 z0 s0 ⟨d0,hu_,g0⟩=>?_
 subst hu_
 obtain ⟨p0,y0⟩:=b0.agr s0
 refine Bl [.bool k0.fe,d0] p0 .hd (o2 I (Bs g0)) fun C0 c0 q0=>Aa<|Ap I<|Aw hb0 func102 I (.cons (.many (cs:=[.bool k0.fe,d0]) I I (c0.memA .hd)) .nil) I ?_
 cases h
 exact ⟨c0.ag,fun w9 hw9=>⟨d0,I,c0.kd (AB g0 q0) hw9⟩⟩
structure Te where
  fp:Tb
  fl:Tb
  deriving DecidableEq
instance:Rep Te:=Rep.via (β:=Tb×Tb) fun x=>(x.fp,x.fl)
def cj_p (n:Nat) (a0:Tb):Oa Te:=
  (bg_p n (1:Int)).bind fun b0=>some (⟨a0,b0⟩:Te)
theorem cj_c (n:Nat) {L w} (hL:hl L w) (a0:Tb) {v0_1:Vc} (h0_1:Rep.R w L [v0_1] a0.fk)  {r:Te} (h:cj_p n a0=some r) :
 Cl 101 #[.agg #[.bool a0.fe,v0_1]] w (aj w fun w' u=>∃ v0_1 v0_3:Vc,u=.agg #[.bool r.fp.fe,v0_1,.bool r.fl.fe,v0_3]/\Rep.R w' L [v0_1] r.fp.fk/\Rep.R w' L [v0_3] r.fl.fk):=by
 unfold cj_p at h
 refine AJ func101 I I I fun _ cs0 hb0=>Ae<|RG.bx (AI w) I I fun M0 D0 u0 H0=>RG.nl [.bool false,vN,.bool false,vN] u0 fun P0 E0 j0 I0=>Aa<|Ai<|du 3 fun b0 t0=>Rx 0 12 b0 I t0 (AP I (j0.memA .t1))<|bk h fun g0 A0 h=>BQ 1 3 b0 I .plain (bd 102) I (e1 I) (fun w9 hw9=>bg_c n (j0.hL hL hw9)  A0) I fun Q0 K0 x0 ⟨c0,hu_,p0⟩=>?_
 subst hu_
 obtain ⟨q0,J0⟩:=j0.agr x0
 have s0:=AH h0_1 q0
 obtain ⟨B0,F0,y0,_⟩:=Rep.sl s0
 obtain ⟨C0,G0,z0,_⟩:=Rep.sl p0
 refine Rv 2 b0 I t0 (fun _=>Bj (vs:=[.agg #[.bool a0.fe,v0_1],.agg #[.bool g0.fe,c0]]) (u:=.agg #[.bool a0.fe,v0_1,.bool g0.fe,c0]) (e2 I I) (fun w9=>by rw [y0,z0]; try kernel_rfl))<|BC 3 15 b0 I I .plain (Az (news:=[.bool a0.fe,v0_1,.bool g0.fe,c0]) q0 .hd I I I I I I (o4 I (Bs s0) I (Bs p0))) fun R0 d0 v0=>AQ (dk b0)<|Ap I<|Aw hb0 func101 I (.cons (.many (cs:=[.bool a0.fe,v0_1,.bool g0.fe,c0]) I I (d0.memA .hd)) .nil) I ?_
 cases h
 exact ⟨d0.ag,fun w9 hw9=>⟨v0_1,c0,I,d0.k0 h0_1 hw9,d0.kd (AB p0 v0) hw9⟩⟩
def ce_p (n:Nat) (a0:Int):Oa Te:=
  (bg_p n a0).bind fun b0=>(cj_p n b0).bind fun c0=>some c0
theorem ce_c (n:Nat) {L w} (hL:hl L w) {a0:Int}  {r:Te} (h:ce_p n a0=some r) :
 Cl 66 #[vI a0] w (aj w fun w' u=>∃ v0_1 v0_3:Vc,u=.agg #[.bool r.fp.fe,v0_1,.bool r.fl.fe,v0_3]/\Rep.R w' L [v0_1] r.fp.fk/\Rep.R w' L [v0_3] r.fl.fk):=by
 unfold ce_p at h
 refine AJ func66 I I I fun _ cs0 hb0=>Ae<|RG.nl [.bool false,vN,.bool false,vN] (AI w) fun I0 B0 j0 C0=>Aa<|Ae<|Ab I<|bk h fun A0 y0 h=>jE (bd 102) I (e1 I) (fun w9 hw9=>bg_c n (j0.hL hL hw9)  y0) I fun J0 G0 u0 ⟨F0,hu_,x0⟩=>?_
 subst hu_
 obtain ⟨k0,D0⟩:=j0.agr u0
 refine bk h fun c0 z0 h=>jE (bd 101) I (e1 I) (fun w9 hw9=>cj_c n (k0.hL hL hw9) A0 (Ax x0 hw9) z0) I fun K0 H0 v0 ⟨d0,g0,hu_,q0,s0⟩=>?_
 subst hu_
 obtain ⟨t0,E0⟩:=k0.agr v0
 refine Bl [.bool c0.fp.fe,d0,.bool c0.fl.fe,g0] t0 .hd (o4 I (Bs q0) I (Bs s0)) fun M0 b0 p0=>Aa<|Ap I<|Aw hb0 func66 I (.cons (.many (cs:=[.bool c0.fp.fe,d0,.bool c0.fl.fe,g0]) I I (b0.memA .hd)) .nil) I ?_
 cases h
 exact ⟨b0.ag,fun w9 hw9=>⟨d0,g0,I,b0.kd (AB q0 p0) hw9,b0.kd (AB s0 p0) hw9⟩⟩
def bC_p (_n:Nat) (a0:Tb):Oa Int:=
  (if a0.fe=true then some (-1:Int) else (if a0.fk.length=0 then some (0:Int) else some (1:Int)))
theorem bC_c (n:Nat) {L w} (_hL:hl L w) (a0:Tb) {v0_1:Vc} (h0_1:Rep.R w L [v0_1] a0.fk)  {r:Int} (h:bC_p n a0=some r) :
 Cl 68 #[.agg #[.bool a0.fe,v0_1]] w (aj w fun _ u=>u=vI r):=by
 unfold bC_p at h
 refine AJ func68 I I I fun _ cs0 hb0=>Ae<|RG.bx (AI w) I I fun q0 j0 b0 k0=>Af I<|Aa<|Ai<|Aq<|Ae<|Bh 0 I<|AG I ((b0.memA .hd) 0 _ I)<|Af I<|Aa<|MX.ifb I h (fun d0 h=>?_) (fun d0 h=>?_)
 refine Ae<|Af I<|Aa<|Ap I<|AV hb0 func68 I I ?_
 cases h
 exact b0.gv
 refine Ae<|Bh 1 I<|AG I ((b0.memA .hd) 1 _ I) ?_
 have c0:=AH h0_1 b0
 have p0:=AY c0
 refine Ac (Bf (xs:=a0.fk) underlying101 I c0)<|Ac (FV.eqlN (i:=a0.fk.length) (j:=0) I I)<|Af I<|Aa<|AO I h (fun g0 h=>?_) (fun g0 h=>?_)
 refine Ae<|Af I<|Aa<|Ap I<|AV hb0 func68 I I ?_
 cases h
 exact b0.gv
 refine Am<|Ao<|Ae<|Af I<|Aa<|Ap I<|AV hb0 func68 I I ?_
 cases h
 exact b0.gv
def bw_l1 (_n:Nat) (a0:Int) (k0:Int) (d0:Int×(Lb (Int×Int))->Oa (Lb (Int×Int))):Int×(Lb (Int×Int))->Oa (Lb (Int×Int))
  | (b0,c0)=>(if b0<a0 then (app c0 ([(k0,b0)]:Lb (Int×Int))).bind fun j0=>(chk (b0+1)).bind fun g0=>d0 (g0,j0) else some c0)
def bw_l2 (n:Nat) (a0:Int) (d0:Int×(Lb (Int×Int))->Oa (Lb (Int×Int))):Int×(Lb (Int×Int))->Oa (Lb (Int×Int))
  | (b0,c0)=>(if b0<a0 then (chk (b0+1)).bind fun g0=>Option.bind (ah (bw_l1 n a0 b0) n (g0,c0)) (fun k0=>(chk (b0+1)).bind fun j0=>d0 (j0,k0)) else some c0)
def bw_p (n:Nat) (a0:Int):Oa (Lb (Int×Int)):=
  Option.bind (ah (bw_l2 n a0) n (0,([]:Lb (Int×Int)))) (fun b0=>some b0)
theorem bw_c (n:Nat) {L w} (hL:hl L w) {a0:Int}  {r:Lb (Int×Int)} (h:bw_p n a0=some r) :
 Cl 95 #[vI a0] w (aj w fun w' u=>∃ v0_0:Vc,u=v0_0/\Rep.R w' L [v0_0] r):=by
 unfold bw_p at h
 have hS0:=AI w
 refine AJ func95 I I I fun _ cs0 hb0=>Ae<|Af I<|Aa<|Ae<|Af I<|Aa<|Ai<|Ae<|Ab I<|Ab I<|Aa<|Aq ?_
 have v0:=hS0.nilRow 59 (Rep.size (Int×Int))
 have y1:=BW hS0 59 (Rep.size (Int×Int))
 obtain ⟨A1,W0,U0⟩:=ai h
 refine MX.lf (α:=Int×(Lb (Int×Int))×Vc×(Lb Vc)) (fun ⟨b0,g0,d0,k0⟩=>[(0,vI a0),(3,d0),(6,vI a0),(7,vI b0)]) (fun ⟨b0,g0,d0,k0⟩=>[rr w 59 (Int×Int) d0 g0.length k0]) (fun ⟨b0,g0,d0,k0⟩ D0=>Cells D0 (bl [rr w 59 (Int×Int) d0 g0.length k0]++L) k0 g0) (fun ⟨b0,g0,d0,k0⟩=>(b0,g0)) (0,([]:Lb (Int×Int)),vN,[]) W0 v0 (AD (cs:=[]) (xs:=([]:Lb (Int×Int))) v0 L (AK _ _)) ?_
 rintro u1 ⟨b0,g0,d0,k0⟩ D0 I0 s0 P0 B0 h
 unfold bw_l2 at h
 try dsimp only at h
 refine Ae<|Ac (BR (i:=b0) (j:=a0) I I)<|Aa<|Ai<|AO I h (fun F0 h=>?_) (fun F0 h=>?_)
 refine Am<|Ai<|Aq<|Ae<|Ab I<|Af I<|Aa<|Ae<|Ab I<|bk h fun j1 Z0 h=>Ac (Bu (i:=b0) (j:=1) I I Z0)<|Af I<|Aa<|Aq ?_
 obtain ⟨B1,X0,V0⟩:=ai h
 refine MX.lf (α:=Int×(Lb (Int×Int))×Vc×(Lb Vc)) (fun ⟨c0,j0,q0,p0⟩=>[(0,vI a0),(3,q0),(6,vI a0),(7,vI b0),(4,vI b0),(5,vI c0)]) (fun ⟨c0,j0,q0,p0⟩=>[rr w 59 (Int×Int) q0 j0.length p0]) (fun ⟨c0,j0,q0,p0⟩ E0=>Cells E0 (bl [rr w 59 (Int×Int) q0 j0.length p0]++L) p0 j0) (fun ⟨c0,j0,q0,p0⟩=>(c0,j0)) (j1,g0,d0,k0) X0 s0 B0 ?_
 rintro v1 ⟨c0,j0,q0,p0⟩ E0 J0 x0 y0 C0 h
 unfold bw_l1 at h
 try dsimp only at h
 refine Ai<|Ae<|Ab I<|Ab I<|Ac (BR (i:=c0) (j:=a0) I I)<|Aa<|AO I h (fun G0 h=>?_) (fun G0 h=>?_)
 refine Am<|Ai<|Aq<|Ak<|Ab I<|Ab I<|Ab I<|Ac (Bj (vs:=[vI b0,vI c0]) (u:=.agg #[vI b0,vI c0]) (e2 I I) (fun w9=>by kernel_rfl))<|Av .plain I (AS (α:=Int×Int) (xs:=([(b0,c0)]:Lb (Int×Int))) (vs:=[.agg #[vI b0,vI c0]]) (ds' :=[vI b0,vI c0]) I x0 kl I (e1 I) (by kernel_rfl) I) fun C1 x1 t0 z0=>bk h fun s1 g1 h=>RG.doesL .plain I (AL (α:=Int×Int) (ys:=([(b0,c0)]:Lb (Int×Int))) g1 t0 (fun _ _=>.t1) kl I I (Ar C0 z0) (Bx (α:=Int×Int) t0 .hd (AD (cs:=[vI b0,vI c0]) (xs:=(([(b0,c0)]:Lb (Int×Int)):Lb (Int×Int))) t0 L (AE (cs:=[vI b0,vI c0]) (ds:=[]) (ez b0 c0) (AK _ _))))) fun q1 D1 ⟨H0,K0,Q0,R0⟩=>Af I<|Aa<|Ao<|Ak<|Ab I<|bk h fun k1 b1 h=>Ac (Bu (i:=c0) (j:=1) I I b1)<|Af I<|Aa ?_
 obtain ⟨M0,A0⟩:=AX K0 .d1
 exact J0 (k1,s1,q1,H0) M0 (Tt y0 (Tt z0 (Tt Q0 A0))) (Ar R0 A0) h
 refine AT I ?_
 have h:=V0 _ h
 try dsimp only at h
 refine Ao<|Ak<|bk h fun p1 c1 h=>Ac (Bu (i:=b0) (j:=1) I I c1)<|Ab I<|Aa<|I0 (p1,j0,q0,p0) x0 (Tt P0 y0) C0 h
 refine AT I ?_
 have h:=U0 _ h
 try dsimp only at h
 refine Ae<|Ab I<|Af I<|Aa<|Ap I ?_
 have u0:=BL s0 .hd
 have z1:=BM s0 .hd
 have Y0:=BN (α:=Int×Int) (v:=d0) (xs:=g0) u0 L (BA (α:=Int×Int) s0 .hd B0 hL)
 refine AV hb0 func95 I I ?_
 cases h
 exact ⟨u0.ag,fun w9 hw9=>⟨d0,I,u0.kd Y0 hw9⟩⟩
def aG_l1 (_n:Nat) (a0:U8) (a1:U8) (g0:Int->Oa (Int⊕Unit)):Int->Oa (Int⊕Unit)
  | b0=>(if 0<=b0 then (idx ([a0.1,a0.2.1,a0.2.2.1,a0.2.2.2.1,a0.2.2.2.2.1,a0.2.2.2.2.2.1,a0.2.2.2.2.2.2.1,a0.2.2.2.2.2.2.2]:Lb Ua) b0).bind fun c0=>(idx ([a1.1,a1.2.1,a1.2.2.1,a1.2.2.2.1,a1.2.2.2.2.1,a1.2.2.2.2.2.1,a1.2.2.2.2.2.2.1,a1.2.2.2.2.2.2.2]:Lb Ua) b0).bind fun d0=>(if c0=d0 then (chk (b0-1)).bind fun j0=>g0 j0 else (if c0<d0 then some (.inl (-1:Int)) else some (.inl (1:Int)))) else some (.inr ()))
def aG_p (n:Nat) (a0:U8) (a1:U8):Oa Int:=
  thn (ah (aG_l1 n a0 a1) n 7) (fun _=>some (0:Int))
theorem aG_c (n:Nat) {L w} (_hL:hl L w) (a0:U8) (a1:U8)  {r:Int} (h:aG_p n a0 a1=some r) :
 Cl 31 #[.agg ((ae a0)).toArray,.agg ((ae a1)).toArray] w (aj w fun _ u=>u=vI r):=by
 unfold aG_p at h
 refine AJ func31 I I I fun _ cs0 hb0=>Ae<|RG.bx (AI w) I I fun V0 p0 E0 Q0=>RG.bx E0 I I fun W0 q0 F0 R0=>Af I<|Aa<|Ai<|Ae<|Af I<|Aa<|Aq<|tn h fun U0 H0 u0=>MX.lo (α:=Int) (fun b0=>[(2,vP p0),(3,vP q0),(5,vI b0)]) (fun b0=>[.cells q0 (ae a1) 95,.cells p0 (ae a0) 95]) (fun b0=>b0) 7 H0 F0 ?_
 rintro P0 b0 X0 D0 c0 G0 h
 unfold aG_l1 at h
 try dsimp only at h
 refine Ai<|Ae<|Ab I<|Ac (FV.geq (i:=b0) (j:=0) I I)<|Aa<|AO I h (fun A0 h=>?_) (fun A0 h=>?_)
 refine Am<|Ai<|Aq<|Ai<|du 7 fun d0 j0=>Rv 0 d0 I j0 (fun _=>Ah I)<|bk h fun y0 J0 h=>?_
 obtain ⟨v0,s0⟩:=ax J0
 refine Rv 1 d0 I j0 (fun _=>AC (m:=1) (k:=b0.toNat) (len:=8) I I I v0 (dj s0 I))<|Rx 2 64 d0 I j0 (Ay I ((bY (p:=⟨p0,0,none⟩) (cs:=([a0.1,a0.2.1,a0.2.2.1,a0.2.2.2.1,a0.2.2.2.2.1,a0.2.2.2.2.2.1,a0.2.2.2.2.2.2.1,a0.2.2.2.2.2.2.2]:Lb Ua).map (fun z9:Ua=>(vU z9:Vc))++[]) (i:=b0.toNat) (c0.memA .t1) (cW (fun z9:Ua=>(vU z9:Vc)) s0)) 0 _ I))<|Rv 3 d0 I j0 (fun _=>Ah I)<|bk h fun z0 K0 h=>?_
 obtain ⟨x0,t0⟩:=ax K0
 refine Rv 4 d0 I j0 (fun _=>AC (m:=1) (k:=b0.toNat) (len:=8) I I I x0 (dj t0 I))<|Rx 5 64 d0 I j0 (Ay I ((bY (p:=⟨q0,0,none⟩) (cs:=([a1.1,a1.2.1,a1.2.2.1,a1.2.2.2.1,a1.2.2.2.2.1,a1.2.2.2.2.2.1,a1.2.2.2.2.2.2.1,a1.2.2.2.2.2.2.2]:Lb Ua).map (fun z9:Ua=>(vU z9:Vc))++[]) (i:=b0.toNat) (c0.memA .hd) (cW (fun z9:Ua=>(vU z9:Vc)) t0)) 0 _ I))<|Rv 6 d0 I j0 (fun _=>FV.neqU (a:=y0) (b:=z0) I I)<|AQ (dk d0)<|MX.ifn I h (fun B0 h=>?_) (fun B0 h=>?_)
 refine Am<|Ao<|Ak<|Ab I<|bk h fun M0 I0 h=>Ac (FV.subc (i:=b0) (j:=1) I I I0)<|Af I<|Aa<|D0 M0 c0 G0 h
 refine Ai<|Ai<|du 7 fun g0 k0=>Rv 0 g0 I k0 (fun _=>Ah I)<|Rv 1 g0 I k0 (fun _=>AC (m:=1) (k:=b0.toNat) (len:=8) I I I v0 (dj s0 I))<|Rx 2 64 g0 I k0 (Ay I ((bY (p:=⟨p0,0,none⟩) (cs:=([a0.1,a0.2.1,a0.2.2.1,a0.2.2.2.1,a0.2.2.2.2.1,a0.2.2.2.2.2.1,a0.2.2.2.2.2.2.1,a0.2.2.2.2.2.2.2]:Lb Ua).map (fun z9:Ua=>(vU z9:Vc))++[]) (i:=b0.toNat) (c0.memA .t1) (cW (fun z9:Ua=>(vU z9:Vc)) s0)) 0 _ I))<|Rv 3 g0 I k0 (fun _=>Ah I)<|Rv 4 g0 I k0 (fun _=>AC (m:=1) (k:=b0.toNat) (len:=8) I I I x0 (dj t0 I))<|Rx 5 64 g0 I k0 (Ay I ((bY (p:=⟨q0,0,none⟩) (cs:=([a1.1,a1.2.1,a1.2.2.1,a1.2.2.2.1,a1.2.2.2.2.1,a1.2.2.2.2.2.1,a1.2.2.2.2.2.2.1,a1.2.2.2.2.2.2.2]:Lb Ua).map (fun z9:Ua=>(vU z9:Vc))++[]) (i:=b0.toNat) (c0.memA .hd) (cW (fun z9:Ua=>(vU z9:Vc)) t0)) 0 _ I))<|Rv 6 g0 I k0 (fun _=>FV.lssU (a:=y0) (b:=z0) I I)<|AQ (dk g0)<|AO I h (fun C0 h=>?_) (fun C0 h=>?_)
 refine Ae<|Af I<|Aa ?_
 have h:=aO h u0
 refine Ap I<|AV hb0 func31 I I ?_
 cases h
 exact c0.gv
 refine Am<|Ae<|Af I<|Aa ?_
 have h:=aO h u0
 refine Ap I<|AV hb0 func31 I I ?_
 cases h
 exact c0.gv
 refine AT I ?_
 have h:=bD h u0
 try dsimp only at h
 refine Ae<|Af I<|Aa<|Ap I<|AV hb0 func31 I I ?_
 cases h
 exact c0.gv
def bN_p (n:Nat) (a0:Ti):Oa ((U8)×Int):=
  (aG_p n a0.fj (0,0,0,0,0,0,0,9223372036854775808)).bind fun b0=>(if 0<b0 then some ((0,0,0,0,0,0,0,0),(6:Int)) else (if b0=0 then (if a0.fe=true then (aZ_p n (0,0,0,0,0,0,0,0) a0.fj).bind fun c0=>some (c0.1,(0:Int)) else some ((0,0,0,0,0,0,0,0),(6:Int))) else (if a0.fe=true then (aZ_p n (0,0,0,0,0,0,0,0) a0.fj).bind fun d0=>some (d0.1,(0:Int)) else some (a0.fj,(0:Int)))))
theorem bN_c (n:Nat) {L w} (hL:hl L w) (a0:Ti)  {r:(U8)×Int} (h:bN_p n a0=some r) :
 Cl 105 #[.agg ((kP a0)).toArray] w (aj w fun _ u=>u=.tuple #[.agg ((ae r.1)).toArray,vI r.2]):=by
 unfold bN_p at h
 refine AJ func105 I I I fun _ cs0 hb0=>Ae<|RG.bx (AI w) I I fun Z0 G0 A0 J0=>RG.nl zP A0 fun b1 H0 B0 K0=>Af I<|Aa<|Ae<|Ac (Bj (vs:=[vW 9223372036854775808]) (u:=.agg #[vW 0,vW 0,vW 0,vW 0,vW 0,vW 0,vW 0,vW 9223372036854775808]) (e1 I) (fun w9=>by kernel_rfl))<|RG.nl zP B0 fun c1 I0 C0 M0=>RG.now .plain (Az (news:=[vW 0,vW 0,vW 0,vW 0,vW 0,vW 0,vW 0,vW 9223372036854775808]) C0 .hd I I I I I (.refl 8) (aC I)) fun d1 b0 P0=>Aa<|Ai<|Ae<|Bh 1 I<|Ac (BK (cs:=(ae a0.fj)) I I (ay (b0.memA .t2) 1 8))<|Ac (AP I (b0.memA .hd))<|bk h fun g0 D0 h=>Bz (vI g0) (bd 31) I (e2 I I) (fun w9 hw9=>aG_c n (b0.hL0 hL hw9) a0.fj (0,0,0,0,0,0,0,9223372036854775808) D0) I<|Af I<|Aa<|Ae<|Ab I<|Ac (FV.gtr (i:=g0) (j:=0) I I)<|Ab I<|BD (s:=13) I h (fun x0 h=>?_) (fun x0 h=>?_)
 refine Aj<|Aj<|Aj<|BU<|BU<|BU<|Aj<|Bm I I<|Aa<|Ba I<|Ae<|Ac (Bj (vs:=[]) (u:=.agg zQ) aB (fun w9=>by kernel_rfl))<|Bl zP b0 .t1 (aC I) fun g1 k0 Q0=>Af I<|Aa<|Ap I<|Aw hb0 func105 I (.cons (.many (cs:=zP) I I (k0.memA .t1)) (.cons (.tmp I) .nil)) I ?_
 cases h
 exact k0.gv
 refine Au (Ah I)<|Au (BT (i:=g0) (j:=0) I I)<|Au (Ah I)<|BD (s:=16) I h (fun y0 h=>?_) (fun y0 h=>?_)
 refine RG.fg 0 I<|Au (Ay I ((b0.memA .t2) 0 _ I))<|Au (BV I)<|Au (BJ I I)<|Bo I I<|Aa<|MX.ifnb I h (fun j0 h=>?_) (fun j0 h=>?_)
 refine Am<|Ai<|Ae<|Bh 0 I<|AG I ((b0.memA .t2) 0 _ I)<|Aa<|MX.cond_kt I j0<|Ak<|Ac (Bj (vs:=[]) (u:=.agg zQ) aB (fun w9=>by kernel_rfl))<|Bh 1 I<|Ac (BK (cs:=(ae a0.fj)) I I (ay (b0.memA .t2) 1 8))<|bk h fun c0 E0 h=>Bz (.tuple #[.agg ((ae c0.1)).toArray,vU c0.2]) (bd 129) I (e2 I I) (fun w9 hw9=>aZ_c n (b0.hL0 hL hw9) (0,0,0,0,0,0,0,0) a0.fj E0) I<|Ab I<|Ac (Al I I)<|Ac (Al I I)<|Bh 1 I<|RG.now .plain (BI (j:=1) (old:=(kP a0)) (news:=(ae c0.1)) (new' :=(([.bool a0.fe]:Lb Vc)++ae c0.1)) b0 .t2 I I I I I I (aC I) I) fun j1 p0 R0=>Aa<|Ae<|Bh 1 I<|Ac (BK (cs:=(ae c0.1)) I I (ay (p0.memA .t2) 1 8))<|Bl (ae c0.1) p0 .t1 (aC I) fun k1 q0 U0=>Af I<|Aa<|Ap I<|Aw hb0 func105 I (.cons (.many (cs:=(ae c0.1)) I I (q0.memA .t1)) (.cons (.tmp I) .nil)) I ?_
 cases h
 exact q0.gv
 refine Ae<|Ac (Bj (vs:=[]) (u:=.agg zQ) aB (fun w9=>by kernel_rfl))<|Bl zP b0 .t1 (aC I) fun p1 s0 V0=>Af I<|Aa<|Ap I<|Aw hb0 func105 I (.cons (.many (cs:=zP) I I (s0.memA .t1)) (.cons (.tmp I) .nil)) I ?_
 cases h
 exact s0.gv
 refine Aj<|Aj<|Aj<|Au (BS I I)<|Bo I I<|Aa<|Bn I<|Am<|Ai<|Ae<|Bh 0 I<|AG I ((b0.memA .t2) 0 _ I)<|Aa<|MX.ifb I h (fun z0 h=>?_) (fun z0 h=>?_)
 refine Ak<|Ac (Bj (vs:=[]) (u:=.agg zQ) aB (fun w9=>by kernel_rfl))<|Bh 1 I<|Ac (BK (cs:=(ae a0.fj)) I I (ay (b0.memA .t2) 1 8))<|bk h fun d0 F0 h=>Bz (.tuple #[.agg ((ae d0.1)).toArray,vU d0.2]) (bd 129) I (e2 I I) (fun w9 hw9=>aZ_c n (b0.hL0 hL hw9) (0,0,0,0,0,0,0,0) a0.fj F0) I<|Ab I<|Ac (Al I I)<|Ac (Al I I)<|Bh 1 I<|RG.now .plain (BI (j:=1) (old:=(kP a0)) (news:=(ae d0.1)) (new' :=(([.bool a0.fe]:Lb Vc)++ae d0.1)) b0 .t2 I I I I I I (aC I) I) fun q1 t0 W0=>Aa<|Ae<|Bh 1 I<|Ac (BK (cs:=(ae d0.1)) I I (ay (t0.memA .t2) 1 8))<|Bl (ae d0.1) t0 .t1 (aC I) fun s1 u0 X0=>Af I<|Aa<|Ap I<|Aw hb0 func105 I (.cons (.many (cs:=(ae d0.1)) I I (u0.memA .t1)) (.cons (.tmp I) .nil)) I ?_
 cases h
 exact u0.gv
 refine Am<|Ae<|Bh 1 I<|Ac (BK (cs:=(ae a0.fj)) I I (ay (b0.memA .t2) 1 8))<|Bl (ae a0.fj) b0 .t1 (aC I) fun u1 v0 Y0=>Af I<|Aa<|Ap I<|Aw hb0 func105 I (.cons (.many (cs:=(ae a0.fj)) I I (v0.memA .t1)) (.cons (.tmp I) .nil)) I ?_
 cases h
 exact v0.gv
def aT_p (n:Nat) (a0:Tb):Oa ((U8)×Int):=
  (if 8<a0.fk.length then some ((0,0,0,0,0,0,0,0),(6:Int)) else (bN_p n (⟨a0.fe,(aw a0.fk 0 (0:Ua),aw a0.fk 1 (0:Ua),aw a0.fk 2 (0:Ua),aw a0.fk 3 (0:Ua),aw a0.fk 4 (0:Ua),aw a0.fk 5 (0:Ua),aw a0.fk 6 (0:Ua),aw a0.fk 7 (0:Ua))⟩:Ti)).bind fun b0=>some (b0.1,b0.2))
theorem aT_c (n:Nat) {L w} (hL:hl L w) (a0:Tb) {v0_1:Vc} (h0_1:Rep.R w L [v0_1] a0.fk)  {r:(U8)×Int} (h:aT_p n a0=some r) :
 Cl 69 #[.agg #[.bool a0.fe,v0_1]] w (aj w fun _ u=>u=.tuple #[.agg ((ae r.1)).toArray,vI r.2]):=by
 unfold aT_p at h
 refine AJ func69 I I I fun _ cs0 hb0=>Ae<|RG.bx (AI w) I I fun M0 A0 v0 C0=>RG.nl zP v0 fun P0 B0 c0 D0=>Af I<|Aa<|Ai<|Ae<|Bh 1 I<|AG I ((c0.memA .t1) 1 _ I) ?_
 have s0:=AH h0_1 c0
 have J0:=AY s0
 refine Ac (Bf (xs:=a0.fk) underlying101 I s0)<|Ac (FV.gtrN (i:=a0.fk.length) (j:=8) I I)<|Aa<|AO I h (fun u0 h=>?_) (fun u0 h=>?_)
 refine Ae<|Ac (Bj (vs:=[]) (u:=.agg zQ) aB (fun w9=>by kernel_rfl))<|Bl zP c0 .hd (aC I) fun Q0 p0 E0=>Af I<|Aa<|Ap I<|Aw hb0 func69 I (.cons (.many (cs:=zP) I I (p0.memA .hd)) (.cons (.tmp I) .nil)) I ?_
 cases h
 exact p0.gv
 refine Am<|Ae<|Bh 0 I<|AG I ((c0.memA .t1) 0 _ I)<|Ac (Bj (vs:=[.bool a0.fe]) (u:=.agg #[.bool a0.fe,vW 0,vW 0,vW 0,vW 0,vW 0,vW 0,vW 0,vW 0]) (e1 I) (fun w9=>by kernel_rfl))<|RG.nl [.bool false,vW 0,vW 0,vW 0,vW 0,vW 0,vW 0,vW 0,vW 0] c0 fun R0 t0 x0 F0=>Bl [.bool a0.fe,vW 0,vW 0,vW 0,vW 0,vW 0,vW 0,vW 0,vW 0] x0 .hd (aC I) fun U0 j0 G0=>Aa<|Ai<|du 4 fun b0 d0=>Rv 0 b0 I d0 (fun _=>Bv 1 I)<|Rx 1 16 b0 I d0 (FV.sliceA (len:=8) (m:=1) (p:=Addr.add ⟨t0,0,none⟩ 1) I I)<|Rv 2 b0 I d0 (fun _=>Bv 1 I)<|Rx 3 16 b0 I d0 (Ay I ((j0.memA .t2) 1 _ I))<|Bb (i:=4) (rk b0) (AZ (m' :=31) (sk b0) I I .plain I (DoesL.copyArr (fun z9:Ua=>(vU z9:Vc)) (olds:=([(0:Ua),0,0,0,0,0,0,(0:Ua)]:Lb Ua)) (ys:=a0.fk) (pre:=[.bool a0.fe]) (post:=[]) (old:=[.bool a0.fe,vW 0,vW 0,vW 0,vW 0,vW 0,vW 0,vW 0,vW 0]) (new' :=[.bool a0.fe,vW ((aw a0.fk 0 (0:Ua)).toNat:Int),vW ((aw a0.fk 1 (0:Ua)).toNat:Int),vW ((aw a0.fk 2 (0:Ua)).toNat:Int),vW ((aw a0.fk 3 (0:Ua)).toNat:Int),vW ((aw a0.fk 4 (0:Ua)).toNat:Int),vW ((aw a0.fk 5 (0:Ua)).toNat:Int),vW ((aw a0.fk 6 (0:Ua)).toNat:Int),vW ((aw a0.fk 7 (0:Ua)).toNat:Int)]) I (fun _ _ _ _ h9=>h9) j0 .hd I I I I I I I I (BO (AH h0_1 j0))) (fun K0 V0 ⟨y0,k0,H0⟩=>?_))
 subst y0
 refine AQ (dk b0)<|Ae<|Ac (AP I (k0.memA .hd))<|bk h fun g0 z0 h=>Bz (.tuple #[.agg ((ae g0.1)).toArray,vI g0.2]) (bd 105) I (e1 I) (fun w9 hw9=>bN_c n (k0.hL0 hL hw9) (⟨a0.fe,(aw a0.fk 0 (0:Ua),aw a0.fk 1 (0:Ua),aw a0.fk 2 (0:Ua),aw a0.fk 3 (0:Ua),aw a0.fk 4 (0:Ua),aw a0.fk 5 (0:Ua),aw a0.fk 6 (0:Ua),aw a0.fk 7 (0:Ua))⟩:Ti) z0) I<|Ac (Al I I)<|Ac (Al I I)<|Bl (ae g0.1) k0 .t1 (aC I) fun W0 q0 I0=>Af I<|Aa<|Ap I<|Aw hb0 func69 I (.cons (.many (cs:=(ae g0.1)) I I (q0.memA .t1)) (.cons (.tmp I) .nil)) I ?_
 cases h
 exact q0.gv
def cu_p (n:Nat) (a0:Tc) (a1:Ua):Oa Int:=
  (aQ_p n a0).bind fun b0=>(if b0=0 then (if a1=(0:Ua) then some (2:Int) else (aO_p n a1).bind fun c0=>(if a0.fN<c0 then some (2:Int) else some (0:Int))) else some b0)
theorem cu_c (n:Nat) {L w} (hL:hl L w) (a0:Tc) {v0_1:Vc} (h0_1:Rep.R w L [v0_1] a0.fo) (a1:Ua)  {r:Int} (h:cu_p n a0 a1=some r) :
 Cl 134 #[.agg #[vI a0.fN,v0_1],vU a1] w (aj w fun _ u=>u=vI r):=by
 unfold cu_p at h
 refine AJ func134 I I I fun _ cs0 hb0=>Ae<|RG.bx (AI w) I I fun y0 v0 d0 x0=>Af I<|Aa<|Ai<|Ae<|Ac (AP I (d0.memA .hd))<|bk h fun g0 t0 h=>Bz (vI g0) (bd 83) I (e1 I) (fun w9 hw9=>aQ_c n (d0.hL0 hL hw9) a0 (d0.k0 h0_1 hw9) t0) I<|Af I<|Aa<|Ae<|Ab I<|Ac (FV.neq (i:=g0) (j:=0) I I)<|Aa<|MX.ifn I h (fun p0 h=>?_) (fun p0 h=>?_)
 refine Am<|Ai<|Ai<|du 9 fun b0 c0=>Rv 0 b0 I c0 (fun _=>Ah I)<|Rv 1 b0 I c0 (fun _=>FV.eqlU (a:=a1) (b:=(0:Ua)) I I)<|Rv 2 b0 I c0 (fun _=>Ah I)<|RD.ifd (s:=13) I h (fun q0 h=>?_) (fun q0 h=>?_)
 refine RD.offs 255 1 [(3,14),(4,15),(5,16),(6,17),(7,18)] (F:=[(13,true)]) (U:=[]) b0 c0 (.cons I .nil) .nil ?_
 dsimp only [gl,List.map]
 refine Rv 8 b0 I c0 (fun _=>BJ I I)<|AQ (dk b0)<|Ba I<|Ae<|Af I<|Aa<|Ap I<|AV hb0 func134 I I ?_
 cases h
 exact d0.gv
 refine RD.vP 3 15 b0 I c0 (.yes I I) (fun _=>Ah I) I<|bk h fun j0 u0 h=>RD.callq (i:=4) (m' :=31) (W:=384) (tk b0) I c0 (v:=vI j0) (fst:=[]) (cap:=[]) (.yes I I) (bd 79) I (e1 I) (fun w9 hw9=>aO_c n (d0.hL0 hL hw9) a1 u0) I<|RD.vP 5 63 b0 I c0 (.yes I I) (fun _=>Bv 0 I) I<|RD.val (i:=6) (m' :=127) (W:=384) (tk b0) I c0 (.yes I I) (Ay I ((d0.memA .hd) 0 _ I)) I<|RD.vP 7 255 b0 I c0 (.yes I I) (fun _=>FV.gtr (i:=j0) (j:=a0.fN) I I) I<|Rv 8 b0 I c0 (fun _=>BS I I)<|AQ (dk b0)<|AO I h (fun s0 h=>?_) (fun s0 h=>?_)
 refine Ae<|Af I<|Aa<|Ap I<|AV hb0 func134 I I ?_
 cases h
 exact d0.gv
 refine Am<|Ae<|Af I<|Aa<|Ap I<|AV hb0 func134 I I ?_
 cases h
 exact d0.gv
 refine Ae<|Ab I<|Af I<|Aa<|Ap I<|AV hb0 func134 I I ?_
 cases h
 exact d0.gv
def cr_p (_n:Nat) (a0:Ua) (a1:Int×Int):Oa Bool:=
  (bb a1.1).bind fun b0=>(if ((shrU a0 b0)&&&(1:Ua))=(1:Ua) then (bb a1.2).bind fun c0=>some (decide (((shrU a0 c0)&&&(1:Ua))=(1:Ua))) else some false)
theorem cr_c (n:Nat) {L w} (_hL:hl L w) (a0:Ua) (a1:Int×Int)  {r:Bool} (h:cr_p n a0 a1=some r) :
 Cl 157 #[vU a0,.agg #[vI a1.1,vI a1.2]] w (aj w fun _ u=>u=.bool r):=by
 unfold cr_p at h
 refine AJ func157 I I I fun _ cs0 hb0=>Ae<|RG.bx (AI w) I I fun s0 p0 b0 q0=>Af I<|Aa<|Ae<|Ab I<|Ac (AC (m:=1) (k:=0) (len:=2) I I I I (by omega))<|AG I ((b0.memA .hd) 0 _ I)<|bk h fun c0 j0 h=>Ac (FV.shrI (a:=a0) (i:=a1.1) I I j0)<|Ac (Br (a:=shrU a0 c0) (b:=(1:Ua)) I I)<|Ac (FV.eqlU (a:=(shrU a0 c0)&&&(1:Ua)) (b:=(1:Ua)) I I)<|Ab I<|BD (s:=11) I h (fun g0 h=>?_) (fun g0 h=>?_)
 refine Au (Ah I)<|Au (AC (m:=1) (k:=1) (len:=2) I I I I (by omega))<|Au (Ay I ((b0.memA .hd) 1 _ I))<|bk h fun d0 k0 h=>Au (FV.shrI (a:=a0) (i:=a1.2) I I k0)<|Au (Br (a:=shrU a0 d0) (b:=(1:Ua)) I I)<|Au (FV.eqlU (a:=(shrU a0 d0)&&&(1:Ua)) (b:=(1:Ua)) I I)<|Bm I I<|Af I<|Aa<|Ap I<|AV hb0 func157 I I ?_
 cases h
 exact b0.gv
 refine Aj<|Aj<|Aj<|Aj<|Aj<|Aj<|Bo I I<|Af I<|Aa<|Ap I<|AV hb0 func157 I I ?_
 cases h
 exact b0.gv
theorem cB_c (_n:Nat) {L w} (_hL:hl L w) (a0:Tc) {v0_1:Vc} (_h0_1:Rep.R w L [v0_1] a0.fo) (a1:Ua)  :
 Cl 147 #[.agg #[vI a0.fN,v0_1],vU a1] w (aj w fun w' u=>∃ b0 c0:Nat,u=.func (.func 156) #[] #[vP b0,vP c0]/\St w w' [.cells b0 [vI a0.fN,v0_1] 32,.cells c0 [vU a1] 44]):=by
 refine AJ func147 I I I fun _ cs0 hb0=>Ae<|RG.bx (AI w) I I fun t0 b0 j0 p0=>RG.bx j0 I I fun u0 c0 k0 q0=>Af I<|Aa<|Ae<|Ac (FV.makeFunc (vs:=[]) (us:=[vP b0,vP c0]) aB (e2 I I))<|Af I<|Aa<|Ap I<|Aw (u:=.func (.func 156) #[] #[vP b0,vP c0]) hb0 func147 I (.cons (.tmp I) .nil) I ?_
 obtain ⟨g0,s0⟩:=AX k0 (.a1 .d0)
 exact ⟨g0.ag,fun w9 hw9=>⟨b0,c0,I,g0.agree hw9⟩⟩
def aA_l1 (_n:Nat) (a0:Lb Int) (d0:Int->Oa Int):Int->Oa Int
  | b0=>(idx a0 b0).bind fun c0=>(if c0=b0 then some b0 else d0 c0)
def aA_p (n:Nat) (a0:Lb Int) (a1:Int):Oa Int:=
  Option.bind (ah (aA_l1 n a0) n a1) (fun b0=>some b0)
theorem aA_c (n:Nat) {L w} (_hL:hl L w) {a0:Lb Int} {v0_0:Vc} (h0_0:Rep.R w L [v0_0] a0) {a1:Int}  {r:Int} (h:aA_p n a0 a1=some r) :
 Cl 149 #[v0_0,vI a1] w (aj w fun _ u=>u=vI r):=by
 unfold aA_p at h
 refine AJ func149 I I I fun _ cs0 hb0=>Ae<|Af I<|Aa<|Ai<|Aq ?_
 obtain ⟨F0,y0,x0⟩:=ai h
 refine MX.lo (α:=Int) (fun b0=>[(0,v0_0),(1,vI b0)]) (fun b0=>[]) (fun b0=>b0) a1 y0 (AI w) ?_
 rintro D0 b0 G0 t0 c0 u0 h
 unfold aA_l1 at h
 try dsimp only at h
 refine Ai<|Ae<|Ab I<|Ab I<|bk h fun d0 A0 h=>?_
 obtain ⟨j0,B0⟩:=ax A0
 obtain ⟨C0,E0,g0,k0,s0,z0,p0⟩:=Bq (AH h0_0 c0) B0
 have v0:s0=[vI d0]:=z0; subst v0
 refine Ac (AU 1 (b0.toNat) I g0 I j0 k0)<|AG I (p0 0 _ I)<|Ab I<|Ac (FV.neq (i:=d0) (j:=b0) I I)<|Aa<|MX.ifn I h (fun q0 h=>?_) (fun q0 h=>?_)
 refine AT I ?_
 have h:=x0 _ h
 try dsimp only at h
 refine Ae<|Ab I<|Af I<|Aa<|Ap I<|AV hb0 func149 I I ?_
 cases h
 exact c0.gv
 refine Am<|Aq<|Ak<|Ab I<|Ab I<|Ac (AU 1 (b0.toNat) I g0 I j0 k0)<|AG I (p0 0 _ I)<|Af I<|Aa<|Ao<|t0 d0 c0 u0 h
def bP_l1 (_n:Nat) (xs4:Lb Ua) (xs7:Lb Ua) (k0:Ua×Nat×(Lb Ua)->Oa ((Lb Ua)×Ua)):Ua×Nat×(Lb Ua)->Oa ((Lb Ua)×Ua)
  | (g0,b0,c0)=>(if b0<xs4.length then (xs4[b0]?).bind fun q0=>jn (fun p0=>(add64 q0 p0 g0).bind fun j0=>(c0[b0]?).bind fun _x199=>(put c0 ((b0:Nat):Int) j0.1).bind fun t0=>k0 (j0.2,b0+1,t0)) (fun d0=>(if b0<xs7.length then (xs7[b0]?).bind fun s0=>d0 s0 else d0 (0:Ua))) else some (c0,g0))
def bP_p (n:Nat) (a0:Lb Ua) (a1:Lb Ua):Oa (Lb Ua):=
  jn (fun (xs4,xs7)=>(mk ((xs4.length+1:Nat):Int) (0:Ua)).bind fun g0=>Option.bind (ah (bP_l1 n xs4 xs7) n (0,0,g0)) (fun (c0,d0)=>(c0[xs4.length]?).bind fun _x229=>(put c0 ((xs4.length:Nat):Int) d0).bind fun j0=>some j0)) (fun b0=>(if a0.length<a1.length then b0 (a1,a0) else b0 (a0,a1)))
theorem bP_c (n:Nat) {L w} (hL:hl L w) {a0:Lb Ua} {v0_0:Vc} (h0_0:Rep.R w L [v0_0] a0) {a1:Lb Ua} {v1_0:Vc} (h1_0:Rep.R w L [v1_0] a1)  {r:Lb Ua} (h:bP_p n a0 a1=some r) :
 Cl 137 #[v0_0,v1_0] w (aj w fun w' u=>∃ v0_0:Vc,u=v0_0/\Rep.R w' L [v0_0] r):=by
 unfold bP_p at h
 have hS0:=AI w
 refine AJ func137 I I I fun _ cs0 hb0=>Ae<|Af I<|Aa<|Ai<|Ae<|Ab I ?_
 have hl1:=AY h0_0
 refine Ac (Bf (xs:=a0) underlying101 I h0_0)<|Ab I ?_
 have hl2:=AY h1_0
 refine Ac (Bf (xs:=a1) underlying101 I h1_0)<|Ac (Bp (i:=a0.length) (j:=a1.length) I I)<|Aa<|MX.jf (α:=(Lb Ua)×(Lb Ua)×Vc×Vc) (fun ⟨xs4,xs7,v5,v8⟩=>[(0,v5),(1,v8)]) (fun ⟨xs4,xs7,v5,v8⟩=>[]) (fun ⟨xs4,xs7,v5,v8⟩ wx9=>Rep.R wx9 (bl []++L) [v5] xs4/\Rep.R wx9 (bl []++L) [v8] xs7) (fun ⟨xs4,xs7,v5,v8⟩=>(xs4,xs7)) hS0 h ?_ ?_
 rintro ⟨xs4,xs7,v5,v8⟩ wx9 q1 D2 ⟨hr6,hr9⟩ h
 try dsimp only at h
 refine Ae<|Ab I ?_
 have G2:=AY hr6
 refine Ac (Bf (xs:=xs4) underlying101 I hr6)<|Ac (AW (i:=xs4.length) (j:=1) I I (by omega))<|bk h fun R0 M0 h=>Av .plain I (Does.mk (α:=Ua) M0 q1 bT I) fun M2 j0 E0 s0=>Af I<|Aa<|Ae<|Af I<|Aa<|Ai<|Ae<|Ab I<|Ac (Bf (xs:=xs4) underlying101 I (AB hr6 s0))<|Ab I<|Aa<|Aq ?_
 obtain ⟨K2,J1,E1⟩:=ai h
 refine MX.lf (α:=Ua×Nat×(Lb Ua)×(Lb Vc)) (fun ⟨g0,b0,c0,d0⟩=>[(0,v5),(1,v8),(5,(.slice (some ⟨j0,0,none⟩) ((xs4.length+1:Nat):Int).toNat ((xs4.length+1:Nat):Int).toNat)),(6,vU g0),(21,v5),(22,vn xs4.length),(23,vn b0)]) (fun ⟨g0,b0,c0,d0⟩=>[rr w 44 Ua (.slice (some ⟨j0,0,none⟩) ((xs4.length+1:Nat):Int).toNat ((xs4.length+1:Nat):Int).toNat) c0.length d0]) (fun ⟨g0,b0,c0,d0⟩ P0=>Cells P0 (bl [rr w 44 Ua (.slice (some ⟨j0,0,none⟩) ((xs4.length+1:Nat):Int).toNat ((xs4.length+1:Nat):Int).toNat) c0.length d0]++L) d0 c0) (fun ⟨g0,b0,c0,d0⟩=>(g0,b0,c0)) (0,0,R0,(List.replicate ((xs4.length+1:Nat):Int).toNat [vW 0]).flatten) J1 E0 (AD (cs:=(List.replicate ((xs4.length+1:Nat):Int).toNat [vW 0]).flatten) (xs:=R0) E0 L (Cells.mk M0 I)) ?_
 rintro t2 ⟨g0,b0,c0,d0⟩ P0 p1 k0 q0 x0 h
 unfold bP_l1 at h
 try dsimp only at h
 refine Ae<|Ac (Bp (i:=b0) (j:=xs4.length) I I)<|Aa<|Ai<|AO I h (fun Y0 h=>?_) (fun Y0 h=>?_)
 refine Am<|Ai<|Aq<|Ae<|Ab I<|bk h fun B0 U1 h=>?_
 obtain ⟨p2,v2,y1,F1,c1,K1,H1⟩:=Bq (AB hr6 (Tt s0 q0)) U1
 have z1:c1=[vU B0]:=K1; subst z1
 refine Ac (AU 1 b0 I y1 I I F1)<|AG I (H1 0 _ I)<|Af I<|Af I<|Aa<|Ae<|Af I<|Aa<|Ai<|Ae<|Ab I<|Ab I ?_
 have A0:=AB hr9 (Tt s0 q0)
 have H2:=AY A0
 refine Ac (Bf (xs:=xs7) underlying101 I A0)<|Ac (Bp (i:=b0) (j:=xs7.length) I I)<|Aa<|MX.jo (α:=Ua) (fun p0=>[(0,v5),(1,v8),(5,(.slice (some ⟨j0,0,none⟩) ((xs4.length+1:Nat):Int).toNat ((xs4.length+1:Nat):Int).toNat)),(6,vU g0),(21,v5),(22,vn xs4.length),(23,vn b0),(7,vn b0),(8,vU B0),(9,vU p0)]) (fun p0=>[rr w 44 Ua (.slice (some ⟨j0,0,none⟩) ((xs4.length+1:Nat):Int).toNat ((xs4.length+1:Nat):Int).toNat) c0.length d0]) (fun p0=>p0) k0 h ?_ ?_
 rintro p0 R2 t0 F0 h
 try dsimp only at h
 refine Ak<|Ab I<|Ab I<|Ab I<|Ab I<|Ab I<|bk h fun k2 b2 h=>Ac (FV.add64 (a:=B0) (b:=p0) (c:=g0) func153 I I I I I I I b2)<|Ab I<|Ac (Al I I)<|Ac (Al I I)<|bk h fun c2 V1 h=>?_
 have K0:=Ar x0 F0
 obtain ⟨U0,x2,y0,I0,d1,M1,I2⟩:=BF (α:=Ua) t0 .hd K0 V1
 obtain ⟨W0,y2,G0⟩:=Bd (α:=Ua) t0 .hd I0
 obtain rfl:U0=⟨W0,0,none⟩:=by rw [G0] at y0; cases y0; rfl
 have A1:d1=[vU c2]:=M1; subst A1
 refine Ac (AU 1 b0 I y0 I I I0)<|bk h fun g2 Y1 h=>RG.acts' .plain (BE (α:=Ua) (i:=b0) Y1 t0 G0 (fun _=>.hd) K0 I I I I I I) fun P2 ⟨g1,s1,u1,v1⟩=>Af I<|Aa<|Ao<|Ak<|Ac (AW (i:=b0) (j:=1) I I (by omega))<|Ab I<|Aa<|p1 (k2.2,b0+1,g2,g1) s1 (Tt q0 (Tt F0 u1)) v1 h
 intro u2 D0 h
 try dsimp only at h
 refine AO I h (fun Z0 h=>?_) (fun Z0 h=>?_)
 refine Ak<|Ab I<|Ab I<|bk h fun Q0 W1 h=>?_
 obtain ⟨q2,z2,B1,G1,j1,P1,I1⟩:=Bq A0 W1
 have C1:j1=[vU Q0]:=P1; subst C1
 refine Ac (AU 1 b0 I B1 I I G1)<|AG I (I1 0 _ I)<|Af I<|Aa<|D0 Q0 k0 (By _ _) h
 refine Am<|D0 (0:Ua) k0 (By _ _) h
 refine AT I ?_
 have h:=E1 _ h
 try dsimp only at h
 refine Ae<|Ab I<|Ab I<|Ac (Bf (xs:=xs4) underlying101 I (AB hr6 (Tt s0 q0)))<|Ab I<|bk h fun d2 X1 h=>?_
 obtain ⟨V0,A2,z0,J0,k1,Q1,J2⟩:=BF (α:=Ua) k0 .hd x0 X1
 obtain ⟨X0,B2,H0⟩:=Bd (α:=Ua) k0 .hd J0
 obtain rfl:V0=⟨X0,0,none⟩:=by rw [H0] at z0; cases z0; rfl
 have D1:k1=[vU d2]:=Q1; subst D1
 refine Ac (AU 1 (xs4.length) I z0 I I J0)<|bk h fun j2 Z1 h=>RG.acts' .plain (BE (α:=Ua) (i:=xs4.length) Z1 k0 H0 (fun _=>.hd) x0 I I I I I I) fun Q2 ⟨C2,u0,E2,x1⟩=>Aa<|Ae<|Ab I<|Af I<|Aa<|Ap I ?_
 have v0:=BL u0 .hd
 have F2:=BM u0 .hd
 have R1:=BN (α:=Ua) (v:=(.slice (some ⟨j0,0,none⟩) ((xs4.length+1:Nat):Int).toNat ((xs4.length+1:Nat):Int).toNat)) (xs:=j2) v0 L (BA (α:=Ua) u0 .hd x1 hL)
 refine AV hb0 func137 I I ?_
 cases h
 exact ⟨v0.ag,fun w9 hw9=>⟨(.slice (some ⟨j0,0,none⟩) ((xs4.length+1:Nat):Int).toNat ((xs4.length+1:Nat):Int).toNat),I,v0.kd R1 hw9⟩⟩
 intro s2 C0 h
 try dsimp only at h
 refine AO I h (fun b1 h=>?_) (fun b1 h=>?_)
 refine Ak<|Ab I<|Ab I<|Af I<|Af I<|Aa<|C0 (a1,a0,v1_0,v0_0) hS0 (By _ _) ⟨h1_0,h0_0⟩ h
 refine Am<|C0 (a0,a1,v0_0,v1_0) hS0 (By _ _) ⟨h0_0,h1_0⟩ h
def bp_l1 (_n:Nat) (a0:Lb Ua) (a1:Lb Ua) (g0:Int->Oa (Int⊕Unit)):Int->Oa (Int⊕Unit)
  | b0=>(if 0<=b0 then (idx a0 b0).bind fun c0=>(idx a1 b0).bind fun d0=>(if c0<d0 then some (.inl (-1:Int)) else (if d0<c0 then some (.inl (1:Int)) else (chk (b0-1)).bind fun j0=>g0 j0)) else some (.inr ()))
def bp_p (n:Nat) (a0:Lb Ua) (a1:Lb Ua):Oa Int:=
  (if a0.length=a1.length then thn (ah (bp_l1 n a0 a1) n (((a0.length:Nat):Int)-1)) (fun _=>some (0:Int)) else some (((a0.length:Nat):Int)-((a1.length:Nat):Int)))
theorem bp_c (n:Nat) {L w} (_hL:hl L w) {a0:Lb Ua} {v0_0:Vc} (h0_0:Rep.R w L [v0_0] a0) {a1:Lb Ua} {v1_0:Vc} (h1_0:Rep.R w L [v1_0] a1)  {r:Int} (h:bp_p n a0 a1=some r) :
 Cl 138 #[v0_0,v1_0] w (aj w fun _ u=>u=vI r):=by
 unfold bp_p at h
 have hS0:=AI w
 refine AJ func138 I I I fun _ cs0 hb0=>Ae<|Af I<|Aa<|Ai<|Ae<|Ab I ?_
 have hl1:=AY h0_0
 refine Ac (Bf (xs:=a0) underlying101 I h0_0)<|Ab I ?_
 have hl2:=AY h1_0
 refine Ac (Bf (xs:=a1) underlying101 I h1_0)<|Ac (FV.neqN (i:=a0.length) (j:=a1.length) I I)<|Aa<|MX.ifn I h (fun c3 h=>?_) (fun c3 h=>?_)
 refine Am<|Ai<|Ae<|Ab I<|Ac (Bf (xs:=a0) underlying101 I h0_0)<|Ac (FV.subI (i:=((a0.length:Nat):Int)) (j:=1) I I (by omega))<|Af I<|Aa<|Aq<|tn h fun j1 M0 p0=>MX.lo (α:=Int) (fun d0=>[(0,v0_0),(1,v1_0),(5,vI d0)]) (fun d0=>[]) (fun d0=>d0) (((a0.length:Nat):Int)-1) M0 hS0 ?_
 rintro c1 d0 k1 H0 k0 I0 h
 unfold bp_l1 at h
 try dsimp only at h
 refine Ai<|Ae<|Ab I<|Ac (FV.geq (i:=d0) (j:=0) I I)<|Aa<|AO I h (fun C0 h=>?_) (fun C0 h=>?_)
 refine Am<|Ai<|Aq<|Aq<|Ai<|du 10 fun b0 g0=>Rv 0 b0 I g0 (fun _=>Ah I)<|Rv 1 b0 I g0 (fun _=>Ah I)<|bk h fun q0 U0 h=>?_
 obtain ⟨v0,V0⟩:=ax U0
 obtain ⟨Z0,d1,t0,y0,F0,P0,A0⟩:=Bq (AH h0_0 k0) V0
 have J0:F0=[vU q0]:=P0; subst J0
 refine Rv 2 b0 I g0 (fun _=>AU 1 (d0.toNat) I t0 I v0 y0)<|Rx 3 768 b0 I g0 (Ay I (A0 0 _ I))<|Rv 4 b0 I g0 (fun _=>Ah I)<|Rv 5 b0 I g0 (fun _=>Ah I)<|bk h fun s0 W0 h=>?_
 obtain ⟨x0,X0⟩:=ax W0
 obtain ⟨b1,g1,u0,z0,G0,Q0,B0⟩:=Bq (AH h1_0 k0) X0
 have K0:G0=[vU s0]:=Q0; subst K0
 refine Rv 6 b0 I g0 (fun _=>AU 1 (d0.toNat) I u0 I x0 z0)<|Rx 7 768 b0 I g0 (Ay I (B0 0 _ I))<|Rv 8 b0 I g0 (fun _=>FV.lssU (a:=q0) (b:=s0) I I)<|Rv 9 b0 I g0 (fun _=>Bi I)<|AQ (dk b0)<|AO I h (fun D0 h=>?_) (fun D0 h=>?_)
 refine Ae<|Af I<|Aa ?_
 have h:=aO h p0
 refine Ap I<|AV hb0 func138 I I ?_
 cases h
 exact k0.gv
 refine Ai<|du 10 fun c0 j0=>Rv 0 c0 I j0 (fun _=>Ah I)<|Rv 1 c0 I j0 (fun _=>Ah I)<|Rv 2 c0 I j0 (fun _=>AU 1 (d0.toNat) I t0 I v0 y0)<|Rx 3 768 c0 I j0 (Ay I (A0 0 _ I))<|Rv 4 c0 I j0 (fun _=>Ah I)<|Rv 5 c0 I j0 (fun _=>Ah I)<|Rv 6 c0 I j0 (fun _=>AU 1 (d0.toNat) I u0 I x0 z0)<|Rx 7 768 c0 I j0 (Ay I (B0 0 _ I))<|Rv 8 c0 I j0 (fun _=>FV.gtrU (a:=q0) (b:=s0) I I)<|Rv 9 c0 I j0 (fun _=>Bi I)<|AQ (dk c0)<|AO I h (fun E0 h=>?_) (fun E0 h=>?_)
 refine Ae<|Af I<|Aa ?_
 have h:=aO h p0
 refine Ap I<|AV hb0 func138 I I ?_
 cases h
 exact k0.gv
 refine Am<|Ao<|Ao<|Ak<|Ab I<|bk h fun Y0 R0 h=>Ac (FV.subc (i:=d0) (j:=1) I I R0)<|Af I<|Aa<|H0 Y0 k0 I0 h
 refine AT I ?_
 have h:=bD h p0
 try dsimp only at h
 refine Ae<|Af I<|Aa<|Ap I<|AV hb0 func138 I I ?_
 cases h
 exact k0.gv
 refine Ae<|Ab I<|Ac (Bf (xs:=a0) underlying101 I h0_0)<|Ab I<|Ac (Bf (xs:=a1) underlying101 I h1_0)<|Ac (FV.subI (i:=((a0.length:Nat):Int)) (j:=((a1.length:Nat):Int)) I I (by omega))<|Af I<|Aa<|Ap I<|AV hb0 func138 I I ?_
 cases h
 exact hS0.gv
def bD_l1 (_n:Nat) (a0:Lb Ua) (a1:Lb Ua) (j0:Ua×Nat×(Lb Ua)->Oa (Lb Ua)):Ua×Nat×(Lb Ua)->Oa (Lb Ua)
  | (k0,b0,c0)=>(if b0<a0.length then (a0[b0]?).bind fun q0=>jn (fun p0=>(sub64 q0 p0 k0).bind fun g0=>(c0[b0]?).bind fun _x193=>(put c0 ((b0:Nat):Int) g0.1).bind fun t0=>j0 (g0.2,b0+1,t0)) (fun d0=>(if b0<a1.length then (a1[b0]?).bind fun s0=>d0 s0 else d0 (0:Ua))) else some c0)
def bD_p (n:Nat) (a0:Lb Ua) (a1:Lb Ua):Oa (Lb Ua):=
  (mk ((a0.length:Nat):Int) (0:Ua)).bind fun b0=>Option.bind (ah (bD_l1 n a0 a1) n (0,0,b0)) (fun c0=>some c0)
theorem bD_c (n:Nat) {L w} (hL:hl L w) {a0:Lb Ua} {v0_0:Vc} (h0_0:Rep.R w L [v0_0] a0) {a1:Lb Ua} {v1_0:Vc} (h1_0:Rep.R w L [v1_0] a1)  {r:Lb Ua} (h:bD_p n a0 a1=some r) :
 Cl 139 #[v0_0,v1_0] w (aj w fun w' u=>∃ v0_0:Vc,u=v0_0/\Rep.R w' L [v0_0] r):=by
 unfold bD_p at h
 refine AJ func139 I I I fun _ cs0 hb0=>Ae<|Af I<|Aa<|Ae<|Ab I ?_
 have hl1:=AY h0_0
 refine Ac (Bf (xs:=a0) underlying101 I h0_0)<|bk h fun H0 E0 h=>Av .plain I (Does.mk (α:=Ua) E0 (AI w) bT I) fun c2 k0 q0 W1=>Af I<|Aa<|Ae<|Af I<|Aa<|Ai<|Ae<|Ab I<|Ac (Bf (xs:=a0) underlying101 I (AH h0_0 q0))<|Ab I<|Aa<|Aq ?_
 obtain ⟨b2,v1,k1⟩:=ai h
 refine MX.lf (α:=Ua×Nat×(Lb Ua)×(Lb Vc)) (fun ⟨j0,b0,c0,d0⟩=>[(1,v1_0),(5,(.slice (some ⟨k0,0,none⟩) ((a0.length:Nat):Int).toNat ((a0.length:Nat):Int).toNat)),(6,vU j0),(13,v0_0),(14,vn a0.length),(15,vn b0)]) (fun ⟨j0,b0,c0,d0⟩=>[rr w 44 Ua (.slice (some ⟨k0,0,none⟩) ((a0.length:Nat):Int).toNat ((a0.length:Nat):Int).toNat) c0.length d0]) (fun ⟨j0,b0,c0,d0⟩ F0=>Cells F0 (bl [rr w 44 Ua (.slice (some ⟨k0,0,none⟩) ((a0.length:Nat):Int).toNat ((a0.length:Nat):Int).toNat) c0.length d0]++L) d0 c0) (fun ⟨j0,b0,c0,d0⟩=>(j0,b0,c0)) (0,0,H0,(List.replicate ((a0.length:Nat):Int).toNat [vW 0]).flatten) v1 q0 (AD (cs:=(List.replicate ((a0.length:Nat):Int).toNat [vW 0]).flatten) (xs:=H0) q0 L (Cells.mk E0 I)) ?_
 rintro M1 ⟨j0,b0,c0,d0⟩ F0 V0 g0 X0 A0 h
 unfold bD_l1 at h
 try dsimp only at h
 refine Ae<|Ac (Bp (i:=b0) (j:=a0.length) I I)<|Aa<|Ai<|AO I h (fun K0 h=>?_) (fun K0 h=>?_)
 refine Am<|Ai<|Aq<|Ae<|Ab I<|bk h fun x0 B1 h=>?_
 obtain ⟨J1,Q1,b1,p1,P0,x1,s1⟩:=Bq (AH h0_0 g0) B1
 have c1:P0=[vU x0]:=x1; subst c1
 refine Ac (AU 1 b0 I b1 I I p1)<|AG I (s1 0 _ I)<|Af I<|Af I<|Aa<|Ae<|Af I<|Aa<|Ai<|Ae<|Ab I<|Ab I ?_
 have v0:=AH h1_0 g0
 have Y1:=AY v0
 refine Ac (Bf (xs:=a1) underlying101 I v0)<|Ac (Bp (i:=b0) (j:=a1.length) I I)<|Aa<|MX.jo (α:=Ua) (fun p0=>[(1,v1_0),(5,(.slice (some ⟨k0,0,none⟩) ((a0.length:Nat):Int).toNat ((a0.length:Nat):Int).toNat)),(6,vU j0),(13,v0_0),(14,vn a0.length),(15,vn b0),(7,vn b0),(8,vU x0),(9,vU p0)]) (fun p0=>[rr w 44 Ua (.slice (some ⟨k0,0,none⟩) ((a0.length:Nat):Int).toNat ((a0.length:Nat):Int).toNat) c0.length d0]) (fun p0=>p0) g0 h ?_ ?_
 rintro p0 g2 s0 z0 h
 try dsimp only at h
 refine Ak<|Ab I<|Ab I<|Ab I<|Ab I<|Ab I<|bk h fun I1 F1 h=>Ac (FV.sub64 (a:=x0) (b:=p0) (c:=j0) func140 I I I I I I I F1)<|Ab I<|Ac (Al I I)<|Ac (Al I I)<|bk h fun G1 C1 h=>?_
 have D0:=Ar A0 z0
 obtain ⟨I0,R1,u0,C0,Q0,y1,Z1⟩:=BF (α:=Ua) s0 .hd D0 C1
 obtain ⟨J0,U1,B0⟩:=Bd (α:=Ua) s0 .hd C0
 obtain rfl:I0=⟨J0,0,none⟩:=by rw [B0] at u0; cases u0; rfl
 have d1:Q0=[vU G1]:=y1; subst d1
 refine Ac (AU 1 b0 I u0 I I C0)<|bk h fun H1 E1 h=>RG.acts' .plain (BE (α:=Ua) (i:=b0) E1 s0 B0 (fun _=>.hd) D0 I I I I I I) fun d2 ⟨R0,W0,Y0,Z0⟩=>Af I<|Aa<|Ao<|Ak<|Ac (AW (i:=b0) (j:=1) I I (by omega))<|Ab I<|Aa<|V0 (I1.2,b0+1,H1,R0) W0 (Tt X0 (Tt z0 Y0)) Z0 h
 intro P1 y0 h
 try dsimp only at h
 refine AO I h (fun M0 h=>?_) (fun M0 h=>?_)
 refine Ak<|Ab I<|Ab I<|bk h fun G0 D1 h=>?_
 obtain ⟨K1,V1,g1,q1,U0,z1,u1⟩:=Bq v0 D1
 have j1:U0=[vU G0]:=z1; subst j1
 refine Ac (AU 1 b0 I g1 I I q1)<|AG I (u1 0 _ I)<|Af I<|Aa<|y0 G0 g0 (By _ _) h
 refine Am<|y0 (0:Ua) g0 (By _ _) h
 refine AT I ?_
 have h:=k1 _ h
 try dsimp only at h
 refine Ae<|Ab I<|Af I<|Aa<|Ap I ?_
 have t0:=BL g0 .hd
 have X1:=BM g0 .hd
 have A1:=BN (α:=Ua) (v:=(.slice (some ⟨k0,0,none⟩) ((a0.length:Nat):Int).toNat ((a0.length:Nat):Int).toNat)) (xs:=c0) t0 L (BA (α:=Ua) g0 .hd A0 hL)
 refine AV hb0 func139 I I ?_
 cases h
 exact ⟨t0.ag,fun w9 hw9=>⟨(.slice (some ⟨k0,0,none⟩) ((a0.length:Nat):Int).toNat ((a0.length:Nat):Int).toNat),I,t0.kd A1 hw9⟩⟩
def aw_p (n:Nat) (a0:Tb) (a1:Tb):Oa Tb:=
  (if (a0.fe==a1.fe)=true then (bP_p n a0.fk a1.fk).bind fun j0=>(ar_p n a0.fe j0).bind fun k0=>some k0 else (bp_p n a0.fk a1.fk).bind fun p0=>jn (fun (_q58,d0,c0,g0)=>(bD_p n g0 d0).bind fun q0=>(ar_p n c0 q0).bind fun s0=>some s0) (fun b0=>(if p0<0 then b0 (a0.fe,a0.fk,a1.fe,a1.fk) else b0 (a1.fe,a1.fk,a0.fe,a0.fk))))
theorem aw_c (n:Nat) {L w} (hL:hl L w) (a0:Tb) {v0_1:Vc} (h0_1:Rep.R w L [v0_1] a0.fk) (a1:Tb) {v1_1:Vc} (h1_1:Rep.R w L [v1_1] a1.fk)  {r:Tb} (h:aw_p n a0 a1=some r) :
 Cl 128 #[.agg #[.bool a0.fe,v0_1],.agg #[.bool a1.fe,v1_1]] w (aj w fun w' u=>∃ v0_1:Vc,u=.agg #[.bool r.fe,v0_1]/\Rep.R w' L [v0_1] r.fk):=by
 unfold aw_p at h
 refine AJ func128 I I I fun _ cs0 hb0=>Ae<|RG.bx (AI w) I I fun Y1 y0 X0 F1=>RG.bx X0 I I fun Z1 z0 Y0 G1=>RG.nl [.bool false,vN] Y0 fun b2 A0 b0 H1=>Aa<|Ai<|Ae<|Bh 0 I<|AG I ((b0.memA .t2) 0 _ I)<|Bh 0 I<|AG I ((b0.memA .t1) 0 _ I)<|Ac (FV.eqlB (a:=a0.fe) (b:=a1.fe) underlying4 I I)<|Aa<|MX.ifb I h (fun V0 h=>?_) (fun V0 h=>?_)
 refine Ai<|du 8 fun c0 s0=>Rv 0 c0 I s0 (fun _=>Bv 0 I)<|Rx 1 384 c0 I s0 (Ay I ((b0.memA .t2) 0 _ I))<|Rv 2 c0 I s0 (fun _=>Bv 1 I)<|Rx 3 448 c0 I s0 (Ay I ((b0.memA .t2) 1 _ I))<|Rv 4 c0 I s0 (fun _=>Bv 1 I)<|Rx 5 448 c0 I s0 (Ay I ((b0.memA .t1) 1 _ I))<|bk h fun u2 z1 h=>BQ 6 127 c0 I .plain (bd 137) I (e2 I I) (fun w9 hw9=>bP_c n (b0.hL hL hw9) (b0.km h0_1 hw9) (b0.km h1_1 hw9) z1) I fun c2 U1 k1 ⟨Q1,hu_,u1⟩=>?_
 subst hu_
 obtain ⟨I0,I1⟩:=b0.agr k1
 refine bk h fun Q0 A1 h=>BQ 7 255 c0 I .plain (bd 115) I (e2 I I) (fun w9 hw9=>ar_c n (I0.hL hL hw9) (Ax u1 hw9) A1) I fun d2 V1 p1 ⟨E0,hu_,M0⟩=>?_
 subst hu_
 obtain ⟨Z0,J1⟩:=I0.agr p1
 refine BC 8 511 c0 I I .plain (Az (news:=[.bool Q0.fe,E0]) Z0 .hd I I I I I I (o2 I (Bs M0))) fun g2 C0 d1=>AQ (dk c0)<|Ap I<|Aw hb0 func128 I (.cons (.many (cs:=[.bool Q0.fe,E0]) I I (C0.memA .hd)) .nil) I ?_
 cases h
 exact ⟨C0.ag,fun w9 hw9=>⟨E0,I,C0.kd (AB M0 d1) hw9⟩⟩
 refine Am<|Ai<|Ae<|Bh 1 I<|AG I ((b0.memA .t2) 1 _ I)<|Bh 1 I<|AG I ((b0.memA .t1) 1 _ I)<|bk h fun R0 B1 h=>Bz (vI R0) (bd 138) I (e2 I I) (fun w9 hw9=>bp_c n (b0.hL0 hL hw9) (b0.k0 h0_1 hw9) (b0.k0 h1_1 hw9) B1) I<|Ac (BR (i:=R0) (j:=0) I I)<|Aa<|MX.jf (α:=Bool×(Lb Ua)×Bool×(Lb Ua)×Vc×Vc) (fun ⟨g0,u0,j0,v0,p0,q0⟩=>[(2,vP y0),(3,vP z0),(4,vP A0)]) (fun ⟨g0,u0,j0,v0,p0,q0⟩=>[.cells A0 [.bool false,vN] 119,.cells z0 [.bool g0,p0] 119,.cells y0 [.bool j0,q0] 119]) (fun ⟨g0,u0,j0,v0,p0,q0⟩ G0=>Rep.R G0 (bl [.cells A0 [.bool false,vN] 119,.cells z0 [.bool g0,p0] 119,.cells y0 [.bool j0,q0] 119]++L) [p0] u0/\Rep.R G0 (bl [.cells A0 [.bool false,vN] 119,.cells z0 [.bool g0,p0] 119,.cells y0 [.bool j0,q0] 119]++L) [q0] v0) (fun ⟨g0,u0,j0,v0,p0,q0⟩=>(g0,u0,j0,v0)) b0 h ?_ ?_
 rintro ⟨g0,u0,j0,v0,p0,q0⟩ G0 x0 K1 ⟨v1,x1⟩ h
 try dsimp only at h
 refine Ai<|du 8 fun d0 t0=>Rv 0 d0 I t0 (fun _=>Bv 0 I)<|Rx 1 384 d0 I t0 (Ay I ((x0.memA .t2) 0 _ I))<|Rv 2 d0 I t0 (fun _=>Bv 1 I)<|Rx 3 448 d0 I t0 (Ay I ((x0.memA .t2) 1 _ I))<|Rv 4 d0 I t0 (fun _=>Bv 1 I)<|Rx 5 448 d0 I t0 (Ay I ((x0.memA .t1) 1 _ I))<|bk h fun v2 C1 h=>BQ 6 127 d0 I .plain (bd 139) I (e2 I I) (fun w9 hw9=>bD_c n (x0.hL hL hw9) (Ax x1 hw9) (Ax v1 hw9) C1) I fun j2 W1 q1 ⟨R1,hu_,y1⟩=>?_
 subst hu_
 obtain ⟨J0,M1⟩:=x0.agr q1
 refine bk h fun U0 D1 h=>BQ 7 255 d0 I .plain (bd 115) I (e2 I I) (fun w9 hw9=>ar_c n (J0.hL hL hw9) (Ax y1 hw9) D1) I fun k2 X1 s1 ⟨F0,hu_,P0⟩=>?_
 subst hu_
 obtain ⟨b1,P1⟩:=J0.agr s1
 refine BC 8 511 d0 I I .plain (Az (news:=[.bool U0.fe,F0]) b1 .hd I I I I I I (o2 I (Bs P0))) fun p2 D0 g1=>AQ (dk d0)<|Ap I<|Aw hb0 func128 I (.cons (.many (cs:=[.bool U0.fe,F0]) I I (D0.memA .hd)) .nil) I ?_
 cases h
 exact ⟨D0.ag,fun w9 hw9=>⟨F0,I,D0.kd (AB P0 g1) hw9⟩⟩
 intro E1 H0 h
 try dsimp only at h
 refine AO I h (fun W0 h=>?_) (fun W0 h=>?_)
 refine Ak<|Ac (AP I (b0.memA .t1))<|Ac (AP I (b0.memA .t2))<|Bl [.bool a1.fe,v1_1] b0 .t2 (o2 I (Bs (AH h1_1 b0))) fun q2 K0 j1=>Bl [.bool a0.fe,v0_1] K0 .t1 (o2 I (Bs (AH h0_1 K0))) fun s2 B0 c1=>Aa<|H0 (a0.fe,a0.fk,a1.fe,a1.fk,v0_1,v1_1) B0 (Tt j1 c1) ⟨(AH h0_1 B0),(AH h1_1 B0)⟩ h
 refine Am<|H0 (a1.fe,a1.fk,a0.fe,a0.fk,v1_1,v0_1) b0 (By _ _) ⟨(AH h1_1 b0),(AH h0_1 b0)⟩ h
def aM_p (n:Nat) (a0:Ua):Oa Int:=
  (aO_p n a0).bind fun y1=>(chk (64-y1)).bind fun s2=>some s2
theorem aM_c (n:Nat) {L w} (hL:hl L w) (a0:Ua)  {r:Int} (h:aM_p n a0=some r) :
 Cl 154 #[vU a0] w (aj w fun _ u=>u=vI r):=by
 unfold aM_p at h
 have hS0:=AI w
 refine AJ func154 I I I fun _ cs0 hb0=>Ae<|Af I<|Aa<|Ae<|Ab I<|bk h fun y1 hy1 h=>Bz (vI y1) (bd 79) I (e1 I) (fun w9 hw9=>aO_c n (hS0.hL0 hL hw9) a0 hy1) I<|bk h fun s2 hs2 h=>Ac (FV.subc (i:=64) (j:=y1) I I hs2)<|Af I<|Aa<|Ap I<|AV hb0 func154 I I ?_
 cases h
 exact hS0.gv
def aC_l1 (_n:Nat) (a2:Ua) (y8:Int) (a1:Ua) (d0:Ua×Ua->Oa Ua):Ua×Ua->Oa Ua
  | (b0,c0)=>(if (4294967296:Ua)<=b0 then (if (4294967296:Ua)<=(c0+(shrU (shlU a2 (ac y8).toNat) 32)) then some (b0-(1:Ua)) else d0 (b0-(1:Ua),c0+(shrU (shlU a2 (ac y8).toNat) 32))) else (if (((4294967296:Ua)*c0)+((shlU a1 (ac y8).toNat)&&&(4294967295:Ua)))<(b0*((shlU a2 (ac y8).toNat)&&&(4294967295:Ua))) then (if (4294967296:Ua)<=(c0+(shrU (shlU a2 (ac y8).toNat) 32)) then some (b0-(1:Ua)) else d0 (b0-(1:Ua),c0+(shrU (shlU a2 (ac y8).toNat) 32))) else some b0))
def aC_l2 (_n:Nat) (a2:Ua) (y8:Int) (a1:Ua) (d0:Ua×Ua->Oa Ua):Ua×Ua->Oa Ua
  | (b0,c0)=>(if (4294967296:Ua)<=b0 then (if (4294967296:Ua)<=(c0+(shrU (shlU a2 (ac y8).toNat) 32)) then some (b0-(1:Ua)) else d0 (b0-(1:Ua),c0+(shrU (shlU a2 (ac y8).toNat) 32))) else (if (((4294967296:Ua)*c0)+(shrU (shlU a1 (ac y8).toNat) 32))<(b0*((shlU a2 (ac y8).toNat)&&&(4294967295:Ua))) then (if (4294967296:Ua)<=(c0+(shrU (shlU a2 (ac y8).toNat) 32)) then some (b0-(1:Ua)) else d0 (b0-(1:Ua),c0+(shrU (shlU a2 (ac y8).toNat) 32))) else some b0))
def aC_p (n:Nat) (a0:Ua) (a1:Ua) (a2:Ua):Oa (Ua×Ua):=
  (if a2=(0:Ua) then none else (if a2<=a0 then none else (if a0=(0:Ua) then (md a1 a2).bind fun s6=>(pO a1 a2).bind fun s7=>some (s6,s7) else (aM_p n a2).bind fun y8=>(md ((shlU a0 (ac y8).toNat)|||(shrU a1 ((64:Ua)-(ac y8)).toNat)) (shrU (shlU a2 (ac y8).toNat) 32)).bind fun s9=>(some (((shlU a0 (ac y8).toNat)|||(shrU a1 ((64:Ua)-(ac y8)).toNat))-(s9*(shrU (shlU a2 (ac y8).toNat) 32)))).bind fun p0=>jn (fun b0=>(some (((shlU a0 (ac y8).toNat)|||(shrU a1 ((64:Ua)-(ac y8)).toNat))*(4294967296:Ua))).bind fun c0=>(md ((c0+(shrU (shlU a1 (ac y8).toNat) 32))-(b0*(shlU a2 (ac y8).toNat))) (shrU (shlU a2 (ac y8).toNat) 32)).bind fun d0=>(some (((c0+(shrU (shlU a1 (ac y8).toNat) 32))-(b0*(shlU a2 (ac y8).toNat)))-(d0*(shrU (shlU a2 (ac y8).toNat) 32)))).bind fun q0=>jn (fun g0=>(some (((c0+(shrU (shlU a1 (ac y8).toNat) 32))-(b0*(shlU a2 (ac y8).toNat)))*(4294967296:Ua))).bind fun s0=>(some ((s0+((shlU a1 (ac y8).toNat)&&&(4294967295:Ua)))-(g0*(shlU a2 (ac y8).toNat)))).bind fun t0=>some ((b0*(4294967296:Ua))+g0,shrU t0 (ac y8).toNat)) (fun k0=>Option.bind (ah (aC_l1 n a2 y8 a1) n (d0,q0)) (k0))) (fun j0=>Option.bind (ah (aC_l2 n a2 y8 a1) n (s9,p0)) (j0)))))
theorem aC_c (n:Nat) {L w} (hL:hl L w) (a0:Ua) (a1:Ua) (a2:Ua)  {r:Ua×Ua} (h:aC_p n a0 a1 a2=some r) :
 Cl 141 #[vU a0,vU a1,vU a2] w (aj w fun _ u=>u=.tuple #[vU r.1,vU r.2]):=by
 unfold aC_p at h
 have hS0:=AI w
 refine AJ func141 I I I fun _ cs0 hb0=>Ae<|Af I<|Af I<|Aa<|Ai<|Ae<|Ab I<|Ac (FV.eqlU (a:=a2) (b:=(0:Ua)) I I)<|Aa<|AO I h (fun c1 h=>?_) (fun c1 h=>?_)
 refine Ak ?_
 cases h
 refine Am<|Ai<|Ae<|Ab I<|Ab I<|Ac (FV.leqU (a:=a2) (b:=a0) I I)<|Aa<|AO I h (fun c2 h=>?_) (fun c2 h=>?_)
 refine Ak ?_
 cases h
 refine Am<|Ai<|Ae<|Ab I<|Ac (FV.eqlU (a:=a0) (b:=(0:Ua)) I I)<|Aa<|AO I h (fun c3 h=>?_) (fun c3 h=>?_)
 refine Ai<|du 8 fun kt4 kp5=>Rv 0 kt4 I kp5 (fun _=>Ah I)<|Rv 1 kt4 I kp5 (fun _=>Ah I)<|bk h fun s6 hs6 h=>Rv 2 kt4 I kp5 (fun _=>FV.quoV (a:=a1) (b:=a2) I I hs6)<|Rv 3 kt4 I kp5 (fun _=>Ah I)<|Rv 4 kt4 I kp5 (fun _=>Ah I)<|bk h fun s7 hs7 h=>Rv 5 kt4 I kp5 (fun _=>FV.remV (a:=a1) (b:=a2) I I hs7)<|Rv 6 kt4 I kp5 (fun _=>Bi I)<|Rv 7 kt4 I kp5 (fun _=>Bi I)<|AQ (dk kt4)<|Ap I<|Aw hb0 func141 I (.cons (.tmp I) (.cons (.tmp I) .nil)) I ?_
 cases h
 exact hS0.gv
 refine Am<|Ae<|Ab I<|bk h fun y8 hy8 h=>Bz (vI y8) (bd 154) I (e1 I) (fun w9 hw9=>aM_c n (hS0.hL0 hL hw9) a2 hy8) I<|Ac (FV.convU (i:=y8) underlying3 underlying106 I)<|Af I<|Aa<|Ae<|Ab I<|Ab I<|Ac (FV.shlU (a:=a2) (j:=(ac y8).toNat) I I)<|Af I<|Aa<|Ae<|Ab I<|Ac (FV.shrU (a:=shlU a2 (ac y8).toNat) (j:=32) I I)<|Af I<|Aa<|Ae<|Ab I<|Ac (Br (a:=shlU a2 (ac y8).toNat) (b:=(4294967295:Ua)) I I)<|Af I<|Aa<|Ae<|Ab I<|Ab I<|Ac (FV.shlU (a:=a0) (j:=(ac y8).toNat) I I)<|Ab I<|Ab I<|Ac (FV.subU (a:=(64:Ua)) (b:=ac y8) I I)<|Ac (FV.shrU (a:=a1) (j:=((64:Ua)-(ac y8)).toNat) I I)<|Ac (FV.orU (a:=shlU a0 (ac y8).toNat) (b:=shrU a1 ((64:Ua)-(ac y8)).toNat) I I)<|Af I<|Aa<|Ae<|Ab I<|Ab I<|Ac (FV.shlU (a:=a1) (j:=(ac y8).toNat) I I)<|Af I<|Aa<|Ae<|Ab I<|Ac (FV.shrU (a:=shlU a1 (ac y8).toNat) (j:=32) I I)<|Af I<|Aa<|Ae<|Ab I<|Ac (Br (a:=shlU a1 (ac y8).toNat) (b:=(4294967295:Ua)) I I)<|Af I<|Aa<|Ae<|Ab I<|Ab I<|bk h fun s9 hs9 h=>Ac (FV.quoV (a:=(shlU a0 (ac y8).toNat)|||(shrU a1 ((64:Ua)-(ac y8)).toNat)) (b:=shrU (shlU a2 (ac y8).toNat) 32) I I hs9)<|Af I<|Aa<|Ae<|Ab I ?_
 refine Ab I<|Ab I<|Ac (FV.mulU (a:=s9) (b:=shrU (shlU a2 (ac y8).toNat) 32) I I)<|bk h fun d1 W0 h=>Ac (FV.as (FV.subU (a:=(shlU a0 (ac y8).toNat)|||(shrU a1 ((64:Ua)-(ac y8)).toNat)) (b:=s9*(shrU (shlU a2 (ac y8).toNat) 32)) I I) (congrArg (fun z:Ua=>Value.int .u64 (z.toNat:Int)) (Option.some.inj W0)))<|Af I<|Aa<|Ai<|Aq<|MX.xo (α:=Ua) 0 (fun b0=>[(2,vW ((shlU a2 (ac y8).toNat).toNat:Int)),(8,vW ((ac y8).toNat:Int)),(9,vW ((shrU (shlU a2 (ac y8).toNat) 32).toNat:Int)),(10,vW (((shlU a2 (ac y8).toNat)&&&(4294967295:Ua)).toNat:Int)),(11,vW (((shlU a0 (ac y8).toNat)|||(shrU a1 ((64:Ua)-(ac y8)).toNat)).toNat:Int)),(13,vW ((shrU (shlU a1 (ac y8).toNat) 32).toNat:Int)),(14,vW (((shlU a1 (ac y8).toNat)&&&(4294967295:Ua)).toNat:Int)),(15,vU b0)]) (fun b0=>[]) (fun b0=>b0) hS0 I h ?_ ?_
 rintro b0 A1 D0 t1 h
 try dsimp only at h
 refine Ae<|Ab I<|bk h fun p0 X0 h=>Ac (FV.as (FV.mulU (a:=(shlU a0 (ac y8).toNat)|||(shrU a1 ((64:Ua)-(ac y8)).toNat)) (b:=(4294967296:Ua)) I I) (congrArg (fun z:Ua=>Value.int .u64 (z.toNat:Int)) (Option.some.inj X0)))<|Ab I<|Ac (FV.addU (a:=p0) (b:=shrU (shlU a1 (ac y8).toNat) 32) I I)<|Ab I<|Ab I<|Ac (FV.mulU (a:=b0) (b:=shlU a2 (ac y8).toNat) I I)<|Ac (FV.subU (a:=p0+(shrU (shlU a1 (ac y8).toNat) 32)) (b:=b0*(shlU a2 (ac y8).toNat)) I I)<|Af I<|Aa<|Ae<|Ab I<|Ab I<|bk h fun A0 V0 h=>Ac (FV.quoV (a:=(p0+(shrU (shlU a1 (ac y8).toNat) 32))-(b0*(shlU a2 (ac y8).toNat))) (b:=shrU (shlU a2 (ac y8).toNat) 32) I I V0)<|Af I<|Aa<|Ae<|Ab I<|Ab I<|Ab I<|Ac (FV.mulU (a:=A0) (b:=shrU (shlU a2 (ac y8).toNat) 32) I I)<|bk h fun g1 Y0 h=>Ac (FV.as (FV.subU (a:=(p0+(shrU (shlU a1 (ac y8).toNat) 32))-(b0*(shlU a2 (ac y8).toNat))) (b:=A0*(shrU (shlU a2 (ac y8).toNat) 32)) I I) (congrArg (fun z:Ua=>Value.int .u64 (z.toNat:Int)) (Option.some.inj Y0)))<|Af I<|Aa<|Ai<|Aq<|MX.xo (α:=Ua) 2 (fun k0=>[(2,vW ((shlU a2 (ac y8).toNat).toNat:Int)),(8,vW ((ac y8).toNat:Int)),(14,vW (((shlU a1 (ac y8).toNat)&&&(4294967295:Ua)).toNat:Int)),(15,vU b0),(17,vW (((p0+(shrU (shlU a1 (ac y8).toNat) 32))-(b0*(shlU a2 (ac y8).toNat))).toNat:Int)),(18,vU k0)]) (fun k0=>[]) (fun k0=>k0) D0 I h ?_ ?_
 rintro k0 B1 Q0 u1 h
 try dsimp only at h
 refine Ae<|Ab I<|Ac (FV.mulU (a:=b0) (b:=(4294967296:Ua)) I I)<|Ab I<|Ac (FV.addU (a:=b0*(4294967296:Ua)) (b:=k0) I I)<|Ab I<|bk h fun E0 Z0 h=>Ac (FV.as (FV.mulU (a:=(p0+(shrU (shlU a1 (ac y8).toNat) 32))-(b0*(shlU a2 (ac y8).toNat))) (b:=(4294967296:Ua)) I I) (congrArg (fun z:Ua=>Value.int .u64 (z.toNat:Int)) (Option.some.inj Z0)))<|Ab I<|Ac (FV.addU (a:=E0) (b:=(shlU a1 (ac y8).toNat)&&&(4294967295:Ua)) I I)<|Ab I<|Ab I<|Ac (FV.mulU (a:=k0) (b:=shlU a2 (ac y8).toNat) I I)<|bk h fun j1 b1 h=>Ac (FV.as (FV.subU (a:=E0+((shlU a1 (ac y8).toNat)&&&(4294967295:Ua))) (b:=k0*(shlU a2 (ac y8).toNat)) I I) (congrArg (fun z:Ua=>Value.int .u64 (z.toNat:Int)) (Option.some.inj b1)))<|Ab I<|Ac (FV.shrU (a:=j1) (j:=(ac y8).toNat) I I)<|Af I<|Af I<|Aa<|Ap I<|Aw hb0 func141 I (.cons (.tmp I) (.cons (.tmp I) .nil)) I ?_
 cases h
 exact Q0.gv
 intro s1 x0 h
 try dsimp only at h
 obtain ⟨v1,R0,y0⟩:=ai h
 refine MX.lo (α:=Ua×Ua) (fun ⟨c0,g0⟩=>[(2,vW ((shlU a2 (ac y8).toNat).toNat:Int)),(8,vW ((ac y8).toNat:Int)),(9,vW ((shrU (shlU a2 (ac y8).toNat) 32).toNat:Int)),(10,vW (((shlU a2 (ac y8).toNat)&&&(4294967295:Ua)).toNat:Int)),(14,vW (((shlU a1 (ac y8).toNat)&&&(4294967295:Ua)).toNat:Int)),(15,vU b0),(17,vW (((p0+(shrU (shlU a1 (ac y8).toNat) 32))-(b0*(shlU a2 (ac y8).toNat))).toNat:Int)),(18,vU c0),(16,vU g0)]) (fun ⟨c0,g0⟩=>[]) (fun ⟨c0,g0⟩=>(c0,g0)) (A0,g1) R0 D0 ?_
 rintro k1 ⟨c0,g0⟩ y1 B0 q0 t0 h
 unfold aC_l1 at h
 try dsimp only at h
 refine Ai<|Ae<|Ab I<|Ac (FV.geqU (a:=c0) (b:=(4294967296:Ua)) I I)<|Ab I<|BD (s:=104) I h (fun F0 h=>?_) (fun F0 h=>?_)
 refine Aj<|Aj<|Aj<|Aj<|Aj<|Aj<|Aj<|Aj<|Bm I I<|Aa<|Ba I<|Am<|Aq<|Ae<|Ab I<|Ac (FV.subU (a:=c0) (b:=(1:Ua)) I I)<|Af I<|Aa<|Ae<|Ab I<|Ab I<|Ac (FV.addU (a:=g0) (b:=shrU (shlU a2 (ac y8).toNat) 32) I I)<|Af I<|Aa<|Ae<|Ab I<|Ac (FV.geqU (a:=g0+(shrU (shlU a2 (ac y8).toNat) 32)) (b:=(4294967296:Ua)) I I)<|Aa<|AO I h (fun G0 h=>?_) (fun G0 h=>?_)
 refine AT I ?_
 have h:=y0 _ h
 try dsimp only at h
 exact x0 (c0-(1:Ua)) q0 t0 h
 refine Am<|Ao<|B0 (c0-(1:Ua),g0+(shrU (shlU a2 (ac y8).toNat) 32)) q0 t0 h
 refine Au (Ah I)<|Au (Ah I)<|Au (FV.mulU (a:=c0) (b:=(shlU a2 (ac y8).toNat)&&&(4294967295:Ua)) I I)<|Au (Ah I)<|Au (FV.mulU (a:=(4294967296:Ua)) (b:=g0) I I)<|Au (Ah I)<|Au (FV.addU (a:=(4294967296:Ua)*g0) (b:=(shlU a1 (ac y8).toNat)&&&(4294967295:Ua)) I I)<|Au (FV.gtrU (a:=c0*((shlU a2 (ac y8).toNat)&&&(4294967295:Ua))) (b:=((4294967296:Ua)*g0)+((shlU a1 (ac y8).toNat)&&&(4294967295:Ua))) I I)<|Bo I I<|Aa<|AO I h (fun H0 h=>?_) (fun H0 h=>?_)
 refine Am<|Aq<|Ae<|Ab I<|Ac (FV.subU (a:=c0) (b:=(1:Ua)) I I)<|Af I<|Aa<|Ae<|Ab I<|Ab I<|Ac (FV.addU (a:=g0) (b:=shrU (shlU a2 (ac y8).toNat) 32) I I)<|Af I<|Aa<|Ae<|Ab I<|Ac (FV.geqU (a:=g0+(shrU (shlU a2 (ac y8).toNat) 32)) (b:=(4294967296:Ua)) I I)<|Aa<|AO I h (fun I0 h=>?_) (fun I0 h=>?_)
 refine AT I ?_
 have h:=y0 _ h
 try dsimp only at h
 exact x0 (c0-(1:Ua)) q0 t0 h
 refine Am<|Ao<|B0 (c0-(1:Ua),g0+(shrU (shlU a2 (ac y8).toNat) 32)) q0 t0 h
 refine AT I ?_
 have h:=y0 _ h
 try dsimp only at h
 exact x0 c0 q0 t0 h
 intro q1 v0 h
 try dsimp only at h
 obtain ⟨x1,U0,z0⟩:=ai h
 refine MX.lo (α:=Ua×Ua) (fun ⟨d0,j0⟩=>[(2,vW ((shlU a2 (ac y8).toNat).toNat:Int)),(8,vW ((ac y8).toNat:Int)),(9,vW ((shrU (shlU a2 (ac y8).toNat) 32).toNat:Int)),(10,vW (((shlU a2 (ac y8).toNat)&&&(4294967295:Ua)).toNat:Int)),(11,vW (((shlU a0 (ac y8).toNat)|||(shrU a1 ((64:Ua)-(ac y8)).toNat)).toNat:Int)),(13,vW ((shrU (shlU a1 (ac y8).toNat) 32).toNat:Int)),(14,vW (((shlU a1 (ac y8).toNat)&&&(4294967295:Ua)).toNat:Int)),(15,vU d0),(16,vU j0)]) (fun ⟨d0,j0⟩=>[]) (fun ⟨d0,j0⟩=>(d0,j0)) (s9,d1) U0 hS0 ?_
 rintro p1 ⟨d0,j0⟩ z1 C0 s0 u0 h
 unfold aC_l2 at h
 try dsimp only at h
 refine Ai<|Ae<|Ab I<|Ac (FV.geqU (a:=d0) (b:=(4294967296:Ua)) I I)<|Ab I<|BD (s:=69) I h (fun J0 h=>?_) (fun J0 h=>?_)
 refine Aj<|Aj<|Aj<|Aj<|Aj<|Aj<|Aj<|Aj<|Bm I I<|Aa<|Ba I<|Am<|Aq<|Ae<|Ab I<|Ac (FV.subU (a:=d0) (b:=(1:Ua)) I I)<|Af I<|Aa<|Ae<|Ab I<|Ab I<|Ac (FV.addU (a:=j0) (b:=shrU (shlU a2 (ac y8).toNat) 32) I I)<|Af I<|Aa<|Ae<|Ab I<|Ac (FV.geqU (a:=j0+(shrU (shlU a2 (ac y8).toNat) 32)) (b:=(4294967296:Ua)) I I)<|Aa<|AO I h (fun K0 h=>?_) (fun K0 h=>?_)
 refine AT I ?_
 have h:=z0 _ h
 try dsimp only at h
 exact v0 (d0-(1:Ua)) s0 u0 h
 refine Am<|Ao<|C0 (d0-(1:Ua),j0+(shrU (shlU a2 (ac y8).toNat) 32)) s0 u0 h
 refine Au (Ah I)<|Au (Ah I)<|Au (FV.mulU (a:=d0) (b:=(shlU a2 (ac y8).toNat)&&&(4294967295:Ua)) I I)<|Au (Ah I)<|Au (FV.mulU (a:=(4294967296:Ua)) (b:=j0) I I)<|Au (Ah I)<|Au (FV.addU (a:=(4294967296:Ua)*j0) (b:=shrU (shlU a1 (ac y8).toNat) 32) I I)<|Au (FV.gtrU (a:=d0*((shlU a2 (ac y8).toNat)&&&(4294967295:Ua))) (b:=((4294967296:Ua)*j0)+(shrU (shlU a1 (ac y8).toNat) 32)) I I)<|Bo I I<|Aa<|AO I h (fun M0 h=>?_) (fun M0 h=>?_)
 refine Am<|Aq<|Ae<|Ab I<|Ac (FV.subU (a:=d0) (b:=(1:Ua)) I I)<|Af I<|Aa<|Ae<|Ab I<|Ab I<|Ac (FV.addU (a:=j0) (b:=shrU (shlU a2 (ac y8).toNat) 32) I I)<|Af I<|Aa<|Ae<|Ab I<|Ac (FV.geqU (a:=j0+(shrU (shlU a2 (ac y8).toNat) 32)) (b:=(4294967296:Ua)) I I)<|Aa<|AO I h (fun P0 h=>?_) (fun P0 h=>?_)
 refine AT I ?_
 have h:=z0 _ h
 try dsimp only at h
 exact v0 (d0-(1:Ua)) s0 u0 h
 refine Am<|Ao<|C0 (d0-(1:Ua),j0+(shrU (shlU a2 (ac y8).toNat) 32)) s0 u0 h
 refine AT I ?_
 have h:=z0 _ h
 try dsimp only at h
 exact v0 d0 s0 u0 h
def ck_p (n:Nat) (a0:Lb Ua):Oa Int:=
  (if a0.length=0 then some (0:Int) else (chk (64*((a0.length:Nat):Int))).bind fun s3=>(idx a0 (((a0.length:Nat):Int)-1)).bind fun x4=>(aM_p n x4).bind fun c0=>(chk (s3-c0)).bind fun b0=>some b0)
theorem ck_c (n:Nat) {L w} (hL:hl L w) {a0:Lb Ua} {v0_0:Vc} (h0_0:Rep.R w L [v0_0] a0)  {r:Int} (h:ck_p n a0=some r) :
 Cl 142 #[v0_0] w (aj w fun _ u=>u=vI r):=by
 unfold ck_p at h
 have hS0:=AI w
 refine AJ func142 I I I fun _ cs0 hb0=>Ae<|Af I<|Aa<|Ai<|Ae<|Ab I ?_
 have hl1:=AY h0_0
 refine Ac (Bf (xs:=a0) underlying101 I h0_0)<|Ac (FV.eqlN (i:=a0.length) (j:=0) I I)<|Aa<|AO I h (fun c2 h=>?_) (fun c2 h=>?_)
 refine Ae<|Af I<|Aa<|Ap I<|AV hb0 func142 I I ?_
 cases h
 exact hS0.gv
 refine Am<|Ae<|Ab I<|Ac (Bf (xs:=a0) underlying101 I h0_0)<|bk h fun s3 hs3 h=>Ac (FV.mulc (i:=64) (j:=((a0.length:Nat):Int)) I I hs3)<|Ab I<|Ab I<|Ac (Bf (xs:=a0) underlying101 I h0_0)<|Ac (FV.subI (i:=((a0.length:Nat):Int)) (j:=1) I I (by omega))<|bk h fun x4 hx4 h=>?_
 obtain ⟨hi5,hx6⟩:=ax hx4
 obtain ⟨A7,c8,he9,g0,c0,k0,j0⟩:=Bq h0_0 hx6
 have d0:c0=[vU x4]:=k0; subst d0
 refine Ac (FV.idxAddr (m:=1) (i:=(((a0.length:Nat):Int)-1).toNat) I I he9 I hi5 g0)<|AG I (j0 0 _ I)<|bk h fun b0 q0 h=>Bz (vI b0) (bd 154) I (e1 I) (fun w9 hw9=>aM_c n (hS0.hL0 hL hw9) x4 q0) I<|bk h fun s0 p0 h=>Ac (FV.subc (i:=s3) (j:=b0) I I p0)<|Af I<|Aa<|Ap I<|AV hb0 func142 I I ?_
 cases h
 exact hS0.gv

def cb_l1 (_n:Nat) (a0:Lb Ua) (a1:Int) (g0:Nat×(Lb Ua)->Oa (Lb Ua)):Nat×(Lb Ua)->Oa (Lb Ua)
  | (b0,c0)=>(if b0<a0.length then (a0[b0]?).bind fun p0=>(iv a1 64).bind fun t0=>(chk (((b0:Nat):Int)+t0)).bind fun j0=>(idx c0 j0).bind fun B0=>(cD a1 64).bind fun u0=>(bb u0).bind fun q0=>(put c0 ((j0.toNat:Nat):Int) (B0|||(shlU p0 q0))).bind fun d0=>(cD a1 64).bind fun v0=>(if 0<v0 then (iv a1 64).bind fun x0=>(chk (((b0:Nat):Int)+x0)).bind fun y0=>(chk (y0+1)).bind fun k0=>(cD a1 64).bind fun z0=>(chk (64-z0)).bind fun A0=>(bb A0).bind fun s0=>(idx d0 k0).bind fun _x218=>(put d0 ((k0.toNat:Nat):Int) (shrU p0 s0)).bind fun C0=>g0 (b0+1,C0) else g0 (b0+1,d0)) else some c0)
def cb_p (n:Nat) (a0:Lb Ua) (a1:Int):Oa (Lb Ua):=
  (iv a1 64).bind fun s2=>(chk (((a0.length:Nat):Int)+s2)).bind fun s3=>(chk (s3+1)).bind fun s4=>(mk s4 (0:Ua)).bind fun b0=>Option.bind (ah (cb_l1 n a0 a1) n (0,b0)) (fun c0=>(ar_p n false c0).bind fun d0=>some d0.fk)
theorem cb_c (n:Nat) {L w} (hL:hl L w) {a0:Lb Ua} {v0_0:Vc} (h0_0:Rep.R w L [v0_0] a0) {a1:Int}  {r:Lb Ua} (h:cb_p n a0 a1=some r) :
 Cl 143 #[v0_0,vI a1] w (aj w fun w' u=>∃ v0_0:Vc,u=v0_0/\Rep.R w' L [v0_0] r):=by
 unfold cb_p at h
 refine AJ func143 I I I fun _ cs0 hb0=>Ae<|Af I<|Aa<|Ae<|Ab I ?_
 have hl1:=AY h0_0
 refine Ac (Bf (xs:=a0) underlying101 I h0_0)<|Ab I<|bk h fun s2 hs2 h=>Ac (FV.quoc (i:=a1) (j:=64) I I hs2)<|bk h fun s3 hs3 h=>Ac (Bu (i:=((a0.length:Nat):Int)) (j:=s2) I I hs3)<|bk h fun s4 hs4 h=>Ac (Bu (i:=s3) (j:=1) I I hs4)<|bk h fun U0 K0 h=>Av .plain I (Does.mk (α:=Ua) K0 (AI w) bT I) fun Z2 p0 u0 Q2=>Af I<|Aa<|Ai<|Ae<|Ab I<|Ac (Bf (xs:=a0) underlying101 I (AH h0_0 u0))<|Ab I<|Aa<|Aq ?_
 obtain ⟨X2,H1,A1⟩:=ai h
 refine MX.lf (α:=Nat×(Lb Ua)×(Lb Vc)) (fun ⟨c0,g0,j0⟩=>[(1,vI a1),(5,(.slice (some ⟨p0,0,none⟩) s4.toNat s4.toNat)),(15,v0_0),(16,vn a0.length),(17,vn c0)]) (fun ⟨c0,g0,j0⟩=>[rr w 44 Ua (.slice (some ⟨p0,0,none⟩) s4.toNat s4.toNat) g0.length j0]) (fun ⟨c0,g0,j0⟩ Q0=>Cells Q0 (bl [rr w 44 Ua (.slice (some ⟨p0,0,none⟩) s4.toNat s4.toNat) g0.length j0]++L) j0 g0) (fun ⟨c0,g0,j0⟩=>(c0,g0)) (0,U0,(List.replicate s4.toNat [vW 0]).flatten) H1 u0 (AD (cs:=(List.replicate s4.toNat [vW 0]).flatten) (xs:=U0) u0 L (Cells.mk K0 I)) ?_
 rintro H2 ⟨c0,g0,j0⟩ Q0 C0 k0 E0 x0 h
 unfold cb_l1 at h
 try dsimp only at h
 refine Ae<|Ac (Bp (i:=c0) (j:=a0.length) I I)<|Aa<|Ai<|AO I h (fun Z0 h=>?_) (fun Z0 h=>?_)
 refine Am<|Ai<|Aq<|Ae<|Ab I<|bk h fun t0 b2 h=>?_
 obtain ⟨G2,I2,v1,C1,c1,I1,F1⟩:=Bq (AH h0_0 k0) b2
 have x1:c1=[vU t0]:=I1; subst x1
 refine Ac (AU 1 c0 I v1 I I C1)<|AG I (F1 0 _ I)<|Af I<|Af I<|Aa<|Ai<|du 13 fun b0 d0=>Rv 0 b0 I d0 (fun _=>Ah I)<|Rv 1 b0 I d0 (fun _=>Ah I)<|Rv 2 b0 I d0 (fun _=>Ah I)<|bk h fun u2 P1 h=>Rv 3 b0 I d0 (fun _=>FV.quoc (i:=a1) (j:=64) I I P1)<|bk h fun B0 Q1 h=>Rv 4 b0 I d0 (fun _=>Bu (i:=((c0:Nat):Int)) (j:=u2) I I Q1)<|bk h fun R0 c2 h=>?_
 obtain ⟨I0,d2⟩:=ax c2
 obtain ⟨V0,J2,s0,A0,d1,J1,G1⟩:=BF (α:=Ua) k0 .hd x0 d2
 obtain ⟨X0,K2,G0⟩:=Bd (α:=Ua) k0 .hd A0
 obtain rfl:V0=⟨X0,0,none⟩:=by rw [G0] at s0; cases s0; rfl
 have y1:d1=[vU R0]:=J1; subst y1
 refine Rv 5 b0 I d0 (fun _=>AU 1 (B0.toNat) I s0 I I0 A0)<|Rx 6 14336 b0 I d0 (Ay I (G1 0 _ I))<|Rv 7 b0 I d0 (fun _=>Ah I)<|Rv 8 b0 I d0 (fun _=>Ah I)<|bk h fun v2 R1 h=>Rv 9 b0 I d0 (fun _=>FV.remc (i:=a1) (j:=64) I I R1)<|bk h fun t2 D1 h=>Rv 10 b0 I d0 (fun _=>FV.shlI (a:=t0) (i:=v2) I I D1)<|Rv 11 b0 I d0 (fun _=>FV.orU (a:=R0) (b:=shlU t0 t2) I I)<|Rv 12 b0 I d0 (fun _=>AU 1 (B0.toNat) I s0 I I0 A0)<|bk h fun D2 k2 h=>Bb (i:=13) (rk b0) (RO.acts (m' :=16383) (sk b0) I I .plain (BE (α:=Ua) (i:=B0.toNat) k2 k0 G0 (fun _=>.hd) x0 I I I I I I) (fun b3 ⟨g1,q0,F0,y0⟩=>?_))
 refine AQ (dk b0)<|Ae<|Ab I<|bk h fun x2 U1 h=>Ac (FV.remc (i:=a1) (j:=64) I I U1)<|Ac (FV.gtr (i:=x2) (j:=0) I I)<|Aa<|AO I h (fun b1 h=>?_) (fun b1 h=>?_)
 refine Ak<|Ab I<|Ab I<|Ab I<|bk h fun y2 V1 h=>Ac (FV.quoc (i:=a1) (j:=64) I I V1)<|bk h fun z2 W1 h=>Ac (Bu (i:=((c0:Nat):Int)) (j:=y2) I I W1)<|bk h fun M0 X1 h=>Ac (Bu (i:=z2) (j:=1) I I X1)<|Ab I<|Ab I<|bk h fun A2 Y1 h=>Ac (FV.remc (i:=a1) (j:=64) I I Y1)<|bk h fun B2 Z1 h=>Ac (FV.subc (i:=64) (j:=A2) I I Z1)<|bk h fun W2 E1 h=>Ac (FV.shrI (a:=t0) (i:=B2) I I E1)<|bk h fun C2 g2 h=>?_
 obtain ⟨B1,j2⟩:=ax g2
 obtain ⟨W0,M2,z0,J0,j1,K1,V2⟩:=BF (α:=Ua) q0 .hd y0 j2
 obtain ⟨Y0,P2,H0⟩:=Bd (α:=Ua) q0 .hd J0
 obtain rfl:W0=⟨Y0,0,none⟩:=by rw [H0] at z0; cases z0; rfl
 have z1:j1=[vU C2]:=K1; subst z1
 refine Ac (AU 1 (M0.toNat) I z0 I B1 J0)<|bk h fun E2 p2 h=>RG.acts' .plain (BE (α:=Ua) (i:=M0.toNat) p2 q0 H0 (fun _=>.hd) y0 I I I I I I) fun c3 ⟨k1,p1,q1,u1⟩=>Aa<|Ao<|Ak<|Ac (AW (i:=c0) (j:=1) I I (by omega))<|Ab I<|Aa<|C0 (c0+1,E2,k1) p1 (Tt E0 (Tt F0 q1)) u1 h
 refine Am<|Ao<|Ak<|Ac (AW (i:=c0) (j:=1) I I (by omega))<|Ab I<|Aa<|C0 (c0+1,D2,g1) q0 (Tt E0 F0) y0 h
 refine AT I ?_
 have h:=A1 _ h
 try dsimp only at h
 refine Ae<|Ab I ?_
 have v0:=BL k0 .hd
 have R2:=BM k0 .hd
 refine bk h fun F2 q2 h=>jE (bd 115) I (e2 I I) (fun p q=>ar_c n (v0.hL hL q) (Ax (BN (α:=Ua) (v:=(.slice (some ⟨p0,0,none⟩) s4.toNat s4.toNat)) (xs:=g0) v0 L (BA (α:=Ua) k0 .hd x0 hL)) q) q2) I fun d3 Y2 s1 ⟨P0,hu_,M1⟩=>?_
 subst hu_
 obtain ⟨D0,U2⟩:=v0.agr s1
 refine Ac (FV.field1 (cs:=[.bool F2.fe,P0]) (off:=1) (m:=1) I I I I)<|Af I<|Aa<|Ap I<|AV hb0 func143 I I ?_
 cases h
 exact ⟨D0.ag,fun p q=>⟨P0,I,D0.kd M1 q⟩⟩
def aF_l1 (n:Nat) (a0:Lb Ua) (a1:Lb Ua) (j0:Ua×Int×(Lb Ua)->Oa (Ua×(Lb Ua))):Ua×Int×(Lb Ua)->Oa (Ua×(Lb Ua))
  | (d0,b0,c0)=>(if 0<=b0 then (idx a0 b0).bind fun p0=>(a1[0]?).bind fun q0=>(aC_p n d0 p0 q0).bind fun g0=>(idx c0 b0).bind fun _x169=>(put c0 ((b0.toNat:Nat):Int) g0.1).bind fun s0=>(chk (b0-1)).bind fun k0=>j0 (g0.2,k0,s0) else some (d0,c0))
def aF_l2 (n:Nat) (a1:Lb Ua) (p0:(Lb Ua)×Int×(Lb Ua)->Oa ((Lb Ua)×(Lb Ua))):(Lb Ua)×Int×(Lb Ua)->Oa ((Lb Ua)×(Lb Ua))
  | (c0,b0,d0)=>(if 0<=b0 then (cb_p n a1 b0).bind fun k0=>(bp_p n c0 k0).bind fun z0=>jn (fun (v0,x0)=>(chk (b0-1)).bind fun s0=>p0 (v0,s0,x0)) (fun g0=>(if 0<=z0 then (bD_p n c0 k0).bind fun A0=>(ar_p n false A0).bind fun B0=>(iv b0 64).bind fun j0=>(idx d0 j0).bind fun u0=>(cD b0 64).bind fun t0=>(bb t0).bind fun q0=>(put d0 ((j0.toNat:Nat):Int) (u0|||(shlU (1:Ua) q0))).bind fun y0=>g0 (B0.fk,y0) else g0 (c0,d0))) else some (d0,c0))
def aF_p (n:Nat) (a0:Lb Ua) (a1:Lb Ua):Oa ((Lb Ua)×(Lb Ua)):=
  (mk ((a0.length:Nat):Int) (0:Ua)).bind fun b0=>(if a1.length=1 then Option.bind (ah (aF_l1 n a0 a1) n (0,((a0.length:Nat):Int)-1,b0)) (fun (d0,g0)=>(ar_p n false ([d0]:Lb Ua)).bind fun p0=>some (g0,p0.fk)) else (ck_p n a0).bind fun q0=>(ck_p n a1).bind fun s0=>(chk (q0-s0)).bind fun c0=>Option.bind (ah (aF_l2 n a1) n (a0,c0,b0)) (fun (k0,j0)=>some (k0,j0)))
theorem aF_c (n:Nat) {L w} (hL:hl L w) {a0:Lb Ua} {v0_0:Vc} (h0_0:Rep.R w L [v0_0] a0) {a1:Lb Ua} {v1_0:Vc} (h1_0:Rep.R w L [v1_0] a1)  {r:(Lb Ua)×(Lb Ua)} (h:aF_p n a0 a1=some r) :
 Cl 131 #[v0_0,v1_0] w (aj w fun w' u=>∃ v0_0 v1_0:Vc,u=.tuple #[v0_0,v1_0]/\Rep.R w' L [v0_0] r.1/\Rep.R w' L [v1_0] r.2):=by
 unfold aF_p at h
 refine AJ func131 I I I fun _ cs0 hb0=>Ae<|Af I<|Af I<|Aa<|Ae<|Ab I ?_
 have hl1:=AY h0_0
 refine Ac (Bf (xs:=a0) underlying101 I h0_0)<|bk h fun g1 E1 h=>Av .plain I (Does.mk (α:=Ua) E1 (AI w) bT I) fun g5 c0 t0 Q4=>?_
 have u1:=AD (cs:=(List.replicate ((a0.length:Nat):Int).toNat [vW 0]).flatten) (xs:=g1) t0 L (Cells.mk E1 I)
 refine Af I<|Aa<|Ai<|Ae<|Ab I ?_
 have A1:=AH h1_0 t0
 have R4:=AY A1
 refine Ac (Bf (xs:=a1) underlying101 I A1)<|Ac (FV.eqlN (i:=a1.length) (j:=1) I I)<|Aa<|AO I h (fun b2 h=>?_) (fun b2 h=>?_)
 refine Ae<|Af I<|Aa<|Ai<|Ae<|Ab I<|Ac (Bf (xs:=a0) underlying101 I (AH h0_0 t0))<|Ac (FV.subI (i:=((a0.length:Nat):Int)) (j:=1) I I (by omega))<|Af I<|Aa<|Aq ?_
 obtain ⟨V4,u3,b3⟩:=ai h
 refine MX.lf (α:=Ua×Int×(Lb Ua)×(Lb Vc)) (fun ⟨g0,q0,z0,B0⟩=>[(0,v0_0),(1,v1_0),(4,(.slice (some ⟨c0,0,none⟩) ((a0.length:Nat):Int).toNat ((a0.length:Nat):Int).toNat)),(6,vU g0),(7,vI q0)]) (fun ⟨g0,q0,z0,B0⟩=>[rr w 44 Ua (.slice (some ⟨c0,0,none⟩) ((a0.length:Nat):Int).toNat ((a0.length:Nat):Int).toNat) z0.length B0]) (fun ⟨g0,q0,z0,B0⟩ H1=>Cells H1 (bl [rr w 44 Ua (.slice (some ⟨c0,0,none⟩) ((a0.length:Nat):Int).toNat ((a0.length:Nat):Int).toNat) z0.length B0]++L) B0 z0) (fun ⟨g0,q0,z0,B0⟩=>(g0,q0,z0)) (0,((a0.length:Nat):Int)-1,g1,(List.replicate ((a0.length:Nat):Int).toNat [vW 0]).flatten) u3 t0 u1 ?_
 rintro E4 ⟨g0,q0,z0,B0⟩ H1 t2 C0 z2 V0 h
 unfold aF_l1 at h
 try dsimp only at h
 refine Ai<|Ae<|Ab I<|Ac (FV.geq (i:=q0) (j:=0) I I)<|Aa<|AO I h (fun Z1 h=>?_) (fun Z1 h=>?_)
 refine Am<|Ai<|Aq<|du 15 fun b0 d0=>Rv 0 b0 I d0 (fun _=>Ah I)<|Rv 1 b0 I d0 (fun _=>Ah I)<|Rv 2 b0 I d0 (fun _=>Ah I)<|Rv 3 b0 I d0 (fun _=>Ah I)<|Rv 4 b0 I d0 (fun _=>Ah I)<|bk h fun I1 P3 h=>?_
 obtain ⟨d3,Q3⟩:=ax P3
 obtain ⟨C4,H4,U2,j3,g2,x3,q3⟩:=Bq (AH h0_0 C0) Q3
 have V2:g2=[vU I1]:=x3; subst V2
 refine Rv 5 b0 I d0 (fun _=>AU 1 (q0.toNat) I U2 I d3 j3)<|Rx 6 130048 b0 I d0 (Ay I (q3 0 _ I))<|Rv 7 b0 I d0 (fun _=>Ah I)<|bk h fun J1 R3 h=>?_
 obtain ⟨D4,I4,W2,k3,j2,y3,s3⟩:=Bq (AH h1_0 C0) R3
 have X2:j2=[vU J1]:=y3; subst X2
 refine Rv 8 b0 I d0 (fun _=>AU 1 0 I W2 I I k3)<|Rx 9 130048 b0 I d0 (Ay I (s3 0 _ I))<|bk h fun j1 b4 h=>RD.cq 10 2047 129024 (.tuple #[vU j1.1,vU j1.2]) b0 I d0 (bd 141) I (e3 I I I) (fun p q=>aC_c n (C0.hL0 hL q) g0 I1 J1 b4) I<|Rv 11 b0 I d0 (fun _=>Ah I)<|Rv 12 b0 I d0 (fun _=>Al I I)<|Rv 13 b0 I d0 (fun _=>Al I I)<|bk h fun y4 U3 h=>?_
 obtain ⟨g3,V3⟩:=ax U3
 obtain ⟨U1,J4,X0,z1,k2,z3,U4⟩:=BF (α:=Ua) C0 .hd V0 V3
 obtain ⟨W1,K4,v1⟩:=Bd (α:=Ua) C0 .hd z1
 obtain rfl:U1=⟨W1,0,none⟩:=by rw [v1] at X0; cases X0; rfl
 have Y2:k2=[vU y4]:=z3; subst Y2
 refine Rv 14 b0 I d0 (fun _=>AU 1 (q0.toNat) I X0 I g3 z1)<|bk h fun z4 Y3 h=>Bb (i:=15) (rk b0) (RO.acts (m' :=65535) (sk b0) I I .plain (BE (α:=Ua) (i:=q0.toNat) Y3 C0 v1 (fun _=>.hd) V0 I I I I I I) (fun j5 ⟨p2,v2,A2,P2⟩=>?_))
 refine Bb (i:=16) (rk b0) (Bg (m' :=131071) (sk b0) I .plain I (Bi I) ?_)
 refine AQ (dk b0)<|Ao<|Ak<|Ab I<|bk h fun t4 H3 h=>Ac (FV.subc (i:=q0) (j:=1) I I H3)<|Af I<|Aa<|t2 (j1.2,t4,z4,p2) v2 (Tt z2 A2) P2 h
 refine AT I ?_
 have h:=b3 _ h
 try dsimp only at h
 refine Ae<|Ab I<|Ab I<|Av .plain I (jA g0 (vU g0) C0 bT (e1 I)) fun k5 X1 I0 B2=>?_
 have Q0:=BL I0 .hd
 have C2:=BM I0 .hd
 refine bk h fun B4 c4 h=>jE (bd 115) I (e2 I I) (fun p q=>ar_c n (Q0.hL hL q) (Ax (BN (α:=Ua) (v:=(vS X1 1)) (xs:=([g0]:Lb Ua)) Q0 L (BA (α:=Ua) I0 .hd (jC g0 (vU g0) I0 L I) hL)) q) c4) I fun p5 Z4 I2 ⟨F1,hu_,A3⟩=>?_
 subst hu_
 obtain ⟨R0,D2⟩:=Q0.agr I2
 refine Ac (FV.field1 (cs:=[.bool B4.fe,F1]) (off:=1) (m:=1) I I I I)<|Af I<|Af I<|Aa<|Ap I ?_
 have J0:=BL R0 .hd
 have E2:=BM R0 .hd
 have B3:=BN (α:=Ua) (v:=(.slice (some ⟨c0,0,none⟩) ((a0.length:Nat):Int).toNat ((a0.length:Nat):Int).toNat)) (xs:=z0) J0 L (BA (α:=Ua) R0 .hd (Ar V0 (Tt B2 (Tt C2 D2))) hL)
 refine Aw hb0 func131 I (.cons (.tmp I) (.cons (.tmp I) .nil)) I ?_
 cases h
 exact ⟨J0.ag,fun p q=>⟨(.slice (some ⟨c0,0,none⟩) ((a0.length:Nat):Int).toNat ((a0.length:Nat):Int).toNat),F1,I,J0.kd B3 q,J0.kd (AB A3 E2) q⟩⟩
 refine Am<|Ae<|Ab I<|Af I<|Aa<|Ai<|Ae<|Ab I<|bk h fun M1 d4 h=>Bz (vI M1) (bd 142) I (e1 I) (fun p q=>ck_c n (t0.hL0 hL q) (t0.k0 h0_0 q) d4) I<|Ab I<|bk h fun P1 g4 h=>Bz (vI P1) (bd 142) I (e1 I) (fun p q=>ck_c n (t0.hL0 hL q) (t0.k0 h1_0 q) g4) I<|bk h fun u4 I3 h=>Ac (FV.subc (i:=M1) (j:=P1) I I I3)<|Af I<|Aa<|Aq ?_
 obtain ⟨W4,v3,c3⟩:=ai h
 refine MX.lf (α:=(Lb Ua)×Int×(Lb Ua)×Vc×(Lb Vc)) (fun ⟨F0,s0,p0,A0,x0⟩=>[(1,v1_0),(4,(.slice (some ⟨c0,0,none⟩) ((a0.length:Nat):Int).toNat ((a0.length:Nat):Int).toNat)),(5,A0),(8,vI s0)]) (fun ⟨F0,s0,p0,A0,x0⟩=>[rr w 44 Ua (.slice (some ⟨c0,0,none⟩) ((a0.length:Nat):Int).toNat ((a0.length:Nat):Int).toNat) p0.length x0]) (fun ⟨F0,s0,p0,A0,x0⟩ c1=>Rep.R c1 (bl [rr w 44 Ua (.slice (some ⟨c0,0,none⟩) ((a0.length:Nat):Int).toNat ((a0.length:Nat):Int).toNat) p0.length x0]++L) [A0] F0/\Cells c1 (bl [rr w 44 Ua (.slice (some ⟨c0,0,none⟩) ((a0.length:Nat):Int).toNat ((a0.length:Nat):Int).toNat) p0.length x0]++L) x0 p0) (fun ⟨F0,s0,p0,A0,x0⟩=>(F0,s0,p0)) (a0,u4,g1,v0_0,(List.replicate ((a0.length:Nat):Int).toNat [vW 0]).flatten) v3 t0 ⟨(AH h0_0 t0),u1⟩ ?_
 rintro F4 ⟨F0,s0,p0,A0,x0⟩ c1 u2 H0 F2 ⟨C1,W0⟩ h
 unfold aF_l2 at h
 try dsimp only at h
 refine Ai<|Ae<|Ab I<|Ac (FV.geq (i:=s0) (j:=0) I I)<|Aa<|AO I h (fun c2 h=>?_) (fun c2 h=>?_)
 refine Am<|Ai<|Aq<|Ae<|Ab I<|Ab I<|bk h fun v5 j4 h=>jE (bd 143) I (e2 I I) (fun p q=>cb_c n (H0.hL hL q) (H0.km h1_0 q) j4) I fun q5 b5 J2 ⟨X4,hu_,D1⟩=>?_
 subst hu_
 obtain ⟨D0,M0⟩:=H0.agr J2
 refine Af I<|Aa<|Ae<|Ab I<|Ab I<|bk h fun Q1 k4 h=>?_
 have Z0:=AB C1 M0
 refine Bz (vI Q1) (bd 138) I (e2 I I) (fun p q=>bp_c n (D0.hL0 hL q) (D0.kd Z0 q) (D0.kd D1 q) k4) I<|Ac (FV.geq (i:=Q1) (j:=0) I I)<|Aa<|MX.jf (α:=(Lb Ua)×(Lb Ua)×Vc×(Lb Vc)) (fun ⟨G0,v0,E0,y0⟩=>[(1,v1_0),(4,(.slice (some ⟨c0,0,none⟩) ((a0.length:Nat):Int).toNat ((a0.length:Nat):Int).toNat)),(5,E0),(8,vI s0)]) (fun ⟨G0,v0,E0,y0⟩=>[rr w 44 Ua (.slice (some ⟨c0,0,none⟩) ((a0.length:Nat):Int).toNat ((a0.length:Nat):Int).toNat) v0.length y0]) (fun ⟨G0,v0,E0,y0⟩ d1=>Rep.R d1 (bl [rr w 44 Ua (.slice (some ⟨c0,0,none⟩) ((a0.length:Nat):Int).toNat ((a0.length:Nat):Int).toNat) v0.length y0]++L) [E0] G0/\Cells d1 (bl [rr w 44 Ua (.slice (some ⟨c0,0,none⟩) ((a0.length:Nat):Int).toNat ((a0.length:Nat):Int).toNat) v0.length y0]++L) y0 v0) (fun ⟨G0,v0,E0,y0⟩=>(G0,v0)) D0 h ?_ ?_
 rintro ⟨G0,v0,E0,y0⟩ d1 x2 G2 ⟨C3,Q2⟩ h
 try dsimp only at h
 refine Ao<|Ak<|Ab I<|bk h fun v4 J3 h=>Ac (FV.subc (i:=s0) (j:=1) I I J3)<|Af I<|Aa<|u2 (G0,v4,v0,E0,y0) x2 (Tt F2 (Tt M0 G2)) ⟨C3,Q2⟩ h
 intro G4 k1 h
 try dsimp only at h
 refine AO I h (fun d2 h=>?_) (fun d2 h=>?_)
 refine Ae<|Ab I<|Ab I<|bk h fun x5 p4 h=>jE (bd 139) I (e2 I I) (fun p q=>bD_c n (D0.hL hL q) (Ax Z0 q) (Ax D1 q) p4) I fun s5 c5 K2 ⟨Y4,hu_,D3⟩=>?_
 subst hu_
 obtain ⟨p1,q1⟩:=D0.agr K2
 refine bk h fun R1 q4 h=>jE (bd 115) I (e2 I I) (fun p q=>ar_c n (p1.hL hL q) (Ax D3 q) q4) I fun t5 d5 M2 ⟨G1,hu_,E3⟩=>?_
 subst hu_
 obtain ⟨U0,s1⟩:=p1.agr M2
 refine Ac (FV.field1 (cs:=[.bool R1.fe,G1]) (off:=1) (m:=1) I I I I)<|Af I<|Aa<|du 10 fun j0 u0=>Rv 0 j0 I u0 (fun _=>Ah I)<|Rv 1 j0 I u0 (fun _=>Ah I)<|bk h fun b1 K3 h=>Rv 2 j0 I u0 (fun _=>FV.quoc (i:=s0) (j:=64) I I K3)<|bk h fun K1 W3 h=>?_
 obtain ⟨y1,X3⟩:=ax W3
 have B1:=Ar W0 (Tt M0 (Tt q1 s1))
 obtain ⟨V1,M4,P0,Y0,q2,F3,t3⟩:=BF (α:=Ua) U0 .hd B1 X3
 obtain ⟨Y1,P4,x1⟩:=Bd (α:=Ua) U0 .hd Y0
 obtain rfl:V1=⟨Y1,0,none⟩:=by rw [x1] at P0; cases P0; rfl
 have Z2:q2=[vU K1]:=F3; subst Z2
 refine Rv 3 j0 I u0 (fun _=>AU 1 (b1.toNat) I P0 I y1 Y0)<|Rx 4 1792 j0 I u0 (Ay I (t3 0 _ I))<|Rv 5 j0 I u0 (fun _=>Ah I)<|bk h fun x4 M3 h=>Rv 6 j0 I u0 (fun _=>FV.remc (i:=s0) (j:=64) I I M3)<|bk h fun s4 p3 h=>Rv 7 j0 I u0 (fun _=>FV.shlI (a:=(1:Ua)) (i:=x4) I I p3)<|Rv 8 j0 I u0 (fun _=>FV.orU (a:=K1) (b:=shlU (1:Ua) s4) I I)<|Rv 9 j0 I u0 (fun _=>AU 1 (b1.toNat) I P0 I y1 Y0)<|bk h fun A4 Z3 h=>Bb (i:=10) (rk j0) (RO.acts (m' :=2047) (sk j0) I I .plain (BE (α:=Ua) (i:=b1.toNat) Z3 U0 x1 (fun _=>.hd) B1 I I I I I I) (fun u5 ⟨s2,y2,t1,R2⟩=>?_))
 refine AQ (dk j0)<|k1 (R1.fk,A4,G1,s2) y2 (Tt q1 (Tt s1 t1)) ⟨(AB E3 t1),R2⟩ h
 refine Am<|k1 (F0,p0,A0,x0) D0 (By _ _) ⟨Z0,(Ar W0 M0)⟩ h
 refine AT I ?_
 have h:=c3 _ h
 try dsimp only at h
 refine Ae<|Ab I<|Ab I<|Af I<|Af I<|Aa<|Ap I ?_
 have K0:=BL H0 .hd
 have H2:=BM H0 .hd
 have G3:=BN (α:=Ua) (v:=(.slice (some ⟨c0,0,none⟩) ((a0.length:Nat):Int).toNat ((a0.length:Nat):Int).toNat)) (xs:=p0) K0 L (BA (α:=Ua) H0 .hd W0 hL)
 refine Aw hb0 func131 I (.cons (.tmp I) (.cons (.tmp I) .nil)) I ?_
 cases h
 exact ⟨K0.ag,fun p q=>⟨(.slice (some ⟨c0,0,none⟩) ((a0.length:Nat):Int).toNat ((a0.length:Nat):Int).toNat),A0,I,K0.kd G3 q,K0.kd (AB C1 H2) q⟩⟩
def ba_p (n:Nat) (a0:Tb) (a1:Tb):Oa (Tb×Tb):=
  (aF_p n a0.fk a1.fk).bind fun c0=>(ar_p n (!(a0.fe==a1.fe)) c0.1).bind fun d0=>(ar_p n a0.fe c0.2).bind fun b0=>(if b0.fe=true then (aw_p n b0 (⟨false,a1.fk⟩:Tb)).bind fun j0=>(aw_p n d0 (⟨(!a1.fe),([(1:Ua)]:Lb Ua)⟩:Tb)).bind fun g0=>some (g0,j0) else some (d0,b0))
theorem ba_c (n:Nat) {L w} (hL:hl L w) (a0:Tb) {v0_1:Vc} (h0_1:Rep.R w L [v0_1] a0.fk) (a1:Tb) {v1_1:Vc} (h1_1:Rep.R w L [v1_1] a1.fk)  {r:Tb×Tb} (h:ba_p n a0 a1=some r) :
 Cl 112 #[.agg #[.bool a0.fe,v0_1],.agg #[.bool a1.fe,v1_1]] w (aj w fun w' u=>∃ v0_1 v1_1:Vc,u=.tuple #[.agg #[.bool r.1.fe,v0_1],.agg #[.bool r.2.fe,v1_1]]/\Rep.R w' L [v0_1] r.1.fk/\Rep.R w' L [v1_1] r.2.fk):=by
 unfold ba_p at h
 refine AJ func112 I I I fun _ cs0 hb0=>Ae<|RG.bx (AI w) I I fun x3 R2 K1 X2=>RG.bx K1 I I fun B3 U2 R1 Y2=>RG.nl [.bool false,vN] R1 fun C3 J0 U1 Z2=>RG.nl [.bool false,vN] U1 fun E3 K0 p0 b3=>Aa<|Ae<|Bh 1 I<|AG I ((p0.memA .t3) 1 _ I)<|Bh 1 I<|AG I ((p0.memA .t2) 1 _ I)<|bk h fun W3 G2 h=>jE (bd 131) I (e2 I I) (fun p q=>aF_c n (p0.hL hL q) (p0.km h0_1 q) (p0.km h1_1 q) G2) I fun F3 k3 u2 ⟨d3,g3,hu_,C2,D2⟩=>?_
 subst hu_
 obtain ⟨D0,c3⟩:=p0.agr u2
 refine Ab I<|Ac (Al I I)<|Ac (Al I I)<|Af I<|Af I<|Aa<|Ai<|du 11 fun b0 d0=>Rv 0 b0 I d0 (fun _=>Bv 0 I)<|Rx 1 7248 b0 I d0 (Ay I ((D0.memA .t3) 0 _ I))<|Rv 2 b0 I d0 (fun _=>Bv 0 I)<|Rx 3 7248 b0 I d0 (Ay I ((D0.memA .t2) 0 _ I))<|Rv 4 b0 I d0 (fun _=>FV.neqB (a:=a0.fe) (b:=a1.fe) underlying4 I I)<|Rv 5 b0 I d0 (fun _=>Ah I)<|Rv 7 b0 I d0 (fun _=>Bv 0 I)<|Rx 8 7168 b0 I d0 (Ay I ((D0.memA .t3) 0 _ I))<|Rv 9 b0 I d0 (fun _=>Ah I)<|bk h fun x0 H2 h=>BQ 6 1023 b0 I .plain (bd 115) I (e2 I I) (fun p q=>ar_c n (D0.hL hL q) (Ax C2 q) H2) I fun G3 p3 v2 ⟨t0,hu_,G0⟩=>?_
 subst hu_
 obtain ⟨s1,p2⟩:=D0.agr v2
 refine bk h fun y0 I2 h=>BQ 10 2047 b0 I .plain (bd 115) I (e2 I I) (fun p q=>ar_c n (s1.hL hL q) (Ax (AB D2 p2) q) I2) I fun H3 q3 x2 ⟨u0,hu_,X0⟩=>?_
 subst hu_
 obtain ⟨Y1,F0⟩:=s1.agr x2
 refine BC 11 4095 b0 I I .plain (Az (news:=[.bool x0.fe,t0]) Y1 .t1 I I I I I I (o2 I (Bs (AB G0 F0)))) fun I3 Z1 k0=>BC 12 8191 b0 I I .plain (Az (news:=[.bool y0.fe,u0]) Z1 .hd I I I I I I (o2 I (Bs (AB X0 k0)))) fun J3 c0 q0=>AQ (dk b0)<|Ai<|Ae<|Bh 0 I<|AG I ((c0.memA .hd) 0 _ I)<|Aa<|MX.ifb I h (fun I1 h=>?_) (fun I1 h=>?_)
 refine Ae<|Bh 1 I<|AG I ((c0.memA .t2) 1 _ I) ?_
 obtain ⟨P2,W2,E2,_⟩:=Rep.sl (AH h1_1 c0)
 refine Ac (Bj (vs:=[v1_1]) (u:=.agg #[.bool false,v1_1]) (e1 I) (fun p=>by rw [E2]; try kernel_rfl))<|RG.nl [.bool false,vN] c0 fun K3 V2 u1 C1=>Bl [.bool false,v1_1] u1 .hd (o2 I (Bs (AH h1_1 u1))) fun M3 E0 D1=>Aa<|Ae<|Ac (AP I (E0.memA .t1))<|Ac (AP I (E0.memA .hd))<|bk h fun I0 J2 h=>jE (bd 128) I (e2 I I) (fun p q=>aw_c n (E0.hL hL q) y0 (Ax (AB X0 (Tt k0 (Tt q0 (Tt C1 D1)))) q) (⟨false,a1.fk⟩:Tb) (E0.km h1_1 q) J2) I fun P3 s3 y2 ⟨v0,hu_,j1⟩=>?_
 subst hu_
 obtain ⟨b2,q2⟩:=E0.agr y2
 refine Bl [.bool I0.fe,v0] b2 .t1 (o2 I (Bs j1)) fun Q3 v1 d1=>Aa<|Ae<|Bh 0 I<|AG I ((v1.memA .t3) 0 _ I)<|Ac (BV I)<|Av .plain I (jA ((1:Ua)) (vW 1) v1 bT (e1 I)) fun R3 M0 x1 g1=>Ac (Bj (vs:=[.bool (!a1.fe),(vS M0 1)]) (u:=.agg #[.bool (!a1.fe),(vS M0 1)]) (e2 I I) (fun p=>by kernel_rfl))<|RG.nl [.bool false,vN] x1 fun u3 Q2 q1 R0=>Bl [.bool (!a1.fe),(vS M0 1)] q1 .hd (o2 I (St.o1 (α:=Ua) q1 .t1)) fun v3 z0 U0=>Aa<|Ak<|Ac (AP I (z0.memA .t4))<|Ac (AP I (z0.memA .hd)) ?_
 have Y0:=BL z0 .t1
 have Z0:=BM z0 .t1
 refine bk h fun H0 F2 h=>jE (bd 128) I (e2 I I) (fun p q=>aw_c n (Y0.hL hL q) x0 (Ax (AB G0 (Tt F0 (Tt k0 (Tt q0 (Tt C1 (Tt D1 (Tt q2 (Tt d1 (Tt g1 (Tt R0 (Tt U0 Z0))))))))))) q) (⟨(!a1.fe),([(1:Ua)]:Lb Ua)⟩:Tb) (Ax (BN (α:=Ua) (v:=(vS M0 1)) (xs:=([(1:Ua)]:Lb Ua)) Y0 L (BA (α:=Ua) z0 .t1 (Ar (jC ((1:Ua)) (vW 1) x1 L I) (Tt R0 U0)) hL)) q) F2) I fun y3 j3 s2 ⟨s0,hu_,W0⟩=>?_
 subst hu_
 obtain ⟨J1,y1⟩:=Y0.agr s2
 refine Bl [.bool H0.fe,s0] J1 .t3 (o2 I (Bs W0)) fun z3 A0 V0=>Aa<|Ai<|du 2 fun g0 G1=>Rx 0 12 g0 I G1 (AP I (A0.memA .t3))<|RD.mo (α:=Unit) (fun ()=>[(4,vP J0),(5,vP K0),(46,.agg #[.bool I0.fe,v0])]) (fun ()=>[.cells K0 [.bool I0.fe,v0] 119,.cells J0 [.bool H0.fe,s0] 119]) A0 1 7 ?_ ?_
 rintro ⟨⟩ U3 M1 z1
 try dsimp only
 refine BC 3 15 g0 I I .plain (Az (news:=[.bool I0.fe,v0]) M1 .hd I I I I I I (o2 I (Bs (AB j1 (Tt d1 (Tt g1 (Tt R0 (Tt U0 (Tt Z0 (Tt y1 (Tt V0 z1))))))))))) fun A3 B0 c2=>AQ (dk g0)<|Ap I<|Aw hb0 func112 I (.cons (.many (cs:=[.bool H0.fe,s0]) I I (B0.memA .t1)) (.cons (.many (cs:=[.bool I0.fe,v0]) I I (B0.memA .hd)) .nil)) I ?_
 cases h
 have E1:=Tt V0 (Tt z1 c2)
 exact ⟨B0.ag,fun p q=>⟨s0,v0,I,B0.kd (AB W0 E1) q,B0.kd (AB j1 (Tt d1 (Tt g1 (Tt R0 (Tt U0 (Tt Z0 (Tt y1 E1))))))) q⟩⟩
 intro k1
 refine Bc [1,2] (rk g0) ⟨?_,?_,trivial⟩
 refine Bg (m' :=3) (sk g0) I .plain I (AP I (A0.memA .t2)) ?_
 have A2:=AB W0 V0
 refine BC 2 7 g0 I I .plain (Az (news:=[.bool H0.fe,s0]) A0 .t3 I I I I I I (o2 I (Bs A2))) fun M2 Q0 c1=>?_
 obtain ⟨P1,d2⟩:=AX Q0 (.a2 (.a2 .done))
 exact k1 () P1 (Tt c1 d2)
 refine RO.now (m' :=5) (sk g0) I I .plain (Az (news:=[.bool H0.fe,s0]) A0 .t3 I I I I I I (o2 I (Bs (AB W0 V0)))) fun M2 Q0 c1=>Rx 1 8 g0 I G1 (AP I (Q0.memA .t2)) ?_
 obtain ⟨Q1,g2⟩:=AX Q0 (.a2 (.a2 .done))
 exact k1 () Q1 (Tt c1 g2)
 refine Am<|Ai<|du 2 fun j0 H1=>Rx 0 12 j0 I H1 (AP I (c0.memA .t1))<|RD.mo (α:=Unit) (fun ()=>[(4,vP J0),(5,vP K0),(46,.agg #[.bool y0.fe,u0])]) (fun ()=>[.cells K0 [.bool y0.fe,u0] 119,.cells J0 [.bool x0.fe,t0] 119]) c0 1 7 ?_ ?_
 rintro ⟨⟩ V3 V1 A1
 try dsimp only
 have F1:=Tt k0 (Tt q0 A1)
 refine BC 3 15 j0 I I .plain (Az (news:=[.bool y0.fe,u0]) V1 .hd I I I I I I (o2 I (Bs (AB X0 F1)))) fun D3 C0 B1=>AQ (dk j0)<|Ap I<|Aw hb0 func112 I (.cons (.many (cs:=[.bool x0.fe,t0]) I I (C0.memA .t1)) (.cons (.many (cs:=[.bool y0.fe,u0]) I I (C0.memA .hd)) .nil)) I ?_
 cases h
 exact ⟨C0.ag,fun p q=>⟨t0,u0,I,C0.kd (AB G0 (Tt F0 (Tt k0 (Tt q0 (Tt A1 B1))))) q,C0.kd (AB X0 (Tt F1 B1)) q⟩⟩
 intro p1
 refine Bc [1,2] (rk j0) ⟨?_,?_,trivial⟩
 refine Bg (m' :=3) (sk j0) I .plain I (AP I (c0.memA .hd)) ?_
 have B2:=Tt F0 (Tt k0 q0)
 have z2:=AB G0 B2
 refine BC 2 7 j0 I I .plain (Az (news:=[.bool x0.fe,t0]) c0 .t1 I I I I I I (o2 I (Bs z2))) fun K2 P0 b1=>?_
 obtain ⟨W1,j2⟩:=AX P0 (.a0 (.a0 .done))
 exact p1 () W1 (Tt b1 j2)
 refine RO.now (m' :=5) (sk j0) I I .plain (Az (news:=[.bool x0.fe,t0]) c0 .t1 I I I I I I (o2 I (Bs (AB G0 (Tt F0 (Tt k0 q0)))))) fun K2 P0 b1=>Rx 1 8 j0 I H1 (AP I (P0.memA .hd)) ?_
 obtain ⟨X1,k2⟩:=AX P0 (.a0 (.a0 .done))
 exact p1 () X1 (Tt b1 k2)
def cg_p (_n:Nat) (a0:Ua) (a1:Ua):Oa (Ua×Ua):=
  (some (((shrU a0 32)*(a1&&&(4294967295:Ua)))+(shrU ((a0&&&(4294967295:Ua))*(a1&&&(4294967295:Ua))) 32))).bind fun u1=>(some (shrU ((u1&&&(4294967295:Ua))+((a0&&&(4294967295:Ua))*(shrU a1 32))) 32)).bind fun u2=>some ((((shrU a0 32)*(shrU a1 32))+(shrU u1 32))+u2,a0*a1)
theorem cg_c (n:Nat) {L w} (_hL:hl L w) (a0:Ua) (a1:Ua)  {r:Ua×Ua} (h:cg_p n a0 a1=some r) :
 Cl 152 #[vU a0,vU a1] w (aj w fun _ u=>u=.tuple #[vU r.1,vU r.2]):=by
 unfold cg_p at h
 have hS0:=AI w
 refine AJ func152 I I I fun _ cs0 hb0=>Ae<|Af I<|Af I<|Aa<|Ae<|Ab I<|Ac (Br (a:=a0) (b:=(4294967295:Ua)) I I)<|Af I<|Aa<|Ae<|Ab I<|Ac (FV.shrU (a:=a0) (j:=32) I I)<|Af I<|Aa<|Ae<|Ab I<|Ac (Br (a:=a1) (b:=(4294967295:Ua)) I I)<|Af I<|Aa<|Ae<|Ab I<|Ac (FV.shrU (a:=a1) (j:=32) I I)<|Af I<|Aa<|Ae<|Ab I<|Ab I<|Ac (FV.mulU (a:=a0&&&(4294967295:Ua)) (b:=a1&&&(4294967295:Ua)) I I)<|Af I<|Aa<|Ae<|Ab I<|Ab I<|Ac (FV.mulU (a:=shrU a0 32) (b:=a1&&&(4294967295:Ua)) I I)<|Ab I<|Ac (FV.shrU (a:=(a0&&&(4294967295:Ua))*(a1&&&(4294967295:Ua))) (j:=32) I I)<|bk h fun u1 hu1 h=>Ac (FV.as (FV.addU (a:=(shrU a0 32)*(a1&&&(4294967295:Ua))) (b:=shrU ((a0&&&(4294967295:Ua))*(a1&&&(4294967295:Ua))) 32) I I) (congrArg (fun z:Ua=>Value.int .u64 (z.toNat:Int)) (Option.some.inj hu1)))<|Af I<|Aa<|Ae<|Ab I<|Ac (Br (a:=u1) (b:=(4294967295:Ua)) I I)<|Af I<|Aa<|Ae<|Ab I<|Ac (FV.shrU (a:=u1) (j:=32) I I)<|Af I<|Aa<|Ae<|Ab I<|Ab I<|Ab I ?_
 refine Ac (FV.mulU (a:=a0&&&(4294967295:Ua)) (b:=shrU a1 32) I I)<|Ac (FV.addU (a:=u1&&&(4294967295:Ua)) (b:=(a0&&&(4294967295:Ua))*(shrU a1 32)) I I)<|Af I<|Aa<|Ae<|Ab I<|Ab I<|Ac (FV.mulU (a:=shrU a0 32) (b:=shrU a1 32) I I)<|Ab I<|Ac (FV.addU (a:=(shrU a0 32)*(shrU a1 32)) (b:=shrU u1 32) I I)<|Ab I<|bk h fun u2 hu2 h=>Ac (FV.as (FV.shrU (a:=(u1&&&(4294967295:Ua))+((a0&&&(4294967295:Ua))*(shrU a1 32))) (j:=32) I I) (congrArg (fun z:Ua=>Value.int .u64 (z.toNat:Int)) (Option.some.inj hu2)))<|Ac (FV.addU (a:=((shrU a0 32)*(shrU a1 32))+(shrU u1 32)) (b:=u2) I I)<|Af I<|Aa<|Ae<|Ab I<|Ab I<|Ac (FV.mulU (a:=a0) (b:=a1) I I)<|Af I<|Aa<|Ap I<|Aw hb0 func152 I (.cons (.tmp I) (.cons (.tmp I) .nil)) I ?_
 cases h
 exact hS0.gv
def aH_l1 (n:Nat) (a1:Lb Ua) (s0:Ua) (d0:Nat) (q0:Ua×Nat×(Lb Ua)->Oa ((Lb Ua)×Ua)):Ua×Nat×(Lb Ua)->Oa ((Lb Ua)×Ua)
  | (g0,b0,c0)=>(if b0<a1.length then (a1[b0]?).bind fun t0=>(cg_p n s0 t0).bind fun j0=>(c0[d0+b0]?).bind fun u0=>(add64 u0 j0.2 (0:Ua)).bind fun k0=>(add64 k0.1 g0 (0:Ua)).bind fun p0=>(put c0 ((d0+b0:Nat):Int) p0.1).bind fun v0=>q0 ((j0.1+k0.2)+p0.2,b0+1,v0) else some (c0,g0))
def aH_l2 (n:Nat) (a0:Lb Ua) (a1:Lb Ua) (g0:Nat×(Lb Ua)->Oa (Lb Ua)):Nat×(Lb Ua)->Oa (Lb Ua)
  | (b0,c0)=>(if b0<a0.length then (a0[b0]?).bind fun k0=>Option.bind (ah (aH_l1 n a1 k0 b0) n (0,0,c0)) (fun (d0,j0)=>(d0[b0+a1.length]?).bind fun _x490=>(put d0 ((b0+a1.length:Nat):Int) j0).bind fun p0=>g0 (b0+1,p0)) else some c0)
def aH_p (n:Nat) (a0:Lb Ua) (a1:Lb Ua):Oa (Lb Ua):=
  (mk ((a0.length+a1.length:Nat):Int) (0:Ua)).bind fun b0=>Option.bind (ah (aH_l2 n a0 a1) n (0,b0)) (fun c0=>some c0)
theorem aH_c (n:Nat) {L w} (hL:hl L w) {a0:Lb Ua} {v0_0:Vc} (h0_0:Rep.R w L [v0_0] a0) {a1:Lb Ua} {v1_0:Vc} (h1_0:Rep.R w L [v1_0] a1)  {r:Lb Ua} (h:aH_p n a0 a1=some r) :
 Cl 136 #[v0_0,v1_0] w (aj w fun w' u=>∃ v0_0:Vc,u=v0_0/\Rep.R w' L [v0_0] r):=by
 unfold aH_p at h
 refine AJ func136 I I I fun _ cs0 hb0=>Ae<|Af I<|Aa<|Ae<|Ab I ?_
 have hl1:=AY h0_0
 refine Ac (Bf (xs:=a0) underlying101 I h0_0)<|Ab I ?_
 have hl2:=AY h1_0
 refine Ac (Bf (xs:=a1) underlying101 I h1_0)<|Ac (AW (i:=a0.length) (j:=a1.length) I I (by omega))<|bk h fun R0 J0 h=>Av .plain I (Does.mk (α:=Ua) J0 (AI w) bT I) fun Q2 j0 z0 I2=>Af I<|Aa<|Ai<|Ae<|Ab I<|Ac (Bf (xs:=a0) underlying101 I (AH h0_0 z0))<|Ab I<|Aa<|Aq ?_
 obtain ⟨M2,U1,I1⟩:=ai h
 refine MX.lf (α:=Nat×(Lb Ua)×(Lb Vc)) (fun ⟨b0,d0,k0⟩=>[(1,v1_0),(5,(.slice (some ⟨j0,0,none⟩) ((a0.length+a1.length:Nat):Int).toNat ((a0.length+a1.length:Nat):Int).toNat)),(22,v0_0),(23,vn a0.length),(24,vn b0)]) (fun ⟨b0,d0,k0⟩=>[rr w 44 Ua (.slice (some ⟨j0,0,none⟩) ((a0.length+a1.length:Nat):Int).toNat ((a0.length+a1.length:Nat):Int).toNat) d0.length k0]) (fun ⟨b0,d0,k0⟩ K0=>Cells K0 (bl [rr w 44 Ua (.slice (some ⟨j0,0,none⟩) ((a0.length+a1.length:Nat):Int).toNat ((a0.length+a1.length:Nat):Int).toNat) d0.length k0]++L) k0 d0) (fun ⟨b0,d0,k0⟩=>(b0,d0)) (0,R0,(List.replicate ((a0.length+a1.length:Nat):Int).toNat [vW 0]).flatten) U1 z0 (AD (cs:=(List.replicate ((a0.length+a1.length:Nat):Int).toNat [vW 0]).flatten) (xs:=R0) z0 L (Cells.mk J0 I)) ?_
 rintro A2 ⟨b0,d0,k0⟩ K0 q1 t0 x1 F0 h
 unfold aH_l2 at h
 try dsimp only at h
 refine Ae<|Ac (Bp (i:=b0) (j:=a0.length) I I)<|Aa<|Ai<|AO I h (fun Z0 h=>?_) (fun Z0 h=>?_)
 refine Am<|Ai<|Aq<|Ae<|Ab I<|bk h fun D0 c2 h=>?_
 obtain ⟨y2,C2,C1,K1,c1,W1,P1⟩:=Bq (AH h0_0 t0) c2
 have D1:c1=[vU D0]:=W1; subst D1
 refine Ac (AU 1 b0 I C1 I I K1)<|AG I (P1 0 _ I)<|Af I<|Af I<|Aa<|Ae<|Af I<|Aa<|Ai<|Ae<|Ab I<|Ac (Bf (xs:=a1) underlying101 I (AH h1_0 t0))<|Ab I<|Aa<|Aq ?_
 obtain ⟨P2,V1,J1⟩:=ai h
 refine MX.lf (α:=Ua×Nat×(Lb Ua)×(Lb Vc)) (fun ⟨s0,c0,p0,q0⟩=>[(1,v1_0),(5,(.slice (some ⟨j0,0,none⟩) ((a0.length+a1.length:Nat):Int).toNat ((a0.length+a1.length:Nat):Int).toNat)),(22,v0_0),(23,vn a0.length),(24,vn b0),(6,vn b0),(7,vU D0),(8,vU s0),(29,v1_0),(30,vn a1.length),(31,vn c0)]) (fun ⟨s0,c0,p0,q0⟩=>[rr w 44 Ua (.slice (some ⟨j0,0,none⟩) ((a0.length+a1.length:Nat):Int).toNat ((a0.length+a1.length:Nat):Int).toNat) p0.length q0]) (fun ⟨s0,c0,p0,q0⟩ M0=>Cells M0 (bl [rr w 44 Ua (.slice (some ⟨j0,0,none⟩) ((a0.length+a1.length:Nat):Int).toNat ((a0.length+a1.length:Nat):Int).toNat) p0.length q0]++L) q0 p0) (fun ⟨s0,c0,p0,q0⟩=>(s0,c0,p0)) (0,0,d0,k0) V1 t0 F0 ?_
 rintro B2 ⟨s0,c0,p0,q0⟩ M0 s1 g0 E0 v0 h
 unfold aH_l1 at h
 try dsimp only at h
 refine Ae<|Ac (Bp (i:=c0) (j:=a1.length) I I)<|Aa<|Ai<|AO I h (fun b1 h=>?_) (fun b1 h=>?_)
 refine Am<|Ai<|Aq<|Ae<|Ab I<|bk h fun P0 d2 h=>?_
 obtain ⟨z2,D2,E1,M1,d1,X1,Q1⟩:=Bq (AH h1_0 g0) d2
 have F1:d1=[vU P0]:=X1; subst F1
 refine Ac (AU 1 c0 I E1 I I M1)<|AG I (Q1 0 _ I)<|Af I<|Af I<|Aa<|Ae<|Ab I<|Ab I<|bk h fun u0 q2 h=>Bz (.tuple #[vU u0.1,vU u0.2]) (bd 152) I (e2 I I) (fun p q=>cg_c n (g0.hL0 hL q) D0 P0 q2) I<|Ab I<|Ac (Al I I)<|Ac (Al I I)<|Af I<|Af I<|Aa<|Ae<|Ab I<|Ab I<|Ab I<|Ac (AW (i:=b0) (j:=c0) I I (by omega))<|bk h fun Q0 g2 h=>?_
 obtain ⟨V0,E2,x0,C0,g1,Y1,R1⟩:=BF (α:=Ua) g0 .hd v0 g2
 obtain ⟨X0,F2,G0⟩:=Bd (α:=Ua) g0 .hd C0
 obtain rfl:V0=⟨X0,0,none⟩:=by rw [G0] at x0; cases x0; rfl
 have G1:g1=[vU Q0]:=Y1; subst G1
 refine Ac (AU 1 (b0+c0) I x0 I I C0)<|AG I (R1 0 _ I)<|Ab I<|bk h fun y0 s2 h=>Ac (FV.add64 (a:=Q0) (b:=u0.2) (c:=(0:Ua)) func153 I I I I I I I s2)<|Ab I<|Ac (Al I I)<|Ac (Al I I)<|Af I<|Af I<|Aa<|Ae<|Ab I<|Ab I<|bk h fun U0 t2 h=>Ac (FV.add64 (a:=y0.1) (b:=s0) (c:=(0:Ua)) func153 I I I I I I I t2)<|Ab I<|Ac (Al I I)<|Ac (Al I I)<|Af I<|Af I<|Aa<|Ak<|Ab I<|Ab I<|Ab I<|Ac (AW (i:=b0) (j:=c0) I I (by omega))<|Ab I<|Ab I<|Ab I<|Ac (FV.addU (a:=u0.1) (b:=y0.2) I I)<|Ab I<|Ac (FV.addU (a:=u0.1+y0.2) (b:=U0.2) I I)<|Ac (AU 1 (b0+c0) I x0 I I C0)<|bk h fun v2 k2 h=>RG.acts' .plain (BE (α:=Ua) (i:=b0+c0) k2 g0 G0 (fun _=>.hd) v0 I I I I I I) fun R2 ⟨j1,u1,y1,A1⟩=>Af I<|Aa<|Ao<|Ak<|Ac (AW (i:=c0) (j:=1) I I (by omega))<|Ab I<|Aa<|s1 ((u0.1+y0.2)+U0.2,c0+1,v2,j1) u1 (Tt E0 y1) A1 h
 refine AT I ?_
 have h:=J1 _ h
 try dsimp only at h
 refine Ak<|Ab I<|Ab I<|Ab I<|Ac (Bf (xs:=a1) underlying101 I (AH h1_0 g0))<|Ac (AW (i:=b0) (j:=a1.length) I I (by omega))<|Ab I<|bk h fun u2 j2 h=>?_
 obtain ⟨W0,G2,B0,I0,k1,Z1,K2⟩:=BF (α:=Ua) g0 .hd v0 j2
 obtain ⟨Y0,H2,H0⟩:=Bd (α:=Ua) g0 .hd I0
 obtain rfl:W0=⟨Y0,0,none⟩:=by rw [H0] at B0; cases B0; rfl
 have H1:k1=[vU u2]:=Z1; subst H1
 refine Ac (AU 1 (b0+a1.length) I B0 I I I0)<|bk h fun x2 p2 h=>RG.acts' .plain (BE (α:=Ua) (i:=b0+a1.length) p2 g0 H0 (fun _=>.hd) v0 I I I I I I) fun U2 ⟨p1,v1,z1,B1⟩=>Aa<|Ao<|Ak<|Ac (AW (i:=b0) (j:=1) I I (by omega))<|Ab I<|Aa<|q1 (b0+1,x2,p1) v1 (Tt x1 (Tt E0 z1)) B1 h
 refine AT I ?_
 have h:=I1 _ h
 try dsimp only at h
 refine Ae<|Ab I<|Af I<|Aa<|Ap I ?_
 have A0:=BL t0 .hd
 have J2:=BM t0 .hd
 have b2:=BN (α:=Ua) (v:=(.slice (some ⟨j0,0,none⟩) ((a0.length+a1.length:Nat):Int).toNat ((a0.length+a1.length:Nat):Int).toNat)) (xs:=d0) A0 L (BA (α:=Ua) t0 .hd F0 hL)
 refine AV hb0 func136 I I ?_
 cases h
 exact ⟨A0.ag,fun p q=>⟨(.slice (some ⟨j0,0,none⟩) ((a0.length+a1.length:Nat):Int).toNat ((a0.length+a1.length:Nat):Int).toNat),I,A0.kd b2 q⟩⟩
def ao_p (n:Nat) (a0:Tb) (a1:Tb):Oa Tb:=
  (aH_p n a0.fk a1.fk).bind fun b0=>(ar_p n (!(a0.fe==a1.fe)) b0).bind fun c0=>some c0
theorem ao_c (n:Nat) {L w} (hL:hl L w) (a0:Tb) {v0_1:Vc} (h0_1:Rep.R w L [v0_1] a0.fk) (a1:Tb) {v1_1:Vc} (h1_1:Rep.R w L [v1_1] a1.fk)  {r:Tb} (h:ao_p n a0 a1=some r) :
 Cl 125 #[.agg #[.bool a0.fe,v0_1],.agg #[.bool a1.fe,v1_1]] w (aj w fun w' u=>∃ v0_1:Vc,u=.agg #[.bool r.fe,v0_1]/\Rep.R w' L [v0_1] r.fk):=by
 unfold ao_p at h
 refine AJ func125 I I I fun _ cs0 hb0=>Ae<|RG.bx (AI w) I I fun Q0 C0 s0 F0=>RG.bx s0 I I fun R0 D0 t0 G0=>RG.nl [.bool false,vN] t0 fun U0 E0 d0 H0=>Aa<|Ai<|du 11 fun b0 c0=>Rv 0 b0 I c0 (fun _=>Bv 0 I)<|Rx 1 3088 b0 I c0 (Ay I ((d0.memA .t2) 0 _ I))<|Rv 2 b0 I c0 (fun _=>Bv 0 I)<|Rx 3 3088 b0 I c0 (Ay I ((d0.memA .t1) 0 _ I))<|Rv 4 b0 I c0 (fun _=>FV.neqB (a:=a0.fe) (b:=a1.fe) underlying4 I I)<|Rv 5 b0 I c0 (fun _=>Bv 1 I)<|Rx 6 3584 b0 I c0 (Ay I ((d0.memA .t2) 1 _ I))<|Rv 7 b0 I c0 (fun _=>Bv 1 I)<|Rx 8 3584 b0 I c0 (Ay I ((d0.memA .t1) 1 _ I))<|bk h fun Y0 A0 h=>BQ 9 1023 b0 I .plain (bd 136) I (e2 I I) (fun p q=>aH_c n (d0.hL hL q) (d0.km h0_1 q) (d0.km h1_1 q) A0) I fun V0 M0 x0 ⟨K0,hu_,z0⟩=>?_
 subst hu_
 obtain ⟨k0,I0⟩:=d0.agr x0
 refine bk h fun q0 B0 h=>BQ 10 2047 b0 I .plain (bd 115) I (e2 I I) (fun p q=>ar_c n (k0.hL hL q) (Ax z0 q) B0) I fun W0 P0 y0 ⟨j0,hu_,p0⟩=>?_
 subst hu_
 obtain ⟨u0,J0⟩:=k0.agr y0
 refine BC 11 4095 b0 I I .plain (Az (news:=[.bool q0.fe,j0]) u0 .hd I I I I I I (o2 I (Bs p0))) fun X0 g0 v0=>AQ (dk b0)<|Ap I<|Aw hb0 func125 I (.cons (.many (cs:=[.bool q0.fe,j0]) I I (g0.memA .hd)) .nil) I ?_
 cases h
 exact ⟨g0.ag,fun p q=>⟨j0,I,g0.kd (AB p0 v0) q⟩⟩
def aS_p (n:Nat) (a0:Tb):Oa Tb:=
  (ar_p n (!a0.fe) a0.fk).bind fun b0=>some b0
theorem aS_c (n:Nat) {L w} (hL:hl L w) (a0:Tb) {v0_1:Vc} (h0_1:Rep.R w L [v0_1] a0.fk)  {r:Tb} (h:aS_p n a0=some r) :
 Cl 113 #[.agg #[.bool a0.fe,v0_1]] w (aj w fun w' u=>∃ v0_1:Vc,u=.agg #[.bool r.fe,v0_1]/\Rep.R w' L [v0_1] r.fk):=by
 unfold aS_p at h
 refine AJ func113 I I I fun _ cs0 hb0=>Ae<|RG.bx (AI w) I I fun B0 u0 k0 x0=>RG.nl [.bool false,vN] k0 fun C0 v0 b0 y0=>Aa<|Ae<|Bh 0 I<|AG I ((b0.memA .t1) 0 _ I)<|Ac (BV I)<|Bh 1 I<|AG I ((b0.memA .t1) 1 _ I)<|bk h fun j0 t0 h=>jE (bd 115) I (e2 I I) (fun p q=>ar_c n (b0.hL hL q) (b0.km h0_1 q) t0) I fun D0 A0 s0 ⟨d0,hu_,g0⟩=>?_
 subst hu_
 obtain ⟨p0,z0⟩:=b0.agr s0
 refine Bl [.bool j0.fe,d0] p0 .hd (o2 I (Bs g0)) fun E0 c0 q0=>Aa<|Ap I<|Aw hb0 func113 I (.cons (.many (cs:=[.bool j0.fe,d0]) I I (c0.memA .hd)) .nil) I ?_
 cases h
 exact ⟨c0.ag,fun p q=>⟨d0,I,c0.kd (AB g0 q0) q⟩⟩
def bF_p (n:Nat) (a0:Tb) (a1:Tb):Oa Tb:=
  (aS_p n a1).bind fun b0=>(aw_p n a0 b0).bind fun c0=>some c0
theorem bF_c (n:Nat) {L w} (hL:hl L w) (a0:Tb) {v0_1:Vc} (h0_1:Rep.R w L [v0_1] a0.fk) (a1:Tb) {v1_1:Vc} (h1_1:Rep.R w L [v1_1] a1.fk)  {r:Tb} (h:bF_p n a0 a1=some r) :
 Cl 158 #[.agg #[.bool a0.fe,v0_1],.agg #[.bool a1.fe,v1_1]] w (aj w fun w' u=>∃ v0_1:Vc,u=.agg #[.bool r.fe,v0_1]/\Rep.R w' L [v0_1] r.fk):=by
 unfold bF_p at h
 refine AJ func158 I I I fun _ cs0 hb0=>Ae<|RG.bx (AI w) I I fun R0 D0 s0 G0=>RG.bx s0 I I fun U0 E0 t0 H0=>RG.nl [.bool false,vN] t0 fun V0 F0 c0 I0=>Aa<|Ai<|du 4 fun b0 p0=>Rx 0 24 b0 I p0 (AP I (c0.memA .t2))<|Rx 1 28 b0 I p0 (AP I (c0.memA .t1))<|bk h fun C0 A0 h=>BQ 2 7 b0 I .plain (bd 113) I (e1 I) (fun p q=>aS_c n (c0.hL hL q) a1 (c0.km h1_1 q) A0) I fun W0 P0 x0 ⟨M0,hu_,z0⟩=>?_
 subst hu_
 obtain ⟨d0,J0⟩:=c0.agr x0
 refine bk h fun q0 B0 h=>BQ 3 15 b0 I .plain (bd 128) I (e2 I I) (fun p q=>aw_c n (d0.hL hL q) a0 (d0.km h0_1 q) C0 (Ax z0 q) B0) I fun X0 Q0 y0 ⟨j0,hu_,k0⟩=>?_
 subst hu_
 obtain ⟨u0,K0⟩:=d0.agr y0
 refine BC 4 31 b0 I I .plain (Az (news:=[.bool q0.fe,j0]) u0 .hd I I I I I I (o2 I (Bs k0))) fun Y0 g0 v0=>AQ (dk b0)<|Ap I<|Aw hb0 func158 I (.cons (.many (cs:=[.bool q0.fe,j0]) I I (g0.memA .hd)) .nil) I ?_
 cases h
 exact ⟨g0.ag,fun p q=>⟨j0,I,g0.kd (AB k0 v0) q⟩⟩

theorem cx {w:World} {L:Lb Nat} {cs:Lb Vc} {x:Tb} (h:Rep.R w L cs x):∃ v1:Vc,cs=[.bool x.fe,v1]/\Rep.R w L [v1] x.fk:=by
  obtain ⟨c0,r0,rfl,h0,h⟩:=h
  have e0:c0=[.bool x.fe]:=h0; subst e0
  obtain ⟨v1,rfl,kv1⟩:=bX (xs:=x.fk) h
  exact ⟨v1,I,kv1⟩
theorem gL {w:World} {L:Lb Nat} (a0:Bool) (a1:Lb Ua) {u1:Vc} (h1:Rep.R w L [u1] a1):Rep.R w L [.bool a0,u1] (⟨a0,a1⟩:Tb):=⟨[.bool a0],[u1],rfl,rfl,h1⟩
theorem el227:ElT Tryz.prog 227 3 (Rep.size Int) 8 (vI 0) [vI 0]:=⟨underlying227,by kernel_rfl,rfl,rfl,rfl,rfl⟩
theorem el235:ElT Tryz.prog 235 236 (Rep.size (Lb Tb)) 24 vN [vN]:=⟨underlying235,by kernel_rfl,rfl,rfl,rfl,rfl⟩
theorem el236:ElT Tryz.prog 236 119 (Rep.size Tb) 32 (.agg #[.bool false,vN]) [.bool false,vN]:=⟨underlying236,by kernel_rfl,rfl,rfl,rfl,rfl⟩
def ae_l1 (n:Nat) (g0:Nat) (d0:Nat) (s0:Tb) (q0:Bool) (x0:Lb Ua) (p0:Nat×(Lb (Lb Tb))->Oa (Lb (Lb Tb))):Nat×(Lb (Lb Tb))->Oa (Lb (Lb Tb))
  | (c0,b0)=>(if c0<b0.length then (b0[g0]?).bind fun j0=>(j0[c0]?).bind fun t0=>(b0[d0]?).bind fun k0=>(k0[d0]?).bind fun u0=>(k0[c0]?).bind fun v0=>(ao_p n t0 u0).bind fun z0=>(ao_p n s0 v0).bind fun A0=>(bF_p n z0 A0).bind fun B0=>(ba_p n B0 (⟨q0,x0⟩:Tb)).bind fun C0=>(put j0 ((c0:Nat):Int) C0.1).bind fun y0=>p0 (c0+1,(b0.set g0 y0)) else some b0)
def ae_l2 (n:Nat) (d0:Nat) (k0:Bool) (s0:Lb Ua) (g0:Nat×(Lb (Lb Tb))->Oa (Lb (Lb Tb))):Nat×(Lb (Lb Tb))->Oa (Lb (Lb Tb))
  | (c0,b0)=>(if c0<b0.length then (b0[c0]?).bind fun p0=>(p0[d0]?).bind fun q0=>Option.bind (ah (ae_l1 n c0 d0 q0 k0 s0) n (d0,b0)) (fun j0=>g0 (c0+1,j0)) else some b0)
def ae_l3 (n:Nat) (s0:Lb (Lb Tb)) (q0:Nat×Bool×(Lb Ua)×(Lb (Lb Tb))->Oa (((U8)×Int)⊕(Bool×(Lb Ua)))):Nat×Bool×(Lb Ua)×(Lb (Lb Tb))->Oa (((U8)×Int)⊕(Bool×(Lb Ua)))
  | (b0,g0,k0,c0)=>(if b0<s0.length then (c0[b0]?).bind fun t0=>(t0[b0]?).bind fun u0=>(bC_p n u0).bind fun x0=>(if x0=0 then (bg_p n (0:Int)).bind fun y0=>((aT_p n y0).bind fun p0=>some (p0.1,p0.2)).map .inl else Option.bind (ah (ae_l2 n b0 g0 k0) n (b0+1,c0)) (fun d0=>(d0[b0]?).bind fun v0=>(v0[b0]?).bind fun j0=>q0 (b0+1,j0.fe,j0.fk,d0))) else some (.inr (g0,k0)))
def ae_l4 (n:Nat) (a0:Tc) (a1:Ua) (z0:Lb Int) (b0:Lb (Int×Int)) (k0:Nat×(Lb (Lb Tb))->Oa (Lb (Lb Tb))):Nat×(Lb (Lb Tb))->Oa (Lb (Lb Tb))
  | (j0,g0)=>(if j0<a0.fo.length then (a0.fo[j0]?).bind fun q0=>(cr_p n a1 q0).bind fun I0=>(if I0=true then (aA_p n z0 q0.1).bind fun d0=>(aA_p n z0 q0.2).bind fun c0=>(if d0=c0 then k0 (j0+1,g0) else (if (aP b0 d0).isSome=true then (idx g0 (ap b0 d0 (0:Int))).bind fun t0=>(idx t0 (ap b0 d0 (0:Int))).bind fun B0=>(bg_p n (1:Int)).bind fun J0=>(aw_p n B0 J0).bind fun K0=>(put t0 (((ap b0 d0 (0:Int)).toNat:Nat):Int) K0).bind fun p0=>(if (aP b0 c0).isSome=true then (idx (g0.set ((ap b0 d0 (0:Int)).toNat) p0) (ap b0 c0 (0:Int))).bind fun u0=>(idx u0 (ap b0 c0 (0:Int))).bind fun C0=>(bg_p n (1:Int)).bind fun M0=>(aw_p n C0 M0).bind fun P0=>(put u0 (((ap b0 c0 (0:Int)).toNat:Nat):Int) P0).bind fun s0=>(idx ((g0.set ((ap b0 d0 (0:Int)).toNat) p0).set ((ap b0 c0 (0:Int)).toNat) s0) (ap b0 d0 (0:Int))).bind fun v0=>(idx v0 (ap b0 c0 (0:Int))).bind fun D0=>(bg_p n (-1:Int)).bind fun Q0=>(aw_p n D0 Q0).bind fun R0=>(put v0 (((ap b0 c0 (0:Int)).toNat:Nat):Int) R0).bind fun A0=>(idx (((g0.set ((ap b0 d0 (0:Int)).toNat) p0).set ((ap b0 c0 (0:Int)).toNat) s0).set ((ap b0 d0 (0:Int)).toNat) A0) (ap b0 c0 (0:Int))).bind fun x0=>(idx x0 (ap b0 d0 (0:Int))).bind fun E0=>(bg_p n (-1:Int)).bind fun U0=>(aw_p n E0 U0).bind fun V0=>(put x0 (((ap b0 d0 (0:Int)).toNat:Nat):Int) V0).bind fun G0=>k0 (j0+1,((((g0.set ((ap b0 d0 (0:Int)).toNat) p0).set ((ap b0 c0 (0:Int)).toNat) s0).set ((ap b0 d0 (0:Int)).toNat) A0).set ((ap b0 c0 (0:Int)).toNat) G0)) else k0 (j0+1,(g0.set ((ap b0 d0 (0:Int)).toNat) p0))) else (if (aP b0 c0).isSome=true then (idx g0 (ap b0 c0 (0:Int))).bind fun y0=>(idx y0 (ap b0 c0 (0:Int))).bind fun F0=>(bg_p n (1:Int)).bind fun W0=>(aw_p n F0 W0).bind fun X0=>(put y0 (((ap b0 c0 (0:Int)).toNat:Nat):Int) X0).bind fun H0=>k0 (j0+1,(g0.set ((ap b0 c0 (0:Int)).toNat) H0)) else k0 (j0+1,g0)))) else k0 (j0+1,g0)) else some g0)
def ae_l5 (_n:Nat) (j0:Lb (Lb Tb)) (d0:Lb (Int×Int)) (g0:Nat×(Lb (Lb Tb))->Oa (Lb (Lb Tb))):Nat×(Lb (Lb Tb))->Oa (Lb (Lb Tb))
  | (b0,c0)=>(if b0<j0.length then (mk ((d0.length:Nat):Int) (⟨false,([]:Lb Ua)⟩:Tb)).bind fun k0=>(c0[b0]?).bind fun _x518=>g0 (b0+1,(c0.set b0 k0)) else some c0)
def ae_l6 (n:Nat) (a1:Ua) (k0:Lb Int) (p0:Int) (d0:Nat×(Lb (Int×Int))->Oa (Lb (Int×Int))):Nat×(Lb (Int×Int))->Oa (Lb (Int×Int))
  | (b0,c0)=>(if b0<64 then (if ((shrU a1 b0)&&&(1:Ua))=(1:Ua) then (aA_p n k0 ((b0:Nat):Int)).bind fun q0=>(if q0=((b0:Nat):Int) then jn (fun j0=>d0 (b0+1,j0)) (fun g0=>(if ((b0:Nat):Int)=p0 then g0 c0 else g0 (aH c0 ((b0:Nat):Int) ((c0.length:Nat):Int)))) else d0 (b0+1,c0)) else d0 (b0+1,c0)) else some c0)
def ae_l7 (n:Nat) (a0:Tc) (a1:Ua) (c0:Nat->Oa Unit):Nat->Oa Unit
  | b0=>(if b0<a0.fo.length then (a0.fo[b0]?).bind fun d0=>(cr_p n a1 d0).bind fun g0=>(if g0=true then c0 (b0+1) else c0 (b0+1)) else some ())
def ae_l8 (_n:Nat) (j0:Lb Int) (d0:Nat×(Lb Int)->Oa (Lb Int)):Nat×(Lb Int)->Oa (Lb Int)
  | (b0,c0)=>(if b0<j0.length then (c0[b0]?).bind fun _x129=>(put c0 ((b0:Nat):Int) ((b0:Nat):Int)).bind fun g0=>d0 (b0+1,g0) else some c0)
def ae_p (n:Nat) (a0:Tc) (a1:Ua):Oa ((U8)×Int):=
  (cu_p n a0 a1).bind fun p0=>(if p0=0 then (mk 64 (0:Int)).bind fun j0=>Option.bind (ah (ae_l8 n j0) n (0,j0)) (fun c0=>Option.bind (ah (ae_l7 n a0 a1) n 0) (fun _=>(aj_p n a1).bind fun v0=>(aA_p n c0 v0).bind fun x0=>Option.bind (ah (ae_l6 n a1 c0 x0) n (0,([]:Lb (Int×Int)))) (fun b0=>(mk ((b0.length:Nat):Int) ([]:Lb Tb)).bind fun g0=>Option.bind (ah (ae_l5 n g0 b0) n (0,g0)) (fun s0=>Option.bind (ah (ae_l4 n a0 a1 c0 b0) n (0,s0)) (fun d0=>(bg_p n (1:Int)).bind fun k0=>thn (ah (ae_l3 n d0) n (0,k0.fe,k0.fk,d0)) (fun (t0,u0)=>(aT_p n (⟨t0,u0⟩:Tb)).bind fun q0=>some (q0.1,q0.2))))))) else some ((0,0,0,0,0,0,0,0),p0))
theorem ae_c (n:Nat) {L w} (hL:hl L w) (a0:Tc) {v0_1:Vc} (h0_1:Rep.R w L [v0_1] a0.fo) (a1:Ua) (hG0:Glob 0 tab0 w)  {r:(U8)×Int} (h:ae_p n a0 a1=some r) :
 Cl 124 #[.agg #[vI a0.fN,v0_1],vU a1] w (aj w fun _ u=>u=.tuple #[.agg ((ae r.1)).toArray,vI r.2]):=by
 unfold ae_p at h
 refine AJ func124 I I I fun _ cs0 hb0=>Ae<|RG.bx (AI w) I I fun w11 z0 Q04 Z0h=>RG.nl zP Q04 fun w16 A0 j3 b0i=>Af I<|Aa<|Ai<|Ae<|Ac (AP I (j3.memA .t1))<|Ab I<|bk h fun y20 j0d h=>Bz (vI y20) (bd 134) I (e2 I I) (fun p q=>cu_c n (j3.hL0 hL q) a0 (j3.k0 h0_1 q) a1 j0d) I<|Af I<|Aa<|Ae<|Ab I<|Ac (FV.neq (i:=y20) (j:=0) I I)<|Aa<|MX.ifn I h (fun c21 h=>?_) (fun c21 h=>?_)
 refine Am<|Ae<|Ac (AP I (j3.memA .t1))<|Ab I<|BB (fst:=[]) (cap:=[]) (vs:=[.agg #[vI a0.fN,v0_1],vU a1,.map none,.map none]) .plain (bd 135) func135 I I I I (e4 I I I I) I fun B0h x9 p0j=>Ae<|RG.bx j3 I I fun w26 u0 u05 c0i=>RG.bx u05 I I fun w31 Q4 E05 d0i=>RG.bx E05 I I fun w36 v0 G05 g0i=>RG.nl [.bool false,vN] G05 fun w41 x0 J05 j0i=>Aa<|Ae<|BB (fst:=[]) (cap:=[]) (vs:=[]) .plain (bd 146) func146 I I I I aB I fun E0h u08 s0j=>Ae<|RG.nl [vN] J05 fun w49 R4 K05 k0i=>Aa<|Ae<|bk h fun H4 J0c h=>RG.doesH .plain I (Does.mkH (α:=Int) (L:=L) J0c K05 el227 I (fun _ _=>rfl)) fun c0 w55 ⟨F04,x5,s0i,D08⟩=>Af I<|Aa<|Ai<|Ae<|Ab I ?_
 have C0i:H4.length<=4294967296:=St.rowLe (α:=Int) x5 .hd
 obtain ⟨A62,c63,Y08⟩:=St.rowV (α:=Int) x5 .hd
 refine Ac (FV.lenV underlying227 I Y08)<|Ab I<|Aa<|Aq ?_
 obtain ⟨D0j,p0a,u09⟩:=ai h
 refine MX.lf (α:=Nat×(Lb Int)×(Lb Vc)) (fun ⟨b2,q0,s0⟩=>[(0,vP R4),(1,c0),(5,vn H4.length),(6,vn b2)]) (fun ⟨b2,q0,s0⟩=>[rr w 3 Int c0 q0.length s0,.cells R4 [vN] 229,.cells x0 [.bool false,vN] 119,.cells v0 [.map none] 226,.cells Q4 [.map none] 226,.cells u0 [vI a0.fN,v0_1] 32,.cells A0 zP 46,.cells z0 [vI a0.fN,v0_1] 32]) (fun ⟨b2,q0,s0⟩ F02=>Cells F02 (bl [rr w 3 Int c0 q0.length s0,.cells R4 [vN] 229,.cells x0 [.bool false,vN] 119,.cells v0 [.map none] 226,.cells Q4 [.map none] 226,.cells u0 [vI a0.fN,v0_1] 32,.cells A0 zP 46,.cells z0 [vI a0.fN,v0_1] 32]++L) s0 q0) (fun ⟨b2,q0,s0⟩=>(b2,q0)) (0,H4,F04) p0a x5 D08 ?_
 rintro y0e ⟨b2,q0,s0⟩ F02 G04 g3 q06 U3 h
 unfold ae_l8 at h
 try dsimp only at h
 refine Ae<|Ac (Bp (i:=b2) (j:=H4.length) I I)<|Aa<|Ai<|AO I h (fun d04 h=>?_) (fun d04 h=>?_)
 refine Am<|Ai<|Aq<|Ae<|Ab I<|Af I<|Aa<|Ak<|Ab I<|Ab I<|Ab I<|bk h fun K0d M0b h=>?_
 obtain ⟨c03,d0f,X5,s00,D04,E0a,F0i⟩:=BF (α:=Int) g3 .hd U3 M0b
 obtain ⟨E03,g0f,E9⟩:=Bd (α:=Int) g3 .hd s00
 obtain rfl:c03=⟨E03,0,none⟩:=by rw [E9] at X5; cases X5; rfl
 have G08:D04=[vI K0d]:=E0a; subst G08
 refine Ac (AU 1 b2 I X5 I I s00)<|bk h fun W0d D0c h=>RG.acts' .plain (BE (α:=Int) (i:=b2) D0c g3 E9 (fun _=>.hd) U3 I I I I I I) fun q0l ⟨E04,R04,s06,x08⟩=>Aa<|Ao<|Ak<|Ac (AW (i:=b2) (j:=1) I I (by omega))<|Ab I<|Aa<|G04 (b2+1,W0d,E04) R04 (Tt q06 s06) x08 h
 refine AT I ?_
 have h:=u09 _ h
 try dsimp only at h
 refine Ae<|Ab I ?_
 obtain ⟨p0e,k0f,I08⟩:=St.rowV (α:=Int) g3 .hd
 refine Ac (Bj (vs:=[c0]) (u:=.agg #[c0]) (e1 I) (fun p=>by rw [I08]; try kernel_rfl))<|Bl [c0] g3 .t1 (o1 (St.o1 (α:=Int) g3 .hd)) fun x0l C7 v06=>Aa<|Ap I<|Aw (u:=.agg #[c0]) u08 func146 I (.cons (.many (cs:=[c0]) I I (C7.memA .t1)) .nil) I<|RG.nl [vN] C7 fun y0l G03 D7 x06=>Bl [c0] D7 .hd (o1 (St.o1 (α:=Int) D7 .t1)) fun H0d E3 y06=>Aa<|Ai<|Ae<|Ac (AP I (E3.memA .t6))<|Ab I<|jE (bd 147) I (e2 I I) (fun p q=>Calls.gives (cB_c n (E3.hL hL q) a0 (E3.km h0_1 q) a1) fun (w8:World) (u8:Vc) ⟨b0_,b1_,hu_,s_⟩=>(⟨b0_,b1_,hu_,s_.from q⟩:∃ D3 Y2:Nat,u8=Value.func (.func 156) #[] #[vP D3,vP Y2]/\St H0d w8 [.cells D3 [vI a0.fN,v0_1] 32,.cells Y2 [vU a1] 44])) I fun G0l P0k v0i ⟨D3,Y2,J0b,d02⟩=>?_
 subst J0b
 have z06:=tc E3 d02
 refine Aa<|Aq<|MX.rangeP (lb:=[vP D3,vP Y2]) I (nt E3 d02) I (bd 156) func156 I I I fun K0l c02 D0 z0d j0h j5 A06 A0d d08 Z0i=>Ae<|Bh 1 I<|AG I ((j5.memA .t2) 1 _ I) ?_
 have s01:=AH h0_1 j5
 have z0i:=AY s01
 refine Ac (Bf (xs:=a0.fo) underlying30 I s01)<|Ab I<|Aa<|Aq ?_
 obtain ⟨p05,I06⟩:=AX j5 (.a0 (.a0 (.a0 (.a0 (.a0 (.a0 .d1))))))
 obtain ⟨F0j,s0a,x09⟩:=ai h
 refine MX.lo (α:=Nat) (fun R1=>[(0,.func (.yield c02) #[] #[]),(2,vP Y2),(7,v0_1),(8,vn a0.fo.length),(9,vn R1)]) (fun R1=>[.obj c02 (lpO z0d .ready none),.obj D0 (.deferred (some [])),.cells D3 [vI a0.fN,v0_1] 32,.cells Y2 [vU a1] 44,.cells G03 [c0] 229,rr w 3 Int c0 q0.length s0,.cells x0 [.bool false,vN] 119,.cells v0 [.map none] 226,.cells Q4 [.map none] 226,.cells u0 [vI a0.fN,v0_1] 32,.cells A0 zP 46,.cells z0 [vI a0.fN,v0_1] 32]) (fun R1=>R1) 0 s0a p05 ?_
 rintro A0e R1 p0n z7 s5 J5 h
 unfold ae_l7 at h
 try dsimp only at h
 refine Ae<|Ac (Bp (i:=R1) (j:=a0.fo.length) I I)<|Aa<|Ai<|AO I h (fun q04 h=>?_) (fun q04 h=>?_)
 refine Am<|Ai<|Aq<|Ae<|Ab I<|bk h fun W2 q0c h=>?_
 obtain ⟨s0e,W0f,U08,D09,C0h,u0b,U09⟩:=Bq (AH h0_1 s5) q0c
 obtain rfl:=dx u0b
 refine Ac (AU 2 R1 I U08 I I D09)<|Ac (AP I U09)<|RG.nl [vI 0,vI 0] s5 fun b0m R0e q05 K8=>Af I<|Bl [vI W2.1,vI W2.2] q05 .hd (aC I) fun c0m H2 M8=>Aa<|Ae<|AG I ((H2.memA .t4) 0 _ I)<|Ac (AP I (H2.memA .hd))<|bk h fun g0e k0d h=>Bz (.bool g0e) (bd 157) I (e2 I I) (fun p q=>cr_c n (H2.hL0 hL q) a1 W2 k0d) I<|Ab I<|RG.ifb (s:=17) I h (fun s04 h=>?_) (fun s04 h=>?_)
 refine Au (Ah I)<|Au (Ah I)<|Au (AP I (H2.memA .hd))<|RG.yieldP (fd:=135) (vs:=[vn R1,.agg #[vI W2.1,vI W2.2]]) (.yes I I) I (e2 I I) H2 .t1 A0d I I I fun D0h t08 q0j=>Ae<|Af I<|Aa<|Ak<|RG.nl [vI 0,vI 0] H2 fun g0m U0e s05 J06=>Bl [vI W2.1,vI W2.2] s05 .hd (aC I) fun j0m t05 K06=>Aa<|MX.begin t05 .t2 fun k0m V7 M06=>Aq<|Ae<|AG I ((V7.memA .t10) 0 _ I)<|Ab I<|Ac (FV.lookupNil (kv:=((R1:Nat):Int)) (z:=false) underlying226 underlying3 I I I I)<|Ab I<|Aj<|Aj<|Aj<|Aj<|Bo I I<|Aa<|Bn I<|Am<|Ao<|MX.roundEnd t08 V7 .t2 fun p0m v05 P06=>Au (BV I)<|Bm I I<|Aa<|Bn I<|Am<|Ao<|Ak<|Ac (AW (i:=R1) (j:=1) I I (by omega))<|Ab I<|Aa ?_
 obtain ⟨x05,Q06⟩:=AX v05 .d2
 exact z7 (R1+1) x05 (Tt J5 (Tt K8 (Tt M8 (Tt J06 (Tt K06 (Tt M06 (Tt P06 Q06))))))) h
 refine Aj<|Aj<|Aj<|Aj<|Aj<|Bo I I<|Aa<|Bn I<|Am<|Ao<|Ak<|Ac (AW (i:=R1) (j:=1) I I (by omega))<|Ab I<|Aa ?_
 obtain ⟨y05,R06⟩:=AX H2 .d1
 exact z7 (R1+1) y05 (Tt J5 (Tt K8 (Tt M8 R06))) h
 refine AT I ?_
 have h:=x09 _ h
 try dsimp only at h
 refine MX.fin rfl<|Aw (u:=.tuple #[]) d08 func156 rfl .nil rfl<|MX.endRange0 s5 .hd (by intro h9; cases h9) fun q0m z05 U06=>?_
 obtain ⟨A05,V06⟩:=AX z05 .d1
 refine Ao<|Ae<|Av .plain I (Does.makeMap (κ:=Int) (ν:=Int) A05) fun s0m g0 B05 W06=>RG.nl [.map none] B05 fun t0m d0 C05 X06=>Bl [.map (some g0)] C05 .hd (o1 I) fun u0m W7 Y06=>Aa<|Ae<|Bh 0 I<|AG I ((W7.memA .t5) 0 _ I)<|Ac (FV.makeFunc (vs:=[c0]) (us:=[]) (e1 I) aB)<|RG.nl [.nilFunc] W7 fun v0m B0 D05 Z06=>Bl [.func (.func 149) #[c0] #[]] D05 .hd (o1 I) fun x0m k3 b07=>Aa<|Ai<|du 5 fun x3 Y3=>Rx 0 24 x3 I Y3 (Ay I ((k3.memA .hd) 0 _ I))<|Rv 1 x3 I Y3 (fun _=>Ah I)<|bk h fun j0e p0d h=>RD.cq 2 7 24 (vI j0e) x3 I Y3 (bd 51) I (e1 I) (fun p q=>aj_c n (k3.hL0 hL q) a1 (hG0.keep (k3.ag.trans q)) p0d) I<|bk h fun J4 q0d h=>?_
 have J6:=Tt v06 (Tt x06 (Tt y06 (Tt z06 (Tt A06 (Tt I06 (Tt J5 (Tt U06 (Tt V06 (Tt W06 (Tt X06 (Tt Y06 (Tt Z06 b07))))))))))))
 refine RD.callq (i:=3) (m' :=15) (W:=16) (tk x3) I Y3 (v:=vI J4) (fst:=[c0]) (cap:=[]) .plain (bd 149) I (e1 I) (fun p q=>aA_c n (k3.hL0 hL q) (Ax (St.lend (α:=Int) (L:=L) k3 .t7 (Ar U3 J6) hL) q) q0d) I<|Rv 4 x3 I Y3 (fun _=>Bi I)<|AQ (dk x3)<|Ai<|Ae<|Ab I<|Aa<|Aq ?_
 obtain ⟨F05,P8⟩:=AX k3 (.a0 (.a0 (.a0 (.a0 (.a3 (.a3 (.a3 .d4)))))))
 obtain ⟨G0j,t0a,y09⟩:=ai h
 refine MX.lo (α:=Nat×(Lb (Int×Int))) (fun ⟨j1,b0⟩=>[(1,vU a1),(4,vP u0),(7,vP v0),(8,vP x0),(12,vP d0),(13,vP B0),(14,vI J4),(47,vn j1)]) (fun ⟨j1,b0⟩=>[.cells B0 [.func (.func 149) #[c0] #[]] 94,.cells d0 [.map (some g0)] 127,.obj g0 (ab (b0:Lb (Int×Int))),.obj D0 (.deferred (some [])),rr w 3 Int c0 q0.length s0,.cells x0 [.bool false,vN] 119,.cells v0 [.map none] 226,.cells u0 [vI a0.fN,v0_1] 32,.cells A0 zP 46,.cells z0 [vI a0.fN,v0_1] 32]) (fun ⟨j1,b0⟩=>(j1,b0)) (0,([]:Lb (Int×Int))) t0a F05 ?_
 rintro B0e ⟨j1,b0⟩ q0n Z4 G1 P3 h
 unfold ae_l6 at h
 try dsimp only at h
 refine Ae<|Ac (Bp (i:=j1) (j:=64) I I)<|Aa<|Ai<|AO I h (fun t04 h=>?_) (fun t04 h=>?_)
 refine Am<|Ai<|Aq<|Ae<|Ab I<|Af I<|Aa<|Ae<|Ab I<|Ab I<|Ac (FV.shrU (a:=a1) (j:=j1) I I)<|Ac (Br (a:=shrU a1 j1) (b:=(1:Ua)) I I)<|Ac (FV.eqlU (a:=(shrU a1 j1)&&&(1:Ua)) (b:=(1:Ua)) I I)<|Ab I<|BD (s:=55) I h (fun u04 h=>?_) (fun u04 h=>?_)
 refine Au (Ay I ((G1.memA .hd) 0 _ I))<|Au (Ah I)<|bk h fun Y02 s0d h=>RG.callq' (v:=vI Y02) (fst:=[c0]) (cap:=[]) (.yes I I) (bd 149) I (e1 I) (fun p q=>aA_c n (G1.hL0 hL q) (Ax (St.lend (α:=Int) (L:=L) G1 .t4 (Ar U3 (Tt J6 (Tt P8 P3))) hL) q) s0d) I<|Au (Ah I)<|Au (BT (i:=Y02) (j:=((j1:Nat):Int)) I I)<|Bm I I<|Ab I<|BD (s:=62) I h (fun v04 h=>?_) (fun v04 h=>?_)
 refine Au (Ah I)<|Au (Ah I)<|Au (FV.neq (i:=((j1:Nat):Int)) (j:=J4) I I)<|Bm I I<|Aa<|MX.jo (α:=(Lb (Int×Int))) (fun X2=>[(1,vU a1),(4,vP u0),(7,vP v0),(8,vP x0),(12,vP d0),(13,vP B0),(14,vI J4),(47,vn j1)]) (fun X2=>[.cells B0 [.func (.func 149) #[c0] #[]] 94,.cells d0 [.map (some g0)] 127,.obj g0 (ab (X2:Lb (Int×Int))),.obj D0 (.deferred (some [])),rr w 3 Int c0 q0.length s0,.cells x0 [.bool false,vN] 119,.cells v0 [.map none] 226,.cells u0 [vI a0.fN,v0_1] 32,.cells A0 zP 46,.cells z0 [vI a0.fN,v0_1] 32]) (fun X2=>X2) G1 h ?_ ?_
 rintro X2 s0n H05 c07 h
 try dsimp only at h
 refine Ao<|Ak<|Ac (AW (i:=j1) (j:=1) I I (by omega))<|Ab I<|Aa<|Z4 (j1+1,X2) H05 (Tt P3 c07) h
 intro C0e A7 h
 try dsimp only at h
 refine MX.ifn I h (fun x04 h=>?_) (fun x04 h=>?_)
 refine Am<|A7 b0 G1 (By _ _) h
 refine Ak<|AG I ((G1.memA .t1) 0 _ I)<|Ab I<|AG I ((G1.memA .t1) 0 _ I)<|Ac (FV.len_map (D:=b0) G1 .t2 underlying127 I)<|RG.now .plain (Acts.mapUpdate (kv:=((j1:Nat):Int)) (vv:=((b0.length:Nat):Int)) G1 .t2 underlying127 underlying3 I I I I) fun A0m I05 d07=>Aa<|A7 (aH b0 ((j1:Nat):Int) ((b0.length:Nat):Int)) I05 d07 h
 refine Aj<|Aj<|Aj<|Bo I I<|Aa<|Bn I<|Am<|Ao<|Ak<|Ac (AW (i:=j1) (j:=1) I I (by omega))<|Ab I<|Aa<|Z4 (j1+1,b0) G1 P3 h
 refine Aj<|Aj<|Aj<|Aj<|Aj<|Bo I I<|Ab I<|Aj<|Aj<|Aj<|Bo I I<|Aa<|Bn I<|Am<|Ao<|Ak<|Ac (AW (i:=j1) (j:=1) I I (by omega))<|Ab I<|Aa<|Z4 (j1+1,b0) G1 P3 h
 refine AT I ?_
 have h:=y09 _ h
 try dsimp only at h
 refine Ae<|AG I ((G1.memA .t1) 0 _ I)<|Ac (FV.len_map (D:=b0) G1 .t2 underlying127 I)<|bk h fun t0 R6 h=>Av .plain I (Does.mk (α:=Lb Tb) R6 G1 el235 I) fun p7 j0 X7 g07=>?_
 have y0i:=AD (cs:=(List.replicate ((b0.length:Nat):Int).toNat [vN]).flatten) (xs:=t0) X7 L (Cells.mk R6 (Rep.nilSlice _ _))
 obtain ⟨z0a,A0a,B0a⟩:=g2Mk (O:=[.cells B0 [.func (.func 149) #[c0] #[]] 94,.cells d0 [.map (some g0)] 127,.obj g0 (ab (b0:Lb (Int×Int))),.obj D0 (.deferred (some [])),rr w 3 Int c0 q0.length s0,.cells x0 [.bool false,vN] 119,.cells v0 [.map none] 226,.cells u0 [vI a0.fN,v0_1] 32,.cells A0 zP 46,.cells z0 [vI a0.fN,v0_1] 32]) R6 119 (bl (rr w 236 (Lb Tb) (.slice (some ⟨j0,0,none⟩) ((b0.length:Nat):Int).toNat ((b0.length:Nat):Int).toNat) t0.length (List.replicate ((b0.length:Nat):Int).toNat vN)::.cells B0 [.func (.func 149) #[c0] #[]] 94::.cells d0 [.map (some g0)] 127::.obj g0 (ab (b0:Lb (Int×Int)))::.obj D0 (.deferred (some []))::rr w 3 Int c0 q0.length s0::.cells x0 [.bool false,vN] 119::.cells v0 [.map none] 226::.cells u0 [vI a0.fN,v0_1] 32::.cells A0 zP 46::.cells z0 [vI a0.fN,v0_1] 32::(gJ w.heap.size 119 (g2Z (α:=Tb) ((b0.length:Nat):Int))++[]))++L) X7
 have Y7:St _ p7 (rr w 236 (Lb Tb) (.slice (some ⟨j0,0,none⟩) ((b0.length:Nat):Int).toNat ((b0.length:Nat):Int).toNat) t0.length (List.replicate ((b0.length:Nat):Int).toNat vN)::.cells B0 [.func (.func 149) #[c0] #[]] 94::.cells d0 [.map (some g0)] 127::.obj g0 (ab (b0:Lb (Int×Int)))::.obj D0 (.deferred (some []))::rr w 3 Int c0 q0.length s0::.cells x0 [.bool false,vN] 119::.cells v0 [.map none] 226::.cells u0 [vI a0.fN,v0_1] 32::.cells A0 zP 46::.cells z0 [vI a0.fN,v0_1] 32::(gJ w.heap.size 119 (g2Z (α:=Tb) ((b0.length:Nat):Int))++[])):=z0a
 have j07:Tr p7 [rr w 236 (Lb Tb) (.slice (some ⟨j0,0,none⟩) ((b0.length:Nat):Int).toNat ((b0.length:Nat):Int).toNat) t0.length ((List.replicate ((b0.length:Nat):Int).toNat [vN]).flatten),.cells B0 [.func (.func 149) #[c0] #[]] 94,.cells d0 [.map (some g0)] 127,.obj g0 (ab (b0:Lb (Int×Int))),.obj D0 (.deferred (some [])),rr w 3 Int c0 q0.length s0,.cells x0 [.bool false,vN] 119,.cells v0 [.map none] 226,.cells u0 [vI a0.fN,v0_1] 32,.cells A0 zP 46,.cells z0 [vI a0.fN,v0_1] 32] p7 (rr w 236 (Lb Tb) (.slice (some ⟨j0,0,none⟩) ((b0.length:Nat):Int).toNat ((b0.length:Nat):Int).toNat) t0.length (List.replicate ((b0.length:Nat):Int).toNat vN)::.cells B0 [.func (.func 149) #[c0] #[]] 94::.cells d0 [.map (some g0)] 127::.obj g0 (ab (b0:Lb (Int×Int)))::.obj D0 (.deferred (some []))::rr w 3 Int c0 q0.length s0::.cells x0 [.bool false,vN] 119::.cells v0 [.map none] 226::.cells u0 [vI a0.fN,v0_1] 32::.cells A0 zP 46::.cells z0 [vI a0.fN,v0_1] 32::(gJ w.heap.size 119 (g2Z (α:=Tb) ((b0.length:Nat):Int))++[])):=A0a
 refine RG.nl [vN] Y7 fun B0m p0 u5 Q8=>RG.now .plain (Az (news:=[(.slice (some ⟨j0,0,none⟩) ((b0.length:Nat):Int).toNat ((b0.length:Nat):Int).toNat)]) u5 .hd I I I (St.c1 (α:=Lb Tb) u5 .t1) I I (o1 (St.o1 (α:=Lb Tb) u5 .t1))) fun D0m k4 R8=>Aa<|Ai<|Ae<|AG I ((k4.memA .hd) 0 _ I) ?_
 have D6:=GG.mv (GG.at_ Y7 L B0a) (Tt Q8 R8)
 obtain ⟨t0e,X0f,V08,_⟩:=St.rowForm k4 (At.upd .t1)
 have B0i:=GG.short k4 D6 .t1
 refine Ac (FV.as (FV.lenV underlying235 I V08) (GG.lenv D6))<|Ab I<|Aa<|Aq ?_
 obtain ⟨H0j,u0a,z09⟩:=ai h
 refine MX.lf (α:=Nat×(Lb (Lb Tb))×(Lb (GZ Tb))×(Lb Vc)) (fun ⟨Y0,x2,V1,y0⟩=>[(1,vU a1),(4,vP u0),(7,vP v0),(8,vP x0),(12,vP d0),(13,vP B0),(16,vP p0),(76,vn t0.length),(77,vn Y0)]) (fun ⟨Y0,x2,V1,y0⟩=>(.cells p0 [(.slice (some ⟨j0,0,none⟩) ((b0.length:Nat):Int).toNat ((b0.length:Nat):Int).toNat)] 235::rr w 236 (Lb Tb) (.slice (some ⟨j0,0,none⟩) ((b0.length:Nat):Int).toNat ((b0.length:Nat):Int).toNat) t0.length y0::.cells B0 [.func (.func 149) #[c0] #[]] 94::.cells d0 [.map (some g0)] 127::.obj g0 (ab (b0:Lb (Int×Int)))::.obj D0 (.deferred (some []))::rr w 3 Int c0 q0.length s0::.cells x0 [.bool false,vN] 119::.cells v0 [.map none] 226::.cells u0 [vI a0.fN,v0_1] 32::.cells A0 zP 46::.cells z0 [vI a0.fN,v0_1] 32::(gJ w.heap.size 119 V1++[]))) (fun ⟨Y0,x2,V1,y0⟩ H02=>GG H02 (bl (.cells p0 [(.slice (some ⟨j0,0,none⟩) ((b0.length:Nat):Int).toNat ((b0.length:Nat):Int).toNat)] 235::rr w 236 (Lb Tb) (.slice (some ⟨j0,0,none⟩) ((b0.length:Nat):Int).toNat ((b0.length:Nat):Int).toNat) t0.length y0::.cells B0 [.func (.func 149) #[c0] #[]] 94::.cells d0 [.map (some g0)] 127::.obj g0 (ab (b0:Lb (Int×Int)))::.obj D0 (.deferred (some []))::rr w 3 Int c0 q0.length s0::.cells x0 [.bool false,vN] 119::.cells v0 [.map none] 226::.cells u0 [vI a0.fN,v0_1] 32::.cells A0 zP 46::.cells z0 [vI a0.fN,v0_1] 32::(gJ w.heap.size 119 V1++[]))++L) t0.length y0 x2 V1) (fun ⟨Y0,x2,V1,y0⟩=>(Y0,x2)) (0,t0,g2Z (α:=Tb) ((b0.length:Nat):Int),List.replicate ((b0.length:Nat):Int).toNat vN) u0a k4 D6 ?_
 rintro D0e ⟨Y0,x2,V1,y0⟩ H02 H04 F3 U8 hG497 h
 unfold ae_l5 at h
 try dsimp only at h
 refine Ae<|Ac (Bp (i:=Y0) (j:=t0.length) I I)<|Aa<|Ai<|AO I h (fun y04 h=>?_) (fun y04 h=>?_)
 refine Am<|Ai<|Aq<|Ae<|Ab I<|Af I<|Aa<|du 6 fun B2 Z3=>Rx 0 96 B2 I Z3 (Ay I ((F3.memA .hd) 0 _ I))<|Rv 1 B2 I Z3 (fun _=>Ah I)<|Rx 2 120 B2 I Z3 (Ay I ((F3.memA .t3) 0 _ I))<|Rx 3 112 B2 I Z3 (FV.len_map (D:=b0) F3 .t4 underlying127 I)<|bk h fun B3 Z01 h=>RD.nu 4 31 B2 I .plain I (Does.mk (α:=Tb) Z01 F3 el236 I) fun F0m Y1 G3 V8=>bk h fun z0n s0c h=>?_
 have E6:=GG.mv hG497 V8
 obtain ⟨u0k,F0h,V0e,Y0f,C0j,U9,B6,M0i⟩:=St.g2Nth G3 E6 .t2 s0c
 refine Rv 5 B2 I Z3 (fun _=>AU 1 Y0 I U9 I I B6)<|BC 6 127 B2 I I .plain (Acts.g2Put (i:=Y0) (yv:=(.slice (some ⟨Y1,0,none⟩) ((b0.length:Nat):Int).toNat ((b0.length:Nat):Int).toNat)) E6 B6 G3 U9 .t2 I I I (St.c1 (α:=Tb) G3 .hd) (St.o1 (α:=Tb) G3 .hd) I) fun q7 M05 K5=>?_
 have hG531:=GG.mv E6 K5
 obtain ⟨C0a,D0a⟩:=St.g2Put (α:=Tb) (i:=Y0) (pre:=[.cells p0 [(.slice (some ⟨j0,0,none⟩) ((b0.length:Nat):Int).toNat ((b0.length:Nat):Int).toNat)] 235,rr w 236 (Lb Tb) (.slice (some ⟨j0,0,none⟩) ((b0.length:Nat):Int).toNat ((b0.length:Nat):Int).toNat) t0.length (y0.set Y0 (.slice (some ⟨Y1,0,none⟩) ((b0.length:Nat):Int).toNat ((b0.length:Nat):Int).toNat)),.cells B0 [.func (.func 149) #[c0] #[]] 94,.cells d0 [.map (some g0)] 127,.obj g0 (ab (b0:Lb (Int×Int))),.obj D0 (.deferred (some [])),rr w 3 Int c0 q0.length s0,.cells x0 [.bool false,vN] 119,.cells v0 [.map none] 226,.cells u0 [vI a0.fN,v0_1] 32,.cells A0 zP 46,.cells z0 [vI a0.fN,v0_1] 32]) (T:=[]) (GG.lt hG531 B6) M05
 have P05:St _ q7 (.cells p0 [(.slice (some ⟨j0,0,none⟩) ((b0.length:Nat):Int).toNat ((b0.length:Nat):Int).toNat)] 235::rr w 236 (Lb Tb) (.slice (some ⟨j0,0,none⟩) ((b0.length:Nat):Int).toNat ((b0.length:Nat):Int).toNat) t0.length (y0.set Y0 (.slice (some ⟨Y1,0,none⟩) ((b0.length:Nat):Int).toNat ((b0.length:Nat):Int).toNat))::.cells B0 [.func (.func 149) #[c0] #[]] 94::.cells d0 [.map (some g0)] 127::.obj g0 (ab (b0:Lb (Int×Int)))::.obj D0 (.deferred (some []))::rr w 3 Int c0 q0.length s0::.cells x0 [.bool false,vN] 119::.cells v0 [.map none] 226::.cells u0 [vI a0.fN,v0_1] 32::.cells A0 zP 46::.cells z0 [vI a0.fN,v0_1] 32::(gJ w.heap.size 119 (V1.set Y0 ⟨(.slice (some ⟨Y1,0,none⟩) ((b0.length:Nat):Int).toNat ((b0.length:Nat):Int).toNat),B3,(List.replicate ((b0.length:Nat):Int).toNat [.bool false,vN]).flatten⟩)++[])):=C0a
 have M5:Tr q7 (rr w 119 Tb (.slice (some ⟨Y1,0,none⟩) ((b0.length:Nat):Int).toNat ((b0.length:Nat):Int).toNat) B3.length ((List.replicate ((b0.length:Nat):Int).toNat [.bool false,vN]).flatten)::.cells p0 [(.slice (some ⟨j0,0,none⟩) ((b0.length:Nat):Int).toNat ((b0.length:Nat):Int).toNat)] 235::rr w 236 (Lb Tb) (.slice (some ⟨j0,0,none⟩) ((b0.length:Nat):Int).toNat ((b0.length:Nat):Int).toNat) t0.length (y0.set Y0 (.slice (some ⟨Y1,0,none⟩) ((b0.length:Nat):Int).toNat ((b0.length:Nat):Int).toNat))::.cells B0 [.func (.func 149) #[c0] #[]] 94::.cells d0 [.map (some g0)] 127::.obj g0 (ab (b0:Lb (Int×Int)))::.obj D0 (.deferred (some []))::rr w 3 Int c0 q0.length s0::.cells x0 [.bool false,vN] 119::.cells v0 [.map none] 226::.cells u0 [vI a0.fN,v0_1] 32::.cells A0 zP 46::.cells z0 [vI a0.fN,v0_1] 32::(gJ w.heap.size 119 V1++[])) q7 (.cells p0 [(.slice (some ⟨j0,0,none⟩) ((b0.length:Nat):Int).toNat ((b0.length:Nat):Int).toNat)] 235::rr w 236 (Lb Tb) (.slice (some ⟨j0,0,none⟩) ((b0.length:Nat):Int).toNat ((b0.length:Nat):Int).toNat) t0.length (y0.set Y0 (.slice (some ⟨Y1,0,none⟩) ((b0.length:Nat):Int).toNat ((b0.length:Nat):Int).toNat))::.cells B0 [.func (.func 149) #[c0] #[]] 94::.cells d0 [.map (some g0)] 127::.obj g0 (ab (b0:Lb (Int×Int)))::.obj D0 (.deferred (some []))::rr w 3 Int c0 q0.length s0::.cells x0 [.bool false,vN] 119::.cells v0 [.map none] 226::.cells u0 [vI a0.fN,v0_1] 32::.cells A0 zP 46::.cells z0 [vI a0.fN,v0_1] 32::(gJ w.heap.size 119 (V1.set Y0 ⟨(.slice (some ⟨Y1,0,none⟩) ((b0.length:Nat):Int).toNat ((b0.length:Nat):Int).toNat),B3,(List.replicate ((b0.length:Nat):Int).toNat [.bool false,vN]).flatten⟩)++[])):=D0a
 refine AQ (dk B2)<|Ao<|Ak<|Ac (AW (i:=Y0) (j:=1) I I (by omega))<|Ab I<|Aa<|H04 (Y0+1,(x2.set Y0 B3),(V1.set Y0 ⟨(.slice (some ⟨Y1,0,none⟩) ((b0.length:Nat):Int).toNat ((b0.length:Nat):Int).toNat),B3,(List.replicate ((b0.length:Nat):Int).toNat [.bool false,vN]).flatten⟩),(y0.set Y0 (.slice (some ⟨Y1,0,none⟩) ((b0.length:Nat):Int).toNat ((b0.length:Nat):Int).toNat))) P05 (Tt U8 (Tt V8 (Tt K5 M5))) (GG.put (i:=Y0) (v' :=(.slice (some ⟨Y1,0,none⟩) ((b0.length:Nat):Int).toNat ((b0.length:Nat):Int).toNat)) (GG.mv hG531 M5) (Ar (Ar (AD (cs:=(List.replicate ((b0.length:Nat):Int).toNat [.bool false,vN]).flatten) (xs:=B3) G3 L (Cells.mk Z01 (gL false ([]:Lb Ua) (Rep.nilSlice _ _)))) K5) M5)) h
 refine AT I ?_
 have h:=z09 _ h
 try dsimp only at h
 refine Ae<|Ac (FV.makeFunc (vs:=[]) (us:=[vP d0,vP p0]) aB (e2 I I))<|RG.nl [.nilFunc] F3 fun G0m K0 Q05 W8=>Bl [.func (.func 150) #[] #[vP d0,vP p0]] Q05 .hd (o1 I) fun I0d H3 Y8=>Aa<|Ai<|Ae<|Ac (AP I (H3.memA .t10))<|Ab I<|jE (bd 147) I (e2 I I) (fun p q=>Calls.gives (cB_c n (H3.hL hL q) a0 (H3.km h0_1 q) a1) fun (w8:World) (u8:Vc) ⟨b0_,b1_,hu_,s_⟩=>(⟨b0_,b1_,hu_,s_.from q⟩:∃ G0 E0:Nat,u8=Value.func (.func 156) #[] #[vP G0,vP E0]/\St I0d w8 [.cells G0 [vI a0.fN,v0_1] 32,.cells E0 [vU a1] 44])) I fun P0m b0l x0i ⟨G0,E0,K0b,g02⟩=>?_
 subst K0b
 have Z8:=tc H3 g02
 refine Aa<|Aq<|MX.rangeP (lb:=[vP G0,vP E0]) I (nt H3 g02) I (bd 156) func156 I I I fun Q0m E1 P0 P1 I0h v5 b9 B0d v08 t0j=>Ae<|Bh 1 I<|AG I ((v5.memA .t2) 1 _ I)<|Ac (Bf (xs:=a0.fo) underlying30 I (AH h0_1 v5))<|Ab I<|Aa<|Aq ?_
 obtain ⟨E0j,q0a,v09⟩:=ai h
 refine MX.lf (α:=Nat×(Lb (Lb Tb))×(Lb (GZ Tb))) (fun ⟨X0,b1,V0⟩=>[(0,.func (.yield E1) #[] #[]),(2,vP E0),(7,v0_1),(8,vn a0.fo.length),(9,vn X0)]) (fun ⟨X0,b1,V0⟩=>(.obj E1 (lpO P1 .ready none)::.obj P0 (.deferred (some []))::.cells G0 [vI a0.fN,v0_1] 32::.cells E0 [vU a1] 44::.cells K0 [.func (.func 150) #[] #[vP d0,vP p0]] 237::.cells p0 [(.slice (some ⟨j0,0,none⟩) ((b0.length:Nat):Int).toNat ((b0.length:Nat):Int).toNat)] 235::rr w 236 (Lb Tb) (.slice (some ⟨j0,0,none⟩) ((b0.length:Nat):Int).toNat ((b0.length:Nat):Int).toNat) t0.length y0::.cells B0 [.func (.func 149) #[c0] #[]] 94::.cells d0 [.map (some g0)] 127::.obj g0 (ab (b0:Lb (Int×Int)))::.obj D0 (.deferred (some []))::rr w 3 Int c0 q0.length s0::.cells x0 [.bool false,vN] 119::.cells v0 [.map none] 226::.cells u0 [vI a0.fN,v0_1] 32::.cells A0 zP 46::.cells z0 [vI a0.fN,v0_1] 32::(gJ w.heap.size 119 V0++[]))) (fun ⟨X0,b1,V0⟩ G02=>GG G02 (bl (.obj E1 (lpO P1 .ready none)::.obj P0 (.deferred (some []))::.cells G0 [vI a0.fN,v0_1] 32::.cells E0 [vU a1] 44::.cells K0 [.func (.func 150) #[] #[vP d0,vP p0]] 237::.cells p0 [(.slice (some ⟨j0,0,none⟩) ((b0.length:Nat):Int).toNat ((b0.length:Nat):Int).toNat)] 235::rr w 236 (Lb Tb) (.slice (some ⟨j0,0,none⟩) ((b0.length:Nat):Int).toNat ((b0.length:Nat):Int).toNat) t0.length y0::.cells B0 [.func (.func 149) #[c0] #[]] 94::.cells d0 [.map (some g0)] 127::.obj g0 (ab (b0:Lb (Int×Int)))::.obj D0 (.deferred (some []))::rr w 3 Int c0 q0.length s0::.cells x0 [.bool false,vN] 119::.cells v0 [.map none] 226::.cells u0 [vI a0.fN,v0_1] 32::.cells A0 zP 46::.cells z0 [vI a0.fN,v0_1] 32::(gJ w.heap.size 119 V0++[]))++L) t0.length y0 b1 V0) (fun ⟨X0,b1,V0⟩=>(X0,b1)) (0,x2,V1) q0a v5 (GG.mv hG497 (Tt W8 (Tt Y8 (Tt Z8 b9)))) ?_
 rintro z0e ⟨X0,b1,V0⟩ G02 d3 b5 J2 hG1453 h
 unfold ae_l4 at h
 try dsimp only at h
 refine Ae<|Ac (Bp (i:=X0) (j:=a0.fo.length) I I)<|Aa<|Ai<|AO I h (fun g04 h=>?_) (fun g04 h=>?_)
 refine Am<|Ai<|Aq<|Ae<|Ab I<|bk h fun V2 P0b h=>?_
 obtain ⟨k0e,j0f,H08,C09,H0g,F0a,J09⟩:=Bq (AH h0_1 b5) P0b
 obtain rfl:=dx F0a
 refine Ac (AU 2 X0 I H08 I I C09)<|Ac (AP I J09)<|RG.nl [vI 0,vI 0] b5 fun s0l H0e U04 p3=>Af I<|Bl [vI V2.1,vI V2.2] U04 .hd (aC I) fun q02 z2 q3=>Aa<|Ae<|AG I ((z2.memA .t4) 0 _ I)<|Ac (AP I (z2.memA .hd))<|bk h fun X0d M0c h=>Bz (.bool X0d) (bd 157) I (e2 I I) (fun p q=>cr_c n (z2.hL0 hL q) a1 V2 M0c) I<|Ab I<|RG.ifb (s:=17) I h (fun j04 h=>?_) (fun j04 h=>?_)
 refine Au (Ah I)<|Au (Ah I)<|Au (AP I (z2.memA .hd))<|RG.yieldP (fd:=135) (vs:=[vn X0,.agg #[vI V2.1,vI V2.2]]) (.yes I I) I (e2 I I) z2 .t1 B0d I I I fun I0g R3 Q0i=>Ae<|Af I<|Aa<|Ak<|RG.nl [vI 0,vI 0] z2 fun t0l I0e V04 J3=>Bl [vI V2.1,vI V2.2] V04 .hd (aC I) fun u0l W04 K3=>Aa<|MX.begin W04 .t2 fun v0l H0 M3=>Aq<|Ai<|du 10 fun g2 u2=>Rx 0 904 g2 I u2 (Ay I ((H0.memA .t9) 0 _ I))<|Rv 1 g2 I u2 (fun _=>AC (m:=1) (k:=0) (len:=2) I I I I (by omega))<|Rx 2 904 g2 I u2 (Ay I ((H0.memA .hd) 0 _ I))<|bk h fun J0 P0c h=>?_
 have W00:=Ar U3 (Tt J6 (Tt P8 (Tt P3 (Tt g07 (Tt j07 (Tt Q8 (Tt R8 (Tt U8 (Tt W8 (Tt Y8 (Tt Z8 (Tt b9 (Tt J2 (Tt p3 (Tt q3 (Tt J3 (Tt K3 M3)))))))))))))))))
 refine RD.callq (i:=3) (m' :=15) (W:=896) (tk g2) I u2 (v:=vI J0) (fst:=[c0]) (cap:=[]) .plain (bd 149) I (e1 I) (fun p q=>aA_c n (H0.hL0 hL q) (Ax (St.lend (α:=Int) (L:=L) H0 (.tl (.tl (.tl (.tl (.tl (.tl (.tl (.tl (.tl (.tl (.tl (.tl (.tl .hd))))))))))))) W00 hL) q) P0c) I<|Rx 4 896 g2 I u2 (Ay I ((H0.memA .t9) 0 _ I))<|Rv 5 g2 I u2 (fun _=>AC (m:=1) (k:=1) (len:=2) I I I I (by omega))<|Rx 6 896 g2 I u2 (Ay I ((H0.memA .hd) 1 _ I))<|bk h fun C0 Q0c h=>RD.callq (i:=7) (m' :=255) (W:=768) (tk g2) I u2 (v:=vI C0) (fst:=[c0]) (cap:=[]) .plain (bd 149) I (e1 I) (fun p q=>aA_c n (H0.hL0 hL q) (Ax (St.lend (α:=Int) (L:=L) H0 (.tl (.tl (.tl (.tl (.tl (.tl (.tl (.tl (.tl (.tl (.tl (.tl (.tl .hd))))))))))))) W00 hL) q) Q0c) I<|Rv 8 g2 I u2 (fun _=>Bi I)<|Rv 9 g2 I u2 (fun _=>Bi I)<|AQ (dk g2)<|Ai<|Ae<|Ac (Ay I ((H0.memA (.tl (.tl (.tl (.tl (.tl (.tl (.tl (.tl (.tl (.tl (.tl (.tl (.tl (.tl (.tl .hd)))))))))))))))) 0 _ I))<|Ab I<|Ac (FV.lookupNil (kv:=((X0:Nat):Int)) (z:=false) underlying226 underlying3 I I I I)<|Ab I<|Au (Ah I)<|Au (Ah I)<|Au (BT (i:=J0) (j:=C0) I I)<|Bo I I<|Aa<|AO I h (fun k04 h=>?_) (fun k04 h=>?_)
 refine AT I<|MX.roundEnd R3 H0 .t2 fun s02 B7 t06=>Au (BV I)<|Bm I I<|Aa<|Bn I<|Am<|Ao<|Ak<|Ac (AW (i:=X0) (j:=1) I I (by omega))<|Ab I<|Aa ?_
 obtain ⟨X04,u06⟩:=qC B7 (qJ (qJ (qJ (qJ (qJ (qJ (qJ (qJ (qJ (qJ (qJ (qJ (qJ (qJ (qJ (qJ (qJ (.drop .hd (.drop .hd .rest)))))))))))))))))))
 have y01:=Tt p3 (Tt q3 (Tt J3 (Tt K3 (Tt M3 (Tt t06 u06)))))
 exact d3 (X0+1,b1,V0) X04 (Tt J2 y01) (GG.mv hG1453 y01) h
 refine Am<|Ae<|AG I ((H0.memA .t6) 0 _ I)<|Ab I<|Ab I<|BB (fst:=[]) (cap:=[vP d0,vP p0]) (vs:=[vI J0,vI J0,vI 1]) .plain (bd 150) func150 I I I I (e3 I I I) I fun J0g q9 R0i=>Ae<|AG I ((H0.memA .t10) 0 _ I)<|Ab I<|Ac (BG (kv:=J0) (z:=(0:Int)) H0 .t11 underlying127 underlying3 I I I I)<|Ab I<|Ac (Al I I)<|Ac (Al I I)<|Af I<|Af I<|Aa<|Ae<|AG I ((H0.memA .t10) 0 _ I)<|Ab I<|Ac (BG (kv:=J0) (z:=(0:Int)) H0 .t11 underlying127 underlying3 I I I I)<|Ab I<|Ac (Al I I)<|Ac (Al I I)<|Af I<|Af I<|Aa<|Ae<|Ab I<|Ab I<|RG.ifb (s:=25) I h (fun y2 h=>?_) (fun y2 h=>?_)
 refine Au (Ah I)<|Bm I I<|Aa<|MX.cond_kt I y2<|du 16 fun q1 H1=>Rx 0 98316 q1 I H1 (Ay I ((H0.memA .t7) 0 _ I))<|Rv 1 q1 I H1 (fun _=>Ah I)<|bk h fun t0n Q0b h=>?_
 obtain ⟨Y9,R0b⟩:=ax Q0b
 have z01:=Tt p3 (Tt q3 (Tt J3 (Tt K3 M3)))
 have Y00:=GG.mv hG1453 z01
 obtain ⟨y3,K0g,J0e,p0f,M2,F9,t00,X00⟩:=St.g2Nth H0 Y00 .t8 R0b
 refine Rv 2 q1 I H1 (fun _=>AU 1 ((ap b0 J0 (0:Int)).toNat) I F9 I Y9 t00) ?_
 have y9:=GG.cells Y00 M2
 refine Rx 3 98304 q1 I H1 (Ay I (X00 0 _ I))<|Rv 4 q1 I H1 (fun _=>Ah I)<|Rx 5 118144 q1 I H1 (Ay I ((H0.memA .t7) 0 _ I))<|Rv 6 q1 I H1 (fun _=>Ah I)<|Rv 7 q1 I H1 (fun _=>AU 1 ((ap b0 J0 (0:Int)).toNat) I F9 I Y9 t00)<|Rx 8 117760 q1 I H1 (Ay I (X00 0 _ I))<|Rv 9 q1 I H1 (fun _=>Ah I)<|bk h fun M0d U0b h=>?_
 obtain ⟨Z9,Q01⟩:=ax U0b
 obtain ⟨d03,q0f,Y5,u00,M0g,G0a,K09⟩:=BF (α:=Tb) H0 (.tl (.tl (.tl (.tl (.tl (.tl (.tl (.tl (.tl (.tl (.tl (.tl (.tl (.tl (.tl (.tl (.tl (.tl (.tl (At.gJ M2)))))))))))))))))))) y9 Q01
 obtain ⟨F03,s0f,J08⟩:=Bd (α:=Tb) H0 (.tl (.tl (.tl (.tl (.tl (.tl (.tl (.tl (.tl (.tl (.tl (.tl (.tl (.tl (.tl (.tl (.tl (.tl (.tl (At.gJ M2)))))))))))))))))))) u00
 obtain rfl:d03=⟨F03,0,none⟩:=by rw [J08] at Y5; cases Y5; rfl
 obtain ⟨M0j,rfl,H0a⟩:=cx G0a
 refine Rv 10 q1 I H1 (fun _=>AU 2 ((ap b0 J0 (0:Int)).toNat) I Y5 I Z9 u00)<|Rx 11 114688 q1 I H1 (AP I K09)<|Rv 12 q1 I H1 (fun _=>Ah I)<|bk h fun Y0d R0c h=>BQ 13 16383 q1 I .plain (bd 102) I (e1 I) (fun p q=>bg_c n (H0.hL hL q)  R0c) I fun z0l I0k E07 ⟨P0j,hu_,I0a⟩=>?_
 subst hu_
 obtain ⟨E7,C5⟩:=H0.agr E07
 refine bk h fun Q02 U0c h=>BQ 14 32767 q1 I .plain (bd 128) I (e2 I I) (fun p q=>aw_c n (E7.hL hL q) M0d (Ax (AB H0a C5) q) Y0d (Ax I0a q) U0c) I fun A0l J0k F07 ⟨Q0j,hu_,J0a⟩=>?_
 subst hu_
 obtain ⟨c5,x8⟩:=E7.agr F07
 have Z00:=Ar y9 (Tt C5 x8)
 obtain ⟨g03,t0f,Z5,v00,P0g,K0a,G0i⟩:=BF (α:=Tb) c5 (.tl (.tl (.tl (.tl (.tl (.tl (.tl (.tl (.tl (.tl (.tl (.tl (.tl (.tl (.tl (.tl (.tl (.tl (.tl (At.gJ M2)))))))))))))))))))) Z00 Q01
 obtain ⟨H03,u0f,G9⟩:=Bd (α:=Tb) c5 (.tl (.tl (.tl (.tl (.tl (.tl (.tl (.tl (.tl (.tl (.tl (.tl (.tl (.tl (.tl (.tl (.tl (.tl (.tl (At.gJ M2)))))))))))))))))))) v00
 obtain rfl:g03=⟨H03,0,none⟩:=by rw [G9] at Z5; cases Z5; rfl
 obtain ⟨R0j,rfl,u0j⟩:=cx K0a
 refine Rv 15 q1 I H1 (fun _=>AU 2 ((ap b0 J0 (0:Int)).toNat) I Z5 I Z9 v00)<|bk h fun C2 E0c h=>Bb (i:=16) (rk q1) (RO.acts (m' :=131071) (sk q1) I I .plain (BE (α:=Tb) (i:=(ap b0 J0 (0:Int)).toNat) E0c c5 G9 (fun _=>(.tl (.tl (.tl (.tl (.tl (.tl (.tl (.tl (.tl (.tl (.tl (.tl (.tl (.tl (.tl (.tl (.tl (.tl (.tl (Upd.gJ M2))))))))))))))))))))) Z00 I I I I (gL Q02.fe Q02.fk J0a) I) (fun B0l ⟨c3,W0,D5,y08⟩=>?_))
 have I6:=Tt z01 (Tt C5 x8)
 have hG1582:=GG.set (GG.mv (GG.mv hG1453 I6) D5) M2 y08
 refine AQ (dk q1)<|MX.fin I<|Aw (u:=.tuple #[]) q9 func150 I .nil I<|Aa<|Ae<|AG I ((W0.memA .t6) 0 _ I)<|Ab I<|Ab I<|BB (fst:=[]) (cap:=[vP d0,vP p0]) (vs:=[vI C0,vI C0,vI 1]) .plain (bd 150) func150 I I I I (e3 I I I) I fun Q0g s9 U0i=>Ae<|AG I ((W0.memA .t10) 0 _ I)<|Ab I<|Ac (BG (kv:=C0) (z:=(0:Int)) W0 .t11 underlying127 underlying3 I I I I)<|Ab I<|Ac (Al I I)<|Ac (Al I I)<|Af I<|Af I<|Aa<|Ae<|AG I ((W0.memA .t10) 0 _ I)<|Ab I<|Ac (BG (kv:=C0) (z:=(0:Int)) W0 .t11 underlying127 underlying3 I I I I)<|Ab I<|Ac (Al I I)<|Ac (Al I I)<|Af I<|Af I<|Aa<|Ae<|Ab I<|Ab I<|RG.ifb (s:=25) I h (fun b3 h=>?_) (fun b3 h=>?_)
 refine Au (Ah I)<|Bm I I<|Aa<|MX.cond_kt I b3<|du 16 fun s1 I1=>Rx 0 98316 s1 I I1 (Ay I ((W0.memA .t7) 0 _ I))<|Rv 1 s1 I I1 (fun _=>Ah I)<|bk h fun u0n V0b h=>?_
 obtain ⟨b00,W0b⟩:=ax V0b
 obtain ⟨Z6,R0g,K0e,v0f,P2,H9,x00,b01⟩:=St.g2Nth W0 hG1582 .t8 W0b
 refine Rv 2 s1 I I1 (fun _=>AU 1 ((ap b0 C0 (0:Int)).toNat) I H9 I b00 x00) ?_
 have z9:=GG.cells hG1582 P2
 refine Rx 3 98304 s1 I I1 (Ay I (b01 0 _ I))<|Rv 4 s1 I I1 (fun _=>Ah I)<|Rx 5 118144 s1 I I1 (Ay I ((W0.memA .t7) 0 _ I))<|Rv 6 s1 I I1 (fun _=>Ah I)<|Rv 7 s1 I I1 (fun _=>AU 1 ((ap b0 C0 (0:Int)).toNat) I H9 I b00 x00)<|Rx 8 117760 s1 I I1 (Ay I (b01 0 _ I))<|Rv 9 s1 I I1 (fun _=>Ah I)<|bk h fun P0d X0b h=>?_
 obtain ⟨c00,R01⟩:=ax X0b
 obtain ⟨j03,x0f,b6,y00,U0g,M0a,M09⟩:=BF (α:=Tb) W0 (.tl (.tl (.tl (.tl (.tl (.tl (.tl (.tl (.tl (.tl (.tl (.tl (.tl (.tl (.tl (.tl (.tl (.tl (.tl (At.gJ P2)))))))))))))))))))) z9 R01
 obtain ⟨I03,y0f,K08⟩:=Bd (α:=Tb) W0 (.tl (.tl (.tl (.tl (.tl (.tl (.tl (.tl (.tl (.tl (.tl (.tl (.tl (.tl (.tl (.tl (.tl (.tl (.tl (At.gJ P2)))))))))))))))))))) y00
 obtain rfl:j03=⟨I03,0,none⟩:=by rw [K08] at b6; cases b6; rfl
 obtain ⟨U0j,rfl,P0a⟩:=cx M0a
 refine Rv 10 s1 I I1 (fun _=>AU 2 ((ap b0 C0 (0:Int)).toNat) I b6 I c00 y00)<|Rx 11 114688 s1 I I1 (AP I M09)<|Rv 12 s1 I I1 (fun _=>Ah I)<|bk h fun Z0d V0c h=>BQ 13 16383 s1 I .plain (bd 102) I (e1 I) (fun p q=>bg_c n (W0.hL hL q)  V0c) I fun D0l K0k G07 ⟨V0j,hu_,Q0a⟩=>?_
 subst hu_
 obtain ⟨F7,s4⟩:=W0.agr G07
 refine bk h fun R02 W0c h=>BQ 14 32767 s1 I .plain (bd 128) I (e2 I I) (fun p q=>aw_c n (F7.hL hL q) P0d (Ax (AB P0a s4) q) Z0d (Ax Q0a q) W0c) I fun E0l M0k H07 ⟨W0j,hu_,R0a⟩=>?_
 subst hu_
 obtain ⟨d5,E5⟩:=F7.agr H07
 have c01:=Ar z9 (Tt s4 E5)
 obtain ⟨k03,z0f,c6,z00,V0g,U0a,H0i⟩:=BF (α:=Tb) d5 (.tl (.tl (.tl (.tl (.tl (.tl (.tl (.tl (.tl (.tl (.tl (.tl (.tl (.tl (.tl (.tl (.tl (.tl (.tl (At.gJ P2)))))))))))))))))))) c01 R01
 obtain ⟨J03,A0f,I9⟩:=Bd (α:=Tb) d5 (.tl (.tl (.tl (.tl (.tl (.tl (.tl (.tl (.tl (.tl (.tl (.tl (.tl (.tl (.tl (.tl (.tl (.tl (.tl (At.gJ P2)))))))))))))))))))) z00
 obtain rfl:k03=⟨J03,0,none⟩:=by rw [I9] at c6; cases c6; rfl
 obtain ⟨X0j,rfl,v0j⟩:=cx U0a
 refine Rv 15 s1 I I1 (fun _=>AU 2 ((ap b0 C0 (0:Int)).toNat) I c6 I c00 z00)<|bk h fun D4 F0c h=>Bb (i:=16) (rk s1) (RO.acts (m' :=131071) (sk s1) I I .plain (BE (α:=Tb) (i:=(ap b0 C0 (0:Int)).toNat) F0c d5 I9 (fun _=>(.tl (.tl (.tl (.tl (.tl (.tl (.tl (.tl (.tl (.tl (.tl (.tl (.tl (.tl (.tl (.tl (.tl (.tl (.tl (Upd.gJ P2))))))))))))))))))))) c01 I I I I (gL R02.fe R02.fk R0a) I) (fun F0l ⟨U4,W1,y8,z08⟩=>?_))
 have hG1654:=GG.set (GG.mv (GG.mv hG1582 (Tt s4 E5)) y8) P2 z08
 refine AQ (dk s1)<|MX.fin I<|Aw (u:=.tuple #[]) s9 func150 I .nil I<|Aa<|Ae<|AG I ((W1.memA .t6) 0 _ I)<|Ab I<|Ab I<|BB (fst:=[]) (cap:=[vP d0,vP p0]) (vs:=[vI J0,vI C0,vI (-1)]) .plain (bd 150) func150 I I I I (e3 I I I) I fun W0g b08 V0i=>Ae<|AG I ((W1.memA .t10) 0 _ I)<|Ab I<|Ac (BG (kv:=J0) (z:=(0:Int)) W1 .t11 underlying127 underlying3 I I I I)<|Ab I<|Ac (Al I I)<|Ac (Al I I)<|Af I<|Af I<|Aa<|Ae<|AG I ((W1.memA .t10) 0 _ I)<|Ab I<|Ac (BG (kv:=C0) (z:=(0:Int)) W1 .t11 underlying127 underlying3 I I I I)<|Ab I<|Ac (Al I I)<|Ac (Al I I)<|Af I<|Af I<|Aa<|Ae<|Ab I<|Ab I<|RG.known (s:=25) I y2<|Au (Ah I)<|Bm I I<|Aa<|MX.cond_kt I b3<|du 16 fun u1 J1=>Rx 0 98316 u1 I J1 (Ay I ((W1.memA .t7) 0 _ I))<|Rv 1 u1 I J1 (fun _=>Ah I)<|bk h fun v0n Y0b h=>?_
 obtain ⟨d00,Z0b⟩:=ax Y0b
 obtain ⟨b7,X0g,M0e,B0f,Q2,J9,A00,d01⟩:=St.g2Nth W1 hG1654 .t8 Z0b
 refine Rv 2 u1 I J1 (fun _=>AU 1 ((ap b0 J0 (0:Int)).toNat) I J9 I d00 A00) ?_
 have A9:=GG.cells hG1654 Q2
 refine Rx 3 98304 u1 I J1 (Ay I (d01 0 _ I))<|Rv 4 u1 I J1 (fun _=>Ah I)<|Rx 5 118144 u1 I J1 (Ay I ((W1.memA .t7) 0 _ I))<|Rv 6 u1 I J1 (fun _=>Ah I)<|Rv 7 u1 I J1 (fun _=>AU 1 ((ap b0 J0 (0:Int)).toNat) I J9 I d00 A00)<|Rx 8 117760 u1 I J1 (Ay I (d01 0 _ I))<|Rv 9 u1 I J1 (fun _=>Ah I)<|bk h fun Q0d b0c h=>?_
 obtain ⟨g00,U01⟩:=ax b0c
 obtain ⟨p03,C0f,d6,B00,Y0g,V0a,P09⟩:=BF (α:=Tb) W1 (.tl (.tl (.tl (.tl (.tl (.tl (.tl (.tl (.tl (.tl (.tl (.tl (.tl (.tl (.tl (.tl (.tl (.tl (.tl (At.gJ Q2)))))))))))))))))))) A9 U01
 obtain ⟨K03,D0f,M08⟩:=Bd (α:=Tb) W1 (.tl (.tl (.tl (.tl (.tl (.tl (.tl (.tl (.tl (.tl (.tl (.tl (.tl (.tl (.tl (.tl (.tl (.tl (.tl (At.gJ Q2)))))))))))))))))))) B00
 obtain rfl:p03=⟨K03,0,none⟩:=by rw [M08] at d6; cases d6; rfl
 obtain ⟨Y0j,rfl,W0a⟩:=cx V0a
 refine Rv 10 u1 I J1 (fun _=>AU 2 ((ap b0 C0 (0:Int)).toNat) I d6 I g00 B00)<|Rx 11 114688 u1 I J1 (AP I P09)<|Rv 12 u1 I J1 (fun _=>Ah I)<|bk h fun b0e X0c h=>BQ 13 16383 u1 I .plain (bd 102) I (e1 I) (fun p q=>bg_c n (W1.hL hL q)  X0c) I fun H0l Q0k I07 ⟨Z0j,hu_,X0a⟩=>?_
 subst hu_
 obtain ⟨G7,u4⟩:=W1.agr I07
 refine bk h fun U02 Y0c h=>BQ 14 32767 u1 I .plain (bd 128) I (e2 I I) (fun p q=>aw_c n (G7.hL hL q) Q0d (Ax (AB W0a u4) q) b0e (Ax X0a q) Y0c) I fun I0l R0k J07 ⟨b0k,hu_,Y0a⟩=>?_
 subst hu_
 obtain ⟨g5,F5⟩:=G7.agr J07
 have g01:=Ar A9 (Tt u4 F5)
 obtain ⟨q03,E0f,g6,C00,Z0g,Z0a,I0i⟩:=BF (α:=Tb) g5 (.tl (.tl (.tl (.tl (.tl (.tl (.tl (.tl (.tl (.tl (.tl (.tl (.tl (.tl (.tl (.tl (.tl (.tl (.tl (At.gJ Q2)))))))))))))))))))) g01 U01
 obtain ⟨M03,F0f,K9⟩:=Bd (α:=Tb) g5 (.tl (.tl (.tl (.tl (.tl (.tl (.tl (.tl (.tl (.tl (.tl (.tl (.tl (.tl (.tl (.tl (.tl (.tl (.tl (At.gJ Q2)))))))))))))))))))) C00
 obtain rfl:q03=⟨M03,0,none⟩:=by rw [K9] at g6; cases g6; rfl
 obtain ⟨c0k,rfl,x0j⟩:=cx Z0a
 refine Rv 15 u1 I J1 (fun _=>AU 2 ((ap b0 C0 (0:Int)).toNat) I g6 I g00 C00)<|bk h fun E4 G0c h=>Bb (i:=16) (rk u1) (RO.acts (m' :=131071) (sk u1) I I .plain (BE (α:=Tb) (i:=(ap b0 C0 (0:Int)).toNat) G0c g5 K9 (fun _=>(.tl (.tl (.tl (.tl (.tl (.tl (.tl (.tl (.tl (.tl (.tl (.tl (.tl (.tl (.tl (.tl (.tl (.tl (.tl (Upd.gJ Q2))))))))))))))))))))) g01 I I I I (gL U02.fe U02.fk Y0a) I) (fun J0l ⟨V4,X1,z8,A08⟩=>?_))
 have hG1724:=GG.set (GG.mv (GG.mv hG1654 (Tt u4 F5)) z8) Q2 A08
 refine AQ (dk u1)<|MX.fin I<|Aw (u:=.tuple #[]) b08 func150 I .nil I<|Aa<|Ak<|AG I ((X1.memA .t6) 0 _ I)<|Ab I<|Ab I<|BB (fst:=[]) (cap:=[vP d0,vP p0]) (vs:=[vI C0,vI J0,vI (-1)]) .plain (bd 150) func150 I I I I (e3 I I I) I fun b0h c08 W0i=>Ae<|AG I ((X1.memA .t10) 0 _ I)<|Ab I<|Ac (BG (kv:=C0) (z:=(0:Int)) X1 .t11 underlying127 underlying3 I I I I)<|Ab I<|Ac (Al I I)<|Ac (Al I I)<|Af I<|Af I<|Aa<|Ae<|AG I ((X1.memA .t10) 0 _ I)<|Ab I<|Ac (BG (kv:=J0) (z:=(0:Int)) X1 .t11 underlying127 underlying3 I I I I)<|Ab I<|Ac (Al I I)<|Ac (Al I I)<|Af I<|Af I<|Aa<|Ae<|Ab I<|Ab I<|RG.known (s:=25) I b3<|Au (Ah I)<|Bm I I<|Aa<|MX.cond_kt I y2<|du 16 fun v1 K1=>Rx 0 98316 v1 I K1 (Ay I ((X1.memA .t7) 0 _ I))<|Rv 1 v1 I K1 (fun _=>Ah I)<|bk h fun x0n c0c h=>?_
 obtain ⟨j00,d0c⟩:=ax c0c
 obtain ⟨c7,c0h,P0e,G0f,R2,M9,D00,j01⟩:=St.g2Nth X1 hG1724 .t8 d0c
 refine Rv 2 v1 I K1 (fun _=>AU 1 ((ap b0 C0 (0:Int)).toNat) I M9 I j00 D00) ?_
 have B9:=GG.cells hG1724 R2
 refine Rx 3 98304 v1 I K1 (Ay I (j01 0 _ I))<|Rv 4 v1 I K1 (fun _=>Ah I)<|Rx 5 118144 v1 I K1 (Ay I ((X1.memA .t7) 0 _ I))<|Rv 6 v1 I K1 (fun _=>Ah I)<|Rv 7 v1 I K1 (fun _=>AU 1 ((ap b0 C0 (0:Int)).toNat) I M9 I j00 D00)<|Rx 8 117760 v1 I K1 (Ay I (j01 0 _ I))<|Rv 9 v1 I K1 (fun _=>Ah I)<|bk h fun R0d g0c h=>?_
 obtain ⟨k00,V01⟩:=ax g0c
 obtain ⟨s03,H0f,j6,E00,d0h,b0b,Q09⟩:=BF (α:=Tb) X1 (.tl (.tl (.tl (.tl (.tl (.tl (.tl (.tl (.tl (.tl (.tl (.tl (.tl (.tl (.tl (.tl (.tl (.tl (.tl (At.gJ R2)))))))))))))))))))) B9 V01
 obtain ⟨P03,I0f,P08⟩:=Bd (α:=Tb) X1 (.tl (.tl (.tl (.tl (.tl (.tl (.tl (.tl (.tl (.tl (.tl (.tl (.tl (.tl (.tl (.tl (.tl (.tl (.tl (At.gJ R2)))))))))))))))))))) E00
 obtain rfl:s03=⟨P03,0,none⟩:=by rw [P08] at j6; cases j6; rfl
 obtain ⟨d0k,rfl,c0b⟩:=cx b0b
 refine Rv 10 v1 I K1 (fun _=>AU 2 ((ap b0 J0 (0:Int)).toNat) I j6 I k00 E00)<|Rx 11 114688 v1 I K1 (AP I Q09)<|Rv 12 v1 I K1 (fun _=>Ah I)<|bk h fun c0e Z0c h=>BQ 13 16383 v1 I .plain (bd 102) I (e1 I) (fun p q=>bg_c n (X1.hL hL q)  Z0c) I fun M0l U0k K07 ⟨g0k,hu_,d0b⟩=>?_
 subst hu_
 obtain ⟨H7,v4⟩:=X1.agr K07
 refine bk h fun V02 b0d h=>BQ 14 32767 v1 I .plain (bd 128) I (e2 I I) (fun p q=>aw_c n (H7.hL hL q) R0d (Ax (AB c0b v4) q) c0e (Ax d0b q) b0d) I fun P0l V0k M07 ⟨j0k,hu_,g0b⟩=>?_
 subst hu_
 obtain ⟨k5,G5⟩:=H7.agr M07
 have k01:=Ar B9 (Tt v4 G5)
 obtain ⟨t03,J0f,k6,F00,g0h,j0b,J0i⟩:=BF (α:=Tb) k5 (.tl (.tl (.tl (.tl (.tl (.tl (.tl (.tl (.tl (.tl (.tl (.tl (.tl (.tl (.tl (.tl (.tl (.tl (.tl (At.gJ R2)))))))))))))))))))) k01 V01
 obtain ⟨Q03,K0f,P9⟩:=Bd (α:=Tb) k5 (.tl (.tl (.tl (.tl (.tl (.tl (.tl (.tl (.tl (.tl (.tl (.tl (.tl (.tl (.tl (.tl (.tl (.tl (.tl (At.gJ R2)))))))))))))))))))) F00
 obtain rfl:t03=⟨Q03,0,none⟩:=by rw [P9] at k6; cases k6; rfl
 obtain ⟨k0k,rfl,y0j⟩:=cx j0b
 refine Rv 15 v1 I K1 (fun _=>AU 2 ((ap b0 J0 (0:Int)).toNat) I k6 I k00 F00)<|bk h fun F4 H0c h=>Bb (i:=16) (rk v1) (RO.acts (m' :=131071) (sk v1) I I .plain (BE (α:=Tb) (i:=(ap b0 J0 (0:Int)).toNat) H0c k5 P9 (fun _=>(.tl (.tl (.tl (.tl (.tl (.tl (.tl (.tl (.tl (.tl (.tl (.tl (.tl (.tl (.tl (.tl (.tl (.tl (.tl (Upd.gJ R2))))))))))))))))))))) k01 I I I I (gL V02.fe V02.fk g0b) I) (fun Q0l ⟨W4,Y04,A8,B08⟩=>?_))
 refine AQ (dk v1)<|MX.fin I<|Aw (u:=.tuple #[]) c08 func150 I .nil I<|Aa<|Ao<|MX.roundEnd R3 Y04 .t2 fun t02 I7 B8=>Au (BV I)<|Bm I I<|Aa<|Bn I<|Am<|Ao<|Ak<|Ac (AW (i:=X0) (j:=1) I I (by omega))<|Ab I<|Aa ?_
 obtain ⟨Z04,C8⟩:=qC I7 (qJ (qJ (qJ (qJ (qJ (qJ (qJ (qJ (qJ (qJ (qJ (qJ (qJ (qJ (qJ (qJ (qJ (.drop .hd (.drop .hd .rest)))))))))))))))))))
 exact d3 (X0+1,((((b1.set ((ap b0 J0 (0:Int)).toNat) C2).set ((ap b0 C0 (0:Int)).toNat) D4).set ((ap b0 J0 (0:Int)).toNat) E4).set ((ap b0 C0 (0:Int)).toNat) F4),((((V0.set ((ap b0 J0 (0:Int)).toNat) ⟨y3,C2,c3⟩).set ((ap b0 C0 (0:Int)).toNat) ⟨Z6,D4,U4⟩).set ((ap b0 J0 (0:Int)).toNat) ⟨b7,E4,V4⟩).set ((ap b0 C0 (0:Int)).toNat) ⟨c7,F4,W4⟩)) Z04 (Tt J2 (Tt I6 (Tt D5 (Tt s4 (Tt E5 (Tt y8 (Tt u4 (Tt F5 (Tt z8 (Tt v4 (Tt G5 (Tt A8 (Tt B8 C8))))))))))))) (GG.mv (GG.set (GG.mv (GG.mv hG1724 (Tt v4 G5)) A8) R2 B08) (Tt B8 C8)) h
 refine Aj<|Bo I I<|Aa<|Bn I<|Am<|MX.fin I<|Aw (u:=.tuple #[]) s9 func150 I .nil I<|Aa<|Ae<|AG I ((W0.memA .t6) 0 _ I)<|Ab I<|Ab I<|BB (fst:=[]) (cap:=[vP d0,vP p0]) (vs:=[vI J0,vI C0,vI (-1)]) .plain (bd 150) func150 I I I I (e3 I I I) I fun k0h g08 X0i=>Ae<|AG I ((W0.memA .t10) 0 _ I)<|Ab I<|Ac (BG (kv:=J0) (z:=(0:Int)) W0 .t11 underlying127 underlying3 I I I I)<|Ab I<|Ac (Al I I)<|Ac (Al I I)<|Af I<|Af I<|Aa<|Ae<|AG I ((W0.memA .t10) 0 _ I)<|Ab I<|Ac (BG (kv:=C0) (z:=(0:Int)) W0 .t11 underlying127 underlying3 I I I I)<|Ab I<|Ac (Al I I)<|Ac (Al I I)<|Af I<|Af I<|Aa<|Ae<|Ab I<|Ab I<|RG.known (s:=25) I y2<|Au (Ah I)<|Bm I I<|Aa<|MX.cond_kf I (Bool.eq_false_iff.2 b3)<|Am<|MX.fin I<|Aw (u:=.tuple #[]) g08 func150 I .nil I<|Aa<|Ak<|AG I ((W0.memA .t6) 0 _ I)<|Ab I<|Ab I<|BB (fst:=[]) (cap:=[vP d0,vP p0]) (vs:=[vI C0,vI J0,vI (-1)]) .plain (bd 150) func150 I I I I (e3 I I I) I fun p0h j08 Y0i=>?_
 refine Ae<|AG I ((W0.memA .t10) 0 _ I)<|Ab I<|Ac (BG (kv:=C0) (z:=(0:Int)) W0 .t11 underlying127 underlying3 I I I I)<|Ab I<|Ac (Al I I)<|Ac (Al I I)<|Af I<|Af I<|Aa<|Ae<|AG I ((W0.memA .t10) 0 _ I)<|Ab I<|Ac (BG (kv:=J0) (z:=(0:Int)) W0 .t11 underlying127 underlying3 I I I I)<|Ab I<|Ac (Al I I)<|Ac (Al I I)<|Af I<|Af I<|Aa<|Ae<|Ab I<|Ab I<|RG.known (s:=25) I (Bool.eq_false_iff.2 b3)<|Aj<|Bo I I<|Aa<|Bn I<|Am<|MX.fin I<|Aw (u:=.tuple #[]) j08 func150 I .nil I<|Aa<|Ao<|MX.roundEnd R3 W0 .t2 fun u02 J7 D8=>Au (BV I)<|Bm I I<|Aa<|Bn I<|Am<|Ao<|Ak<|Ac (AW (i:=X0) (j:=1) I I (by omega))<|Ab I<|Aa ?_
 obtain ⟨b05,E8⟩:=qC J7 (qJ (qJ (qJ (qJ (qJ (qJ (qJ (qJ (qJ (qJ (qJ (qJ (qJ (qJ (qJ (qJ (qJ (.drop .hd (.drop .hd .rest)))))))))))))))))))
 exact d3 (X0+1,(b1.set ((ap b0 J0 (0:Int)).toNat) C2),(V0.set ((ap b0 J0 (0:Int)).toNat) ⟨y3,C2,c3⟩)) b05 (Tt J2 (Tt I6 (Tt D5 (Tt D8 E8)))) (GG.mv hG1582 (Tt D8 E8)) h
 refine Aj<|Bo I I<|Aa<|Bn I<|Am<|MX.fin I<|Aw (u:=.tuple #[]) q9 func150 I .nil I<|Aa<|Ae<|AG I ((H0.memA .t6) 0 _ I)<|Ab I<|Ab I<|BB (fst:=[]) (cap:=[vP d0,vP p0]) (vs:=[vI C0,vI C0,vI 1]) .plain (bd 150) func150 I I I I (e3 I I I) I fun q0h u9 b0j=>Ae<|AG I ((H0.memA .t10) 0 _ I)<|Ab I<|Ac (BG (kv:=C0) (z:=(0:Int)) H0 .t11 underlying127 underlying3 I I I I)<|Ab I<|Ac (Al I I)<|Ac (Al I I)<|Af I<|Af I<|Aa<|Ae<|AG I ((H0.memA .t10) 0 _ I)<|Ab I<|Ac (BG (kv:=C0) (z:=(0:Int)) H0 .t11 underlying127 underlying3 I I I I)<|Ab I<|Ac (Al I I)<|Ac (Al I I)<|Af I<|Af I<|Aa<|Ae<|Ab I<|Ab I<|RG.ifb (s:=25) I h (fun g4 h=>?_) (fun g4 h=>?_)
 refine Au (Ah I)<|Bm I I<|Aa<|MX.cond_kt I g4<|du 16 fun x1 M1=>Rx 0 98316 x1 I M1 (Ay I ((H0.memA .t7) 0 _ I))<|Rv 1 x1 I M1 (fun _=>Ah I)<|bk h fun y0n j0c h=>?_
 obtain ⟨p00,k0c⟩:=ax j0c
 have A01:=Tt p3 (Tt q3 (Tt J3 (Tt K3 M3)))
 have q01:=GG.mv hG1453 A01
 obtain ⟨d7,s0h,Q0e,M0f,U2,Q9,G00,p01⟩:=St.g2Nth H0 q01 .t8 k0c
 refine Rv 2 x1 I M1 (fun _=>AU 1 ((ap b0 C0 (0:Int)).toNat) I Q9 I p00 G00) ?_
 have C9:=GG.cells q01 U2
 refine Rx 3 98304 x1 I M1 (Ay I (p01 0 _ I))<|Rv 4 x1 I M1 (fun _=>Ah I)<|Rx 5 118144 x1 I M1 (Ay I ((H0.memA .t7) 0 _ I))<|Rv 6 x1 I M1 (fun _=>Ah I)<|Rv 7 x1 I M1 (fun _=>AU 1 ((ap b0 C0 (0:Int)).toNat) I Q9 I p00 G00)<|Rx 8 117760 x1 I M1 (Ay I (p01 0 _ I))<|Rv 9 x1 I M1 (fun _=>Ah I)<|bk h fun U0d p0c h=>?_
 obtain ⟨q00,W01⟩:=ax p0c
 obtain ⟨u03,P0f,p6,H00,t0h,k0b,R09⟩:=BF (α:=Tb) H0 (.tl (.tl (.tl (.tl (.tl (.tl (.tl (.tl (.tl (.tl (.tl (.tl (.tl (.tl (.tl (.tl (.tl (.tl (.tl (At.gJ U2)))))))))))))))))))) C9 W01
 obtain ⟨R03,Q0f,Q08⟩:=Bd (α:=Tb) H0 (.tl (.tl (.tl (.tl (.tl (.tl (.tl (.tl (.tl (.tl (.tl (.tl (.tl (.tl (.tl (.tl (.tl (.tl (.tl (At.gJ U2)))))))))))))))))))) H00
 obtain rfl:u03=⟨R03,0,none⟩:=by rw [Q08] at p6; cases p6; rfl
 obtain ⟨p0k,rfl,p0b⟩:=cx k0b
 refine Rv 10 x1 I M1 (fun _=>AU 2 ((ap b0 C0 (0:Int)).toNat) I p6 I q00 H00)<|Rx 11 114688 x1 I M1 (AP I R09)<|Rv 12 x1 I M1 (fun _=>Ah I)<|bk h fun d0e c0d h=>BQ 13 16383 x1 I .plain (bd 102) I (e1 I) (fun p q=>bg_c n (H0.hL hL q)  c0d) I fun R0l W0k P07 ⟨q0k,hu_,q0b⟩=>?_
 subst hu_
 obtain ⟨K7,H5⟩:=H0.agr P07
 refine bk h fun W02 d0d h=>BQ 14 32767 x1 I .plain (bd 128) I (e2 I I) (fun p q=>aw_c n (K7.hL hL q) U0d (Ax (AB p0b H5) q) d0e (Ax q0b q) d0d) I fun U0l X0k Q07 ⟨s0k,hu_,s0b⟩=>?_
 subst hu_
 obtain ⟨p5,F8⟩:=K7.agr Q07
 have t01:=Ar C9 (Tt H5 F8)
 obtain ⟨v03,R0f,q6,I00,u0h,t0b,K0i⟩:=BF (α:=Tb) p5 (.tl (.tl (.tl (.tl (.tl (.tl (.tl (.tl (.tl (.tl (.tl (.tl (.tl (.tl (.tl (.tl (.tl (.tl (.tl (At.gJ U2)))))))))))))))))))) t01 W01
 obtain ⟨U03,U0f,R9⟩:=Bd (α:=Tb) p5 (.tl (.tl (.tl (.tl (.tl (.tl (.tl (.tl (.tl (.tl (.tl (.tl (.tl (.tl (.tl (.tl (.tl (.tl (.tl (At.gJ U2)))))))))))))))))))) I00
 obtain rfl:v03=⟨U03,0,none⟩:=by rw [R9] at q6; cases q6; rfl
 obtain ⟨t0k,rfl,z0j⟩:=cx t0b
 refine Rv 15 x1 I M1 (fun _=>AU 2 ((ap b0 C0 (0:Int)).toNat) I q6 I q00 I00)<|bk h fun G4 I0c h=>Bb (i:=16) (rk x1) (RO.acts (m' :=131071) (sk x1) I I .plain (BE (α:=Tb) (i:=(ap b0 C0 (0:Int)).toNat) I0c p5 R9 (fun _=>(.tl (.tl (.tl (.tl (.tl (.tl (.tl (.tl (.tl (.tl (.tl (.tl (.tl (.tl (.tl (.tl (.tl (.tl (.tl (Upd.gJ U2))))))))))))))))))))) t01 I I I I (gL W02.fe W02.fk s0b) I) (fun V0l ⟨X4,Z1,G8,C08⟩=>?_))
 have B01:=Tt A01 (Tt H5 F8)
 refine AQ (dk x1)<|MX.fin I<|Aw (u:=.tuple #[]) u9 func150 I .nil I<|Aa<|Ae<|AG I ((Z1.memA .t6) 0 _ I)<|Ab I<|Ab I<|BB (fst:=[]) (cap:=[vP d0,vP p0]) (vs:=[vI J0,vI C0,vI (-1)]) .plain (bd 150) func150 I I I I (e3 I I I) I fun v0h k08 c0j=>Ae<|AG I ((Z1.memA .t10) 0 _ I)<|Ab I<|Ac (BG (kv:=J0) (z:=(0:Int)) Z1 .t11 underlying127 underlying3 I I I I)<|Ab I<|Ac (Al I I)<|Ac (Al I I)<|Af I<|Af I<|Aa<|Ae<|AG I ((Z1.memA .t10) 0 _ I)<|Ab I<|Ac (BG (kv:=C0) (z:=(0:Int)) Z1 .t11 underlying127 underlying3 I I I I)<|Ab I<|Ac (Al I I)<|Ac (Al I I)<|Af I<|Af I<|Aa<|Ae<|Ab I<|Ab I<|RG.known (s:=25) I (Bool.eq_false_iff.2 y2)<|Aj<|Bo I I<|Aa<|Bn I<|Am<|MX.fin I<|Aw (u:=.tuple #[]) k08 func150 I .nil I<|Aa<|Ak<|AG I ((Z1.memA .t6) 0 _ I)<|Ab I<|Ab I<|BB (fst:=[]) (cap:=[vP d0,vP p0]) (vs:=[vI C0,vI J0,vI (-1)]) .plain (bd 150) func150 I I I I (e3 I I I) I fun x0h p08 d0j=>Ae<|AG I ((Z1.memA .t10) 0 _ I)<|Ab I<|Ac (BG (kv:=C0) (z:=(0:Int)) Z1 .t11 underlying127 underlying3 I I I I)<|Ab I<|Ac (Al I I) ?_
 refine Ac (Al I I)<|Af I<|Af I<|Aa<|Ae<|AG I ((Z1.memA .t10) 0 _ I)<|Ab I<|Ac (BG (kv:=J0) (z:=(0:Int)) Z1 .t11 underlying127 underlying3 I I I I)<|Ab I<|Ac (Al I I)<|Ac (Al I I)<|Af I<|Af I<|Aa<|Ae<|Ab I<|Ab I<|RG.known (s:=25) I g4<|Au (Ah I)<|Bm I I<|Aa<|MX.cond_kf I (Bool.eq_false_iff.2 y2)<|Am<|MX.fin I<|Aw (u:=.tuple #[]) p08 func150 I .nil I<|Aa<|Ao<|MX.roundEnd R3 Z1 .t2 fun v02 M7 H8=>Au (BV I)<|Bm I I<|Aa<|Bn I<|Am<|Ao<|Ak<|Ac (AW (i:=X0) (j:=1) I I (by omega))<|Ab I<|Aa ?_
 obtain ⟨c05,I8⟩:=qC M7 (qJ (qJ (qJ (qJ (qJ (qJ (qJ (qJ (qJ (qJ (qJ (qJ (qJ (qJ (qJ (qJ (qJ (.drop .hd (.drop .hd .rest)))))))))))))))))))
 exact d3 (X0+1,(b1.set ((ap b0 C0 (0:Int)).toNat) G4),(V0.set ((ap b0 C0 (0:Int)).toNat) ⟨d7,G4,X4⟩)) c05 (Tt J2 (Tt B01 (Tt G8 (Tt H8 I8)))) (GG.mv (GG.set (GG.mv (GG.mv hG1453 B01) G8) U2 C08) (Tt H8 I8)) h
 refine Aj<|Bo I I<|Aa<|Bn I<|Am<|MX.fin I<|Aw (u:=.tuple #[]) u9 func150 I .nil I<|Aa<|Ae<|AG I ((H0.memA .t6) 0 _ I)<|Ab I<|Ab I<|BB (fst:=[]) (cap:=[vP d0,vP p0]) (vs:=[vI J0,vI C0,vI (-1)]) .plain (bd 150) func150 I I I I (e3 I I I) I fun y0h q08 g0j=>Ae<|AG I ((H0.memA .t10) 0 _ I)<|Ab I<|Ac (BG (kv:=J0) (z:=(0:Int)) H0 .t11 underlying127 underlying3 I I I I)<|Ab I<|Ac (Al I I)<|Ac (Al I I)<|Af I<|Af I<|Aa<|Ae<|AG I ((H0.memA .t10) 0 _ I)<|Ab I<|Ac (BG (kv:=C0) (z:=(0:Int)) H0 .t11 underlying127 underlying3 I I I I)<|Ab I<|Ac (Al I I)<|Ac (Al I I)<|Af I<|Af I<|Aa<|Ae<|Ab I<|Ab I<|RG.known (s:=25) I (Bool.eq_false_iff.2 y2)<|Aj<|Bo I I<|Aa<|Bn I<|Am<|MX.fin I<|Aw (u:=.tuple #[]) q08 func150 I .nil I<|Aa<|Ak<|AG I ((H0.memA .t6) 0 _ I)<|Ab I<|Ab I<|BB (fst:=[]) (cap:=[vP d0,vP p0]) (vs:=[vI C0,vI J0,vI (-1)]) .plain (bd 150) func150 I I I I (e3 I I I) I fun z0h s08 j0j=>?_
 refine Ae<|AG I ((H0.memA .t10) 0 _ I)<|Ab I<|Ac (BG (kv:=C0) (z:=(0:Int)) H0 .t11 underlying127 underlying3 I I I I)<|Ab I<|Ac (Al I I)<|Ac (Al I I)<|Af I<|Af I<|Aa<|Ae<|AG I ((H0.memA .t10) 0 _ I)<|Ab I<|Ac (BG (kv:=J0) (z:=(0:Int)) H0 .t11 underlying127 underlying3 I I I I)<|Ab I<|Ac (Al I I)<|Ac (Al I I)<|Af I<|Af I<|Aa<|Ae<|Ab I<|Ab I<|RG.known (s:=25) I (Bool.eq_false_iff.2 g4)<|Aj<|Bo I I<|Aa<|Bn I<|Am<|MX.fin I<|Aw (u:=.tuple #[]) s08 func150 I .nil I<|Aa<|Ao<|MX.roundEnd R3 H0 .t2 fun x02 P7 B06=>Au (BV I)<|Bm I I<|Aa<|Bn I<|Am<|Ao<|Ak<|Ac (AW (i:=X0) (j:=1) I I (by omega))<|Ab I<|Aa ?_
 obtain ⟨d05,C06⟩:=qC P7 (qJ (qJ (qJ (qJ (qJ (qJ (qJ (qJ (qJ (qJ (qJ (qJ (qJ (qJ (qJ (qJ (qJ (.drop .hd (.drop .hd .rest)))))))))))))))))))
 have C01:=Tt p3 (Tt q3 (Tt J3 (Tt K3 (Tt M3 (Tt B06 C06)))))
 exact d3 (X0+1,b1,V0) d05 (Tt J2 C01) (GG.mv hG1453 C01) h
 refine Aj<|Aj<|Aj<|Aj<|Aj<|Bo I I<|Aa<|Bn I<|Am<|Ao<|Ak<|Ac (AW (i:=X0) (j:=1) I I (by omega))<|Ab I<|Aa ?_
 obtain ⟨g05,D06⟩:=qC z2 (qI (qI (qI (qI (qI (qI (qI (qI (qI (qI (qI (qI (qI (qI (qI (qI (qI (.drop .hd .rest))))))))))))))))))
 have D01:=Tt p3 (Tt q3 D06)
 exact d3 (X0+1,b1,V0) g05 (Tt J2 D01) (GG.mv hG1453 D01) h
 refine AT I ?_
 have h:=v09 _ h
 try dsimp only at h
 refine MX.fin rfl<|Aw (u:=.tuple #[]) v08 func156 rfl .nil rfl<|MX.endRange0 b5 .hd (by intro h9; cases h9) fun y02 Q7 E06=>?_
 obtain ⟨R7,F06⟩:=qC Q7 (qI (qI (qI (qI (qI (qI (qI (qI (qI (qI (qI (qI (qI (qI (qI (qI (.drop .hd .rest)))))))))))))))))
 refine Ao<|Ae<|AG I ((R7.memA .t4) 0 _ I)<|BB (fst:=[]) (cap:=[]) (vs:=[(.slice (some ⟨j0,0,none⟩) ((b0.length:Nat):Int).toNat ((b0.length:Nat):Int).toNat)]) .plain (bd 151) func151 I I I I (e1 I) I fun A0h v9 k0j=>Ae<|RG.nl [.bool false,vN] R7 fun W0l Q0 U7 G06=>Aa<|Ae<|bk h fun y7 g0d h=>jE (bd 102) I (e1 I) (fun p q=>bg_c n (U7.hL hL q)  g0d) I fun X0l Y0k R07 ⟨j02,hu_,F01⟩=>?_
 subst hu_
 obtain ⟨j05,H06⟩:=U7.agr R07
 refine RG.nl [.bool false,vN] j05 fun Y0l R0 k05 I5=>Bl [.bool y7.fe,j02] k05 .hd (o2 I (Bs (AB F01 I5))) fun Z0l q5 J8=>Aa<|Ai<|Ae<|Ab I ?_
 have C6:=GG.mv hG1453 (Tt E06 (Tt F06 (Tt G06 (Tt H06 (Tt I5 J8)))))
 obtain ⟨q0e,V0f,R08,_⟩:=St.rowForm q5 (At.upd .t7)
 have A0i:=GG.short q5 C6 .t7
 refine Ac (FV.as (FV.lenV underlying235 I R08) (GG.lenv C6))<|Ab I<|Aa<|Aq<|tn h fun I0j v0a X9=>MX.lf (α:=Nat×Bool×(Lb Ua)×(Lb (Lb Tb))×Vc×(Lb (GZ Tb))) (fun ⟨U0,F0,D2,F2,I0,y1⟩=>[(0,(.slice (some ⟨j0,0,none⟩) ((b0.length:Nat):Int).toNat ((b0.length:Nat):Int).toNat)),(2,vP Q0),(3,vP R0),(11,vn b1.length),(12,vn U0)]) (fun ⟨U0,F0,D2,F2,I0,y1⟩=>(.cells R0 [.bool F0,I0] 119::.cells Q0 [.bool false,vN] 119::.obj P0 (.deferred (some []))::.cells G0 [vI a0.fN,v0_1] 32::.cells E0 [vU a1] 44::.cells K0 [.func (.func 150) #[] #[vP d0,vP p0]] 237::.cells p0 [(.slice (some ⟨j0,0,none⟩) ((b0.length:Nat):Int).toNat ((b0.length:Nat):Int).toNat)] 235::rr w 236 (Lb Tb) (.slice (some ⟨j0,0,none⟩) ((b0.length:Nat):Int).toNat ((b0.length:Nat):Int).toNat) t0.length y0::.cells B0 [.func (.func 149) #[c0] #[]] 94::.cells d0 [.map (some g0)] 127::.obj g0 (ab (b0:Lb (Int×Int)))::.obj D0 (.deferred (some []))::rr w 3 Int c0 q0.length s0::.cells x0 [.bool false,vN] 119::.cells v0 [.map none] 226::.cells u0 [vI a0.fN,v0_1] 32::.cells A0 zP 46::.cells z0 [vI a0.fN,v0_1] 32::(gJ w.heap.size 119 y1++[]))) (fun ⟨U0,F0,D2,F2,I0,y1⟩ u7=>Rep.R u7 (bl (.cells R0 [.bool F0,I0] 119::.cells Q0 [.bool false,vN] 119::.obj P0 (.deferred (some []))::.cells G0 [vI a0.fN,v0_1] 32::.cells E0 [vU a1] 44::.cells K0 [.func (.func 150) #[] #[vP d0,vP p0]] 237::.cells p0 [(.slice (some ⟨j0,0,none⟩) ((b0.length:Nat):Int).toNat ((b0.length:Nat):Int).toNat)] 235::rr w 236 (Lb Tb) (.slice (some ⟨j0,0,none⟩) ((b0.length:Nat):Int).toNat ((b0.length:Nat):Int).toNat) t0.length y0::.cells B0 [.func (.func 149) #[c0] #[]] 94::.cells d0 [.map (some g0)] 127::.obj g0 (ab (b0:Lb (Int×Int)))::.obj D0 (.deferred (some []))::rr w 3 Int c0 q0.length s0::.cells x0 [.bool false,vN] 119::.cells v0 [.map none] 226::.cells u0 [vI a0.fN,v0_1] 32::.cells A0 zP 46::.cells z0 [vI a0.fN,v0_1] 32::(gJ w.heap.size 119 y1++[]))++L) [I0] D2/\GG u7 (bl (.cells R0 [.bool F0,I0] 119::.cells Q0 [.bool false,vN] 119::.obj P0 (.deferred (some []))::.cells G0 [vI a0.fN,v0_1] 32::.cells E0 [vU a1] 44::.cells K0 [.func (.func 150) #[] #[vP d0,vP p0]] 237::.cells p0 [(.slice (some ⟨j0,0,none⟩) ((b0.length:Nat):Int).toNat ((b0.length:Nat):Int).toNat)] 235::rr w 236 (Lb Tb) (.slice (some ⟨j0,0,none⟩) ((b0.length:Nat):Int).toNat ((b0.length:Nat):Int).toNat) t0.length y0::.cells B0 [.func (.func 149) #[c0] #[]] 94::.cells d0 [.map (some g0)] 127::.obj g0 (ab (b0:Lb (Int×Int)))::.obj D0 (.deferred (some []))::rr w 3 Int c0 q0.length s0::.cells x0 [.bool false,vN] 119::.cells v0 [.map none] 226::.cells u0 [vI a0.fN,v0_1] 32::.cells A0 zP 46::.cells z0 [vI a0.fN,v0_1] 32::(gJ w.heap.size 119 y1++[]))++L) t0.length y0 F2 y1) (fun ⟨U0,F0,D2,F2,I0,y1⟩=>(U0,F0,D2,F2)) (0,y7.fe,y7.fk,b1,j02,V0) v0a q5 ⟨(AB F01 (Tt I5 J8)),C6⟩ ?_
 rintro E0e ⟨U0,F0,D2,F2,I0,y1⟩ u7 I04 p2 k07 ⟨y4,hG54319⟩ h
 unfold ae_l3 at h
 try dsimp only at h
 refine Ae<|Ac (Bp (i:=U0) (j:=b1.length) I I)<|Aa<|Ai<|AO I h (fun z04 h=>?_) (fun z04 h=>?_)
 refine Am<|Ai<|Aq<|Ae<|Ab I<|Af I<|Aa<|Ai<|Ae<|Ab I<|Ab I<|bk h fun A0n t0c h=>?_
 obtain ⟨v0k,G0h,W0e,Z0f,V6,W08,E09,V09⟩:=St.g2Nth p2 hG54319 .t7 t0c
 refine Ac (AU 1 U0 I W08 I I E09)<|AG I (V09 0 _ I)<|Ab I<|bk h fun V0d u0c h=>?_
 obtain ⟨x03,b0g,s6,J00,H0h,v0b,W09⟩:=BF (α:=Tb) p2 (.tl (.tl (.tl (.tl (.tl (.tl (.tl (.tl (.tl (.tl (.tl (.tl (.tl (.tl (.tl (.tl (.tl (.tl (At.gJ V6))))))))))))))))))) (GG.cells hG54319 V6) u0c
 obtain ⟨V03,c0g,X08⟩:=Bd (α:=Tb) p2 (.tl (.tl (.tl (.tl (.tl (.tl (.tl (.tl (.tl (.tl (.tl (.tl (.tl (.tl (.tl (.tl (.tl (.tl (At.gJ V6))))))))))))))))))) J00
 obtain rfl:x03=⟨V03,0,none⟩:=by rw [X08] at s6; cases s6; rfl
 obtain ⟨x0k,rfl,x0b⟩:=cx v0b
 refine Ac (AU 2 U0 I s6 I I J00)<|Ac (AP I W09)<|bk h fun Z02 t0d h=>Bz (vI Z02) (bd 68) I (e1 I) (fun p q=>bC_c n (p2.hL0 hL q) V0d (p2.kd x0b q) t0d) I<|Ac (BT (i:=Z02) (j:=0) I I)<|Aa<|AO I h (fun A04 h=>?_) (fun A04 h=>?_)
 refine Ae<|bk h fun F1 u0d h=>jE (bd 102) I (e1 I) (fun p q=>bg_c n (p2.hL hL q)  u0d) I fun H0m Z0k U07 ⟨Q1,hu_,M6⟩=>?_
 subst hu_
 obtain ⟨R05,p0i⟩:=p2.agr U07
 refine Bl [.bool F1.fe,Q1] R05 .t1 (o2 I (Bs M6)) fun I0m Z7 X8=>Aa ?_
 have h:=jg h X9
 refine Ap I<|Aw (u:=.agg #[.bool F1.fe,Q1]) v9 func151 I (.cons (.many (cs:=[.bool F1.fe,Q1]) I I (Z7.memA .t1)) .nil) I<|Bl [.bool F1.fe,Q1] Z7 (.tl (.tl (.tl (.tl (.tl (.tl (.tl (.tl (.tl (.tl (.tl (.tl (.tl .hd))))))))))))) (o2 I (Bs (AB M6 X8))) fun J0m U05 p07=>Aa<|Ap I<|RT.take U05 .t2 fun z02 b8 q07=>?_
 obtain ⟨V05,s07⟩:=qC b8 (qH (qH (qI (qI (qI (qI (qI (qI (qI (qI (qI (qI (qI (qI (qI (qI (qI (.drop .hd .rest))))))))))))))))))
 refine RT.take V05 .t10 fun A02 c8 t07=>?_
 obtain ⟨p4,u07⟩:=qC c8 (qH (qH (qH (qH (qH (qH (qH (qH (qH (qH (qI (qI (qI (qI (qI (qI (.drop .hd .rest)))))))))))))))))
 refine Aw (u:=.agg #[.bool F1.fe,Q1]) x9 func135 I (.cons (.many (cs:=[.bool F1.fe,Q1]) I I (p4.memA .t11)) .nil) I<|bk h fun K4 v0d h=>Bz (.tuple #[.agg ((ae K4.1)).toArray,vI K4.2]) (bd 69) I (e1 I) (fun p q=>aT_c n (p4.hL0 hL q) F1 (p4.kd (AB M6 (Tt X8 (Tt p07 (Tt q07 (Tt s07 (Tt t07 u07)))))) q) v0d) I<|Ac (Al I I)<|Ac (Al I I)<|Bl (ae K4.1) p4 (.tl (.tl (.tl (.tl (.tl (.tl (.tl (.tl (.tl (.tl (.tl (.tl (.tl (.tl .hd)))))))))))))) (aC I) fun K0m d8 q0i=>Af I<|Aa<|Ap I<|Aw hb0 func124 I (.cons (.many (cs:=(ae K4.1)) I I (d8.memA (.tl (.tl (.tl (.tl (.tl (.tl (.tl (.tl (.tl (.tl (.tl (.tl (.tl (.tl .hd)))))))))))))))) (.cons (.tmp I) .nil)) I ?_
 cases h
 exact d8.gv
 refine Am<|Ai<|Ae<|Ab I<|Ac (AW (i:=U0) (j:=1) I I (by omega))<|Af I<|Aa<|Aq ?_
 obtain ⟨J0j,x0a,A09⟩:=ai h
 refine MX.lf (α:=Nat×(Lb (Lb Tb))×(Lb (GZ Tb))) (fun ⟨k1,j2,v2⟩=>[(0,(.slice (some ⟨j0,0,none⟩) ((b0.length:Nat):Int).toNat ((b0.length:Nat):Int).toNat)),(2,vP Q0),(3,vP R0),(11,vn b1.length),(12,vn U0),(4,vn U0),(5,vn k1)]) (fun ⟨k1,j2,v2⟩=>(.cells R0 [.bool F0,I0] 119::.cells Q0 [.bool false,vN] 119::.obj P0 (.deferred (some []))::.cells G0 [vI a0.fN,v0_1] 32::.cells E0 [vU a1] 44::.cells K0 [.func (.func 150) #[] #[vP d0,vP p0]] 237::.cells p0 [(.slice (some ⟨j0,0,none⟩) ((b0.length:Nat):Int).toNat ((b0.length:Nat):Int).toNat)] 235::rr w 236 (Lb Tb) (.slice (some ⟨j0,0,none⟩) ((b0.length:Nat):Int).toNat ((b0.length:Nat):Int).toNat) t0.length y0::.cells B0 [.func (.func 149) #[c0] #[]] 94::.cells d0 [.map (some g0)] 127::.obj g0 (ab (b0:Lb (Int×Int)))::.obj D0 (.deferred (some []))::rr w 3 Int c0 q0.length s0::.cells x0 [.bool false,vN] 119::.cells v0 [.map none] 226::.cells u0 [vI a0.fN,v0_1] 32::.cells A0 zP 46::.cells z0 [vI a0.fN,v0_1] 32::(gJ w.heap.size 119 v2++[]))) (fun ⟨k1,j2,v2⟩ I02=>GG I02 (bl (.cells R0 [.bool F0,I0] 119::.cells Q0 [.bool false,vN] 119::.obj P0 (.deferred (some []))::.cells G0 [vI a0.fN,v0_1] 32::.cells E0 [vU a1] 44::.cells K0 [.func (.func 150) #[] #[vP d0,vP p0]] 237::.cells p0 [(.slice (some ⟨j0,0,none⟩) ((b0.length:Nat):Int).toNat ((b0.length:Nat):Int).toNat)] 235::rr w 236 (Lb Tb) (.slice (some ⟨j0,0,none⟩) ((b0.length:Nat):Int).toNat ((b0.length:Nat):Int).toNat) t0.length y0::.cells B0 [.func (.func 149) #[c0] #[]] 94::.cells d0 [.map (some g0)] 127::.obj g0 (ab (b0:Lb (Int×Int)))::.obj D0 (.deferred (some []))::rr w 3 Int c0 q0.length s0::.cells x0 [.bool false,vN] 119::.cells v0 [.map none] 226::.cells u0 [vI a0.fN,v0_1] 32::.cells A0 zP 46::.cells z0 [vI a0.fN,v0_1] 32::(gJ w.heap.size 119 v2++[]))++L) t0.length y0 j2 v2) (fun ⟨k1,j2,v2⟩=>(k1,j2)) (U0+1,F2,y1) x0a p2 hG54319 ?_
 rintro F0e ⟨k1,j2,v2⟩ I02 J04 q2 P5 hG71785 h
 unfold ae_l2 at h
 try dsimp only at h
 refine Ai<|Ae<|Ab I<|Ab I ?_
 obtain ⟨v0e,g0g,Z08,_⟩:=St.rowForm q2 (At.upd .t7)
 have D0i:=GG.short q2 hG71785 .t7
 refine Ac (FV.as (FV.lenV underlying235 I Z08) (GG.lenv hG71785))<|Ac (Bp (i:=k1) (j:=j2.length) I I)<|Aa<|AO I h (fun B04 h=>?_) (fun B04 h=>?_)
 refine Am<|Ai<|Aq<|Ae<|Ab I<|Ab I<|bk h fun B0n v0c h=>?_
 obtain ⟨y0k,J0h,X0e,j0g,W6,b09,F09,X09⟩:=St.g2Nth q2 hG71785 .t7 v0c
 refine Ac (AU 1 k1 I b09 I I F09)<|AG I (X09 0 _ I)<|Ab I<|bk h fun B1 x0c h=>?_
 obtain ⟨y03,k0g,u6,K00,K0h,y0b,Y09⟩:=BF (α:=Tb) q2 (.tl (.tl (.tl (.tl (.tl (.tl (.tl (.tl (.tl (.tl (.tl (.tl (.tl (.tl (.tl (.tl (.tl (.tl (At.gJ W6))))))))))))))))))) (GG.cells hG71785 W6) x0c
 obtain ⟨W03,p0g,c09⟩:=Bd (α:=Tb) q2 (.tl (.tl (.tl (.tl (.tl (.tl (.tl (.tl (.tl (.tl (.tl (.tl (.tl (.tl (.tl (.tl (.tl (.tl (At.gJ W6))))))))))))))))))) K00
 obtain rfl:y03=⟨W03,0,none⟩:=by rw [c09] at u6; cases u6; rfl
 obtain ⟨U1,rfl,z4⟩:=cx y0b
 refine Ac (AU 2 U0 I u6 I I K00)<|Ac (AP I Y09)<|RG.nl [.bool false,vN] q2 fun R0m C1 W05 K2=>Bl [.bool B1.fe,U1] W05 .hd (o2 I (Bs (AB z4 K2))) fun U0m X05 s3=>Aa<|Ae<|Ab I<|Af I<|Aa<|Aq ?_
 obtain ⟨K0j,y0a,B09⟩:=ai h
 refine MX.lf (α:=Nat×(Lb (Lb Tb))×(Lb (GZ Tb))) (fun ⟨A1,k2,g1⟩=>[(0,(.slice (some ⟨j0,0,none⟩) ((b0.length:Nat):Int).toNat ((b0.length:Nat):Int).toNat)),(2,vP Q0),(3,vP R0),(11,vn b1.length),(12,vn U0),(4,vn U0),(5,vn k1),(6,vP C1),(7,vn A1)]) (fun ⟨A1,k2,g1⟩=>(.cells C1 [.bool B1.fe,U1] 119::.cells R0 [.bool F0,I0] 119::.cells Q0 [.bool false,vN] 119::.obj P0 (.deferred (some []))::.cells G0 [vI a0.fN,v0_1] 32::.cells E0 [vU a1] 44::.cells K0 [.func (.func 150) #[] #[vP d0,vP p0]] 237::.cells p0 [(.slice (some ⟨j0,0,none⟩) ((b0.length:Nat):Int).toNat ((b0.length:Nat):Int).toNat)] 235::rr w 236 (Lb Tb) (.slice (some ⟨j0,0,none⟩) ((b0.length:Nat):Int).toNat ((b0.length:Nat):Int).toNat) t0.length y0::.cells B0 [.func (.func 149) #[c0] #[]] 94::.cells d0 [.map (some g0)] 127::.obj g0 (ab (b0:Lb (Int×Int)))::.obj D0 (.deferred (some []))::rr w 3 Int c0 q0.length s0::.cells x0 [.bool false,vN] 119::.cells v0 [.map none] 226::.cells u0 [vI a0.fN,v0_1] 32::.cells A0 zP 46::.cells z0 [vI a0.fN,v0_1] 32::(gJ w.heap.size 119 g1++[]))) (fun ⟨A1,k2,g1⟩ B4=>GG B4 (bl (.cells C1 [.bool B1.fe,U1] 119::.cells R0 [.bool F0,I0] 119::.cells Q0 [.bool false,vN] 119::.obj P0 (.deferred (some []))::.cells G0 [vI a0.fN,v0_1] 32::.cells E0 [vU a1] 44::.cells K0 [.func (.func 150) #[] #[vP d0,vP p0]] 237::.cells p0 [(.slice (some ⟨j0,0,none⟩) ((b0.length:Nat):Int).toNat ((b0.length:Nat):Int).toNat)] 235::rr w 236 (Lb Tb) (.slice (some ⟨j0,0,none⟩) ((b0.length:Nat):Int).toNat ((b0.length:Nat):Int).toNat) t0.length y0::.cells B0 [.func (.func 149) #[c0] #[]] 94::.cells d0 [.map (some g0)] 127::.obj g0 (ab (b0:Lb (Int×Int)))::.obj D0 (.deferred (some []))::rr w 3 Int c0 q0.length s0::.cells x0 [.bool false,vN] 119::.cells v0 [.map none] 226::.cells u0 [vI a0.fN,v0_1] 32::.cells A0 zP 46::.cells z0 [vI a0.fN,v0_1] 32::(gJ w.heap.size 119 g1++[]))++L) t0.length y0 k2 g1) (fun ⟨A1,k2,g1⟩=>(A1,k2)) (U0,j2,v2) y0a X05 (GG.mv hG71785 (Tt K2 s3)) ?_
 rintro G0e ⟨A1,k2,g1⟩ B4 K04 p1 u3 hG77597 h
 unfold ae_l1 at h
 try dsimp only at h
 refine Ai<|Ae<|Ab I<|Ab I ?_
 obtain ⟨x0e,q0g,d09,_⟩:=St.rowForm p1 (At.upd .t8)
 have E0i:=GG.short p1 hG77597 .t8
 refine Ac (FV.as (FV.lenV underlying235 I d09) (GG.lenv hG77597))<|Ac (Bp (i:=A1) (j:=k2.length) I I)<|Aa<|AO I h (fun C04 h=>?_) (fun C04 h=>?_)
 refine Am<|Ai<|Aq<|Ai<|du 26 fun M0 Z0=>Rv 0 M0 I Z0 (fun _=>Ah I)<|Rv 1 M0 I Z0 (fun _=>Ah I)<|bk h fun C0n X01 h=>?_
 obtain ⟨z0k,M0h,Y0e,s0g,X6,g09,G09,Z09⟩:=St.g2Nth p1 hG77597 .t8 X01
 refine Rv 2 M0 I Z0 (fun _=>AU 1 k1 I g09 I I G09)<|Rx 3 92291168 M0 I Z0 (Ay I (Z09 0 _ I))<|Rv 4 M0 I Z0 (fun _=>Ah I)<|bk h fun M02 Y01 h=>?_
 obtain ⟨z03,t0g,v6,M00,P0h,z0b,b0a⟩:=BF (α:=Tb) p1 (.tl (.tl (.tl (.tl (.tl (.tl (.tl (.tl (.tl (.tl (.tl (.tl (.tl (.tl (.tl (.tl (.tl (.tl (.tl (At.gJ X6)))))))))))))))))))) (GG.cells hG77597 X6) Y01
 obtain ⟨X03,u0g,j09⟩:=Bd (α:=Tb) p1 (.tl (.tl (.tl (.tl (.tl (.tl (.tl (.tl (.tl (.tl (.tl (.tl (.tl (.tl (.tl (.tl (.tl (.tl (.tl (At.gJ X6)))))))))))))))))))) M00
 obtain rfl:z03=⟨X03,0,none⟩:=by rw [j09] at v6; cases v6; rfl
 obtain ⟨A0k,rfl,G01⟩:=cx z0b
 refine Rv 5 M0 I Z0 (fun _=>AU 2 A1 I v6 I I M00)<|Rx 6 92291072 M0 I Z0 (AP I b0a)<|Rv 7 M0 I Z0 (fun _=>Ah I)<|Rv 8 M0 I Z0 (fun _=>Ah I)<|bk h fun D0n y0c h=>?_
 obtain ⟨B0k,Q0h,Z0e,v0g,W3,V9,P00,u01⟩:=St.g2Nth p1 hG77597 .t8 y0c
 refine Rv 9 M0 I Z0 (fun _=>AU 1 U0 I V9 I I P00) ?_
 have D9:=GG.cells hG77597 W3
 refine Rx 10 92303360 M0 I Z0 (Ay I (u01 0 _ I))<|Rv 11 M0 I Z0 (fun _=>Ah I)<|bk h fun P02 z0c h=>?_
 obtain ⟨A03,x0g,x6,Q00,R0h,A0b,c0a⟩:=BF (α:=Tb) p1 (.tl (.tl (.tl (.tl (.tl (.tl (.tl (.tl (.tl (.tl (.tl (.tl (.tl (.tl (.tl (.tl (.tl (.tl (.tl (At.gJ W3)))))))))))))))))))) D9 z0c
 obtain ⟨Y03,y0g,k09⟩:=Bd (α:=Tb) p1 (.tl (.tl (.tl (.tl (.tl (.tl (.tl (.tl (.tl (.tl (.tl (.tl (.tl (.tl (.tl (.tl (.tl (.tl (.tl (At.gJ W3)))))))))))))))))))) Q00
 obtain rfl:A03=⟨Y03,0,none⟩:=by rw [k09] at x6; cases x6; rfl
 obtain ⟨C0k,rfl,H01⟩:=cx A0b
 refine Rv 12 M0 I Z0 (fun _=>AU 2 U0 I x6 I I Q00)<|Rx 13 92291072 M0 I Z0 (AP I c0a)<|Rx 15 92274688 M0 I Z0 (AP I (p1.memA .hd))<|Rv 16 M0 I Z0 (fun _=>Ah I)<|Rv 17 M0 I Z0 (fun _=>Ah I)<|Rv 18 M0 I Z0 (fun _=>AU 1 U0 I V9 I I P00)<|Rx 19 98566144 M0 I Z0 (Ay I (u01 0 _ I))<|Rv 20 M0 I Z0 (fun _=>Ah I)<|bk h fun C4 A0c h=>?_
 obtain ⟨B03,z0g,y6,R00,U0h,B0b,d0a⟩:=BF (α:=Tb) p1 (.tl (.tl (.tl (.tl (.tl (.tl (.tl (.tl (.tl (.tl (.tl (.tl (.tl (.tl (.tl (.tl (.tl (.tl (.tl (At.gJ W3)))))))))))))))))))) D9 A0c
 obtain ⟨Z03,A0g,p09⟩:=Bd (α:=Tb) p1 (.tl (.tl (.tl (.tl (.tl (.tl (.tl (.tl (.tl (.tl (.tl (.tl (.tl (.tl (.tl (.tl (.tl (.tl (.tl (At.gJ W3)))))))))))))))))))) R00
 obtain rfl:B03=⟨Z03,0,none⟩:=by rw [p09] at y6; cases y6; rfl
 obtain ⟨C0d,rfl,P6⟩:=cx B0b
 refine Rv 21 M0 I Z0 (fun _=>AU 2 A1 I y6 I I R00)<|Rx 22 92274688 M0 I Z0 (AP I d0a)<|bk h fun E2 b02 h=>bk h fun C3 U6 h=>bk h fun M4 A4 h=>RD.mf (α:=Vc×Nat) (fun ⟨A3,Z2⟩=>[(0,(.slice (some ⟨j0,0,none⟩) ((b0.length:Nat):Int).toNat ((b0.length:Nat):Int).toNat)),(2,vP Q0),(3,vP R0),(11,vn b1.length),(12,vn U0),(4,vn U0),(5,vn k1),(6,vP C1),(7,vn A1),(8,vP Z2),(71,.agg #[.bool M4.fe,A3])]) (fun ⟨A3,Z2⟩=>(.cells Z2 [.bool false,vN] 119::.cells C1 [.bool B1.fe,U1] 119::.cells R0 [.bool F0,I0] 119::.cells Q0 [.bool false,vN] 119::.obj P0 (.deferred (some []))::.cells G0 [vI a0.fN,v0_1] 32::.cells E0 [vU a1] 44::.cells K0 [.func (.func 150) #[] #[vP d0,vP p0]] 237::.cells p0 [(.slice (some ⟨j0,0,none⟩) ((b0.length:Nat):Int).toNat ((b0.length:Nat):Int).toNat)] 235::rr w 236 (Lb Tb) (.slice (some ⟨j0,0,none⟩) ((b0.length:Nat):Int).toNat ((b0.length:Nat):Int).toNat) t0.length y0::.cells B0 [.func (.func 149) #[c0] #[]] 94::.cells d0 [.map (some g0)] 127::.obj g0 (ab (b0:Lb (Int×Int)))::.obj D0 (.deferred (some []))::rr w 3 Int c0 q0.length s0::.cells x0 [.bool false,vN] 119::.cells v0 [.map none] 226::.cells u0 [vI a0.fN,v0_1] 32::.cells A0 zP 46::.cells z0 [vI a0.fN,v0_1] 32::(gJ w.heap.size 119 g1++[]))) (fun ⟨A3,Z2⟩ K02=>Rep.R K02 (bl (.cells Z2 [.bool false,vN] 119::.cells C1 [.bool B1.fe,U1] 119::.cells R0 [.bool F0,I0] 119::.cells Q0 [.bool false,vN] 119::.obj P0 (.deferred (some []))::.cells G0 [vI a0.fN,v0_1] 32::.cells E0 [vU a1] 44::.cells K0 [.func (.func 150) #[] #[vP d0,vP p0]] 237::.cells p0 [(.slice (some ⟨j0,0,none⟩) ((b0.length:Nat):Int).toNat ((b0.length:Nat):Int).toNat)] 235::rr w 236 (Lb Tb) (.slice (some ⟨j0,0,none⟩) ((b0.length:Nat):Int).toNat ((b0.length:Nat):Int).toNat) t0.length y0::.cells B0 [.func (.func 149) #[c0] #[]] 94::.cells d0 [.map (some g0)] 127::.obj g0 (ab (b0:Lb (Int×Int)))::.obj D0 (.deferred (some []))::rr w 3 Int c0 q0.length s0::.cells x0 [.bool false,vN] 119::.cells v0 [.map none] 226::.cells u0 [vI a0.fN,v0_1] 32::.cells A0 zP 46::.cells z0 [vI a0.fN,v0_1] 32::(gJ w.heap.size 119 g1++[]))++L) [A3] M4.fk) p1 1 67108863 ?_ ?_
 rintro ⟨A3,Z2⟩ K02 c06 U5 M01
 try dsimp only
 refine BC 26 134217727 M0 I I .plain (Az (news:=[.bool M4.fe,A3]) c06 .hd I I I I I I (o2 I (Bs M01))) fun Z0m I3 x4=>AQ (dk M0)<|du 12 fun D1 c2=>Rv 0 D1 I c2 (fun _=>Ah I)<|Rv 1 D1 I c2 (fun _=>Ah I) ?_
 have v01:=GG.mv hG77597 (Tt U5 x4)
 obtain ⟨k7,V0h,b0f,B0g,X3,q09,H09,g0a⟩:=St.g2Nth I3 v01 .t9 X01
 refine Rv 2 D1 I c2 (fun _=>AU 1 k1 I q09 I I H09) ?_
 have E08:=GG.cells v01 X3
 refine Rx 3 6144 D1 I c2 (Ay I (g0a 0 _ I))<|Rv 4 D1 I c2 (fun _=>Ah I)<|Rx 5 8064 D1 I c2 (AP I (I3.memA .hd))<|Rx 6 8064 D1 I c2 (AP I (I3.memA .t2))<|bk h fun b03 x0d h=>BQ 7 255 D1 I .plain (bd 112) I (e2 I I) (fun p q=>ba_c n (I3.hL hL q) M4 (Ax (AB M01 x4) q) (⟨F0,D2⟩:Tb) (Ax (AB y4 (Tt P5 (Tt K2 (Tt s3 (Tt u3 (Tt U5 x4)))))) q) x0d) I fun b0n k0l Z07 ⟨E0k,F0k,hu_,G0b,A0j⟩=>?_
 subst hu_
 obtain ⟨B5,d9⟩:=I3.agr Z07
 refine Rv 8 D1 I c2 (fun _=>Ah I)<|Rv 9 D1 I c2 (fun _=>Al I I)<|Rv 10 D1 I c2 (fun _=>Al I I) ?_
 have x01:=Ar E08 d9
 obtain ⟨C03,C0g,z6,U00,W0h,H0b,P0i⟩:=BF (α:=Tb) B5 (.tl (.tl (.tl (.tl (.tl (.tl (.tl (.tl (.tl (.tl (.tl (.tl (.tl (.tl (.tl (.tl (.tl (.tl (.tl (.tl (At.gJ X3))))))))))))))))))))) x01 Y01
 obtain ⟨b04,D0g,W9⟩:=Bd (α:=Tb) B5 (.tl (.tl (.tl (.tl (.tl (.tl (.tl (.tl (.tl (.tl (.tl (.tl (.tl (.tl (.tl (.tl (.tl (.tl (.tl (.tl (At.gJ X3))))))))))))))))))))) U00
 obtain rfl:C03=⟨b04,0,none⟩:=by rw [W9] at z6; cases z6; rfl
 obtain ⟨G0k,rfl,B0j⟩:=cx H0b
 refine Rv 11 D1 I c2 (fun _=>AU 2 A1 I z6 I I U00)<|bk h fun I4 K0c h=>Bb (i:=12) (rk D1) (RO.acts (m' :=8191) (sk D1) I I .plain (BE (α:=Tb) (i:=A1) K0c B5 W9 (fun _=>(.tl (.tl (.tl (.tl (.tl (.tl (.tl (.tl (.tl (.tl (.tl (.tl (.tl (.tl (.tl (.tl (.tl (.tl (.tl (.tl (Upd.gJ X3)))))))))))))))))))))) x01 I I I I (gL b03.1.fe b03.1.fk G0b) I) (fun C02 ⟨Y4,j8,g9,F08⟩=>?_))
 have E01:=Tt U5 (Tt x4 d9)
 refine AQ (dk D1)<|Ao<|Ak<|Ab I<|Ac (AW (i:=A1) (j:=1) I I (by omega))<|Af I<|Aa ?_
 obtain ⟨d06,j9⟩:=qC j8 (qI (qI (qI (qI (qI (qI (qI (qI (qI (qI (qI (qI (qI (qI (qI (qI (qI (qI (qI (.drop .hd .rest))))))))))))))))))))
 exact K04 (A1+1,(k2.set k1 I4),(g1.set k1 ⟨k7,I4,Y4⟩)) d06 (Tt u3 (Tt E01 (Tt g9 j9))) (GG.mv (GG.set (GG.mv (GG.mv hG77597 E01) g9) X3 F08) j9) h
 intro j4
 refine RD.mf (α:=Vc×Vc) (fun ⟨b4,c4⟩=>[(0,(.slice (some ⟨j0,0,none⟩) ((b0.length:Nat):Int).toNat ((b0.length:Nat):Int).toNat)),(2,vP Q0),(3,vP R0),(11,vn b1.length),(12,vn U0),(4,vn U0),(5,vn k1),(6,vP C1),(7,vn A1),(61,.agg #[.bool E2.fe,b4]),(70,.agg #[.bool C3.fe,c4])]) (fun ⟨b4,c4⟩=>(.cells C1 [.bool B1.fe,U1] 119::.cells R0 [.bool F0,I0] 119::.cells Q0 [.bool false,vN] 119::.obj P0 (.deferred (some []))::.cells G0 [vI a0.fN,v0_1] 32::.cells E0 [vU a1] 44::.cells K0 [.func (.func 150) #[] #[vP d0,vP p0]] 237::.cells p0 [(.slice (some ⟨j0,0,none⟩) ((b0.length:Nat):Int).toNat ((b0.length:Nat):Int).toNat)] 235::rr w 236 (Lb Tb) (.slice (some ⟨j0,0,none⟩) ((b0.length:Nat):Int).toNat ((b0.length:Nat):Int).toNat) t0.length y0::.cells B0 [.func (.func 149) #[c0] #[]] 94::.cells d0 [.map (some g0)] 127::.obj g0 (ab (b0:Lb (Int×Int)))::.obj D0 (.deferred (some []))::rr w 3 Int c0 q0.length s0::.cells x0 [.bool false,vN] 119::.cells v0 [.map none] 226::.cells u0 [vI a0.fN,v0_1] 32::.cells A0 zP 46::.cells z0 [vI a0.fN,v0_1] 32::(gJ w.heap.size 119 g1++[]))) (fun ⟨b4,c4⟩ v7=>Rep.R v7 (bl (.cells C1 [.bool B1.fe,U1] 119::.cells R0 [.bool F0,I0] 119::.cells Q0 [.bool false,vN] 119::.obj P0 (.deferred (some []))::.cells G0 [vI a0.fN,v0_1] 32::.cells E0 [vU a1] 44::.cells K0 [.func (.func 150) #[] #[vP d0,vP p0]] 237::.cells p0 [(.slice (some ⟨j0,0,none⟩) ((b0.length:Nat):Int).toNat ((b0.length:Nat):Int).toNat)] 235::rr w 236 (Lb Tb) (.slice (some ⟨j0,0,none⟩) ((b0.length:Nat):Int).toNat ((b0.length:Nat):Int).toNat) t0.length y0::.cells B0 [.func (.func 149) #[c0] #[]] 94::.cells d0 [.map (some g0)] 127::.obj g0 (ab (b0:Lb (Int×Int)))::.obj D0 (.deferred (some []))::rr w 3 Int c0 q0.length s0::.cells x0 [.bool false,vN] 119::.cells v0 [.map none] 226::.cells u0 [vI a0.fN,v0_1] 32::.cells A0 zP 46::.cells z0 [vI a0.fN,v0_1] 32::(gJ w.heap.size 119 g1++[]))++L) [b4] E2.fk/\Rep.R v7 (bl (.cells C1 [.bool B1.fe,U1] 119::.cells R0 [.bool F0,I0] 119::.cells Q0 [.bool false,vN] 119::.obj P0 (.deferred (some []))::.cells G0 [vI a0.fN,v0_1] 32::.cells E0 [vU a1] 44::.cells K0 [.func (.func 150) #[] #[vP d0,vP p0]] 237::.cells p0 [(.slice (some ⟨j0,0,none⟩) ((b0.length:Nat):Int).toNat ((b0.length:Nat):Int).toNat)] 235::rr w 236 (Lb Tb) (.slice (some ⟨j0,0,none⟩) ((b0.length:Nat):Int).toNat ((b0.length:Nat):Int).toNat) t0.length y0::.cells B0 [.func (.func 149) #[c0] #[]] 94::.cells d0 [.map (some g0)] 127::.obj g0 (ab (b0:Lb (Int×Int)))::.obj D0 (.deferred (some []))::rr w 3 Int c0 q0.length s0::.cells x0 [.bool false,vN] 119::.cells v0 [.map none] 226::.cells u0 [vI a0.fN,v0_1] 32::.cells A0 zP 46::.cells z0 [vI a0.fN,v0_1] 32::(gJ w.heap.size 119 g1++[]))++L) [c4] C3.fk) p1 3 16777215 ?_ ?_
 rintro ⟨b4,c4⟩ v7 A5 c9 ⟨J01,K01⟩
 try dsimp only
 refine Bc [24,25] (rk M0) ⟨?_,?_,trivial⟩
 refine RO.call (m' :=33554431) (fst:=[]) (cap:=[]) (sk M0) I .plain (bd 158) I (e2 I I) (fun p q=>bF_c n (A5.hL hL q) E2 (Ax J01 q) C3 (Ax K01 q) A4) I fun X0m g0l X07 ⟨E0d,hu_,E0b⟩=>?_
 subst hu_
 obtain ⟨Z05,x07⟩:=A5.agr X07
 refine RD.nu 25 67108863 M0 I .plain I (AF [.bool false,vN] Z05) fun s7 G2 s2 z1=>j4 (E0d,G2) s2 (Tt c9 (Tt x07 z1)) (AB E0b z1)
 refine BH (m' :=50331647) (sk M0) I .plain I (AF [.bool false,vN] A5) fun s7 G2 s2 z1=>?_
 have H6:=AB J01 z1
 refine BQ 24 67108863 M0 I .plain (bd 158) I (e2 I I) (fun p q=>bF_c n (s2.hL hL q) E2 (Ax H6 q) C3 (Ax (AB K01 z1) q) A4) I fun Y0m j0l Y07 ⟨F0d,hu_,F0b⟩=>?_
 subst hu_
 obtain ⟨b06,y07⟩:=s2.agr Y07
 exact j4 (F0d,G2) b06 (Tt c9 (Tt z1 y07)) F0b
 intro M04
 refine RD.mf (α:=Vc) (fun z3=>[(0,(.slice (some ⟨j0,0,none⟩) ((b0.length:Nat):Int).toNat ((b0.length:Nat):Int).toNat)),(2,vP Q0),(3,vP R0),(11,vn b1.length),(12,vn U0),(4,vn U0),(5,vn k1),(6,vP C1),(7,vn A1),(62,.agg #[.bool B1.fe,U1]),(69,.agg #[.bool C4.fe,C0d]),(61,.agg #[.bool E2.fe,z3])]) (fun z3=>(.cells C1 [.bool B1.fe,U1] 119::.cells R0 [.bool F0,I0] 119::.cells Q0 [.bool false,vN] 119::.obj P0 (.deferred (some []))::.cells G0 [vI a0.fN,v0_1] 32::.cells E0 [vU a1] 44::.cells K0 [.func (.func 150) #[] #[vP d0,vP p0]] 237::.cells p0 [(.slice (some ⟨j0,0,none⟩) ((b0.length:Nat):Int).toNat ((b0.length:Nat):Int).toNat)] 235::rr w 236 (Lb Tb) (.slice (some ⟨j0,0,none⟩) ((b0.length:Nat):Int).toNat ((b0.length:Nat):Int).toNat) t0.length y0::.cells B0 [.func (.func 149) #[c0] #[]] 94::.cells d0 [.map (some g0)] 127::.obj g0 (ab (b0:Lb (Int×Int)))::.obj D0 (.deferred (some []))::rr w 3 Int c0 q0.length s0::.cells x0 [.bool false,vN] 119::.cells v0 [.map none] 226::.cells u0 [vI a0.fN,v0_1] 32::.cells A0 zP 46::.cells z0 [vI a0.fN,v0_1] 32::(gJ w.heap.size 119 g1++[]))) (fun z3 J02=>Rep.R J02 (bl (.cells C1 [.bool B1.fe,U1] 119::.cells R0 [.bool F0,I0] 119::.cells Q0 [.bool false,vN] 119::.obj P0 (.deferred (some []))::.cells G0 [vI a0.fN,v0_1] 32::.cells E0 [vU a1] 44::.cells K0 [.func (.func 150) #[] #[vP d0,vP p0]] 237::.cells p0 [(.slice (some ⟨j0,0,none⟩) ((b0.length:Nat):Int).toNat ((b0.length:Nat):Int).toNat)] 235::rr w 236 (Lb Tb) (.slice (some ⟨j0,0,none⟩) ((b0.length:Nat):Int).toNat ((b0.length:Nat):Int).toNat) t0.length y0::.cells B0 [.func (.func 149) #[c0] #[]] 94::.cells d0 [.map (some g0)] 127::.obj g0 (ab (b0:Lb (Int×Int)))::.obj D0 (.deferred (some []))::rr w 3 Int c0 q0.length s0::.cells x0 [.bool false,vN] 119::.cells v0 [.map none] 226::.cells u0 [vI a0.fN,v0_1] 32::.cells A0 zP 46::.cells z0 [vI a0.fN,v0_1] 32::(gJ w.heap.size 119 g1++[]))++L) [z3] E2.fk) p1 4 8388607 ?_ ?_
 rintro z3 J02 z5 v3 I01
 try dsimp only
 refine Bc [23,25] (rk M0) ⟨?_,?_,trivial⟩
 have K6:=Tt K2 (Tt s3 (Tt u3 v3))
 have F6:=AB z4 K6
 have G6:=AB P6 v3
 refine RO.call (m' :=16777215) (fst:=[]) (cap:=[]) (sk M0) I .plain (bd 125) I (e2 I I) (fun p q=>ao_c n (z5.hL hL q) B1 (Ax F6 q) C4 (Ax G6 q) U6) I fun B02 p02 Q3 ⟨g7,hu_,V3⟩=>?_
 subst hu_
 obtain ⟨I2,A2⟩:=z5.agr Q3
 exact M04 (z3,g7) I2 (Tt v3 A2) ⟨(AB I01 A2),V3⟩
 refine BH (m' :=41943039) (sk M0) I .plain I (AF [.bool false,vN] z5) fun s7 G2 s2 z1=>?_
 have K6:=Tt K2 (Tt s3 (Tt u3 (Tt v3 z1)))
 have F6:=AB z4 K6
 have G6:=AB P6 (Tt v3 z1)
 refine BQ 23 50331647 M0 I .plain (bd 125) I (e2 I I) (fun p q=>ao_c n (s2.hL hL q) B1 (Ax F6 q) C4 (Ax G6 q) U6) I fun B02 p02 Q3 ⟨g7,hu_,V3⟩=>?_
 subst hu_
 obtain ⟨I2,A2⟩:=s2.agr Q3
 have H6:=AB I01 (Tt z1 A2)
 refine BQ 24 67108863 M0 I .plain (bd 158) I (e2 I I) (fun p q=>bF_c n (I2.hL hL q) E2 (Ax H6 q) C3 (Ax V3 q) A4) I fun J0d G0d W5 ⟨j7,hu_,Q6⟩=>?_
 subst hu_
 obtain ⟨y5,R5⟩:=I2.agr W5
 exact j4 (j7,G2) y5 (Tt v3 (Tt z1 (Tt A2 R5))) Q6
 intro P04
 refine Bc [14,25] (rk M0) ⟨?_,?_,trivial⟩
 refine RO.call (m' :=8388607) (fst:=[]) (cap:=[]) (sk M0) I .plain (bd 125) I (e2 I I) (fun p q=>ao_c n (p1.hL hL q) M02 (Ax G01 q) P02 (Ax H01 q) b02) I fun V0m c0l V07 ⟨D0d,hu_,C0b⟩=>?_
 subst hu_
 obtain ⟨Y05,v07⟩:=p1.agr V07
 exact P04 D0d Y05 v07 C0b
 refine BH (m' :=41926655) (sk M0) I .plain I (AF [.bool false,vN] p1) fun s7 G2 s2 z1=>BQ 14 41943039 M0 I .plain (bd 125) I (e2 I I) (fun p q=>ao_c n (s2.hL hL q) M02 (Ax (AB G01 z1) q) P02 (Ax (AB H01 z1) q) b02) I fun W0m d0l W07 ⟨D0k,hu_,D0b⟩=>?_
 subst hu_
 obtain ⟨g8,Q5⟩:=s2.agr W07
 refine BQ 23 50331647 M0 I .plain (bd 125) I (e2 I I) (fun p q=>ao_c n (g8.hL hL q) B1 (Ax (AB z4 (Tt K2 (Tt s3 (Tt u3 (Tt z1 Q5))))) q) C4 (Ax (AB P6 (Tt z1 Q5)) q) U6) I fun B02 p02 Q3 ⟨g7,hu_,V3⟩=>?_
 subst hu_
 obtain ⟨I2,A2⟩:=g8.agr Q3
 refine BQ 24 67108863 M0 I .plain (bd 158) I (e2 I I) (fun p q=>bF_c n (I2.hL hL q) E2 (Ax (AB D0b A2) q) C3 (Ax V3 q) A4) I fun J0d G0d W5 ⟨j7,hu_,Q6⟩=>?_
 subst hu_
 obtain ⟨y5,R5⟩:=I2.agr W5
 exact j4 (j7,G2) y5 (Tt z1 (Tt Q5 (Tt A2 R5))) Q6
 refine AT I ?_
 have h:=B09 _ h
 try dsimp only at h
 refine Ao<|Ak<|Ab I<|Ac (AW (i:=k1) (j:=1) I I (by omega))<|Af I<|Aa ?_
 obtain ⟨g06,k9⟩:=qC p1 (qI (qI (qI (qI (qI (qI (qI (qI (qI (qI (qI (qI (qI (qI (qI (qI (qI (qI (.drop .hd .rest)))))))))))))))))))
 exact J04 (k1+1,k2,g1) g06 (Tt P5 (Tt K2 (Tt s3 (Tt u3 k9)))) (GG.mv hG77597 k9) h
 refine AT I ?_
 have h:=A09 _ h
 try dsimp only at h
 refine Ak<|Ab I<|Ab I<|bk h fun E0n B0c h=>?_
 obtain ⟨H0k,X0h,c0f,E0g,Y6,s09,I09,j0a⟩:=St.g2Nth q2 hG71785 .t7 B0c
 refine Ac (AU 1 U0 I s09 I I I09)<|AG I (j0a 0 _ I)<|Ab I<|bk h fun x7 C0c h=>?_
 obtain ⟨D03,F0g,A6,V00,Y0h,I0b,k0a⟩:=BF (α:=Tb) q2 (.tl (.tl (.tl (.tl (.tl (.tl (.tl (.tl (.tl (.tl (.tl (.tl (.tl (.tl (.tl (.tl (.tl (.tl (At.gJ Y6))))))))))))))))))) (GG.cells hG71785 Y6) C0c
 obtain ⟨c04,G0g,t09⟩:=Bd (α:=Tb) q2 (.tl (.tl (.tl (.tl (.tl (.tl (.tl (.tl (.tl (.tl (.tl (.tl (.tl (.tl (.tl (.tl (.tl (.tl (At.gJ Y6))))))))))))))))))) V00
 obtain rfl:D03=⟨c04,0,none⟩:=by rw [t09] at A6; cases A6; rfl
 obtain ⟨k02,rfl,P01⟩:=cx I0b
 refine Ac (AU 2 U0 I A6 I I V00)<|Ac (AP I k0a)<|Bl [.bool x7.fe,k02] q2 .hd (o2 I (Bs P01)) fun c0n j06 V5=>Aa<|Ao<|Ak<|Ac (AW (i:=U0) (j:=1) I I (by omega))<|Ab I<|Aa<|I04 (U0+1,x7.fe,x7.fk,j2,k02,v2) j06 (Tt k07 (Tt P5 V5)) ⟨(AB P01 V5),(GG.mv hG71785 V5)⟩ h
 refine AT I ?_
 have h:=bD h X9
 try dsimp only at h
 refine Ae<|Ac (AP I (p2.memA .hd))<|Bl [.bool F0,I0] p2 .t1 (o2 I (Bs y4)) fun d0n k8 p9=>Aa<|Ap I<|Aw (u:=.agg #[.bool F0,I0]) v9 func151 I (.cons (.many (cs:=[.bool F0,I0]) I I (k8.memA .t1)) .nil) I<|Bl [.bool F0,I0] k8 (.tl (.tl (.tl (.tl (.tl (.tl (.tl (.tl (.tl (.tl (.tl (.tl (.tl .hd))))))))))))) (o2 I (Bs (AB y4 p9))) fun g0n k06 z07=>Aa<|Ap I<|RT.take k06 .t2 fun D02 p8 A07=>?_
 obtain ⟨p06,B07⟩:=qC p8 (qH (qH (qI (qI (qI (qI (qI (qI (qI (qI (qI (qI (qI (qI (qI (qI (qI (.drop .hd .rest))))))))))))))))))
 refine RT.take p06 .t10 fun E02 q8 C07=>?_
 obtain ⟨q4,D07⟩:=qC q8 (qH (qH (qH (qH (qH (qH (qH (qH (qH (qH (qI (qI (qI (qI (qI (qI (.drop .hd .rest)))))))))))))))))
 refine Aw (u:=.agg #[.bool F0,I0]) x9 func135 I (.cons (.many (cs:=[.bool F0,I0]) I I (q4.memA .t11)) .nil) I<|bk h fun P4 y0d h=>Bz (.tuple #[.agg ((ae P4.1)).toArray,vI P4.2]) (bd 69) I (e1 I) (fun p q=>aT_c n (q4.hL0 hL q) (⟨F0,D2⟩:Tb) (q4.kd (AB y4 (Tt p9 (Tt z07 (Tt A07 (Tt B07 (Tt C07 D07)))))) q) y0d) I<|Ac (Al I I)<|Ac (Al I I)<|Bl (ae P4.1) q4 (.tl (.tl (.tl (.tl (.tl (.tl (.tl (.tl (.tl (.tl (.tl (.tl (.tl (.tl .hd)))))))))))))) (aC I) fun j0n s8 t0i=>Af I<|Aa<|Ap I<|Aw hb0 func124 I (.cons (.many (cs:=(ae P4.1)) I I (s8.memA (.tl (.tl (.tl (.tl (.tl (.tl (.tl (.tl (.tl (.tl (.tl (.tl (.tl (.tl .hd)))))))))))))))) (.cons (.tmp I) .nil)) I ?_
 cases h
 exact s8.gv
 refine Ae<|Ac (Bj (vs:=[]) (u:=.agg zQ) aB (fun p=>by kernel_rfl))<|Ab I<|Bl zP j3 .hd (aC I) fun k0n v8 u0i=>Af I<|Aa<|Ap I<|Aw hb0 func124 I (.cons (.many (cs:=zP) I I (v8.memA .hd)) (.cons (.tmp I) .nil)) I ?_
 cases h
 exact v8.gv
end Go.Proofs.YtkimkkgicmipbaaGreatDoor
