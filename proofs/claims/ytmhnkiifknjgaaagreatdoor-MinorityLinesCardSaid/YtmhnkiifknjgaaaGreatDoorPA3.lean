import Derived.Test.YtmhnkiifknjgaaaGreatDoorProg
import Derived.Test.YtmhnkiifknjgaaaGreatDoorPMc
namespace Go.Proofs.YtmhnkiifknjgaaaGreatDoor
open Go Go.RowKit Tryz
set_option maxRecDepth 4000
set_option maxHeartbeats 4000000
abbrev Cl := Calls Tryz.prog
theorem bd (k:Nat) (h:bq Tryz.prog k = true:=by kernel_rfl):bq Tryz.prog k = true:=h

structure Ta where
  fN:U8
  fD:U8
  deriving DecidableEq
instance:Rep Ta:=Rep.via (β:=(U8) × (U8)) fun x=>(x.fN,x.fD)
structure Ttold where
  fK:Ta
  fL:Ta
  deriving DecidableEq
instance:Rep Ttold:=Rep.via (β:=Ta × Ta) fun x=>(x.fK,x.fL)
structure Tc where
  fE:Int
  deriving DecidableEq
instance:Rep Tc:=Rep.via (β:=Int) fun x=>x.fE
def aa (x:Ta):La Vc:=[vU x.fN.1,vU x.fN.2.1,vU x.fN.2.2.1,vU x.fN.2.2.2.1,vU x.fN.2.2.2.2.1,vU x.fN.2.2.2.2.2.1,vU x.fN.2.2.2.2.2.2.1,vU x.fN.2.2.2.2.2.2.2,vU x.fD.1,vU x.fD.2.1,vU x.fD.2.2.1,vU x.fD.2.2.2.1,vU x.fD.2.2.2.2.1,vU x.fD.2.2.2.2.2.1,vU x.fD.2.2.2.2.2.2.1,vU x.fD.2.2.2.2.2.2.2]
def cB (x:Ttold):La Vc:=[vU x.fK.fN.1,vU x.fK.fN.2.1,vU x.fK.fN.2.2.1,vU x.fK.fN.2.2.2.1,vU x.fK.fN.2.2.2.2.1,vU x.fK.fN.2.2.2.2.2.1,vU x.fK.fN.2.2.2.2.2.2.1,vU x.fK.fN.2.2.2.2.2.2.2,vU x.fK.fD.1,vU x.fK.fD.2.1,vU x.fK.fD.2.2.1,vU x.fK.fD.2.2.2.1,vU x.fK.fD.2.2.2.2.1,vU x.fK.fD.2.2.2.2.2.1,vU x.fK.fD.2.2.2.2.2.2.1,vU x.fK.fD.2.2.2.2.2.2.2,vU x.fL.fN.1,vU x.fL.fN.2.1,vU x.fL.fN.2.2.1,vU x.fL.fN.2.2.2.1,vU x.fL.fN.2.2.2.2.1,vU x.fL.fN.2.2.2.2.2.1,vU x.fL.fN.2.2.2.2.2.2.1,vU x.fL.fN.2.2.2.2.2.2.2,vU x.fL.fD.1,vU x.fL.fD.2.1,vU x.fL.fD.2.2.1,vU x.fL.fD.2.2.2.1,vU x.fL.fD.2.2.2.2.1,vU x.fL.fD.2.2.2.2.2.1,vU x.fL.fD.2.2.2.2.2.2.1,vU x.fL.fD.2.2.2.2.2.2.2]
def al_p (_n:Nat) (a0:Ta) (a1:Int):Oa (Except Tc Ta):=
  (if a1 = 0 then some (.ok a0) else some (.error (⟨a1⟩:Tc)))
theorem al_c (n:Nat) {L w} (_hL:hl L w) (a0:Ta) {a1:Int}  {r:Except Tc Ta} (h:al_p n a0 a1 = some r) :
 Cl 56 #[.agg ((aa a0)).toArray,vI a1] w (aK w (fun (y:Ta) _ u=>u = .agg ((aa y)).toArray) (fun e=>.iface 115 (.agg #[vI e.fE])) r):=by
 unfold al_p at h
 refine BV func56 I I I fun _ cs0 hb0 hp0=>Ac<|RG.bx (AD w) I I fun t0 j0 g0 p0=>RG.nl ae g0 fun u0 k0 b0 q0=>Aa<|Aj<|Ac<|Ae I<|Ab (FV.neq (i:=a1) (j:=0) I I)<|Aa<|MX.ifn I h (fun d0 h=>?_) (fun d0 h=>?_)
 refine Az<|Ac<|Ab (AC I (b0.memA .t1))<|AW (aa a0) b0 .hd (ai I) fun v0 c0 s0=>Aa<|Ao I<|Au hb0 func56 I (.cons (.many (cs:=(aa a0)) I I (c0.memA .hd)) .nil) I ?_
 cases h
 exact ⟨c0.ag,fun w9 hw9=>aD I⟩
 refine Av<|Ae I<|Ab (AP (vs:=[vI a1]) (u:=.agg #[vI a1]) (e1 I) (fun w9=>by kernel_rfl))<|Ab (BO I I)<|RG.panic .plain I ?_
 cases h
 exact AE hp0 func56 ⟨b0.ag,I⟩
def am (x:U8):La Vc:=[vU x.1,vU x.2.1,vU x.2.2.1,vU x.2.2.2.1,vU x.2.2.2.2.1,vU x.2.2.2.2.2.1,vU x.2.2.2.2.2.2.1,vU x.2.2.2.2.2.2.2]
def bF_p (_n:Nat) (a0:U8) (a1:U8):Oa ((U8) × Ua):=
  (sub64 a0.1 a1.1 (0:Ua)).bind fun b0=>(sub64 a0.2.1 a1.2.1 b0.2).bind fun c0=>(sub64 a0.2.2.1 a1.2.2.1 c0.2).bind fun d0=>(sub64 a0.2.2.2.1 a1.2.2.2.1 d0.2).bind fun g0=>(sub64 a0.2.2.2.2.1 a1.2.2.2.2.1 g0.2).bind fun j0=>(sub64 a0.2.2.2.2.2.1 a1.2.2.2.2.2.1 j0.2).bind fun k0=>(sub64 a0.2.2.2.2.2.2.1 a1.2.2.2.2.2.2.1 k0.2).bind fun p0=>(sub64 a0.2.2.2.2.2.2.2 a1.2.2.2.2.2.2.2 p0.2).bind fun q0=>some ((b0.1,c0.1,d0.1,g0.1,j0.1,k0.1,p0.1,q0.1),q0.2)
theorem bF_c (n:Nat) {L w} (_hL:hl L w) (a0:U8) (a1:U8)  {r:(U8) × Ua} (h:bF_p n a0 a1 = some r) :
 Cl 182 #[.agg ((am a0)).toArray,.agg ((am a1)).toArray] w (aj w fun _ u=>u = .tuple #[.agg ((am r.1)).toArray,vU r.2]):=by
 unfold bF_p at h
 refine AK func182 I I I fun _ cs0 hb0=>Ac<|RG.bx (AD w) I I fun J1 s1 Y0 x1=>RG.bx Y0 I I fun K1 u1 Z0 y1=>RG.nl zP Z0 fun M1 v1 J0 z1=>Ag I<|Aa<|Ac<|Ag I<|Aa<|Aj<|Ac<|Ae I<|Aa<|AF<|MX.loop1<|Ac<|Ab (BD (i:=0) (j:=8) I I)<|Aa<|Aj<|Bg I<|Az<|Aj<|AF<|Ac<|Ae I<|Ag I<|Aa<|du 13 fun d0 v0=>Rv 0 d0 I v0 (fun _=>Ak I)<|Rv 1 d0 I v0 (fun _=>Ak I)<|Rv 2 d0 I v0 (fun _=>Bc (m:=1) (k:=0) (len:=8) I I I I (by omega))<|Rx 3 32512 d0 I v0 (AN I ((J0.memA .t2) 0 _ I))<|Rv 4 d0 I v0 (fun _=>Ak I)<|Rv 5 d0 I v0 (fun _=>Bc (m:=1) (k:=0) (len:=8) I I I I (by omega))<|Rx 6 32512 d0 I v0 (AN I ((J0.memA .t1) 0 _ I))<|Rv 7 d0 I v0 (fun _=>Ak I)<|bk h fun b0 b1 h=>Rv 8 d0 I v0 (fun _=>FV.sub64 (a:=a0.1) (b:=a1.1) (c:=(0:Ua)) func185 I I I I I I I b1)<|Rv 9 d0 I v0 (fun _=>Ak I)<|Rv 10 d0 I v0 (fun _=>Ai I I) ?_
 refine Rv 11 d0 I v0 (fun _=>Ai I I)<|Rv 12 d0 I v0 (fun _=>Bc (m:=1) (k:=0) (len:=8) I I I I (by omega))<|Bv 13 16383 d0 I I .plain (Bs (j:=0) (old:=(am a0)) (news:=[vU b0.1]) (new' :=[vU b0.1,vU a0.2.1,vU a0.2.2.1,vU a0.2.2.2.1,vU a0.2.2.2.2.1,vU a0.2.2.2.2.2.1,vU a0.2.2.2.2.2.2.1,vU a0.2.2.2.2.2.2.2]) J0 .t2 I I I I I I (o1 I) I) fun P1 K0 A1=>Rv 14 d0 I v0 (fun _=>Bn I)<|AO (dk d0)<|AI<|Av<|Ab (FV.add (i:=0) (j:=1) (r:=1) I I (by decide))<|Ae I<|Aa<|MX.again1<|Ac<|Ab (BD (i:=1) (j:=8) I I)<|Aa<|Aj<|Bg I<|Az<|Aj<|AF<|Ac<|Ae I<|Ag I<|Aa<|du 13 fun g0 x0=>Rv 0 g0 I x0 (fun _=>Ak I)<|Rv 1 g0 I x0 (fun _=>Ak I)<|Rv 2 g0 I x0 (fun _=>Bc (m:=1) (k:=1) (len:=8) I I I I (by omega))<|Rx 3 32512 g0 I x0 (AN I ((K0.memA .t2) 1 _ I))<|Rv 4 g0 I x0 (fun _=>Ak I)<|Rv 5 g0 I x0 (fun _=>Bc (m:=1) (k:=1) (len:=8) I I I I (by omega))<|Rx 6 32512 g0 I x0 (AN I ((K0.memA .t1) 1 _ I))<|Rv 7 g0 I x0 (fun _=>Ak I)<|bk h fun c0 c1 h=>Rv 8 g0 I x0 (fun _=>FV.sub64 (a:=a0.2.1) (b:=a1.2.1) (c:=b0.2) func185 I I I I I I I c1)<|Rv 9 g0 I x0 (fun _=>Ak I)<|Rv 10 g0 I x0 (fun _=>Ai I I)<|Rv 11 g0 I x0 (fun _=>Ai I I)<|Rv 12 g0 I x0 (fun _=>Bc (m:=1) (k:=1) (len:=8) I I I I (by omega))<|Bv 13 16383 g0 I I .plain (Bs (j:=1) (old:=[vU b0.1,vU a0.2.1,vU a0.2.2.1,vU a0.2.2.2.1,vU a0.2.2.2.2.1,vU a0.2.2.2.2.2.1,vU a0.2.2.2.2.2.2.1,vU a0.2.2.2.2.2.2.2]) (news:=[vU c0.1]) (new' :=[vU b0.1,vU c0.1,vU a0.2.2.1,vU a0.2.2.2.1,vU a0.2.2.2.2.1,vU a0.2.2.2.2.2.1,vU a0.2.2.2.2.2.2.1,vU a0.2.2.2.2.2.2.2]) K0 .t2 I I I I I I (o1 I) I) fun Q1 M0 B1=>Rv 14 g0 I x0 (fun _=>Bn I)<|AO (dk g0)<|AI<|Av<|Ab (FV.add (i:=1) (j:=1) (r:=2) I I (by decide))<|Ae I<|Aa<|MX.again1<|Ac<|Ab (BD (i:=2) (j:=8) I I)<|Aa<|Aj ?_
 refine Bg I<|Az<|Aj<|AF<|Ac<|Ae I<|Ag I<|Aa<|du 13 fun j0 y0=>Rv 0 j0 I y0 (fun _=>Ak I)<|Rv 1 j0 I y0 (fun _=>Ak I)<|Rv 2 j0 I y0 (fun _=>Bc (m:=1) (k:=2) (len:=8) I I I I (by omega))<|Rx 3 32512 j0 I y0 (AN I ((M0.memA .t2) 2 _ I))<|Rv 4 j0 I y0 (fun _=>Ak I)<|Rv 5 j0 I y0 (fun _=>Bc (m:=1) (k:=2) (len:=8) I I I I (by omega))<|Rx 6 32512 j0 I y0 (AN I ((M0.memA .t1) 2 _ I))<|Rv 7 j0 I y0 (fun _=>Ak I)<|bk h fun u0 d1 h=>Rv 8 j0 I y0 (fun _=>FV.sub64 (a:=a0.2.2.1) (b:=a1.2.2.1) (c:=c0.2) func185 I I I I I I I d1)<|Rv 9 j0 I y0 (fun _=>Ak I)<|Rv 10 j0 I y0 (fun _=>Ai I I)<|Rv 11 j0 I y0 (fun _=>Ai I I)<|Rv 12 j0 I y0 (fun _=>Bc (m:=1) (k:=2) (len:=8) I I I I (by omega))<|Bv 13 16383 j0 I I .plain (Bs (j:=2) (old:=[vU b0.1,vU c0.1,vU a0.2.2.1,vU a0.2.2.2.1,vU a0.2.2.2.2.1,vU a0.2.2.2.2.2.1,vU a0.2.2.2.2.2.2.1,vU a0.2.2.2.2.2.2.2]) (news:=[vU u0.1]) (new' :=[vU b0.1,vU c0.1,vU u0.1,vU a0.2.2.2.1,vU a0.2.2.2.2.1,vU a0.2.2.2.2.2.1,vU a0.2.2.2.2.2.2.1,vU a0.2.2.2.2.2.2.2]) M0 .t2 I I I I I I (o1 I) I) fun R1 P0 C1=>Rv 14 j0 I y0 (fun _=>Bn I)<|AO (dk j0)<|AI<|Av<|Ab (FV.add (i:=2) (j:=1) (r:=3) I I (by decide))<|Ae I<|Aa<|MX.again1<|Ac<|Ab (BD (i:=3) (j:=8) I I)<|Aa<|Aj<|Bg I<|Az<|Aj<|AF<|Ac<|Ae I<|Ag I<|Aa<|du 13 fun k0 z0=>Rv 0 k0 I z0 (fun _=>Ak I)<|Rv 1 k0 I z0 (fun _=>Ak I)<|Rv 2 k0 I z0 (fun _=>Bc (m:=1) (k:=3) (len:=8) I I I I (by omega))<|Rx 3 32512 k0 I z0 (AN I ((P0.memA .t2) 3 _ I))<|Rv 4 k0 I z0 (fun _=>Ak I)<|Rv 5 k0 I z0 (fun _=>Bc (m:=1) (k:=3) (len:=8) I I I I (by omega)) ?_
 refine Rx 6 32512 k0 I z0 (AN I ((P0.memA .t1) 3 _ I))<|Rv 7 k0 I z0 (fun _=>Ak I)<|bk h fun E0 g1 h=>Rv 8 k0 I z0 (fun _=>FV.sub64 (a:=a0.2.2.2.1) (b:=a1.2.2.2.1) (c:=u0.2) func185 I I I I I I I g1)<|Rv 9 k0 I z0 (fun _=>Ak I)<|Rv 10 k0 I z0 (fun _=>Ai I I)<|Rv 11 k0 I z0 (fun _=>Ai I I)<|Rv 12 k0 I z0 (fun _=>Bc (m:=1) (k:=3) (len:=8) I I I I (by omega))<|Bv 13 16383 k0 I I .plain (Bs (j:=3) (old:=[vU b0.1,vU c0.1,vU u0.1,vU a0.2.2.2.1,vU a0.2.2.2.2.1,vU a0.2.2.2.2.2.1,vU a0.2.2.2.2.2.2.1,vU a0.2.2.2.2.2.2.2]) (news:=[vU E0.1]) (new' :=[vU b0.1,vU c0.1,vU u0.1,vU E0.1,vU a0.2.2.2.2.1,vU a0.2.2.2.2.2.1,vU a0.2.2.2.2.2.2.1,vU a0.2.2.2.2.2.2.2]) P0 .t2 I I I I I I (o1 I) I) fun U1 Q0 D1=>Rv 14 k0 I z0 (fun _=>Bn I)<|AO (dk k0)<|AI<|Av<|Ab (FV.add (i:=3) (j:=1) (r:=4) I I (by decide))<|Ae I<|Aa<|MX.again1<|Ac<|Ab (BD (i:=4) (j:=8) I I)<|Aa<|Aj<|Bg I<|Az<|Aj<|AF<|Ac<|Ae I<|Ag I<|Aa<|du 13 fun p0 A0=>Rv 0 p0 I A0 (fun _=>Ak I)<|Rv 1 p0 I A0 (fun _=>Ak I)<|Rv 2 p0 I A0 (fun _=>Bc (m:=1) (k:=4) (len:=8) I I I I (by omega))<|Rx 3 32512 p0 I A0 (AN I ((Q0.memA .t2) 4 _ I))<|Rv 4 p0 I A0 (fun _=>Ak I)<|Rv 5 p0 I A0 (fun _=>Bc (m:=1) (k:=4) (len:=8) I I I I (by omega))<|Rx 6 32512 p0 I A0 (AN I ((Q0.memA .t1) 4 _ I))<|Rv 7 p0 I A0 (fun _=>Ak I)<|bk h fun F0 j1 h=>Rv 8 p0 I A0 (fun _=>FV.sub64 (a:=a0.2.2.2.2.1) (b:=a1.2.2.2.2.1) (c:=E0.2) func185 I I I I I I I j1)<|Rv 9 p0 I A0 (fun _=>Ak I)<|Rv 10 p0 I A0 (fun _=>Ai I I)<|Rv 11 p0 I A0 (fun _=>Ai I I)<|Rv 12 p0 I A0 (fun _=>Bc (m:=1) (k:=4) (len:=8) I I I I (by omega))<|Bv 13 16383 p0 I I .plain (Bs (j:=4) (old:=[vU b0.1,vU c0.1,vU u0.1,vU E0.1,vU a0.2.2.2.2.1,vU a0.2.2.2.2.2.1,vU a0.2.2.2.2.2.2.1,vU a0.2.2.2.2.2.2.2]) (news:=[vU F0.1]) (new' :=[vU b0.1,vU c0.1,vU u0.1,vU E0.1,vU F0.1,vU a0.2.2.2.2.2.1,vU a0.2.2.2.2.2.2.1,vU a0.2.2.2.2.2.2.2]) Q0 .t2 I I I I I I (o1 I) I) fun V1 R0 E1=>?_
 refine Rv 14 p0 I A0 (fun _=>Bn I)<|AO (dk p0)<|AI<|Av<|Ab (FV.add (i:=4) (j:=1) (r:=5) I I (by decide))<|Ae I<|Aa<|MX.again1<|Ac<|Ab (BD (i:=5) (j:=8) I I)<|Aa<|Aj<|Bg I<|Az<|Aj<|AF<|Ac<|Ae I<|Ag I<|Aa<|du 13 fun q0 B0=>Rv 0 q0 I B0 (fun _=>Ak I)<|Rv 1 q0 I B0 (fun _=>Ak I)<|Rv 2 q0 I B0 (fun _=>Bc (m:=1) (k:=5) (len:=8) I I I I (by omega))<|Rx 3 32512 q0 I B0 (AN I ((R0.memA .t2) 5 _ I))<|Rv 4 q0 I B0 (fun _=>Ak I)<|Rv 5 q0 I B0 (fun _=>Bc (m:=1) (k:=5) (len:=8) I I I I (by omega))<|Rx 6 32512 q0 I B0 (AN I ((R0.memA .t1) 5 _ I))<|Rv 7 q0 I B0 (fun _=>Ak I)<|bk h fun G0 k1 h=>Rv 8 q0 I B0 (fun _=>FV.sub64 (a:=a0.2.2.2.2.2.1) (b:=a1.2.2.2.2.2.1) (c:=F0.2) func185 I I I I I I I k1)<|Rv 9 q0 I B0 (fun _=>Ak I)<|Rv 10 q0 I B0 (fun _=>Ai I I)<|Rv 11 q0 I B0 (fun _=>Ai I I)<|Rv 12 q0 I B0 (fun _=>Bc (m:=1) (k:=5) (len:=8) I I I I (by omega))<|Bv 13 16383 q0 I I .plain (Bs (j:=5) (old:=[vU b0.1,vU c0.1,vU u0.1,vU E0.1,vU F0.1,vU a0.2.2.2.2.2.1,vU a0.2.2.2.2.2.2.1,vU a0.2.2.2.2.2.2.2]) (news:=[vU G0.1]) (new' :=[vU b0.1,vU c0.1,vU u0.1,vU E0.1,vU F0.1,vU G0.1,vU a0.2.2.2.2.2.2.1,vU a0.2.2.2.2.2.2.2]) R0 .t2 I I I I I I (o1 I) I) fun W1 U0 F1=>Rv 14 q0 I B0 (fun _=>Bn I)<|AO (dk q0)<|AI<|Av<|Ab (FV.add (i:=5) (j:=1) (r:=6) I I (by decide))<|Ae I<|Aa<|MX.again1<|Ac<|Ab (BD (i:=6) (j:=8) I I)<|Aa<|Aj<|Bg I<|Az<|Aj<|AF<|Ac<|Ae I ?_
 refine Ag I<|Aa<|du 13 fun s0 C0=>Rv 0 s0 I C0 (fun _=>Ak I)<|Rv 1 s0 I C0 (fun _=>Ak I)<|Rv 2 s0 I C0 (fun _=>Bc (m:=1) (k:=6) (len:=8) I I I I (by omega))<|Rx 3 32512 s0 I C0 (AN I ((U0.memA .t2) 6 _ I))<|Rv 4 s0 I C0 (fun _=>Ak I)<|Rv 5 s0 I C0 (fun _=>Bc (m:=1) (k:=6) (len:=8) I I I I (by omega))<|Rx 6 32512 s0 I C0 (AN I ((U0.memA .t1) 6 _ I))<|Rv 7 s0 I C0 (fun _=>Ak I)<|bk h fun H0 p1 h=>Rv 8 s0 I C0 (fun _=>FV.sub64 (a:=a0.2.2.2.2.2.2.1) (b:=a1.2.2.2.2.2.2.1) (c:=G0.2) func185 I I I I I I I p1)<|Rv 9 s0 I C0 (fun _=>Ak I)<|Rv 10 s0 I C0 (fun _=>Ai I I)<|Rv 11 s0 I C0 (fun _=>Ai I I)<|Rv 12 s0 I C0 (fun _=>Bc (m:=1) (k:=6) (len:=8) I I I I (by omega))<|Bv 13 16383 s0 I I .plain (Bs (j:=6) (old:=[vU b0.1,vU c0.1,vU u0.1,vU E0.1,vU F0.1,vU G0.1,vU a0.2.2.2.2.2.2.1,vU a0.2.2.2.2.2.2.2]) (news:=[vU H0.1]) (new' :=[vU b0.1,vU c0.1,vU u0.1,vU E0.1,vU F0.1,vU G0.1,vU H0.1,vU a0.2.2.2.2.2.2.2]) U0 .t2 I I I I I I (o1 I) I) fun X1 V0 G1=>Rv 14 s0 I C0 (fun _=>Bn I)<|AO (dk s0)<|AI<|Av<|Ab (FV.add (i:=6) (j:=1) (r:=7) I I (by decide))<|Ae I<|Aa<|MX.again1<|Ac<|Ab (BD (i:=7) (j:=8) I I)<|Aa<|Aj<|Bg I<|Az<|Aj<|AF<|Ac<|Ae I<|Ag I<|Aa<|du 13 fun t0 D0=>Rv 0 t0 I D0 (fun _=>Ak I)<|Rv 1 t0 I D0 (fun _=>Ak I)<|Rv 2 t0 I D0 (fun _=>Bc (m:=1) (k:=7) (len:=8) I I I I (by omega))<|Rx 3 32512 t0 I D0 (AN I ((V0.memA .t2) 7 _ I))<|Rv 4 t0 I D0 (fun _=>Ak I)<|Rv 5 t0 I D0 (fun _=>Bc (m:=1) (k:=7) (len:=8) I I I I (by omega))<|Rx 6 32512 t0 I D0 (AN I ((V0.memA .t1) 7 _ I))<|Rv 7 t0 I D0 (fun _=>Ak I)<|bk h fun I0 q1 h=>Rv 8 t0 I D0 (fun _=>FV.sub64 (a:=a0.2.2.2.2.2.2.2) (b:=a1.2.2.2.2.2.2.2) (c:=H0.2) func185 I I I I I I I q1)<|Rv 9 t0 I D0 (fun _=>Ak I)<|Rv 10 t0 I D0 (fun _=>Ai I I) ?_
 refine Rv 11 t0 I D0 (fun _=>Ai I I)<|Rv 12 t0 I D0 (fun _=>Bc (m:=1) (k:=7) (len:=8) I I I I (by omega))<|Bv 13 16383 t0 I I .plain (Bs (j:=7) (old:=[vU b0.1,vU c0.1,vU u0.1,vU E0.1,vU F0.1,vU G0.1,vU H0.1,vU a0.2.2.2.2.2.2.2]) (news:=[vU I0.1]) (new' :=[vU b0.1,vU c0.1,vU u0.1,vU E0.1,vU F0.1,vU G0.1,vU H0.1,vU I0.1]) V0 .t2 I I I I I I (o1 I) I) fun Y1 W0 H1=>Rv 14 t0 I D0 (fun _=>Bn I)<|AO (dk t0)<|AI<|Av<|Ab (FV.add (i:=7) (j:=1) (r:=8) I I (by decide))<|Ae I<|Aa<|MX.again1<|Ac<|Ab (BD (i:=8) (j:=8) I I)<|Aa<|Aj<|BP I<|Bj I<|Ac<|Ab (AC I (W0.memA .t2))<|Ae I<|AW [vU b0.1,vU c0.1,vU u0.1,vU E0.1,vU F0.1,vU G0.1,vU H0.1,vU I0.1] W0 .hd (ai I) fun Z1 X0 I1=>Ag I<|Aa<|Ao I<|Au hb0 func182 I (.cons (.many (cs:=[vU b0.1,vU c0.1,vU u0.1,vU E0.1,vU F0.1,vU G0.1,vU H0.1,vU I0.1]) I I (X0.memA .hd)) (.cons (.tmp I) .nil)) I ?_
 cases h
 exact X0.gv
def bf_l1 (_n:Nat) (a0:U8) (a1:U8) (g0:Int -> Oa (Int ⊕ Unit)):Int -> Oa (Int ⊕ Unit)
  | b0=>(if 0 <= b0 then (idx ([a0.1,a0.2.1,a0.2.2.1,a0.2.2.2.1,a0.2.2.2.2.1,a0.2.2.2.2.2.1,a0.2.2.2.2.2.2.1,a0.2.2.2.2.2.2.2]:La Ua) b0).bind fun c0=>(idx ([a1.1,a1.2.1,a1.2.2.1,a1.2.2.2.1,a1.2.2.2.2.1,a1.2.2.2.2.2.1,a1.2.2.2.2.2.2.1,a1.2.2.2.2.2.2.2]:La Ua) b0).bind fun d0=>(if c0 = d0 then (chk (b0 - 1)).bind fun j0=>g0 j0 else (if c0 < d0 then some (.inl (-1:Int)) else some (.inl (1:Int)))) else some (.inr ()))
def bf_p (n:Nat) (a0:U8) (a1:U8):Oa Int:=
  thn (au (bf_l1 n a0 a1) n 7) (fun _=>some (0:Int))
theorem bf_c (n:Nat) {L w} (_hL:hl L w) (a0:U8) (a1:U8)  {r:Int} (h:bf_p n a0 a1 = some r) :
 Cl 197 #[.agg ((am a0)).toArray,.agg ((am a1)).toArray] w (aj w fun _ u=>u = vI r):=by
 unfold bf_p at h
 refine AK func197 I I I fun _ cs0 hb0=>Ac<|RG.bx (AD w) I I fun V0 p0 E0 Q0=>RG.bx E0 I I fun W0 q0 F0 R0=>Ag I<|Aa<|Aj<|Ac<|Ag I<|Aa<|AF<|tn h fun U0 H0 u0=>MX.lo (α:=Int) (fun b0=>[(2,vP p0),(3,vP q0),(5,vI b0)]) (fun b0=>[.cells q0 (am a1) 196,.cells p0 (am a0) 196]) (fun b0=>b0) 7 H0 F0 ?_
 rintro P0 b0 X0 D0 c0 G0 h
 unfold bf_l1 at h
 try dsimp only at h
 refine Aj<|Ac<|Ae I<|Ab (FV.geq (i:=b0) (j:=0) I I)<|Aa<|Be I h (fun A0 h=>?_) (fun A0 h=>?_)
 refine Az<|Aj<|AF<|Aj<|du 7 fun d0 j0=>Rv 0 d0 I j0 (fun _=>Ak I)<|bk h fun y0 J0 h=>?_
 obtain ⟨v0,s0⟩:=aL J0
 refine Rv 1 d0 I j0 (fun _=>Bc (m:=1) (k:=b0.toNat) (len:=8) I I I v0 (bp s0 I))<|Rx 2 64 d0 I j0 (AN I ((aS (p:=⟨p0,0,none⟩) (cs:=([a0.1,a0.2.1,a0.2.2.1,a0.2.2.2.1,a0.2.2.2.2.1,a0.2.2.2.2.2.1,a0.2.2.2.2.2.2.1,a0.2.2.2.2.2.2.2]:La Ua).map (fun z9:Ua=>(vU z9:Vc)) ++ []) (i:=b0.toNat) (c0.memA .t1) (bJ (fun z9:Ua=>(vU z9:Vc)) s0)) 0 _ I))<|Rv 3 d0 I j0 (fun _=>Ak I)<|bk h fun z0 K0 h=>?_
 obtain ⟨x0,t0⟩:=aL K0
 refine Rv 4 d0 I j0 (fun _=>Bc (m:=1) (k:=b0.toNat) (len:=8) I I I x0 (bp t0 I))<|Rx 5 64 d0 I j0 (AN I ((aS (p:=⟨q0,0,none⟩) (cs:=([a1.1,a1.2.1,a1.2.2.1,a1.2.2.2.1,a1.2.2.2.2.1,a1.2.2.2.2.2.1,a1.2.2.2.2.2.2.1,a1.2.2.2.2.2.2.2]:La Ua).map (fun z9:Ua=>(vU z9:Vc)) ++ []) (i:=b0.toNat) (c0.memA .hd) (bJ (fun z9:Ua=>(vU z9:Vc)) t0)) 0 _ I))<|Rv 6 d0 I j0 (fun _=>FV.neqU (a:=y0) (b:=z0) I I)<|AO (dk d0)<|MX.ifn I h (fun B0 h=>?_) (fun B0 h=>?_)
 refine Az<|AI<|Av<|Ae I<|bk h fun M0 I0 h=>Ab (FV.subc (i:=b0) (j:=1) I I I0)<|Ag I<|Aa<|D0 M0 c0 G0 h
 refine Aj<|Aj<|du 7 fun g0 k0=>Rv 0 g0 I k0 (fun _=>Ak I)<|Rv 1 g0 I k0 (fun _=>Bc (m:=1) (k:=b0.toNat) (len:=8) I I I v0 (bp s0 I))<|Rx 2 64 g0 I k0 (AN I ((aS (p:=⟨p0,0,none⟩) (cs:=([a0.1,a0.2.1,a0.2.2.1,a0.2.2.2.1,a0.2.2.2.2.1,a0.2.2.2.2.2.1,a0.2.2.2.2.2.2.1,a0.2.2.2.2.2.2.2]:La Ua).map (fun z9:Ua=>(vU z9:Vc)) ++ []) (i:=b0.toNat) (c0.memA .t1) (bJ (fun z9:Ua=>(vU z9:Vc)) s0)) 0 _ I))<|Rv 3 g0 I k0 (fun _=>Ak I)<|Rv 4 g0 I k0 (fun _=>Bc (m:=1) (k:=b0.toNat) (len:=8) I I I x0 (bp t0 I))<|Rx 5 64 g0 I k0 (AN I ((aS (p:=⟨q0,0,none⟩) (cs:=([a1.1,a1.2.1,a1.2.2.1,a1.2.2.2.1,a1.2.2.2.2.1,a1.2.2.2.2.2.1,a1.2.2.2.2.2.2.1,a1.2.2.2.2.2.2.2]:La Ua).map (fun z9:Ua=>(vU z9:Vc)) ++ []) (i:=b0.toNat) (c0.memA .hd) (bJ (fun z9:Ua=>(vU z9:Vc)) t0)) 0 _ I))<|Rv 6 g0 I k0 (fun _=>FV.lssU (a:=y0) (b:=z0) I I)<|AO (dk g0)<|Be I h (fun C0 h=>?_) (fun C0 h=>?_)
 refine Ac<|Ag I<|Aa ?_
 have h:=ar h u0
 refine Ao I<|Bi hb0 func197 I I ?_
 cases h
 exact c0.gv
 refine Az<|Ac<|Ag I<|Aa ?_
 have h:=ar h u0
 refine Ao I<|Bi hb0 func197 I I ?_
 cases h
 exact c0.gv
 refine Bj I ?_
 have h:=aI h u0
 try dsimp only at h
 refine Ac<|Ag I<|Aa<|Ao I<|Bi hb0 func197 I I ?_
 cases h
 exact c0.gv
structure Tm where
  fh:Bool
  fo:U8
  deriving DecidableEq
instance:Rep Tm:=Rep.via (β:=Bool × (U8)) fun x=>(x.fh,x.fo)
def ix (x:Tm):La Vc:=[.bool x.fh,vU x.fo.1,vU x.fo.2.1,vU x.fo.2.2.1,vU x.fo.2.2.2.1,vU x.fo.2.2.2.2.1,vU x.fo.2.2.2.2.2.1,vU x.fo.2.2.2.2.2.2.1,vU x.fo.2.2.2.2.2.2.2]
def cr_p (n:Nat) (a0:Tm):Oa ((U8) × Int):=
  (bf_p n a0.fo (0,0,0,0,0,0,0,9223372036854775808)).bind fun b0=>(if 0 < b0 then some ((0,0,0,0,0,0,0,0),(6:Int)) else (if b0 = 0 then (if a0.fh = true then (bF_p n (0,0,0,0,0,0,0,0) a0.fo).bind fun c0=>some (c0.1,(0:Int)) else some ((0,0,0,0,0,0,0,0),(6:Int))) else (if a0.fh = true then (bF_p n (0,0,0,0,0,0,0,0) a0.fo).bind fun d0=>some (d0.1,(0:Int)) else some (a0.fo,(0:Int)))))
theorem cr_c (n:Nat) {L w} (hL:hl L w) (a0:Tm)  {r:(U8) × Int} (h:cr_p n a0 = some r) :
 Cl 183 #[.agg ((ix a0)).toArray] w (aj w fun _ u=>u = .tuple #[.agg ((am r.1)).toArray,vI r.2]):=by
 unfold cr_p at h
 refine AK func183 I I I fun _ cs0 hb0=>Ac<|RG.bx (AD w) I I fun Z0 G0 A0 J0=>RG.nl zP A0 fun b1 H0 B0 K0=>Ag I<|Aa<|Ac<|Ab (AP (vs:=[vW 9223372036854775808]) (u:=.agg #[vW 0,vW 0,vW 0,vW 0,vW 0,vW 0,vW 0,vW 9223372036854775808]) (e1 I) (fun w9=>by kernel_rfl))<|RG.nl zP B0 fun c1 I0 C0 M0=>BU .plain (Ax (news:=[vW 0,vW 0,vW 0,vW 0,vW 0,vW 0,vW 0,vW 9223372036854775808]) C0 .hd I I I I I (.refl 8) (ai I)) fun d1 b0 P0=>Aa<|Aj<|Ac<|Ba 1 I<|Ab (Aq (cs:=(am a0.fo)) I I (ac (b0.memA .t2) 1 8))<|Ab (AC I (b0.memA .hd))<|bk h fun g0 D0 h=>Bm (vI g0) (bd 197) I (e2 I I) (fun w9 hw9=>bf_c n (b0.hL0 hL hw9) a0.fo (0,0,0,0,0,0,0,9223372036854775808) D0) I<|Ag I<|Aa<|Ac<|Ae I<|Ab (FV.gtr (i:=g0) (j:=0) I I)<|Ae I<|BG (s:=13) I h (fun x0 h=>?_) (fun x0 h=>?_)
 refine Aw<|Aw<|Aw<|RG.un<|RG.un<|RG.un<|Aw<|Bq I I<|Aa<|Bg I<|Ac<|Ab (AP (vs:=[]) (u:=.agg zQ) ak (fun w9=>by kernel_rfl))<|AW zP b0 .t1 (ai I) fun g1 k0 Q0=>Ag I<|Aa<|Ao I<|Au hb0 func183 I (.cons (.many (cs:=zP) I I (k0.memA .t1)) (.cons (.tmp I) .nil)) I ?_
 cases h
 exact k0.gv
 refine AH (Ak I)<|AH (FV.eql (i:=g0) (j:=0) I I)<|AH (Ak I)<|BG (s:=16) I h (fun y0 h=>?_) (fun y0 h=>?_)
 refine RG.fg 0 I<|AH (AN I ((b0.memA .t2) 0 _ I))<|AH (Bz I)<|AH (BY I I)<|By I I<|Aa<|MX.ifnb I h (fun j0 h=>?_) (fun j0 h=>?_)
 refine Az<|Aj<|Ac<|Ba 0 I<|AY I ((b0.memA .t2) 0 _ I)<|Aa<|MX.cond_kt I j0<|Av<|Ab (AP (vs:=[]) (u:=.agg zQ) ak (fun w9=>by kernel_rfl))<|Ba 1 I<|Ab (Aq (cs:=(am a0.fo)) I I (ac (b0.memA .t2) 1 8))<|bk h fun c0 E0 h=>Bm (.tuple #[.agg ((am c0.1)).toArray,vU c0.2]) (bd 182) I (e2 I I) (fun w9 hw9=>bF_c n (b0.hL0 hL hw9) (0,0,0,0,0,0,0,0) a0.fo E0) I<|Ae I<|Ab (Ai I I)<|Ab (Ai I I)<|Ba 1 I<|BU .plain (Bs (j:=1) (old:=(ix a0)) (news:=(am c0.1)) (new' :=(([.bool a0.fh]:La Vc) ++ am c0.1)) b0 .t2 I I I I I I (ai I) I) fun j1 p0 R0=>Aa<|Ac<|Ba 1 I<|Ab (Aq (cs:=(am c0.1)) I I (ac (p0.memA .t2) 1 8))<|AW (am c0.1) p0 .t1 (ai I) fun k1 q0 U0=>Ag I<|Aa<|Ao I<|Au hb0 func183 I (.cons (.many (cs:=(am c0.1)) I I (q0.memA .t1)) (.cons (.tmp I) .nil)) I ?_
 cases h
 exact q0.gv
 refine Ac<|Ab (AP (vs:=[]) (u:=.agg zQ) ak (fun w9=>by kernel_rfl))<|AW zP b0 .t1 (ai I) fun p1 s0 V0=>Ag I<|Aa<|Ao I<|Au hb0 func183 I (.cons (.many (cs:=zP) I I (s0.memA .t1)) (.cons (.tmp I) .nil)) I ?_
 cases h
 exact s0.gv
 refine Aw<|Aw<|Aw<|AH (BA I I)<|By I I<|Aa<|BP I<|Az<|Aj<|Ac<|Ba 0 I<|AY I ((b0.memA .t2) 0 _ I)<|Aa<|MX.ifb I h (fun z0 h=>?_) (fun z0 h=>?_)
 refine Av<|Ab (AP (vs:=[]) (u:=.agg zQ) ak (fun w9=>by kernel_rfl))<|Ba 1 I<|Ab (Aq (cs:=(am a0.fo)) I I (ac (b0.memA .t2) 1 8))<|bk h fun d0 F0 h=>Bm (.tuple #[.agg ((am d0.1)).toArray,vU d0.2]) (bd 182) I (e2 I I) (fun w9 hw9=>bF_c n (b0.hL0 hL hw9) (0,0,0,0,0,0,0,0) a0.fo F0) I<|Ae I<|Ab (Ai I I)<|Ab (Ai I I)<|Ba 1 I<|BU .plain (Bs (j:=1) (old:=(ix a0)) (news:=(am d0.1)) (new' :=(([.bool a0.fh]:La Vc) ++ am d0.1)) b0 .t2 I I I I I I (ai I) I) fun q1 t0 W0=>Aa<|Ac<|Ba 1 I<|Ab (Aq (cs:=(am d0.1)) I I (ac (t0.memA .t2) 1 8))<|AW (am d0.1) t0 .t1 (ai I) fun s1 u0 X0=>Ag I<|Aa<|Ao I<|Au hb0 func183 I (.cons (.many (cs:=(am d0.1)) I I (u0.memA .t1)) (.cons (.tmp I) .nil)) I ?_
 cases h
 exact u0.gv
 refine Az<|Ac<|Ba 1 I<|Ab (Aq (cs:=(am a0.fo)) I I (ac (b0.memA .t2) 1 8))<|AW (am a0.fo) b0 .t1 (ai I) fun u1 v0 Y0=>Ag I<|Aa<|Ao I<|Au hb0 func183 I (.cons (.many (cs:=(am a0.fo)) I I (v0.memA .t1)) (.cons (.tmp I) .nil)) I ?_
 cases h
 exact v0.gv
structure Th where
  fh:Bool
  fu:La Ua
  deriving DecidableEq
instance:Rep Th:=Rep.via (β:=Bool × (List UInt64)) fun x=>(x.fh,x.fu)
def bZ_p (n:Nat) (a0:Th):Oa ((U8) × Int):=
  (if 8 < a0.fu.length then some ((0,0,0,0,0,0,0,0),(6:Int)) else (cr_p n (⟨a0.fh,(aQ a0.fu 0 (0:Ua),aQ a0.fu 1 (0:Ua),aQ a0.fu 2 (0:Ua),aQ a0.fu 3 (0:Ua),aQ a0.fu 4 (0:Ua),aQ a0.fu 5 (0:Ua),aQ a0.fu 6 (0:Ua),aQ a0.fu 7 (0:Ua))⟩:Tm)).bind fun b0=>some (b0.1,b0.2))
theorem bZ_c (n:Nat) {L w} (hL:hl L w) (a0:Th) {v0_1:Vc} (h0_1:Rep.R w L [v0_1] a0.fu)  {r:(U8) × Int} (h:bZ_p n a0 = some r) :
 Cl 152 #[.agg #[.bool a0.fh,v0_1]] w (aj w fun _ u=>u = .tuple #[.agg ((am r.1)).toArray,vI r.2]):=by
 unfold bZ_p at h
 refine AK func152 I I I fun _ cs0 hb0=>Ac<|RG.bx (AD w) I I fun M0 A0 v0 C0=>RG.nl zP v0 fun P0 B0 c0 D0=>Ag I<|Aa<|Aj<|Ac<|Ba 1 I<|AY I ((c0.memA .t1) 1 _ I) ?_
 have s0:=Bb h0_1 c0
 have J0:=Bh s0
 refine Ab (Bk (xs:=a0.fu) underlying131 I s0)<|Ab (FV.gtrN (i:=a0.fu.length) (j:=8) I I)<|Aa<|Be I h (fun u0 h=>?_) (fun u0 h=>?_)
 refine Ac<|Ab (AP (vs:=[]) (u:=.agg zQ) ak (fun w9=>by kernel_rfl))<|AW zP c0 .hd (ai I) fun Q0 p0 E0=>Ag I<|Aa<|Ao I<|Au hb0 func152 I (.cons (.many (cs:=zP) I I (p0.memA .hd)) (.cons (.tmp I) .nil)) I ?_
 cases h
 exact p0.gv
 refine Az<|Ac<|Ba 0 I<|AY I ((c0.memA .t1) 0 _ I)<|Ab (AP (vs:=[.bool a0.fh]) (u:=.agg #[.bool a0.fh,vW 0,vW 0,vW 0,vW 0,vW 0,vW 0,vW 0,vW 0]) (e1 I) (fun w9=>by kernel_rfl))<|RG.nl [.bool false,vW 0,vW 0,vW 0,vW 0,vW 0,vW 0,vW 0,vW 0] c0 fun R0 t0 x0 F0=>AW [.bool a0.fh,vW 0,vW 0,vW 0,vW 0,vW 0,vW 0,vW 0,vW 0] x0 .hd (ai I) fun U0 j0 G0=>Aa<|Aj<|du 4 fun b0 d0=>Rv 0 b0 I d0 (fun _=>AS 1 I)<|Rx 1 16 b0 I d0 (FV.sliceA (len:=8) (m:=1) (p:=Addr.add ⟨t0,0,none⟩ 1) I I)<|Rv 2 b0 I d0 (fun _=>AS 1 I)<|Rx 3 16 b0 I d0 (AN I ((j0.memA .t2) 1 _ I))<|AT (i:=4) (rk b0) (BW (m' :=31) (sk b0) I I .plain I (DoesL.copyArr (fun z9:Ua=>(vU z9:Vc)) (olds:=([(0:Ua),0,0,0,0,0,0,(0:Ua)]:La Ua)) (ys:=a0.fu) (pre:=[.bool a0.fh]) (post:=[]) (old:=[.bool a0.fh,vW 0,vW 0,vW 0,vW 0,vW 0,vW 0,vW 0,vW 0]) (new' :=[.bool a0.fh,vW ((aQ a0.fu 0 (0:Ua)).toNat:Int),vW ((aQ a0.fu 1 (0:Ua)).toNat:Int),vW ((aQ a0.fu 2 (0:Ua)).toNat:Int),vW ((aQ a0.fu 3 (0:Ua)).toNat:Int),vW ((aQ a0.fu 4 (0:Ua)).toNat:Int),vW ((aQ a0.fu 5 (0:Ua)).toNat:Int),vW ((aQ a0.fu 6 (0:Ua)).toNat:Int),vW ((aQ a0.fu 7 (0:Ua)).toNat:Int)]) I (fun _ _ _ _ h9=>h9) j0 .hd I I I I I I I I (Src.rep (Bb h0_1 j0))) (fun K0 V0 ⟨y0,k0,H0⟩=>?_))
 subst y0
 refine AO (dk b0)<|Ac<|Ab (AC I (k0.memA .hd))<|bk h fun g0 z0 h=>Bm (.tuple #[.agg ((am g0.1)).toArray,vI g0.2]) (bd 183) I (e1 I) (fun w9 hw9=>cr_c n (k0.hL0 hL hw9) (⟨a0.fh,(aQ a0.fu 0 (0:Ua),aQ a0.fu 1 (0:Ua),aQ a0.fu 2 (0:Ua),aQ a0.fu 3 (0:Ua),aQ a0.fu 4 (0:Ua),aQ a0.fu 5 (0:Ua),aQ a0.fu 6 (0:Ua),aQ a0.fu 7 (0:Ua))⟩:Tm) z0) I<|Ab (Ai I I)<|Ab (Ai I I)<|AW (am g0.1) k0 .t1 (ai I) fun W0 q0 I0=>Ag I<|Aa<|Ao I<|Au hb0 func152 I (.cons (.many (cs:=(am g0.1)) I I (q0.memA .t1)) (.cons (.tmp I) .nil)) I ?_
 cases h
 exact q0.gv
structure Tg where
  fC:Th
  fA:Th
  deriving DecidableEq
instance:Rep Tg:=Rep.via (β:=Th × Th) fun x=>(x.fC,x.fA)
def bN_p (n:Nat) (a0:Tg):Oa (Ta × Int):=
  (bZ_p n a0.fC).bind fun b0=>(bZ_p n a0.fA).bind fun c0=>(if b0.2 = 0 then (if c0.2 = 0 then some ((⟨b0.1,c0.1⟩:Ta),(0:Int)) else some ((⟨(0,0,0,0,0,0,0,0),(0,0,0,0,0,0,0,0)⟩:Ta),(6:Int))) else some ((⟨(0,0,0,0,0,0,0,0),(0,0,0,0,0,0,0,0)⟩:Ta),(6:Int)))
theorem bN_c (n:Nat) {L w} (hL:hl L w) (a0:Tg) {v0_1:Vc} (h0_1:Rep.R w L [v0_1] a0.fC.fu) {v0_3:Vc} (h0_3:Rep.R w L [v0_3] a0.fA.fu)  {r:Ta × Int} (h:bN_p n a0 = some r) :
 Cl 120 #[.agg #[.bool a0.fC.fh,v0_1,.bool a0.fA.fh,v0_3]] w (aj w fun _ u=>u = .tuple #[.agg ((aa r.1)).toArray,vI r.2]):=by
 unfold bN_p at h
 refine AK func120 I I I fun _ cs0 hb0=>Ac<|RG.bx (AD w) I I fun R0 B0 v0 F0=>RG.nl ae v0 fun U0 C0 g0 G0=>Ag I<|Aa<|Ac<|Ba 0 I<|Ab (Aq (cs:=[.bool a0.fC.fh,v0_1]) I I (ac (g0.memA .t1) 0 2))<|bk h fun b0 z0 h=>Bm (.tuple #[.agg ((am b0.1)).toArray,vI b0.2]) (bd 152) I (e1 I) (fun w9 hw9=>bZ_c n (g0.hL0 hL hw9) a0.fC (g0.k0 h0_1 hw9) z0) I<|Ae I<|Ab (Ai I I)<|Ab (Ai I I)<|RG.nl zP g0 fun V0 D0 x0 H0=>AW (am b0.1) x0 .hd (ai I) fun W0 j0 I0=>Ag I<|Aa<|Ac<|Ba 2 I<|Ab (Aq (cs:=[.bool a0.fA.fh,v0_3]) I I (ac (j0.memA .t2) 2 2))<|bk h fun c0 A0 h=>Bm (.tuple #[.agg ((am c0.1)).toArray,vI c0.2]) (bd 152) I (e1 I) (fun w9 hw9=>bZ_c n (j0.hL0 hL hw9) a0.fA (j0.k0 h0_3 hw9) A0) I<|Ae I<|Ab (Ai I I)<|Ab (Ai I I)<|RG.nl zP j0 fun X0 E0 y0 J0=>AW (am c0.1) y0 .hd (ai I) fun Y0 d0 K0=>Ag I<|Aa<|Aj<|Ac<|Ae I<|Ab (FV.neq (i:=b0.2) (j:=0) I I) ?_
 refine Ae I<|RG.ifn (s:=22) I h (fun t0 h=>?_) (fun t0 h=>?_)
 refine AH (Ak I)<|AH (FV.neq (i:=c0.2) (j:=0) I I)<|By I I<|Aa<|MX.ifn I h (fun u0 h=>?_) (fun u0 h=>?_)
 refine Az<|Ac<|Ab (AC I (d0.memA .t1))<|Ab (AC I (d0.memA .hd))<|Ab (AP (vs:=[.agg ((am b0.1)).toArray,.agg ((am c0.1)).toArray]) (u:=.agg ((am b0.1 ++ am c0.1)).toArray) (e2 I I) (fun w9=>by kernel_rfl))<|AW (am b0.1 ++ am c0.1) d0 .t2 (ai I) fun Z0 p0 M0=>Ag I<|Aa<|Ao I<|Au hb0 func120 I (.cons (.many (cs:=(am b0.1 ++ am c0.1)) I I (p0.memA .t2)) (.cons (.tmp I) .nil)) I ?_
 cases h
 exact p0.gv
 refine Ac<|Ab (AP (vs:=[]) (u:=.agg zM) ak (fun w9=>by kernel_rfl))<|AW ae d0 .t2 (ai I) fun b1 q0 P0=>Ag I<|Aa<|Ao I<|Au hb0 func120 I (.cons (.many (cs:=ae) I I (q0.memA .t2)) (.cons (.tmp I) .nil)) I ?_
 cases h
 exact q0.gv
 refine Aw<|Aw<|Bq I I<|Aa<|Bg I<|Ac<|Ab (AP (vs:=[]) (u:=.agg zM) ak (fun w9=>by kernel_rfl))<|AW ae d0 .t2 (ai I) fun c1 s0 Q0=>Ag I<|Aa<|Ao I<|Au hb0 func120 I (.cons (.many (cs:=ae) I I (s0.memA .t2)) (.cons (.tmp I) .nil)) I ?_
 cases h
 exact s0.gv
def aY_p (n:Nat) (a0:Tg) (a1:Int):Oa (Ta × Int):=
  (if a1 = 0 then (bN_p n a0).bind fun b0=>some (b0.1,b0.2) else some ((⟨(0,0,0,0,0,0,0,0),(0,0,0,0,0,0,0,0)⟩:Ta),a1))
theorem aY_c (n:Nat) {L w} (hL:hl L w) (a0:Tg) {v0_1:Vc} (h0_1:Rep.R w L [v0_1] a0.fC.fu) {v0_3:Vc} (h0_3:Rep.R w L [v0_3] a0.fA.fu) {a1:Int}  {r:Ta × Int} (h:aY_p n a0 a1 = some r) :
 Cl 90 #[.agg #[.bool a0.fC.fh,v0_1,.bool a0.fA.fh,v0_3],vI a1] w (aj w fun _ u=>u = .tuple #[.agg ((aa r.1)).toArray,vI r.2]):=by
 unfold aY_p at h
 refine AK func90 I I I fun _ cs0 hb0=>Ac<|RG.bx (AD w) I I fun z0 s0 p0 u0=>RG.nl ae p0 fun A0 t0 b0 v0=>Ag I<|Aa<|Aj<|Ac<|Ae I<|Ab (FV.neq (i:=a1) (j:=0) I I)<|Aa<|MX.ifn I h (fun j0 h=>?_) (fun j0 h=>?_)
 refine Az<|Ac<|Ab (AC I (b0.memA .t1))<|bk h fun c0 q0 h=>Bm (.tuple #[.agg ((aa c0.1)).toArray,vI c0.2]) (bd 120) I (e1 I) (fun w9 hw9=>bN_c n (b0.hL0 hL hw9) a0 (b0.k0 h0_1 hw9) (b0.k0 h0_3 hw9) q0) I<|Ab (Ai I I)<|Ab (Ai I I)<|AW (aa c0.1) b0 .hd (ai I) fun B0 d0 x0=>Ag I<|Aa<|Ao I<|Au hb0 func90 I (.cons (.many (cs:=(aa c0.1)) I I (d0.memA .hd)) (.cons (.tmp I) .nil)) I ?_
 cases h
 exact d0.gv
 refine Ac<|Ab (AP (vs:=[]) (u:=.agg zM) ak (fun w9=>by kernel_rfl))<|Ae I<|AW ae b0 .hd (ai I) fun C0 g0 y0=>Ag I<|Aa<|Ao I<|Au hb0 func90 I (.cons (.many (cs:=ae) I I (g0.memA .hd)) (.cons (.tmp I) .nil)) I ?_
 cases h
 exact g0.gv
def dB_p (n:Nat) (a0:U8):Oa Tm:=
  (if (shrU a0.2.2.2.2.2.2.2 63) = (1:Ua) then (bF_p n (0,0,0,0,0,0,0,0) a0).bind fun b0=>some (⟨(decide ((shrU a0.2.2.2.2.2.2.2 63) = (1:Ua))),b0.1⟩:Tm) else some (⟨(decide ((shrU a0.2.2.2.2.2.2.2 63) = (1:Ua))),a0⟩:Tm))
theorem dB_c (n:Nat) {L w} (hL:hl L w) (a0:U8)  {r:Tm} (h:dB_p n a0 = some r) :
 Cl 150 #[.agg ((am a0)).toArray] w (aj w fun _ u=>u = .agg ((ix r)).toArray):=by
 unfold dB_p at h
 refine AK func150 I I I fun _ cs0 hb0=>Ac<|RG.bx (AD w) I I fun F0 u0 q0 y0=>RG.nl [.bool false,vW 0,vW 0,vW 0,vW 0,vW 0,vW 0,vW 0,vW 0] q0 fun G0 v0 d0 z0=>Aa<|Ac<|Ab (Bc (m:=1) (k:=7) (len:=8) I I I I (by omega))<|AY I ((d0.memA .t1) 7 _ I)<|Ab (FV.shrU (a:=a0.2.2.2.2.2.2.2) (j:=63) I I)<|Ab (FV.eqlU (a:=shrU a0.2.2.2.2.2.2.2 63) (b:=(1:Ua)) I I)<|Ab (AC I (d0.memA .t1))<|Ab (AP (vs:=[.bool (decide ((shrU a0.2.2.2.2.2.2.2 63) = (1:Ua))),.agg ((am a0)).toArray]) (u:=.agg ((([.bool (decide ((shrU a0.2.2.2.2.2.2.2 63) = (1:Ua)))]:La Vc) ++ am a0)).toArray) (e2 I I) (fun w9=>by kernel_rfl))<|RG.nl [.bool false,vW 0,vW 0,vW 0,vW 0,vW 0,vW 0,vW 0,vW 0] d0 fun H0 x0 s0 A0=>AW (([.bool (decide ((shrU a0.2.2.2.2.2.2.2 63) = (1:Ua)))]:La Vc) ++ am a0) s0 .hd (ai I) fun I0 b0 B0=>Aa<|Aj<|Ac<|Ba 0 I<|AY I ((b0.memA .hd) 0 _ I)<|Aa<|Be I h (fun p0 h=>?_) (fun p0 h=>?_)
 refine Av<|Ab (AP (vs:=[]) (u:=.agg zQ) ak (fun w9=>by kernel_rfl))<|Ba 1 I<|Ab (Aq (cs:=(am a0)) I I (ac (b0.memA .hd) 1 8))<|bk h fun c0 t0 h=>Bm (.tuple #[.agg ((am c0.1)).toArray,vU c0.2]) (bd 182) I (e2 I I) (fun w9 hw9=>bF_c n (b0.hL0 hL hw9) (0,0,0,0,0,0,0,0) a0 t0) I<|Ae I<|Ab (Ai I I)<|Ab (Ai I I)<|Ba 1 I<|BU .plain (Bs (j:=1) (old:=(([.bool (decide ((shrU a0.2.2.2.2.2.2.2 63) = (1:Ua)))]:La Vc) ++ am a0)) (news:=(am c0.1)) (new' :=(([.bool (decide ((shrU a0.2.2.2.2.2.2.2 63) = (1:Ua)))]:La Vc) ++ am c0.1)) b0 .hd I I I I I I (ai I) I) fun J0 g0 C0=>Aa<|Ac<|Ab (AC I (g0.memA .hd))<|AW (([.bool (decide ((shrU a0.2.2.2.2.2.2.2 63) = (1:Ua)))]:La Vc) ++ am c0.1) g0 .t1 (ai I) fun K0 j0 D0=>Aa<|Ao I<|Au hb0 func150 I (.cons (.many (cs:=(([.bool (decide ((shrU a0.2.2.2.2.2.2.2 63) = (1:Ua)))]:La Vc) ++ am c0.1)) I I (j0.memA .t1)) .nil) I ?_
 cases h
 exact j0.gv
 refine Az<|Ac<|Ab (AC I (b0.memA .hd))<|AW (([.bool (decide ((shrU a0.2.2.2.2.2.2.2 63) = (1:Ua)))]:La Vc) ++ am a0) b0 .t1 (ai I) fun M0 k0 E0=>Aa<|Ao I<|Au hb0 func150 I (.cons (.many (cs:=(([.bool (decide ((shrU a0.2.2.2.2.2.2.2 63) = (1:Ua)))]:La Vc) ++ am a0)) I I (k0.memA .t1)) .nil) I ?_
 cases h
 exact k0.gv
def az_l1 (_n:Nat) (a1:La Ua) (c0:Int -> Oa Int):Int -> Oa Int
  | b0=>(if 0 < b0 then (chk (b0 - 1)).bind fun d0=>(idx a1 d0).bind fun j0=>(if j0 = (0:Ua) then (chk (b0 - 1)).bind fun g0=>c0 g0 else some b0) else some b0)
def az_p (n:Nat) (a0:Bool) (a1:La Ua):Oa Th:=
  jn (fun b0=>(if a0 = true then (cut a1 0 b0).bind fun d0=>some (⟨(decide (0 < b0)),d0⟩:Th) else (cut a1 0 b0).bind fun g0=>some (⟨false,g0⟩:Th))) (fun c0=>Option.bind (au (az_l1 n a1) n ((a1.length:Nat):Int)) (c0))
theorem az_c (n:Nat) {L w} (_hL:hl L w) {a0:Bool} {a1:La Ua} {v1_0:Vc} (h1_0:Rep.R w L [v1_0] a1)  {r:Th} (h:az_p n a0 a1 = some r) :
 Cl 151 #[.bool a0,v1_0] w (aj w fun w' u=>∃ v0_1:Vc,u = .agg #[.bool r.fh,v0_1]/\Rep.R w' L [v0_1] r.fu):=by
 unfold az_p at h
 refine AK func151 I I I fun _ cs0 hb0=>Ac<|RG.nl [.bool false,vN] (AD w) fun C1 j0 q0 z1=>Aa<|Ac<|Ae I ?_
 have A0:=Bb h1_0 q0
 have A1:=Bh A0
 refine Ab (Bk (xs:=a1) underlying131 I A0)<|Ag I<|Aa<|Aj<|AF<|MX.xo (α:=Int) 0 (fun b0=>[(0,.bool a0),(1,v1_0),(4,vP j0),(5,vI b0)]) (fun b0=>[.cells j0 [.bool false,vN] 133]) (fun b0=>b0) q0 I h ?_ ?_
 rintro b0 F1 k0 y1 h
 try dsimp only at h
 refine Ac<|Ae I<|Ae I<|RG.ifb (s:=21) I h (fun C0 h=>?_) (fun C0 h=>?_)
 refine AH (Ak I)<|AH (FV.gtr (i:=b0) (j:=0) I I)<|Bq I I<|Ae I<|Ae I<|bk h fun H1 c1 h=>RG.valE .plain I (FV.cutL (α:=Ua) c1 I I (Bb h1_0 k0) I ⟨_,I⟩) fun d0 v0=>?_
 obtain ⟨k1,u1,X0,_⟩:=Rep.sl v0
 refine Ab (AP (vs:=[.bool (decide (0 < b0)),d0]) (u:=.agg #[.bool (decide (0 < b0)),d0]) (e2 I I) (fun w9=>by rw [X0]; try kernel_rfl))<|AW [.bool (decide (0 < b0)),d0] k0 .hd (o2 I (AX v0)) fun D1 s0 H0=>Aa<|Ao I<|Au hb0 func151 I (.cons (.many (cs:=[.bool (decide (0 < b0)),d0]) I I (s0.memA .hd)) .nil) I ?_
 cases h
 exact ⟨s0.ag,fun w9 hw9=>⟨d0,I,s0.kd (Ap v0 H0) hw9⟩⟩
 refine Aw<|Aw<|By I I<|Ae I<|Ae I<|bk h fun I1 d1 h=>RG.valE .plain I (FV.cutL (α:=Ua) d1 I I (Bb h1_0 k0) I ⟨_,I⟩) fun g0 x0=>?_
 obtain ⟨p1,v1,Y0,_⟩:=Rep.sl x0
 refine Ab (AP (vs:=[.bool false,g0]) (u:=.agg #[.bool false,g0]) (e2 I I) (fun w9=>by rw [Y0]; try kernel_rfl))<|AW [.bool false,g0] k0 .hd (o2 I (AX x0)) fun E1 t0 I0=>Aa<|Ao I<|Au hb0 func151 I (.cons (.many (cs:=[.bool false,g0]) I I (t0.memA .hd)) .nil) I ?_
 cases h
 exact ⟨t0.ag,fun w9 hw9=>⟨g0,I,t0.kd (Ap x0 I0) hw9⟩⟩
 intro s1 y0 h
 try dsimp only at h
 obtain ⟨B1,R0,z0⟩:=av h
 refine MX.lo (α:=Int) (fun c0=>[(0,.bool a0),(1,v1_0),(4,vP j0),(5,vI c0)]) (fun c0=>[.cells j0 [.bool false,vN] 133]) (fun c0=>c0) ((a1.length:Nat):Int) R0 q0 ?_
 rintro t1 c0 G1 G0 p0 u0 h
 unfold az_l1 at h
 try dsimp only at h
 refine Aj<|Ac<|Ae I<|Ab (FV.gtr (i:=c0) (j:=0) I I)<|Ae I<|BG (s:=10) I h (fun D0 h=>?_) (fun D0 h=>?_)
 refine AH (Ak I)<|AH (Ak I)<|bk h fun g1 V0 h=>AH (FV.subc (i:=c0) (j:=1) I I V0)<|bk h fun B0 Z0 h=>?_
 obtain ⟨M0,b1⟩:=aL Z0
 obtain ⟨q1,x1,J0,P0,F0,U0,Q0⟩:=Bw (Bb h1_0 p0) b1
 have K0:F0 = [vU B0]:=U0; subst K0
 refine AH (BE 1 (g1.toNat) I J0 I M0 P0)<|AH (AN I (Q0 0 _ I))<|AH (FV.eqlU (a:=B0) (b:=(0:Ua)) I I)<|Bq I I<|Aa<|Be I h (fun E0 h=>?_) (fun E0 h=>?_)
 refine Az<|AF<|Av<|Ae I<|bk h fun j1 W0 h=>Ab (FV.subc (i:=c0) (j:=1) I I W0)<|Ag I<|Aa<|AI<|G0 j1 p0 u0 h
 refine Bj I ?_
 have h:=z0 _ h
 try dsimp only at h
 exact y0 c0 p0 u0 h
 refine Aw<|Aw<|Aw<|Aw<|Aw<|Aw<|By I I<|Aa<|BP I<|Bj I ?_
 have h:=z0 _ h
 try dsimp only at h
 exact y0 c0 p0 u0 h
theorem cU:ElT Tryz.prog 131 42 (Rep.size Ua) 8 (vW 0) [vW 0]:=⟨underlying131,by kernel_rfl,rfl,rfl,rfl,rfl⟩
def bR_p (n:Nat) (a0:U8):Oa Th:=
  (dB_p n a0).bind fun b0=>(app ([]:La Ua) ([b0.fo.1,b0.fo.2.1,b0.fo.2.2.1,b0.fo.2.2.2.1,b0.fo.2.2.2.2.1,b0.fo.2.2.2.2.2.1,b0.fo.2.2.2.2.2.2.1,b0.fo.2.2.2.2.2.2.2]:La Ua)).bind fun c0=>(az_p n b0.fh c0).bind fun d0=>some d0
theorem bR_c (n:Nat) {L w} (hL:hl L w) (a0:U8)  {r:Th} (h:bR_p n a0 = some r) :
 Cl 119 #[.agg ((am a0)).toArray] w (aj w fun w' u=>∃ v0_1:Vc,u = .agg #[.bool r.fh,v0_1]/\Rep.R w' L [v0_1] r.fu):=by
 unfold bR_p at h
 refine AK func119 I I I fun _ cs0 hb0=>Ac<|RG.bx (AD w) I I fun D1 s1 W0 u1=>RG.nl [.bool false,vN] W0 fun G1 A0 F0 z1=>Aa<|Ac<|Ab (AC I (F0.memA .t1))<|bk h fun b0 p1 h=>Bm (.agg ((ix b0)).toArray) (bd 150) I (e1 I) (fun w9 hw9=>dB_c n (F0.hL0 hL hw9) a0 p1) I<|RG.nl [.bool false,vW 0,vW 0,vW 0,vW 0,vW 0,vW 0,vW 0,vW 0] F0 fun H1 U0 c1 A1=>AW (ix b0) c1 .hd (ai I) fun I1 u0 B1=>Aa<|Aj<|du 5 fun c0 y0=>Rv 0 c0 I y0 (fun _=>AS 0 I)<|Rv 3 c0 I y0 (fun _=>AS 1 I)<|Rx 4 224 c0 I y0 (FV.sliceA (len:=8) (m:=1) (p:=Addr.add ⟨U0,0,none⟩ 1) I I)<|bk h fun z0 G0 h=>RD.mf (α:=Vc × (La Vc)) (fun ⟨g0,j0⟩=>[(2,vP A0),(7,.bool b0.fh),(11,g0)]) (fun ⟨g0,j0⟩=>[rr w 42 Ua g0 z0.length j0,.cells A0 [.bool false,vN] 133]) (fun ⟨g0,j0⟩ Q0=>Cells Q0 (bl [rr w 42 Ua g0 z0.length j0,.cells A0 [.bool false,vN] 133] ++ L) j0 (z0:La Ua)) u0 2 63 ?_ ?_
 rintro ⟨g0,j0⟩ Q0 C0 v1 j1
 try dsimp only
 have D0:=BI C0 .hd
 have x1:=BJ C0 .hd
 refine bk h fun R0 k1 h=>Bp 6 127 c0 I .plain (bd 151) I (e2 I I) (fun w9 hw9=>az_c n (D0.hL hL hw9) (Ar (BK (α:=Ua) (v:=g0) (xs:=z0) D0 L (Bl (α:=Ua) C0 .hd j1 hL)) hw9) k1) I fun E1 C1 g1 ⟨H0,hu_,M0⟩=>?_
 subst hu_
 obtain ⟨X0,y1⟩:=D0.agr g1
 refine Bv 7 255 c0 I I .plain (Ax (news:=[.bool R0.fh,H0]) X0 .hd I I I I I I (o2 I (AX M0))) fun F1 E0 d1=>AO (dk c0)<|Ao I<|Au hb0 func119 I (.cons (.many (cs:=[.bool R0.fh,H0]) I I (E0.memA .hd)) .nil) I ?_
 cases h
 exact ⟨E0.ag,fun w9 hw9=>⟨H0,I,E0.kd (Ap M0 d1) hw9⟩⟩
 intro B0
 refine AM [1,2] (rk c0) ⟨?_,?_,trivial⟩
 refine AV (m' :=27) (sk c0) I .plain I (AN I ((u0.memA .hd) 0 _ I))<|Ca 2 31 c0 I .plain I (jB Ua u0 cU) fun q1 V0 d0 v0=>?_
 have x0:=jD Ua d0 L
 refine AT (i:=5) (rk c0) (BW (m' :=63) (sk c0) I I .plain I (BB (α:=Ua) (ys:=([b0.fo.1,b0.fo.2.1,b0.fo.2.2.1,b0.fo.2.2.2.1,b0.fo.2.2.2.2.1,b0.fo.2.2.2.2.2.1,b0.fo.2.2.2.2.2.2.1,b0.fo.2.2.2.2.2.2.2]:La Ua)) G0 d0 (fun _ _=>.hd) cU I I x0 (Src.arr (ds:=[vU b0.fo.1,vU b0.fo.2.1,vU b0.fo.2.2.1,vU b0.fo.2.2.2.1,vU b0.fo.2.2.2.2.1,vU b0.fo.2.2.2.2.2.1,vU b0.fo.2.2.2.2.2.2.1,vU b0.fo.2.2.2.2.2.2.2]) (ys:=([b0.fo.1,b0.fo.2.1,b0.fo.2.2.1,b0.fo.2.2.2.1,b0.fo.2.2.2.2.1,b0.fo.2.2.2.2.2.1,b0.fo.2.2.2.2.2.2.1,b0.fo.2.2.2.2.2.2.2]:La Ua)) (n:=8) (ac (d0.memA .t1) 1 8) (AB (cs:=[vU b0.fo.1]) (ds:=[vU b0.fo.2.1,vU b0.fo.2.2.1,vU b0.fo.2.2.2.1,vU b0.fo.2.2.2.2.1,vU b0.fo.2.2.2.2.2.1,vU b0.fo.2.2.2.2.2.2.1,vU b0.fo.2.2.2.2.2.2.2]) I (AB (cs:=[vU b0.fo.2.1]) (ds:=[vU b0.fo.2.2.1,vU b0.fo.2.2.2.1,vU b0.fo.2.2.2.2.1,vU b0.fo.2.2.2.2.2.1,vU b0.fo.2.2.2.2.2.2.1,vU b0.fo.2.2.2.2.2.2.2]) I (AB (cs:=[vU b0.fo.2.2.1]) (ds:=[vU b0.fo.2.2.2.1,vU b0.fo.2.2.2.2.1,vU b0.fo.2.2.2.2.2.1,vU b0.fo.2.2.2.2.2.2.1,vU b0.fo.2.2.2.2.2.2.2]) I (AB (cs:=[vU b0.fo.2.2.2.1]) (ds:=[vU b0.fo.2.2.2.2.1,vU b0.fo.2.2.2.2.2.1,vU b0.fo.2.2.2.2.2.2.1,vU b0.fo.2.2.2.2.2.2.2]) I (AB (cs:=[vU b0.fo.2.2.2.2.1]) (ds:=[vU b0.fo.2.2.2.2.2.1,vU b0.fo.2.2.2.2.2.2.1,vU b0.fo.2.2.2.2.2.2.2]) I (AB (cs:=[vU b0.fo.2.2.2.2.2.1]) (ds:=[vU b0.fo.2.2.2.2.2.2.1,vU b0.fo.2.2.2.2.2.2.2]) I (AB (cs:=[vU b0.fo.2.2.2.2.2.2.1]) (ds:=[vU b0.fo.2.2.2.2.2.2.2]) I (AB (cs:=[vU b0.fo.2.2.2.2.2.2.2]) (ds:=[]) I (AR _ _))))))))) I)) (fun t0 P0 ⟨p0,k0,q0,s0⟩=>?_))
 obtain ⟨Y0,I0⟩:=Am k0 (.a0 (.a1 .done))
 exact B0 (t0,p0) Y0 (Tt v0 (Tt q0 I0)) (AG s0 I0)
 refine Bf (m' :=29) (sk c0) I .plain I (jB Ua u0 cU) fun q1 V0 d0 v0=>?_
 have x0:=jD Ua d0 L
 refine AM [1,5] (rk c0) ⟨?_,?_,trivial⟩
 refine AV (m' :=31) (sk c0) I .plain I (AN I ((d0.memA .t1) 0 _ I))<|AT (i:=5) (rk c0) (BW (m' :=63) (sk c0) I I .plain I (BB (α:=Ua) (ys:=([b0.fo.1,b0.fo.2.1,b0.fo.2.2.1,b0.fo.2.2.2.1,b0.fo.2.2.2.2.1,b0.fo.2.2.2.2.2.1,b0.fo.2.2.2.2.2.2.1,b0.fo.2.2.2.2.2.2.2]:La Ua)) G0 d0 (fun _ _=>.hd) cU I I x0 (Src.arr (ds:=[vU b0.fo.1,vU b0.fo.2.1,vU b0.fo.2.2.1,vU b0.fo.2.2.2.1,vU b0.fo.2.2.2.2.1,vU b0.fo.2.2.2.2.2.1,vU b0.fo.2.2.2.2.2.2.1,vU b0.fo.2.2.2.2.2.2.2]) (ys:=([b0.fo.1,b0.fo.2.1,b0.fo.2.2.1,b0.fo.2.2.2.1,b0.fo.2.2.2.2.1,b0.fo.2.2.2.2.2.1,b0.fo.2.2.2.2.2.2.1,b0.fo.2.2.2.2.2.2.2]:La Ua)) (n:=8) (ac (d0.memA .t1) 1 8) (AB (cs:=[vU b0.fo.1]) (ds:=[vU b0.fo.2.1,vU b0.fo.2.2.1,vU b0.fo.2.2.2.1,vU b0.fo.2.2.2.2.1,vU b0.fo.2.2.2.2.2.1,vU b0.fo.2.2.2.2.2.2.1,vU b0.fo.2.2.2.2.2.2.2]) I (AB (cs:=[vU b0.fo.2.1]) (ds:=[vU b0.fo.2.2.1,vU b0.fo.2.2.2.1,vU b0.fo.2.2.2.2.1,vU b0.fo.2.2.2.2.2.1,vU b0.fo.2.2.2.2.2.2.1,vU b0.fo.2.2.2.2.2.2.2]) I (AB (cs:=[vU b0.fo.2.2.1]) (ds:=[vU b0.fo.2.2.2.1,vU b0.fo.2.2.2.2.1,vU b0.fo.2.2.2.2.2.1,vU b0.fo.2.2.2.2.2.2.1,vU b0.fo.2.2.2.2.2.2.2]) I (AB (cs:=[vU b0.fo.2.2.2.1]) (ds:=[vU b0.fo.2.2.2.2.1,vU b0.fo.2.2.2.2.2.1,vU b0.fo.2.2.2.2.2.2.1,vU b0.fo.2.2.2.2.2.2.2]) I (AB (cs:=[vU b0.fo.2.2.2.2.1]) (ds:=[vU b0.fo.2.2.2.2.2.1,vU b0.fo.2.2.2.2.2.2.1,vU b0.fo.2.2.2.2.2.2.2]) I (AB (cs:=[vU b0.fo.2.2.2.2.2.1]) (ds:=[vU b0.fo.2.2.2.2.2.2.1,vU b0.fo.2.2.2.2.2.2.2]) I (AB (cs:=[vU b0.fo.2.2.2.2.2.2.1]) (ds:=[vU b0.fo.2.2.2.2.2.2.2]) I (AB (cs:=[vU b0.fo.2.2.2.2.2.2.2]) (ds:=[]) I (AR _ _))))))))) I)) (fun t0 P0 ⟨p0,k0,q0,s0⟩=>?_))
 obtain ⟨Z0,J0⟩:=Am k0 (.a0 (.a1 .done))
 exact B0 (t0,p0) Z0 (Tt v0 (Tt q0 J0)) (AG s0 J0)
 refine BW (m' :=61) (sk c0) I I .plain I (BB (α:=Ua) (ys:=([b0.fo.1,b0.fo.2.1,b0.fo.2.2.1,b0.fo.2.2.2.1,b0.fo.2.2.2.2.1,b0.fo.2.2.2.2.2.1,b0.fo.2.2.2.2.2.2.1,b0.fo.2.2.2.2.2.2.2]:La Ua)) G0 d0 (fun _ _=>.hd) cU I I x0 (Src.arr (ds:=[vU b0.fo.1,vU b0.fo.2.1,vU b0.fo.2.2.1,vU b0.fo.2.2.2.1,vU b0.fo.2.2.2.2.1,vU b0.fo.2.2.2.2.2.1,vU b0.fo.2.2.2.2.2.2.1,vU b0.fo.2.2.2.2.2.2.2]) (ys:=([b0.fo.1,b0.fo.2.1,b0.fo.2.2.1,b0.fo.2.2.2.1,b0.fo.2.2.2.2.1,b0.fo.2.2.2.2.2.1,b0.fo.2.2.2.2.2.2.1,b0.fo.2.2.2.2.2.2.2]:La Ua)) (n:=8) (ac (d0.memA .t1) 1 8) (AB (cs:=[vU b0.fo.1]) (ds:=[vU b0.fo.2.1,vU b0.fo.2.2.1,vU b0.fo.2.2.2.1,vU b0.fo.2.2.2.2.1,vU b0.fo.2.2.2.2.2.1,vU b0.fo.2.2.2.2.2.2.1,vU b0.fo.2.2.2.2.2.2.2]) I (AB (cs:=[vU b0.fo.2.1]) (ds:=[vU b0.fo.2.2.1,vU b0.fo.2.2.2.1,vU b0.fo.2.2.2.2.1,vU b0.fo.2.2.2.2.2.1,vU b0.fo.2.2.2.2.2.2.1,vU b0.fo.2.2.2.2.2.2.2]) I (AB (cs:=[vU b0.fo.2.2.1]) (ds:=[vU b0.fo.2.2.2.1,vU b0.fo.2.2.2.2.1,vU b0.fo.2.2.2.2.2.1,vU b0.fo.2.2.2.2.2.2.1,vU b0.fo.2.2.2.2.2.2.2]) I (AB (cs:=[vU b0.fo.2.2.2.1]) (ds:=[vU b0.fo.2.2.2.2.1,vU b0.fo.2.2.2.2.2.1,vU b0.fo.2.2.2.2.2.2.1,vU b0.fo.2.2.2.2.2.2.2]) I (AB (cs:=[vU b0.fo.2.2.2.2.1]) (ds:=[vU b0.fo.2.2.2.2.2.1,vU b0.fo.2.2.2.2.2.2.1,vU b0.fo.2.2.2.2.2.2.2]) I (AB (cs:=[vU b0.fo.2.2.2.2.2.1]) (ds:=[vU b0.fo.2.2.2.2.2.2.1,vU b0.fo.2.2.2.2.2.2.2]) I (AB (cs:=[vU b0.fo.2.2.2.2.2.2.1]) (ds:=[vU b0.fo.2.2.2.2.2.2.2]) I (AB (cs:=[vU b0.fo.2.2.2.2.2.2.2]) (ds:=[]) I (AR _ _))))))))) I)) fun t0 P0 ⟨p0,k0,q0,s0⟩=>Rx 1 192 c0 I y0 (AN I ((k0.memA .t1) 0 _ I)) ?_
 obtain ⟨b1,K0⟩:=Am k0 (.a0 (.a1 .done))
 exact B0 (t0,p0) b1 (Tt v0 (Tt q0 K0)) (AG s0 K0)
def aM_p (n:Nat) (a0:Ta):Oa Tg:=
  (bR_p n a0.fN).bind fun b0=>(bR_p n a0.fD).bind fun c0=>some (⟨b0,c0⟩:Tg)
theorem aM_c (n:Nat) {L w} (hL:hl L w) (a0:Ta)  {r:Tg} (h:aM_p n a0 = some r) :
 Cl 84 #[.agg ((aa a0)).toArray] w (aj w fun w' u=>∃ v0_1 v0_3:Vc,u = .agg #[.bool r.fC.fh,v0_1,.bool r.fA.fh,v0_3]/\Rep.R w' L [v0_1] r.fC.fu/\Rep.R w' L [v0_3] r.fA.fu):=by
 unfold aM_p at h
 refine AK func84 I I I fun _ cs0 hb0=>Ac<|RG.bx (AD w) I I fun X0 J0 z0 Q0=>RG.nl [.bool false,vN,.bool false,vN] z0 fun Y0 K0 j0 R0=>Aa<|Aj<|du 7 fun b0 c0=>Rv 0 b0 I c0 (fun _=>AS 0 I)<|Rx 1 228 b0 I c0 (Aq (cs:=(am a0.fN)) I I (ac (j0.memA .t1) 0 8))<|Rv 3 b0 I c0 (fun _=>AS 8 I)<|Rx 4 224 b0 I c0 (Aq (cs:=(am a0.fD)) I I (ac (j0.memA .t1) 8 8))<|bk h fun p0 F0 h=>Bp 2 31 b0 I .plain (bd 119) I (e1 I) (fun w9 hw9=>bR_c n (j0.hL hL hw9) a0.fN F0) I fun Z0 V0 B0 ⟨d0,hu_,y0⟩=>?_
 subst hu_
 obtain ⟨t0,U0⟩:=j0.agr B0
 refine bk h fun q0 G0 h=>Bp 5 63 b0 I .plain (bd 119) I (e1 I) (fun w9 hw9=>bR_c n (t0.hL hL hw9) a0.fD G0) I fun b1 W0 C0 ⟨g0,hu_,s0⟩=>?_
 subst hu_
 obtain ⟨A0,u0⟩:=t0.agr C0
 have x0:=Ap y0 u0
 obtain ⟨H0,M0,D0,_⟩:=Rep.sl x0
 obtain ⟨I0,P0,E0,_⟩:=Rep.sl s0
 refine Rv 6 b0 I c0 (fun _=>AP (vs:=[.agg #[.bool p0.fh,d0],.agg #[.bool q0.fh,g0]]) (u:=.agg #[.bool p0.fh,d0,.bool q0.fh,g0]) (e2 I I) (fun w9=>by rw [D0,E0]; try kernel_rfl))<|Bv 7 255 b0 I I .plain (Ax (news:=[.bool p0.fh,d0,.bool q0.fh,g0]) A0 .hd I I I I I I (o4 I (AX x0) I (AX s0))) fun c1 k0 v0=>AO (dk b0)<|Ao I<|Au hb0 func84 I (.cons (.many (cs:=[.bool p0.fh,d0,.bool q0.fh,g0]) I I (k0.memA .hd)) .nil) I ?_
 cases h
 exact ⟨k0.ag,fun w9 hw9=>⟨d0,g0,I,k0.kd (Ap y0 (Tt u0 v0)) hw9,k0.kd (Ap s0 v0) hw9⟩⟩
def dq_l1 (_n:Nat) (d0:Nat × (U8) -> Oa (U8)):Nat × (U8) -> Oa (U8)
  | (c0,b0)=>(if c0 < 8 then (([b0.1,b0.2.1,b0.2.2.1,b0.2.2.2.1,b0.2.2.2.2.1,b0.2.2.2.2.2.1,b0.2.2.2.2.2.2.1,b0.2.2.2.2.2.2.2]:La Ua)[c0]?).bind fun _z57=>d0 (c0 + 1,(az c0 0 (18446744073709551615:Ua) b0.1,az c0 1 (18446744073709551615:Ua) b0.2.1,az c0 2 (18446744073709551615:Ua) b0.2.2.1,az c0 3 (18446744073709551615:Ua) b0.2.2.2.1,az c0 4 (18446744073709551615:Ua) b0.2.2.2.2.1,az c0 5 (18446744073709551615:Ua) b0.2.2.2.2.2.1,az c0 6 (18446744073709551615:Ua) b0.2.2.2.2.2.2.1,az c0 7 (18446744073709551615:Ua) b0.2.2.2.2.2.2.2)) else some b0)
def dq_p (n:Nat) (a0:Int):Oa (U8):=
  (if a0 < 0 then Option.bind (au (dq_l1 n) n (1,(ah a0,0,0,0,0,0,0,0))) (fun b0=>some b0) else some (ah a0,0,0,0,0,0,0,0))
theorem dq_c (n:Nat) {L w} (_hL:hl L w) {a0:Int}  {r:U8} (h:dq_p n a0 = some r) :
 Cl 81 #[vI a0] w (aj w fun _ u=>u = .agg ((am r)).toArray):=by
 unfold dq_p at h
 refine AK func81 I I I fun _ cs0 hb0=>Ac<|RG.nl zP (AD w) fun P0 p0 x0 F0=>Aa<|Ac<|Ae I<|Ab (FV.convU (i:=a0) underlying3 underlying42 I)<|Ab (AP (vs:=[vW ((ah a0).toNat:Int)]) (u:=.agg #[vW ((ah a0).toNat:Int),vW 0,vW 0,vW 0,vW 0,vW 0,vW 0,vW 0]) (e1 I) (fun w9=>by kernel_rfl))<|RG.nl zP x0 fun Q0 g0 y0 G0=>AW [vW ((ah a0).toNat:Int),vW 0,vW 0,vW 0,vW 0,vW 0,vW 0,vW 0] y0 .hd (ai I) fun R0 j0 H0=>Aa<|Aj<|Ac<|Ae I<|Ab (FV.lss (i:=a0) (j:=0) I I)<|Aa<|Be I h (fun t0 h=>?_) (fun t0 h=>?_)
 refine Ac<|Ag I<|Aa<|AF ?_
 obtain ⟨M0,D0,C0⟩:=av h
 refine MX.lo (α:=Nat × (U8)) (fun ⟨c0,b0⟩=>[(2,vP p0),(3,vP g0),(4,vn c0)]) (fun ⟨c0,b0⟩=>[.cells g0 (am b0) 44,.cells p0 zP 44]) (fun ⟨c0,b0⟩=>(c0,b0)) (1,(ah a0,0,0,0,0,0,0,0)) D0 j0 ?_
 rintro E0 ⟨c0,b0⟩ X0 v0 d0 A0 h
 unfold dq_l1 at h
 try dsimp only at h
 refine Aj<|Ac<|Ae I<|Ab (BD (i:=c0) (j:=8) I I)<|Aa<|Be I h (fun u0 h=>?_) (fun u0 h=>?_)
 refine Az<|Aj<|AF<|Av<|Ae I<|bk h fun Y0 k0 h=>?_
 have K0:=aS (p:=⟨g0,0,none⟩) (cs:=([b0.1,b0.2.1,b0.2.2.1,b0.2.2.2.1,b0.2.2.2.2.1,b0.2.2.2.2.2.1,b0.2.2.2.2.2.2.1,b0.2.2.2.2.2.2.2]:La Ua).map (fun z9:Ua=>(vU z9:Vc)) ++ []) (i:=c0) (d0.memA .hd) (bJ (fun z9:Ua=>(vU z9:Vc)) k0)
 refine Ab (Bc (m:=1) (k:=c0) (len:=8) I I I I (bp k0 I))<|BU .plain (Acts.storeArr (fun z9:Ua=>(vU z9:Vc)) (xs:=([b0.1,b0.2.1,b0.2.2.1,b0.2.2.2.1,b0.2.2.2.2.1,b0.2.2.2.2.2.1,b0.2.2.2.2.2.2.1,b0.2.2.2.2.2.2.2]:La Ua)) (pre:=[]) (post:=[]) (i:=c0) (m:=8) (x:=(18446744073709551615:Ua)) (old:=(am b0)) (new' :=[vW ((az c0 0 (18446744073709551615:Ua) b0.1).toNat:Int),vW ((az c0 1 (18446744073709551615:Ua) b0.2.1).toNat:Int),vW ((az c0 2 (18446744073709551615:Ua) b0.2.2.1).toNat:Int),vW ((az c0 3 (18446744073709551615:Ua) b0.2.2.2.1).toNat:Int),vW ((az c0 4 (18446744073709551615:Ua) b0.2.2.2.2.1).toNat:Int),vW ((az c0 5 (18446744073709551615:Ua) b0.2.2.2.2.2.1).toNat:Int),vW ((az c0 6 (18446744073709551615:Ua) b0.2.2.2.2.2.2.1).toNat:Int),vW ((az c0 7 (18446744073709551615:Ua) b0.2.2.2.2.2.2.2).toNat:Int)]) I I (bp k0 I) d0 .hd I (gd _ _ _) I I (fun _=>⟨I,I⟩) I I) fun U0 z0 B0=>Aa<|AI<|Av<|Ae I<|Ab (Bu (i:=c0) (j:=1) I I (by omega))<|Ag I<|Aa<|v0 (c0 + 1,(az c0 0 (18446744073709551615:Ua) b0.1,az c0 1 (18446744073709551615:Ua) b0.2.1,az c0 2 (18446744073709551615:Ua) b0.2.2.1,az c0 3 (18446744073709551615:Ua) b0.2.2.2.1,az c0 4 (18446744073709551615:Ua) b0.2.2.2.2.1,az c0 5 (18446744073709551615:Ua) b0.2.2.2.2.2.1,az c0 6 (18446744073709551615:Ua) b0.2.2.2.2.2.2.1,az c0 7 (18446744073709551615:Ua) b0.2.2.2.2.2.2.2)) z0 (Tt A0 B0) h
 refine Bj I ?_
 have h:=C0 _ h
 try dsimp only at h
 refine Ac<|Ab (AC I (d0.memA .hd))<|AW (am b0) d0 .t1 (ai I) fun V0 q0 I0=>Aa<|Ao I<|Au hb0 func81 I (.cons (.many (cs:=(am b0)) I I (q0.memA .t1)) .nil) I ?_
 cases h
 exact q0.gv
 refine Az<|Ac<|Ab (AC I (j0.memA .hd))<|AW [vW ((ah a0).toNat:Int),vW 0,vW 0,vW 0,vW 0,vW 0,vW 0,vW 0] j0 .t1 (ai I) fun W0 s0 J0=>Aa<|Ao I<|Au hb0 func81 I (.cons (.many (cs:=[vW ((ah a0).toNat:Int),vW 0,vW 0,vW 0,vW 0,vW 0,vW 0,vW 0]) I I (s0.memA .t1)) .nil) I ?_
 cases h
 exact s0.gv
def dD_p (n:Nat) (a0:Int):Oa Th:=
  (dq_p n a0).bind fun b0=>(bR_p n b0).bind fun c0=>some c0
theorem dD_c (n:Nat) {L w} (hL:hl L w) {a0:Int}  {r:Th} (h:dD_p n a0 = some r) :
 Cl 83 #[vI a0] w (aj w fun w' u=>∃ v0_1:Vc,u = .agg #[.bool r.fh,v0_1]/\Rep.R w' L [v0_1] r.fu):=by
 unfold dD_p at h
 refine AK func83 I I I fun _ cs0 hb0=>Ac<|RG.nl [.bool false,vN] (AD w) fun A0 v0 b0 x0=>Aa<|Ac<|Ae I<|bk h fun j0 t0 h=>Bm (.agg ((am j0)).toArray) (bd 81) I (e1 I) (fun w9 hw9=>dq_c n (b0.hL0 hL hw9)  t0) I<|bk h fun k0 u0 h=>jE (bd 119) I (e1 I) (fun w9 hw9=>bR_c n (b0.hL hL hw9) j0 u0) I fun B0 z0 s0 ⟨d0,hu_,g0⟩=>?_
 subst hu_
 obtain ⟨p0,y0⟩:=b0.agr s0
 refine AW [.bool k0.fh,d0] p0 .hd (o2 I (AX g0)) fun C0 c0 q0=>Aa<|Ao I<|Au hb0 func83 I (.cons (.many (cs:=[.bool k0.fh,d0]) I I (c0.memA .hd)) .nil) I ?_
 cases h
 exact ⟨c0.ag,fun w9 hw9=>⟨d0,I,c0.kd (Ap g0 q0) hw9⟩⟩
def ct_p (_n:Nat) (a0:Th):Oa Int:=
  (if a0.fh = true then some (-1:Int) else (if a0.fu.length = 0 then some (0:Int) else some (1:Int)))
theorem ct_c (n:Nat) {L w} (_hL:hl L w) (a0:Th) {v0_1:Vc} (h0_1:Rep.R w L [v0_1] a0.fu)  {r:Int} (h:ct_p n a0 = some r) :
 Cl 85 #[.agg #[.bool a0.fh,v0_1]] w (aj w fun _ u=>u = vI r):=by
 unfold ct_p at h
 refine AK func85 I I I fun _ cs0 hb0=>Ac<|RG.bx (AD w) I I fun q0 j0 b0 k0=>Ag I<|Aa<|Aj<|AF<|Ac<|Ba 0 I<|AY I ((b0.memA .hd) 0 _ I)<|Ag I<|Aa<|MX.ifb I h (fun d0 h=>?_) (fun d0 h=>?_)
 refine Ac<|Ag I<|Aa<|Ao I<|Bi hb0 func85 I I ?_
 cases h
 exact b0.gv
 refine Ac<|Ba 1 I<|AY I ((b0.memA .hd) 1 _ I) ?_
 have c0:=Bb h0_1 b0
 have p0:=Bh c0
 refine Ab (Bk (xs:=a0.fu) underlying131 I c0)<|Ab (BZ (i:=a0.fu.length) (j:=0) I I)<|Ag I<|Aa<|Be I h (fun g0 h=>?_) (fun g0 h=>?_)
 refine Ac<|Ag I<|Aa<|Ao I<|Bi hb0 func85 I I ?_
 cases h
 exact b0.gv
 refine Az<|AI<|Ac<|Ag I<|Aa<|Ao I<|Bi hb0 func85 I I ?_
 cases h
 exact b0.gv
def cX:La UInt8:=[0,1,2,2,3,3,3,3,4,4,4,4,4,4,4,4,5,5,5,5,5,5,5,5,5,5,5,5,5,5,5,5,6,6,6,6,6,6,6,6,6,6,6,6,6,6,6,6,6,6,6,6,6,6,6,6,6,6,6,6,6,6,6,6,7,7,7,7,7,7,7,7,7,7,7,7,7,7,7,7,7,7,7,7,7,7,7,7,7,7,7,7,7,7,7,7,7,7,7,7,7,7,7,7,7,7,7,7,7,7,7,7,7,7,7,7,7,7,7,7,7,7,7,7,7,7,7,7,8,8,8,8,8,8,8,8,8,8,8,8,8,8,8,8,8,8,8,8,8,8,8,8,8,8,8,8,8,8,8,8,8,8,8,8,8,8,8,8,8,8,8,8,8,8,8,8,8,8,8,8,8,8,8,8,8,8,8,8,8,8,8,8,8,8,8,8,8,8,8,8,8,8,8,8,8,8,8,8,8,8,8,8,8,8,8,8,8,8,8,8,8,8,8,8,8,8,8,8,8,8,8,8,8,8,8,8,8,8,8,8,8,8,8,8,8,8,8,8,8,8,8,8,8,8,8,8]
def cM_p (_n:Nat) (a0:Ua):Oa Int:=
  jn (fun (u2,i3)=>jn (fun (b0,g0)=>jn (fun (q0,s0)=>(cX[(eR q0).toNat]?).bind fun t0=>(chk (s0 + ((t0.toNat:Nat):Int))).bind fun j0=>some j0) (fun d0=>(if (256:Ua) <= b0 then (chk (g0 + 8)).bind fun k0=>d0 (shrU b0 8,k0) else d0 (b0,g0)))) (fun c0=>(if (65536:Ua) <= u2 then (chk (((i3:Nat):Int) + 16)).bind fun p0=>c0 (shrU u2 16,p0) else c0 (u2,((i3:Nat):Int))))) (fun J7=>(if (4294967296:Ua) <= a0 then J7 (shrU a0 32,32) else J7 (a0,0)))
theorem cM_c (n:Nat) {L w} (_hL:hl L w) (a0:Ua)  {r:Int} (h:cM_p n a0 = some r) :
 Cl 198 #[vU a0] w (aj w fun _ u=>u = vI r):=by
 unfold cM_p at h
 have hS0:=AD w
 refine AK func198 I I I fun _ cs0 hb0=>Ac<|Ag I<|Aa<|Aj<|Ac<|Ae I<|Ab (FV.geqU (a:=a0) (b:=(4294967296:Ua)) I I)<|Aa<|MX.jo (α:=Ua × Nat) (fun ⟨u2,i3⟩=>[(0,vU u2),(2,vn i3)]) (fun ⟨u2,i3⟩=>[]) (fun ⟨u2,i3⟩=>(u2,i3)) hS0 h ?_ ?_
 rintro ⟨u2,i3⟩ wx3 hS4 hT5 h
 try dsimp only at h
 refine Aj<|Ac<|Ae I<|Ab (FV.geqU (a:=u2) (b:=(65536:Ua)) I I)<|Aa<|MX.jo (α:=Ua × Int) (fun ⟨b0,d0⟩=>[(0,vU b0),(2,vI d0)]) (fun ⟨b0,d0⟩=>[]) (fun ⟨b0,d0⟩=>(b0,d0)) hS4 h ?_ ?_
 rintro ⟨b0,d0⟩ J0 j0 F0 h
 try dsimp only at h
 refine Aj<|Ac<|Ae I<|Ab (FV.geqU (a:=b0) (b:=(256:Ua)) I I)<|Aa<|MX.jo (α:=Ua × Int) (fun ⟨c0,g0⟩=>[(0,vU c0),(2,vI g0)]) (fun ⟨c0,g0⟩=>[]) (fun ⟨c0,g0⟩=>(c0,g0)) j0 h ?_ ?_
 rintro ⟨c0,g0⟩ K0 v0 G0 h
 try dsimp only at h
 refine Ac<|Ae I<|Ae I<|Ab (FV.conv8 (a:=c0) underlying42 underlying5 I)<|bk h fun k0 A0 h=>Ab (FV.strIdx (k:=(eR c0).toNat) (tab:=cX) underlying9 I I I I A0) ?_
 have H0:=k0.toNat_lt
 refine Ab (FV.convN (i:=k0.toNat) underlying5 underlying3 I (by omega))<|bk h fun I0 x0 h=>Ab (BR (i:=g0) (j:=((k0.toNat:Nat):Int)) I I x0)<|Ag I<|Aa<|Ao I<|Bi hb0 func198 I I ?_
 cases h
 exact v0.gv
 intro E0 q0 h
 try dsimp only at h
 refine Be I h (fun s0 h=>?_) (fun s0 h=>?_)
 refine Ac<|Ae I<|Ab (FV.shrU (a:=b0) (j:=8) I I)<|Ag I<|Aa<|Av<|Ae I<|bk h fun B0 y0 h=>Ab (BR (i:=d0) (j:=8) I I y0)<|Ag I<|Aa<|q0 (shrU b0 8,B0) j0 (Br _ _) h
 refine Az<|q0 (b0,d0) j0 (Br _ _) h
 intro D0 p0 h
 try dsimp only at h
 refine Be I h (fun t0 h=>?_) (fun t0 h=>?_)
 refine Ac<|Ae I<|Ab (FV.shrU (a:=u2) (j:=16) I I)<|Ag I<|Aa<|Av<|Ae I<|bk h fun C0 z0 h=>Ab (BR (i:=((i3:Nat):Int)) (j:=16) I I z0)<|Ag I<|Aa<|p0 (shrU u2 16,C0) hS4 (Br _ _) h
 refine Az<|p0 (u2,((i3:Nat):Int)) hS4 (Br _ _) h
 intro J7 hJ8 h
 try dsimp only at h
 refine Be I h (fun u0 h=>?_) (fun u0 h=>?_)
 refine Ac<|Ae I<|Ab (FV.shrU (a:=a0) (j:=32) I I)<|Ag I<|Aa<|Av<|Ag I<|Aa<|hJ8 (shrU a0 32,32) hS0 (Br _ _) h
 refine Az<|hJ8 (a0,0) hS0 (Br _ _) h
def bj_p (n:Nat) (a0:Ua):Oa Int:=
  (cM_p n a0).bind fun y1=>(chk (64 - y1)).bind fun s2=>some s2
theorem bj_c (n:Nat) {L w} (hL:hl L w) (a0:Ua)  {r:Int} (h:bj_p n a0 = some r) :
 Cl 184 #[vU a0] w (aj w fun _ u=>u = vI r):=by
 unfold bj_p at h
 have hS0:=AD w
 refine AK func184 I I I fun _ cs0 hb0=>Ac<|Ag I<|Aa<|Ac<|Ae I<|bk h fun y1 hy1 h=>Bm (vI y1) (bd 198) I (e1 I) (fun w9 hw9=>cM_c n (hS0.hL0 hL hw9) a0 hy1) I<|bk h fun s2 hs2 h=>Ab (FV.subc (i:=64) (j:=y1) I I hs2)<|Ag I<|Aa<|Ao I<|Bi hb0 func184 I I ?_
 cases h
 exact hS0.gv
def aO_l1 (_n:Nat) (a2:Ua) (y8:Int) (a1:Ua) (d0:Ua × Ua -> Oa Ua):Ua × Ua -> Oa Ua
  | (b0,c0)=>(if (4294967296:Ua) <= b0 then (if (4294967296:Ua) <= (c0 + (shrU (shlU a2 (ah y8).toNat) 32)) then some (b0 - (1:Ua)) else d0 (b0 - (1:Ua),c0 + (shrU (shlU a2 (ah y8).toNat) 32))) else (if (((4294967296:Ua) * c0) + ((shlU a1 (ah y8).toNat) &&& (4294967295:Ua))) < (b0 * ((shlU a2 (ah y8).toNat) &&& (4294967295:Ua))) then (if (4294967296:Ua) <= (c0 + (shrU (shlU a2 (ah y8).toNat) 32)) then some (b0 - (1:Ua)) else d0 (b0 - (1:Ua),c0 + (shrU (shlU a2 (ah y8).toNat) 32))) else some b0))
def aO_l2 (_n:Nat) (a2:Ua) (y8:Int) (a1:Ua) (d0:Ua × Ua -> Oa Ua):Ua × Ua -> Oa Ua
  | (b0,c0)=>(if (4294967296:Ua) <= b0 then (if (4294967296:Ua) <= (c0 + (shrU (shlU a2 (ah y8).toNat) 32)) then some (b0 - (1:Ua)) else d0 (b0 - (1:Ua),c0 + (shrU (shlU a2 (ah y8).toNat) 32))) else (if (((4294967296:Ua) * c0) + (shrU (shlU a1 (ah y8).toNat) 32)) < (b0 * ((shlU a2 (ah y8).toNat) &&& (4294967295:Ua))) then (if (4294967296:Ua) <= (c0 + (shrU (shlU a2 (ah y8).toNat) 32)) then some (b0 - (1:Ua)) else d0 (b0 - (1:Ua),c0 + (shrU (shlU a2 (ah y8).toNat) 32))) else some b0))
def aO_p (n:Nat) (a0:Ua) (a1:Ua) (a2:Ua):Oa (Ua × Ua):=
  (if a2 = (0:Ua) then none else (if a2 <= a0 then none else (if a0 = (0:Ua) then (iQ a1 a2).bind fun s6=>(lG a1 a2).bind fun s7=>some (s6,s7) else (bj_p n a2).bind fun y8=>(iQ ((shlU a0 (ah y8).toNat) ||| (shrU a1 ((64:Ua) - (ah y8)).toNat)) (shrU (shlU a2 (ah y8).toNat) 32)).bind fun s9=>(some (((shlU a0 (ah y8).toNat) ||| (shrU a1 ((64:Ua) - (ah y8)).toNat)) - (s9 * (shrU (shlU a2 (ah y8).toNat) 32)))).bind fun p0=>jn (fun b0=>(some (((shlU a0 (ah y8).toNat) ||| (shrU a1 ((64:Ua) - (ah y8)).toNat)) * (4294967296:Ua))).bind fun c0=>(iQ ((c0 + (shrU (shlU a1 (ah y8).toNat) 32)) - (b0 * (shlU a2 (ah y8).toNat))) (shrU (shlU a2 (ah y8).toNat) 32)).bind fun d0=>(some (((c0 + (shrU (shlU a1 (ah y8).toNat) 32)) - (b0 * (shlU a2 (ah y8).toNat))) - (d0 * (shrU (shlU a2 (ah y8).toNat) 32)))).bind fun q0=>jn (fun g0=>(some (((c0 + (shrU (shlU a1 (ah y8).toNat) 32)) - (b0 * (shlU a2 (ah y8).toNat))) * (4294967296:Ua))).bind fun s0=>(some ((s0 + ((shlU a1 (ah y8).toNat) &&& (4294967295:Ua))) - (g0 * (shlU a2 (ah y8).toNat)))).bind fun t0=>some ((b0 * (4294967296:Ua)) + g0,shrU t0 (ah y8).toNat)) (fun k0=>Option.bind (au (aO_l1 n a2 y8 a1) n (d0,q0)) (k0))) (fun j0=>Option.bind (au (aO_l2 n a2 y8 a1) n (s9,p0)) (j0)))))
theorem aO_c (n:Nat) {L w} (hL:hl L w) (a0:Ua) (a1:Ua) (a2:Ua)  {r:Ua × Ua} (h:aO_p n a0 a1 a2 = some r) :
 Cl 153 #[vU a0,vU a1,vU a2] w (aj w fun _ u=>u = .tuple #[vU r.1,vU r.2]):=by
 unfold aO_p at h
 have hS0:=AD w
 refine AK func153 I I I fun _ cs0 hb0=>Ac<|Ag I<|Ag I<|Aa<|Aj<|Ac<|Ae I<|Ab (FV.eqlU (a:=a2) (b:=(0:Ua)) I I)<|Aa<|Be I h (fun c1 h=>?_) (fun c1 h=>?_)
 refine Av ?_
 cases h
 refine Az<|Aj<|Ac<|Ae I<|Ae I<|Ab (FV.leqU (a:=a2) (b:=a0) I I)<|Aa<|Be I h (fun c2 h=>?_) (fun c2 h=>?_)
 refine Av ?_
 cases h
 refine Az<|Aj<|Ac<|Ae I<|Ab (FV.eqlU (a:=a0) (b:=(0:Ua)) I I)<|Aa<|Be I h (fun c3 h=>?_) (fun c3 h=>?_)
 refine Aj<|du 8 fun kt4 kp5=>Rv 0 kt4 I kp5 (fun _=>Ak I)<|Rv 1 kt4 I kp5 (fun _=>Ak I)<|bk h fun s6 hs6 h=>Rv 2 kt4 I kp5 (fun _=>FV.quoV (a:=a1) (b:=a2) I I hs6)<|Rv 3 kt4 I kp5 (fun _=>Ak I)<|Rv 4 kt4 I kp5 (fun _=>Ak I)<|bk h fun s7 hs7 h=>Rv 5 kt4 I kp5 (fun _=>FV.remV (a:=a1) (b:=a2) I I hs7)<|Rv 6 kt4 I kp5 (fun _=>Bn I)<|Rv 7 kt4 I kp5 (fun _=>Bn I)<|AO (dk kt4)<|Ao I<|Au hb0 func153 I (.cons (.tmp I) (.cons (.tmp I) .nil)) I ?_
 cases h
 exact hS0.gv
 refine Az<|Ac<|Ae I<|bk h fun y8 hy8 h=>Bm (vI y8) (bd 184) I (e1 I) (fun w9 hw9=>bj_c n (hS0.hL0 hL hw9) a2 hy8) I<|Ab (FV.convU (i:=y8) underlying3 underlying231 I)<|Ag I<|Aa<|Ac<|Ae I<|Ae I<|Ab (FV.shlU (a:=a2) (j:=(ah y8).toNat) I I)<|Ag I<|Aa<|Ac<|Ae I<|Ab (FV.shrU (a:=shlU a2 (ah y8).toNat) (j:=32) I I)<|Ag I<|Aa<|Ac<|Ae I<|Ab (FV.andU (a:=shlU a2 (ah y8).toNat) (b:=(4294967295:Ua)) I I)<|Ag I<|Aa<|Ac<|Ae I<|Ae I<|Ab (FV.shlU (a:=a0) (j:=(ah y8).toNat) I I)<|Ae I<|Ae I<|Ab (FV.subU (a:=(64:Ua)) (b:=ah y8) I I)<|Ab (FV.shrU (a:=a1) (j:=((64:Ua) - (ah y8)).toNat) I I)<|Ab (FV.orU (a:=shlU a0 (ah y8).toNat) (b:=shrU a1 ((64:Ua) - (ah y8)).toNat) I I)<|Ag I<|Aa<|Ac<|Ae I<|Ae I<|Ab (FV.shlU (a:=a1) (j:=(ah y8).toNat) I I)<|Ag I<|Aa<|Ac<|Ae I<|Ab (FV.shrU (a:=shlU a1 (ah y8).toNat) (j:=32) I I)<|Ag I<|Aa<|Ac<|Ae I<|Ab (FV.andU (a:=shlU a1 (ah y8).toNat) (b:=(4294967295:Ua)) I I)<|Ag I<|Aa<|Ac<|Ae I<|Ae I<|bk h fun s9 hs9 h=>Ab (FV.quoV (a:=(shlU a0 (ah y8).toNat) ||| (shrU a1 ((64:Ua) - (ah y8)).toNat)) (b:=shrU (shlU a2 (ah y8).toNat) 32) I I hs9)<|Ag I<|Aa<|Ac<|Ae I ?_
 refine Ae I<|Ae I<|Ab (FV.mulU (a:=s9) (b:=shrU (shlU a2 (ah y8).toNat) 32) I I)<|bk h fun d1 W0 h=>Ab (FV.as (FV.subU (a:=(shlU a0 (ah y8).toNat) ||| (shrU a1 ((64:Ua) - (ah y8)).toNat)) (b:=s9 * (shrU (shlU a2 (ah y8).toNat) 32)) I I) (congrArg (fun z:Ua=>Value.int .u64 (z.toNat:Int)) (Option.some.inj W0)))<|Ag I<|Aa<|Aj<|AF<|MX.xo (α:=Ua) 0 (fun b0=>[(2,vW ((shlU a2 (ah y8).toNat).toNat:Int)),(8,vW ((ah y8).toNat:Int)),(9,vW ((shrU (shlU a2 (ah y8).toNat) 32).toNat:Int)),(10,vW (((shlU a2 (ah y8).toNat) &&& (4294967295:Ua)).toNat:Int)),(11,vW (((shlU a0 (ah y8).toNat) ||| (shrU a1 ((64:Ua) - (ah y8)).toNat)).toNat:Int)),(13,vW ((shrU (shlU a1 (ah y8).toNat) 32).toNat:Int)),(14,vW (((shlU a1 (ah y8).toNat) &&& (4294967295:Ua)).toNat:Int)),(15,vU b0)]) (fun b0=>[]) (fun b0=>b0) hS0 I h ?_ ?_
 rintro b0 A1 D0 t1 h
 try dsimp only at h
 refine Ac<|Ae I<|bk h fun p0 X0 h=>Ab (FV.as (FV.mulU (a:=(shlU a0 (ah y8).toNat) ||| (shrU a1 ((64:Ua) - (ah y8)).toNat)) (b:=(4294967296:Ua)) I I) (congrArg (fun z:Ua=>Value.int .u64 (z.toNat:Int)) (Option.some.inj X0)))<|Ae I<|Ab (FV.addU (a:=p0) (b:=shrU (shlU a1 (ah y8).toNat) 32) I I)<|Ae I<|Ae I<|Ab (FV.mulU (a:=b0) (b:=shlU a2 (ah y8).toNat) I I)<|Ab (FV.subU (a:=p0 + (shrU (shlU a1 (ah y8).toNat) 32)) (b:=b0 * (shlU a2 (ah y8).toNat)) I I)<|Ag I<|Aa<|Ac<|Ae I<|Ae I<|bk h fun A0 V0 h=>Ab (FV.quoV (a:=(p0 + (shrU (shlU a1 (ah y8).toNat) 32)) - (b0 * (shlU a2 (ah y8).toNat))) (b:=shrU (shlU a2 (ah y8).toNat) 32) I I V0)<|Ag I<|Aa<|Ac<|Ae I<|Ae I<|Ae I<|Ab (FV.mulU (a:=A0) (b:=shrU (shlU a2 (ah y8).toNat) 32) I I)<|bk h fun g1 Y0 h=>Ab (FV.as (FV.subU (a:=(p0 + (shrU (shlU a1 (ah y8).toNat) 32)) - (b0 * (shlU a2 (ah y8).toNat))) (b:=A0 * (shrU (shlU a2 (ah y8).toNat) 32)) I I) (congrArg (fun z:Ua=>Value.int .u64 (z.toNat:Int)) (Option.some.inj Y0)))<|Ag I<|Aa<|Aj<|AF<|MX.xo (α:=Ua) 2 (fun k0=>[(2,vW ((shlU a2 (ah y8).toNat).toNat:Int)),(8,vW ((ah y8).toNat:Int)),(14,vW (((shlU a1 (ah y8).toNat) &&& (4294967295:Ua)).toNat:Int)),(15,vU b0),(17,vW (((p0 + (shrU (shlU a1 (ah y8).toNat) 32)) - (b0 * (shlU a2 (ah y8).toNat))).toNat:Int)),(18,vU k0)]) (fun k0=>[]) (fun k0=>k0) D0 I h ?_ ?_
 rintro k0 B1 Q0 u1 h
 try dsimp only at h
 refine Ac<|Ae I<|Ab (FV.mulU (a:=b0) (b:=(4294967296:Ua)) I I)<|Ae I<|Ab (FV.addU (a:=b0 * (4294967296:Ua)) (b:=k0) I I)<|Ae I<|bk h fun E0 Z0 h=>Ab (FV.as (FV.mulU (a:=(p0 + (shrU (shlU a1 (ah y8).toNat) 32)) - (b0 * (shlU a2 (ah y8).toNat))) (b:=(4294967296:Ua)) I I) (congrArg (fun z:Ua=>Value.int .u64 (z.toNat:Int)) (Option.some.inj Z0)))<|Ae I<|Ab (FV.addU (a:=E0) (b:=(shlU a1 (ah y8).toNat) &&& (4294967295:Ua)) I I)<|Ae I<|Ae I<|Ab (FV.mulU (a:=k0) (b:=shlU a2 (ah y8).toNat) I I)<|bk h fun j1 b1 h=>Ab (FV.as (FV.subU (a:=E0 + ((shlU a1 (ah y8).toNat) &&& (4294967295:Ua))) (b:=k0 * (shlU a2 (ah y8).toNat)) I I) (congrArg (fun z:Ua=>Value.int .u64 (z.toNat:Int)) (Option.some.inj b1)))<|Ae I<|Ab (FV.shrU (a:=j1) (j:=(ah y8).toNat) I I)<|Ag I<|Ag I<|Aa<|Ao I<|Au hb0 func153 I (.cons (.tmp I) (.cons (.tmp I) .nil)) I ?_
 cases h
 exact Q0.gv
 intro s1 x0 h
 try dsimp only at h
 obtain ⟨v1,R0,y0⟩:=av h
 refine MX.lo (α:=Ua × Ua) (fun ⟨c0,g0⟩=>[(2,vW ((shlU a2 (ah y8).toNat).toNat:Int)),(8,vW ((ah y8).toNat:Int)),(9,vW ((shrU (shlU a2 (ah y8).toNat) 32).toNat:Int)),(10,vW (((shlU a2 (ah y8).toNat) &&& (4294967295:Ua)).toNat:Int)),(14,vW (((shlU a1 (ah y8).toNat) &&& (4294967295:Ua)).toNat:Int)),(15,vU b0),(17,vW (((p0 + (shrU (shlU a1 (ah y8).toNat) 32)) - (b0 * (shlU a2 (ah y8).toNat))).toNat:Int)),(18,vU c0),(16,vU g0)]) (fun ⟨c0,g0⟩=>[]) (fun ⟨c0,g0⟩=>(c0,g0)) (A0,g1) R0 D0 ?_
 rintro k1 ⟨c0,g0⟩ y1 B0 q0 t0 h
 unfold aO_l1 at h
 try dsimp only at h
 refine Aj<|Ac<|Ae I<|Ab (FV.geqU (a:=c0) (b:=(4294967296:Ua)) I I)<|Ae I<|BG (s:=104) I h (fun F0 h=>?_) (fun F0 h=>?_)
 refine Aw<|Aw<|Aw<|Aw<|Aw<|Aw<|Aw<|Aw<|Bq I I<|Aa<|Bg I<|Az<|AF<|Ac<|Ae I<|Ab (FV.subU (a:=c0) (b:=(1:Ua)) I I)<|Ag I<|Aa<|Ac<|Ae I<|Ae I<|Ab (FV.addU (a:=g0) (b:=shrU (shlU a2 (ah y8).toNat) 32) I I)<|Ag I<|Aa<|Ac<|Ae I<|Ab (FV.geqU (a:=g0 + (shrU (shlU a2 (ah y8).toNat) 32)) (b:=(4294967296:Ua)) I I)<|Aa<|Be I h (fun G0 h=>?_) (fun G0 h=>?_)
 refine Bj I ?_
 have h:=y0 _ h
 try dsimp only at h
 exact x0 (c0 - (1:Ua)) q0 t0 h
 refine Az<|AI<|B0 (c0 - (1:Ua),g0 + (shrU (shlU a2 (ah y8).toNat) 32)) q0 t0 h
 refine AH (Ak I)<|AH (Ak I)<|AH (FV.mulU (a:=c0) (b:=(shlU a2 (ah y8).toNat) &&& (4294967295:Ua)) I I)<|AH (Ak I)<|AH (FV.mulU (a:=(4294967296:Ua)) (b:=g0) I I)<|AH (Ak I)<|AH (FV.addU (a:=(4294967296:Ua) * g0) (b:=(shlU a1 (ah y8).toNat) &&& (4294967295:Ua)) I I)<|AH (FV.gtrU (a:=c0 * ((shlU a2 (ah y8).toNat) &&& (4294967295:Ua))) (b:=((4294967296:Ua) * g0) + ((shlU a1 (ah y8).toNat) &&& (4294967295:Ua))) I I)<|By I I<|Aa<|Be I h (fun H0 h=>?_) (fun H0 h=>?_)
 refine Az<|AF<|Ac<|Ae I<|Ab (FV.subU (a:=c0) (b:=(1:Ua)) I I)<|Ag I<|Aa<|Ac<|Ae I<|Ae I<|Ab (FV.addU (a:=g0) (b:=shrU (shlU a2 (ah y8).toNat) 32) I I)<|Ag I<|Aa<|Ac<|Ae I<|Ab (FV.geqU (a:=g0 + (shrU (shlU a2 (ah y8).toNat) 32)) (b:=(4294967296:Ua)) I I)<|Aa<|Be I h (fun I0 h=>?_) (fun I0 h=>?_)
 refine Bj I ?_
 have h:=y0 _ h
 try dsimp only at h
 exact x0 (c0 - (1:Ua)) q0 t0 h
 refine Az<|AI<|B0 (c0 - (1:Ua),g0 + (shrU (shlU a2 (ah y8).toNat) 32)) q0 t0 h
 refine Bj I ?_
 have h:=y0 _ h
 try dsimp only at h
 exact x0 c0 q0 t0 h
 intro q1 v0 h
 try dsimp only at h
 obtain ⟨x1,U0,z0⟩:=av h
 refine MX.lo (α:=Ua × Ua) (fun ⟨d0,j0⟩=>[(2,vW ((shlU a2 (ah y8).toNat).toNat:Int)),(8,vW ((ah y8).toNat:Int)),(9,vW ((shrU (shlU a2 (ah y8).toNat) 32).toNat:Int)),(10,vW (((shlU a2 (ah y8).toNat) &&& (4294967295:Ua)).toNat:Int)),(11,vW (((shlU a0 (ah y8).toNat) ||| (shrU a1 ((64:Ua) - (ah y8)).toNat)).toNat:Int)),(13,vW ((shrU (shlU a1 (ah y8).toNat) 32).toNat:Int)),(14,vW (((shlU a1 (ah y8).toNat) &&& (4294967295:Ua)).toNat:Int)),(15,vU d0),(16,vU j0)]) (fun ⟨d0,j0⟩=>[]) (fun ⟨d0,j0⟩=>(d0,j0)) (s9,d1) U0 hS0 ?_
 rintro p1 ⟨d0,j0⟩ z1 C0 s0 u0 h
 unfold aO_l2 at h
 try dsimp only at h
 refine Aj<|Ac<|Ae I<|Ab (FV.geqU (a:=d0) (b:=(4294967296:Ua)) I I)<|Ae I<|BG (s:=69) I h (fun J0 h=>?_) (fun J0 h=>?_)
 refine Aw<|Aw<|Aw<|Aw<|Aw<|Aw<|Aw<|Aw<|Bq I I<|Aa<|Bg I<|Az<|AF<|Ac<|Ae I<|Ab (FV.subU (a:=d0) (b:=(1:Ua)) I I)<|Ag I<|Aa<|Ac<|Ae I<|Ae I<|Ab (FV.addU (a:=j0) (b:=shrU (shlU a2 (ah y8).toNat) 32) I I)<|Ag I<|Aa<|Ac<|Ae I<|Ab (FV.geqU (a:=j0 + (shrU (shlU a2 (ah y8).toNat) 32)) (b:=(4294967296:Ua)) I I)<|Aa<|Be I h (fun K0 h=>?_) (fun K0 h=>?_)
 refine Bj I ?_
 have h:=z0 _ h
 try dsimp only at h
 exact v0 (d0 - (1:Ua)) s0 u0 h
 refine Az<|AI<|C0 (d0 - (1:Ua),j0 + (shrU (shlU a2 (ah y8).toNat) 32)) s0 u0 h
 refine AH (Ak I)<|AH (Ak I)<|AH (FV.mulU (a:=d0) (b:=(shlU a2 (ah y8).toNat) &&& (4294967295:Ua)) I I)<|AH (Ak I)<|AH (FV.mulU (a:=(4294967296:Ua)) (b:=j0) I I)<|AH (Ak I)<|AH (FV.addU (a:=(4294967296:Ua) * j0) (b:=shrU (shlU a1 (ah y8).toNat) 32) I I)<|AH (FV.gtrU (a:=d0 * ((shlU a2 (ah y8).toNat) &&& (4294967295:Ua))) (b:=((4294967296:Ua) * j0) + (shrU (shlU a1 (ah y8).toNat) 32)) I I)<|By I I<|Aa<|Be I h (fun M0 h=>?_) (fun M0 h=>?_)
 refine Az<|AF<|Ac<|Ae I<|Ab (FV.subU (a:=d0) (b:=(1:Ua)) I I)<|Ag I<|Aa<|Ac<|Ae I<|Ae I<|Ab (FV.addU (a:=j0) (b:=shrU (shlU a2 (ah y8).toNat) 32) I I)<|Ag I<|Aa<|Ac<|Ae I<|Ab (FV.geqU (a:=j0 + (shrU (shlU a2 (ah y8).toNat) 32)) (b:=(4294967296:Ua)) I I)<|Aa<|Be I h (fun P0 h=>?_) (fun P0 h=>?_)
 refine Bj I ?_
 have h:=z0 _ h
 try dsimp only at h
 exact v0 (d0 - (1:Ua)) s0 u0 h
 refine Az<|AI<|C0 (d0 - (1:Ua),j0 + (shrU (shlU a2 (ah y8).toNat) 32)) s0 u0 h
 refine Bj I ?_
 have h:=z0 _ h
 try dsimp only at h
 exact v0 d0 s0 u0 h
def di_p (n:Nat) (a0:La Ua):Oa Int:=
  (if a0.length = 0 then some (0:Int) else (chk (64 * ((a0.length:Nat):Int))).bind fun s3=>(idx a0 (((a0.length:Nat):Int) - 1)).bind fun x4=>(bj_p n x4).bind fun c0=>(chk (s3 - c0)).bind fun b0=>some b0)
theorem di_c (n:Nat) {L w} (hL:hl L w) {a0:La Ua} {v0_0:Vc} (h0_0:Rep.R w L [v0_0] a0)  {r:Int} (h:di_p n a0 = some r) :
 Cl 154 #[v0_0] w (aj w fun _ u=>u = vI r):=by
 unfold di_p at h
 have hS0:=AD w
 refine AK func154 I I I fun _ cs0 hb0=>Ac<|Ag I<|Aa<|Aj<|Ac<|Ae I ?_
 have hl1:=Bh h0_0
 refine Ab (Bk (xs:=a0) underlying131 I h0_0)<|Ab (BZ (i:=a0.length) (j:=0) I I)<|Aa<|Be I h (fun c2 h=>?_) (fun c2 h=>?_)
 refine Ac<|Ag I<|Aa<|Ao I<|Bi hb0 func154 I I ?_
 cases h
 exact hS0.gv
 refine Az<|Ac<|Ae I<|Ab (Bk (xs:=a0) underlying131 I h0_0)<|bk h fun s3 hs3 h=>Ab (FV.mulc (i:=64) (j:=((a0.length:Nat):Int)) I I hs3)<|Ae I<|Ae I<|Ab (Bk (xs:=a0) underlying131 I h0_0)<|Ab (FV.subI (i:=((a0.length:Nat):Int)) (j:=1) I I (by omega))<|bk h fun x4 hx4 h=>?_
 obtain ⟨hi5,hx6⟩:=aL hx4
 obtain ⟨A7,c8,he9,g0,c0,k0,j0⟩:=Bw h0_0 hx6
 have d0:c0 = [vU x4]:=k0; subst d0
 refine Ab (FV.idxAddr (m:=1) (i:=(((a0.length:Nat):Int) - 1).toNat) I I he9 I hi5 g0)<|AY I (j0 0 _ I)<|bk h fun b0 q0 h=>Bm (vI b0) (bd 184) I (e1 I) (fun w9 hw9=>bj_c n (hS0.hL0 hL hw9) x4 q0) I<|bk h fun s0 p0 h=>Ab (FV.subc (i:=s3) (j:=b0) I I p0)<|Ag I<|Aa<|Ao I<|Bi hb0 func154 I I ?_
 cases h
 exact hS0.gv
def cN_l1 (_n:Nat) (a0:La Ua) (a1:Int) (g0:Nat × (La Ua) -> Oa (La Ua)):Nat × (La Ua) -> Oa (La Ua)
  | (b0,c0)=>(if b0 < a0.length then (a0[b0]?).bind fun p0=>(cL a1 64).bind fun t0=>(chk (((b0:Nat):Int) + t0)).bind fun j0=>(idx c0 j0).bind fun B0=>(ci a1 64).bind fun u0=>(bE u0).bind fun q0=>(put c0 ((j0.toNat:Nat):Int) (B0 ||| (shlU p0 q0))).bind fun d0=>(ci a1 64).bind fun v0=>(if 0 < v0 then (cL a1 64).bind fun x0=>(chk (((b0:Nat):Int) + x0)).bind fun y0=>(chk (y0 + 1)).bind fun k0=>(ci a1 64).bind fun z0=>(chk (64 - z0)).bind fun A0=>(bE A0).bind fun s0=>(idx d0 k0).bind fun _x218=>(put d0 ((k0.toNat:Nat):Int) (shrU p0 s0)).bind fun C0=>g0 (b0 + 1,C0) else g0 (b0 + 1,d0)) else some c0)
def cN_p (n:Nat) (a0:La Ua) (a1:Int):Oa (La Ua):=
  (cL a1 64).bind fun s2=>(chk (((a0.length:Nat):Int) + s2)).bind fun s3=>(chk (s3 + 1)).bind fun s4=>(mk s4 (0:Ua)).bind fun b0=>Option.bind (au (cN_l1 n a0 a1) n (0,b0)) (fun c0=>(az_p n false c0).bind fun d0=>some d0.fu)
theorem cN_c (n:Nat) {L w} (hL:hl L w) {a0:La Ua} {v0_0:Vc} (h0_0:Rep.R w L [v0_0] a0) {a1:Int}  {r:La Ua} (h:cN_p n a0 a1 = some r) :
 Cl 155 #[v0_0,vI a1] w (aj w fun w' u=>∃ v0_0:Vc,u = v0_0/\Rep.R w' L [v0_0] r):=by
 unfold cN_p at h
 refine AK func155 I I I fun _ cs0 hb0=>Ac<|Ag I<|Aa<|Ac<|Ae I ?_
 have hl1:=Bh h0_0
 refine Ab (Bk (xs:=a0) underlying131 I h0_0)<|Ae I<|bk h fun s2 hs2 h=>Ab (FV.quoc (i:=a1) (j:=64) I I hs2)<|bk h fun s3 hs3 h=>Ab (BR (i:=((a0.length:Nat):Int)) (j:=s2) I I hs3)<|bk h fun s4 hs4 h=>Ab (BR (i:=s3) (j:=1) I I hs4)<|bk h fun U0 K0 h=>Ah .plain I (Does.mk (α:=Ua) K0 (AD w) cU I) fun Z2 p0 u0 Q2=>Ag I<|Aa<|Aj<|Ac<|Ae I<|Ab (Bk (xs:=a0) underlying131 I (Bb h0_0 u0))<|Ae I<|Aa<|AF ?_
 obtain ⟨X2,H1,A1⟩:=av h
 refine MX.lf (α:=Nat × (La Ua) × (La Vc)) (fun ⟨c0,g0,j0⟩=>[(1,vI a1),(5,(.slice (some ⟨p0,0,none⟩) s4.toNat s4.toNat)),(15,v0_0),(16,vn a0.length),(17,vn c0)]) (fun ⟨c0,g0,j0⟩=>[rr w 42 Ua (.slice (some ⟨p0,0,none⟩) s4.toNat s4.toNat) g0.length j0]) (fun ⟨c0,g0,j0⟩ Q0=>Cells Q0 (bl [rr w 42 Ua (.slice (some ⟨p0,0,none⟩) s4.toNat s4.toNat) g0.length j0] ++ L) j0 g0) (fun ⟨c0,g0,j0⟩=>(c0,g0)) (0,U0,(List.replicate s4.toNat [vW 0]).flatten) H1 u0 (AJ (cs:=(List.replicate s4.toNat [vW 0]).flatten) (xs:=U0) u0 L (Cells.mk K0 I)) ?_
 rintro H2 ⟨c0,g0,j0⟩ Q0 C0 k0 E0 x0 h
 unfold cN_l1 at h
 try dsimp only at h
 refine Ac<|Ab (BD (i:=c0) (j:=a0.length) I I)<|Aa<|Aj<|Be I h (fun Z0 h=>?_) (fun Z0 h=>?_)
 refine Az<|Aj<|AF<|Ac<|Ae I<|bk h fun t0 b2 h=>?_
 obtain ⟨G2,I2,v1,C1,c1,I1,F1⟩:=Bw (Bb h0_0 k0) b2
 have x1:c1 = [vU t0]:=I1; subst x1
 refine Ab (BE 1 c0 I v1 I I C1)<|AY I (F1 0 _ I)<|Ag I<|Ag I<|Aa<|Aj<|du 13 fun b0 d0=>Rv 0 b0 I d0 (fun _=>Ak I)<|Rv 1 b0 I d0 (fun _=>Ak I)<|Rv 2 b0 I d0 (fun _=>Ak I)<|bk h fun u2 P1 h=>Rv 3 b0 I d0 (fun _=>FV.quoc (i:=a1) (j:=64) I I P1)<|bk h fun B0 Q1 h=>Rv 4 b0 I d0 (fun _=>BR (i:=((c0:Nat):Int)) (j:=u2) I I Q1)<|bk h fun R0 c2 h=>?_
 obtain ⟨I0,d2⟩:=aL c2
 obtain ⟨V0,J2,s0,A0,d1,J1,G1⟩:=St.nth (α:=Ua) k0 .hd x0 d2
 obtain ⟨X0,K2,G0⟩:=Cb (α:=Ua) k0 .hd A0
 obtain rfl:V0 = ⟨X0,0,none⟩:=by rw [G0] at s0; cases s0; rfl
 have y1:d1 = [vU R0]:=J1; subst y1
 refine Rv 5 b0 I d0 (fun _=>BE 1 (B0.toNat) I s0 I I0 A0)<|Rx 6 14336 b0 I d0 (AN I (G1 0 _ I))<|Rv 7 b0 I d0 (fun _=>Ak I)<|Rv 8 b0 I d0 (fun _=>Ak I)<|bk h fun v2 R1 h=>Rv 9 b0 I d0 (fun _=>FV.remc (i:=a1) (j:=64) I I R1)<|bk h fun t2 D1 h=>Rv 10 b0 I d0 (fun _=>FV.shlI (a:=t0) (i:=v2) I I D1)<|Rv 11 b0 I d0 (fun _=>FV.orU (a:=R0) (b:=shlU t0 t2) I I)<|Rv 12 b0 I d0 (fun _=>BE 1 (B0.toNat) I s0 I I0 A0)<|bk h fun D2 k2 h=>AT (i:=13) (rk b0) (RO.acts (m' :=16383) (sk b0) I I .plain (Acts.set (α:=Ua) (i:=B0.toNat) k2 k0 G0 (fun _=>.hd) x0 I I I I I I) (fun b3 ⟨g1,q0,F0,y0⟩=>?_))
 refine AO (dk b0)<|Ac<|Ae I<|bk h fun x2 U1 h=>Ab (FV.remc (i:=a1) (j:=64) I I U1)<|Ab (FV.gtr (i:=x2) (j:=0) I I)<|Aa<|Be I h (fun b1 h=>?_) (fun b1 h=>?_)
 refine Av<|Ae I<|Ae I<|Ae I<|bk h fun y2 V1 h=>Ab (FV.quoc (i:=a1) (j:=64) I I V1)<|bk h fun z2 W1 h=>Ab (BR (i:=((c0:Nat):Int)) (j:=y2) I I W1)<|bk h fun M0 X1 h=>Ab (BR (i:=z2) (j:=1) I I X1)<|Ae I<|Ae I<|bk h fun A2 Y1 h=>Ab (FV.remc (i:=a1) (j:=64) I I Y1)<|bk h fun B2 Z1 h=>Ab (FV.subc (i:=64) (j:=A2) I I Z1)<|bk h fun W2 E1 h=>Ab (FV.shrI (a:=t0) (i:=B2) I I E1)<|bk h fun C2 g2 h=>?_
 obtain ⟨B1,j2⟩:=aL g2
 obtain ⟨W0,M2,z0,J0,j1,K1,V2⟩:=St.nth (α:=Ua) q0 .hd y0 j2
 obtain ⟨Y0,P2,H0⟩:=Cb (α:=Ua) q0 .hd J0
 obtain rfl:W0 = ⟨Y0,0,none⟩:=by rw [H0] at z0; cases z0; rfl
 have z1:j1 = [vU C2]:=K1; subst z1
 refine Ab (BE 1 (M0.toNat) I z0 I B1 J0)<|bk h fun E2 p2 h=>RG.acts' .plain (Acts.set (α:=Ua) (i:=M0.toNat) p2 q0 H0 (fun _=>.hd) y0 I I I I I I) fun c3 ⟨k1,p1,q1,u1⟩=>Aa<|AI<|Av<|Ab (Bu (i:=c0) (j:=1) I I (by omega))<|Ae I<|Aa<|C0 (c0 + 1,E2,k1) p1 (Tt E0 (Tt F0 q1)) u1 h
 refine Az<|AI<|Av<|Ab (Bu (i:=c0) (j:=1) I I (by omega))<|Ae I<|Aa<|C0 (c0 + 1,D2,g1) q0 (Tt E0 F0) y0 h
 refine Bj I ?_
 have h:=A1 _ h
 try dsimp only at h
 refine Ac<|Ae I ?_
 have v0:=BI k0 .hd
 have R2:=BJ k0 .hd
 refine bk h fun F2 q2 h=>jE (bd 151) I (e2 I I) (fun w9 hw9=>az_c n (v0.hL hL hw9) (Ar (BK (α:=Ua) (v:=(.slice (some ⟨p0,0,none⟩) s4.toNat s4.toNat)) (xs:=g0) v0 L (Bl (α:=Ua) k0 .hd x0 hL)) hw9) q2) I fun d3 Y2 s1 ⟨P0,hu_,M1⟩=>?_
 subst hu_
 obtain ⟨D0,U2⟩:=v0.agr s1
 refine Ab (FV.field1 (cs:=[.bool F2.fh,P0]) (off:=1) (m:=1) I I I I)<|Ag I<|Aa<|Ao I<|Bi hb0 func155 I I ?_
 cases h
 exact ⟨D0.ag,fun w9 hw9=>⟨P0,I,D0.kd M1 hw9⟩⟩
def bP_l1 (_n:Nat) (a0:La Ua) (a1:La Ua) (g0:Int -> Oa (Int ⊕ Unit)):Int -> Oa (Int ⊕ Unit)
  | b0=>(if 0 <= b0 then (idx a0 b0).bind fun c0=>(idx a1 b0).bind fun d0=>(if c0 < d0 then some (.inl (-1:Int)) else (if d0 < c0 then some (.inl (1:Int)) else (chk (b0 - 1)).bind fun j0=>g0 j0)) else some (.inr ()))
def bP_p (n:Nat) (a0:La Ua) (a1:La Ua):Oa Int:=
  (if a0.length = a1.length then thn (au (bP_l1 n a0 a1) n (((a0.length:Nat):Int) - 1)) (fun _=>some (0:Int)) else some (((a0.length:Nat):Int) - ((a1.length:Nat):Int)))
theorem bP_c (n:Nat) {L w} (_hL:hl L w) {a0:La Ua} {v0_0:Vc} (h0_0:Rep.R w L [v0_0] a0) {a1:La Ua} {v1_0:Vc} (h1_0:Rep.R w L [v1_0] a1)  {r:Int} (h:bP_p n a0 a1 = some r) :
 Cl 156 #[v0_0,v1_0] w (aj w fun _ u=>u = vI r):=by
 unfold bP_p at h
 have hS0:=AD w
 refine AK func156 I I I fun _ cs0 hb0=>Ac<|Ag I<|Aa<|Aj<|Ac<|Ae I ?_
 have hl1:=Bh h0_0
 refine Ab (Bk (xs:=a0) underlying131 I h0_0)<|Ae I ?_
 have hl2:=Bh h1_0
 refine Ab (Bk (xs:=a1) underlying131 I h1_0)<|Ab (FV.neqN (i:=a0.length) (j:=a1.length) I I)<|Aa<|MX.ifn I h (fun c3 h=>?_) (fun c3 h=>?_)
 refine Az<|Aj<|Ac<|Ae I<|Ab (Bk (xs:=a0) underlying131 I h0_0)<|Ab (FV.subI (i:=((a0.length:Nat):Int)) (j:=1) I I (by omega))<|Ag I<|Aa<|AF<|tn h fun j1 M0 p0=>MX.lo (α:=Int) (fun d0=>[(0,v0_0),(1,v1_0),(5,vI d0)]) (fun d0=>[]) (fun d0=>d0) (((a0.length:Nat):Int) - 1) M0 hS0 ?_
 rintro c1 d0 k1 H0 k0 I0 h
 unfold bP_l1 at h
 try dsimp only at h
 refine Aj<|Ac<|Ae I<|Ab (FV.geq (i:=d0) (j:=0) I I)<|Aa<|Be I h (fun C0 h=>?_) (fun C0 h=>?_)
 refine Az<|Aj<|AF<|AF<|Aj<|du 10 fun b0 g0=>Rv 0 b0 I g0 (fun _=>Ak I)<|Rv 1 b0 I g0 (fun _=>Ak I)<|bk h fun q0 U0 h=>?_
 obtain ⟨v0,V0⟩:=aL U0
 obtain ⟨Z0,d1,t0,y0,F0,P0,A0⟩:=Bw (Bb h0_0 k0) V0
 have J0:F0 = [vU q0]:=P0; subst J0
 refine Rv 2 b0 I g0 (fun _=>BE 1 (d0.toNat) I t0 I v0 y0)<|Rx 3 768 b0 I g0 (AN I (A0 0 _ I))<|Rv 4 b0 I g0 (fun _=>Ak I)<|Rv 5 b0 I g0 (fun _=>Ak I)<|bk h fun s0 W0 h=>?_
 obtain ⟨x0,X0⟩:=aL W0
 obtain ⟨b1,g1,u0,z0,G0,Q0,B0⟩:=Bw (Bb h1_0 k0) X0
 have K0:G0 = [vU s0]:=Q0; subst K0
 refine Rv 6 b0 I g0 (fun _=>BE 1 (d0.toNat) I u0 I x0 z0)<|Rx 7 768 b0 I g0 (AN I (B0 0 _ I))<|Rv 8 b0 I g0 (fun _=>FV.lssU (a:=q0) (b:=s0) I I)<|Rv 9 b0 I g0 (fun _=>Bn I)<|AO (dk b0)<|Be I h (fun D0 h=>?_) (fun D0 h=>?_)
 refine Ac<|Ag I<|Aa ?_
 have h:=ar h p0
 refine Ao I<|Bi hb0 func156 I I ?_
 cases h
 exact k0.gv
 refine Aj<|du 10 fun c0 j0=>Rv 0 c0 I j0 (fun _=>Ak I)<|Rv 1 c0 I j0 (fun _=>Ak I)<|Rv 2 c0 I j0 (fun _=>BE 1 (d0.toNat) I t0 I v0 y0)<|Rx 3 768 c0 I j0 (AN I (A0 0 _ I))<|Rv 4 c0 I j0 (fun _=>Ak I)<|Rv 5 c0 I j0 (fun _=>Ak I)<|Rv 6 c0 I j0 (fun _=>BE 1 (d0.toNat) I u0 I x0 z0)<|Rx 7 768 c0 I j0 (AN I (B0 0 _ I))<|Rv 8 c0 I j0 (fun _=>FV.gtrU (a:=q0) (b:=s0) I I)<|Rv 9 c0 I j0 (fun _=>Bn I)<|AO (dk c0)<|Be I h (fun E0 h=>?_) (fun E0 h=>?_)
 refine Ac<|Ag I<|Aa ?_
 have h:=ar h p0
 refine Ao I<|Bi hb0 func156 I I ?_
 cases h
 exact k0.gv
 refine Az<|AI<|AI<|Av<|Ae I<|bk h fun Y0 R0 h=>Ab (FV.subc (i:=d0) (j:=1) I I R0)<|Ag I<|Aa<|H0 Y0 k0 I0 h
 refine Bj I ?_
 have h:=aI h p0
 try dsimp only at h
 refine Ac<|Ag I<|Aa<|Ao I<|Bi hb0 func156 I I ?_
 cases h
 exact k0.gv
 refine Ac<|Ae I<|Ab (Bk (xs:=a0) underlying131 I h0_0)<|Ae I<|Ab (Bk (xs:=a1) underlying131 I h1_0)<|Ab (FV.subI (i:=((a0.length:Nat):Int)) (j:=((a1.length:Nat):Int)) I I (by omega))<|Ag I<|Aa<|Ao I<|Bi hb0 func156 I I ?_
 cases h
 exact hS0.gv
def ca_l1 (_n:Nat) (a0:La Ua) (a1:La Ua) (j0:Ua × Nat × (La Ua) -> Oa (La Ua)):Ua × Nat × (La Ua) -> Oa (La Ua)
  | (k0,b0,c0)=>(if b0 < a0.length then (a0[b0]?).bind fun q0=>jn (fun p0=>(sub64 q0 p0 k0).bind fun g0=>(c0[b0]?).bind fun _x193=>(put c0 ((b0:Nat):Int) g0.1).bind fun t0=>j0 (g0.2,b0 + 1,t0)) (fun d0=>(if b0 < a1.length then (a1[b0]?).bind fun s0=>d0 s0 else d0 (0:Ua))) else some c0)
def ca_p (n:Nat) (a0:La Ua) (a1:La Ua):Oa (La Ua):=
  (mk ((a0.length:Nat):Int) (0:Ua)).bind fun b0=>Option.bind (au (ca_l1 n a0 a1) n (0,0,b0)) (fun c0=>some c0)
theorem ca_c (n:Nat) {L w} (hL:hl L w) {a0:La Ua} {v0_0:Vc} (h0_0:Rep.R w L [v0_0] a0) {a1:La Ua} {v1_0:Vc} (h1_0:Rep.R w L [v1_0] a1)  {r:La Ua} (h:ca_p n a0 a1 = some r) :
 Cl 157 #[v0_0,v1_0] w (aj w fun w' u=>∃ v0_0:Vc,u = v0_0/\Rep.R w' L [v0_0] r):=by
 unfold ca_p at h
 refine AK func157 I I I fun _ cs0 hb0=>Ac<|Ag I<|Aa<|Ac<|Ae I ?_
 have hl1:=Bh h0_0
 refine Ab (Bk (xs:=a0) underlying131 I h0_0)<|bk h fun H0 E0 h=>Ah .plain I (Does.mk (α:=Ua) E0 (AD w) cU I) fun c2 k0 q0 W1=>Ag I<|Aa<|Ac<|Ag I<|Aa<|Aj<|Ac<|Ae I<|Ab (Bk (xs:=a0) underlying131 I (Bb h0_0 q0))<|Ae I<|Aa<|AF ?_
 obtain ⟨b2,v1,k1⟩:=av h
 refine MX.lf (α:=Ua × Nat × (La Ua) × (La Vc)) (fun ⟨j0,b0,c0,d0⟩=>[(1,v1_0),(5,(.slice (some ⟨k0,0,none⟩) ((a0.length:Nat):Int).toNat ((a0.length:Nat):Int).toNat)),(6,vU j0),(13,v0_0),(14,vn a0.length),(15,vn b0)]) (fun ⟨j0,b0,c0,d0⟩=>[rr w 42 Ua (.slice (some ⟨k0,0,none⟩) ((a0.length:Nat):Int).toNat ((a0.length:Nat):Int).toNat) c0.length d0]) (fun ⟨j0,b0,c0,d0⟩ F0=>Cells F0 (bl [rr w 42 Ua (.slice (some ⟨k0,0,none⟩) ((a0.length:Nat):Int).toNat ((a0.length:Nat):Int).toNat) c0.length d0] ++ L) d0 c0) (fun ⟨j0,b0,c0,d0⟩=>(j0,b0,c0)) (0,0,H0,(List.replicate ((a0.length:Nat):Int).toNat [vW 0]).flatten) v1 q0 (AJ (cs:=(List.replicate ((a0.length:Nat):Int).toNat [vW 0]).flatten) (xs:=H0) q0 L (Cells.mk E0 I)) ?_
 rintro M1 ⟨j0,b0,c0,d0⟩ F0 V0 g0 X0 A0 h
 unfold ca_l1 at h
 try dsimp only at h
 refine Ac<|Ab (BD (i:=b0) (j:=a0.length) I I)<|Aa<|Aj<|Be I h (fun K0 h=>?_) (fun K0 h=>?_)
 refine Az<|Aj<|AF<|Ac<|Ae I<|bk h fun x0 B1 h=>?_
 obtain ⟨J1,Q1,b1,p1,P0,x1,s1⟩:=Bw (Bb h0_0 g0) B1
 have c1:P0 = [vU x0]:=x1; subst c1
 refine Ab (BE 1 b0 I b1 I I p1)<|AY I (s1 0 _ I)<|Ag I<|Ag I<|Aa<|Ac<|Ag I<|Aa<|Aj<|Ac<|Ae I<|Ae I ?_
 have v0:=Bb h1_0 g0
 have Y1:=Bh v0
 refine Ab (Bk (xs:=a1) underlying131 I v0)<|Ab (BD (i:=b0) (j:=a1.length) I I)<|Aa<|MX.jo (α:=Ua) (fun p0=>[(1,v1_0),(5,(.slice (some ⟨k0,0,none⟩) ((a0.length:Nat):Int).toNat ((a0.length:Nat):Int).toNat)),(6,vU j0),(13,v0_0),(14,vn a0.length),(15,vn b0),(7,vn b0),(8,vU x0),(9,vU p0)]) (fun p0=>[rr w 42 Ua (.slice (some ⟨k0,0,none⟩) ((a0.length:Nat):Int).toNat ((a0.length:Nat):Int).toNat) c0.length d0]) (fun p0=>p0) g0 h ?_ ?_
 rintro p0 g2 s0 z0 h
 try dsimp only at h
 refine Av<|Ae I<|Ae I<|Ae I<|Ae I<|Ae I<|bk h fun I1 F1 h=>Ab (FV.sub64 (a:=x0) (b:=p0) (c:=j0) func185 I I I I I I I F1)<|Ae I<|Ab (Ai I I)<|Ab (Ai I I)<|bk h fun G1 C1 h=>?_
 have D0:=AG A0 z0
 obtain ⟨I0,R1,u0,C0,Q0,y1,Z1⟩:=St.nth (α:=Ua) s0 .hd D0 C1
 obtain ⟨J0,U1,B0⟩:=Cb (α:=Ua) s0 .hd C0
 obtain rfl:I0 = ⟨J0,0,none⟩:=by rw [B0] at u0; cases u0; rfl
 have d1:Q0 = [vU G1]:=y1; subst d1
 refine Ab (BE 1 b0 I u0 I I C0)<|bk h fun H1 E1 h=>RG.acts' .plain (Acts.set (α:=Ua) (i:=b0) E1 s0 B0 (fun _=>.hd) D0 I I I I I I) fun d2 ⟨R0,W0,Y0,Z0⟩=>Ag I<|Aa<|AI<|Av<|Ab (Bu (i:=b0) (j:=1) I I (by omega))<|Ae I<|Aa<|V0 (I1.2,b0 + 1,H1,R0) W0 (Tt X0 (Tt z0 Y0)) Z0 h
 intro P1 y0 h
 try dsimp only at h
 refine Be I h (fun M0 h=>?_) (fun M0 h=>?_)
 refine Av<|Ae I<|Ae I<|bk h fun G0 D1 h=>?_
 obtain ⟨K1,V1,g1,q1,U0,z1,u1⟩:=Bw v0 D1
 have j1:U0 = [vU G0]:=z1; subst j1
 refine Ab (BE 1 b0 I g1 I I q1)<|AY I (u1 0 _ I)<|Ag I<|Aa<|y0 G0 g0 (Br _ _) h
 refine Az<|y0 (0:Ua) g0 (Br _ _) h
 refine Bj I ?_
 have h:=k1 _ h
 try dsimp only at h
 refine Ac<|Ae I<|Ag I<|Aa<|Ao I ?_
 have t0:=BI g0 .hd
 have X1:=BJ g0 .hd
 have A1:=BK (α:=Ua) (v:=(.slice (some ⟨k0,0,none⟩) ((a0.length:Nat):Int).toNat ((a0.length:Nat):Int).toNat)) (xs:=c0) t0 L (Bl (α:=Ua) g0 .hd A0 hL)
 refine Bi hb0 func157 I I ?_
 cases h
 exact ⟨t0.ag,fun w9 hw9=>⟨(.slice (some ⟨k0,0,none⟩) ((a0.length:Nat):Int).toNat ((a0.length:Nat):Int).toNat),I,t0.kd A1 hw9⟩⟩

def aT_l1 (n:Nat) (a0:La Ua) (a1:La Ua) (j0:Ua × Int × (La Ua) -> Oa (Ua × (La Ua))):Ua × Int × (La Ua) -> Oa (Ua × (La Ua))
  | (d0,b0,c0)=>(if 0 <= b0 then (idx a0 b0).bind fun p0=>(a1[0]?).bind fun q0=>(aO_p n d0 p0 q0).bind fun g0=>(idx c0 b0).bind fun _x169=>(put c0 ((b0.toNat:Nat):Int) g0.1).bind fun s0=>(chk (b0 - 1)).bind fun k0=>j0 (g0.2,k0,s0) else some (d0,c0))
def aT_l2 (n:Nat) (a1:La Ua) (p0:(La Ua) × Int × (La Ua) -> Oa ((La Ua) × (La Ua))):(La Ua) × Int × (La Ua) -> Oa ((La Ua) × (La Ua))
  | (c0,b0,d0)=>(if 0 <= b0 then (cN_p n a1 b0).bind fun k0=>(bP_p n c0 k0).bind fun z0=>jn (fun (v0,x0)=>(chk (b0 - 1)).bind fun s0=>p0 (v0,s0,x0)) (fun g0=>(if 0 <= z0 then (ca_p n c0 k0).bind fun A0=>(az_p n false A0).bind fun B0=>(cL b0 64).bind fun j0=>(idx d0 j0).bind fun u0=>(ci b0 64).bind fun t0=>(bE t0).bind fun q0=>(put d0 ((j0.toNat:Nat):Int) (u0 ||| (shlU (1:Ua) q0))).bind fun y0=>g0 (B0.fu,y0) else g0 (c0,d0))) else some (d0,c0))
def aT_p (n:Nat) (a0:La Ua) (a1:La Ua):Oa ((La Ua) × (La Ua)):=
  (mk ((a0.length:Nat):Int) (0:Ua)).bind fun b0=>(if a1.length = 1 then Option.bind (au (aT_l1 n a0 a1) n (0,((a0.length:Nat):Int) - 1,b0)) (fun (d0,g0)=>(az_p n false ([d0]:La Ua)).bind fun p0=>some (g0,p0.fu)) else (di_p n a0).bind fun q0=>(di_p n a1).bind fun s0=>(chk (q0 - s0)).bind fun c0=>Option.bind (au (aT_l2 n a1) n (a0,c0,b0)) (fun (k0,j0)=>some (k0,j0)))
theorem aT_c (n:Nat) {L w} (hL:hl L w) {a0:La Ua} {v0_0:Vc} (h0_0:Rep.R w L [v0_0] a0) {a1:La Ua} {v1_0:Vc} (h1_0:Rep.R w L [v1_0] a1)  {r:(La Ua) × (La Ua)} (h:aT_p n a0 a1 = some r) :
 Cl 121 #[v0_0,v1_0] w (aj w fun w' u=>∃ v0_0 v1_0:Vc,u = .tuple #[v0_0,v1_0]/\Rep.R w' L [v0_0] r.1/\Rep.R w' L [v1_0] r.2):=by
 unfold aT_p at h
 refine AK func121 I I I fun _ cs0 hb0=>Ac<|Ag I<|Ag I<|Aa<|Ac<|Ae I ?_
 have hl1:=Bh h0_0
 refine Ab (Bk (xs:=a0) underlying131 I h0_0)<|bk h fun g1 E1 h=>Ah .plain I (Does.mk (α:=Ua) E1 (AD w) cU I) fun g5 d0 t0 Q4=>?_
 have u1:=AJ (cs:=(List.replicate ((a0.length:Nat):Int).toNat [vW 0]).flatten) (xs:=g1) t0 L (Cells.mk E1 I)
 refine Ag I<|Aa<|Aj<|Ac<|Ae I ?_
 have A1:=Bb h1_0 t0
 have R4:=Bh A1
 refine Ab (Bk (xs:=a1) underlying131 I A1)<|Ab (BZ (i:=a1.length) (j:=1) I I)<|Aa<|Be I h (fun b2 h=>?_) (fun b2 h=>?_)
 refine Ac<|Ag I<|Aa<|Aj<|Ac<|Ae I<|Ab (Bk (xs:=a0) underlying131 I (Bb h0_0 t0))<|Ab (FV.subI (i:=((a0.length:Nat):Int)) (j:=1) I I (by omega))<|Ag I<|Aa<|AF ?_
 obtain ⟨V4,u3,b3⟩:=av h
 refine MX.lf (α:=Ua × Int × (La Ua) × (La Vc)) (fun ⟨g0,q0,z0,B0⟩=>[(0,v0_0),(1,v1_0),(4,(.slice (some ⟨d0,0,none⟩) ((a0.length:Nat):Int).toNat ((a0.length:Nat):Int).toNat)),(6,vU g0),(7,vI q0)]) (fun ⟨g0,q0,z0,B0⟩=>[rr w 42 Ua (.slice (some ⟨d0,0,none⟩) ((a0.length:Nat):Int).toNat ((a0.length:Nat):Int).toNat) z0.length B0]) (fun ⟨g0,q0,z0,B0⟩ H1=>Cells H1 (bl [rr w 42 Ua (.slice (some ⟨d0,0,none⟩) ((a0.length:Nat):Int).toNat ((a0.length:Nat):Int).toNat) z0.length B0] ++ L) B0 z0) (fun ⟨g0,q0,z0,B0⟩=>(g0,q0,z0)) (0,((a0.length:Nat):Int) - 1,g1,(List.replicate ((a0.length:Nat):Int).toNat [vW 0]).flatten) u3 t0 u1 ?_
 rintro E4 ⟨g0,q0,z0,B0⟩ H1 t2 C0 z2 V0 h
 unfold aT_l1 at h
 try dsimp only at h
 refine Aj<|Ac<|Ae I<|Ab (FV.geq (i:=q0) (j:=0) I I)<|Aa<|Be I h (fun Z1 h=>?_) (fun Z1 h=>?_)
 refine Az<|Aj<|AF<|du 15 fun b0 c0=>Rv 0 b0 I c0 (fun _=>Ak I)<|Rv 1 b0 I c0 (fun _=>Ak I)<|Rv 2 b0 I c0 (fun _=>Ak I)<|Rv 3 b0 I c0 (fun _=>Ak I)<|Rv 4 b0 I c0 (fun _=>Ak I)<|bk h fun I1 P3 h=>?_
 obtain ⟨d3,Q3⟩:=aL P3
 obtain ⟨C4,H4,U2,j3,g2,x3,q3⟩:=Bw (Bb h0_0 C0) Q3
 have V2:g2 = [vU I1]:=x3; subst V2
 refine Rv 5 b0 I c0 (fun _=>BE 1 (q0.toNat) I U2 I d3 j3)<|Rx 6 130048 b0 I c0 (AN I (q3 0 _ I))<|Rv 7 b0 I c0 (fun _=>Ak I)<|bk h fun J1 R3 h=>?_
 obtain ⟨D4,I4,W2,k3,j2,y3,s3⟩:=Bw (Bb h1_0 C0) R3
 have X2:j2 = [vU J1]:=y3; subst X2
 refine Rv 8 b0 I c0 (fun _=>BE 1 0 I W2 I I k3)<|Rx 9 130048 b0 I c0 (AN I (s3 0 _ I))<|bk h fun j1 b4 h=>BQ 10 2047 129024 (.tuple #[vU j1.1,vU j1.2]) b0 I c0 (bd 153) I (e3 I I I) (fun p q=>aO_c n (C0.hL0 hL q) g0 I1 J1 b4) I<|Rv 11 b0 I c0 (fun _=>Ak I)<|Rv 12 b0 I c0 (fun _=>Ai I I)<|Rv 13 b0 I c0 (fun _=>Ai I I)<|bk h fun y4 U3 h=>?_
 obtain ⟨g3,V3⟩:=aL U3
 obtain ⟨U1,J4,X0,z1,k2,z3,U4⟩:=St.nth (α:=Ua) C0 .hd V0 V3
 obtain ⟨W1,K4,v1⟩:=Cb (α:=Ua) C0 .hd z1
 obtain rfl:U1 = ⟨W1,0,none⟩:=by rw [v1] at X0; cases X0; rfl
 have Y2:k2 = [vU y4]:=z3; subst Y2
 refine Rv 14 b0 I c0 (fun _=>BE 1 (q0.toNat) I X0 I g3 z1)<|bk h fun z4 Y3 h=>AT (i:=15) (rk b0) (RO.acts (m' :=65535) (sk b0) I I .plain (Acts.set (α:=Ua) (i:=q0.toNat) Y3 C0 v1 (fun _=>.hd) V0 I I I I I I) (fun j5 ⟨p2,v2,A2,P2⟩=>?_))
 refine Rv 16 b0 I c0 (fun _=>Bn I)<|AO (dk b0)<|AI<|Av<|Ae I<|bk h fun t4 H3 h=>Ab (FV.subc (i:=q0) (j:=1) I I H3)<|Ag I<|Aa<|t2 (j1.2,t4,z4,p2) v2 (Tt z2 A2) P2 h
 refine Bj I ?_
 have h:=b3 _ h
 try dsimp only at h
 refine Ac<|Ae I<|Ae I<|Ah .plain I (jA g0 (vU g0) C0 cU (e1 I)) fun k5 X1 I0 B2=>?_
 have Q0:=BI I0 .hd
 have C2:=BJ I0 .hd
 refine bk h fun B4 c4 h=>jE (bd 151) I (e2 I I) (fun p q=>az_c n (Q0.hL hL q) (Ar (BK (α:=Ua) (v:=(vS X1 1)) (xs:=([g0]:La Ua)) Q0 L (Bl (α:=Ua) I0 .hd (jC g0 (vU g0) I0 L I) hL)) q) c4) I fun p5 Z4 I2 ⟨F1,hu_,A3⟩=>?_
 subst hu_
 obtain ⟨R0,D2⟩:=Q0.agr I2
 refine Ab (FV.field1 (cs:=[.bool B4.fh,F1]) (off:=1) (m:=1) I I I I)<|Ag I<|Ag I<|Aa<|Ao I ?_
 have J0:=BI R0 .hd
 have E2:=BJ R0 .hd
 have B3:=BK (α:=Ua) (v:=(.slice (some ⟨d0,0,none⟩) ((a0.length:Nat):Int).toNat ((a0.length:Nat):Int).toNat)) (xs:=z0) J0 L (Bl (α:=Ua) R0 .hd (AG V0 (Tt B2 (Tt C2 D2))) hL)
 refine Au hb0 func121 I (.cons (.tmp I) (.cons (.tmp I) .nil)) I ?_
 cases h
 exact ⟨J0.ag,fun p q=>⟨(.slice (some ⟨d0,0,none⟩) ((a0.length:Nat):Int).toNat ((a0.length:Nat):Int).toNat),F1,I,J0.kd B3 q,J0.kd (Ap A3 E2) q⟩⟩
 refine Az<|Ac<|Ae I<|Ag I<|Aa<|Aj<|Ac<|Ae I<|bk h fun M1 d4 h=>Bm (vI M1) (bd 154) I (e1 I) (fun p q=>di_c n (t0.hL0 hL q) (t0.k0 h0_0 q) d4) I<|Ae I<|bk h fun P1 g4 h=>Bm (vI P1) (bd 154) I (e1 I) (fun p q=>di_c n (t0.hL0 hL q) (t0.k0 h1_0 q) g4) I<|bk h fun u4 I3 h=>Ab (FV.subc (i:=M1) (j:=P1) I I I3)<|Ag I<|Aa<|AF ?_
 obtain ⟨W4,v3,c3⟩:=av h
 refine MX.lf (α:=(La Ua) × Int × (La Ua) × Vc × (La Vc)) (fun ⟨F0,s0,p0,A0,x0⟩=>[(1,v1_0),(4,(.slice (some ⟨d0,0,none⟩) ((a0.length:Nat):Int).toNat ((a0.length:Nat):Int).toNat)),(5,A0),(8,vI s0)]) (fun ⟨F0,s0,p0,A0,x0⟩=>[rr w 42 Ua (.slice (some ⟨d0,0,none⟩) ((a0.length:Nat):Int).toNat ((a0.length:Nat):Int).toNat) p0.length x0]) (fun ⟨F0,s0,p0,A0,x0⟩ c1=>Rep.R c1 (bl [rr w 42 Ua (.slice (some ⟨d0,0,none⟩) ((a0.length:Nat):Int).toNat ((a0.length:Nat):Int).toNat) p0.length x0] ++ L) [A0] F0/\Cells c1 (bl [rr w 42 Ua (.slice (some ⟨d0,0,none⟩) ((a0.length:Nat):Int).toNat ((a0.length:Nat):Int).toNat) p0.length x0] ++ L) x0 p0) (fun ⟨F0,s0,p0,A0,x0⟩=>(F0,s0,p0)) (a0,u4,g1,v0_0,(List.replicate ((a0.length:Nat):Int).toNat [vW 0]).flatten) v3 t0 ⟨(Bb h0_0 t0),u1⟩ ?_
 rintro F4 ⟨F0,s0,p0,A0,x0⟩ c1 u2 H0 F2 ⟨C1,W0⟩ h
 unfold aT_l2 at h
 try dsimp only at h
 refine Aj<|Ac<|Ae I<|Ab (FV.geq (i:=s0) (j:=0) I I)<|Aa<|Be I h (fun c2 h=>?_) (fun c2 h=>?_)
 refine Az<|Aj<|AF<|Ac<|Ae I<|Ae I<|bk h fun v5 j4 h=>jE (bd 155) I (e2 I I) (fun p q=>cN_c n (H0.hL hL q) (H0.km h1_0 q) j4) I fun q5 b5 J2 ⟨X4,hu_,D1⟩=>?_
 subst hu_
 obtain ⟨D0,M0⟩:=H0.agr J2
 refine Ag I<|Aa<|Ac<|Ae I<|Ae I<|bk h fun Q1 k4 h=>?_
 have Z0:=Ap C1 M0
 refine Bm (vI Q1) (bd 156) I (e2 I I) (fun p q=>bP_c n (D0.hL0 hL q) (D0.kd Z0 q) (D0.kd D1 q) k4) I<|Ab (FV.geq (i:=Q1) (j:=0) I I)<|Aa<|MX.jf (α:=(La Ua) × (La Ua) × Vc × (La Vc)) (fun ⟨G0,v0,E0,y0⟩=>[(1,v1_0),(4,(.slice (some ⟨d0,0,none⟩) ((a0.length:Nat):Int).toNat ((a0.length:Nat):Int).toNat)),(5,E0),(8,vI s0)]) (fun ⟨G0,v0,E0,y0⟩=>[rr w 42 Ua (.slice (some ⟨d0,0,none⟩) ((a0.length:Nat):Int).toNat ((a0.length:Nat):Int).toNat) v0.length y0]) (fun ⟨G0,v0,E0,y0⟩ d1=>Rep.R d1 (bl [rr w 42 Ua (.slice (some ⟨d0,0,none⟩) ((a0.length:Nat):Int).toNat ((a0.length:Nat):Int).toNat) v0.length y0] ++ L) [E0] G0/\Cells d1 (bl [rr w 42 Ua (.slice (some ⟨d0,0,none⟩) ((a0.length:Nat):Int).toNat ((a0.length:Nat):Int).toNat) v0.length y0] ++ L) y0 v0) (fun ⟨G0,v0,E0,y0⟩=>(G0,v0)) D0 h ?_ ?_
 rintro ⟨G0,v0,E0,y0⟩ d1 x2 G2 ⟨C3,Q2⟩ h
 try dsimp only at h
 refine AI<|Av<|Ae I<|bk h fun v4 J3 h=>Ab (FV.subc (i:=s0) (j:=1) I I J3)<|Ag I<|Aa<|u2 (G0,v4,v0,E0,y0) x2 (Tt F2 (Tt M0 G2)) ⟨C3,Q2⟩ h
 intro G4 k1 h
 try dsimp only at h
 refine Be I h (fun d2 h=>?_) (fun d2 h=>?_)
 refine Ac<|Ae I<|Ae I<|bk h fun x5 p4 h=>jE (bd 157) I (e2 I I) (fun p q=>ca_c n (D0.hL hL q) (Ar Z0 q) (Ar D1 q) p4) I fun s5 c5 K2 ⟨Y4,hu_,D3⟩=>?_
 subst hu_
 obtain ⟨p1,q1⟩:=D0.agr K2
 refine bk h fun R1 q4 h=>jE (bd 151) I (e2 I I) (fun p q=>az_c n (p1.hL hL q) (Ar D3 q) q4) I fun t5 d5 M2 ⟨G1,hu_,E3⟩=>?_
 subst hu_
 obtain ⟨U0,s1⟩:=p1.agr M2
 refine Ab (FV.field1 (cs:=[.bool R1.fh,G1]) (off:=1) (m:=1) I I I I)<|Ag I<|Aa<|du 10 fun j0 u0=>Rv 0 j0 I u0 (fun _=>Ak I)<|Rv 1 j0 I u0 (fun _=>Ak I)<|bk h fun b1 K3 h=>Rv 2 j0 I u0 (fun _=>FV.quoc (i:=s0) (j:=64) I I K3)<|bk h fun K1 W3 h=>?_
 obtain ⟨y1,X3⟩:=aL W3
 have B1:=AG W0 (Tt M0 (Tt q1 s1))
 obtain ⟨V1,M4,P0,Y0,q2,F3,t3⟩:=St.nth (α:=Ua) U0 .hd B1 X3
 obtain ⟨Y1,P4,x1⟩:=Cb (α:=Ua) U0 .hd Y0
 obtain rfl:V1 = ⟨Y1,0,none⟩:=by rw [x1] at P0; cases P0; rfl
 have Z2:q2 = [vU K1]:=F3; subst Z2
 refine Rv 3 j0 I u0 (fun _=>BE 1 (b1.toNat) I P0 I y1 Y0)<|Rx 4 1792 j0 I u0 (AN I (t3 0 _ I))<|Rv 5 j0 I u0 (fun _=>Ak I)<|bk h fun x4 M3 h=>Rv 6 j0 I u0 (fun _=>FV.remc (i:=s0) (j:=64) I I M3)<|bk h fun s4 p3 h=>Rv 7 j0 I u0 (fun _=>FV.shlI (a:=(1:Ua)) (i:=x4) I I p3)<|Rv 8 j0 I u0 (fun _=>FV.orU (a:=K1) (b:=shlU (1:Ua) s4) I I)<|Rv 9 j0 I u0 (fun _=>BE 1 (b1.toNat) I P0 I y1 Y0)<|bk h fun A4 Z3 h=>AT (i:=10) (rk j0) (RO.acts (m' :=2047) (sk j0) I I .plain (Acts.set (α:=Ua) (i:=b1.toNat) Z3 U0 x1 (fun _=>.hd) B1 I I I I I I) (fun u5 ⟨s2,y2,t1,R2⟩=>?_))
 refine AO (dk j0)<|k1 (R1.fu,A4,G1,s2) y2 (Tt q1 (Tt s1 t1)) ⟨(Ap E3 t1),R2⟩ h
 refine Az<|k1 (F0,p0,A0,x0) D0 (Br _ _) ⟨Z0,(AG W0 M0)⟩ h
 refine Bj I ?_
 have h:=c3 _ h
 try dsimp only at h
 refine Ac<|Ae I<|Ae I<|Ag I<|Ag I<|Aa<|Ao I ?_
 have K0:=BI H0 .hd
 have H2:=BJ H0 .hd
 have G3:=BK (α:=Ua) (v:=(.slice (some ⟨d0,0,none⟩) ((a0.length:Nat):Int).toNat ((a0.length:Nat):Int).toNat)) (xs:=p0) K0 L (Bl (α:=Ua) H0 .hd W0 hL)
 refine Au hb0 func121 I (.cons (.tmp I) (.cons (.tmp I) .nil)) I ?_
 cases h
 exact ⟨K0.ag,fun p q=>⟨(.slice (some ⟨d0,0,none⟩) ((a0.length:Nat):Int).toNat ((a0.length:Nat):Int).toNat),A0,I,K0.kd G3 q,K0.kd (Ap C1 H2) q⟩⟩
def aK_l1 (n:Nat) (d0:(La Ua) × (La Ua) -> Oa (La Ua)):(La Ua) × (La Ua) -> Oa (La Ua)
  | (c0,b0)=>(if 0 < b0.length then (aT_p n c0 b0).bind fun g0=>d0 (b0,g0.2) else some c0)
def aK_p (n:Nat) (a0:Th) (a1:Th):Oa Th:=
  Option.bind (au (aK_l1 n) n (a0.fu,a1.fu)) (fun b0=>some (⟨false,b0⟩:Th))
theorem aK_c (n:Nat) {L w} (hL:hl L w) (a0:Th) {v0_1:Vc} (h0_1:Rep.R w L [v0_1] a0.fu) (a1:Th) {v1_1:Vc} (h1_1:Rep.R w L [v1_1] a1.fu)  {r:Th} (h:aK_p n a0 a1 = some r) :
 Cl 86 #[.agg #[.bool a0.fh,v0_1],.agg #[.bool a1.fh,v1_1]] w (aj w fun w' u=>∃ v0_1:Vc,u = .agg #[.bool r.fh,v0_1]/\Rep.R w' L [v0_1] r.fu):=by
 unfold aK_p at h
 refine AK func86 I I I fun _ cs0 hb0=>Ac<|RG.bx (AD w) I I fun s1 W0 C0 Z0=>RG.bx C0 I I fun u1 X0 D0 b1=>RG.nl [.bool false,vN] D0 fun v1 p0 t0 c1=>Aa<|Aj<|du 6 fun d0 j0=>Rv 0 d0 I j0 (fun _=>AS 1 I)<|Rx 1 48 d0 I j0 (AN I ((t0.memA .t2) 1 _ I))<|Rv 2 d0 I j0 (fun _=>AS 1 I)<|Rx 3 32 d0 I j0 (AN I ((t0.memA .t1) 1 _ I))<|Rv 4 d0 I j0 (fun _=>Bn I)<|Rv 5 d0 I j0 (fun _=>Bn I)<|AO (dk d0)<|Aj<|AF ?_
 obtain ⟨u0,d1⟩:=Am t0 (.a0 .done)
 obtain ⟨k1,J0,I0⟩:=av h
 refine MX.lf (α:=(La Ua) × (La Ua) × Vc × Vc) (fun ⟨k0,c0,b0,g0⟩=>[(4,vP p0),(5,b0),(6,g0)]) (fun ⟨k0,c0,b0,g0⟩=>[.cells p0 [.bool false,vN] 133]) (fun ⟨k0,c0,b0,g0⟩ y0=>Rep.R y0 (bl [.cells p0 [.bool false,vN] 133] ++ L) [b0] k0/\Rep.R y0 (bl [.cells p0 [.bool false,vN] 133] ++ L) [g0] c0) (fun ⟨k0,c0,b0,g0⟩=>(k0,c0)) (a0.fu,a1.fu,v0_1,v1_1) J0 u0 ⟨(Bb h0_1 u0),(Bb h1_1 u0)⟩ ?_
 rintro V0 ⟨k0,c0,b0,g0⟩ y0 B0 v0 F0 ⟨q0,s0⟩ h
 unfold aK_l1 at h
 try dsimp only at h
 refine Aj<|Ac<|Ae I ?_
 have g1:=Bh s0
 refine Ab (Bk (xs:=c0) underlying131 I s0)<|Ab (FV.gtrN (i:=c0.length) (j:=0) I I)<|Aa<|Be I h (fun A0 h=>?_) (fun A0 h=>?_)
 refine Az<|AF<|Ac<|Ae I<|Ae I<|bk h fun R0 P0 h=>jE (bd 121) I (e2 I I) (fun p q=>aT_c n (v0.hL hL q) (Ar q0 q) (Ar s0 q) P0) I fun x1 q1 H0 ⟨p1,Q0,hu_,j1,K0⟩=>?_
 subst hu_
 obtain ⟨E0,z0⟩:=v0.agr H0
 refine Ae I<|Ab (Ai I I)<|Ab (Ai I I)<|Ag I<|Ag I<|Aa<|Av<|Ae I<|Ae I<|Ag I<|Ag I<|Aa<|AI<|B0 (c0,R0.2,g0,Q0) E0 (Tt F0 z0) ⟨(Ap s0 z0),K0⟩ h
 refine Bj I ?_
 have h:=I0 _ h
 try dsimp only at h
 refine Ac<|Ae I ?_
 obtain ⟨U0,Y0,M0,_⟩:=Rep.sl q0
 refine Ab (AP (vs:=[b0]) (u:=.agg #[.bool false,b0]) (e1 I) (fun p=>by rw [M0]; try kernel_rfl))<|AW [.bool false,b0] v0 .hd (o2 I (AX q0)) fun y1 x0 G0=>Aa<|Ao I<|Au hb0 func86 I (.cons (.many (cs:=[.bool false,b0]) I I (x0.memA .hd)) .nil) I ?_
 cases h
 exact ⟨x0.ag,fun p q=>⟨b0,I,x0.kd (Ap q0 G0) q⟩⟩
def bz_p (n:Nat) (a0:Th):Oa Th:=
  (az_p n (!a0.fh) a0.fu).bind fun b0=>some b0
theorem bz_c (n:Nat) {L w} (hL:hl L w) (a0:Th) {v0_1:Vc} (h0_1:Rep.R w L [v0_1] a0.fu)  {r:Th} (h:bz_p n a0 = some r) :
 Cl 125 #[.agg #[.bool a0.fh,v0_1]] w (aj w fun w' u=>∃ v0_1:Vc,u = .agg #[.bool r.fh,v0_1]/\Rep.R w' L [v0_1] r.fu):=by
 unfold bz_p at h
 refine AK func125 I I I fun _ cs0 hb0=>Ac<|RG.bx (AD w) I I fun B0 u0 k0 x0=>RG.nl [.bool false,vN] k0 fun C0 v0 b0 y0=>Aa<|Ac<|Ba 0 I<|AY I ((b0.memA .t1) 0 _ I)<|Ab (Bz I)<|Ba 1 I<|AY I ((b0.memA .t1) 1 _ I)<|bk h fun j0 t0 h=>jE (bd 151) I (e2 I I) (fun p q=>az_c n (b0.hL hL q) (b0.km h0_1 q) t0) I fun D0 A0 s0 ⟨d0,hu_,g0⟩=>?_
 subst hu_
 obtain ⟨p0,z0⟩:=b0.agr s0
 refine AW [.bool j0.fh,d0] p0 .hd (o2 I (AX g0)) fun E0 c0 q0=>Aa<|Ao I<|Au hb0 func125 I (.cons (.many (cs:=[.bool j0.fh,d0]) I I (c0.memA .hd)) .nil) I ?_
 cases h
 exact ⟨c0.ag,fun p q=>⟨d0,I,c0.kd (Ap g0 q0) q⟩⟩
def cu_l1 (_n:Nat) (xs4:La Ua) (xs7:La Ua) (k0:Ua × Nat × (La Ua) -> Oa ((La Ua) × Ua)):Ua × Nat × (La Ua) -> Oa ((La Ua) × Ua)
  | (g0,b0,c0)=>(if b0 < xs4.length then (xs4[b0]?).bind fun q0=>jn (fun p0=>(add64 q0 p0 g0).bind fun j0=>(c0[b0]?).bind fun _x199=>(put c0 ((b0:Nat):Int) j0.1).bind fun t0=>k0 (j0.2,b0 + 1,t0)) (fun d0=>(if b0 < xs7.length then (xs7[b0]?).bind fun s0=>d0 s0 else d0 (0:Ua))) else some (c0,g0))
def cu_p (n:Nat) (a0:La Ua) (a1:La Ua):Oa (La Ua):=
  jn (fun (xs4,xs7)=>(mk ((xs4.length + 1:Nat):Int) (0:Ua)).bind fun g0=>Option.bind (au (cu_l1 n xs4 xs7) n (0,0,g0)) (fun (c0,d0)=>(c0[xs4.length]?).bind fun _x229=>(put c0 ((xs4.length:Nat):Int) d0).bind fun j0=>some j0)) (fun b0=>(if a0.length < a1.length then b0 (a1,a0) else b0 (a0,a1)))
theorem cu_c (n:Nat) {L w} (hL:hl L w) {a0:La Ua} {v0_0:Vc} (h0_0:Rep.R w L [v0_0] a0) {a1:La Ua} {v1_0:Vc} (h1_0:Rep.R w L [v1_0] a1)  {r:La Ua} (h:cu_p n a0 a1 = some r) :
 Cl 186 #[v0_0,v1_0] w (aj w fun w' u=>∃ v0_0:Vc,u = v0_0/\Rep.R w' L [v0_0] r):=by
 unfold cu_p at h
 have hS0:=AD w
 refine AK func186 I I I fun _ cs0 hb0=>Ac<|Ag I<|Aa<|Aj<|Ac<|Ae I ?_
 have hl1:=Bh h0_0
 refine Ab (Bk (xs:=a0) underlying131 I h0_0)<|Ae I ?_
 have hl2:=Bh h1_0
 refine Ab (Bk (xs:=a1) underlying131 I h1_0)<|Ab (BD (i:=a0.length) (j:=a1.length) I I)<|Aa<|MX.jf (α:=(La Ua) × (La Ua) × Vc × Vc) (fun ⟨xs4,xs7,v5,v8⟩=>[(0,v5),(1,v8)]) (fun ⟨xs4,xs7,v5,v8⟩=>[]) (fun ⟨xs4,xs7,v5,v8⟩ wx9=>Rep.R wx9 (bl [] ++ L) [v5] xs4/\Rep.R wx9 (bl [] ++ L) [v8] xs7) (fun ⟨xs4,xs7,v5,v8⟩=>(xs4,xs7)) hS0 h ?_ ?_
 rintro ⟨xs4,xs7,v5,v8⟩ wx9 q1 D2 ⟨hr6,hr9⟩ h
 try dsimp only at h
 refine Ac<|Ae I ?_
 have G2:=Bh hr6
 refine Ab (Bk (xs:=xs4) underlying131 I hr6)<|Ab (Bu (i:=xs4.length) (j:=1) I I (by omega))<|bk h fun R0 M0 h=>Ah .plain I (Does.mk (α:=Ua) M0 q1 cU I) fun M2 j0 E0 s0=>Ag I<|Aa<|Ac<|Ag I<|Aa<|Aj<|Ac<|Ae I<|Ab (Bk (xs:=xs4) underlying131 I (Ap hr6 s0))<|Ae I<|Aa<|AF ?_
 obtain ⟨K2,J1,E1⟩:=av h
 refine MX.lf (α:=Ua × Nat × (La Ua) × (La Vc)) (fun ⟨g0,b0,c0,d0⟩=>[(0,v5),(1,v8),(5,(.slice (some ⟨j0,0,none⟩) ((xs4.length + 1:Nat):Int).toNat ((xs4.length + 1:Nat):Int).toNat)),(6,vU g0),(21,v5),(22,vn xs4.length),(23,vn b0)]) (fun ⟨g0,b0,c0,d0⟩=>[rr w 42 Ua (.slice (some ⟨j0,0,none⟩) ((xs4.length + 1:Nat):Int).toNat ((xs4.length + 1:Nat):Int).toNat) c0.length d0]) (fun ⟨g0,b0,c0,d0⟩ P0=>Cells P0 (bl [rr w 42 Ua (.slice (some ⟨j0,0,none⟩) ((xs4.length + 1:Nat):Int).toNat ((xs4.length + 1:Nat):Int).toNat) c0.length d0] ++ L) d0 c0) (fun ⟨g0,b0,c0,d0⟩=>(g0,b0,c0)) (0,0,R0,(List.replicate ((xs4.length + 1:Nat):Int).toNat [vW 0]).flatten) J1 E0 (AJ (cs:=(List.replicate ((xs4.length + 1:Nat):Int).toNat [vW 0]).flatten) (xs:=R0) E0 L (Cells.mk M0 I)) ?_
 rintro t2 ⟨g0,b0,c0,d0⟩ P0 p1 k0 q0 x0 h
 unfold cu_l1 at h
 try dsimp only at h
 refine Ac<|Ab (BD (i:=b0) (j:=xs4.length) I I)<|Aa<|Aj<|Be I h (fun Y0 h=>?_) (fun Y0 h=>?_)
 refine Az<|Aj<|AF<|Ac<|Ae I<|bk h fun B0 U1 h=>?_
 obtain ⟨p2,v2,y1,F1,c1,K1,H1⟩:=Bw (Ap hr6 (Tt s0 q0)) U1
 have z1:c1 = [vU B0]:=K1; subst z1
 refine Ab (BE 1 b0 I y1 I I F1)<|AY I (H1 0 _ I)<|Ag I<|Ag I<|Aa<|Ac<|Ag I<|Aa<|Aj<|Ac<|Ae I<|Ae I ?_
 have A0:=Ap hr9 (Tt s0 q0)
 have H2:=Bh A0
 refine Ab (Bk (xs:=xs7) underlying131 I A0)<|Ab (BD (i:=b0) (j:=xs7.length) I I)<|Aa<|MX.jo (α:=Ua) (fun p0=>[(0,v5),(1,v8),(5,(.slice (some ⟨j0,0,none⟩) ((xs4.length + 1:Nat):Int).toNat ((xs4.length + 1:Nat):Int).toNat)),(6,vU g0),(21,v5),(22,vn xs4.length),(23,vn b0),(7,vn b0),(8,vU B0),(9,vU p0)]) (fun p0=>[rr w 42 Ua (.slice (some ⟨j0,0,none⟩) ((xs4.length + 1:Nat):Int).toNat ((xs4.length + 1:Nat):Int).toNat) c0.length d0]) (fun p0=>p0) k0 h ?_ ?_
 rintro p0 R2 t0 F0 h
 try dsimp only at h
 refine Av<|Ae I<|Ae I<|Ae I<|Ae I<|Ae I<|bk h fun k2 b2 h=>Ab (FV.add64 (a:=B0) (b:=p0) (c:=g0) func188 I I I I I I I b2)<|Ae I<|Ab (Ai I I)<|Ab (Ai I I)<|bk h fun c2 V1 h=>?_
 have K0:=AG x0 F0
 obtain ⟨U0,x2,y0,I0,d1,M1,I2⟩:=St.nth (α:=Ua) t0 .hd K0 V1
 obtain ⟨W0,y2,G0⟩:=Cb (α:=Ua) t0 .hd I0
 obtain rfl:U0 = ⟨W0,0,none⟩:=by rw [G0] at y0; cases y0; rfl
 have A1:d1 = [vU c2]:=M1; subst A1
 refine Ab (BE 1 b0 I y0 I I I0)<|bk h fun g2 Y1 h=>RG.acts' .plain (Acts.set (α:=Ua) (i:=b0) Y1 t0 G0 (fun _=>.hd) K0 I I I I I I) fun P2 ⟨g1,s1,u1,v1⟩=>Ag I<|Aa<|AI<|Av<|Ab (Bu (i:=b0) (j:=1) I I (by omega))<|Ae I<|Aa<|p1 (k2.2,b0 + 1,g2,g1) s1 (Tt q0 (Tt F0 u1)) v1 h
 intro u2 D0 h
 try dsimp only at h
 refine Be I h (fun Z0 h=>?_) (fun Z0 h=>?_)
 refine Av<|Ae I<|Ae I<|bk h fun Q0 W1 h=>?_
 obtain ⟨q2,z2,B1,G1,j1,P1,I1⟩:=Bw A0 W1
 have C1:j1 = [vU Q0]:=P1; subst C1
 refine Ab (BE 1 b0 I B1 I I G1)<|AY I (I1 0 _ I)<|Ag I<|Aa<|D0 Q0 k0 (Br _ _) h
 refine Az<|D0 (0:Ua) k0 (Br _ _) h
 refine Bj I ?_
 have h:=E1 _ h
 try dsimp only at h
 refine Ac<|Ae I<|Ae I<|Ab (Bk (xs:=xs4) underlying131 I (Ap hr6 (Tt s0 q0)))<|Ae I<|bk h fun d2 X1 h=>?_
 obtain ⟨V0,A2,z0,J0,k1,Q1,J2⟩:=St.nth (α:=Ua) k0 .hd x0 X1
 obtain ⟨X0,B2,H0⟩:=Cb (α:=Ua) k0 .hd J0
 obtain rfl:V0 = ⟨X0,0,none⟩:=by rw [H0] at z0; cases z0; rfl
 have D1:k1 = [vU d2]:=Q1; subst D1
 refine Ab (BE 1 (xs4.length) I z0 I I J0)<|bk h fun j2 Z1 h=>RG.acts' .plain (Acts.set (α:=Ua) (i:=xs4.length) Z1 k0 H0 (fun _=>.hd) x0 I I I I I I) fun Q2 ⟨C2,u0,E2,x1⟩=>Aa<|Ac<|Ae I<|Ag I<|Aa<|Ao I ?_
 have v0:=BI u0 .hd
 have F2:=BJ u0 .hd
 have R1:=BK (α:=Ua) (v:=(.slice (some ⟨j0,0,none⟩) ((xs4.length + 1:Nat):Int).toNat ((xs4.length + 1:Nat):Int).toNat)) (xs:=j2) v0 L (Bl (α:=Ua) u0 .hd x1 hL)
 refine Bi hb0 func186 I I ?_
 cases h
 exact ⟨v0.ag,fun p q=>⟨(.slice (some ⟨j0,0,none⟩) ((xs4.length + 1:Nat):Int).toNat ((xs4.length + 1:Nat):Int).toNat),I,v0.kd R1 q⟩⟩
 intro s2 C0 h
 try dsimp only at h
 refine Be I h (fun b1 h=>?_) (fun b1 h=>?_)
 refine Av<|Ae I<|Ae I<|Ag I<|Ag I<|Aa<|C0 (a1,a0,v1_0,v0_0) hS0 (Br _ _) ⟨h1_0,h0_0⟩ h
 refine Az<|C0 (a0,a1,v0_0,v1_0) hS0 (Br _ _) ⟨h0_0,h1_0⟩ h
def bO_p (n:Nat) (a0:Th) (a1:Th):Oa Th:=
  (if (a0.fh == a1.fh) = true then (cu_p n a0.fu a1.fu).bind fun j0=>(az_p n a0.fh j0).bind fun k0=>some k0 else (bP_p n a0.fu a1.fu).bind fun p0=>jn (fun (_q58,d0,c0,g0)=>(ca_p n g0 d0).bind fun q0=>(az_p n c0 q0).bind fun s0=>some s0) (fun b0=>(if p0 < 0 then b0 (a0.fh,a0.fu,a1.fh,a1.fu) else b0 (a1.fh,a1.fu,a0.fh,a0.fu))))
theorem bO_c (n:Nat) {L w} (hL:hl L w) (a0:Th) {v0_1:Vc} (h0_1:Rep.R w L [v0_1] a0.fu) (a1:Th) {v1_1:Vc} (h1_1:Rep.R w L [v1_1] a1.fu)  {r:Th} (h:bO_p n a0 a1 = some r) :
 Cl 158 #[.agg #[.bool a0.fh,v0_1],.agg #[.bool a1.fh,v1_1]] w (aj w fun w' u=>∃ v0_1:Vc,u = .agg #[.bool r.fh,v0_1]/\Rep.R w' L [v0_1] r.fu):=by
 unfold bO_p at h
 refine AK func158 I I I fun _ cs0 hb0=>Ac<|RG.bx (AD w) I I fun Y1 y0 X0 F1=>RG.bx X0 I I fun Z1 z0 Y0 G1=>RG.nl [.bool false,vN] Y0 fun b2 A0 b0 H1=>Aa<|Aj<|Ac<|Ba 0 I<|AY I ((b0.memA .t2) 0 _ I)<|Ba 0 I<|AY I ((b0.memA .t1) 0 _ I)<|Ab (FV.eqlB (a:=a0.fh) (b:=a1.fh) underlying4 I I)<|Aa<|MX.ifb I h (fun V0 h=>?_) (fun V0 h=>?_)
 refine Aj<|du 8 fun c0 s0=>Rv 0 c0 I s0 (fun _=>AS 0 I)<|Rx 1 384 c0 I s0 (AN I ((b0.memA .t2) 0 _ I))<|Rv 2 c0 I s0 (fun _=>AS 1 I)<|Rx 3 448 c0 I s0 (AN I ((b0.memA .t2) 1 _ I))<|Rv 4 c0 I s0 (fun _=>AS 1 I)<|Rx 5 448 c0 I s0 (AN I ((b0.memA .t1) 1 _ I))<|bk h fun u2 z1 h=>Bp 6 127 c0 I .plain (bd 186) I (e2 I I) (fun p q=>cu_c n (b0.hL hL q) (b0.km h0_1 q) (b0.km h1_1 q) z1) I fun c2 U1 k1 ⟨Q1,hu_,u1⟩=>?_
 subst hu_
 obtain ⟨I0,I1⟩:=b0.agr k1
 refine bk h fun Q0 A1 h=>Bp 7 255 c0 I .plain (bd 151) I (e2 I I) (fun p q=>az_c n (I0.hL hL q) (Ar u1 q) A1) I fun d2 V1 p1 ⟨E0,hu_,M0⟩=>?_
 subst hu_
 obtain ⟨Z0,J1⟩:=I0.agr p1
 refine Bv 8 511 c0 I I .plain (Ax (news:=[.bool Q0.fh,E0]) Z0 .hd I I I I I I (o2 I (AX M0))) fun g2 C0 d1=>AO (dk c0)<|Ao I<|Au hb0 func158 I (.cons (.many (cs:=[.bool Q0.fh,E0]) I I (C0.memA .hd)) .nil) I ?_
 cases h
 exact ⟨C0.ag,fun p q=>⟨E0,I,C0.kd (Ap M0 d1) q⟩⟩
 refine Az<|Aj<|Ac<|Ba 1 I<|AY I ((b0.memA .t2) 1 _ I)<|Ba 1 I<|AY I ((b0.memA .t1) 1 _ I)<|bk h fun R0 B1 h=>Bm (vI R0) (bd 156) I (e2 I I) (fun p q=>bP_c n (b0.hL0 hL q) (b0.k0 h0_1 q) (b0.k0 h1_1 q) B1) I<|Ab (FV.lss (i:=R0) (j:=0) I I)<|Aa<|MX.jf (α:=Bool × (La Ua) × Bool × (La Ua) × Vc × Vc) (fun ⟨g0,u0,j0,v0,p0,q0⟩=>[(2,vP y0),(3,vP z0),(4,vP A0)]) (fun ⟨g0,u0,j0,v0,p0,q0⟩=>[.cells A0 [.bool false,vN] 133,.cells z0 [.bool g0,p0] 133,.cells y0 [.bool j0,q0] 133]) (fun ⟨g0,u0,j0,v0,p0,q0⟩ G0=>Rep.R G0 (bl [.cells A0 [.bool false,vN] 133,.cells z0 [.bool g0,p0] 133,.cells y0 [.bool j0,q0] 133] ++ L) [p0] u0/\Rep.R G0 (bl [.cells A0 [.bool false,vN] 133,.cells z0 [.bool g0,p0] 133,.cells y0 [.bool j0,q0] 133] ++ L) [q0] v0) (fun ⟨g0,u0,j0,v0,p0,q0⟩=>(g0,u0,j0,v0)) b0 h ?_ ?_
 rintro ⟨g0,u0,j0,v0,p0,q0⟩ G0 x0 K1 ⟨v1,x1⟩ h
 try dsimp only at h
 refine Aj<|du 8 fun d0 t0=>Rv 0 d0 I t0 (fun _=>AS 0 I)<|Rx 1 384 d0 I t0 (AN I ((x0.memA .t2) 0 _ I))<|Rv 2 d0 I t0 (fun _=>AS 1 I)<|Rx 3 448 d0 I t0 (AN I ((x0.memA .t2) 1 _ I))<|Rv 4 d0 I t0 (fun _=>AS 1 I)<|Rx 5 448 d0 I t0 (AN I ((x0.memA .t1) 1 _ I))<|bk h fun v2 C1 h=>Bp 6 127 d0 I .plain (bd 157) I (e2 I I) (fun p q=>ca_c n (x0.hL hL q) (Ar x1 q) (Ar v1 q) C1) I fun j2 W1 q1 ⟨R1,hu_,y1⟩=>?_
 subst hu_
 obtain ⟨J0,M1⟩:=x0.agr q1
 refine bk h fun U0 D1 h=>Bp 7 255 d0 I .plain (bd 151) I (e2 I I) (fun p q=>az_c n (J0.hL hL q) (Ar y1 q) D1) I fun k2 X1 s1 ⟨F0,hu_,P0⟩=>?_
 subst hu_
 obtain ⟨b1,P1⟩:=J0.agr s1
 refine Bv 8 511 d0 I I .plain (Ax (news:=[.bool U0.fh,F0]) b1 .hd I I I I I I (o2 I (AX P0))) fun p2 D0 g1=>AO (dk d0)<|Ao I<|Au hb0 func158 I (.cons (.many (cs:=[.bool U0.fh,F0]) I I (D0.memA .hd)) .nil) I ?_
 cases h
 exact ⟨D0.ag,fun p q=>⟨F0,I,D0.kd (Ap P0 g1) q⟩⟩
 intro E1 H0 h
 try dsimp only at h
 refine Be I h (fun W0 h=>?_) (fun W0 h=>?_)
 refine Av<|Ab (AC I (b0.memA .t1))<|Ab (AC I (b0.memA .t2))<|AW [.bool a1.fh,v1_1] b0 .t2 (o2 I (AX (Bb h1_1 b0))) fun q2 K0 j1=>AW [.bool a0.fh,v0_1] K0 .t1 (o2 I (AX (Bb h0_1 K0))) fun s2 B0 c1=>Aa<|H0 (a0.fh,a0.fu,a1.fh,a1.fu,v0_1,v1_1) B0 (Tt j1 c1) ⟨(Bb h0_1 B0),(Bb h1_1 B0)⟩ h
 refine Az<|H0 (a1.fh,a1.fu,a0.fh,a0.fu,v1_1,v0_1) b0 (Br _ _) ⟨(Bb h1_1 b0),(Bb h0_1 b0)⟩ h
def cO_p (n:Nat) (a0:Th) (a1:Th):Oa Th:=
  (bz_p n a1).bind fun b0=>(bO_p n a0 b0).bind fun c0=>some c0
theorem cO_c (n:Nat) {L w} (hL:hl L w) (a0:Th) {v0_1:Vc} (h0_1:Rep.R w L [v0_1] a0.fu) (a1:Th) {v1_1:Vc} (h1_1:Rep.R w L [v1_1] a1.fu)  {r:Th} (h:cO_p n a0 a1 = some r) :
 Cl 122 #[.agg #[.bool a0.fh,v0_1],.agg #[.bool a1.fh,v1_1]] w (aj w fun w' u=>∃ v0_1:Vc,u = .agg #[.bool r.fh,v0_1]/\Rep.R w' L [v0_1] r.fu):=by
 unfold cO_p at h
 refine AK func122 I I I fun _ cs0 hb0=>Ac<|RG.bx (AD w) I I fun R0 D0 s0 G0=>RG.bx s0 I I fun U0 E0 t0 H0=>RG.nl [.bool false,vN] t0 fun V0 F0 c0 I0=>Aa<|Aj<|du 4 fun b0 p0=>Rx 0 24 b0 I p0 (AC I (c0.memA .t2))<|Rx 1 28 b0 I p0 (AC I (c0.memA .t1))<|bk h fun C0 A0 h=>Bp 2 7 b0 I .plain (bd 125) I (e1 I) (fun p q=>bz_c n (c0.hL hL q) a1 (c0.km h1_1 q) A0) I fun W0 P0 x0 ⟨M0,hu_,z0⟩=>?_
 subst hu_
 obtain ⟨d0,J0⟩:=c0.agr x0
 refine bk h fun q0 B0 h=>Bp 3 15 b0 I .plain (bd 158) I (e2 I I) (fun p q=>bO_c n (d0.hL hL q) a0 (d0.km h0_1 q) C0 (Ar z0 q) B0) I fun X0 Q0 y0 ⟨j0,hu_,k0⟩=>?_
 subst hu_
 obtain ⟨u0,K0⟩:=d0.agr y0
 refine Bv 4 31 b0 I I .plain (Ax (news:=[.bool q0.fh,j0]) u0 .hd I I I I I I (o2 I (AX k0))) fun Y0 g0 v0=>AO (dk b0)<|Ao I<|Au hb0 func122 I (.cons (.many (cs:=[.bool q0.fh,j0]) I I (g0.memA .hd)) .nil) I ?_
 cases h
 exact ⟨g0.ag,fun p q=>⟨j0,I,g0.kd (Ap k0 v0) q⟩⟩
def cX_p (n:Nat) (a0:Th) (a1:Th):Oa Int:=
  (cO_p n a0 a1).bind fun b0=>(ct_p n b0).bind fun c0=>some c0
theorem cX_c (n:Nat) {L w} (hL:hl L w) (a0:Th) {v0_1:Vc} (h0_1:Rep.R w L [v0_1] a0.fu) (a1:Th) {v1_1:Vc} (h1_1:Rep.R w L [v1_1] a1.fu)  {r:Int} (h:cX_p n a0 a1 = some r) :
 Cl 87 #[.agg #[.bool a0.fh,v0_1],.agg #[.bool a1.fh,v1_1]] w (aj w fun _ u=>u = vI r):=by
 unfold cX_p at h
 refine AK func87 I I I fun _ cs0 hb0=>Ac<|RG.bx (AD w) I I fun B0 t0 d0 v0=>RG.bx d0 I I fun C0 u0 b0 x0=>Ag I<|Aa<|Ac<|Ab (AC I (b0.memA .t1))<|Ab (AC I (b0.memA .hd))<|bk h fun q0 k0 h=>jE (bd 122) I (e2 I I) (fun p q=>cO_c n (b0.hL hL q) a0 (b0.km h0_1 q) a1 (b0.km h1_1 q) k0) I fun D0 A0 g0 ⟨z0,hu_,j0⟩=>?_
 subst hu_
 obtain ⟨c0,y0⟩:=b0.agr g0
 refine bk h fun s0 p0 h=>Bm (vI s0) (bd 85) I (e1 I) (fun p q=>ct_c n (c0.hL0 hL q) q0 (c0.kd j0 q) p0) I<|Ag I<|Aa<|Ao I<|Bi hb0 func87 I I ?_
 cases h
 exact c0.gv
def dj_p (n:Nat) (a0:Ta):Oa Int:=
  (dD_p n (1:Int)).bind fun c0=>(aM_p n a0).bind fun b0=>(ct_p n b0.fA).bind fun d0=>(if d0 <= 0 then some (20:Int) else (aK_p n b0.fC b0.fA).bind fun g0=>(cX_p n g0 c0).bind fun j0=>(if j0 = 0 then some (0:Int) else some (20:Int)))
theorem dj_c (n:Nat) {L w} (hL:hl L w) (a0:Ta)  {r:Int} (h:dj_p n a0 = some r) :
 Cl 49 #[.agg ((aa a0)).toArray] w (aj w fun _ u=>u = vI r):=by
 unfold dj_p at h
 refine AK func49 I I I fun _ cs0 hb0=>Ac<|RG.bx (AD w) I I fun y1 g1 t0 p1=>Ag I<|Aa<|Ac<|bk h fun B0 W0 h=>jE (bd 83) I (e1 I) (fun p q=>dD_c n (t0.hL hL q)  W0) I fun z1 u1 Q0 ⟨c1,hu_,x0⟩=>?_
 subst hu_
 obtain ⟨G0,q1⟩:=t0.agr Q0
 refine RG.nl [.bool false,vN] G0 fun A1 j1 H0 u0=>AW [.bool B0.fh,c1] H0 .hd (o2 I (AX (Ap x0 u0))) fun B1 p0 K0=>Aa<|Ac<|Ab (AC I (p0.memA .t1))<|bk h fun g0 X0 h=>jE (bd 84) I (e1 I) (fun p q=>aM_c n (p0.hL hL q) a0 X0) I fun C1 v1 R0 ⟨A0,s0,hu_,y0,z0⟩=>?_
 subst hu_
 obtain ⟨I0,M0⟩:=p0.agr R0
 refine RG.nl [.bool false,vN,.bool false,vN] I0 fun D1 k1 J0 k0=>AW [.bool g0.fC.fh,A0,.bool g0.fA.fh,s0] J0 .hd (o4 I (AX (Ap y0 k0)) I (AX (Ap z0 k0))) fun E1 d0 q0=>Aa<|Aj<|Aj<|du 14 fun b0 c0=>Rv 0 b0 I c0 (fun _=>AS 2 I)<|Rx 1 16380 b0 I c0 (Aq (cs:=[.bool g0.fA.fh,s0]) I I (ac (d0.memA .hd) 2 2))<|bk h fun C0 Y0 h=>?_
 have v0:=Ap z0 (Tt k0 q0)
 refine BQ 2 7 16376 (vI C0) b0 I c0 (bd 85) I (e1 I) (fun p q=>ct_c n (d0.hL0 hL q) g0.fA (d0.kd v0 q) Y0) I<|Rv 3 b0 I c0 (fun _=>FV.leq (i:=C0) (j:=0) I I)<|Rv 4 b0 I c0 (fun _=>Ak I)<|RD.ifd (s:=12) I h (fun E0 h=>?_) (fun E0 h=>?_)
 refine BS 8191 1 [(5,13),(6,14),(7,15),(8,16),(9,17),(10,18),(11,19),(12,20)] (F:=[(12,true)]) (U:=[]) b0 c0 (.cons I .nil) .nil ?_
 dsimp only [bg,List.map]
 refine Rv 13 b0 I c0 (fun _=>BY I I)<|AO (dk b0)<|Bg I<|Ac<|Ag I<|Aa<|Ao I<|Bi hb0 func49 I I ?_
 cases h
 exact d0.gv
 refine RD.vP 5 63 b0 I c0 (.yes I I) (fun _=>AS 0 I) I<|RD.val (i:=6) (m' :=127) (W:=14848) (tk b0) I c0 (.yes I I) (Aq (cs:=[.bool g0.fC.fh,A0]) I I (ac (d0.memA .hd) 0 2)) I<|RD.vP 7 255 b0 I c0 (.yes I I) (fun _=>AS 2 I) I<|RD.val (i:=8) (m' :=511) (W:=14848) (tk b0) I c0 (.yes I I) (Aq (cs:=[.bool g0.fA.fh,s0]) I I (ac (d0.memA .hd) 2 2)) I<|RD.val (i:=10) (m' :=1535) (W:=14336) (tk b0) I c0 (.yes I I) (AC I (d0.memA .t1)) I<|bk h fun d1 Z0 h=>Bp 9 2047 b0 I (.yes I I) (bd 86) I (e2 I I) (fun p q=>aK_c n (d0.hL hL q) g0.fC (Ar (Ap y0 (Tt k0 q0)) q) g0.fA (Ar v0 q) Z0) I fun F1 x1 U0 ⟨s1,hu_,V0⟩=>?_
 subst hu_
 obtain ⟨j0,P0⟩:=d0.agr U0
 refine bk h fun D0 b1 h=>RD.callq (i:=11) (m' :=4095) (W:=12288) (tk b0) I c0 (v:=vI D0) (fst:=[]) (cap:=[]) (.yes I I) (bd 87) I (e2 I I) (fun p q=>cX_c n (j0.hL0 hL q) d1 (j0.kd V0 q) B0 (j0.kd (Ap x0 (Tt u0 (Tt K0 (Tt M0 (Tt k0 (Tt q0 P0)))))) q) b1) I<|RD.vP 12 8191 b0 I c0 (.yes I I) (fun _=>FV.neq (i:=D0) (j:=0) I I) I<|Rv 13 b0 I c0 (fun _=>BA I I)<|AO (dk b0)<|MX.ifn I h (fun F0 h=>?_) (fun F0 h=>?_)
 refine Az<|Ac<|Ag I<|Aa<|Ao I<|Bi hb0 func49 I I ?_
 cases h
 exact j0.gv
 refine Ac<|Ag I<|Aa<|Ao I<|Bi hb0 func49 I I ?_
 cases h
 exact j0.gv
def dm_p (n:Nat) (a0:Ta):Oa Bool:=
  (dj_p n a0).bind fun b0=>some (decide (b0 = 0))
theorem dm_c (n:Nat) {L w} (hL:hl L w) (a0:Ta)  {r:Bool} (h:dm_p n a0 = some r) :
 Cl 130 #[.agg ((aa a0)).toArray] w (aj w fun _ u=>u = .bool r):=by
 unfold dm_p at h
 refine AK func130 I I I fun _ cs0 hb0=>Ac<|RG.bx (AD w) I I fun k0 g0 b0 j0=>Ag I<|Aa<|Ac<|Ab (AC I (b0.memA .hd))<|bk h fun c0 d0 h=>Bm (vI c0) (bd 49) I (e1 I) (fun p q=>dj_c n (b0.hL0 hL q) a0 d0) I<|Ab (FV.eql (i:=c0) (j:=0) I I)<|Ag I<|Aa<|Ao I<|Bi hb0 func130 I I ?_
 cases h
 exact b0.gv
theorem mN {w:World} {L:La Nat} {cs:La Vc} {x:U8} (h:Rep.R w L cs x):cs = [vU x.1,vU x.2.1,vU x.2.2.1,vU x.2.2.2.1,vU x.2.2.2.2.1,vU x.2.2.2.2.2.1,vU x.2.2.2.2.2.2.1,vU x.2.2.2.2.2.2.2]:=by
  obtain ⟨c0,r0,rfl,h0,h⟩:=h
  have e0:c0 = [vU x.1]:=h0; subst e0
  obtain ⟨c1,r1,rfl,h1,h⟩:=h
  have e1:c1 = [vU x.2.1]:=h1; subst e1
  obtain ⟨c2,r2,rfl,h2,h⟩:=h
  have e2:c2 = [vU x.2.2.1]:=h2; subst e2
  obtain ⟨c3,r3,rfl,h3,h⟩:=h
  have e3:c3 = [vU x.2.2.2.1]:=h3; subst e3
  obtain ⟨c4,r4,rfl,h4,h⟩:=h
  have e4:c4 = [vU x.2.2.2.2.1]:=h4; subst e4
  obtain ⟨c5,r5,rfl,h5,h⟩:=h
  have e5:c5 = [vU x.2.2.2.2.2.1]:=h5; subst e5
  obtain ⟨c6,r6,rfl,h6,h⟩:=h
  have e6:c6 = [vU x.2.2.2.2.2.2.1]:=h6; subst e6
  have e7:r6 = [vU x.2.2.2.2.2.2.2]:=h; subst e7
  rfl
theorem ml {w:World} {L:La Nat} (a0:Ua) (a1:Ua) (a2:Ua) (a3:Ua) (a4:Ua) (a5:Ua) (a6:Ua) (a7:Ua):Rep.R w L [vU a0,vU a1,vU a2,vU a3,vU a4,vU a5,vU a6,vU a7] ((a0,a1,a2,a3,a4,a5,a6,a7):U8):=⟨[vU a0],[vU a1,vU a2,vU a3,vU a4,vU a5,vU a6,vU a7],rfl,rfl,⟨[vU a1],[vU a2,vU a3,vU a4,vU a5,vU a6,vU a7],rfl,rfl,⟨[vU a2],[vU a3,vU a4,vU a5,vU a6,vU a7],rfl,rfl,⟨[vU a3],[vU a4,vU a5,vU a6,vU a7],rfl,rfl,⟨[vU a4],[vU a5,vU a6,vU a7],rfl,rfl,⟨[vU a5],[vU a6,vU a7],rfl,rfl,⟨[vU a6],[vU a7],rfl,rfl,rfl⟩⟩⟩⟩⟩⟩⟩
theorem kW {w:World} {L:La Nat} {cs:La Vc} {x:Ta} (h:Rep.R w L cs x):cs = [vU x.fN.1,vU x.fN.2.1,vU x.fN.2.2.1,vU x.fN.2.2.2.1,vU x.fN.2.2.2.2.1,vU x.fN.2.2.2.2.2.1,vU x.fN.2.2.2.2.2.2.1,vU x.fN.2.2.2.2.2.2.2,vU x.fD.1,vU x.fD.2.1,vU x.fD.2.2.1,vU x.fD.2.2.2.1,vU x.fD.2.2.2.2.1,vU x.fD.2.2.2.2.2.1,vU x.fD.2.2.2.2.2.2.1,vU x.fD.2.2.2.2.2.2.2]:=by
  obtain ⟨c0,r0,rfl,h0,h⟩:=h
  obtain rfl:=mN (x:=x.fN) h0
  obtain rfl:=mN (x:=x.fD) h
  rfl
theorem bD {w:World} {L:La Nat} (a0:U8) (a1:U8):Rep.R w L [vU a0.1,vU a0.2.1,vU a0.2.2.1,vU a0.2.2.2.1,vU a0.2.2.2.2.1,vU a0.2.2.2.2.2.1,vU a0.2.2.2.2.2.2.1,vU a0.2.2.2.2.2.2.2,vU a1.1,vU a1.2.1,vU a1.2.2.1,vU a1.2.2.2.1,vU a1.2.2.2.2.1,vU a1.2.2.2.2.2.1,vU a1.2.2.2.2.2.2.1,vU a1.2.2.2.2.2.2.2] (⟨a0,a1⟩:Ta):=⟨[vU a0.1,vU a0.2.1,vU a0.2.2.1,vU a0.2.2.2.1,vU a0.2.2.2.2.1,vU a0.2.2.2.2.2.1,vU a0.2.2.2.2.2.2.1,vU a0.2.2.2.2.2.2.2],[vU a1.1,vU a1.2.1,vU a1.2.2.1,vU a1.2.2.2.1,vU a1.2.2.2.2.1,vU a1.2.2.2.2.2.1,vU a1.2.2.2.2.2.2.1,vU a1.2.2.2.2.2.2.2],rfl,ml a0.1 a0.2.1 a0.2.2.1 a0.2.2.2.1 a0.2.2.2.2.1 a0.2.2.2.2.2.1 a0.2.2.2.2.2.2.1 a0.2.2.2.2.2.2.2,ml a1.1 a1.2.1 a1.2.2.1 a1.2.2.2.1 a1.2.2.2.2.1 a1.2.2.2.2.2.1 a1.2.2.2.2.2.2.1 a1.2.2.2.2.2.2.2⟩
def aV_l1 (n:Nat) (a0:La Ta) (c0:Nat -> Oa (Bool ⊕ Unit)):Nat -> Oa (Bool ⊕ Unit)
  | b0=>(if b0 < a0.length then (a0[b0]?).bind fun d0=>(dm_p n d0).bind fun g0=>(if g0 = true then c0 (b0 + 1) else some (.inl false)) else some (.inr ()))
def aV_p (n:Nat) (a0:La Ta):Oa Bool:=
  thn (au (aV_l1 n a0) n 0) (fun _=>some true)
theorem aV_c (n:Nat) {L w} (hL:hl L w) {a0:La Ta} {v0_0:Vc} (h0_0:Rep.R w L [v0_0] a0)  {r:Bool} (h:aV_p n a0 = some r) :
 Cl 99 #[v0_0] w (aj w fun _ u=>u = .bool r):=by
 unfold aV_p at h
 refine AK func99 I I I fun _ cs0 hb0=>Ac<|Ag I<|Aa<|Ac<|Ag I<|Aa<|Ac<|Ae I<|Ae I<|BF (fst:=[]) (cap:=[]) (vs:=[.func (.func 130) #[] #[],v0_0]) .plain (bd 131) func131 I I I I (e2 I I) I fun cs2 hb1 hp3=>Ac<|Ag I<|Aa<|Aj<|Ac<|Ae I ?_
 have hl4:=Bh h0_0
 refine Ab (Bk (xs:=a0) underlying55 I h0_0)<|Ae I<|Aa<|AF<|tn h fun P0 C0 g0=>MX.lo (α:=Nat) (fun b0=>[(0,.func (.func 130) #[] #[]),(7,v0_0),(8,vn a0.length),(9,vn b0)]) (fun b0=>[]) (fun b0=>b0) 0 C0 (AD w) ?_
 rintro I0 b0 U0 q0 d0 u0 h
 unfold aV_l1 at h
 try dsimp only at h
 refine Ac<|Ab (BD (i:=b0) (j:=a0.length) I I)<|Aa<|Aj<|Be I h (fun k0 h=>?_) (fun k0 h=>?_)
 refine Az<|Aj<|AF<|Ac<|bk h fun j0 E0 h=>?_
 obtain ⟨H0,K0,z0,A0,M0,D0,B0⟩:=Bw (Bb h0_0 d0) E0
 obtain rfl:=kW D0
 refine Ab (BE 16 b0 I z0 I I A0)<|Ab (AC I B0)<|RG.nl ae d0 fun Q0 J0 s0 v0=>AW (aa j0) s0 .hd (ai I) fun R0 c0 x0=>Aa<|Ac<|Ae I<|Ab (AC I (c0.memA .hd))<|bk h fun G0 F0 h=>Bm (.bool G0) (bd 130) I (e1 I) (fun p q=>dm_c n (c0.hL0 hL q) j0 F0) I<|Ab (Bz I)<|Aa<|MX.ifnb I h (fun p0 h=>?_) (fun p0 h=>?_)
 refine Az<|AI<|Av<|Ab (Bu (i:=b0) (j:=1) I I (by omega))<|Ae I<|Aa ?_
 obtain ⟨t0,y0⟩:=Am c0 .done
 exact q0 (b0 + 1) t0 (Tt u0 (Tt v0 (Tt x0 y0))) h
 refine Ac<|Ag I<|Aa ?_
 have h:=ar h g0
 refine Ao I<|Au (u:=.bool false) hb1 func131 I (.cons (.tmp I) .nil) I<|Ag I<|Aa<|Ao I<|Bi hb0 func99 I I ?_
 cases h
 exact c0.gv
 refine Bj I ?_
 have h:=aI h g0
 try dsimp only at h
 refine Ac<|Ag I<|Aa<|Ao I<|Au (u:=.bool true) hb1 func131 I (.cons (.tmp I) .nil) I<|Ag I<|Aa<|Ao I<|Bi hb0 func99 I I ?_
 cases h
 exact d0.gv
def bV_p (n:Nat) (a0:Th) (a1:Th):Oa (Th × Th):=
  (aT_p n a0.fu a1.fu).bind fun c0=>(az_p n (!(a0.fh == a1.fh)) c0.1).bind fun d0=>(az_p n a0.fh c0.2).bind fun b0=>(if b0.fh = true then (bO_p n b0 (⟨false,a1.fu⟩:Th)).bind fun j0=>(bO_p n d0 (⟨(!a1.fh),([(1:Ua)]:La Ua)⟩:Th)).bind fun g0=>some (g0,j0) else some (d0,b0))
theorem bV_c (n:Nat) {L w} (hL:hl L w) (a0:Th) {v0_1:Vc} (h0_1:Rep.R w L [v0_1] a0.fu) (a1:Th) {v1_1:Vc} (h1_1:Rep.R w L [v1_1] a1.fu)  {r:Th × Th} (h:bV_p n a0 a1 = some r) :
 Cl 149 #[.agg #[.bool a0.fh,v0_1],.agg #[.bool a1.fh,v1_1]] w (aj w fun w' u=>∃ v0_1 v1_1:Vc,u = .tuple #[.agg #[.bool r.1.fh,v0_1],.agg #[.bool r.2.fh,v1_1]]/\Rep.R w' L [v0_1] r.1.fu/\Rep.R w' L [v1_1] r.2.fu):=by
 unfold bV_p at h
 refine AK func149 I I I fun _ cs0 hb0=>Ac<|RG.bx (AD w) I I fun x3 R2 K1 X2=>RG.bx K1 I I fun B3 U2 R1 Y2=>RG.nl [.bool false,vN] R1 fun C3 J0 U1 Z2=>RG.nl [.bool false,vN] U1 fun E3 K0 p0 b3=>Aa<|Ac<|Ba 1 I<|AY I ((p0.memA .t3) 1 _ I)<|Ba 1 I<|AY I ((p0.memA .t2) 1 _ I)<|bk h fun W3 G2 h=>jE (bd 121) I (e2 I I) (fun p q=>aT_c n (p0.hL hL q) (p0.km h0_1 q) (p0.km h1_1 q) G2) I fun F3 k3 u2 ⟨d3,g3,hu_,C2,D2⟩=>?_
 subst hu_
 obtain ⟨D0,c3⟩:=p0.agr u2
 refine Ae I<|Ab (Ai I I)<|Ab (Ai I I)<|Ag I<|Ag I<|Aa<|Aj<|du 11 fun b0 d0=>Rv 0 b0 I d0 (fun _=>AS 0 I)<|Rx 1 7248 b0 I d0 (AN I ((D0.memA .t3) 0 _ I))<|Rv 2 b0 I d0 (fun _=>AS 0 I)<|Rx 3 7248 b0 I d0 (AN I ((D0.memA .t2) 0 _ I))<|Rv 4 b0 I d0 (fun _=>FV.neqB (a:=a0.fh) (b:=a1.fh) underlying4 I I)<|Rv 5 b0 I d0 (fun _=>Ak I)<|Rv 7 b0 I d0 (fun _=>AS 0 I)<|Rx 8 7168 b0 I d0 (AN I ((D0.memA .t3) 0 _ I))<|Rv 9 b0 I d0 (fun _=>Ak I)<|bk h fun x0 H2 h=>Bp 6 1023 b0 I .plain (bd 151) I (e2 I I) (fun p q=>az_c n (D0.hL hL q) (Ar C2 q) H2) I fun G3 p3 v2 ⟨t0,hu_,G0⟩=>?_
 subst hu_
 obtain ⟨s1,p2⟩:=D0.agr v2
 refine bk h fun y0 I2 h=>Bp 10 2047 b0 I .plain (bd 151) I (e2 I I) (fun p q=>az_c n (s1.hL hL q) (Ar (Ap D2 p2) q) I2) I fun H3 q3 x2 ⟨u0,hu_,X0⟩=>?_
 subst hu_
 obtain ⟨Y1,F0⟩:=s1.agr x2
 refine Bv 11 4095 b0 I I .plain (Ax (news:=[.bool x0.fh,t0]) Y1 .t1 I I I I I I (o2 I (AX (Ap G0 F0)))) fun I3 Z1 k0=>Bv 12 8191 b0 I I .plain (Ax (news:=[.bool y0.fh,u0]) Z1 .hd I I I I I I (o2 I (AX (Ap X0 k0)))) fun J3 c0 q0=>AO (dk b0)<|Aj<|Ac<|Ba 0 I<|AY I ((c0.memA .hd) 0 _ I)<|Aa<|MX.ifb I h (fun I1 h=>?_) (fun I1 h=>?_)
 refine Ac<|Ba 1 I<|AY I ((c0.memA .t2) 1 _ I) ?_
 obtain ⟨P2,W2,E2,_⟩:=Rep.sl (Bb h1_1 c0)
 refine Ab (AP (vs:=[v1_1]) (u:=.agg #[.bool false,v1_1]) (e1 I) (fun p=>by rw [E2]; try kernel_rfl))<|RG.nl [.bool false,vN] c0 fun K3 V2 u1 C1=>AW [.bool false,v1_1] u1 .hd (o2 I (AX (Bb h1_1 u1))) fun M3 E0 D1=>Aa<|Ac<|Ab (AC I (E0.memA .t1))<|Ab (AC I (E0.memA .hd))<|bk h fun I0 J2 h=>jE (bd 158) I (e2 I I) (fun p q=>bO_c n (E0.hL hL q) y0 (Ar (Ap X0 (Tt k0 (Tt q0 (Tt C1 D1)))) q) (⟨false,a1.fu⟩:Th) (E0.km h1_1 q) J2) I fun P3 s3 y2 ⟨v0,hu_,j1⟩=>?_
 subst hu_
 obtain ⟨b2,q2⟩:=E0.agr y2
 refine AW [.bool I0.fh,v0] b2 .t1 (o2 I (AX j1)) fun Q3 v1 d1=>Aa<|Ac<|Ba 0 I<|AY I ((v1.memA .t3) 0 _ I)<|Ab (Bz I)<|Ah .plain I (jA ((1:Ua)) (vW 1) v1 cU (e1 I)) fun R3 M0 x1 g1=>Ab (AP (vs:=[.bool (!a1.fh),(vS M0 1)]) (u:=.agg #[.bool (!a1.fh),(vS M0 1)]) (e2 I I) (fun p=>by kernel_rfl))<|RG.nl [.bool false,vN] x1 fun u3 Q2 q1 R0=>AW [.bool (!a1.fh),(vS M0 1)] q1 .hd (o2 I (St.o1 (α:=Ua) q1 .t1)) fun v3 z0 U0=>Aa<|Av<|Ab (AC I (z0.memA .t4))<|Ab (AC I (z0.memA .hd)) ?_
 have Y0:=BI z0 .t1
 have Z0:=BJ z0 .t1
 refine bk h fun H0 F2 h=>jE (bd 158) I (e2 I I) (fun p q=>bO_c n (Y0.hL hL q) x0 (Ar (Ap G0 (Tt F0 (Tt k0 (Tt q0 (Tt C1 (Tt D1 (Tt q2 (Tt d1 (Tt g1 (Tt R0 (Tt U0 Z0))))))))))) q) (⟨(!a1.fh),([(1:Ua)]:La Ua)⟩:Th) (Ar (BK (α:=Ua) (v:=(vS M0 1)) (xs:=([(1:Ua)]:La Ua)) Y0 L (Bl (α:=Ua) z0 .t1 (AG (jC ((1:Ua)) (vW 1) x1 L I) (Tt R0 U0)) hL)) q) F2) I fun y3 j3 s2 ⟨s0,hu_,W0⟩=>?_
 subst hu_
 obtain ⟨J1,y1⟩:=Y0.agr s2
 refine AW [.bool H0.fh,s0] J1 .t3 (o2 I (AX W0)) fun z3 A0 V0=>Aa<|Aj<|du 2 fun g0 G1=>Rx 0 12 g0 I G1 (AC I (A0.memA .t3))<|BH (α:=Unit) (fun ()=>[(4,vP J0),(5,vP K0),(46,.agg #[.bool I0.fh,v0])]) (fun ()=>[.cells K0 [.bool I0.fh,v0] 133,.cells J0 [.bool H0.fh,s0] 133]) A0 1 7 ?_ ?_
 rintro ⟨⟩ U3 M1 z1
 try dsimp only
 refine Bv 3 15 g0 I I .plain (Ax (news:=[.bool I0.fh,v0]) M1 .hd I I I I I I (o2 I (AX (Ap j1 (Tt d1 (Tt g1 (Tt R0 (Tt U0 (Tt Z0 (Tt y1 (Tt V0 z1))))))))))) fun A3 B0 c2=>AO (dk g0)<|Ao I<|Au hb0 func149 I (.cons (.many (cs:=[.bool H0.fh,s0]) I I (B0.memA .t1)) (.cons (.many (cs:=[.bool I0.fh,v0]) I I (B0.memA .hd)) .nil)) I ?_
 cases h
 have E1:=Tt V0 (Tt z1 c2)
 exact ⟨B0.ag,fun p q=>⟨s0,v0,I,B0.kd (Ap W0 E1) q,B0.kd (Ap j1 (Tt d1 (Tt g1 (Tt R0 (Tt U0 (Tt Z0 (Tt y1 E1))))))) q⟩⟩
 intro k1
 refine AM [1,2] (rk g0) ⟨?_,?_,trivial⟩
 refine AV (m' :=3) (sk g0) I .plain I (AC I (A0.memA .t2)) ?_
 have A2:=Ap W0 V0
 refine Bv 2 7 g0 I I .plain (Ax (news:=[.bool H0.fh,s0]) A0 .t3 I I I I I I (o2 I (AX A2))) fun M2 Q0 c1=>?_
 obtain ⟨P1,d2⟩:=Am Q0 (.a2 (.a2 .done))
 exact k1 () P1 (Tt c1 d2)
 refine RO.now (m' :=5) (sk g0) I I .plain (Ax (news:=[.bool H0.fh,s0]) A0 .t3 I I I I I I (o2 I (AX (Ap W0 V0)))) fun M2 Q0 c1=>Rx 1 8 g0 I G1 (AC I (Q0.memA .t2)) ?_
 obtain ⟨Q1,g2⟩:=Am Q0 (.a2 (.a2 .done))
 exact k1 () Q1 (Tt c1 g2)
 refine Az<|Aj<|du 2 fun j0 H1=>Rx 0 12 j0 I H1 (AC I (c0.memA .t1))<|BH (α:=Unit) (fun ()=>[(4,vP J0),(5,vP K0),(46,.agg #[.bool y0.fh,u0])]) (fun ()=>[.cells K0 [.bool y0.fh,u0] 133,.cells J0 [.bool x0.fh,t0] 133]) c0 1 7 ?_ ?_
 rintro ⟨⟩ V3 V1 A1
 try dsimp only
 have F1:=Tt k0 (Tt q0 A1)
 refine Bv 3 15 j0 I I .plain (Ax (news:=[.bool y0.fh,u0]) V1 .hd I I I I I I (o2 I (AX (Ap X0 F1)))) fun D3 C0 B1=>AO (dk j0)<|Ao I<|Au hb0 func149 I (.cons (.many (cs:=[.bool x0.fh,t0]) I I (C0.memA .t1)) (.cons (.many (cs:=[.bool y0.fh,u0]) I I (C0.memA .hd)) .nil)) I ?_
 cases h
 exact ⟨C0.ag,fun p q=>⟨t0,u0,I,C0.kd (Ap G0 (Tt F0 (Tt k0 (Tt q0 (Tt A1 B1))))) q,C0.kd (Ap X0 (Tt F1 B1)) q⟩⟩
 intro p1
 refine AM [1,2] (rk j0) ⟨?_,?_,trivial⟩
 refine AV (m' :=3) (sk j0) I .plain I (AC I (c0.memA .hd)) ?_
 have B2:=Tt F0 (Tt k0 q0)
 have z2:=Ap G0 B2
 refine Bv 2 7 j0 I I .plain (Ax (news:=[.bool x0.fh,t0]) c0 .t1 I I I I I I (o2 I (AX z2))) fun K2 P0 b1=>?_
 obtain ⟨W1,j2⟩:=Am P0 (.a0 (.a0 .done))
 exact p1 () W1 (Tt b1 j2)
 refine RO.now (m' :=5) (sk j0) I I .plain (Ax (news:=[.bool x0.fh,t0]) c0 .t1 I I I I I I (o2 I (AX (Ap G0 (Tt F0 (Tt k0 q0)))))) fun K2 P0 b1=>Rx 1 8 j0 I H1 (AC I (P0.memA .hd)) ?_
 obtain ⟨X1,k2⟩:=Am P0 (.a0 (.a0 .done))
 exact p1 () X1 (Tt b1 k2)
def bU_p (n:Nat) (a0:Th) (a1:Th):Oa Tg:=
  (aK_p n a0 a1).bind fun c0=>(bV_p n a0 c0).bind fun d0=>(bV_p n a1 c0).bind fun b0=>(if b0.1.fh = true then (bz_p n d0.1).bind fun g0=>(bz_p n b0.1).bind fun j0=>some (⟨g0,j0⟩:Tg) else some (⟨d0.1,b0.1⟩:Tg))
theorem bU_c (n:Nat) {L w} (hL:hl L w) (a0:Th) {v0_1:Vc} (h0_1:Rep.R w L [v0_1] a0.fu) (a1:Th) {v1_1:Vc} (h1_1:Rep.R w L [v1_1] a1.fu)  {r:Tg} (h:bU_p n a0 a1 = some r) :
 Cl 118 #[.agg #[.bool a0.fh,v0_1],.agg #[.bool a1.fh,v1_1]] w (aj w fun w' u=>∃ v0_1 v0_3:Vc,u = .agg #[.bool r.fC.fh,v0_1,.bool r.fA.fh,v0_3]/\Rep.R w' L [v0_1] r.fC.fu/\Rep.R w' L [v0_3] r.fA.fu):=by
 unfold bU_p at h
 refine AK func118 I I I fun _ cs0 hb0=>Ac<|RG.bx (AD w) I I fun k3 D2 z1 U2=>RG.bx z1 I I fun x3 E2 C1 V2=>RG.nl [.bool false,vN,.bool false,vN] C1 fun y3 F2 j0 W2=>Aa<|Ac<|Ab (AC I (j0.memA .t2))<|Ab (AC I (j0.memA .t1))<|bk h fun X0 q2 h=>jE (bd 86) I (e2 I I) (fun p q=>aK_c n (j0.hL hL q) a0 (j0.km h0_1 q) a1 (j0.km h1_1 q) q2) I fun z3 b3 W1 ⟨v2,hu_,W0⟩=>?_
 subst hu_
 obtain ⟨D1,X2⟩:=j0.agr W1
 refine RG.nl [.bool false,vN] D1 fun A3 G2 E1 J0=>AW [.bool X0.fh,v2] E1 .hd (o2 I (AX (Ap W0 J0))) fun B3 t0 d1=>Aa<|Ac<|Ab (AC I (t0.memA .t3))<|Ab (AC I (t0.memA .hd))<|bk h fun d0 s2 h=>jE (bd 149) I (e2 I I) (fun p q=>bV_c n (t0.hL hL q) a0 (t0.km h0_1 q) X0 (Ar (Ap W0 (Tt J0 d1)) q) s2) I fun C3 c3 X1 ⟨q0,x2,hu_,F0,Z1⟩=>?_
 subst hu_
 obtain ⟨F1,R1⟩:=t0.agr X1
 refine Ae I<|Ab (Ai I I)<|Ab (Ai I I)<|RG.nl [.bool false,vN] F1 fun D3 H2 G1 K0=>RG.nl [.bool false,vN] G1 fun E3 I2 H1 M0=>AW [.bool d0.1.fh,q0] H1 .t1 (o2 I (AX (Ap F0 (Tt K0 M0)))) fun F3 I1 g1=>?_
 have R0:=Tt K0 (Tt M0 g1)
 refine AW [.bool d0.2.fh,x2] I1 .hd (o2 I (AX (Ap Z1 R0))) fun G3 u0 P0=>Aa<|Ac<|Ab (AC I (u0.memA .t4))<|Ab (AC I (u0.memA .t2))<|bk h fun g0 u2 h=>jE (bd 149) I (e2 I I) (fun p q=>bV_c n (u0.hL hL q) a1 (u0.km h1_1 q) X0 (Ar (Ap W0 (Tt J0 (Tt d1 (Tt R1 (Tt K0 (Tt M0 (Tt g1 P0))))))) q) u2) I fun H3 d3 Y1 ⟨s0,y2,hu_,G0,b2⟩=>?_
 subst hu_
 obtain ⟨J1,j1⟩:=u0.agr Y1
 refine Ae I<|Ab (Ai I I)<|Ab (Ai I I)<|RG.nl [.bool false,vN] J1 fun I3 J2 K1 C0=>RG.nl [.bool false,vN] K1 fun J3 K2 M1 D0=>AW [.bool g0.1.fh,s0] M1 .t1 (o2 I (AX (Ap G0 (Tt C0 D0)))) fun K3 P1 Q0=>?_
 have E0:=Tt C0 (Tt D0 Q0)
 refine AW [.bool g0.2.fh,y2] P1 .hd (o2 I (AX (Ap b2 E0))) fun g3 b0 v0=>Aa<|Aj<|Ac<|Ba 0 I<|AY I ((b0.memA .t1) 0 _ I)<|Aa<|MX.ifb I h (fun y1 h=>?_) (fun y1 h=>?_)
 refine du 4 fun c0 x1=>Rx 0 58 c0 I x1 (AC I (b0.memA .t3))<|Rx 2 56 c0 I x1 (AC I (b0.memA .t1))<|bk h fun x0 k2 h=>Bp 1 7 c0 I .plain (bd 125) I (e1 I) (fun p q=>bz_c n (b0.hL hL q) d0.1 (Ar (Ap F0 (Tt R0 (Tt P0 (Tt j1 (Tt C0 (Tt D0 (Tt Q0 v0))))))) q) k2) I fun j3 Y2 U1 ⟨k0,hu_,U0⟩=>?_
 subst hu_
 obtain ⟨Y0,Q1⟩:=b0.agr U1
 refine bk h fun y0 p2 h=>Bp 3 15 c0 I .plain (bd 125) I (e1 I) (fun p q=>bz_c n (Y0.hL hL q) g0.1 (Ar (Ap G0 (Tt E0 (Tt v0 Q1))) q) p2) I fun p3 Z2 V1 ⟨p0,hu_,V0⟩=>?_
 subst hu_
 obtain ⟨A1,Z0⟩:=Y0.agr V1
 refine Bv 4 31 c0 I I .plain (Ax (news:=[.bool x0.fh,k0]) A1 .t3 I I I I I I (o2 I (AX (Ap U0 Z0)))) fun q3 B1 B0=>Bv 5 63 c0 I I .plain (Ax (news:=[.bool y0.fh,p0]) B1 .t1 I I I I I I (o2 I (AX (Ap V0 B0)))) fun s3 H0 I0=>AO (dk c0)<|Ac<|Ab (AC I (H0.memA .t3))<|Ab (AC I (H0.memA .t1)) ?_
 have u1:=Tt Z0 (Tt B0 I0)
 have k1:=Ap U0 u1
 obtain ⟨z2,M2,c2,_⟩:=Rep.sl k1
 have p1:=Ap V0 (Tt B0 I0)
 obtain ⟨A2,P2,d2,_⟩:=Rep.sl p1
 refine Ab (AP (vs:=[.agg #[.bool x0.fh,k0],.agg #[.bool y0.fh,p0]]) (u:=.agg #[.bool x0.fh,k0,.bool y0.fh,p0]) (e2 I I) (fun p=>by rw [c2,d2]; try kernel_rfl))<|AW [.bool x0.fh,k0,.bool y0.fh,p0] H0 .t5 (o4 I (AX k1) I (AX p1)) fun u3 z0 b1=>Aa<|Ao I<|Au hb0 func118 I (.cons (.many (cs:=[.bool x0.fh,k0,.bool y0.fh,p0]) I I (z0.memA .t5)) .nil) I ?_
 cases h
 exact ⟨z0.ag,fun p q=>⟨k0,p0,I,z0.kd (Ap U0 (Tt u1 b1)) q,z0.kd (Ap V0 (Tt B0 (Tt I0 b1))) q⟩⟩
 refine Az<|Ac<|Ab (AC I (b0.memA .t3))<|Ab (AC I (b0.memA .t1)) ?_
 have v1:=Tt R0 (Tt P0 (Tt j1 (Tt C0 (Tt D0 (Tt Q0 v0)))))
 have q1:=Ap F0 v1
 obtain ⟨B2,Q2,g2,_⟩:=Rep.sl q1
 have s1:=Ap G0 (Tt E0 v0)
 obtain ⟨C2,R2,j2,_⟩:=Rep.sl s1
 refine Ab (AP (vs:=[.agg #[.bool d0.1.fh,q0],.agg #[.bool g0.1.fh,s0]]) (u:=.agg #[.bool d0.1.fh,q0,.bool g0.1.fh,s0]) (e2 I I) (fun p=>by rw [g2,j2]; try kernel_rfl))<|AW [.bool d0.1.fh,q0,.bool g0.1.fh,s0] b0 .t5 (o4 I (AX q1) I (AX s1)) fun v3 A0 c1=>Aa<|Ao I<|Au hb0 func118 I (.cons (.many (cs:=[.bool d0.1.fh,q0,.bool g0.1.fh,s0]) I I (A0.memA .t5)) .nil) I ?_
 cases h
 exact ⟨A0.ag,fun p q=>⟨q0,s0,I,A0.kd (Ap F0 (Tt v1 c1)) q,A0.kd (Ap G0 (Tt E0 (Tt v0 c1))) q⟩⟩
def df_p (_n:Nat) (a0:Ua) (a1:Ua):Oa (Ua × Ua):=
  (some (((shrU a0 32) * (a1 &&& (4294967295:Ua))) + (shrU ((a0 &&& (4294967295:Ua)) * (a1 &&& (4294967295:Ua))) 32))).bind fun u1=>(some (shrU ((u1 &&& (4294967295:Ua)) + ((a0 &&& (4294967295:Ua)) * (shrU a1 32))) 32)).bind fun u2=>some ((((shrU a0 32) * (shrU a1 32)) + (shrU u1 32)) + u2,a0 * a1)
theorem df_c (n:Nat) {L w} (_hL:hl L w) (a0:Ua) (a1:Ua)  {r:Ua × Ua} (h:df_p n a0 a1 = some r) :
 Cl 187 #[vU a0,vU a1] w (aj w fun _ u=>u = .tuple #[vU r.1,vU r.2]):=by
 unfold df_p at h
 have hS0:=AD w
 refine AK func187 I I I fun _ cs0 hb0=>Ac<|Ag I<|Ag I<|Aa<|Ac<|Ae I<|Ab (FV.andU (a:=a0) (b:=(4294967295:Ua)) I I)<|Ag I<|Aa<|Ac<|Ae I<|Ab (FV.shrU (a:=a0) (j:=32) I I)<|Ag I<|Aa<|Ac<|Ae I<|Ab (FV.andU (a:=a1) (b:=(4294967295:Ua)) I I)<|Ag I<|Aa<|Ac<|Ae I<|Ab (FV.shrU (a:=a1) (j:=32) I I)<|Ag I<|Aa<|Ac<|Ae I<|Ae I<|Ab (FV.mulU (a:=a0 &&& (4294967295:Ua)) (b:=a1 &&& (4294967295:Ua)) I I)<|Ag I<|Aa<|Ac<|Ae I<|Ae I<|Ab (FV.mulU (a:=shrU a0 32) (b:=a1 &&& (4294967295:Ua)) I I)<|Ae I<|Ab (FV.shrU (a:=(a0 &&& (4294967295:Ua)) * (a1 &&& (4294967295:Ua))) (j:=32) I I)<|bk h fun u1 hu1 h=>Ab (FV.as (FV.addU (a:=(shrU a0 32) * (a1 &&& (4294967295:Ua))) (b:=shrU ((a0 &&& (4294967295:Ua)) * (a1 &&& (4294967295:Ua))) 32) I I) (congrArg (fun z:Ua=>Value.int .u64 (z.toNat:Int)) (Option.some.inj hu1)))<|Ag I<|Aa<|Ac<|Ae I<|Ab (FV.andU (a:=u1) (b:=(4294967295:Ua)) I I)<|Ag I<|Aa<|Ac<|Ae I<|Ab (FV.shrU (a:=u1) (j:=32) I I)<|Ag I<|Aa<|Ac<|Ae I<|Ae I<|Ae I ?_
 refine Ab (FV.mulU (a:=a0 &&& (4294967295:Ua)) (b:=shrU a1 32) I I)<|Ab (FV.addU (a:=u1 &&& (4294967295:Ua)) (b:=(a0 &&& (4294967295:Ua)) * (shrU a1 32)) I I)<|Ag I<|Aa<|Ac<|Ae I<|Ae I<|Ab (FV.mulU (a:=shrU a0 32) (b:=shrU a1 32) I I)<|Ae I<|Ab (FV.addU (a:=(shrU a0 32) * (shrU a1 32)) (b:=shrU u1 32) I I)<|Ae I<|bk h fun u2 hu2 h=>Ab (FV.as (FV.shrU (a:=(u1 &&& (4294967295:Ua)) + ((a0 &&& (4294967295:Ua)) * (shrU a1 32))) (j:=32) I I) (congrArg (fun z:Ua=>Value.int .u64 (z.toNat:Int)) (Option.some.inj hu2)))<|Ab (FV.addU (a:=((shrU a0 32) * (shrU a1 32)) + (shrU u1 32)) (b:=u2) I I)<|Ag I<|Aa<|Ac<|Ae I<|Ae I<|Ab (FV.mulU (a:=a0) (b:=a1) I I)<|Ag I<|Aa<|Ao I<|Au hb0 func187 I (.cons (.tmp I) (.cons (.tmp I) .nil)) I ?_
 cases h
 exact hS0.gv
def aX_l1 (n:Nat) (a1:La Ua) (s0:Ua) (d0:Nat) (q0:Ua × Nat × (La Ua) -> Oa ((La Ua) × Ua)):Ua × Nat × (La Ua) -> Oa ((La Ua) × Ua)
  | (g0,b0,c0)=>(if b0 < a1.length then (a1[b0]?).bind fun t0=>(df_p n s0 t0).bind fun j0=>(c0[d0 + b0]?).bind fun u0=>(add64 u0 j0.2 (0:Ua)).bind fun k0=>(add64 k0.1 g0 (0:Ua)).bind fun p0=>(put c0 ((d0 + b0:Nat):Int) p0.1).bind fun v0=>q0 ((j0.1 + k0.2) + p0.2,b0 + 1,v0) else some (c0,g0))
def aX_l2 (n:Nat) (a0:La Ua) (a1:La Ua) (g0:Nat × (La Ua) -> Oa (La Ua)):Nat × (La Ua) -> Oa (La Ua)
  | (b0,c0)=>(if b0 < a0.length then (a0[b0]?).bind fun k0=>Option.bind (au (aX_l1 n a1 k0 b0) n (0,0,c0)) (fun (d0,j0)=>(d0[b0 + a1.length]?).bind fun _x490=>(put d0 ((b0 + a1.length:Nat):Int) j0).bind fun p0=>g0 (b0 + 1,p0)) else some c0)
def aX_p (n:Nat) (a0:La Ua) (a1:La Ua):Oa (La Ua):=
  (mk ((a0.length + a1.length:Nat):Int) (0:Ua)).bind fun b0=>Option.bind (au (aX_l2 n a0 a1) n (0,b0)) (fun c0=>some c0)
theorem aX_c (n:Nat) {L w} (hL:hl L w) {a0:La Ua} {v0_0:Vc} (h0_0:Rep.R w L [v0_0] a0) {a1:La Ua} {v1_0:Vc} (h1_0:Rep.R w L [v1_0] a1)  {r:La Ua} (h:aX_p n a0 a1 = some r) :
 Cl 159 #[v0_0,v1_0] w (aj w fun w' u=>∃ v0_0:Vc,u = v0_0/\Rep.R w' L [v0_0] r):=by
 unfold aX_p at h
 refine AK func159 I I I fun _ cs0 hb0=>Ac<|Ag I<|Aa<|Ac<|Ae I ?_
 have hl1:=Bh h0_0
 refine Ab (Bk (xs:=a0) underlying131 I h0_0)<|Ae I ?_
 have hl2:=Bh h1_0
 refine Ab (Bk (xs:=a1) underlying131 I h1_0)<|Ab (Bu (i:=a0.length) (j:=a1.length) I I (by omega))<|bk h fun R0 J0 h=>Ah .plain I (Does.mk (α:=Ua) J0 (AD w) cU I) fun Q2 j0 z0 I2=>Ag I<|Aa<|Aj<|Ac<|Ae I<|Ab (Bk (xs:=a0) underlying131 I (Bb h0_0 z0))<|Ae I<|Aa<|AF ?_
 obtain ⟨M2,U1,I1⟩:=av h
 refine MX.lf (α:=Nat × (La Ua) × (La Vc)) (fun ⟨b0,d0,k0⟩=>[(1,v1_0),(5,(.slice (some ⟨j0,0,none⟩) ((a0.length + a1.length:Nat):Int).toNat ((a0.length + a1.length:Nat):Int).toNat)),(22,v0_0),(23,vn a0.length),(24,vn b0)]) (fun ⟨b0,d0,k0⟩=>[rr w 42 Ua (.slice (some ⟨j0,0,none⟩) ((a0.length + a1.length:Nat):Int).toNat ((a0.length + a1.length:Nat):Int).toNat) d0.length k0]) (fun ⟨b0,d0,k0⟩ K0=>Cells K0 (bl [rr w 42 Ua (.slice (some ⟨j0,0,none⟩) ((a0.length + a1.length:Nat):Int).toNat ((a0.length + a1.length:Nat):Int).toNat) d0.length k0] ++ L) k0 d0) (fun ⟨b0,d0,k0⟩=>(b0,d0)) (0,R0,(List.replicate ((a0.length + a1.length:Nat):Int).toNat [vW 0]).flatten) U1 z0 (AJ (cs:=(List.replicate ((a0.length + a1.length:Nat):Int).toNat [vW 0]).flatten) (xs:=R0) z0 L (Cells.mk J0 I)) ?_
 rintro A2 ⟨b0,d0,k0⟩ K0 q1 t0 x1 F0 h
 unfold aX_l2 at h
 try dsimp only at h
 refine Ac<|Ab (BD (i:=b0) (j:=a0.length) I I)<|Aa<|Aj<|Be I h (fun Z0 h=>?_) (fun Z0 h=>?_)
 refine Az<|Aj<|AF<|Ac<|Ae I<|bk h fun D0 c2 h=>?_
 obtain ⟨y2,C2,C1,K1,c1,W1,P1⟩:=Bw (Bb h0_0 t0) c2
 have D1:c1 = [vU D0]:=W1; subst D1
 refine Ab (BE 1 b0 I C1 I I K1)<|AY I (P1 0 _ I)<|Ag I<|Ag I<|Aa<|Ac<|Ag I<|Aa<|Aj<|Ac<|Ae I<|Ab (Bk (xs:=a1) underlying131 I (Bb h1_0 t0))<|Ae I<|Aa<|AF ?_
 obtain ⟨P2,V1,J1⟩:=av h
 refine MX.lf (α:=Ua × Nat × (La Ua) × (La Vc)) (fun ⟨s0,c0,p0,q0⟩=>[(1,v1_0),(5,(.slice (some ⟨j0,0,none⟩) ((a0.length + a1.length:Nat):Int).toNat ((a0.length + a1.length:Nat):Int).toNat)),(22,v0_0),(23,vn a0.length),(24,vn b0),(6,vn b0),(7,vU D0),(8,vU s0),(29,v1_0),(30,vn a1.length),(31,vn c0)]) (fun ⟨s0,c0,p0,q0⟩=>[rr w 42 Ua (.slice (some ⟨j0,0,none⟩) ((a0.length + a1.length:Nat):Int).toNat ((a0.length + a1.length:Nat):Int).toNat) p0.length q0]) (fun ⟨s0,c0,p0,q0⟩ M0=>Cells M0 (bl [rr w 42 Ua (.slice (some ⟨j0,0,none⟩) ((a0.length + a1.length:Nat):Int).toNat ((a0.length + a1.length:Nat):Int).toNat) p0.length q0] ++ L) q0 p0) (fun ⟨s0,c0,p0,q0⟩=>(s0,c0,p0)) (0,0,d0,k0) V1 t0 F0 ?_
 rintro B2 ⟨s0,c0,p0,q0⟩ M0 s1 g0 E0 v0 h
 unfold aX_l1 at h
 try dsimp only at h
 refine Ac<|Ab (BD (i:=c0) (j:=a1.length) I I)<|Aa<|Aj<|Be I h (fun b1 h=>?_) (fun b1 h=>?_)
 refine Az<|Aj<|AF<|Ac<|Ae I<|bk h fun P0 d2 h=>?_
 obtain ⟨z2,D2,E1,M1,d1,X1,Q1⟩:=Bw (Bb h1_0 g0) d2
 have F1:d1 = [vU P0]:=X1; subst F1
 refine Ab (BE 1 c0 I E1 I I M1)<|AY I (Q1 0 _ I)<|Ag I<|Ag I<|Aa<|Ac<|Ae I<|Ae I<|bk h fun u0 q2 h=>Bm (.tuple #[vU u0.1,vU u0.2]) (bd 187) I (e2 I I) (fun p q=>df_c n (g0.hL0 hL q) D0 P0 q2) I<|Ae I<|Ab (Ai I I)<|Ab (Ai I I)<|Ag I<|Ag I<|Aa<|Ac<|Ae I<|Ae I<|Ae I<|Ab (Bu (i:=b0) (j:=c0) I I (by omega))<|bk h fun Q0 g2 h=>?_
 obtain ⟨V0,E2,x0,C0,g1,Y1,R1⟩:=St.nth (α:=Ua) g0 .hd v0 g2
 obtain ⟨X0,F2,G0⟩:=Cb (α:=Ua) g0 .hd C0
 obtain rfl:V0 = ⟨X0,0,none⟩:=by rw [G0] at x0; cases x0; rfl
 have G1:g1 = [vU Q0]:=Y1; subst G1
 refine Ab (BE 1 (b0 + c0) I x0 I I C0)<|AY I (R1 0 _ I)<|Ae I<|bk h fun y0 s2 h=>Ab (FV.add64 (a:=Q0) (b:=u0.2) (c:=(0:Ua)) func188 I I I I I I I s2)<|Ae I<|Ab (Ai I I)<|Ab (Ai I I)<|Ag I<|Ag I<|Aa<|Ac<|Ae I<|Ae I<|bk h fun U0 t2 h=>Ab (FV.add64 (a:=y0.1) (b:=s0) (c:=(0:Ua)) func188 I I I I I I I t2)<|Ae I<|Ab (Ai I I)<|Ab (Ai I I)<|Ag I<|Ag I<|Aa<|Av<|Ae I<|Ae I<|Ae I<|Ab (Bu (i:=b0) (j:=c0) I I (by omega))<|Ae I<|Ae I<|Ae I<|Ab (FV.addU (a:=u0.1) (b:=y0.2) I I)<|Ae I<|Ab (FV.addU (a:=u0.1 + y0.2) (b:=U0.2) I I)<|Ab (BE 1 (b0 + c0) I x0 I I C0)<|bk h fun v2 k2 h=>RG.acts' .plain (Acts.set (α:=Ua) (i:=b0 + c0) k2 g0 G0 (fun _=>.hd) v0 I I I I I I) fun R2 ⟨j1,u1,y1,A1⟩=>Ag I<|Aa<|AI<|Av<|Ab (Bu (i:=c0) (j:=1) I I (by omega))<|Ae I<|Aa<|s1 ((u0.1 + y0.2) + U0.2,c0 + 1,v2,j1) u1 (Tt E0 y1) A1 h
 refine Bj I ?_
 have h:=J1 _ h
 try dsimp only at h
 refine Av<|Ae I<|Ae I<|Ae I<|Ab (Bk (xs:=a1) underlying131 I (Bb h1_0 g0))<|Ab (Bu (i:=b0) (j:=a1.length) I I (by omega))<|Ae I<|bk h fun u2 j2 h=>?_
 obtain ⟨W0,G2,B0,I0,k1,Z1,K2⟩:=St.nth (α:=Ua) g0 .hd v0 j2
 obtain ⟨Y0,H2,H0⟩:=Cb (α:=Ua) g0 .hd I0
 obtain rfl:W0 = ⟨Y0,0,none⟩:=by rw [H0] at B0; cases B0; rfl
 have H1:k1 = [vU u2]:=Z1; subst H1
 refine Ab (BE 1 (b0 + a1.length) I B0 I I I0)<|bk h fun x2 p2 h=>RG.acts' .plain (Acts.set (α:=Ua) (i:=b0 + a1.length) p2 g0 H0 (fun _=>.hd) v0 I I I I I I) fun U2 ⟨p1,v1,z1,B1⟩=>Aa<|AI<|Av<|Ab (Bu (i:=b0) (j:=1) I I (by omega))<|Ae I<|Aa<|q1 (b0 + 1,x2,p1) v1 (Tt x1 (Tt E0 z1)) B1 h
 refine Bj I ?_
 have h:=I1 _ h
 try dsimp only at h
 refine Ac<|Ae I<|Ag I<|Aa<|Ao I ?_
 have A0:=BI t0 .hd
 have J2:=BJ t0 .hd
 have b2:=BK (α:=Ua) (v:=(.slice (some ⟨j0,0,none⟩) ((a0.length + a1.length:Nat):Int).toNat ((a0.length + a1.length:Nat):Int).toNat)) (xs:=d0) A0 L (Bl (α:=Ua) t0 .hd F0 hL)
 refine Bi hb0 func159 I I ?_
 cases h
 exact ⟨A0.ag,fun p q=>⟨(.slice (some ⟨j0,0,none⟩) ((a0.length + a1.length:Nat):Int).toNat ((a0.length + a1.length:Nat):Int).toNat),I,A0.kd b2 q⟩⟩
def aH_p (n:Nat) (a0:Th) (a1:Th):Oa Th:=
  (aX_p n a0.fu a1.fu).bind fun b0=>(az_p n (!(a0.fh == a1.fh)) b0).bind fun c0=>some c0
theorem aH_c (n:Nat) {L w} (hL:hl L w) (a0:Th) {v0_1:Vc} (h0_1:Rep.R w L [v0_1] a0.fu) (a1:Th) {v1_1:Vc} (h1_1:Rep.R w L [v1_1] a1.fu)  {r:Th} (h:aH_p n a0 a1 = some r) :
 Cl 123 #[.agg #[.bool a0.fh,v0_1],.agg #[.bool a1.fh,v1_1]] w (aj w fun w' u=>∃ v0_1:Vc,u = .agg #[.bool r.fh,v0_1]/\Rep.R w' L [v0_1] r.fu):=by
 unfold aH_p at h
 refine AK func123 I I I fun _ cs0 hb0=>Ac<|RG.bx (AD w) I I fun Q0 C0 s0 F0=>RG.bx s0 I I fun R0 D0 t0 G0=>RG.nl [.bool false,vN] t0 fun U0 E0 d0 H0=>Aa<|Aj<|du 11 fun b0 c0=>Rv 0 b0 I c0 (fun _=>AS 0 I)<|Rx 1 3088 b0 I c0 (AN I ((d0.memA .t2) 0 _ I))<|Rv 2 b0 I c0 (fun _=>AS 0 I)<|Rx 3 3088 b0 I c0 (AN I ((d0.memA .t1) 0 _ I))<|Rv 4 b0 I c0 (fun _=>FV.neqB (a:=a0.fh) (b:=a1.fh) underlying4 I I)<|Rv 5 b0 I c0 (fun _=>AS 1 I)<|Rx 6 3584 b0 I c0 (AN I ((d0.memA .t2) 1 _ I))<|Rv 7 b0 I c0 (fun _=>AS 1 I)<|Rx 8 3584 b0 I c0 (AN I ((d0.memA .t1) 1 _ I))<|bk h fun Y0 A0 h=>Bp 9 1023 b0 I .plain (bd 159) I (e2 I I) (fun p q=>aX_c n (d0.hL hL q) (d0.km h0_1 q) (d0.km h1_1 q) A0) I fun V0 M0 x0 ⟨K0,hu_,z0⟩=>?_
 subst hu_
 obtain ⟨k0,I0⟩:=d0.agr x0
 refine bk h fun q0 B0 h=>Bp 10 2047 b0 I .plain (bd 151) I (e2 I I) (fun p q=>az_c n (k0.hL hL q) (Ar z0 q) B0) I fun W0 P0 y0 ⟨j0,hu_,p0⟩=>?_
 subst hu_
 obtain ⟨u0,J0⟩:=k0.agr y0
 refine Bv 11 4095 b0 I I .plain (Ax (news:=[.bool q0.fh,j0]) u0 .hd I I I I I I (o2 I (AX p0))) fun X0 g0 v0=>AO (dk b0)<|Ao I<|Au hb0 func123 I (.cons (.many (cs:=[.bool q0.fh,j0]) I I (g0.memA .hd)) .nil) I ?_
 cases h
 exact ⟨g0.ag,fun p q=>⟨j0,I,g0.kd (Ap p0 v0) q⟩⟩
def cv_p (n:Nat) (a0:Tg) (a1:Tg):Oa Tg:=
  (aH_p n a0.fC a1.fC).bind fun b0=>(aH_p n a0.fA a1.fA).bind fun c0=>(bU_p n b0 c0).bind fun d0=>some d0
theorem cv_c (n:Nat) {L w} (hL:hl L w) (a0:Tg) {v0_1:Vc} (h0_1:Rep.R w L [v0_1] a0.fC.fu) {v0_3:Vc} (h0_3:Rep.R w L [v0_3] a0.fA.fu) (a1:Tg) {v1_1:Vc} (h1_1:Rep.R w L [v1_1] a1.fC.fu) {v1_3:Vc} (h1_3:Rep.R w L [v1_3] a1.fA.fu)  {r:Tg} (h:cv_p n a0 a1 = some r) :
 Cl 102 #[.agg #[.bool a0.fC.fh,v0_1,.bool a0.fA.fh,v0_3],.agg #[.bool a1.fC.fh,v1_1,.bool a1.fA.fh,v1_3]] w (aj w fun w' u=>∃ v0_1 v0_3:Vc,u = .agg #[.bool r.fC.fh,v0_1,.bool r.fA.fh,v0_3]/\Rep.R w' L [v0_1] r.fC.fu/\Rep.R w' L [v0_3] r.fA.fu):=by
 unfold cv_p at h
 refine AK func102 I I I fun _ cs0 hb0=>Ac<|RG.bx (AD w) I I fun g1 M0 x0 R0=>RG.bx x0 I I fun j1 P0 y0 U0=>RG.nl [.bool false,vN,.bool false,vN] y0 fun k1 Q0 c0 V0=>Aa<|Aj<|du 11 fun b0 d0=>Rv 0 b0 I d0 (fun _=>AS 0 I)<|Rx 1 3600 b0 I d0 (Aq (cs:=[.bool a0.fC.fh,v0_1]) I I (ac (c0.memA .t2) 0 2))<|Rv 2 b0 I d0 (fun _=>AS 0 I)<|Rx 3 3600 b0 I d0 (Aq (cs:=[.bool a1.fC.fh,v1_1]) I I (ac (c0.memA .t1) 0 2))<|Rv 5 b0 I d0 (fun _=>AS 2 I)<|Rx 6 3584 b0 I d0 (Aq (cs:=[.bool a0.fA.fh,v0_3]) I I (ac (c0.memA .t2) 2 2))<|Rv 7 b0 I d0 (fun _=>AS 2 I)<|Rx 8 3584 b0 I d0 (Aq (cs:=[.bool a1.fA.fh,v1_3]) I I (ac (c0.memA .t1) 2 2))<|bk h fun J0 G0 h=>Bp 4 511 b0 I .plain (bd 123) I (e2 I I) (fun p q=>aH_c n (c0.hL hL q) a0.fC (c0.km h0_1 q) a1.fC (c0.km h1_1 q) G0) I fun p1 b1 B0 ⟨Y0,hu_,E0⟩=>?_
 subst hu_
 obtain ⟨g0,W0⟩:=c0.agr B0
 refine bk h fun K0 H0 h=>Bp 9 1023 b0 I .plain (bd 123) I (e2 I I) (fun p q=>aH_c n (g0.hL hL q) a0.fA (g0.km h0_3 q) a1.fA (g0.km h1_3 q) H0) I fun q1 c1 C0 ⟨Z0,hu_,F0⟩=>?_
 subst hu_
 obtain ⟨s0,A0⟩:=g0.agr C0
 refine bk h fun k0 I0 h=>Bp 10 2047 b0 I .plain (bd 118) I (e2 I I) (fun p q=>bU_c n (s0.hL hL q) J0 (Ar (Ap E0 A0) q) K0 (Ar F0 q) I0) I fun s1 d1 D0 ⟨p0,q0,hu_,u0,v0⟩=>?_
 subst hu_
 obtain ⟨z0,X0⟩:=s0.agr D0
 refine Bv 11 4095 b0 I I .plain (Ax (news:=[.bool k0.fC.fh,p0,.bool k0.fA.fh,q0]) z0 .hd I I I I I I (o4 I (AX u0) I (AX v0))) fun u1 j0 t0=>AO (dk b0)<|Ao I<|Au hb0 func102 I (.cons (.many (cs:=[.bool k0.fC.fh,p0,.bool k0.fA.fh,q0]) I I (j0.memA .hd)) .nil) I ?_
 cases h
 exact ⟨j0.ag,fun p q=>⟨p0,q0,I,j0.kd (Ap u0 t0) q,j0.kd (Ap v0 t0) q⟩⟩
theorem eQ:ElT Tryz.prog 55 46 (Rep.size Ta) 128 (.agg zM) ae:=⟨underlying55,by kernel_rfl,rfl,rfl,rfl,rfl⟩
def dE_p (n:Nat) (a0:Ta) (a1:Ta):Oa (Ta × Int):=
  (aV_p n ([a0,a1]:La Ta)).bind fun d0=>(if d0 = true then (aM_p n a0).bind fun g0=>(aM_p n a1).bind fun j0=>(cv_p n g0 j0).bind fun k0=>(aY_p n k0 (0:Int)).bind fun c0=>some (c0.1,c0.2) else (aY_p n (⟨(⟨false,([]:La Ua)⟩:Th),(⟨false,([]:La Ua)⟩:Th)⟩:Tg) (20:Int)).bind fun b0=>some (b0.1,b0.2))
theorem dE_c (n:Nat) {L w} (hL:hl L w) (a0:Ta) (a1:Ta)  {r:Ta × Int} (h:dE_p n a0 a1 = some r) :
 Cl 67 #[.agg ((aa a0)).toArray,.agg ((aa a1)).toArray] w (aj w fun _ u=>u = .tuple #[.agg ((aa r.1)).toArray,vI r.2]):=by
 unfold dE_p at h
 refine AK func67 I I I fun _ cs0 hb0=>Ac<|RG.bx (AD w) I I fun j2 s1 I0 F1=>RG.bx I0 I I fun k2 u1 J0 G1=>RG.nl ae J0 fun p2 v1 s0 H1=>Ag I<|Aa<|Ac<|Ab (AC I (s0.memA .t2))<|Ab (AC I (s0.memA .t1))<|BF (fst:=[]) (cap:=[]) (vs:=[.agg ((aa a0)).toArray,.agg ((aa a1)).toArray,.func (.func 102) #[] #[]]) .plain (bd 91) func91 I I I I (e3 I I I) I fun C1 E0 V1=>Ac<|RG.bx s0 I I fun q2 x1 K0 I1=>RG.bx K0 I I fun s2 y1 M0 J1=>RG.nl [.bool false,vN,.bool false,vN] M0 fun u2 z1 t0 K1=>Ag I<|Aa<|Aj<|Ac<|Ab (AC I (t0.memA .t2))<|Ab (AC I (t0.memA .t1))<|Ah .plain I (AU (α:=Ta) (xs:=([a0,a1]:La Ta)) (vs:=[.agg ((aa a0)).toArray,.agg ((aa a1)).toArray]) (ds' :=(aa a0 ++ aa a1)) I t0 eQ I (e2 I I) (by kernel_rfl) I) fun v2 A1 c0 M1=>?_
 refine bk h fun k1 b1 h=>Bm (.bool k1) (bd 99) I (e1 I) (fun p q=>aV_c n (c0.hL0 hL q) (Ar (St.lend (α:=Ta) (L:=L) c0 .hd (AJ (cs:=(aa a0 ++ aa a1)) (xs:=(([a0,a1]:La Ta):La Ta)) c0 L (AB (cs:=(aa a0)) (ds:=(aa a1)) (bD a0.fN a0.fD) (AB (cs:=(aa a1)) (ds:=[]) (bD a1.fN a1.fD) (AR _ _)))) hL) q) b1) I<|Ab (Bz I)<|Aa<|MX.ifnb I h (fun H0 h=>?_) (fun H0 h=>?_)
 refine Az<|Aj<|du 6 fun b0 j0=>Rv 0 b0 I j0 (fun _=>Ak I)<|Rx 1 244 b0 I j0 (AC I (c0.memA .t3))<|Rx 3 240 b0 I j0 (AC I (c0.memA .t2))<|bk h fun p1 c1 h=>Bp 2 15 b0 I .plain (bd 84) I (e1 I) (fun p q=>aM_c n (c0.hL hL q) a0 c1) I fun x2 b2 Q0 ⟨W1,X1,hu_,V0,W0⟩=>?_
 subst hu_
 obtain ⟨y0,P1⟩:=c0.agr Q0
 refine bk h fun q1 d1 h=>Bp 4 31 b0 I .plain (bd 84) I (e1 I) (fun p q=>aM_c n (y0.hL hL q) a1 d1) I fun y2 c2 R0 ⟨Y1,Z1,hu_,X0,Y0⟩=>?_
 subst hu_
 obtain ⟨z0,C0⟩:=y0.agr R0
 refine bk h fun d0 g1 h=>Bp 5 63 b0 I .plain (bd 102) I (e2 I I) (fun p q=>cv_c n (z0.hL hL q) p1 (Ar (Ap V0 C0) q) (Ar (Ap W0 C0) q) q1 (Ar X0 q) (Ar Y0 q) g1) I fun z2 d2 U0 ⟨u0,v0,hu_,F0,G0⟩=>?_
 subst hu_
 obtain ⟨P0,Q1⟩:=z0.agr U0
 refine Bv 6 127 b0 I I .plain (Ax (news:=[.bool d0.fC.fh,u0,.bool d0.fA.fh,v0]) P0 .t1 I I I I I I (o4 I (AX F0) I (AX G0))) fun A2 g0 D0=>Rv 7 b0 I j0 (fun _=>Bn I)<|AO (dk b0)<|Ao I<|Au (u:=.tuple #[.agg #[.bool d0.fC.fh,u0,.bool d0.fA.fh,v0],vI 0]) E0 func91 I (.cons (.many (cs:=[.bool d0.fC.fh,u0,.bool d0.fA.fh,v0]) I I (g0.memA .t1)) (.cons (.tmp I) .nil)) I<|Ab (Ai I I)<|Ab (Ai I I)<|bk h fun p0 j1 h=>Bm (.tuple #[.agg ((aa p0.1)).toArray,vI p0.2]) (bd 90) I (e2 I I) (fun p q=>aY_c n (g0.hL0 hL q) d0 (g0.kd (Ap F0 D0) q) (g0.kd (Ap G0 D0) q) j1) I<|Ab (Ai I I)<|Ab (Ai I I)<|AW (aa p0.1) g0 .t4 (ai I) fun B2 A0 R1=>Ag I<|Aa<|Ao I<|Au hb0 func67 I (.cons (.many (cs:=(aa p0.1)) I I (A0.memA .t4)) (.cons (.tmp I) .nil)) I ?_
 cases h
 exact A0.gv
 refine Ac<|RG.nl [.bool false,vN,.bool false,vN] c0 fun C2 B1 B0 U1=>Aa<|Ac<|Ab (AC I (B0.memA .hd))<|AW [.bool false,vN,.bool false,vN] B0 .t2 (ai I) fun D2 q0 D1=>Ag I<|Aa<|Ao I<|Au (u:=.tuple #[.agg #[.bool false,vN,.bool false,vN],vI 20]) E0 func91 I (.cons (.many (cs:=[.bool false,vN,.bool false,vN]) I I (q0.memA .t2)) (.cons (.tmp I) .nil)) I<|Ab (Ai I I)<|Ab (Ai I I)<|bk h fun k0 Z0 h=>Bm (.tuple #[.agg ((aa k0.1)).toArray,vI k0.2]) (bd 90) I (e2 I I) (fun p q=>aY_c n (q0.hL0 hL q) (⟨(⟨false,([]:La Ua)⟩:Th),(⟨false,([]:La Ua)⟩:Th)⟩:Tg) (Ar (Rep.nilSlice _ _) q) (Ar (Rep.nilSlice _ _) q) Z0) I<|Ab (Ai I I)<|Ab (Ai I I)<|AW (aa k0.1) q0 .t5 (ai I) fun g2 x0 E1=>Ag I<|Aa<|Ao I<|Au hb0 func67 I (.cons (.many (cs:=(aa k0.1)) I I (x0.memA .t5)) (.cons (.tmp I) .nil)) I ?_
 cases h
 exact x0.gv
def ao_p (n:Nat) (a0:Ta) (a1:Ta):Oa (Except Tc Ta):=
  (dE_p n a0 a1).bind fun b0=>(al_p n b0.1 b0.2).bind fun d0=>exc d0 (fun g0=>some (.ok g0)) (fun c0=>some (.error c0))
theorem ao_c (n:Nat) {L w} (hL:hl L w) (a0:Ta) (a1:Ta)  {r:Except Tc Ta} (h:ao_p n a0 a1 = some r) :
 Cl 28 #[.agg ((aa a0)).toArray,.agg ((aa a1)).toArray] w (aK w (fun (y:Ta) _ u=>u = .agg ((aa y)).toArray) (fun e=>.iface 115 (.agg #[vI e.fE])) r):=by
 unfold ao_p at h
 refine BV func28 I I I fun _ cs0 hb0 hp0=>Ac<|RG.bx (AD w) I I fun E0 u0 k0 z0=>RG.bx k0 I I fun F0 v0 p0 A0=>RG.nl ae p0 fun G0 x0 b0 B0=>Aa<|Ac<|Ab (AC I (b0.memA .t2))<|Ab (AC I (b0.memA .t1))<|bk h fun c0 t0 h=>Bm (.tuple #[.agg ((aa c0.1)).toArray,vI c0.2]) (bd 67) I (e2 I I) (fun p q=>dE_c n (b0.hL0 hL q) a0 a1 t0) I<|Ab (Ai I I)<|Ab (Ai I I)<|xk h (fun y0 d0 h=>?_) (fun g0 d0 h=>?_)
 refine BL (fst:=[]) (cap:=[]) .plain (bd 56) I (e2 I I) (fun p q=>al_c n (b0.hL0 hL q) c0.1 d0) fun H0 s0=>?_
 obtain ⟨q0,C0⟩:=b0.agr s0
 cases h
 exact AE hp0 func28 ⟨q0.ag,I⟩
 refine Bm (.agg ((aa g0)).toArray) (bd 56) I (e2 I I) (fun p q=>AZ (al_c n (b0.hL0 hL q) c0.1 d0)) I<|AW (aa g0) b0 .hd (ai I) fun I0 j0 D0=>Aa<|Ao I<|Au hb0 func28 I (.cons (.many (cs:=(aa g0)) I I (j0.memA .hd)) .nil) I ?_
 cases h
 exact ⟨j0.ag,fun p q=>aD I⟩
theorem kz {a b:U8} (h0:a.1 = b.1) (h1:a.2.1 = b.2.1) (h2:a.2.2.1 = b.2.2.1) (h3:a.2.2.2.1 = b.2.2.2.1) (h4:a.2.2.2.2.1 = b.2.2.2.2.1) (h5:a.2.2.2.2.2.1 = b.2.2.2.2.2.1) (h6:a.2.2.2.2.2.2.1 = b.2.2.2.2.2.2.1) (h7:a.2.2.2.2.2.2.2 = b.2.2.2.2.2.2.2):a = b:=Prod.ext h0 (Prod.ext h1 (Prod.ext h2 (Prod.ext h3 (Prod.ext h4 (Prod.ext h5 (Prod.ext h6 (h7)))))))
theorem kM (a b:U8) (p:World):(do eqGuard .eql 44 (.tmp 0) (.tmp 0) (.agg #[vU a.1,vU a.2.1,vU a.2.2.1,vU a.2.2.2.1,vU a.2.2.2.2.1,vU a.2.2.2.2.2.1,vU a.2.2.2.2.2.2.1,vU a.2.2.2.2.2.2.2]) (.agg #[vU b.1,vU b.2.1,vU b.2.2.1,vU b.2.2.2.1,vU b.2.2.2.2.1,vU b.2.2.2.2.2.1,vU b.2.2.2.2.2.2.1,vU b.2.2.2.2.2.2.2]); binOp .eql 44 (.agg #[vU a.1,vU a.2.1,vU a.2.2.1,vU a.2.2.2.1,vU a.2.2.2.2.1,vU a.2.2.2.2.2.1,vU a.2.2.2.2.2.2.1,vU a.2.2.2.2.2.2.2]) (.agg #[vU b.1,vU b.2.1,vU b.2.2.1,vU b.2.2.2.1,vU b.2.2.2.2.1,vU b.2.2.2.2.2.1,vU b.2.2.2.2.2.2.1,vU b.2.2.2.2.2.2.2]):Sem Vc).run Tryz.prog p = .ok (.bool (decide (a = b))) p:=
  eqAgg (ks:=[.int .u64,.int .u64,.int .u64,.int .u64,.int .u64,.int .u64,.int .u64,.int .u64]) (xs:=[vU a.1,vU a.2.1,vU a.2.2.1,vU a.2.2.2.1,vU a.2.2.2.2.1,vU a.2.2.2.2.2.1,vU a.2.2.2.2.2.2.1,vU a.2.2.2.2.2.2.2]) (ys:=[vU b.1,vU b.2.1,vU b.2.2.1,vU b.2.2.2.1,vU b.2.2.2.2.1,vU b.2.2.2.2.2.1,vU b.2.2.2.2.2.2.1,vU b.2.2.2.2.2.2.2]) (by kernel_rfl) (by kernel_rfl) (by kernel_rfl) I I ⟨fun h=>by
    simp only [bN,veq,Bool.and_eq_true,beq_iff_eq,and_true] at h
    obtain ⟨h0,h1,h2,h3,h4,h5,h6,h7⟩:=h
    exact kz (aB h0) (aB h1) (aB h2) (aB h3) (aB h4) (aB h5) (aB h6) (aB h7),fun h=>by subst h; simp [bN,veq]⟩ _ _ p
def dF_p (n:Nat) (a0:U8) (a1:U8):Oa (Ta × Int):=
  (if a1 = (0,0,0,0,0,0,0,0) then some ((⟨(0,0,0,0,0,0,0,0),(0,0,0,0,0,0,0,0)⟩:Ta),(7:Int)) else (bR_p n a0).bind fun c0=>(bR_p n a1).bind fun d0=>(bU_p n c0 d0).bind fun g0=>(bN_p n g0).bind fun b0=>some (b0.1,b0.2))
theorem dF_c (n:Nat) {L w} (hL:hl L w) (a0:U8) (a1:U8)  {r:Ta × Int} (h:dF_p n a0 a1 = some r) :
 Cl 80 #[.agg ((am a0)).toArray,.agg ((am a1)).toArray] w (aj w fun _ u=>u = .tuple #[.agg ((aa r.1)).toArray,vI r.2]):=by
 unfold dF_p at h
 refine AK func80 I I I fun _ cs0 hb0=>Ac<|RG.bx (AD w) I I fun s1 P0 u0 U0=>RG.bx u0 I I fun u1 Q0 v0 V0=>RG.nl ae v0 fun v1 R0 c0 W0=>Ag I<|Aa<|Aj<|Ac<|Ab (AC I (c0.memA .t1))<|Ab (AP (vs:=[]) (u:=.agg zQ) ak (fun p=>by kernel_rfl))<|Ab (FV.eqlV (v:=.agg ((am a1)).toArray) (u:=.agg zQ) I I (kM a1 (0,0,0,0,0,0,0,0)))<|Aa<|Be I h (fun t0 h=>?_) (fun t0 h=>?_)
 refine Ac<|Ab (AP (vs:=[]) (u:=.agg zM) ak (fun p=>by kernel_rfl))<|AW ae c0 .hd (ai I) fun x1 k0 X0=>Ag I<|Aa<|Ao I<|Au hb0 func80 I (.cons (.many (cs:=ae) I I (k0.memA .hd)) (.cons (.tmp I) .nil)) I ?_
 cases h
 exact k0.gv
 refine Az<|Aj<|du 8 fun b0 d0=>Rx 0 1018 b0 I d0 (AC I (c0.memA .t2))<|Rx 2 1016 b0 I d0 (AC I (c0.memA .t1))<|bk h fun J0 F0 h=>Bp 1 7 b0 I .plain (bd 119) I (e1 I) (fun p q=>bR_c n (c0.hL hL q) a0 F0) I fun w32 k1 y0 ⟨c1,hu_,B0⟩=>?_
 subst hu_
 obtain ⟨p0,Y0⟩:=c0.agr y0
 refine bk h fun K0 G0 h=>Bp 3 15 b0 I .plain (bd 119) I (e1 I) (fun p q=>bR_c n (p0.hL hL q) a1 G0) I fun y1 p1 z0 ⟨d1,hu_,C0⟩=>?_
 subst hu_
 obtain ⟨q0,x0⟩:=p0.agr z0
 refine bk h fun M0 H0 h=>Bp 4 31 b0 I .plain (bd 118) I (e2 I I) (fun p q=>bU_c n (q0.hL hL q) J0 (Ar (Ap B0 x0) q) K0 (Ar C0 q) H0) I fun z1 q1 A0 ⟨g1,j1,hu_,D0,E0⟩=>?_
 subst hu_
 obtain ⟨g0,Z0⟩:=q0.agr A0
 refine bk h fun j0 I0 h=>BQ 5 63 960 (.tuple #[.agg ((aa j0.1)).toArray,vI j0.2]) b0 I d0 (bd 120) I (e1 I) (fun p q=>bN_c n (g0.hL0 hL q) M0 (g0.kd D0 q) (g0.kd E0 q) I0) I<|Rv 6 b0 I d0 (fun _=>Ai I I)<|Rv 7 b0 I d0 (fun _=>Ai I I)<|Bv 8 511 b0 I I .plain (Ax (news:=(aa j0.1)) g0 .hd I I I I I I (ai I)) fun A1 s0 b1=>Rv 9 b0 I d0 (fun _=>Bn I)<|AO (dk b0)<|Ao I<|Au hb0 func80 I (.cons (.many (cs:=(aa j0.1)) I I (s0.memA .hd)) (.cons (.tmp I) .nil)) I ?_
 cases h
 exact s0.gv
def dA_p (n:Nat) (a0:Int) (a1:Int):Oa (Ta × Int):=
  (dq_p n a0).bind fun c0=>(dq_p n a1).bind fun d0=>(dF_p n c0 d0).bind fun b0=>some (b0.1,b0.2)
theorem dA_c (n:Nat) {L w} (hL:hl L w) {a0:Int} {a1:Int}  {r:Ta × Int} (h:dA_p n a0 a1 = some r) :
 Cl 43 #[vI a0,vI a1] w (aj w fun _ u=>u = .tuple #[.agg ((aa r.1)).toArray,vI r.2]):=by
 unfold dA_p at h
 refine AK func43 I I I fun _ cs0 hb0=>Ac<|RG.nl ae (AD w) fun v0 s0 b0 t0=>Ag I<|Aa<|Ac<|Ae I<|bk h fun g0 k0 h=>Bm (.agg ((am g0)).toArray) (bd 81) I (e1 I) (fun p q=>dq_c n (b0.hL0 hL q)  k0) I<|Ae I<|bk h fun j0 p0 h=>Bm (.agg ((am j0)).toArray) (bd 81) I (e1 I) (fun p q=>dq_c n (b0.hL0 hL q)  p0) I<|bk h fun c0 q0 h=>Bm (.tuple #[.agg ((aa c0.1)).toArray,vI c0.2]) (bd 80) I (e2 I I) (fun p q=>dF_c n (b0.hL0 hL q) g0 j0 q0) I<|Ab (Ai I I)<|Ab (Ai I I)<|AW (aa c0.1) b0 .hd (ai I) fun x0 d0 u0=>Ag I<|Aa<|Ao I<|Au hb0 func43 I (.cons (.many (cs:=(aa c0.1)) I I (d0.memA .hd)) (.cons (.tmp I) .nil)) I ?_
 cases h
 exact d0.gv
def ah_p (n:Nat) (a0:Int) (a1:Int):Oa (Except Tc Ta):=
  (dA_p n a0 a1).bind fun b0=>(al_p n b0.1 b0.2).bind fun d0=>exc d0 (fun g0=>some (.ok g0)) (fun c0=>some (.error c0))
theorem ah_c (n:Nat) {L w} (hL:hl L w) {a0:Int} {a1:Int}  {r:Except Tc Ta} (h:ah_p n a0 a1 = some r) :
 Cl 29 #[vI a0,vI a1] w (aK w (fun (y:Ta) _ u=>u = .agg ((aa y)).toArray) (fun e=>.iface 115 (.agg #[vI e.fE])) r):=by
 unfold ah_p at h
 refine BV func29 I I I fun _ cs0 hb0 hp0=>Ac<|RG.nl ae (AD w) fun y0 s0 b0 u0=>Aa<|Ac<|Ae I<|Ae I<|bk h fun c0 q0 h=>Bm (.tuple #[.agg ((aa c0.1)).toArray,vI c0.2]) (bd 43) I (e2 I I) (fun p q=>dA_c n (b0.hL0 hL q)  q0) I<|Ab (Ai I I)<|Ab (Ai I I)<|xk h (fun t0 d0 h=>?_) (fun g0 d0 h=>?_)
 refine BL (fst:=[]) (cap:=[]) .plain (bd 56) I (e2 I I) (fun p q=>al_c n (b0.hL0 hL q) c0.1 d0) fun z0 p0=>?_
 obtain ⟨k0,v0⟩:=b0.agr p0
 cases h
 exact AE hp0 func29 ⟨k0.ag,I⟩
 refine Bm (.agg ((aa g0)).toArray) (bd 56) I (e2 I I) (fun p q=>AZ (al_c n (b0.hL0 hL q) c0.1 d0)) I<|AW (aa g0) b0 .hd (ai I) fun A0 j0 x0=>Aa<|Ao I<|Au hb0 func29 I (.cons (.many (cs:=(aa g0)) I I (j0.memA .hd)) .nil) I ?_
 cases h
 exact ⟨j0.ag,fun p q=>aD I⟩
def aJ_l1 (_n:Nat) (a0:La Bool) (a1:Bool) (c0:Nat -> Oa (Int ⊕ Unit)):Nat -> Oa (Int ⊕ Unit)
  | b0=>(if b0 < a0.length then (a0[b0]?).bind fun d0=>(if (a1 == d0) = true then some (.inl ((b0:Nat):Int)) else c0 (b0 + 1)) else some (.inr ()))
def aJ_p (n:Nat) (a0:La Bool) (a1:Bool):Oa Int:=
  thn (au (aJ_l1 n a0 a1) n 0) (fun _=>some (-1:Int))
theorem aJ_c (n:Nat) {L w} (_hL:hl L w) {a0:La Bool} {v0_0:Vc} (h0_0:Rep.R w L [v0_0] a0) {a1:Bool}  {r:Int} (h:aJ_p n a0 a1 = some r) :
 Cl 160 #[v0_0,.bool a1] w (aj w fun _ u=>u = vI r):=by
 unfold aJ_p at h
 refine AK func160 I I I fun _ cs0 hb0=>Ac<|Ag I<|Aa<|Aj<|Ac<|Ae I ?_
 have hl1:=Bh h0_0
 refine Ab (Bk (xs:=a0) underlying175 I h0_0)<|Ae I<|Aa<|AF<|tn h fun E0 y0 d0=>MX.lo (α:=Nat) (fun b0=>[(0,v0_0),(1,.bool a1),(7,vn a0.length),(8,vn b0)]) (fun b0=>[]) (fun b0=>b0) 0 y0 (AD w) ?_
 rintro C0 b0 F0 q0 c0 s0 h
 unfold aJ_l1 at h
 try dsimp only at h
 refine Ac<|Ab (BD (i:=b0) (j:=a0.length) I I)<|Aa<|Aj<|Be I h (fun j0 h=>?_) (fun j0 h=>?_)
 refine Az<|Aj<|AF<|Ac<|Ae I<|Ag I<|Aa<|Ac<|Ae I<|Ae I<|Ae I<|bk h fun g0 A0 h=>?_
 obtain ⟨B0,D0,t0,v0,p0,z0,x0⟩:=Bw (Bb h0_0 c0) A0
 have u0:p0 = [.bool g0]:=z0; subst u0
 refine Ab (BE 1 b0 I t0 I I v0)<|AY I (x0 0 _ I)<|Ab (FV.eqlB (a:=a1) (b:=g0) underlying4 I I)<|Aa<|MX.ifb I h (fun k0 h=>?_) (fun k0 h=>?_)
 refine Ac<|Ae I<|Ag I<|Aa ?_
 have h:=ar h d0
 refine Ao I<|Bi hb0 func160 I I ?_
 cases h
 exact c0.gv
 refine Az<|AI<|Av<|Ab (Bu (i:=b0) (j:=1) I I (by omega))<|Ae I<|Aa<|q0 (b0 + 1) c0 s0 h
 refine Bj I ?_
 have h:=aI h d0
 try dsimp only at h
 refine Ac<|Ag I<|Aa<|Ao I<|Bi hb0 func160 I I ?_
 cases h
 exact c0.gv
def bE_p (n:Nat) (a0:La Bool) (a1:Bool):Oa Bool:=
  (aJ_p n a0 a1).bind fun y1=>some (decide (0 <= y1))
theorem bE_c (n:Nat) {L w} (hL:hl L w) {a0:La Bool} {v0_0:Vc} (h0_0:Rep.R w L [v0_0] a0) {a1:Bool}  {r:Bool} (h:bE_p n a0 a1 = some r) :
 Cl 126 #[v0_0,.bool a1] w (aj w fun _ u=>u = .bool r):=by
 unfold bE_p at h
 have hS0:=AD w
 refine AK func126 I I I fun _ cs0 hb0=>Ac<|Ag I<|Aa<|Ac<|Ae I<|Ae I<|bk h fun y1 hy1 h=>Bm (vI y1) (bd 160) I (e2 I I) (fun p q=>aJ_c n (hS0.hL0 hL q) (hS0.kd h0_0 q) hy1) I<|Ab (FV.geq (i:=y1) (j:=0) I I)<|Ag I<|Aa<|Ao I<|Bi hb0 func126 I I ?_
 cases h
 exact hS0.gv
def bv_p (n:Nat) (a0:La Bool):Oa Bool:=
  (bE_p n a0 false).bind fun y1=>some (!y1)
theorem bv_c (n:Nat) {L w} (hL:hl L w) {a0:La Bool} {v0_0:Vc} (h0_0:Rep.R w L [v0_0] a0)  {r:Bool} (h:bv_p n a0 = some r) :
 Cl 95 #[v0_0] w (aj w fun _ u=>u = .bool r):=by
 unfold bv_p at h
 have hS0:=AD w
 refine AK func95 I I I fun _ cs0 hb0=>Ac<|Ag I<|Aa<|Ac<|Ae I<|bk h fun y1 hy1 h=>Bm (.bool y1) (bd 126) I (e2 I I) (fun p q=>bE_c n (hS0.hL0 hL q) (hS0.kd h0_0 q) hy1) I<|Ab (Bz I)<|Ag I<|Aa<|Ao I<|Bi hb0 func95 I I ?_
 cases h
 exact hS0.gv
def bS_l1 (_n:Nat) (a1:UInt8) (c0:ByteArray -> Oa ByteArray):ByteArray -> Oa ByteArray
  | b0=>(if 0 < b0.size then (b0.data[0]?).bind fun g0=>(if g0.toNat = a1.toNat then (mc b0 1 (b0.size:Int)).bind fun d0=>c0 d0 else some b0) else some b0)
def bS_p (n:Nat) (a0:ByteArray) (a1:UInt8):Oa ByteArray:=
  jn (fun c0=>some c0) (fun b0=>Option.bind (au (bS_l1 n a1) n a0) (b0))
theorem bS_c (n:Nat) {L w} (_hL:hl L w) {a0:ByteArray} (a1:UInt8)  {r:ByteArray} (h:bS_p n a0 a1 = some r) :
 Cl 161 #[.string a0,.int .u8 (a1.toNat:Int)] w (aj w fun _ u=>u = .string r):=by
 unfold bS_p at h
 have hS0:=AD w
 refine AK func161 I I I fun _ cs0 hb0=>Ac<|Ag I<|Aa<|Aj<|AF<|MX.xo (α:=ByteArray) 0 (fun c0=>[(0,.string c0)]) (fun c0=>[]) (fun c0=>c0) hS0 I h ?_ ?_
 rintro c0 E0 t0 C0 h
 try dsimp only at h
 refine Ac<|Ae I<|Ag I<|Aa<|Ao I<|Bi hb0 func161 I I ?_
 cases h
 exact t0.gv
 intro A0 j0 h
 try dsimp only at h
 obtain ⟨D0,u0,k0⟩:=av h
 refine MX.lo (α:=ByteArray) (fun b0=>[(0,.string b0),(1,.int .u8 (a1.toNat:Int))]) (fun b0=>[]) (fun b0=>b0) a0 u0 hS0 ?_
 rintro B0 b0 F0 s0 d0 g0 h
 unfold bS_l1 at h
 try dsimp only at h
 refine Aj<|Ac<|Ae I<|Ab (Cc underlying9 I)<|Ab (FV.gtrN (i:=b0.size) (j:=0) I I)<|Ae I<|BG (s:=8) I h (fun p0 h=>?_) (fun p0 h=>?_)
 refine AH (Ak I)<|bk h fun z0 x0 h=>AH (FV.strAt (k:=0) underlying9 I I I x0)<|AH (Ak I)<|AH (BZ (i:=z0.toNat) (j:=a1.toNat) I I)<|Bq I I<|Aa<|Be I h (fun q0 h=>?_) (fun q0 h=>?_)
 refine Az<|AF<|Av<|Ae I<|bk h fun y0 v0 h=>Ab (FV.strCut v0 underlying9 I ⟨_,I⟩ I)<|Ag I<|Aa<|AI<|s0 y0 d0 g0 h
 refine Bj I ?_
 have h:=k0 _ h
 try dsimp only at h
 exact j0 b0 d0 g0 h
 refine Aw<|Aw<|Aw<|Aw<|By I I<|Aa<|BP I<|Bj I ?_
 have h:=k0 _ h
 try dsimp only at h
 exact j0 b0 d0 g0 h
def bK_l1 (_n:Nat) (a1:UInt8) (c0:ByteArray -> Oa ByteArray):ByteArray -> Oa ByteArray
  | b0=>(if 0 < b0.size then (chk (((b0.size:Nat):Int) - 1)).bind fun d0=>(lP b0 d0).bind fun k0=>(if k0.toNat = a1.toNat then (chk (((b0.size:Nat):Int) - 1)).bind fun g0=>(mc b0 0 g0).bind fun j0=>c0 j0 else some b0) else some b0)
def bK_p (n:Nat) (a0:ByteArray) (a1:UInt8):Oa ByteArray:=
  jn (fun c0=>some c0) (fun b0=>Option.bind (au (bK_l1 n a1) n a0) (b0))
theorem bK_c (n:Nat) {L w} (_hL:hl L w) {a0:ByteArray} (a1:UInt8)  {r:ByteArray} (h:bK_p n a0 a1 = some r) :
 Cl 162 #[.string a0,.int .u8 (a1.toNat:Int)] w (aj w fun _ u=>u = .string r):=by
 unfold bK_p at h
 have hS0:=AD w
 refine AK func162 I I I fun _ cs0 hb0=>Ac<|Ag I<|Aa<|Aj<|AF<|MX.xo (α:=ByteArray) 0 (fun c0=>[(0,.string c0)]) (fun c0=>[]) (fun c0=>c0) hS0 I h ?_ ?_
 rintro c0 K0 t0 H0 h
 try dsimp only at h
 refine Ac<|Ae I<|Ag I<|Aa<|Ao I<|Bi hb0 func162 I I ?_
 cases h
 exact t0.gv
 intro F0 j0 h
 try dsimp only at h
 obtain ⟨I0,v0,k0⟩:=av h
 refine MX.lo (α:=ByteArray) (fun b0=>[(0,.string b0),(1,.int .u8 (a1.toNat:Int))]) (fun b0=>[]) (fun b0=>b0) a0 v0 hS0 ?_
 rintro G0 b0 M0 s0 d0 g0 h
 unfold bK_l1 at h
 try dsimp only at h
 refine Aj<|Ac<|Ae I<|Ab (Cc underlying9 I)<|Ab (FV.gtrN (i:=b0.size) (j:=0) I I)<|Ae I<|BG (s:=8) I h (fun p0 h=>?_) (fun p0 h=>?_)
 refine AH (Ak I)<|AH (Ak I)<|AH (Cc underlying9 I)<|bk h fun C0 x0 h=>AH (FV.subc (i:=((b0.size:Nat):Int)) (j:=1) I I x0)<|bk h fun E0 B0 h=>?_
 obtain ⟨u0,A0⟩:=ge B0
 refine AH (FV.strAt (k:=C0.toNat) underlying9 I I u0 A0)<|AH (Ak I)<|AH (BZ (i:=E0.toNat) (j:=a1.toNat) I I)<|Bq I I<|Aa<|Be I h (fun q0 h=>?_) (fun q0 h=>?_)
 refine Az<|AF<|Av<|Ae I<|Ae I<|Ab (Cc underlying9 I)<|bk h fun J0 y0 h=>Ab (FV.subc (i:=((b0.size:Nat):Int)) (j:=1) I I y0)<|bk h fun D0 z0 h=>Ab (FV.strCut z0 underlying9 I I ⟨_,I⟩)<|Ag I<|Aa<|AI<|s0 D0 d0 g0 h
 refine Bj I ?_
 have h:=k0 _ h
 try dsimp only at h
 exact j0 b0 d0 g0 h
 refine Aw<|Aw<|Aw<|Aw<|Aw<|Aw<|Aw<|By I I<|Aa<|BP I<|Bj I ?_
 have h:=k0 _ h
 try dsimp only at h
 exact j0 b0 d0 g0 h

def bH_l1 (_n:Nat) (g0:La Bool) (c0:ByteArray -> Oa ByteArray):ByteArray -> Oa ByteArray
  | b0=>(if 0 < b0.size then (b0.data[0]?).bind fun j0=>(g0[j0.toNat]?).bind fun k0=>(if k0 = true then (mc b0 1 (b0.size:Int)).bind fun d0=>c0 d0 else some b0) else some b0)
def bH_l2 (_n:Nat) (k0:La Bool) (c0:ByteArray -> Oa ByteArray):ByteArray -> Oa ByteArray
  | b0=>(if 0 < b0.size then (chk (((b0.size:Nat):Int) - 1)).bind fun d0=>(lP b0 d0).bind fun p0=>(k0[p0.toNat]?).bind fun q0=>(if q0 = true then (chk (((b0.size:Nat):Int) - 1)).bind fun g0=>(mc b0 0 g0).bind fun j0=>c0 j0 else some b0) else some b0)
def bH_l3 (_n:Nat) (a1:ByteArray) (g0:Int × (La Bool) -> Oa (ByteArray ⊕ (La Bool))):Int × (La Bool) -> Oa (ByteArray ⊕ (La Bool))
  | (c0,b0)=>(if c0 < ((a1.size:Nat):Int) then (lP a1 c0).bind fun d0=>(if 128 <= d0.toNat then (none).map .inl else (b0[d0.toNat]?).bind fun _z100=>(chk (c0 + 1)).bind fun j0=>g0 (j0,(b0.set d0.toNat true))) else some (.inr b0))
def bH_p (n:Nat) (a0:ByteArray) (a1:ByteArray):Oa ByteArray:=
  jn (fun q2=>(if q2 = true then some a0 else jn (fun j0=>(if j0 = true then (a1.data[0]?).bind fun t0=>(bK_p n a0 t0).bind fun q0=>(a1.data[0]?).bind fun u0=>(bS_p n q0 u0).bind fun s0=>some s0 else thn (au (bH_l3 n a1) n (0,(List.replicate 256 false))) (fun c0=>jn (fun k0=>jn (fun p0=>some p0) (fun g0=>Option.bind (au (bH_l1 n c0) n k0) (g0))) (fun d0=>Option.bind (au (bH_l2 n c0) n a0) (d0))))) (fun b0=>(if a1.size = 1 then (a1.data[0]?).bind fun v0=>b0 (decide (v0.toNat < 128)) else b0 false)))) (fun J6=>(if a0 = ⟨#[]⟩ then J6 true else J6 (decide (a1 = ⟨#[]⟩))))
theorem bH_c (n:Nat) {L w} (hL:hl L w) {a0:ByteArray} {a1:ByteArray}  {r:ByteArray} (h:bH_p n a0 a1 = some r) :
 Cl 127 #[.string a0,.string a1] w (aj w fun _ u=>u = .string r):=by
 unfold bH_p at h
 have hS0:=AD w
 refine AK func127 I I I fun _ cs0 hb0=>Ac<|Ag I<|Aa<|Aj<|Aj<|MX.jo (α:=Bool) (fun q2=>[(0,.string a0),(1,.string a1),(12,.bool q2)]) (fun q2=>[]) (fun q2=>q2) hS0 h ?_ ?_
 rintro q2 wx2 hS3 hT4 h
 try dsimp only at h
 refine MX.ifb I h (fun c8 h=>?_) (fun c8 h=>?_)
 refine Ac<|Ae I<|Ag I<|Aa<|Ao I<|Bi hb0 func127 I I ?_
 cases h
 exact hS3.gv
 refine Az<|Aj<|Aj<|MX.jo (α:=Bool) (fun x0=>[(0,.string a0),(1,.string a1),(21,.bool x0)]) (fun x0=>[]) (fun x0=>x0) hS3 h ?_ ?_
 rintro x0 V3 y0 p3 h
 try dsimp only at h
 refine MX.ifb I h (fun c1 h=>?_) (fun c1 h=>?_)
 refine Aj<|du 8 fun j0 p0=>Rv 0 j0 I p0 (fun _=>Ak I)<|Rv 1 j0 I p0 (fun _=>Ak I)<|bk h fun H2 t2 h=>Rv 2 j0 I p0 (fun _=>FV.strAt (k:=0) underlying9 I I I t2)<|bk h fun F2 p2 h=>BQ 3 15 192 (.string F2) j0 I p0 (bd 162) I (e2 I I) (fun w9 hw9=>bK_c n (y0.hL0 hL hw9) H2 p2) I<|Rv 4 j0 I p0 (fun _=>Ak I)<|bk h fun I2 u2 h=>Rv 5 j0 I p0 (fun _=>FV.strAt (k:=0) underlying9 I I I u2)<|bk h fun G2 s2 h=>BQ 6 127 128 (.string G2) j0 I p0 (bd 161) I (e2 I I) (fun w9 hw9=>bS_c n (y0.hL0 hL hw9) I2 s2) I<|Rv 7 j0 I p0 (fun _=>Bn I)<|AO (dk j0)<|Ao I<|Bi hb0 func127 I I ?_
 cases h
 exact y0.gv
 refine Az<|Aj<|Ac<|Ae I<|BF (fst:=[]) (cap:=[]) (vs:=[.string a1]) .plain (bd 163) func163 I I I I (e1 I) I fun Z2 U0 B3=>Ac ?_
 have U1:(List.replicate 256 false).length = 256:=List.length_replicate
 refine RG.nl ((List.replicate 256 false).map (fun z9:Bool=>(.bool z9:Vc))) y0 fun P3 B0 D1 t3=>Ag I<|Aa<|Aj<|Ac<|Ag I<|Aa<|AF<|tn h fun G3 Y1 X0=>MX.lf (α:=Int × (La Bool)) (fun ⟨k0,b0⟩=>[(0,.string a1),(2,vP B0),(4,vI k0)]) (fun ⟨k0,b0⟩=>[.cells B0 (b0.map (fun z9:Bool=>(.bool z9:Vc))) 211]) (fun ⟨k0,b0⟩ E2=>b0.length = 256) (fun ⟨k0,b0⟩=>(k0,b0)) (0,(List.replicate 256 false)) Y1 D1 U1 ?_
 rintro V2 ⟨k0,b0⟩ E2 y1 t0 G1 c0 h
 unfold bH_l3 at h
 try dsimp only at h
 refine Aj<|Ac<|Ae I<|Ae I<|Ab (Cc underlying9 I)<|Ab (FV.lss (i:=k0) (j:=((a1.size:Nat):Int)) I I)<|Aa<|Be I h (fun s1 h=>?_) (fun s1 h=>?_)
 refine Az<|Aj<|AF<|Ac<|Ae I<|Ae I<|bk h fun v0 z2 h=>?_
 obtain ⟨P1,k2⟩:=ge z2
 refine Ab (FV.strAt (k:=k0.toNat) underlying9 I I P1 k2)<|Ag I<|Aa<|Aj<|Ac<|Ae I<|Ab (FV.geqN (i:=v0.toNat) (j:=128) I I)<|Aa<|Be I h (fun u1 h=>?_) (fun u1 h=>?_)
 refine Ac<|Ab (Aq (cs:=b0.map (fun z9:Bool=>(.bool z9:Vc))) (by rw [List.length_map,c0]; kernel_rfl) I (t0.memA .hd))<|BU .plain (Acts.storeBig (fun z9:Bool=>(.bool z9:Vc)) (m:=256) c0 c0 t0 .hd I I I (fun _=>rfl)) fun Q3 Q0 u3=>Ag I<|Aa ?_
 have h:=kZ h X0
 refine Ao I<|Au (u:=.tuple #[.agg (b0.map (fun z9:Bool=>(.bool z9:Vc))).toArray,.bool false]) U0 func163 I (.cons (.many (cs:=b0.map (fun z9:Bool=>(.bool z9:Vc))) (by rw [List.length_map,c0]; kernel_rfl) I (Q0.memA .hd)) (.cons (.tmp I) .nil)) I<|Ae I<|Ab (Ai I I)<|Ab (Ai I I) ?_
 have V1:(List.replicate 256 false).length = 256:=List.length_replicate
 refine RG.nl ((List.replicate 256 false).map (fun z9:Bool=>(.bool z9:Vc))) Q0 fun R3 W2 E1 v3=>BU .plain (Acts.storeBig (fun z9:Bool=>(.bool z9:Vc)) (m:=256) V1 c0 E1 .hd I I I (fun _=>rfl)) fun U3 d3 x3=>Ag I<|Aa<|Ac<|Ae I<|Aa<|BP I<|Az<|Ac<|Ae I<|Ae I ?_
 cases h
 refine Az<|Av<|Ae I<|bk h fun b4 E0 h=>?_
 have y3:=aS (p:=⟨B0,0,none⟩) (cs:=b0.map (fun z9:Bool=>(.bool z9:Vc))) (i:=v0.toNat) (t0.memA .hd) (gK (fun z9:Bool=>(.bool z9:Vc)) E0)
 refine Ab (Bc (m:=1) (k:=v0.toNat) (len:=256) I I I I (bp E0 c0)) ?_
 have Q1:(b0.set v0.toNat true).length = 256:=by rw [List.length_set]; exact c0
 refine BU .plain (Acts.setBig (fun z9:Bool=>(.bool z9:Vc)) (i:=v0.toNat) (x:=true) (m:=256) c0 (bp E0 c0) t0 .hd I (gd _ _ _) I I (fun _=>⟨I,I⟩)) fun I3 z1 F1=>Aa<|AI<|Av<|Ae I<|bk h fun A2 Z1 h=>Ab (BR (i:=k0) (j:=1) I I Z1)<|Ag I<|Aa<|y1 (A2,(b0.set v0.toNat true)) z1 (Tt G1 F1) Q1 h
 refine Bj I ?_
 have h:=aI h X0
 try dsimp only at h
 refine Ac<|Ab (Aq (cs:=b0.map (fun z9:Bool=>(.bool z9:Vc))) (by rw [List.length_map,c0]; kernel_rfl) I (t0.memA .hd))<|BU .plain (Acts.storeBig (fun z9:Bool=>(.bool z9:Vc)) (m:=256) c0 c0 t0 .hd I I I (fun _=>rfl)) fun J3 K0 g3=>Ag I<|Aa<|Ao I<|Au (u:=.tuple #[.agg (b0.map (fun z9:Bool=>(.bool z9:Vc))).toArray,.bool true]) U0 func163 I (.cons (.many (cs:=b0.map (fun z9:Bool=>(.bool z9:Vc))) (by rw [List.length_map,c0]; kernel_rfl) I (K0.memA .hd)) (.cons (.tmp I) .nil)) I<|Ae I<|Ab (Ai I I)<|Ab (Ai I I) ?_
 have R1:(List.replicate 256 false).length = 256:=List.length_replicate
 refine RG.nl ((List.replicate 256 false).map (fun z9:Bool=>(.bool z9:Vc))) K0 fun K3 d0 A1 j3=>BU .plain (Acts.storeBig (fun z9:Bool=>(.bool z9:Vc)) (m:=256) R1 c0 A1 .hd I I I (fun _=>rfl)) fun M3 M0 k3=>Ag I<|Aa<|Ac<|Ae I<|Aa<|Bg I<|Ac<|Ae I<|BF (fst:=[]) (cap:=[]) (vs:=[.string a0,vP d0]) .plain (bd 165) func165 I I I I (e2 I I) I fun X2 H1 z3=>Ac<|Ag I<|Aa<|Aj<|AF<|MX.xo (α:=ByteArray) 0 (fun q0=>[(0,.string q0)]) (fun q0=>[.cells d0 (b0.map (fun z9:Bool=>(.bool z9:Vc))) 211]) (fun q0=>q0) M0 I h ?_ ?_
 rintro q0 W3 P0 q3 h
 try dsimp only at h
 refine Ac<|Ae I<|Ag I<|Aa<|Ao I<|Au (u:=.string q0) H1 func165 I (.cons (.tmp I) .nil) I<|BF (fst:=[]) (cap:=[]) (vs:=[.string q0,vP d0]) .plain (bd 164) func164 I I I I (e2 I I) I fun Y2 I1 A3=>Ac<|Ag I<|Aa<|Aj<|AF<|MX.xo (α:=ByteArray) 0 (fun u0=>[(0,.string u0)]) (fun u0=>[.cells d0 (b0.map (fun z9:Bool=>(.bool z9:Vc))) 211]) (fun u0=>u0) P0 I h ?_ ?_
 rintro u0 X3 B1 s3 h
 try dsimp only at h
 refine Ac<|Ae I<|Ag I<|Aa<|Ao I<|Au (u:=.string u0) I1 func164 I (.cons (.tmp I) .nil) I<|Ag I<|Aa<|Ao I<|Bi hb0 func127 I I ?_
 cases h
 exact B1.gv
 intro Q2 J0 h
 try dsimp only at h
 obtain ⟨E3,W1,V0⟩:=av h
 refine MX.lo (α:=ByteArray) (fun s0=>[(0,.string s0),(1,vP d0)]) (fun s0=>[.cells d0 (b0.map (fun z9:Bool=>(.bool z9:Vc))) 211]) (fun s0=>s0) q0 W1 P0 ?_
 rintro R2 s0 Y3 v1 z0 C0 h
 unfold bH_l1 at h
 try dsimp only at h
 refine Aj<|Ac<|Ae I<|Ab (Cc underlying9 I)<|Ab (FV.gtrN (i:=s0.size) (j:=0) I I)<|Aa<|Be I h (fun d1 h=>?_) (fun d1 h=>?_)
 refine Az<|AF<|Aj<|Ac<|Ae I<|Ae I<|bk h fun F0 v2 h=>Ab (FV.strAt (k:=0) underlying9 I I I v2)<|BF (fst:=[]) (cap:=[]) (vs:=[vP d0,.int .u8 (F0.toNat:Int)]) .plain (bd 189) func189 I I I I (e2 I I) I fun b3 J1 C3=>Ac<|Ag I<|Aa<|Ac<|Ae I<|Ae I<|Ab (BM I)<|bk h fun J2 Y0 h=>Ab (Bc (m:=1) (k:=F0.toNat) (len:=256) I I I I (bp Y0 c0))<|AY I ((aS (p:=⟨d0,0,none⟩) (cs:=b0.map (fun z9:Bool=>(.bool z9:Vc))) (i:=F0.toNat) (z0.memA .hd) (gK (fun z9:Bool=>(.bool z9:Vc)) Y0)) 0 _ I)<|Ag I<|Aa<|Ao I<|Au (u:=.bool J2) J1 func189 I (.cons (.tmp I) .nil) I<|Ab (Bz I)<|Aa<|MX.ifnb I h (fun g1 h=>?_) (fun g1 h=>?_)
 refine Az<|Av<|Ae I<|bk h fun B2 b2 h=>Ab (FV.strCut b2 underlying9 I ⟨_,I⟩ I)<|Ag I<|Aa<|AI<|v1 B2 z0 C0 h
 refine Bj I ?_
 have h:=V0 _ h
 try dsimp only at h
 exact J0 s0 z0 C0 h
 refine Bj I ?_
 have h:=V0 _ h
 try dsimp only at h
 exact J0 s0 z0 C0 h
 intro P2 I0 h
 try dsimp only at h
 obtain ⟨C1,R0⟩:=Am M0 (.a0 .done)
 obtain ⟨F3,X1,W0⟩:=av h
 refine MX.lo (α:=ByteArray) (fun g0=>[(0,.string g0),(1,vP d0)]) (fun g0=>[.cells d0 (b0.map (fun z9:Bool=>(.bool z9:Vc))) 211]) (fun g0=>g0) a0 X1 C1 ?_
 rintro U2 g0 Z3 x1 A0 D0 h
 unfold bH_l2 at h
 try dsimp only at h
 refine Aj<|Ac<|Ae I<|Ab (Cc underlying9 I)<|Ab (FV.gtrN (i:=g0.size) (j:=0) I I)<|Aa<|Be I h (fun j1 h=>?_) (fun j1 h=>?_)
 refine Az<|AF<|Aj<|Ac<|Ae I<|Ae I<|Ae I<|Ab (Cc underlying9 I)<|bk h fun C2 c2 h=>Ab (FV.subc (i:=((g0.size:Nat):Int)) (j:=1) I I c2)<|bk h fun G0 x2 h=>?_
 obtain ⟨M1,j2⟩:=ge x2
 refine Ab (FV.strAt (k:=C2.toNat) underlying9 I I M1 j2)<|BF (fst:=[]) (cap:=[]) (vs:=[vP d0,.int .u8 (G0.toNat:Int)]) .plain (bd 189) func189 I I I I (e2 I I) I fun c3 K1 D3=>Ac<|Ag I<|Aa<|Ac<|Ae I<|Ae I<|Ab (BM I)<|bk h fun K2 Z0 h=>Ab (Bc (m:=1) (k:=G0.toNat) (len:=256) I I I I (bp Z0 c0))<|AY I ((aS (p:=⟨d0,0,none⟩) (cs:=b0.map (fun z9:Bool=>(.bool z9:Vc))) (i:=G0.toNat) (A0.memA .hd) (gK (fun z9:Bool=>(.bool z9:Vc)) Z0)) 0 _ I)<|Ag I<|Aa<|Ao I<|Au (u:=.bool K2) K1 func189 I (.cons (.tmp I) .nil) I<|Ab (Bz I)<|Aa<|MX.ifnb I h (fun k1 h=>?_) (fun k1 h=>?_)
 refine Az<|Av<|Ae I<|Ae I<|Ab (Cc underlying9 I)<|bk h fun H3 d2 h=>Ab (FV.subc (i:=((g0.size:Nat):Int)) (j:=1) I I d2)<|bk h fun D2 g2 h=>Ab (FV.strCut g2 underlying9 I I ⟨_,I⟩)<|Ag I<|Aa<|AI<|x1 D2 A0 D0 h
 refine Bj I ?_
 have h:=W0 _ h
 try dsimp only at h
 exact I0 g0 A0 (Tt R0 D0) h
 refine Bj I ?_
 have h:=W0 _ h
 try dsimp only at h
 exact I0 g0 A0 (Tt R0 D0) h
 intro M2 H0 h
 try dsimp only at h
 refine Av<|Ae I<|Ab (Cc underlying9 I)<|Ab (BZ (i:=a1.size) (j:=1) I I)<|Ae I<|BG (s:=17) I h (fun p1 h=>?_) (fun p1 h=>?_)
 refine AH (Ak I)<|bk h fun b1 y2 h=>AH (FV.strAt (k:=0) underlying9 I I I y2)<|AH (BD (i:=b1.toNat) (j:=128) I I)<|Bq I I<|Aa<|H0 (decide (b1.toNat < 128)) hS3 (Br _ _) h
 refine Aw<|Aw<|Aw<|By I I<|Aa<|H0 false hS3 (Br _ _) h
 intro J6 hJ7 h
 try dsimp only at h
 refine Av<|Ae I<|Ab (FV.eqlS I I)<|Ae I<|BG (s:=9) I h (fun q1 h=>?_) (fun q1 h=>?_)
 refine Aw<|Aw<|Bq I I<|Aa<|hJ7 true hS0 (Br _ _) h
 refine AH (Ak I)<|AH (FV.eqlS I I)<|By I I<|Aa<|hJ7 (decide (a1 = ⟨#[]⟩)) hS0 (Br _ _) h
def dp_p (_n:Nat) (a0:Int) (a1:Int):Oa Bool:=
  (if a0 < 0 then some true else some (decide (a1 < a0)))
theorem dp_c (n:Nat) {L w} (_hL:hl L w) {a0:Int} {a1:Int} {p1:Nat} (m1:∀ j9 v9,([vI a1]:La Vc)[j9]? = some v9 -> w.cell? ((⟨p1,0,none⟩:Addr).add j9) = some v9)  {r:Bool} (h:dp_p n a0 a1 = some r) :
 Cl 169 #[vI a0,.pointer (some ⟨p1,0,none⟩)] w (aj w fun _ u=>u = .bool r):=by
 unfold dp_p at h
 have hS0:=AD w
 refine AK func169 I I I fun _ cs0 hb0=>Ac<|Ag I<|Aa<|Ac<|Ae I<|Ab (FV.lss (i:=a0) (j:=0) I I)<|Ae I<|BG (s:=6) I h (fun c1 h=>?_) (fun c1 h=>?_)
 refine Aw<|Aw<|Aw<|Bq I I<|Ag I<|Aa<|Ao I<|Bi hb0 func169 I I ?_
 cases h
 exact hS0.gv
 refine AH (Ak I)<|AH (AN I ((fun j9 v9 h9=>hS0.ag.cell0 (m1 j9 v9 h9)) 0 _ I))<|AH (FV.gtr (i:=a0) (j:=a1) I I)<|By I I<|Ag I<|Aa<|Ao I<|Bi hb0 func169 I I ?_
 cases h
 exact hS0.gv
def bs_l1 (n:Nat) (a0:La Int) (a2:Int) (c0:Nat -> Oa (Bool ⊕ Unit)):Nat -> Oa (Bool ⊕ Unit)
  | b0=>(if b0 < a0.length then (a0[b0]?).bind fun d0=>(dp_p n d0 a2).bind fun g0=>(if g0 = true then some (.inl (!(decide (0 <= b0)))) else c0 (b0 + 1)) else some (.inr ()))
def bs_p (n:Nat) (a0:La Int) (a1:Int) (a2:Int):Oa Bool:=
  (if ((a0.length:Nat):Int) = a1 then thn (au (bs_l1 n a0 a2) n 0) (fun _=>some (!(decide (0 <= (-1))))) else some false)
theorem bs_c (n:Nat) {L w} (hL:hl L w) {a0:La Int} {v0_0:Vc} (h0_0:Rep.R w L [v0_0] a0) {a1:Int} {a2:Int}  {r:Bool} (h:bs_p n a0 a1 a2 = some r) :
 Cl 128 #[v0_0,vI a1,vI a2] w (aj w fun _ u=>u = .bool r):=by
 unfold bs_p at h
 refine AK func128 I I I fun _ cs0 hb0=>Ac<|RG.bx (AD w) I I fun Y0 c0 g0 R0=>Ag I<|Aa<|Ac<|Ae I ?_
 have j0:=Bb h0_0 g0
 have U0:=Bh j0
 refine Ab (Bk (xs:=a0) underlying34 I j0)<|Ae I<|Ab (FV.eql (i:=((a0.length:Nat):Int)) (j:=a1) I I)<|Ae I<|BG (s:=11) I h (fun s0 h=>?_) (fun s0 h=>?_)
 refine AH (Ak I)<|AH (BX (vs:=[]) (us:=[vP c0]) ak (e1 I))<|BF (fst:=[]) (cap:=[]) (vs:=[v0_0,.func (.func 169) #[] #[vP c0]]) (.yes I I) (bd 168) func168 I I I I (e2 I I) I fun P0 k0 V0=>Ac<|Ag I<|Aa<|Ac<|Ae I<|Ae I<|BF (fst:=[]) (cap:=[]) (vs:=[v0_0,.func (.func 169) #[] #[vP c0]]) .plain (bd 193) func193 I I I I (e2 I I) I fun Q0 p0 W0=>Ac<|Ag I<|Aa<|Aj<|Ac<|Ae I<|Ab (Bk (xs:=a0) underlying34 I j0)<|Ae I<|Aa<|AF<|tn h fun X0 D0 q0=>MX.lo (α:=Nat) (fun b0=>[(0,v0_0),(1,.func (.func 169) #[] #[vP c0]),(7,vn a0.length),(8,vn b0)]) (fun b0=>[.cells c0 [vI a2] 3]) (fun b0=>b0) 0 D0 g0 ?_
 rintro K0 b0 Z0 x0 d0 y0 h
 unfold bs_l1 at h
 try dsimp only at h
 refine Ac<|Ab (BD (i:=b0) (j:=a0.length) I I)<|Aa<|Aj<|Be I h (fun t0 h=>?_) (fun t0 h=>?_)
 refine Az<|Aj<|AF<|Ac<|Ae I<|Ag I<|Aa<|Ac<|Ae I<|Ae I<|Ae I<|bk h fun H0 F0 h=>?_
 obtain ⟨J0,M0,z0,B0,v0,E0,C0⟩:=Bw (Bb h0_0 d0) F0
 have A0:v0 = [vI H0]:=E0; subst A0
 refine Ab (BE 1 b0 I z0 I I B0)<|AY I (C0 0 _ I)<|bk h fun I0 G0 h=>RG.callq' (v:=.bool I0) (fst:=[]) (cap:=[vP c0]) .plain (bd 169) I (e1 I) (fun w9 hw9=>dp_c n (d0.hL0 hL hw9) (ao hw9 (d0.memA .hd)) G0) I<|Aa<|MX.ifb I h (fun u0 h=>?_) (fun u0 h=>?_)
 refine Ac<|Ae I<|Ag I<|Aa ?_
 have h:=ar h q0
 refine Ao I<|Au (u:=vn b0) p0 func193 I (.cons (.tmp I) .nil) I<|Ab (FV.geqN (i:=b0) (j:=0) I I)<|Ag I<|Aa<|Ao I<|Au (u:=.bool (decide (0 <= b0))) k0 func168 I (.cons (.tmp I) .nil) I<|AH (Bz I)<|Bq I I<|Ag I<|Aa<|Ao I<|Bi hb0 func128 I I ?_
 cases h
 exact d0.gv
 refine Az<|AI<|Av<|Ab (Bu (i:=b0) (j:=1) I I (by omega))<|Ae I<|Aa<|x0 (b0 + 1) d0 y0 h
 refine Bj I ?_
 have h:=aI h q0
 try dsimp only at h
 refine Ac<|Ag I<|Aa<|Ao I<|Au (u:=vI (-1)) p0 func193 I (.cons (.tmp I) .nil) I<|Ab (FV.geq (i:=(-1)) (j:=0) I I)<|Ag I<|Aa<|Ao I<|Au (u:=.bool (decide (0 <= (-1)))) k0 func168 I (.cons (.tmp I) .nil) I<|AH (Bz I)<|Bq I I<|Ag I<|Aa<|Ao I<|Bi hb0 func128 I I ?_
 cases h
 exact d0.gv
 refine Aw<|Aw<|Aw<|Aw<|By I I<|Ag I<|Aa<|Ao I<|Bi hb0 func128 I I ?_
 cases h
 exact g0.gv
structure Tb where
  fB:ByteArray
  ft:Int
  fl:La Int
  fH:La Int
  fI:La Int
  fp:Bool
  deriving DecidableEq
instance:Rep Tb:=Rep.via (β:=ByteArray × Int × (List Int) × (List Int) × (List Int) × Bool) fun x=>(x.fB,x.ft,x.fl,x.fH,x.fI,x.fp)
structure Te where
  fl:Int
  fj:Int
  fm:Int
  fv:La Tb
  deriving DecidableEq
instance:Rep Te:=Rep.via (β:=Int × Int × Int × (List Tb)) fun x=>(x.fl,x.fj,x.fm,x.fv)
theorem iz:ElT Tryz.prog 175 4 (Rep.size Bool) 1 (.bool false) [.bool false]:=⟨underlying175,by kernel_rfl,rfl,rfl,rfl,rfl⟩
def dr_p (n:Nat) (a0:Te) (a1:Tb):Oa Bool:=
  jn (fun (c0,d0)=>(bH_p n a1.fB ⟨#[65,66,67,68,69,70,71,72,73,74,75,76,77,78,79,80,81,82,83,84,85,86,87,88,89,90,97,98,99,100,101,102,103,104,105,106,107,108,109,110,111,112,113,114,115,116,117,118,119,120,121,122,48,49,50,51,52,53,54,55,56,57,45,95]⟩).bind fun g0=>(bs_p n a1.fl a0.fl a1.ft).bind fun j0=>(bs_p n a1.fH a0.fj ((c0:Nat):Int)).bind fun k0=>(bs_p n a1.fI a0.fm ((d0:Nat):Int)).bind fun p0=>(bv_p n ([(!(decide (a1.fB = ⟨#[]⟩))),(decide (a1.fB.size <= 12)),(decide (g0 = ⟨#[]⟩)),(decide (0 <= a1.ft)),(decide (a1.ft <= ((c0:Nat):Int))),j0,k0,p0]:La Bool)).bind fun q0=>some q0) (fun b0=>(if a1.fp = true then b0 (0,0) else b0 (1000000000,63)))
theorem dr_c (n:Nat) {L w} (hL:hl L w) (a0:Te) {v0_3:Vc} (_h0_3:Rep.R w L [v0_3] a0.fv) (a1:Tb) {v1_2:Vc} (h1_2:Rep.R w L [v1_2] a1.fl) {v1_3:Vc} (h1_3:Rep.R w L [v1_3] a1.fH) {v1_4:Vc} (h1_4:Rep.R w L [v1_4] a1.fI)  {r:Bool} (h:dr_p n a0 a1 = some r) :
 Cl 96 #[.agg #[vI a0.fl,vI a0.fj,vI a0.fm,v0_3],.agg #[.string a1.fB,vI a1.ft,v1_2,v1_3,v1_4,.bool a1.fp]] w (aj w fun _ u=>u = .bool r):=by
 unfold dr_p at h
 refine AK func96 I I I fun _ cs0 hb0=>Ac<|RG.bx (AD w) I I fun R0 x0 B0 K0=>RG.bx B0 I I fun U0 y0 u0 M0=>Ag I<|Aa<|Ac<|Ag I<|Ag I<|Aa<|Aj<|Ac<|Ba 5 I<|AY I ((u0.memA .hd) 5 _ I)<|Aa<|MX.jo (α:=Nat × Nat) (fun ⟨g0,t0⟩=>[(2,vP x0),(3,vP y0),(5,vn g0),(6,vn t0)]) (fun ⟨g0,t0⟩=>[.cells y0 [.string a1.fB,vI a1.ft,v1_2,v1_3,v1_4,.bool a1.fp] 36,.cells x0 [vI a0.fl,vI a0.fj,vI a0.fm,v0_3] 31]) (fun ⟨g0,t0⟩=>(g0,t0)) u0 h ?_ ?_
 rintro ⟨g0,t0⟩ W0 d0 P0 h
 try dsimp only at h
 refine Aj<|du 40 fun b0 c0=>Rv 0 b0 I c0 (fun _=>AS 0 I)<|Rx 1 962072674308 b0 I c0 (AN I ((d0.memA .hd) 0 _ I))<|Rv 2 b0 I c0 (fun _=>FV.neqS I I)<|Rv 3 b0 I c0 (fun _=>AS 0 I)<|Rx 4 962072674400 b0 I c0 (AN I ((d0.memA .hd) 0 _ I))<|Rx 5 962072674368 b0 I c0 (Cc underlying9 I)<|Rv 6 b0 I c0 (fun _=>FV.leqN (i:=a1.fB.size) (j:=12) I I)<|Rv 7 b0 I c0 (fun _=>AS 0 I)<|Rx 8 1031882671616 b0 I c0 (AN I ((d0.memA .hd) 0 _ I))<|bk h fun s0 C0 h=>BQ 9 1023 1031882671104 (.string s0) b0 I c0 (bd 127) I (e2 I I) (fun w9 hw9=>bH_c n (d0.hL0 hL hw9)  C0) I<|Rv 10 b0 I c0 (fun _=>FV.eqlS I I)<|Rv 11 b0 I c0 (fun _=>AS 1 I)<|Rx 12 962072682496 b0 I c0 (AN I ((d0.memA .hd) 1 _ I))<|Rv 13 b0 I c0 (fun _=>FV.geq (i:=a1.ft) (j:=0) I I)<|Rv 14 b0 I c0 (fun _=>AS 1 I)<|Rx 15 962072805376 b0 I c0 (AN I ((d0.memA .hd) 1 _ I))<|Rv 16 b0 I c0 (fun _=>Ak I)<|Rv 17 b0 I c0 (fun _=>FV.leq (i:=a1.ft) (j:=((g0:Nat):Int)) I I)<|Rv 18 b0 I c0 (fun _=>AS 2 I)<|Rx 19 1031882670080 b0 I c0 (AN I ((d0.memA .hd) 2 _ I))<|Rv 20 b0 I c0 (fun _=>AS 0 I)<|Rx 21 1031882670080 b0 I c0 (AN I ((d0.memA .t1) 0 _ I))<|Rv 22 b0 I c0 (fun _=>AS 1 I)<|Rx 23 1031882670080 b0 I c0 (AN I ((d0.memA .hd) 1 _ I))<|bk h fun q0 D0 h=>BQ 24 33554431 1031865892864 (.bool q0) b0 I c0 (bd 128) I (e3 I I I) (fun w9 hw9=>bs_c n (d0.hL0 hL hw9) (d0.k0 h1_2 hw9) D0) I<|Rv 25 b0 I c0 (fun _=>AS 3 I)<|Rx 26 1031865892864 b0 I c0 (AN I ((d0.memA .hd) 3 _ I))<|Rv 27 b0 I c0 (fun _=>AS 1 I)<|Rx 28 1031865892864 b0 I c0 (AN I ((d0.memA .t1) 1 _ I))<|Rv 29 b0 I c0 (fun _=>Ak I)<|bk h fun p0 E0 h=>BQ 30 2147483647 1030792151040 (.bool p0) b0 I c0 (bd 128) I (e3 I I I) (fun w9 hw9=>bs_c n (d0.hL0 hL hw9) (d0.k0 h1_3 hw9) E0) I<|Rv 31 b0 I c0 (fun _=>AS 4 I)<|Rx 32 1030792151040 b0 I c0 (AN I ((d0.memA .hd) 4 _ I))<|Rv 33 b0 I c0 (fun _=>AS 2 I)<|Rx 34 1030792151040 b0 I c0 (AN I ((d0.memA .t1) 2 _ I))<|Rv 35 b0 I c0 (fun _=>Ak I)<|bk h fun j0 F0 h=>BQ 36 137438953471 962072674304 (.bool j0) b0 I c0 (bd 128) I (e3 I I I) (fun w9 hw9=>bs_c n (d0.hL0 hL hw9) (d0.k0 h1_4 hw9) F0) I<|Ca 37 274877906943 b0 I .plain I (AU (α:=Bool) (xs:=([(!(decide (a1.fB = ⟨#[]⟩))),(decide (a1.fB.size <= 12)),(decide (s0 = ⟨#[]⟩)),(decide (0 <= a1.ft)),(decide (a1.ft <= ((g0:Nat):Int))),q0,p0,j0]:La Bool)) (vs:=[.bool (!(decide (a1.fB = ⟨#[]⟩))),.bool (decide (a1.fB.size <= 12)),.bool (decide (s0 = ⟨#[]⟩)),.bool (decide (0 <= a1.ft)),.bool (decide (a1.ft <= ((g0:Nat):Int))),.bool q0,.bool p0,.bool j0]) (ds' :=[.bool (!(decide (a1.fB = ⟨#[]⟩))),.bool (decide (a1.fB.size <= 12)),.bool (decide (s0 = ⟨#[]⟩)),.bool (decide (0 <= a1.ft)),.bool (decide (a1.ft <= ((g0:Nat):Int))),.bool q0,.bool p0,.bool j0]) I d0 iz I (e8 I I I I I I I I) (by kernel_rfl) I) fun V0 J0 v0 Q0=>?_
 refine bk h fun H0 G0 h=>BQ 38 549755813887 549755813888 (.bool H0) b0 I c0 (bd 95) I (e1 I) (fun w9 hw9=>bv_c n (v0.hL0 hL hw9) (Ar (St.lend (α:=Bool) (L:=L) v0 .hd (AJ (cs:=[.bool (!(decide (a1.fB = ⟨#[]⟩))),.bool (decide (a1.fB.size <= 12)),.bool (decide (s0 = ⟨#[]⟩)),.bool (decide (0 <= a1.ft)),.bool (decide (a1.ft <= ((g0:Nat):Int))),.bool q0,.bool p0,.bool j0]) (xs:=(([(!(decide (a1.fB = ⟨#[]⟩))),(decide (a1.fB.size <= 12)),(decide (s0 = ⟨#[]⟩)),(decide (0 <= a1.ft)),(decide (a1.ft <= ((g0:Nat):Int))),q0,p0,j0]:La Bool):La Bool)) v0 L (AB (cs:=[.bool (!(decide (a1.fB = ⟨#[]⟩)))]) (ds:=[.bool (decide (a1.fB.size <= 12)),.bool (decide (s0 = ⟨#[]⟩)),.bool (decide (0 <= a1.ft)),.bool (decide (a1.ft <= ((g0:Nat):Int))),.bool q0,.bool p0,.bool j0]) I (AB (cs:=[.bool (decide (a1.fB.size <= 12))]) (ds:=[.bool (decide (s0 = ⟨#[]⟩)),.bool (decide (0 <= a1.ft)),.bool (decide (a1.ft <= ((g0:Nat):Int))),.bool q0,.bool p0,.bool j0]) I (AB (cs:=[.bool (decide (s0 = ⟨#[]⟩))]) (ds:=[.bool (decide (0 <= a1.ft)),.bool (decide (a1.ft <= ((g0:Nat):Int))),.bool q0,.bool p0,.bool j0]) I (AB (cs:=[.bool (decide (0 <= a1.ft))]) (ds:=[.bool (decide (a1.ft <= ((g0:Nat):Int))),.bool q0,.bool p0,.bool j0]) I (AB (cs:=[.bool (decide (a1.ft <= ((g0:Nat):Int)))]) (ds:=[.bool q0,.bool p0,.bool j0]) I (AB (cs:=[.bool q0]) (ds:=[.bool p0,.bool j0]) I (AB (cs:=[.bool p0]) (ds:=[.bool j0]) I (AB (cs:=[.bool j0]) (ds:=[]) I (AR _ _)))))))))) hL) hw9) G0) I<|Rv 39 b0 I c0 (fun _=>Bn I)<|AO (dk b0)<|Ao I<|Bi hb0 func96 I I ?_
 cases h
 exact v0.gv
 intro I0 z0 h
 try dsimp only at h
 refine MX.ifb I h (fun A0 h=>?_) (fun A0 h=>?_)
 refine Av<|Ag I<|Ag I<|Aa<|z0 (0,0) u0 (Br _ _) h
 refine Az<|z0 (1000000000,63) u0 (Br _ _) h
theorem ba {w:World} {L:La Nat} {cs:La Vc} {x:Tb} (h:Rep.R w L cs x):∃ v2 v3 v4:Vc,cs = [.string x.fB,vI x.ft,v2,v3,v4,.bool x.fp]/\Rep.R w L [v2] x.fl/\Rep.R w L [v3] x.fH/\Rep.R w L [v4] x.fI:=by
  obtain ⟨c0,r0,rfl,h0,h⟩:=h
  have e0:c0 = [.string x.fB]:=h0; subst e0
  obtain ⟨c1,r1,rfl,h1,h⟩:=h
  have e1:c1 = [vI x.ft]:=h1; subst e1
  obtain ⟨c2,r2,rfl,h2,h⟩:=h
  obtain ⟨v2,rfl,kv2⟩:=eH (xs:=x.fl) h2
  obtain ⟨c3,r3,rfl,h3,h⟩:=h
  obtain ⟨v3,rfl,kv3⟩:=eH (xs:=x.fH) h3
  obtain ⟨c4,r4,rfl,h4,h⟩:=h
  obtain ⟨v4,rfl,kv4⟩:=eH (xs:=x.fI) h4
  have e5:r4 = [.bool x.fp]:=h; subst e5
  exact ⟨v2,v3,v4,I,kv2,kv3,kv4⟩
theorem cb {w:World} {L:La Nat} (a0:ByteArray) (a1:Int) (a2:La Int) {u2:Vc} (h2:Rep.R w L [u2] a2) (a3:La Int) {u3:Vc} (h3:Rep.R w L [u3] a3) (a4:La Int) {u4:Vc} (h4:Rep.R w L [u4] a4) (a5:Bool):Rep.R w L [.string a0,vI a1,u2,u3,u4,.bool a5] (⟨a0,a1,a2,a3,a4,a5⟩:Tb):=⟨[.string a0],[vI a1,u2,u3,u4,.bool a5],rfl,rfl,⟨[vI a1],[u2,u3,u4,.bool a5],rfl,rfl,⟨[u2],[u3,u4,.bool a5],rfl,h2,⟨[u3],[u4,.bool a5],rfl,h3,⟨[u4],[.bool a5],rfl,h4,rfl⟩⟩⟩⟩⟩
def bA_l1 (n:Nat) (a0:Te) (g0:Bool × Nat × (La (ByteArray × Bool)) -> Oa (Int ⊕ Unit)):Bool × Nat × (La (ByteArray × Bool)) -> Oa (Int ⊕ Unit)
  | (k0,d0,c0)=>(if d0 < a0.fv.length then (a0.fv[d0]?).bind fun b0=>(dr_p n a0 b0).bind fun j0=>(if b0.fp = true then (if 0 < d0 then (bv_p n ([j0,(!(aG c0 b0.fB false)),true,true]:La Bool)).bind fun p0=>(if p0 = true then g0 (b0.fp,d0 + 1,bF c0 b0.fB true) else some (.inl (161:Int))) else (bv_p n ([j0,(!(aG c0 b0.fB false)),true,(!b0.fp)]:La Bool)).bind fun q0=>(if q0 = true then g0 (b0.fp,d0 + 1,bF c0 b0.fB true) else some (.inl (161:Int)))) else (if 0 < d0 then (bv_p n ([j0,(!(aG c0 b0.fB false)),(!k0),true]:La Bool)).bind fun s0=>(if s0 = true then g0 (b0.fp,d0 + 1,bF c0 b0.fB true) else some (.inl (161:Int))) else (bv_p n ([j0,(!(aG c0 b0.fB false)),(!k0),(!b0.fp)]:La Bool)).bind fun t0=>(if t0 = true then g0 (b0.fp,d0 + 1,bF c0 b0.fB true) else some (.inl (161:Int))))) else some (.inr ()))
def bA_p (n:Nat) (a0:Te):Oa Int:=
  (bv_p n ([(decide (0 <= a0.fl)),(decide (a0.fl <= 6)),(decide (0 <= a0.fj)),(decide (a0.fj <= 12)),(decide (0 <= a0.fm)),(decide (a0.fm <= 3)),(decide (0 < a0.fv.length)),(decide (a0.fv.length <= 64))]:La Bool)).bind fun b0=>(if b0 = true then thn (au (bA_l1 n a0) n (false,0,([]:La (ByteArray × Bool)))) (fun _=>some (0:Int)) else some (161:Int))
theorem bA_c (n:Nat) {L w} (hL:hl L w) (a0:Te) {v0_3:Vc} (h0_3:Rep.R w L [v0_3] a0.fv)  {r:Int} (h:bA_p n a0 = some r) :
 Cl 61 #[.agg #[vI a0.fl,vI a0.fj,vI a0.fm,v0_3]] w (aj w fun _ u=>u = vI r):=by
 unfold bA_p at h
 refine AK func61 I I I fun _ cs0 hb0=>Ac<|RG.bx (AD w) I I fun P2 H0 u0 G2=>Ag I<|Aa<|Ac<|Ba 3 I<|AY I ((u0.memA .hd) 3 _ I) ?_
 have Q0:=Bb h0_3 u0
 have K2:=Bh Q0
 refine Ab (Bk (xs:=a0.fv) underlying29 I Q0)<|Ag I<|Aa<|Aj<|Ac<|Ba 0 I<|AY I ((u0.memA .hd) 0 _ I)<|Ab (FV.geq (i:=a0.fl) (j:=0) I I)<|Ba 0 I<|AY I ((u0.memA .hd) 0 _ I)<|Ab (FV.leq (i:=a0.fl) (j:=6) I I)<|Ba 1 I<|AY I ((u0.memA .hd) 1 _ I)<|Ab (FV.geq (i:=a0.fj) (j:=0) I I)<|Ba 1 I<|AY I ((u0.memA .hd) 1 _ I)<|Ab (FV.leq (i:=a0.fj) (j:=12) I I)<|Ba 2 I<|AY I ((u0.memA .hd) 2 _ I)<|Ab (FV.geq (i:=a0.fm) (j:=0) I I)<|Ba 2 I<|AY I ((u0.memA .hd) 2 _ I)<|Ab (FV.leq (i:=a0.fm) (j:=3) I I)<|Ae I<|Ab (FV.gtrN (i:=a0.fv.length) (j:=0) I I)<|Ae I<|Ab (FV.leqN (i:=a0.fv.length) (j:=64) I I)<|Ah .plain I (AU (α:=Bool) (xs:=([(decide (0 <= a0.fl)),(decide (a0.fl <= 6)),(decide (0 <= a0.fj)),(decide (a0.fj <= 12)),(decide (0 <= a0.fm)),(decide (a0.fm <= 3)),(decide (0 < a0.fv.length)),(decide (a0.fv.length <= 64))]:La Bool)) (vs:=[.bool (decide (0 <= a0.fl)),.bool (decide (a0.fl <= 6)),.bool (decide (0 <= a0.fj)),.bool (decide (a0.fj <= 12)),.bool (decide (0 <= a0.fm)),.bool (decide (a0.fm <= 3)),.bool (decide (0 < a0.fv.length)),.bool (decide (a0.fv.length <= 64))]) (ds' :=[.bool (decide (0 <= a0.fl)),.bool (decide (a0.fl <= 6)),.bool (decide (0 <= a0.fj)),.bool (decide (a0.fj <= 12)),.bool (decide (0 <= a0.fm)),.bool (decide (a0.fm <= 3)),.bool (decide (0 < a0.fv.length)),.bool (decide (a0.fv.length <= 64))]) I u0 iz I (e8 I I I I I I I I) (by kernel_rfl) I) fun Q2 y2 B0 H2=>bk h fun k2 V1 h=>Bm (.bool k2) (bd 95) I (e1 I) (fun w9 hw9=>bv_c n (B0.hL0 hL hw9) (Ar (St.lend (α:=Bool) (L:=L) B0 .hd (AJ (cs:=[.bool (decide (0 <= a0.fl)),.bool (decide (a0.fl <= 6)),.bool (decide (0 <= a0.fj)),.bool (decide (a0.fj <= 12)),.bool (decide (0 <= a0.fm)),.bool (decide (a0.fm <= 3)),.bool (decide (0 < a0.fv.length)),.bool (decide (a0.fv.length <= 64))]) (xs:=(([(decide (0 <= a0.fl)),(decide (a0.fl <= 6)),(decide (0 <= a0.fj)),(decide (a0.fj <= 12)),(decide (0 <= a0.fm)),(decide (a0.fm <= 3)),(decide (0 < a0.fv.length)),(decide (a0.fv.length <= 64))]:La Bool):La Bool)) B0 L (AB (cs:=[.bool (decide (0 <= a0.fl))]) (ds:=[.bool (decide (a0.fl <= 6)),.bool (decide (0 <= a0.fj)),.bool (decide (a0.fj <= 12)),.bool (decide (0 <= a0.fm)),.bool (decide (a0.fm <= 3)),.bool (decide (0 < a0.fv.length)),.bool (decide (a0.fv.length <= 64))]) I (AB (cs:=[.bool (decide (a0.fl <= 6))]) (ds:=[.bool (decide (0 <= a0.fj)),.bool (decide (a0.fj <= 12)),.bool (decide (0 <= a0.fm)),.bool (decide (a0.fm <= 3)),.bool (decide (0 < a0.fv.length)),.bool (decide (a0.fv.length <= 64))]) I (AB (cs:=[.bool (decide (0 <= a0.fj))]) (ds:=[.bool (decide (a0.fj <= 12)),.bool (decide (0 <= a0.fm)),.bool (decide (a0.fm <= 3)),.bool (decide (0 < a0.fv.length)),.bool (decide (a0.fv.length <= 64))]) I (AB (cs:=[.bool (decide (a0.fj <= 12))]) (ds:=[.bool (decide (0 <= a0.fm)),.bool (decide (a0.fm <= 3)),.bool (decide (0 < a0.fv.length)),.bool (decide (a0.fv.length <= 64))]) I (AB (cs:=[.bool (decide (0 <= a0.fm))]) (ds:=[.bool (decide (a0.fm <= 3)),.bool (decide (0 < a0.fv.length)),.bool (decide (a0.fv.length <= 64))]) I (AB (cs:=[.bool (decide (a0.fm <= 3))]) (ds:=[.bool (decide (0 < a0.fv.length)),.bool (decide (a0.fv.length <= 64))]) I (AB (cs:=[.bool (decide (0 < a0.fv.length))]) (ds:=[.bool (decide (a0.fv.length <= 64))]) I (AB (cs:=[.bool (decide (a0.fv.length <= 64))]) (ds:=[]) I (AR _ _)))))))))) hL) hw9) V1) I<|Ab (Bz I)<|Aa<|MX.ifnb I h (fun X0 h=>?_) (fun X0 h=>?_)
 refine Az<|Ac<|Ah .plain I (Does.makeMap (κ:=ByteArray) (ν:=Bool) B0) fun X2 I0 G0 J2=>Ag I<|Aa<|Ac<|Ag I<|Aa<|Aj<|Ac<|Ba 3 I<|AY I ((G0.memA .t2) 3 _ I)<|Ab (Bk (xs:=a0.fv) underlying29 I (Bb h0_3 G0))<|Ae I<|Aa<|AF ?_
 obtain ⟨p1,I2⟩:=Am G0 (.a0 .d1)
 refine tn h fun M2 Q1 C0=>MX.lo (α:=Bool × Nat × (La (ByteArray × Bool))) (fun ⟨p0,q0,g0⟩=>[(1,vP H0),(4,.map (some I0)),(5,.bool p0),(38,v0_3),(39,vn a0.fv.length),(40,vn q0)]) (fun ⟨p0,q0,g0⟩=>[.obj I0 (cx (g0:La (ByteArray × Bool))),.cells H0 [vI a0.fl,vI a0.fj,vI a0.fm,v0_3] 31]) (fun ⟨p0,q0,g0⟩=>(p0,q0,g0)) (false,0,([]:La (ByteArray × Bool))) Q1 p1 ?_
 rintro x2 ⟨p0,q0,g0⟩ j3 D0 F0 E0 h
 unfold bA_l1 at h
 try dsimp only at h
 refine Ac<|Ab (BD (i:=q0) (j:=a0.fv.length) I I)<|Aa<|Aj<|Be I h (fun W0 h=>?_) (fun W0 h=>?_)
 refine Az<|Aj<|AF<|Ac<|Ae I<|bk h fun b0 U1 h=>?_
 obtain ⟨v2,E2,K1,M1,F2,R1,P1⟩:=Bw (Bb h0_3 F0) U1
 obtain ⟨c2,g2,j2,rfl,R0,U0,V0⟩:=ba R1
 refine Ab (BE 6 q0 I K1 I I M1)<|Ab (AC I P1)<|RG.nl [.string ⟨#[]⟩,vI 0,vN,vN,vN,.bool false] F0 fun R2 z2 q1 t0=>Ag I<|AW [.string b0.fB,vI b0.ft,c2,g2,j2,.bool b0.fp] q1 .hd (o6 I I (AX (Ap R0 t0)) (AX (Ap U0 t0)) (AX (Ap V0 t0)) I) fun U2 s0 v0=>Aa<|Aj<|Aj<|du 24 fun c0 d0=>Rx 0 16727044 c0 I d0 (AC I (s0.memA .t2))<|Rx 1 16727044 c0 I d0 (AC I (s0.memA .hd))<|bk h fun j0 W1 h=>BQ 2 7 16727040 (.bool j0) c0 I d0 (bd 96) I (e2 I I) (fun w9 hw9=>dr_c n (s0.hL0 hL hw9) a0 (s0.k0 h0_3 hw9) b0 (s0.kd (Ap R0 (Tt t0 v0)) hw9) (s0.kd (Ap U0 (Tt t0 v0)) hw9) (s0.kd (Ap V0 (Tt t0 v0)) hw9) W1) I<|Rv 3 c0 I d0 (fun _=>Ak I)<|Rv 4 c0 I d0 (fun _=>AS 0 I)<|Rx 5 14680256 c0 I d0 (AN I ((s0.memA .hd) 0 _ I))<|Rx 6 14680192 c0 I d0 (FV.lookup (kv:=b0.fB) (z:=false) s0 .t1 underlying151 underlying9 I I I I)<|Rv 7 c0 I d0 (fun _=>Bz I)<|Rv 8 c0 I d0 (fun _=>AS 5 I)<|Rx 9 16727040 c0 I d0 (AN I ((s0.memA .hd) 5 _ I))<|Rv 10 c0 I d0 (fun _=>Ak I)<|RD.ifb (s:=55) I h (fun Y0 h=>?_) (fun Y0 h=>?_)
 refine BS 8191 11 [(11,56),(12,57)] (F:=[(55,true)]) (U:=[]) c0 d0 (.cons I .nil) .nil ?_
 dsimp only [bg,List.map]
 refine Rv 13 c0 I d0 (fun _=>BY I I)<|Rv 14 c0 I d0 (fun _=>Ak I)<|Rv 15 c0 I d0 (fun _=>FV.gtrN (i:=q0) (j:=0) I I)<|Rv 16 c0 I d0 (fun _=>Ak I)<|RD.ifd (s:=61) I h (fun Z0 h=>?_) (fun Z0 h=>?_)
 refine BS 1048575 4 [(17,62),(18,63),(19,64)] (F:=[(61,true)]) (U:=[]) c0 d0 (.cons I .nil) .nil ?_
 dsimp only [bg,List.map]
 refine Rv 20 c0 I d0 (fun _=>BY I I)<|Ca 21 4194303 c0 I .plain I (AU (α:=Bool) (xs:=([j0,(!(aG g0 b0.fB false)),true,true]:La Bool)) (vs:=[.bool j0,.bool (!(aG g0 b0.fB false)),.bool true,.bool true]) (ds' :=[.bool j0,.bool (!(aG g0 b0.fB false)),.bool true,.bool true]) I s0 iz I (e4 I I I I) (by kernel_rfl) I) fun V2 A2 x0 y1=>bk h fun p2 X1 h=>BQ 22 8388607 8388608 (.bool p2) c0 I d0 (bd 95) I (e1 I) (fun w9 hw9=>bv_c n (x0.hL0 hL hw9) (Ar (St.lend (α:=Bool) (L:=L) x0 .hd (AJ (cs:=[.bool j0,.bool (!(aG g0 b0.fB false)),.bool true,.bool true]) (xs:=(([j0,(!(aG g0 b0.fB false)),true,true]:La Bool):La Bool)) x0 L (AB (cs:=[.bool j0]) (ds:=[.bool (!(aG g0 b0.fB false)),.bool true,.bool true]) I (AB (cs:=[.bool (!(aG g0 b0.fB false))]) (ds:=[.bool true,.bool true]) I (AB (cs:=[.bool true]) (ds:=[.bool true]) I (AB (cs:=[.bool true]) (ds:=[]) I (AR _ _)))))) hL) hw9) X1) I<|Rv 23 c0 I d0 (fun _=>Bz I)<|AO (dk c0)<|MX.ifnb I h (fun b1 h=>?_) (fun b1 h=>?_)
 refine Az<|Ac<|Ae I<|Ba 0 I<|AY I ((x0.memA .t1) 0 _ I)<|BU .plain (Acts.mapUpdate (kv:=b0.fB) (vv:=true) x0 .t2 underlying151 underlying9 I I I I) fun W2 J0 z1=>Aa<|Av<|Ba 5 I<|AY I ((J0.memA .t1) 5 _ I)<|Ag I<|Aa<|AI<|Av<|Ab (Bu (i:=q0) (j:=1) I I (by omega))<|Ae I<|Aa ?_
 obtain ⟨s1,A1⟩:=Am J0 .d2
 exact D0 (b0.fp,q0 + 1,bF g0 b0.fB true) s1 (Tt E0 (Tt t0 (Tt v0 (Tt y1 (Tt z1 A1))))) h
 refine Ac<|Ag I<|Aa ?_
 have h:=ar h C0
 refine Ao I<|Bi hb0 func61 I I ?_
 cases h
 exact x0.gv
 refine RD.vP 17 262143 c0 I d0 (.yes I I) (fun _=>AS 5 I) I<|RD.val (i:=18) (m' :=524287) (W:=16252928) (tk c0) I d0 (.yes I I) (AN I ((s0.memA .hd) 5 _ I)) I<|RD.vP 19 1048575 c0 I d0 (.yes I I) (fun _=>Bz I) I<|Rv 20 c0 I d0 (fun _=>BA I I)<|Ca 21 4194303 c0 I .plain I (AU (α:=Bool) (xs:=([j0,(!(aG g0 b0.fB false)),true,(!b0.fp)]:La Bool)) (vs:=[.bool j0,.bool (!(aG g0 b0.fB false)),.bool true,.bool (!b0.fp)]) (ds' :=[.bool j0,.bool (!(aG g0 b0.fB false)),.bool true,.bool (!b0.fp)]) I s0 iz I (e4 I I I I) (by kernel_rfl) I) fun Y2 B2 y0 B1=>bk h fun q2 Y1 h=>BQ 22 8388607 8388608 (.bool q2) c0 I d0 (bd 95) I (e1 I) (fun w9 hw9=>bv_c n (y0.hL0 hL hw9) (Ar (St.lend (α:=Bool) (L:=L) y0 .hd (AJ (cs:=[.bool j0,.bool (!(aG g0 b0.fB false)),.bool true,.bool (!b0.fp)]) (xs:=(([j0,(!(aG g0 b0.fB false)),true,(!b0.fp)]:La Bool):La Bool)) y0 L (AB (cs:=[.bool j0]) (ds:=[.bool (!(aG g0 b0.fB false)),.bool true,.bool (!b0.fp)]) I (AB (cs:=[.bool (!(aG g0 b0.fB false))]) (ds:=[.bool true,.bool (!b0.fp)]) I (AB (cs:=[.bool true]) (ds:=[.bool (!b0.fp)]) I (AB (cs:=[.bool (!b0.fp)]) (ds:=[]) I (AR _ _)))))) hL) hw9) Y1) I<|Rv 23 c0 I d0 (fun _=>Bz I)<|AO (dk c0)<|MX.ifnb I h (fun c1 h=>?_) (fun c1 h=>?_)
 refine Az<|Ac<|Ae I<|Ba 0 I<|AY I ((y0.memA .t1) 0 _ I)<|BU .plain (Acts.mapUpdate (kv:=b0.fB) (vv:=true) y0 .t2 underlying151 underlying9 I I I I) fun Z2 K0 C1=>Aa<|Av<|Ba 5 I<|AY I ((K0.memA .t1) 5 _ I)<|Ag I<|Aa<|AI<|Av<|Ab (Bu (i:=q0) (j:=1) I I (by omega))<|Ae I<|Aa ?_
 obtain ⟨u1,D1⟩:=Am K0 .d2
 exact D0 (b0.fp,q0 + 1,bF g0 b0.fB true) u1 (Tt E0 (Tt t0 (Tt v0 (Tt B1 (Tt C1 D1))))) h
 refine Ac<|Ag I<|Aa ?_
 have h:=ar h C0
 refine Ao I<|Bi hb0 func61 I I ?_
 cases h
 exact y0.gv
 refine RD.vP 11 4095 c0 I d0 (.yes I I) (fun _=>Ak I) I<|RD.vP 12 8191 c0 I d0 (.yes I I) (fun _=>Bz I) I<|Rv 13 c0 I d0 (fun _=>BA I I)<|Rv 14 c0 I d0 (fun _=>Ak I)<|Rv 15 c0 I d0 (fun _=>FV.gtrN (i:=q0) (j:=0) I I)<|Rv 16 c0 I d0 (fun _=>Ak I)<|RD.ifd (s:=61) I h (fun g1 h=>?_) (fun g1 h=>?_)
 refine BS 1048575 4 [(17,62),(18,63),(19,64)] (F:=[(61,true)]) (U:=[]) c0 d0 (.cons I .nil) .nil ?_
 dsimp only [bg,List.map]
 refine Rv 20 c0 I d0 (fun _=>BY I I)<|Ca 21 4194303 c0 I .plain I (AU (α:=Bool) (xs:=([j0,(!(aG g0 b0.fB false)),(!p0),true]:La Bool)) (vs:=[.bool j0,.bool (!(aG g0 b0.fB false)),.bool (!p0),.bool true]) (ds' :=[.bool j0,.bool (!(aG g0 b0.fB false)),.bool (!p0),.bool true]) I s0 iz I (e4 I I I I) (by kernel_rfl) I) fun b3 C2 z0 E1=>bk h fun s2 Z1 h=>BQ 22 8388607 8388608 (.bool s2) c0 I d0 (bd 95) I (e1 I) (fun w9 hw9=>bv_c n (z0.hL0 hL hw9) (Ar (St.lend (α:=Bool) (L:=L) z0 .hd (AJ (cs:=[.bool j0,.bool (!(aG g0 b0.fB false)),.bool (!p0),.bool true]) (xs:=(([j0,(!(aG g0 b0.fB false)),(!p0),true]:La Bool):La Bool)) z0 L (AB (cs:=[.bool j0]) (ds:=[.bool (!(aG g0 b0.fB false)),.bool (!p0),.bool true]) I (AB (cs:=[.bool (!(aG g0 b0.fB false))]) (ds:=[.bool (!p0),.bool true]) I (AB (cs:=[.bool (!p0)]) (ds:=[.bool true]) I (AB (cs:=[.bool true]) (ds:=[]) I (AR _ _)))))) hL) hw9) Z1) I<|Rv 23 c0 I d0 (fun _=>Bz I)<|AO (dk c0)<|MX.ifnb I h (fun j1 h=>?_) (fun j1 h=>?_)
 refine Az<|Ac<|Ae I<|Ba 0 I<|AY I ((z0.memA .t1) 0 _ I)<|BU .plain (Acts.mapUpdate (kv:=b0.fB) (vv:=true) z0 .t2 underlying151 underlying9 I I I I) fun c3 M0 F1=>Aa<|Av<|Ba 5 I<|AY I ((M0.memA .t1) 5 _ I)<|Ag I<|Aa<|AI<|Av<|Ab (Bu (i:=q0) (j:=1) I I (by omega))<|Ae I<|Aa ?_
 obtain ⟨v1,G1⟩:=Am M0 .d2
 exact D0 (b0.fp,q0 + 1,bF g0 b0.fB true) v1 (Tt E0 (Tt t0 (Tt v0 (Tt E1 (Tt F1 G1))))) h
 refine Ac<|Ag I<|Aa ?_
 have h:=ar h C0
 refine Ao I<|Bi hb0 func61 I I ?_
 cases h
 exact z0.gv
 refine RD.vP 17 262143 c0 I d0 (.yes I I) (fun _=>AS 5 I) I<|RD.val (i:=18) (m' :=524287) (W:=16252928) (tk c0) I d0 (.yes I I) (AN I ((s0.memA .hd) 5 _ I)) I<|RD.vP 19 1048575 c0 I d0 (.yes I I) (fun _=>Bz I) I<|Rv 20 c0 I d0 (fun _=>BA I I)<|Ca 21 4194303 c0 I .plain I (AU (α:=Bool) (xs:=([j0,(!(aG g0 b0.fB false)),(!p0),(!b0.fp)]:La Bool)) (vs:=[.bool j0,.bool (!(aG g0 b0.fB false)),.bool (!p0),.bool (!b0.fp)]) (ds' :=[.bool j0,.bool (!(aG g0 b0.fB false)),.bool (!p0),.bool (!b0.fp)]) I s0 iz I (e4 I I I I) (by kernel_rfl) I) fun d3 D2 A0 H1=>bk h fun u2 b2 h=>BQ 22 8388607 8388608 (.bool u2) c0 I d0 (bd 95) I (e1 I) (fun w9 hw9=>bv_c n (A0.hL0 hL hw9) (Ar (St.lend (α:=Bool) (L:=L) A0 .hd (AJ (cs:=[.bool j0,.bool (!(aG g0 b0.fB false)),.bool (!p0),.bool (!b0.fp)]) (xs:=(([j0,(!(aG g0 b0.fB false)),(!p0),(!b0.fp)]:La Bool):La Bool)) A0 L (AB (cs:=[.bool j0]) (ds:=[.bool (!(aG g0 b0.fB false)),.bool (!p0),.bool (!b0.fp)]) I (AB (cs:=[.bool (!(aG g0 b0.fB false))]) (ds:=[.bool (!p0),.bool (!b0.fp)]) I (AB (cs:=[.bool (!p0)]) (ds:=[.bool (!b0.fp)]) I (AB (cs:=[.bool (!b0.fp)]) (ds:=[]) I (AR _ _)))))) hL) hw9) b2) I<|Rv 23 c0 I d0 (fun _=>Bz I)<|AO (dk c0)<|MX.ifnb I h (fun k1 h=>?_) (fun k1 h=>?_)
 refine Az<|Ac<|Ae I<|Ba 0 I<|AY I ((A0.memA .t1) 0 _ I)<|BU .plain (Acts.mapUpdate (kv:=b0.fB) (vv:=true) A0 .t2 underlying151 underlying9 I I I I) fun g3 P0 I1=>Aa<|Av<|Ba 5 I<|AY I ((P0.memA .t1) 5 _ I)<|Ag I<|Aa<|AI<|Av<|Ab (Bu (i:=q0) (j:=1) I I (by omega))<|Ae I<|Aa ?_
 obtain ⟨x1,J1⟩:=Am P0 .d2
 exact D0 (b0.fp,q0 + 1,bF g0 b0.fB true) x1 (Tt E0 (Tt t0 (Tt v0 (Tt H1 (Tt I1 J1))))) h
 refine Ac<|Ag I<|Aa ?_
 have h:=ar h C0
 refine Ao I<|Bi hb0 func61 I I ?_
 cases h
 exact A0.gv
 refine Bj I ?_
 have h:=aI h C0
 try dsimp only at h
 refine Ac<|Ag I<|Aa<|Ao I<|Bi hb0 func61 I I ?_
 cases h
 exact F0.gv
 refine Ac<|Ag I<|Aa<|Ao I<|Bi hb0 func61 I I ?_
 cases h
 exact B0.gv
structure Tpoll where
  fF:Te
  fJ:Int
  fparty:Int
  deriving DecidableEq
instance:Rep Tpoll:=Rep.via (β:=Te × Int × Int) fun x=>(x.fF,x.fJ,x.fparty)
theorem dN_c (_n:Nat) {L w} (_hL:hl L w) (a0:Tpoll) {v0_3:Vc} (_h0_3:Rep.R w L [v0_3] a0.fF.fv)  :
 Cl 62 #[.agg #[vI a0.fF.fl,vI a0.fF.fj,vI a0.fF.fm,v0_3,vI a0.fJ,vI a0.fparty]] w (aj w fun w' u=>∃ b0:Nat,u = .func (.func 97) #[] #[vP b0]/\St w w' [.cells b0 [vI a0.fF.fl,vI a0.fF.fj,vI a0.fF.fm,v0_3,vI a0.fJ,vI a0.fparty] 120]):=by
 refine AK func62 I I I fun _ cs0 hb0=>Ac<|RG.bx (AD w) I I fun g0 b0 c0 d0=>Ag I<|Aa<|Ac<|Ab (BX (vs:=[]) (us:=[vP b0]) ak (e1 I))<|Ag I<|Aa<|Ao I<|Au (u:=.func (.func 97) #[] #[vP b0]) hb0 func62 I (.cons (.tmp I) .nil) I<|⟨c0.ag,fun w9 hw9=>⟨b0,I,c0.agree hw9⟩⟩
def cb_p (n:Nat) (a0:Tg) (a1:Tg):Oa Tg:=
  (aH_p n a0.fC a1.fA).bind fun b0=>(aH_p n a1.fC a0.fA).bind fun c0=>(bO_p n b0 c0).bind fun d0=>(aH_p n a0.fA a1.fA).bind fun g0=>(bU_p n d0 g0).bind fun j0=>some j0
theorem cb_c (n:Nat) {L w} (hL:hl L w) (a0:Tg) {v0_1:Vc} (h0_1:Rep.R w L [v0_1] a0.fC.fu) {v0_3:Vc} (h0_3:Rep.R w L [v0_3] a0.fA.fu) (a1:Tg) {v1_1:Vc} (h1_1:Rep.R w L [v1_1] a1.fC.fu) {v1_3:Vc} (h1_3:Rep.R w L [v1_3] a1.fA.fu)  {r:Tg} (h:cb_p n a0 a1 = some r) :
 Cl 129 #[.agg #[.bool a0.fC.fh,v0_1,.bool a0.fA.fh,v0_3],.agg #[.bool a1.fC.fh,v1_1,.bool a1.fA.fh,v1_3]] w (aj w fun w' u=>∃ v0_1 v0_3:Vc,u = .agg #[.bool r.fC.fh,v0_1,.bool r.fA.fh,v0_3]/\Rep.R w' L [v0_1] r.fC.fu/\Rep.R w' L [v0_3] r.fA.fu):=by
 unfold cb_p at h
 refine AK func129 I I I fun _ cs0 hb0=>Ac<|RG.bx (AD w) I I fun F1 c1 z0 j1=>RG.bx z0 I I fun G1 d1 A0 k1=>RG.nl [.bool false,vN,.bool false,vN] A0 fun H1 g1 d0 p1=>Aa<|Aj<|du 17 fun b0 c0=>Rv 0 b0 I c0 (fun _=>AS 0 I)<|Rx 1 230928 b0 I c0 (Aq (cs:=[.bool a0.fC.fh,v0_1]) I I (ac (d0.memA .t2) 0 2))<|Rv 2 b0 I c0 (fun _=>AS 2 I)<|Rx 3 230928 b0 I c0 (Aq (cs:=[.bool a1.fA.fh,v1_3]) I I (ac (d0.memA .t1) 2 2))<|Rv 5 b0 I c0 (fun _=>AS 0 I)<|Rx 6 230912 b0 I c0 (Aq (cs:=[.bool a1.fC.fh,v1_1]) I I (ac (d0.memA .t1) 0 2))<|Rv 7 b0 I c0 (fun _=>AS 2 I)<|Rx 8 230912 b0 I c0 (Aq (cs:=[.bool a0.fA.fh,v0_3]) I I (ac (d0.memA .t2) 2 2))<|Rv 11 b0 I c0 (fun _=>AS 2 I)<|Rx 12 229376 b0 I c0 (Aq (cs:=[.bool a0.fA.fh,v0_3]) I I (ac (d0.memA .t2) 2 2))<|Rv 13 b0 I c0 (fun _=>AS 2 I)<|Rx 14 229376 b0 I c0 (Aq (cs:=[.bool a1.fA.fh,v1_3]) I I (ac (d0.memA .t1) 2 2))<|bk h fun X0 Q0 h=>Bp 4 31231 b0 I .plain (bd 123) I (e2 I I) (fun w9 hw9=>aH_c n (d0.hL hL hw9) a0.fC (d0.km h0_1 hw9) a1.fA (d0.km h1_3 hw9) Q0) I fun I1 A1 E0 ⟨v1,hu_,J0⟩=>?_
 subst hu_
 obtain ⟨g0,q1⟩:=d0.agr E0
 refine bk h fun Y0 R0 h=>Bp 9 31743 b0 I .plain (bd 123) I (e2 I I) (fun w9 hw9=>aH_c n (g0.hL hL hw9) a1.fC (g0.km h1_1 hw9) a0.fA (g0.km h0_3 hw9) R0) I fun J1 B1 F0 ⟨x1,hu_,K0⟩=>?_
 subst hu_
 obtain ⟨t0,C0⟩:=g0.agr F0
 refine bk h fun Z0 U0 h=>Bp 10 32767 b0 I .plain (bd 158) I (e2 I I) (fun w9 hw9=>bO_c n (t0.hL hL hw9) X0 (Ar (Ap J0 C0) hw9) Y0 (Ar K0 hw9) U0) I fun K1 C1 G0 ⟨y1,hu_,M0⟩=>?_
 subst hu_
 obtain ⟨j0,s1⟩:=t0.agr G0
 refine bk h fun b1 V0 h=>Bp 15 65535 b0 I .plain (bd 123) I (e2 I I) (fun w9 hw9=>aH_c n (j0.hL hL hw9) a0.fA (j0.km h0_3 hw9) a1.fA (j0.km h1_3 hw9) V0) I fun M1 D1 H0 ⟨z1,hu_,P0⟩=>?_
 subst hu_
 obtain ⟨u0,D0⟩:=j0.agr H0
 refine bk h fun p0 W0 h=>Bp 16 131071 b0 I .plain (bd 118) I (e2 I I) (fun w9 hw9=>bU_c n (u0.hL hL hw9) Z0 (Ar (Ap M0 D0) hw9) b1 (Ar P0 hw9) W0) I fun P1 E1 I0 ⟨q0,s0,hu_,x0,y0⟩=>?_
 subst hu_
 obtain ⟨B0,u1⟩:=u0.agr I0
 refine Bv 17 262143 b0 I I .plain (Ax (news:=[.bool p0.fC.fh,q0,.bool p0.fA.fh,s0]) B0 .hd I I I I I I (o4 I (AX x0) I (AX y0))) fun Q1 k0 v0=>AO (dk b0)<|Ao I<|Au hb0 func129 I (.cons (.many (cs:=[.bool p0.fC.fh,q0,.bool p0.fA.fh,s0]) I I (k0.memA .hd)) .nil) I ?_
 cases h
 exact ⟨k0.ag,fun w9 hw9=>⟨q0,s0,I,k0.kd (Ap x0 v0) hw9,k0.kd (Ap y0 v0) hw9⟩⟩
def dG_p (n:Nat) (a0:Ta) (a1:Ta):Oa (Ta × Int):=
  (aV_p n ([a0,a1]:La Ta)).bind fun d0=>(if d0 = true then (aM_p n a0).bind fun g0=>(aM_p n a1).bind fun j0=>(cb_p n g0 j0).bind fun k0=>(aY_p n k0 (0:Int)).bind fun c0=>some (c0.1,c0.2) else (aY_p n (⟨(⟨false,([]:La Ua)⟩:Th),(⟨false,([]:La Ua)⟩:Th)⟩:Tg) (20:Int)).bind fun b0=>some (b0.1,b0.2))
theorem dG_c (n:Nat) {L w} (hL:hl L w) (a0:Ta) (a1:Ta)  {r:Ta × Int} (h:dG_p n a0 a1 = some r) :
 Cl 98 #[.agg ((aa a0)).toArray,.agg ((aa a1)).toArray] w (aj w fun _ u=>u = .tuple #[.agg ((aa r.1)).toArray,vI r.2]):=by
 unfold dG_p at h
 refine AK func98 I I I fun _ cs0 hb0=>Ac<|RG.bx (AD w) I I fun j2 s1 I0 F1=>RG.bx I0 I I fun k2 u1 J0 G1=>RG.nl ae J0 fun p2 v1 s0 H1=>Ag I<|Aa<|Ac<|Ab (AC I (s0.memA .t2))<|Ab (AC I (s0.memA .t1))<|BF (fst:=[]) (cap:=[]) (vs:=[.agg ((aa a0)).toArray,.agg ((aa a1)).toArray,.func (.func 129) #[] #[]]) .plain (bd 91) func91 I I I I (e3 I I I) I fun C1 E0 V1=>Ac<|RG.bx s0 I I fun q2 x1 K0 I1=>RG.bx K0 I I fun s2 y1 M0 J1=>RG.nl [.bool false,vN,.bool false,vN] M0 fun u2 z1 t0 K1=>Ag I<|Aa<|Aj<|Ac<|Ab (AC I (t0.memA .t2))<|Ab (AC I (t0.memA .t1))<|Ah .plain I (AU (α:=Ta) (xs:=([a0,a1]:La Ta)) (vs:=[.agg ((aa a0)).toArray,.agg ((aa a1)).toArray]) (ds' :=(aa a0 ++ aa a1)) I t0 eQ I (e2 I I) (by kernel_rfl) I) fun v2 A1 c0 M1=>?_
 refine bk h fun k1 b1 h=>Bm (.bool k1) (bd 99) I (e1 I) (fun w9 hw9=>aV_c n (c0.hL0 hL hw9) (Ar (St.lend (α:=Ta) (L:=L) c0 .hd (AJ (cs:=(aa a0 ++ aa a1)) (xs:=(([a0,a1]:La Ta):La Ta)) c0 L (AB (cs:=(aa a0)) (ds:=(aa a1)) (bD a0.fN a0.fD) (AB (cs:=(aa a1)) (ds:=[]) (bD a1.fN a1.fD) (AR _ _)))) hL) hw9) b1) I<|Ab (Bz I)<|Aa<|MX.ifnb I h (fun H0 h=>?_) (fun H0 h=>?_)
 refine Az<|Aj<|du 6 fun b0 j0=>Rv 0 b0 I j0 (fun _=>Ak I)<|Rx 1 244 b0 I j0 (AC I (c0.memA .t3))<|Rx 3 240 b0 I j0 (AC I (c0.memA .t2))<|bk h fun p1 c1 h=>Bp 2 15 b0 I .plain (bd 84) I (e1 I) (fun w9 hw9=>aM_c n (c0.hL hL hw9) a0 c1) I fun x2 b2 Q0 ⟨W1,X1,hu_,V0,W0⟩=>?_
 subst hu_
 obtain ⟨y0,P1⟩:=c0.agr Q0
 refine bk h fun q1 d1 h=>Bp 4 31 b0 I .plain (bd 84) I (e1 I) (fun w9 hw9=>aM_c n (y0.hL hL hw9) a1 d1) I fun y2 c2 R0 ⟨Y1,Z1,hu_,X0,Y0⟩=>?_
 subst hu_
 obtain ⟨z0,C0⟩:=y0.agr R0
 refine bk h fun d0 g1 h=>Bp 5 63 b0 I .plain (bd 129) I (e2 I I) (fun w9 hw9=>cb_c n (z0.hL hL hw9) p1 (Ar (Ap V0 C0) hw9) (Ar (Ap W0 C0) hw9) q1 (Ar X0 hw9) (Ar Y0 hw9) g1) I fun z2 d2 U0 ⟨u0,v0,hu_,F0,G0⟩=>?_
 subst hu_
 obtain ⟨P0,Q1⟩:=z0.agr U0
 refine Bv 6 127 b0 I I .plain (Ax (news:=[.bool d0.fC.fh,u0,.bool d0.fA.fh,v0]) P0 .t1 I I I I I I (o4 I (AX F0) I (AX G0))) fun A2 g0 D0=>Rv 7 b0 I j0 (fun _=>Bn I)<|AO (dk b0)<|Ao I<|Au (u:=.tuple #[.agg #[.bool d0.fC.fh,u0,.bool d0.fA.fh,v0],vI 0]) E0 func91 I (.cons (.many (cs:=[.bool d0.fC.fh,u0,.bool d0.fA.fh,v0]) I I (g0.memA .t1)) (.cons (.tmp I) .nil)) I<|Ab (Ai I I)<|Ab (Ai I I)<|bk h fun p0 j1 h=>Bm (.tuple #[.agg ((aa p0.1)).toArray,vI p0.2]) (bd 90) I (e2 I I) (fun w9 hw9=>aY_c n (g0.hL0 hL hw9) d0 (g0.kd (Ap F0 D0) hw9) (g0.kd (Ap G0 D0) hw9) j1) I<|Ab (Ai I I)<|Ab (Ai I I)<|AW (aa p0.1) g0 .t4 (ai I) fun B2 A0 R1=>Ag I<|Aa<|Ao I<|Au hb0 func98 I (.cons (.many (cs:=(aa p0.1)) I I (A0.memA .t4)) (.cons (.tmp I) .nil)) I ?_
 cases h
 exact A0.gv
 refine Ac<|RG.nl [.bool false,vN,.bool false,vN] c0 fun C2 B1 B0 U1=>Aa<|Ac<|Ab (AC I (B0.memA .hd))<|AW [.bool false,vN,.bool false,vN] B0 .t2 (ai I) fun D2 q0 D1=>Ag I<|Aa<|Ao I<|Au (u:=.tuple #[.agg #[.bool false,vN,.bool false,vN],vI 20]) E0 func91 I (.cons (.many (cs:=[.bool false,vN,.bool false,vN]) I I (q0.memA .t2)) (.cons (.tmp I) .nil)) I<|Ab (Ai I I)<|Ab (Ai I I)<|bk h fun k0 Z0 h=>Bm (.tuple #[.agg ((aa k0.1)).toArray,vI k0.2]) (bd 90) I (e2 I I) (fun w9 hw9=>aY_c n (q0.hL0 hL hw9) (⟨(⟨false,([]:La Ua)⟩:Th),(⟨false,([]:La Ua)⟩:Th)⟩:Tg) (Ar (Rep.nilSlice _ _) hw9) (Ar (Rep.nilSlice _ _) hw9) Z0) I<|Ab (Ai I I)<|Ab (Ai I I)<|AW (aa k0.1) q0 .t5 (ai I) fun g2 x0 E1=>Ag I<|Aa<|Ao I<|Au hb0 func98 I (.cons (.many (cs:=(aa k0.1)) I I (x0.memA .t5)) (.cons (.tmp I) .nil)) I ?_
 cases h
 exact x0.gv
def bm_p (n:Nat) (a0:Ta) (a1:Ta):Oa (Except Tc Ta):=
  (dG_p n a0 a1).bind fun b0=>(al_p n b0.1 b0.2).bind fun d0=>exc d0 (fun g0=>some (.ok g0)) (fun c0=>some (.error c0))
theorem bm_c (n:Nat) {L w} (hL:hl L w) (a0:Ta) (a1:Ta)  {r:Except Tc Ta} (h:bm_p n a0 a1 = some r) :
 Cl 63 #[.agg ((aa a0)).toArray,.agg ((aa a1)).toArray] w (aK w (fun (y:Ta) _ u=>u = .agg ((aa y)).toArray) (fun e=>.iface 115 (.agg #[vI e.fE])) r):=by
 unfold bm_p at h
 refine BV func63 I I I fun _ cs0 hb0 hp0=>Ac<|RG.bx (AD w) I I fun E0 u0 k0 z0=>RG.bx k0 I I fun F0 v0 p0 A0=>RG.nl ae p0 fun G0 x0 b0 B0=>Aa<|Ac<|Ab (AC I (b0.memA .t2))<|Ab (AC I (b0.memA .t1))<|bk h fun c0 t0 h=>Bm (.tuple #[.agg ((aa c0.1)).toArray,vI c0.2]) (bd 98) I (e2 I I) (fun w9 hw9=>dG_c n (b0.hL0 hL hw9) a0 a1 t0) I<|Ab (Ai I I)<|Ab (Ai I I)<|xk h (fun y0 d0 h=>?_) (fun g0 d0 h=>?_)
 refine BL (fst:=[]) (cap:=[]) .plain (bd 56) I (e2 I I) (fun w9 hw9=>al_c n (b0.hL0 hL hw9) c0.1 d0) fun H0 s0=>?_
 obtain ⟨q0,C0⟩:=b0.agr s0
 cases h
 exact AE hp0 func63 ⟨q0.ag,I⟩
 refine Bm (.agg ((aa g0)).toArray) (bd 56) I (e2 I I) (fun w9 hw9=>AZ (al_c n (b0.hL0 hL hw9) c0.1 d0)) I<|AW (aa g0) b0 .hd (ai I) fun I0 j0 D0=>Aa<|Ao I<|Au hb0 func63 I (.cons (.many (cs:=(aa g0)) I I (j0.memA .hd)) .nil) I ?_
 cases h
 exact ⟨j0.ag,fun w9 hw9=>aD I⟩
def aU_p (n:Nat) (a0:Tg):Oa Tg:=
  (bz_p n a0.fC).bind fun b0=>some (⟨b0,a0.fA⟩:Tg)
theorem aU_c (n:Nat) {L w} (hL:hl L w) (a0:Tg) {v0_1:Vc} (h0_1:Rep.R w L [v0_1] a0.fC.fu) {v0_3:Vc} (h0_3:Rep.R w L [v0_3] a0.fA.fu)  {r:Tg} (h:aU_p n a0 = some r) :
 Cl 94 #[.agg #[.bool a0.fC.fh,v0_1,.bool a0.fA.fh,v0_3]] w (aj w fun w' u=>∃ v0_1 v0_3:Vc,u = .agg #[.bool r.fC.fh,v0_1,.bool r.fA.fh,v0_3]/\Rep.R w' L [v0_1] r.fC.fu/\Rep.R w' L [v0_3] r.fA.fu):=by
 unfold aU_p at h
 refine AK func94 I I I fun _ cs0 hb0=>Ac<|RG.bx (AD w) I I fun M0 D0 u0 H0=>RG.nl [.bool false,vN,.bool false,vN] u0 fun P0 E0 c0 I0=>Aa<|Aj<|du 6 fun b0 d0=>Rv 0 b0 I d0 (fun _=>AS 0 I)<|Rx 1 100 b0 I d0 (Aq (cs:=[.bool a0.fC.fh,v0_1]) I I (ac (c0.memA .t1) 0 2))<|Rv 3 b0 I d0 (fun _=>AS 2 I)<|Rx 4 96 b0 I d0 (Aq (cs:=[.bool a0.fA.fh,v0_3]) I I (ac (c0.memA .t1) 2 2))<|bk h fun p0 A0 h=>Bp 2 31 b0 I .plain (bd 125) I (e1 I) (fun w9 hw9=>bz_c n (c0.hL hL hw9) a0.fC (c0.km h0_1 hw9) A0) I fun Q0 K0 x0 ⟨g0,hu_,q0⟩=>?_
 subst hu_
 obtain ⟨s0,J0⟩:=c0.agr x0
 obtain ⟨B0,F0,y0,_⟩:=Rep.sl q0
 have t0:=Bb h0_3 s0
 obtain ⟨C0,G0,z0,_⟩:=Rep.sl t0
 refine Rv 5 b0 I d0 (fun _=>AP (vs:=[.agg #[.bool p0.fh,g0],.agg #[.bool a0.fA.fh,v0_3]]) (u:=.agg #[.bool p0.fh,g0,.bool a0.fA.fh,v0_3]) (e2 I I) (fun w9=>by rw [y0,z0]; try kernel_rfl))<|Bv 6 127 b0 I I .plain (Ax (news:=[.bool p0.fh,g0,.bool a0.fA.fh,v0_3]) s0 .hd I I I I I I (o4 I (AX q0) I (AX t0))) fun R0 j0 v0=>AO (dk b0)<|Ao I<|Au hb0 func94 I (.cons (.many (cs:=[.bool p0.fh,g0,.bool a0.fA.fh,v0_3]) I I (j0.memA .hd)) .nil) I ?_
 cases h
 exact ⟨j0.ag,fun w9 hw9=>⟨g0,v0_3,I,j0.kd (Ap q0 v0) hw9,j0.k0 h0_3 hw9⟩⟩
def cK_p (n:Nat) (a0:Tg) (a1:Tg):Oa Tg:=
  (aU_p n a1).bind fun b0=>(cb_p n a0 b0).bind fun c0=>some c0
theorem cK_c (n:Nat) {L w} (hL:hl L w) (a0:Tg) {v0_1:Vc} (h0_1:Rep.R w L [v0_1] a0.fC.fu) {v0_3:Vc} (h0_3:Rep.R w L [v0_3] a0.fA.fu) (a1:Tg) {v1_1:Vc} (h1_1:Rep.R w L [v1_1] a1.fC.fu) {v1_3:Vc} (h1_3:Rep.R w L [v1_3] a1.fA.fu)  {r:Tg} (h:cK_p n a0 a1 = some r) :
 Cl 101 #[.agg #[.bool a0.fC.fh,v0_1,.bool a0.fA.fh,v0_3],.agg #[.bool a1.fC.fh,v1_1,.bool a1.fA.fh,v1_3]] w (aj w fun w' u=>∃ v0_1 v0_3:Vc,u = .agg #[.bool r.fC.fh,v0_1,.bool r.fA.fh,v0_3]/\Rep.R w' L [v0_1] r.fC.fu/\Rep.R w' L [v0_3] r.fA.fu):=by
 unfold cK_p at h
 refine AK func101 I I I fun _ cs0 hb0=>Ac<|RG.bx (AD w) I I fun X0 G0 v0 J0=>RG.bx v0 I I fun Y0 H0 x0 K0=>RG.nl [.bool false,vN,.bool false,vN] x0 fun Z0 I0 b0 M0=>Aa<|Aj<|du 4 fun c0 u0=>Rx 0 24 c0 I u0 (AC I (b0.memA .t2))<|Rx 1 28 c0 I u0 (AC I (b0.memA .t1))<|bk h fun F0 D0 h=>Bp 2 7 c0 I .plain (bd 94) I (e1 I) (fun w9 hw9=>aU_c n (b0.hL hL hw9) a1 (b0.km h1_1 hw9) (b0.km h1_3 hw9) D0) I fun b1 V0 z0 ⟨R0,U0,hu_,B0,C0⟩=>?_
 subst hu_
 obtain ⟨d0,P0⟩:=b0.agr z0
 refine bk h fun j0 E0 h=>Bp 3 15 c0 I .plain (bd 129) I (e2 I I) (fun w9 hw9=>cb_c n (d0.hL hL hw9) a0 (d0.km h0_1 hw9) (d0.km h0_3 hw9) F0 (Ar B0 hw9) (Ar C0 hw9) E0) I fun c1 W0 A0 ⟨k0,p0,hu_,s0,t0⟩=>?_
 subst hu_
 obtain ⟨y0,Q0⟩:=d0.agr A0
 refine Bv 4 31 c0 I I .plain (Ax (news:=[.bool j0.fC.fh,k0,.bool j0.fA.fh,p0]) y0 .hd I I I I I I (o4 I (AX s0) I (AX t0))) fun d1 g0 q0=>AO (dk c0)<|Ao I<|Au hb0 func101 I (.cons (.many (cs:=[.bool j0.fC.fh,k0,.bool j0.fA.fh,p0]) I I (g0.memA .hd)) .nil) I ?_
 cases h
 exact ⟨g0.ag,fun w9 hw9=>⟨k0,p0,I,g0.kd (Ap s0 q0) hw9,g0.kd (Ap t0 q0) hw9⟩⟩
def dH_p (n:Nat) (a0:Ta) (a1:Ta):Oa (Ta × Int):=
  (aV_p n ([a0,a1]:La Ta)).bind fun d0=>(if d0 = true then (aM_p n a0).bind fun g0=>(aM_p n a1).bind fun j0=>(cK_p n g0 j0).bind fun k0=>(aY_p n k0 (0:Int)).bind fun c0=>some (c0.1,c0.2) else (aY_p n (⟨(⟨false,([]:La Ua)⟩:Th),(⟨false,([]:La Ua)⟩:Th)⟩:Tg) (20:Int)).bind fun b0=>some (b0.1,b0.2))
theorem dH_c (n:Nat) {L w} (hL:hl L w) (a0:Ta) (a1:Ta)  {r:Ta × Int} (h:dH_p n a0 a1 = some r) :
 Cl 66 #[.agg ((aa a0)).toArray,.agg ((aa a1)).toArray] w (aj w fun _ u=>u = .tuple #[.agg ((aa r.1)).toArray,vI r.2]):=by
 unfold dH_p at h
 refine AK func66 I I I fun _ cs0 hb0=>Ac<|RG.bx (AD w) I I fun j2 s1 I0 F1=>RG.bx I0 I I fun k2 u1 J0 G1=>RG.nl ae J0 fun p2 v1 s0 H1=>Ag I<|Aa<|Ac<|Ab (AC I (s0.memA .t2))<|Ab (AC I (s0.memA .t1))<|BF (fst:=[]) (cap:=[]) (vs:=[.agg ((aa a0)).toArray,.agg ((aa a1)).toArray,.func (.func 101) #[] #[]]) .plain (bd 91) func91 I I I I (e3 I I I) I fun C1 E0 V1=>Ac<|RG.bx s0 I I fun q2 x1 K0 I1=>RG.bx K0 I I fun s2 y1 M0 J1=>RG.nl [.bool false,vN,.bool false,vN] M0 fun u2 z1 t0 K1=>Ag I<|Aa<|Aj<|Ac<|Ab (AC I (t0.memA .t2))<|Ab (AC I (t0.memA .t1))<|Ah .plain I (AU (α:=Ta) (xs:=([a0,a1]:La Ta)) (vs:=[.agg ((aa a0)).toArray,.agg ((aa a1)).toArray]) (ds' :=(aa a0 ++ aa a1)) I t0 eQ I (e2 I I) (by kernel_rfl) I) fun v2 A1 c0 M1=>?_
 refine bk h fun k1 b1 h=>Bm (.bool k1) (bd 99) I (e1 I) (fun w9 hw9=>aV_c n (c0.hL0 hL hw9) (Ar (St.lend (α:=Ta) (L:=L) c0 .hd (AJ (cs:=(aa a0 ++ aa a1)) (xs:=(([a0,a1]:La Ta):La Ta)) c0 L (AB (cs:=(aa a0)) (ds:=(aa a1)) (bD a0.fN a0.fD) (AB (cs:=(aa a1)) (ds:=[]) (bD a1.fN a1.fD) (AR _ _)))) hL) hw9) b1) I<|Ab (Bz I)<|Aa<|MX.ifnb I h (fun H0 h=>?_) (fun H0 h=>?_)
 refine Az<|Aj<|du 6 fun b0 j0=>Rv 0 b0 I j0 (fun _=>Ak I)<|Rx 1 244 b0 I j0 (AC I (c0.memA .t3))<|Rx 3 240 b0 I j0 (AC I (c0.memA .t2))<|bk h fun p1 c1 h=>Bp 2 15 b0 I .plain (bd 84) I (e1 I) (fun w9 hw9=>aM_c n (c0.hL hL hw9) a0 c1) I fun x2 b2 Q0 ⟨W1,X1,hu_,V0,W0⟩=>?_
 subst hu_
 obtain ⟨y0,P1⟩:=c0.agr Q0
 refine bk h fun q1 d1 h=>Bp 4 31 b0 I .plain (bd 84) I (e1 I) (fun w9 hw9=>aM_c n (y0.hL hL hw9) a1 d1) I fun y2 c2 R0 ⟨Y1,Z1,hu_,X0,Y0⟩=>?_
 subst hu_
 obtain ⟨z0,C0⟩:=y0.agr R0
 refine bk h fun d0 g1 h=>Bp 5 63 b0 I .plain (bd 101) I (e2 I I) (fun w9 hw9=>cK_c n (z0.hL hL hw9) p1 (Ar (Ap V0 C0) hw9) (Ar (Ap W0 C0) hw9) q1 (Ar X0 hw9) (Ar Y0 hw9) g1) I fun z2 d2 U0 ⟨u0,v0,hu_,F0,G0⟩=>?_
 subst hu_
 obtain ⟨P0,Q1⟩:=z0.agr U0
 refine Bv 6 127 b0 I I .plain (Ax (news:=[.bool d0.fC.fh,u0,.bool d0.fA.fh,v0]) P0 .t1 I I I I I I (o4 I (AX F0) I (AX G0))) fun A2 g0 D0=>Rv 7 b0 I j0 (fun _=>Bn I)<|AO (dk b0)<|Ao I<|Au (u:=.tuple #[.agg #[.bool d0.fC.fh,u0,.bool d0.fA.fh,v0],vI 0]) E0 func91 I (.cons (.many (cs:=[.bool d0.fC.fh,u0,.bool d0.fA.fh,v0]) I I (g0.memA .t1)) (.cons (.tmp I) .nil)) I<|Ab (Ai I I)<|Ab (Ai I I)<|bk h fun p0 j1 h=>Bm (.tuple #[.agg ((aa p0.1)).toArray,vI p0.2]) (bd 90) I (e2 I I) (fun w9 hw9=>aY_c n (g0.hL0 hL hw9) d0 (g0.kd (Ap F0 D0) hw9) (g0.kd (Ap G0 D0) hw9) j1) I<|Ab (Ai I I)<|Ab (Ai I I)<|AW (aa p0.1) g0 .t4 (ai I) fun B2 A0 R1=>Ag I<|Aa<|Ao I<|Au hb0 func66 I (.cons (.many (cs:=(aa p0.1)) I I (A0.memA .t4)) (.cons (.tmp I) .nil)) I ?_
 cases h
 exact A0.gv
 refine Ac<|RG.nl [.bool false,vN,.bool false,vN] c0 fun C2 B1 B0 U1=>Aa<|Ac<|Ab (AC I (B0.memA .hd))<|AW [.bool false,vN,.bool false,vN] B0 .t2 (ai I) fun D2 q0 D1=>Ag I<|Aa<|Ao I<|Au (u:=.tuple #[.agg #[.bool false,vN,.bool false,vN],vI 20]) E0 func91 I (.cons (.many (cs:=[.bool false,vN,.bool false,vN]) I I (q0.memA .t2)) (.cons (.tmp I) .nil)) I<|Ab (Ai I I)<|Ab (Ai I I)<|bk h fun k0 Z0 h=>Bm (.tuple #[.agg ((aa k0.1)).toArray,vI k0.2]) (bd 90) I (e2 I I) (fun w9 hw9=>aY_c n (q0.hL0 hL hw9) (⟨(⟨false,([]:La Ua)⟩:Th),(⟨false,([]:La Ua)⟩:Th)⟩:Tg) (Ar (Rep.nilSlice _ _) hw9) (Ar (Rep.nilSlice _ _) hw9) Z0) I<|Ab (Ai I I)<|Ab (Ai I I)<|AW (aa k0.1) q0 .t5 (ai I) fun g2 x0 E1=>Ag I<|Aa<|Ao I<|Au hb0 func66 I (.cons (.many (cs:=(aa k0.1)) I I (x0.memA .t5)) (.cons (.tmp I) .nil)) I ?_
 cases h
 exact x0.gv
def bt_p (n:Nat) (a0:Ta) (a1:Ta):Oa (Except Tc Ta):=
  (dH_p n a0 a1).bind fun b0=>(al_p n b0.1 b0.2).bind fun d0=>exc d0 (fun g0=>some (.ok g0)) (fun c0=>some (.error c0))
theorem bt_c (n:Nat) {L w} (hL:hl L w) (a0:Ta) (a1:Ta)  {r:Except Tc Ta} (h:bt_p n a0 a1 = some r) :
 Cl 27 #[.agg ((aa a0)).toArray,.agg ((aa a1)).toArray] w (aK w (fun (y:Ta) _ u=>u = .agg ((aa y)).toArray) (fun e=>.iface 115 (.agg #[vI e.fE])) r):=by
 unfold bt_p at h
 refine BV func27 I I I fun _ cs0 hb0 hp0=>Ac<|RG.bx (AD w) I I fun E0 u0 k0 z0=>RG.bx k0 I I fun F0 v0 p0 A0=>RG.nl ae p0 fun G0 x0 b0 B0=>Aa<|Ac<|Ab (AC I (b0.memA .t2))<|Ab (AC I (b0.memA .t1))<|bk h fun c0 t0 h=>Bm (.tuple #[.agg ((aa c0.1)).toArray,vI c0.2]) (bd 66) I (e2 I I) (fun w9 hw9=>dH_c n (b0.hL0 hL hw9) a0 a1 t0) I<|Ab (Ai I I)<|Ab (Ai I I)<|xk h (fun y0 d0 h=>?_) (fun g0 d0 h=>?_)
 refine BL (fst:=[]) (cap:=[]) .plain (bd 56) I (e2 I I) (fun w9 hw9=>al_c n (b0.hL0 hL hw9) c0.1 d0) fun H0 s0=>?_
 obtain ⟨q0,C0⟩:=b0.agr s0
 cases h
 exact AE hp0 func27 ⟨q0.ag,I⟩
 refine Bm (.agg ((aa g0)).toArray) (bd 56) I (e2 I I) (fun w9 hw9=>AZ (al_c n (b0.hL0 hL hw9) c0.1 d0)) I<|AW (aa g0) b0 .hd (ai I) fun I0 j0 D0=>Aa<|Ao I<|Au hb0 func27 I (.cons (.many (cs:=(aa g0)) I I (j0.memA .hd)) .nil) I ?_
 cases h
 exact ⟨j0.ag,fun w9 hw9=>aD I⟩
def bQ_p (n:Nat) (a0:Ta) (a1:Ta) (a2:Ta) (a3:Ta):Oa (Except Tc Ta):=
  (ao_p n a0 a1).bind fun g0=>exc g0 (fun j0=>(ao_p n a2 a3).bind fun k0=>exc k0 (fun p0=>(bt_p n j0 p0).bind fun q0=>exc q0 (fun s0=>some (.ok s0)) (fun d0=>some (.error d0))) (fun c0=>some (.error c0))) (fun b0=>some (.error b0))
theorem bQ_c (n:Nat) {L w} (hL:hl L w) (a0:Ta) (a1:Ta) (a2:Ta) (a3:Ta)  {r:Except Tc Ta} (h:bQ_p n a0 a1 a2 a3 = some r) :
 Cl 64 #[.agg ((aa a0)).toArray,.agg ((aa a1)).toArray,.agg ((aa a2)).toArray,.agg ((aa a3)).toArray] w (aK w (fun (y:Ta) _ u=>u = .agg ((aa y)).toArray) (fun e=>.iface 115 (.agg #[vI e.fE])) r):=by
 unfold bQ_p at h
 refine BV func64 I I I fun _ cs0 hb0 hp0=>Ac<|RG.bx (AD w) I I fun p1 H0 v0 V0=>RG.bx v0 I I fun q1 I0 x0 W0=>RG.bx x0 I I fun s1 J0 y0 X0=>RG.bx y0 I I fun u1 K0 z0 Y0=>RG.nl ae z0 fun v1 M0 d0 Z0=>Aa<|Ac<|Ab (AC I (d0.memA .t4))<|Ab (AC I (d0.memA .t3))<|xk h (fun Q0 k0 h=>?_) (fun j0 k0 h=>?_)
 refine BL (fst:=[]) (cap:=[]) .plain (bd 28) I (e2 I I) (fun w9 hw9=>ao_c n (d0.hL0 hL hw9) a0 a1 k0) fun x1 E0=>?_
 obtain ⟨A0,b1⟩:=d0.agr E0
 cases h
 exact AE hp0 func64 ⟨A0.ag,I⟩
 refine Bm (.agg ((aa j0)).toArray) (bd 28) I (e2 I I) (fun w9 hw9=>AZ (ao_c n (d0.hL0 hL hw9) a0 a1 k0)) I<|RG.nl ae d0 fun y1 P0 B0 c1=>AW (aa j0) B0 .hd (ai I) fun z1 b0 d1=>Aa<|Aj<|du 5 fun c0 g0=>Rx 0 48 c0 I g0 (AC I (b0.memA .hd))<|Rx 1 56 c0 I g0 (AC I (b0.memA .t3))<|Rx 2 56 c0 I g0 (AC I (b0.memA .t2))<|xk h (fun R0 p0 h=>?_) (fun s0 p0 h=>?_)
 refine AT (i:=3) (rk c0) (BC (fst:=[]) (cap:=[]) I .plain (bd 28) I (e2 I I) (fun w9 hw9=>ao_c n (b0.hL0 hL hw9) a2 a3 p0) (fun A1 F0=>?_))
 obtain ⟨C0,g1⟩:=b0.agr F0
 cases h
 exact AE hp0 func64 ⟨C0.ag,I⟩
 refine BQ 3 15 48 (.agg ((aa s0)).toArray) c0 I g0 (bd 28) I (e2 I I) (fun w9 hw9=>AZ (ao_c n (b0.hL0 hL hw9) a2 a3 p0)) I<|xk h (fun U0 q0 h=>?_) (fun t0 q0 h=>?_)
 refine AT (i:=4) (rk c0) (BC (fst:=[]) (cap:=[]) I .plain (bd 27) I (e2 I I) (fun w9 hw9=>bt_c n (b0.hL0 hL hw9) j0 s0 q0) (fun B1 G0=>?_))
 obtain ⟨D0,j1⟩:=b0.agr G0
 cases h
 exact AE hp0 func64 ⟨D0.ag,I⟩
 refine BQ 4 31 32 (.agg ((aa t0)).toArray) c0 I g0 (bd 27) I (e2 I I) (fun w9 hw9=>AZ (bt_c n (b0.hL0 hL hw9) j0 s0 q0)) I<|Bv 5 63 c0 I I .plain (Ax (news:=(aa t0)) b0 .t1 I I I I I I (ai I)) fun C1 u0 k1=>AO (dk c0)<|Ao I<|Au hb0 func64 I (.cons (.many (cs:=(aa t0)) I I (u0.memA .t1)) .nil) I ?_
 cases h
 exact ⟨u0.ag,fun w9 hw9=>aD I⟩
end Go.Proofs.YtmhnkiifknjgaaaGreatDoor
