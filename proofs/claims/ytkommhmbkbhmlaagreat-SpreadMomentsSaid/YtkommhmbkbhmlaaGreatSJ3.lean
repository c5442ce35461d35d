import Derived.Test.YtkommhmbkbhmlaaGreatProg
import Derived.Test.YtkommhmbkbhmlaaGreatSOd
namespace Go.Proofs.YtkommhmbkbhmlaaGreat
open Go Go.RowKit Tryz
set_option maxRecDepth 4000
set_option maxHeartbeats 4000000
abbrev Cl := Calls Tryz.prog
theorem bd (k:Nat) (h:cj Tryz.prog k = true:=by kernel_rfl):cj Tryz.prog k = true:=h

def ak (x:U8):Lb Vc:=[vU x.1,vU x.2.1,vU x.2.2.1,vU x.2.2.2.1,vU x.2.2.2.2.1,vU x.2.2.2.2.2.1,vU x.2.2.2.2.2.2.1,vU x.2.2.2.2.2.2.2]
def cY_l1 (_n:Nat) (t0:Nat × U8 -> Oa (U8)):Nat × U8 -> Oa (U8)
  | (b0,c0,d0,g0,j0,k0,p0,q0,s0)=>(if b0 < 8 then (([c0,d0,g0,j0,k0,p0,q0,s0]:Lb Ua)[b0]?).bind fun _z71=>t0 (b0 + 1,ay b0 0 (18446744073709551615:Ua) c0,ay b0 1 (18446744073709551615:Ua) d0,ay b0 2 (18446744073709551615:Ua) g0,ay b0 3 (18446744073709551615:Ua) j0,ay b0 4 (18446744073709551615:Ua) k0,ay b0 5 (18446744073709551615:Ua) p0,ay b0 6 (18446744073709551615:Ua) q0,ay b0 7 (18446744073709551615:Ua) s0) else some (c0,d0,g0,j0,k0,p0,q0,s0))
def cY_p (n:Nat) (a0:Int):Oa (U8):=
  (if a0 < 0 then Option.bind (ao (cY_l1 n) n (1,ae a0,0,0,0,0,0,0,0)) (fun (b0,c0,d0,g0,j0,k0,p0,q0)=>some (b0,c0,d0,g0,j0,k0,p0,q0)) else some (ae a0,0,0,0,0,0,0,0))
theorem cY_c (n:Nat) {L w} (_hL:hl L w) {a0:Int}  {r:U8} (h:cY_p n a0 = some r) :
 Cl 32 #[vI a0] w (aj w fun _ u=>u = .agg ((ak r)).toArray):=by
 unfold cY_p at h
 refine AM func32 I I I fun _ cs0 hb0=>Ae<|RG.nl zP (AL w) fun Y0 y0 E0 P0=>Aa<|Ae<|Ac I<|Ab (FV.convU (i:=a0) underlying3 underlying30 I)<|Ab (AS (vs:=[vW ((ae a0).toNat:Int)]) (u:=.agg #[vW ((ae a0).toNat:Int),vW 0,vW 0,vW 0,vW 0,vW 0,vW 0,vW 0]) (e1 I) (fun w9=>by kernel_rfl))<|RG.nl zP E0 fun Z0 u0 F0 Q0=>AQ [vW ((ae a0).toNat:Int),vW 0,vW 0,vW 0,vW 0,vW 0,vW 0,vW 0] F0 .hd (ai I) fun b1 v0 R0=>Aa<|Aj<|Ae<|Ac I<|Ab (FV.lss (i:=a0) (j:=0) I I)<|Aa<|AV I h (fun B0 h=>?_) (fun B0 h=>?_)
 refine Ae<|Ah I<|Aa<|Av ?_
 obtain ⟨X0,K0,J0⟩:=ap h
 refine MX.lo (α:=Nat × U8) (fun ⟨b0,c0,d0,g0,j0,k0,p0,q0,s0⟩=>[(2,vP y0),(3,vP u0),(4,vn b0)]) (fun ⟨b0,c0,d0,g0,j0,k0,p0,q0,s0⟩=>[.cells u0 [vU c0,vU d0,vU g0,vU j0,vU k0,vU p0,vU q0,vU s0] 32,.cells y0 zP 32]) (fun ⟨b0,c0,d0,g0,j0,k0,p0,q0,s0⟩=>(b0,c0,d0,g0,j0,k0,p0,q0,s0)) (1,ae a0,0,0,0,0,0,0,0) K0 v0 ?_
 rintro M0 ⟨b0,c0,d0,g0,j0,k0,p0,q0,s0⟩ j1 D0 t0 H0 h
 unfold cY_l1 at h
 try dsimp only at h
 refine Aj<|Ae<|Ac I<|Ab (AU (i:=b0) (j:=8) I I)<|Aa<|AV I h (fun C0 h=>?_) (fun C0 h=>?_)
 refine Aq<|Aj<|Av<|Am<|Ac I<|bk h fun k1 x0 h=>?_
 have W0:=bf (p:=⟨u0,0,none⟩) (cs:=([c0,d0,g0,j0,k0,p0,q0,s0]:Lb Ua).map (fun z9:Ua=>(vU z9:Vc)) ++ []) (i:=b0) (t0.memA .hd) (bY (fun z9:Ua=>(vU z9:Vc)) x0)
 refine Ab (AP (m:=1) (k:=b0) (len:=8) I I I I (ce x0 I))<|RG.now .plain (Acts.storeArr (fun z9:Ua=>(vU z9:Vc)) (xs:=([c0,d0,g0,j0,k0,p0,q0,s0]:Lb Ua)) (pre:=[]) (post:=[]) (i:=b0) (m:=8) (x:=(18446744073709551615:Ua)) (old:=[vU c0,vU d0,vU g0,vU j0,vU k0,vU p0,vU q0,vU s0]) (new' :=[vW ((ay b0 0 (18446744073709551615:Ua) c0).toNat:Int),vW ((ay b0 1 (18446744073709551615:Ua) d0).toNat:Int),vW ((ay b0 2 (18446744073709551615:Ua) g0).toNat:Int),vW ((ay b0 3 (18446744073709551615:Ua) j0).toNat:Int),vW ((ay b0 4 (18446744073709551615:Ua) k0).toNat:Int),vW ((ay b0 5 (18446744073709551615:Ua) p0).toNat:Int),vW ((ay b0 6 (18446744073709551615:Ua) q0).toNat:Int),vW ((ay b0 7 (18446744073709551615:Ua) s0).toNat:Int)]) I I (ce x0 I) t0 .hd I (kO _ _ _) I I (fun _=>⟨I,I⟩) I I) fun c1 G0 I0=>Aa<|Ax<|Am<|Ac I<|Ab (Bc (i:=b0) (j:=1) I I (by omega))<|Ah I<|Aa<|D0 (b0 + 1,ay b0 0 (18446744073709551615:Ua) c0,ay b0 1 (18446744073709551615:Ua) d0,ay b0 2 (18446744073709551615:Ua) g0,ay b0 3 (18446744073709551615:Ua) j0,ay b0 4 (18446744073709551615:Ua) k0,ay b0 5 (18446744073709551615:Ua) p0,ay b0 6 (18446744073709551615:Ua) q0,ay b0 7 (18446744073709551615:Ua) s0) G0 (Tt H0 I0) h
 refine AZ I ?_
 have h:=J0 _ h
 try dsimp only at h
 refine Ae<|Ab (Az I (t0.memA .hd))<|AQ [vU c0,vU d0,vU g0,vU j0,vU k0,vU p0,vU q0,vU s0] t0 .t1 (ai I) fun d1 z0 U0=>Aa<|Ar I<|Au hb0 func32 I (.cons (.many (cs:=[vU c0,vU d0,vU g0,vU j0,vU k0,vU p0,vU q0,vU s0]) I I (z0.memA .t1)) .nil) I ?_
 cases h
 exact z0.gv
 refine Aq<|Ae<|Ab (Az I (v0.memA .hd))<|AQ [vW ((ae a0).toNat:Int),vW 0,vW 0,vW 0,vW 0,vW 0,vW 0,vW 0] v0 .t1 (ai I) fun g1 A0 V0=>Aa<|Ar I<|Au hb0 func32 I (.cons (.many (cs:=[vW ((ae a0).toNat:Int),vW 0,vW 0,vW 0,vW 0,vW 0,vW 0,vW 0]) I I (A0.memA .t1)) .nil) I ?_
 cases h
 exact A0.gv
def bS_p (_n:Nat) (a0:U8) (a1:U8):Oa ((U8) × Ua):=
  (sub64 a0.1 a1.1 (0:Ua)).bind fun b0=>(sub64 a0.2.1 a1.2.1 b0.2).bind fun c0=>(sub64 a0.2.2.1 a1.2.2.1 c0.2).bind fun d0=>(sub64 a0.2.2.2.1 a1.2.2.2.1 d0.2).bind fun g0=>(sub64 a0.2.2.2.2.1 a1.2.2.2.2.1 g0.2).bind fun j0=>(sub64 a0.2.2.2.2.2.1 a1.2.2.2.2.2.1 j0.2).bind fun k0=>(sub64 a0.2.2.2.2.2.2.1 a1.2.2.2.2.2.2.1 k0.2).bind fun p0=>(sub64 a0.2.2.2.2.2.2.2 a1.2.2.2.2.2.2.2 p0.2).bind fun q0=>some ((b0.1,c0.1,d0.1,g0.1,j0.1,k0.1,p0.1,q0.1),q0.2)
theorem bS_c (n:Nat) {L w} (_hL:hl L w) (a0:U8) (a1:U8)  {r:(U8) × Ua} (h:bS_p n a0 a1 = some r) :
 Cl 189 #[.agg ((ak a0)).toArray,.agg ((ak a1)).toArray] w (aj w fun _ u=>u = .tuple #[.agg ((ak r.1)).toArray,vU r.2]):=by
 unfold bS_p at h
 refine AM func189 I I I fun _ cs0 hb0=>Ae<|RG.bx (AL w) I I fun J1 s1 Y0 x1=>RG.bx Y0 I I fun K1 u1 Z0 y1=>RG.nl zP Z0 fun M1 v1 J0 z1=>Ah I<|Aa<|Ae<|Ah I<|Aa<|Aj<|Ae<|Ac I<|Aa<|Av<|MX.loop1<|Ae<|Ab (AU (i:=0) (j:=8) I I)<|Aa<|Aj<|AG I<|Aq<|Aj<|Av<|Ae<|Ac I<|Ah I<|Aa<|du 13 fun c0 v0=>Rv 0 c0 I v0 (fun _=>Al I)<|Rv 1 c0 I v0 (fun _=>Al I)<|Rv 2 c0 I v0 (fun _=>AP (m:=1) (k:=0) (len:=8) I I I I (by omega))<|Rx 3 32512 c0 I v0 (Bp I ((J0.memA .t2) 0 _ I))<|Rv 4 c0 I v0 (fun _=>Al I)<|Rv 5 c0 I v0 (fun _=>AP (m:=1) (k:=0) (len:=8) I I I I (by omega))<|Rx 6 32512 c0 I v0 (Bp I ((J0.memA .t1) 0 _ I))<|Rv 7 c0 I v0 (fun _=>Al I)<|bk h fun b0 b1 h=>Rv 8 c0 I v0 (fun _=>FV.sub64 (a:=a0.1) (b:=a1.1) (c:=(0:Ua)) func193 I I I I I I I b1)<|Rv 9 c0 I v0 (fun _=>Al I)<|Rv 10 c0 I v0 (fun _=>Ai I I) ?_
 refine Rv 11 c0 I v0 (fun _=>Ai I I)<|Rv 12 c0 I v0 (fun _=>AP (m:=1) (k:=0) (len:=8) I I I I (by omega))<|BB 13 16383 c0 I I .plain (BU (j:=0) (old:=(ak a0)) (news:=[vU b0.1]) (new' :=[vU b0.1,vU a0.2.1,vU a0.2.2.1,vU a0.2.2.2.1,vU a0.2.2.2.2.1,vU a0.2.2.2.2.2.1,vU a0.2.2.2.2.2.2.1,vU a0.2.2.2.2.2.2.2]) J0 .t2 I I I I I I (o1 I) I) fun P1 K0 A1=>BK (i:=14) (rk c0) (BV (m' :=32767) (sk c0) I .plain I (Bj I) ?_)
 refine AK (dk c0)<|Ax<|Am<|Ab (BN (i:=0) (j:=1) (r:=1) I I (by decide))<|Ac I<|Aa<|Bq<|Ae<|Ab (AU (i:=1) (j:=8) I I)<|Aa<|Aj<|AG I<|Aq<|Aj<|Av<|Ae<|Ac I<|Ah I<|Aa<|du 13 fun d0 x0=>Rv 0 d0 I x0 (fun _=>Al I)<|Rv 1 d0 I x0 (fun _=>Al I)<|Rv 2 d0 I x0 (fun _=>AP (m:=1) (k:=1) (len:=8) I I I I (by omega))<|Rx 3 32512 d0 I x0 (Bp I ((K0.memA .t2) 1 _ I))<|Rv 4 d0 I x0 (fun _=>Al I)<|Rv 5 d0 I x0 (fun _=>AP (m:=1) (k:=1) (len:=8) I I I I (by omega))<|Rx 6 32512 d0 I x0 (Bp I ((K0.memA .t1) 1 _ I))<|Rv 7 d0 I x0 (fun _=>Al I)<|bk h fun t0 c1 h=>Rv 8 d0 I x0 (fun _=>FV.sub64 (a:=a0.2.1) (b:=a1.2.1) (c:=b0.2) func193 I I I I I I I c1)<|Rv 9 d0 I x0 (fun _=>Al I)<|Rv 10 d0 I x0 (fun _=>Ai I I)<|Rv 11 d0 I x0 (fun _=>Ai I I)<|Rv 12 d0 I x0 (fun _=>AP (m:=1) (k:=1) (len:=8) I I I I (by omega))<|BB 13 16383 d0 I I .plain (BU (j:=1) (old:=[vU b0.1,vU a0.2.1,vU a0.2.2.1,vU a0.2.2.2.1,vU a0.2.2.2.2.1,vU a0.2.2.2.2.2.1,vU a0.2.2.2.2.2.2.1,vU a0.2.2.2.2.2.2.2]) (news:=[vU t0.1]) (new' :=[vU b0.1,vU t0.1,vU a0.2.2.1,vU a0.2.2.2.1,vU a0.2.2.2.2.1,vU a0.2.2.2.2.2.1,vU a0.2.2.2.2.2.2.1,vU a0.2.2.2.2.2.2.2]) K0 .t2 I I I I I I (o1 I) I) fun Q1 M0 B1=>BK (i:=14) (rk d0) (BV (m' :=32767) (sk d0) I .plain I (Bj I) ?_)
 refine AK (dk d0)<|Ax<|Am<|Ab (BN (i:=1) (j:=1) (r:=2) I I (by decide))<|Ac I<|Aa<|Bq<|Ae<|Ab (AU (i:=2) (j:=8) I I)<|Aa<|Aj<|AG I<|Aq<|Aj<|Av<|Ae<|Ac I<|Ah I<|Aa<|du 13 fun g0 y0=>Rv 0 g0 I y0 (fun _=>Al I)<|Rv 1 g0 I y0 (fun _=>Al I)<|Rv 2 g0 I y0 (fun _=>AP (m:=1) (k:=2) (len:=8) I I I I (by omega))<|Rx 3 32512 g0 I y0 (Bp I ((M0.memA .t2) 2 _ I))<|Rv 4 g0 I y0 (fun _=>Al I)<|Rv 5 g0 I y0 (fun _=>AP (m:=1) (k:=2) (len:=8) I I I I (by omega))<|Rx 6 32512 g0 I y0 (Bp I ((M0.memA .t1) 2 _ I))<|Rv 7 g0 I y0 (fun _=>Al I)<|bk h fun u0 d1 h=>Rv 8 g0 I y0 (fun _=>FV.sub64 (a:=a0.2.2.1) (b:=a1.2.2.1) (c:=t0.2) func193 I I I I I I I d1)<|Rv 9 g0 I y0 (fun _=>Al I)<|Rv 10 g0 I y0 (fun _=>Ai I I)<|Rv 11 g0 I y0 (fun _=>Ai I I)<|Rv 12 g0 I y0 (fun _=>AP (m:=1) (k:=2) (len:=8) I I I I (by omega))<|BB 13 16383 g0 I I .plain (BU (j:=2) (old:=[vU b0.1,vU t0.1,vU a0.2.2.1,vU a0.2.2.2.1,vU a0.2.2.2.2.1,vU a0.2.2.2.2.2.1,vU a0.2.2.2.2.2.2.1,vU a0.2.2.2.2.2.2.2]) (news:=[vU u0.1]) (new' :=[vU b0.1,vU t0.1,vU u0.1,vU a0.2.2.2.1,vU a0.2.2.2.2.1,vU a0.2.2.2.2.2.1,vU a0.2.2.2.2.2.2.1,vU a0.2.2.2.2.2.2.2]) M0 .t2 I I I I I I (o1 I) I) fun R1 P0 C1=>BK (i:=14) (rk g0) (BV (m' :=32767) (sk g0) I .plain I (Bj I) ?_)
 refine AK (dk g0)<|Ax<|Am<|Ab (BN (i:=2) (j:=1) (r:=3) I I (by decide))<|Ac I<|Aa<|Bq<|Ae<|Ab (AU (i:=3) (j:=8) I I)<|Aa<|Aj<|AG I<|Aq<|Aj<|Av<|Ae<|Ac I<|Ah I<|Aa<|du 13 fun j0 z0=>Rv 0 j0 I z0 (fun _=>Al I)<|Rv 1 j0 I z0 (fun _=>Al I)<|Rv 2 j0 I z0 (fun _=>AP (m:=1) (k:=3) (len:=8) I I I I (by omega))<|Rx 3 32512 j0 I z0 (Bp I ((P0.memA .t2) 3 _ I))<|Rv 4 j0 I z0 (fun _=>Al I)<|Rv 5 j0 I z0 (fun _=>AP (m:=1) (k:=3) (len:=8) I I I I (by omega))<|Rx 6 32512 j0 I z0 (Bp I ((P0.memA .t1) 3 _ I))<|Rv 7 j0 I z0 (fun _=>Al I)<|bk h fun E0 g1 h=>Rv 8 j0 I z0 (fun _=>FV.sub64 (a:=a0.2.2.2.1) (b:=a1.2.2.2.1) (c:=u0.2) func193 I I I I I I I g1)<|Rv 9 j0 I z0 (fun _=>Al I)<|Rv 10 j0 I z0 (fun _=>Ai I I)<|Rv 11 j0 I z0 (fun _=>Ai I I)<|Rv 12 j0 I z0 (fun _=>AP (m:=1) (k:=3) (len:=8) I I I I (by omega))<|BB 13 16383 j0 I I .plain (BU (j:=3) (old:=[vU b0.1,vU t0.1,vU u0.1,vU a0.2.2.2.1,vU a0.2.2.2.2.1,vU a0.2.2.2.2.2.1,vU a0.2.2.2.2.2.2.1,vU a0.2.2.2.2.2.2.2]) (news:=[vU E0.1]) (new' :=[vU b0.1,vU t0.1,vU u0.1,vU E0.1,vU a0.2.2.2.2.1,vU a0.2.2.2.2.2.1,vU a0.2.2.2.2.2.2.1,vU a0.2.2.2.2.2.2.2]) P0 .t2 I I I I I I (o1 I) I) fun U1 Q0 D1=>BK (i:=14) (rk j0) (BV (m' :=32767) (sk j0) I .plain I (Bj I) ?_)
 refine AK (dk j0)<|Ax<|Am<|Ab (BN (i:=3) (j:=1) (r:=4) I I (by decide))<|Ac I<|Aa<|Bq<|Ae<|Ab (AU (i:=4) (j:=8) I I)<|Aa<|Aj<|AG I<|Aq<|Aj<|Av<|Ae<|Ac I<|Ah I<|Aa<|du 13 fun k0 A0=>Rv 0 k0 I A0 (fun _=>Al I)<|Rv 1 k0 I A0 (fun _=>Al I)<|Rv 2 k0 I A0 (fun _=>AP (m:=1) (k:=4) (len:=8) I I I I (by omega))<|Rx 3 32512 k0 I A0 (Bp I ((Q0.memA .t2) 4 _ I))<|Rv 4 k0 I A0 (fun _=>Al I)<|Rv 5 k0 I A0 (fun _=>AP (m:=1) (k:=4) (len:=8) I I I I (by omega))<|Rx 6 32512 k0 I A0 (Bp I ((Q0.memA .t1) 4 _ I))<|Rv 7 k0 I A0 (fun _=>Al I)<|bk h fun F0 j1 h=>Rv 8 k0 I A0 (fun _=>FV.sub64 (a:=a0.2.2.2.2.1) (b:=a1.2.2.2.2.1) (c:=E0.2) func193 I I I I I I I j1)<|Rv 9 k0 I A0 (fun _=>Al I)<|Rv 10 k0 I A0 (fun _=>Ai I I)<|Rv 11 k0 I A0 (fun _=>Ai I I)<|Rv 12 k0 I A0 (fun _=>AP (m:=1) (k:=4) (len:=8) I I I I (by omega))<|BB 13 16383 k0 I I .plain (BU (j:=4) (old:=[vU b0.1,vU t0.1,vU u0.1,vU E0.1,vU a0.2.2.2.2.1,vU a0.2.2.2.2.2.1,vU a0.2.2.2.2.2.2.1,vU a0.2.2.2.2.2.2.2]) (news:=[vU F0.1]) (new' :=[vU b0.1,vU t0.1,vU u0.1,vU E0.1,vU F0.1,vU a0.2.2.2.2.2.1,vU a0.2.2.2.2.2.2.1,vU a0.2.2.2.2.2.2.2]) Q0 .t2 I I I I I I (o1 I) I) fun V1 R0 E1=>BK (i:=14) (rk k0) (BV (m' :=32767) (sk k0) I .plain I (Bj I) ?_)
 refine AK (dk k0)<|Ax<|Am<|Ab (BN (i:=4) (j:=1) (r:=5) I I (by decide))<|Ac I<|Aa<|Bq<|Ae<|Ab (AU (i:=5) (j:=8) I I)<|Aa<|Aj<|AG I<|Aq<|Aj<|Av<|Ae<|Ac I<|Ah I<|Aa<|du 13 fun p0 B0=>Rv 0 p0 I B0 (fun _=>Al I)<|Rv 1 p0 I B0 (fun _=>Al I)<|Rv 2 p0 I B0 (fun _=>AP (m:=1) (k:=5) (len:=8) I I I I (by omega))<|Rx 3 32512 p0 I B0 (Bp I ((R0.memA .t2) 5 _ I))<|Rv 4 p0 I B0 (fun _=>Al I)<|Rv 5 p0 I B0 (fun _=>AP (m:=1) (k:=5) (len:=8) I I I I (by omega))<|Rx 6 32512 p0 I B0 (Bp I ((R0.memA .t1) 5 _ I))<|Rv 7 p0 I B0 (fun _=>Al I)<|bk h fun G0 k1 h=>Rv 8 p0 I B0 (fun _=>FV.sub64 (a:=a0.2.2.2.2.2.1) (b:=a1.2.2.2.2.2.1) (c:=F0.2) func193 I I I I I I I k1)<|Rv 9 p0 I B0 (fun _=>Al I)<|Rv 10 p0 I B0 (fun _=>Ai I I)<|Rv 11 p0 I B0 (fun _=>Ai I I)<|Rv 12 p0 I B0 (fun _=>AP (m:=1) (k:=5) (len:=8) I I I I (by omega))<|BB 13 16383 p0 I I .plain (BU (j:=5) (old:=[vU b0.1,vU t0.1,vU u0.1,vU E0.1,vU F0.1,vU a0.2.2.2.2.2.1,vU a0.2.2.2.2.2.2.1,vU a0.2.2.2.2.2.2.2]) (news:=[vU G0.1]) (new' :=[vU b0.1,vU t0.1,vU u0.1,vU E0.1,vU F0.1,vU G0.1,vU a0.2.2.2.2.2.2.1,vU a0.2.2.2.2.2.2.2]) R0 .t2 I I I I I I (o1 I) I) fun W1 U0 F1=>BK (i:=14) (rk p0) (BV (m' :=32767) (sk p0) I .plain I (Bj I) ?_)
 refine AK (dk p0)<|Ax<|Am<|Ab (BN (i:=5) (j:=1) (r:=6) I I (by decide))<|Ac I<|Aa<|Bq<|Ae<|Ab (AU (i:=6) (j:=8) I I)<|Aa<|Aj<|AG I<|Aq<|Aj<|Av<|Ae<|Ac I<|Ah I<|Aa<|du 13 fun q0 C0=>Rv 0 q0 I C0 (fun _=>Al I)<|Rv 1 q0 I C0 (fun _=>Al I)<|Rv 2 q0 I C0 (fun _=>AP (m:=1) (k:=6) (len:=8) I I I I (by omega))<|Rx 3 32512 q0 I C0 (Bp I ((U0.memA .t2) 6 _ I))<|Rv 4 q0 I C0 (fun _=>Al I)<|Rv 5 q0 I C0 (fun _=>AP (m:=1) (k:=6) (len:=8) I I I I (by omega))<|Rx 6 32512 q0 I C0 (Bp I ((U0.memA .t1) 6 _ I))<|Rv 7 q0 I C0 (fun _=>Al I)<|bk h fun H0 p1 h=>Rv 8 q0 I C0 (fun _=>FV.sub64 (a:=a0.2.2.2.2.2.2.1) (b:=a1.2.2.2.2.2.2.1) (c:=G0.2) func193 I I I I I I I p1)<|Rv 9 q0 I C0 (fun _=>Al I)<|Rv 10 q0 I C0 (fun _=>Ai I I)<|Rv 11 q0 I C0 (fun _=>Ai I I)<|Rv 12 q0 I C0 (fun _=>AP (m:=1) (k:=6) (len:=8) I I I I (by omega))<|BB 13 16383 q0 I I .plain (BU (j:=6) (old:=[vU b0.1,vU t0.1,vU u0.1,vU E0.1,vU F0.1,vU G0.1,vU a0.2.2.2.2.2.2.1,vU a0.2.2.2.2.2.2.2]) (news:=[vU H0.1]) (new' :=[vU b0.1,vU t0.1,vU u0.1,vU E0.1,vU F0.1,vU G0.1,vU H0.1,vU a0.2.2.2.2.2.2.2]) U0 .t2 I I I I I I (o1 I) I) fun X1 V0 G1=>BK (i:=14) (rk q0) (BV (m' :=32767) (sk q0) I .plain I (Bj I) ?_)
 refine AK (dk q0)<|Ax<|Am<|Ab (BN (i:=6) (j:=1) (r:=7) I I (by decide))<|Ac I<|Aa<|Bq<|Ae<|Ab (AU (i:=7) (j:=8) I I)<|Aa<|Aj<|AG I<|Aq<|Aj<|Av<|Ae<|Ac I<|Ah I<|Aa<|du 13 fun s0 D0=>Rv 0 s0 I D0 (fun _=>Al I)<|Rv 1 s0 I D0 (fun _=>Al I)<|Rv 2 s0 I D0 (fun _=>AP (m:=1) (k:=7) (len:=8) I I I I (by omega))<|Rx 3 32512 s0 I D0 (Bp I ((V0.memA .t2) 7 _ I))<|Rv 4 s0 I D0 (fun _=>Al I)<|Rv 5 s0 I D0 (fun _=>AP (m:=1) (k:=7) (len:=8) I I I I (by omega))<|Rx 6 32512 s0 I D0 (Bp I ((V0.memA .t1) 7 _ I))<|Rv 7 s0 I D0 (fun _=>Al I)<|bk h fun I0 q1 h=>Rv 8 s0 I D0 (fun _=>FV.sub64 (a:=a0.2.2.2.2.2.2.2) (b:=a1.2.2.2.2.2.2.2) (c:=H0.2) func193 I I I I I I I q1)<|Rv 9 s0 I D0 (fun _=>Al I)<|Rv 10 s0 I D0 (fun _=>Ai I I)<|Rv 11 s0 I D0 (fun _=>Ai I I)<|Rv 12 s0 I D0 (fun _=>AP (m:=1) (k:=7) (len:=8) I I I I (by omega))<|BB 13 16383 s0 I I .plain (BU (j:=7) (old:=[vU b0.1,vU t0.1,vU u0.1,vU E0.1,vU F0.1,vU G0.1,vU H0.1,vU a0.2.2.2.2.2.2.2]) (news:=[vU I0.1]) (new' :=[vU b0.1,vU t0.1,vU u0.1,vU E0.1,vU F0.1,vU G0.1,vU H0.1,vU I0.1]) V0 .t2 I I I I I I (o1 I) I) fun Y1 W0 H1=>BK (i:=14) (rk s0) (BV (m' :=32767) (sk s0) I .plain I (Bj I) ?_)
 refine AK (dk s0)<|Ax<|Am<|Ab (BN (i:=7) (j:=1) (r:=8) I I (by decide))<|Ac I<|Aa<|Bq<|Ae<|Ab (AU (i:=8) (j:=8) I I)<|Aa<|Aj<|Bz I<|AZ I<|Ae<|Ab (Az I (W0.memA .t2))<|Ac I<|AQ [vU b0.1,vU t0.1,vU u0.1,vU E0.1,vU F0.1,vU G0.1,vU H0.1,vU I0.1] W0 .hd (ai I) fun Z1 X0 I1=>Ah I<|Aa<|Ar I<|Au hb0 func189 I (.cons (.many (cs:=[vU b0.1,vU t0.1,vU u0.1,vU E0.1,vU F0.1,vU G0.1,vU H0.1,vU I0.1]) I I (X0.memA .hd)) (.cons (.tmp I) .nil)) I ?_
 cases h
 exact X0.gv
def bK_l1 (_n:Nat) (a0:U8) (a1:U8) (g0:Int -> Oa (Int ⊕ Unit)):Int -> Oa (Int ⊕ Unit)
  | b0=>(if 0 <= b0 then (idx ([a0.1,a0.2.1,a0.2.2.1,a0.2.2.2.1,a0.2.2.2.2.1,a0.2.2.2.2.2.1,a0.2.2.2.2.2.2.1,a0.2.2.2.2.2.2.2]:Lb Ua) b0).bind fun c0=>(idx ([a1.1,a1.2.1,a1.2.2.1,a1.2.2.2.1,a1.2.2.2.2.1,a1.2.2.2.2.2.1,a1.2.2.2.2.2.2.1,a1.2.2.2.2.2.2.2]:Lb Ua) b0).bind fun d0=>(if c0 = d0 then (chk (b0 - 1)).bind fun j0=>g0 j0 else (if c0 < d0 then some (.inl (-1:Int)) else some (.inl (1:Int)))) else some (.inr ()))
def bK_p (n:Nat) (a0:U8) (a1:U8):Oa Int:=
  thn (ao (bK_l1 n a0 a1) n 7) (fun _=>some (0:Int))
theorem bK_c (n:Nat) {L w} (_hL:hl L w) (a0:U8) (a1:U8)  {r:Int} (h:bK_p n a0 a1 = some r) :
 Cl 192 #[.agg ((ak a0)).toArray,.agg ((ak a1)).toArray] w (aj w fun _ u=>u = vI r):=by
 unfold bK_p at h
 refine AM func192 I I I fun _ cs0 hb0=>Ae<|RG.bx (AL w) I I fun V0 p0 E0 Q0=>RG.bx E0 I I fun W0 q0 F0 R0=>Ah I<|Aa<|Aj<|Ae<|Ah I<|Aa<|Av<|tn h fun U0 H0 u0=>MX.lo (α:=Int) (fun b0=>[(2,vP p0),(3,vP q0),(5,vI b0)]) (fun b0=>[.cells q0 (ak a1) 205,.cells p0 (ak a0) 205]) (fun b0=>b0) 7 H0 F0 ?_
 rintro P0 b0 X0 D0 c0 G0 h
 unfold bK_l1 at h
 try dsimp only at h
 refine Aj<|Ae<|Ac I<|Ab (FV.geq (i:=b0) (j:=0) I I)<|Aa<|AV I h (fun A0 h=>?_) (fun A0 h=>?_)
 refine Aq<|Aj<|Av<|Aj<|du 7 fun d0 j0=>Rv 0 d0 I j0 (fun _=>Al I)<|bk h fun y0 J0 h=>?_
 obtain ⟨v0,s0⟩:=aR J0
 refine Rv 1 d0 I j0 (fun _=>AP (m:=1) (k:=b0.toNat) (len:=8) I I I v0 (ce s0 I))<|Rx 2 64 d0 I j0 (Bp I ((bf (p:=⟨p0,0,none⟩) (cs:=([a0.1,a0.2.1,a0.2.2.1,a0.2.2.2.1,a0.2.2.2.2.1,a0.2.2.2.2.2.1,a0.2.2.2.2.2.2.1,a0.2.2.2.2.2.2.2]:Lb Ua).map (fun z9:Ua=>(vU z9:Vc)) ++ []) (i:=b0.toNat) (c0.memA .t1) (bY (fun z9:Ua=>(vU z9:Vc)) s0)) 0 _ I))<|Rv 3 d0 I j0 (fun _=>Al I)<|bk h fun z0 K0 h=>?_
 obtain ⟨x0,t0⟩:=aR K0
 refine Rv 4 d0 I j0 (fun _=>AP (m:=1) (k:=b0.toNat) (len:=8) I I I x0 (ce t0 I))<|Rx 5 64 d0 I j0 (Bp I ((bf (p:=⟨q0,0,none⟩) (cs:=([a1.1,a1.2.1,a1.2.2.1,a1.2.2.2.1,a1.2.2.2.2.1,a1.2.2.2.2.2.1,a1.2.2.2.2.2.2.1,a1.2.2.2.2.2.2.2]:Lb Ua).map (fun z9:Ua=>(vU z9:Vc)) ++ []) (i:=b0.toNat) (c0.memA .hd) (bY (fun z9:Ua=>(vU z9:Vc)) t0)) 0 _ I))<|Rv 6 d0 I j0 (fun _=>FV.neqU (a:=y0) (b:=z0) I I)<|AK (dk d0)<|BI I h (fun B0 h=>?_) (fun B0 h=>?_)
 refine Aq<|Ax<|Am<|Ac I<|bk h fun M0 I0 h=>Ab (FV.subc (i:=b0) (j:=1) I I I0)<|Ah I<|Aa<|D0 M0 c0 G0 h
 refine Aj<|Aj<|du 7 fun g0 k0=>Rv 0 g0 I k0 (fun _=>Al I)<|Rv 1 g0 I k0 (fun _=>AP (m:=1) (k:=b0.toNat) (len:=8) I I I v0 (ce s0 I))<|Rx 2 64 g0 I k0 (Bp I ((bf (p:=⟨p0,0,none⟩) (cs:=([a0.1,a0.2.1,a0.2.2.1,a0.2.2.2.1,a0.2.2.2.2.1,a0.2.2.2.2.2.1,a0.2.2.2.2.2.2.1,a0.2.2.2.2.2.2.2]:Lb Ua).map (fun z9:Ua=>(vU z9:Vc)) ++ []) (i:=b0.toNat) (c0.memA .t1) (bY (fun z9:Ua=>(vU z9:Vc)) s0)) 0 _ I))<|Rv 3 g0 I k0 (fun _=>Al I)<|Rv 4 g0 I k0 (fun _=>AP (m:=1) (k:=b0.toNat) (len:=8) I I I x0 (ce t0 I))<|Rx 5 64 g0 I k0 (Bp I ((bf (p:=⟨q0,0,none⟩) (cs:=([a1.1,a1.2.1,a1.2.2.1,a1.2.2.2.1,a1.2.2.2.2.1,a1.2.2.2.2.2.1,a1.2.2.2.2.2.2.1,a1.2.2.2.2.2.2.2]:Lb Ua).map (fun z9:Ua=>(vU z9:Vc)) ++ []) (i:=b0.toNat) (c0.memA .hd) (bY (fun z9:Ua=>(vU z9:Vc)) t0)) 0 _ I))<|Rv 6 g0 I k0 (fun _=>FV.lssU (a:=y0) (b:=z0) I I)<|AK (dk g0)<|AV I h (fun C0 h=>?_) (fun C0 h=>?_)
 refine Ae<|Ah I<|Aa ?_
 have h:=aH h u0
 refine Ar I<|Bb hb0 func192 I I ?_
 cases h
 exact c0.gv
 refine Aq<|Ae<|Ah I<|Aa ?_
 have h:=aH h u0
 refine Ar I<|Bb hb0 func192 I I ?_
 cases h
 exact c0.gv
 refine AZ I ?_
 have h:=bc h u0
 try dsimp only at h
 refine Ae<|Ah I<|Aa<|Ar I<|Bb hb0 func192 I I ?_
 cases h
 exact c0.gv
structure Tj where
  fc:Bool
  fl:U8
  deriving DecidableEq
instance:Rep Tj:=Rep.via (β:=Bool × (U8)) fun x=>(x.fc,x.fl)
def jT (x:Tj):Lb Vc:=[.bool x.fc,vU x.fl.1,vU x.fl.2.1,vU x.fl.2.2.1,vU x.fl.2.2.2.1,vU x.fl.2.2.2.2.1,vU x.fl.2.2.2.2.2.1,vU x.fl.2.2.2.2.2.2.1,vU x.fl.2.2.2.2.2.2.2]
def cG_p (n:Nat) (a0:Tj):Oa ((U8) × Int):=
  (bK_p n a0.fl (0,0,0,0,0,0,0,9223372036854775808)).bind fun b0=>(if 0 < b0 then some ((0,0,0,0,0,0,0,0),(6:Int)) else (if b0 = 0 then (if a0.fc = true then (bS_p n (0,0,0,0,0,0,0,0) a0.fl).bind fun c0=>some (c0.1,(0:Int)) else some ((0,0,0,0,0,0,0,0),(6:Int))) else (if a0.fc = true then (bS_p n (0,0,0,0,0,0,0,0) a0.fl).bind fun d0=>some (d0.1,(0:Int)) else some (a0.fl,(0:Int)))))
theorem cG_c (n:Nat) {L w} (hL:hl L w) (a0:Tj)  {r:(U8) × Int} (h:cG_p n a0 = some r) :
 Cl 168 #[.agg ((jT a0)).toArray] w (aj w fun _ u=>u = .tuple #[.agg ((ak r.1)).toArray,vI r.2]):=by
 unfold cG_p at h
 refine AM func168 I I I fun _ cs0 hb0=>Ae<|RG.bx (AL w) I I fun Z0 G0 A0 J0=>RG.nl zP A0 fun b1 H0 B0 K0=>Ah I<|Aa<|Ae<|Ab (AS (vs:=[vW 9223372036854775808]) (u:=.agg #[vW 0,vW 0,vW 0,vW 0,vW 0,vW 0,vW 0,vW 9223372036854775808]) (e1 I) (fun w9=>by kernel_rfl))<|RG.nl zP B0 fun c1 I0 C0 M0=>RG.now .plain (AC (news:=[vW 0,vW 0,vW 0,vW 0,vW 0,vW 0,vW 0,vW 9223372036854775808]) C0 .hd I I I I I (.refl 8) (ai I)) fun d1 b0 P0=>Aa<|Aj<|Ae<|Bm 1 I<|Ab (AN (cs:=(ak a0.fl)) I I (ac (b0.memA .t2) 1 8))<|Ab (Az I (b0.memA .hd))<|bk h fun g0 D0 h=>Bd (vI g0) (bd 192) I (e2 I I) (fun w9 hw9=>bK_c n (b0.hL0 hL hw9) a0.fl (0,0,0,0,0,0,0,9223372036854775808) D0) I<|Ah I<|Aa<|Ae<|Ac I<|Ab (FV.gtr (i:=g0) (j:=0) I I)<|Ac I<|RG.ifd (s:=13) I h (fun x0 h=>?_) (fun x0 h=>?_)
 refine Ap<|Ap<|Ap<|RG.un<|RG.un<|RG.un<|Ap<|Bk I I<|Aa<|AG I<|Ae<|Ab (AS (vs:=[]) (u:=.agg zQ) am (fun w9=>by kernel_rfl))<|AQ zP b0 .t1 (ai I) fun g1 k0 Q0=>Ah I<|Aa<|Ar I<|Au hb0 func168 I (.cons (.many (cs:=zP) I I (k0.memA .t1)) (.cons (.tmp I) .nil)) I ?_
 cases h
 exact k0.gv
 refine AJ (Al I)<|AJ (FV.eql (i:=g0) (j:=0) I I)<|AJ (Al I)<|RG.ifd (s:=16) I h (fun y0 h=>?_) (fun y0 h=>?_)
 refine RG.fg 0 I<|AJ (Bp I ((b0.memA .t2) 0 _ I))<|AJ (Bx I)<|AJ (BT I I)<|Bs I I<|Aa<|MX.ifnb I h (fun j0 h=>?_) (fun j0 h=>?_)
 refine Aq<|Aj<|Ae<|Bm 0 I<|Bf I ((b0.memA .t2) 0 _ I)<|Aa<|MX.cond_kt I j0<|Am<|Ab (AS (vs:=[]) (u:=.agg zQ) am (fun w9=>by kernel_rfl))<|Bm 1 I<|Ab (AN (cs:=(ak a0.fl)) I I (ac (b0.memA .t2) 1 8))<|bk h fun c0 E0 h=>Bd (.tuple #[.agg ((ak c0.1)).toArray,vU c0.2]) (bd 189) I (e2 I I) (fun w9 hw9=>bS_c n (b0.hL0 hL hw9) (0,0,0,0,0,0,0,0) a0.fl E0) I<|Ac I<|Ab (Ai I I)<|Ab (Ai I I)<|Bm 1 I<|RG.now .plain (BU (j:=1) (old:=(jT a0)) (news:=(ak c0.1)) (new' :=(([.bool a0.fc]:Lb Vc) ++ ak c0.1)) b0 .t2 I I I I I I (ai I) I) fun j1 p0 R0=>Aa<|Ae<|Bm 1 I<|Ab (AN (cs:=(ak c0.1)) I I (ac (p0.memA .t2) 1 8))<|AQ (ak c0.1) p0 .t1 (ai I) fun k1 q0 U0=>Ah I<|Aa<|Ar I<|Au hb0 func168 I (.cons (.many (cs:=(ak c0.1)) I I (q0.memA .t1)) (.cons (.tmp I) .nil)) I ?_
 cases h
 exact q0.gv
 refine Ae<|Ab (AS (vs:=[]) (u:=.agg zQ) am (fun w9=>by kernel_rfl))<|AQ zP b0 .t1 (ai I) fun p1 s0 V0=>Ah I<|Aa<|Ar I<|Au hb0 func168 I (.cons (.many (cs:=zP) I I (s0.memA .t1)) (.cons (.tmp I) .nil)) I ?_
 cases h
 exact s0.gv
 refine Ap<|Ap<|Ap<|AJ (Br I I)<|Bs I I<|Aa<|Bz I<|Aq<|Aj<|Ae<|Bm 0 I<|Bf I ((b0.memA .t2) 0 _ I)<|Aa<|MX.ifb I h (fun z0 h=>?_) (fun z0 h=>?_)
 refine Am<|Ab (AS (vs:=[]) (u:=.agg zQ) am (fun w9=>by kernel_rfl))<|Bm 1 I<|Ab (AN (cs:=(ak a0.fl)) I I (ac (b0.memA .t2) 1 8))<|bk h fun d0 F0 h=>Bd (.tuple #[.agg ((ak d0.1)).toArray,vU d0.2]) (bd 189) I (e2 I I) (fun w9 hw9=>bS_c n (b0.hL0 hL hw9) (0,0,0,0,0,0,0,0) a0.fl F0) I<|Ac I<|Ab (Ai I I)<|Ab (Ai I I)<|Bm 1 I<|RG.now .plain (BU (j:=1) (old:=(jT a0)) (news:=(ak d0.1)) (new' :=(([.bool a0.fc]:Lb Vc) ++ ak d0.1)) b0 .t2 I I I I I I (ai I) I) fun q1 t0 W0=>Aa<|Ae<|Bm 1 I<|Ab (AN (cs:=(ak d0.1)) I I (ac (t0.memA .t2) 1 8))<|AQ (ak d0.1) t0 .t1 (ai I) fun s1 u0 X0=>Ah I<|Aa<|Ar I<|Au hb0 func168 I (.cons (.many (cs:=(ak d0.1)) I I (u0.memA .t1)) (.cons (.tmp I) .nil)) I ?_
 cases h
 exact u0.gv
 refine Aq<|Ae<|Bm 1 I<|Ab (AN (cs:=(ak a0.fl)) I I (ac (b0.memA .t2) 1 8))<|AQ (ak a0.fl) b0 .t1 (ai I) fun u1 v0 Y0=>Ah I<|Aa<|Ar I<|Au hb0 func168 I (.cons (.many (cs:=(ak a0.fl)) I I (v0.memA .t1)) (.cons (.tmp I) .nil)) I ?_
 cases h
 exact v0.gv
structure Tg where
  fc:Bool
  fk:Lb Ua
  deriving DecidableEq
instance:Rep Tg:=Rep.via (β:=Bool × (List UInt64)) fun x=>(x.fc,x.fk)
def cu_p (n:Nat) (a0:Tg):Oa ((U8) × Int):=
  (if 8 < a0.fk.length then some ((0,0,0,0,0,0,0,0),(6:Int)) else (cG_p n (⟨a0.fc,(aQ a0.fk 0 (0:Ua),aQ a0.fk 1 (0:Ua),aQ a0.fk 2 (0:Ua),aQ a0.fk 3 (0:Ua),aQ a0.fk 4 (0:Ua),aQ a0.fk 5 (0:Ua),aQ a0.fk 6 (0:Ua),aQ a0.fk 7 (0:Ua))⟩:Tj)).bind fun b0=>some (b0.1,b0.2))
theorem cu_c (n:Nat) {L w} (hL:hl L w) (a0:Tg) {v0_1:Vc} (h0_1:Rep.R w L [v0_1] a0.fk)  {r:(U8) × Int} (h:cu_p n a0 = some r) :
 Cl 139 #[.agg #[.bool a0.fc,v0_1]] w (aj w fun _ u=>u = .tuple #[.agg ((ak r.1)).toArray,vI r.2]):=by
 unfold cu_p at h
 refine AM func139 I I I fun _ cs0 hb0=>Ae<|RG.bx (AL w) I I fun M0 A0 v0 C0=>RG.nl zP v0 fun P0 B0 c0 D0=>Ah I<|Aa<|Aj<|Ae<|Bm 1 I<|Bf I ((c0.memA .t1) 1 _ I) ?_
 have s0:=AH h0_1 c0
 have J0:=AY s0
 refine Ab (Ba (xs:=a0.fk) underlying105 I s0)<|Ab (FV.gtrN (i:=a0.fk.length) (j:=8) I I)<|Aa<|AV I h (fun u0 h=>?_) (fun u0 h=>?_)
 refine Ae<|Ab (AS (vs:=[]) (u:=.agg zQ) am (fun w9=>by kernel_rfl))<|AQ zP c0 .hd (ai I) fun Q0 p0 E0=>Ah I<|Aa<|Ar I<|Au hb0 func139 I (.cons (.many (cs:=zP) I I (p0.memA .hd)) (.cons (.tmp I) .nil)) I ?_
 cases h
 exact p0.gv
 refine Aq<|Ae<|Bm 0 I<|Bf I ((c0.memA .t1) 0 _ I)<|Ab (AS (vs:=[.bool a0.fc]) (u:=.agg #[.bool a0.fc,vW 0,vW 0,vW 0,vW 0,vW 0,vW 0,vW 0,vW 0]) (e1 I) (fun w9=>by kernel_rfl))<|RG.nl [.bool false,vW 0,vW 0,vW 0,vW 0,vW 0,vW 0,vW 0,vW 0] c0 fun R0 t0 x0 F0=>AQ [.bool a0.fc,vW 0,vW 0,vW 0,vW 0,vW 0,vW 0,vW 0,vW 0] x0 .hd (ai I) fun U0 j0 G0=>Aa<|Aj<|du 4 fun b0 d0=>Rv 0 b0 I d0 (fun _=>Bg 1 I)<|Rx 1 16 b0 I d0 (FV.sliceA (len:=8) (m:=1) (p:=Addr.add ⟨t0,0,none⟩ 1) I I)<|Rv 2 b0 I d0 (fun _=>Bg 1 I)<|Rx 3 16 b0 I d0 (Bp I ((j0.memA .t2) 1 _ I))<|BK (i:=4) (rk b0) (RO.doesL (m' :=31) (sk b0) I I .plain I (DoesL.copyArr (fun z9:Ua=>(vU z9:Vc)) (olds:=([(0:Ua),0,0,0,0,0,0,(0:Ua)]:Lb Ua)) (ys:=a0.fk) (pre:=[.bool a0.fc]) (post:=[]) (old:=[.bool a0.fc,vW 0,vW 0,vW 0,vW 0,vW 0,vW 0,vW 0,vW 0]) (new' :=[.bool a0.fc,vW ((aQ a0.fk 0 (0:Ua)).toNat:Int),vW ((aQ a0.fk 1 (0:Ua)).toNat:Int),vW ((aQ a0.fk 2 (0:Ua)).toNat:Int),vW ((aQ a0.fk 3 (0:Ua)).toNat:Int),vW ((aQ a0.fk 4 (0:Ua)).toNat:Int),vW ((aQ a0.fk 5 (0:Ua)).toNat:Int),vW ((aQ a0.fk 6 (0:Ua)).toNat:Int),vW ((aQ a0.fk 7 (0:Ua)).toNat:Int)]) I (fun _ _ _ _ h9=>h9) j0 .hd I I I I I I I I (Src.rep (AH h0_1 j0))) (fun K0 V0 ⟨y0,k0,H0⟩=>?_))
 subst y0
 refine AK (dk b0)<|Ae<|Ab (Az I (k0.memA .hd))<|bk h fun g0 z0 h=>Bd (.tuple #[.agg ((ak g0.1)).toArray,vI g0.2]) (bd 168) I (e1 I) (fun w9 hw9=>cG_c n (k0.hL0 hL hw9) (⟨a0.fc,(aQ a0.fk 0 (0:Ua),aQ a0.fk 1 (0:Ua),aQ a0.fk 2 (0:Ua),aQ a0.fk 3 (0:Ua),aQ a0.fk 4 (0:Ua),aQ a0.fk 5 (0:Ua),aQ a0.fk 6 (0:Ua),aQ a0.fk 7 (0:Ua))⟩:Tj) z0) I<|Ab (Ai I I)<|Ab (Ai I I)<|AQ (ak g0.1) k0 .t1 (ai I) fun W0 q0 I0=>Ah I<|Aa<|Ar I<|Au hb0 func139 I (.cons (.many (cs:=(ak g0.1)) I I (q0.memA .t1)) (.cons (.tmp I) .nil)) I ?_
 cases h
 exact q0.gv
structure Td where
  fj:Tg
  fh:Tg
  deriving DecidableEq
instance:Rep Td:=Rep.via (β:=Tg × Tg) fun x=>(x.fj,x.fh)
structure Tb where
  fN:U8
  fD:U8
  deriving DecidableEq
instance:Rep Tb:=Rep.via (β:=(U8) × (U8)) fun x=>(x.fN,x.fD)
def ab (x:Tb):Lb Vc:=[vU x.fN.1,vU x.fN.2.1,vU x.fN.2.2.1,vU x.fN.2.2.2.1,vU x.fN.2.2.2.2.1,vU x.fN.2.2.2.2.2.1,vU x.fN.2.2.2.2.2.2.1,vU x.fN.2.2.2.2.2.2.2,vU x.fD.1,vU x.fD.2.1,vU x.fD.2.2.1,vU x.fD.2.2.2.1,vU x.fD.2.2.2.2.1,vU x.fD.2.2.2.2.2.1,vU x.fD.2.2.2.2.2.2.1,vU x.fD.2.2.2.2.2.2.2]
def ac_p (n:Nat) (a0:Td):Oa (Tb × Int):=
  (cu_p n a0.fj).bind fun b0=>(cu_p n a0.fh).bind fun c0=>(if b0.2 = 0 then (if c0.2 = 0 then some ((⟨b0.1,c0.1⟩:Tb),(0:Int)) else some ((⟨(0,0,0,0,0,0,0,0),(0,0,0,0,0,0,0,0)⟩:Tb),(6:Int))) else some ((⟨(0,0,0,0,0,0,0,0),(0,0,0,0,0,0,0,0)⟩:Tb),(6:Int)))
theorem ac_c (n:Nat) {L w} (hL:hl L w) (a0:Td) {v0_1:Vc} (h0_1:Rep.R w L [v0_1] a0.fj.fk) {v0_3:Vc} (h0_3:Rep.R w L [v0_3] a0.fh.fk)  {r:Tb × Int} (h:ac_p n a0 = some r) :
 Cl 77 #[.agg #[.bool a0.fj.fc,v0_1,.bool a0.fh.fc,v0_3]] w (aj w fun _ u=>u = .tuple #[.agg ((ab r.1)).toArray,vI r.2]):=by
 unfold ac_p at h
 refine AM func77 I I I fun _ cs0 hb0=>Ae<|RG.bx (AL w) I I fun R0 B0 v0 F0=>RG.nl zL v0 fun U0 C0 g0 G0=>Ah I<|Aa<|Ae<|Bm 0 I<|Ab (AN (cs:=[.bool a0.fj.fc,v0_1]) I I (ac (g0.memA .t1) 0 2))<|bk h fun b0 z0 h=>Bd (.tuple #[.agg ((ak b0.1)).toArray,vI b0.2]) (bd 139) I (e1 I) (fun w9 hw9=>cu_c n (g0.hL0 hL hw9) a0.fj (g0.k0 h0_1 hw9) z0) I<|Ac I<|Ab (Ai I I)<|Ab (Ai I I)<|RG.nl zP g0 fun V0 D0 x0 H0=>AQ (ak b0.1) x0 .hd (ai I) fun W0 j0 I0=>Ah I<|Aa<|Ae<|Bm 2 I<|Ab (AN (cs:=[.bool a0.fh.fc,v0_3]) I I (ac (j0.memA .t2) 2 2))<|bk h fun c0 A0 h=>Bd (.tuple #[.agg ((ak c0.1)).toArray,vI c0.2]) (bd 139) I (e1 I) (fun w9 hw9=>cu_c n (j0.hL0 hL hw9) a0.fh (j0.k0 h0_3 hw9) A0) I<|Ac I<|Ab (Ai I I)<|Ab (Ai I I)<|RG.nl zP j0 fun X0 E0 y0 J0=>AQ (ak c0.1) y0 .hd (ai I) fun Y0 d0 K0=>Ah I<|Aa<|Aj<|Ae<|Ac I<|Ab (BA (i:=b0.2) (j:=0) I I) ?_
 refine Ac I<|RG.ifn (s:=22) I h (fun t0 h=>?_) (fun t0 h=>?_)
 refine AJ (Al I)<|AJ (BA (i:=c0.2) (j:=0) I I)<|Bs I I<|Aa<|BI I h (fun u0 h=>?_) (fun u0 h=>?_)
 refine Aq<|Ae<|Ab (Az I (d0.memA .t1))<|Ab (Az I (d0.memA .hd))<|Ab (AS (vs:=[.agg ((ak b0.1)).toArray,.agg ((ak c0.1)).toArray]) (u:=.agg ((ak b0.1 ++ ak c0.1)).toArray) (e2 I I) (fun w9=>by kernel_rfl))<|AQ (ak b0.1 ++ ak c0.1) d0 .t2 (ai I) fun Z0 p0 M0=>Ah I<|Aa<|Ar I<|Au hb0 func77 I (.cons (.many (cs:=(ak b0.1 ++ ak c0.1)) I I (p0.memA .t2)) (.cons (.tmp I) .nil)) I ?_
 cases h
 exact p0.gv
 refine Ae<|Ab (AS (vs:=[]) (u:=.agg zM) am (fun w9=>by kernel_rfl))<|AQ zL d0 .t2 (ai I) fun b1 q0 P0=>Ah I<|Aa<|Ar I<|Au hb0 func77 I (.cons (.many (cs:=zL) I I (q0.memA .t2)) (.cons (.tmp I) .nil)) I ?_
 cases h
 exact q0.gv
 refine Ap<|Ap<|Bk I I<|Aa<|AG I<|Ae<|Ab (AS (vs:=[]) (u:=.agg zM) am (fun w9=>by kernel_rfl))<|AQ zL d0 .t2 (ai I) fun c1 s0 Q0=>Ah I<|Aa<|Ar I<|Au hb0 func77 I (.cons (.many (cs:=zL) I I (s0.memA .t2)) (.cons (.tmp I) .nil)) I ?_
 cases h
 exact s0.gv
def dc_p (n:Nat) (a0:U8):Oa Tj:=
  (if (shrU a0.2.2.2.2.2.2.2 63) = (1:Ua) then (bS_p n (0,0,0,0,0,0,0,0) a0).bind fun b0=>some (⟨(decide ((shrU a0.2.2.2.2.2.2.2 63) = (1:Ua))),b0.1⟩:Tj) else some (⟨(decide ((shrU a0.2.2.2.2.2.2.2 63) = (1:Ua))),a0⟩:Tj))
theorem dc_c (n:Nat) {L w} (hL:hl L w) (a0:U8)  {r:Tj} (h:dc_p n a0 = some r) :
 Cl 165 #[.agg ((ak a0)).toArray] w (aj w fun _ u=>u = .agg ((jT r)).toArray):=by
 unfold dc_p at h
 refine AM func165 I I I fun _ cs0 hb0=>Ae<|RG.bx (AL w) I I fun F0 u0 q0 y0=>RG.nl [.bool false,vW 0,vW 0,vW 0,vW 0,vW 0,vW 0,vW 0,vW 0] q0 fun G0 v0 d0 z0=>Aa<|Ae<|Ab (AP (m:=1) (k:=7) (len:=8) I I I I (by omega))<|Bf I ((d0.memA .t1) 7 _ I)<|Ab (FV.shrU (a:=a0.2.2.2.2.2.2.2) (j:=63) I I)<|Ab (FV.eqlU (a:=shrU a0.2.2.2.2.2.2.2 63) (b:=(1:Ua)) I I)<|Ab (Az I (d0.memA .t1))<|Ab (AS (vs:=[.bool (decide ((shrU a0.2.2.2.2.2.2.2 63) = (1:Ua))),.agg ((ak a0)).toArray]) (u:=.agg ((([.bool (decide ((shrU a0.2.2.2.2.2.2.2 63) = (1:Ua)))]:Lb Vc) ++ ak a0)).toArray) (e2 I I) (fun w9=>by kernel_rfl))<|RG.nl [.bool false,vW 0,vW 0,vW 0,vW 0,vW 0,vW 0,vW 0,vW 0] d0 fun H0 x0 s0 A0=>AQ (([.bool (decide ((shrU a0.2.2.2.2.2.2.2 63) = (1:Ua)))]:Lb Vc) ++ ak a0) s0 .hd (ai I) fun I0 b0 B0=>Aa<|Aj<|Ae<|Bm 0 I<|Bf I ((b0.memA .hd) 0 _ I)<|Aa<|AV I h (fun p0 h=>?_) (fun p0 h=>?_)
 refine Am<|Ab (AS (vs:=[]) (u:=.agg zQ) am (fun w9=>by kernel_rfl))<|Bm 1 I<|Ab (AN (cs:=(ak a0)) I I (ac (b0.memA .hd) 1 8))<|bk h fun c0 t0 h=>Bd (.tuple #[.agg ((ak c0.1)).toArray,vU c0.2]) (bd 189) I (e2 I I) (fun w9 hw9=>bS_c n (b0.hL0 hL hw9) (0,0,0,0,0,0,0,0) a0 t0) I<|Ac I<|Ab (Ai I I)<|Ab (Ai I I)<|Bm 1 I<|RG.now .plain (BU (j:=1) (old:=(([.bool (decide ((shrU a0.2.2.2.2.2.2.2 63) = (1:Ua)))]:Lb Vc) ++ ak a0)) (news:=(ak c0.1)) (new' :=(([.bool (decide ((shrU a0.2.2.2.2.2.2.2 63) = (1:Ua)))]:Lb Vc) ++ ak c0.1)) b0 .hd I I I I I I (ai I) I) fun J0 g0 C0=>Aa<|Ae<|Ab (Az I (g0.memA .hd))<|AQ (([.bool (decide ((shrU a0.2.2.2.2.2.2.2 63) = (1:Ua)))]:Lb Vc) ++ ak c0.1) g0 .t1 (ai I) fun K0 j0 D0=>Aa<|Ar I<|Au hb0 func165 I (.cons (.many (cs:=(([.bool (decide ((shrU a0.2.2.2.2.2.2.2 63) = (1:Ua)))]:Lb Vc) ++ ak c0.1)) I I (j0.memA .t1)) .nil) I ?_
 cases h
 exact j0.gv
 refine Aq<|Ae<|Ab (Az I (b0.memA .hd))<|AQ (([.bool (decide ((shrU a0.2.2.2.2.2.2.2 63) = (1:Ua)))]:Lb Vc) ++ ak a0) b0 .t1 (ai I) fun M0 k0 E0=>Aa<|Ar I<|Au hb0 func165 I (.cons (.many (cs:=(([.bool (decide ((shrU a0.2.2.2.2.2.2.2 63) = (1:Ua)))]:Lb Vc) ++ ak a0)) I I (k0.memA .t1)) .nil) I ?_
 cases h
 exact k0.gv
def aB_l1 (_n:Nat) (a1:Lb Ua) (c0:Int -> Oa Int):Int -> Oa Int
  | b0=>(if 0 < b0 then (chk (b0 - 1)).bind fun d0=>(idx a1 d0).bind fun j0=>(if j0 = (0:Ua) then (chk (b0 - 1)).bind fun g0=>c0 g0 else some b0) else some b0)
def aB_p (n:Nat) (a0:Bool) (a1:Lb Ua):Oa Tg:=
  jn (fun b0=>(if a0 = true then (cut a1 0 b0).bind fun d0=>some (⟨(decide (0 < b0)),d0⟩:Tg) else (cut a1 0 b0).bind fun g0=>some (⟨false,g0⟩:Tg))) (fun c0=>Option.bind (ao (aB_l1 n a1) n ((a1.length:Nat):Int)) (c0))
theorem aB_c (n:Nat) {L w} (_hL:hl L w) {a0:Bool} {a1:Lb Ua} {v1_0:Vc} (h1_0:Rep.R w L [v1_0] a1)  {r:Tg} (h:aB_p n a0 a1 = some r) :
 Cl 166 #[.bool a0,v1_0] w (aj w fun w' u=>∃ v0_1:Vc,u = .agg #[.bool r.fc,v0_1]/\Rep.R w' L [v0_1] r.fk):=by
 unfold aB_p at h
 refine AM func166 I I I fun _ cs0 hb0=>Ae<|RG.nl [.bool false,vN] (AL w) fun C1 j0 q0 z1=>Aa<|Ae<|Ac I ?_
 have A0:=AH h1_0 q0
 have A1:=AY A0
 refine Ab (Ba (xs:=a1) underlying105 I A0)<|Ah I<|Aa<|Aj<|Av<|MX.xo (α:=Int) 0 (fun b0=>[(0,.bool a0),(1,v1_0),(4,vP j0),(5,vI b0)]) (fun b0=>[.cells j0 [.bool false,vN] 107]) (fun b0=>b0) q0 I h ?_ ?_
 rintro b0 F1 k0 y1 h
 try dsimp only at h
 refine Ae<|Ac I<|Ac I<|RG.ifb (s:=21) I h (fun C0 h=>?_) (fun C0 h=>?_)
 refine AJ (Al I)<|AJ (FV.gtr (i:=b0) (j:=0) I I)<|Bk I I<|Ac I<|Ac I<|bk h fun H1 c1 h=>RG.valE .plain I (FV.cutL (α:=Ua) c1 I I (AH h1_0 k0) I ⟨_,I⟩) fun d0 v0=>?_
 obtain ⟨k1,u1,X0,_⟩:=Bl v0
 refine Ab (AS (vs:=[.bool (decide (0 < b0)),d0]) (u:=.agg #[.bool (decide (0 < b0)),d0]) (e2 I I) (fun w9=>by rw [X0]; try kernel_rfl))<|AQ [.bool (decide (0 < b0)),d0] k0 .hd (o2 I (Ay v0)) fun D1 s0 H0=>Aa<|Ar I<|Au hb0 func166 I (.cons (.many (cs:=[.bool (decide (0 < b0)),d0]) I I (s0.memA .hd)) .nil) I ?_
 cases h
 exact ⟨s0.ag,fun w9 hw9=>⟨d0,I,s0.kd (Ag v0 H0) hw9⟩⟩
 refine Ap<|Ap<|Bs I I<|Ac I<|Ac I<|bk h fun I1 d1 h=>RG.valE .plain I (FV.cutL (α:=Ua) d1 I I (AH h1_0 k0) I ⟨_,I⟩) fun g0 x0=>?_
 obtain ⟨p1,v1,Y0,_⟩:=Bl x0
 refine Ab (AS (vs:=[.bool false,g0]) (u:=.agg #[.bool false,g0]) (e2 I I) (fun w9=>by rw [Y0]; try kernel_rfl))<|AQ [.bool false,g0] k0 .hd (o2 I (Ay x0)) fun E1 t0 I0=>Aa<|Ar I<|Au hb0 func166 I (.cons (.many (cs:=[.bool false,g0]) I I (t0.memA .hd)) .nil) I ?_
 cases h
 exact ⟨t0.ag,fun w9 hw9=>⟨g0,I,t0.kd (Ag x0 I0) hw9⟩⟩
 intro s1 y0 h
 try dsimp only at h
 obtain ⟨B1,R0,z0⟩:=ap h
 refine MX.lo (α:=Int) (fun c0=>[(0,.bool a0),(1,v1_0),(4,vP j0),(5,vI c0)]) (fun c0=>[.cells j0 [.bool false,vN] 107]) (fun c0=>c0) ((a1.length:Nat):Int) R0 q0 ?_
 rintro t1 c0 G1 G0 p0 u0 h
 unfold aB_l1 at h
 try dsimp only at h
 refine Aj<|Ae<|Ac I<|Ab (FV.gtr (i:=c0) (j:=0) I I)<|Ac I<|RG.ifd (s:=10) I h (fun D0 h=>?_) (fun D0 h=>?_)
 refine AJ (Al I)<|AJ (Al I)<|bk h fun g1 V0 h=>AJ (FV.subc (i:=c0) (j:=1) I I V0)<|bk h fun B0 Z0 h=>?_
 obtain ⟨M0,b1⟩:=aR Z0
 obtain ⟨q1,x1,J0,P0,F0,U0,Q0⟩:=Bh (AH h1_0 p0) b1
 have K0:F0 = [vU B0]:=U0; subst K0
 refine AJ (Be 1 (g1.toNat) I J0 I M0 P0)<|AJ (Bp I (Q0 0 _ I))<|AJ (FV.eqlU (a:=B0) (b:=(0:Ua)) I I)<|Bk I I<|Aa<|AV I h (fun E0 h=>?_) (fun E0 h=>?_)
 refine Aq<|Av<|Am<|Ac I<|bk h fun j1 W0 h=>Ab (FV.subc (i:=c0) (j:=1) I I W0)<|Ah I<|Aa<|Ax<|G0 j1 p0 u0 h
 refine AZ I ?_
 have h:=z0 _ h
 try dsimp only at h
 exact y0 c0 p0 u0 h
 refine Ap<|Ap<|Ap<|Ap<|Ap<|Ap<|Bs I I<|Aa<|Bz I<|AZ I ?_
 have h:=z0 _ h
 try dsimp only at h
 exact y0 c0 p0 u0 h
theorem eb:ElT Tryz.prog 105 30 (Rep.size Ua) 8 (vW 0) [vW 0]:=⟨underlying105,by kernel_rfl,rfl,rfl,rfl,rfl⟩
def bV_p (n:Nat) (a0:U8):Oa Tg:=
  (dc_p n a0).bind fun b0=>(app ([]:Lb Ua) ([b0.fl.1,b0.fl.2.1,b0.fl.2.2.1,b0.fl.2.2.2.1,b0.fl.2.2.2.2.1,b0.fl.2.2.2.2.2.1,b0.fl.2.2.2.2.2.2.1,b0.fl.2.2.2.2.2.2.2]:Lb Ua)).bind fun c0=>(aB_p n b0.fc c0).bind fun d0=>some d0
theorem bV_c (n:Nat) {L w} (hL:hl L w) (a0:U8)  {r:Tg} (h:bV_p n a0 = some r) :
 Cl 135 #[.agg ((ak a0)).toArray] w (aj w fun w' u=>∃ v0_1:Vc,u = .agg #[.bool r.fc,v0_1]/\Rep.R w' L [v0_1] r.fk):=by
 unfold bV_p at h
 refine AM func135 I I I fun _ cs0 hb0=>Ae<|RG.bx (AL w) I I fun D1 s1 W0 u1=>RG.nl [.bool false,vN] W0 fun G1 A0 F0 z1=>Aa<|Ae<|Ab (Az I (F0.memA .t1))<|bk h fun b0 p1 h=>Bd (.agg ((jT b0)).toArray) (bd 165) I (e1 I) (fun w9 hw9=>dc_c n (F0.hL0 hL hw9) a0 p1) I<|RG.nl [.bool false,vW 0,vW 0,vW 0,vW 0,vW 0,vW 0,vW 0,vW 0] F0 fun H1 U0 c1 A1=>AQ (jT b0) c1 .hd (ai I) fun I1 u0 B1=>Aa<|Aj<|du 5 fun c0 y0=>Rv 0 c0 I y0 (fun _=>Bg 0 I)<|Rv 3 c0 I y0 (fun _=>Bg 1 I)<|Rx 4 224 c0 I y0 (FV.sliceA (len:=8) (m:=1) (p:=Addr.add ⟨U0,0,none⟩ 1) I I)<|bk h fun z0 G0 h=>RD.mf (α:=Vc × (Lb Vc)) (fun ⟨g0,j0⟩=>[(2,vP A0),(7,.bool b0.fc),(11,g0)]) (fun ⟨g0,j0⟩=>[rr w 30 Ua g0 z0.length j0,.cells A0 [.bool false,vN] 107]) (fun ⟨g0,j0⟩ Q0=>Cells Q0 (bl [rr w 30 Ua g0 z0.length j0,.cells A0 [.bool false,vN] 107] ++ L) j0 (z0:Lb Ua)) u0 2 63 ?_ ?_
 rintro ⟨g0,j0⟩ Q0 C0 v1 j1
 try dsimp only
 have D0:=Bu C0 .hd
 have x1:=Bv C0 .hd
 refine bk h fun R0 k1 h=>AX 6 127 c0 I .plain (bd 166) I (e2 I I) (fun w9 hw9=>aB_c n (D0.hL hL hw9) (Af (Bw (α:=Ua) (v:=g0) (xs:=z0) D0 L (Bi (α:=Ua) C0 .hd j1 hL)) hw9) k1) I fun E1 C1 g1 ⟨H0,hu_,M0⟩=>?_
 subst hu_
 obtain ⟨X0,y1⟩:=D0.agr g1
 refine BB 7 255 c0 I I .plain (AC (news:=[.bool R0.fc,H0]) X0 .hd I I I I I I (o2 I (Ay M0))) fun F1 E0 d1=>AK (dk c0)<|Ar I<|Au hb0 func135 I (.cons (.many (cs:=[.bool R0.fc,H0]) I I (E0.memA .hd)) .nil) I ?_
 cases h
 exact ⟨E0.ag,fun w9 hw9=>⟨H0,I,E0.kd (Ag M0 d1) hw9⟩⟩
 intro B0
 refine BJ [1,2] (rk c0) ⟨?_,?_,trivial⟩
 refine BV (m' :=27) (sk c0) I .plain I (Bp I ((u0.memA .hd) 0 _ I))<|RD.nu 2 31 c0 I .plain I (jB Ua u0 eb) fun q1 V0 d0 v0=>?_
 have x0:=jD Ua d0 L
 refine BK (i:=5) (rk c0) (RO.doesL (m' :=63) (sk c0) I I .plain I (Bn (α:=Ua) (ys:=([b0.fl.1,b0.fl.2.1,b0.fl.2.2.1,b0.fl.2.2.2.1,b0.fl.2.2.2.2.1,b0.fl.2.2.2.2.2.1,b0.fl.2.2.2.2.2.2.1,b0.fl.2.2.2.2.2.2.2]:Lb Ua)) G0 d0 (fun _ _=>.hd) eb I I x0 (Src.arr (ds:=[vU b0.fl.1,vU b0.fl.2.1,vU b0.fl.2.2.1,vU b0.fl.2.2.2.1,vU b0.fl.2.2.2.2.1,vU b0.fl.2.2.2.2.2.1,vU b0.fl.2.2.2.2.2.2.1,vU b0.fl.2.2.2.2.2.2.2]) (ys:=([b0.fl.1,b0.fl.2.1,b0.fl.2.2.1,b0.fl.2.2.2.1,b0.fl.2.2.2.2.1,b0.fl.2.2.2.2.2.1,b0.fl.2.2.2.2.2.2.1,b0.fl.2.2.2.2.2.2.2]:Lb Ua)) (n:=8) (ac (d0.memA .t1) 1 8) (AE (cs:=[vU b0.fl.1]) (ds:=[vU b0.fl.2.1,vU b0.fl.2.2.1,vU b0.fl.2.2.2.1,vU b0.fl.2.2.2.2.1,vU b0.fl.2.2.2.2.2.1,vU b0.fl.2.2.2.2.2.2.1,vU b0.fl.2.2.2.2.2.2.2]) I (AE (cs:=[vU b0.fl.2.1]) (ds:=[vU b0.fl.2.2.1,vU b0.fl.2.2.2.1,vU b0.fl.2.2.2.2.1,vU b0.fl.2.2.2.2.2.1,vU b0.fl.2.2.2.2.2.2.1,vU b0.fl.2.2.2.2.2.2.2]) I (AE (cs:=[vU b0.fl.2.2.1]) (ds:=[vU b0.fl.2.2.2.1,vU b0.fl.2.2.2.2.1,vU b0.fl.2.2.2.2.2.1,vU b0.fl.2.2.2.2.2.2.1,vU b0.fl.2.2.2.2.2.2.2]) I (AE (cs:=[vU b0.fl.2.2.2.1]) (ds:=[vU b0.fl.2.2.2.2.1,vU b0.fl.2.2.2.2.2.1,vU b0.fl.2.2.2.2.2.2.1,vU b0.fl.2.2.2.2.2.2.2]) I (AE (cs:=[vU b0.fl.2.2.2.2.1]) (ds:=[vU b0.fl.2.2.2.2.2.1,vU b0.fl.2.2.2.2.2.2.1,vU b0.fl.2.2.2.2.2.2.2]) I (AE (cs:=[vU b0.fl.2.2.2.2.2.1]) (ds:=[vU b0.fl.2.2.2.2.2.2.1,vU b0.fl.2.2.2.2.2.2.2]) I (AE (cs:=[vU b0.fl.2.2.2.2.2.2.1]) (ds:=[vU b0.fl.2.2.2.2.2.2.2]) I (AE (cs:=[vU b0.fl.2.2.2.2.2.2.2]) (ds:=[]) I (AT _ _))))))))) I)) (fun t0 P0 ⟨p0,k0,q0,s0⟩=>?_))
 obtain ⟨Y0,I0⟩:=AB k0 (.a0 (.a1 .done))
 exact B0 (t0,p0) Y0 (Tt v0 (Tt q0 I0)) (AR s0 I0)
 refine RO.new (m' :=29) (sk c0) I .plain I (jB Ua u0 eb) fun q1 V0 d0 v0=>?_
 have x0:=jD Ua d0 L
 refine BJ [1,5] (rk c0) ⟨?_,?_,trivial⟩
 refine BV (m' :=31) (sk c0) I .plain I (Bp I ((d0.memA .t1) 0 _ I))<|BK (i:=5) (rk c0) (RO.doesL (m' :=63) (sk c0) I I .plain I (Bn (α:=Ua) (ys:=([b0.fl.1,b0.fl.2.1,b0.fl.2.2.1,b0.fl.2.2.2.1,b0.fl.2.2.2.2.1,b0.fl.2.2.2.2.2.1,b0.fl.2.2.2.2.2.2.1,b0.fl.2.2.2.2.2.2.2]:Lb Ua)) G0 d0 (fun _ _=>.hd) eb I I x0 (Src.arr (ds:=[vU b0.fl.1,vU b0.fl.2.1,vU b0.fl.2.2.1,vU b0.fl.2.2.2.1,vU b0.fl.2.2.2.2.1,vU b0.fl.2.2.2.2.2.1,vU b0.fl.2.2.2.2.2.2.1,vU b0.fl.2.2.2.2.2.2.2]) (ys:=([b0.fl.1,b0.fl.2.1,b0.fl.2.2.1,b0.fl.2.2.2.1,b0.fl.2.2.2.2.1,b0.fl.2.2.2.2.2.1,b0.fl.2.2.2.2.2.2.1,b0.fl.2.2.2.2.2.2.2]:Lb Ua)) (n:=8) (ac (d0.memA .t1) 1 8) (AE (cs:=[vU b0.fl.1]) (ds:=[vU b0.fl.2.1,vU b0.fl.2.2.1,vU b0.fl.2.2.2.1,vU b0.fl.2.2.2.2.1,vU b0.fl.2.2.2.2.2.1,vU b0.fl.2.2.2.2.2.2.1,vU b0.fl.2.2.2.2.2.2.2]) I (AE (cs:=[vU b0.fl.2.1]) (ds:=[vU b0.fl.2.2.1,vU b0.fl.2.2.2.1,vU b0.fl.2.2.2.2.1,vU b0.fl.2.2.2.2.2.1,vU b0.fl.2.2.2.2.2.2.1,vU b0.fl.2.2.2.2.2.2.2]) I (AE (cs:=[vU b0.fl.2.2.1]) (ds:=[vU b0.fl.2.2.2.1,vU b0.fl.2.2.2.2.1,vU b0.fl.2.2.2.2.2.1,vU b0.fl.2.2.2.2.2.2.1,vU b0.fl.2.2.2.2.2.2.2]) I (AE (cs:=[vU b0.fl.2.2.2.1]) (ds:=[vU b0.fl.2.2.2.2.1,vU b0.fl.2.2.2.2.2.1,vU b0.fl.2.2.2.2.2.2.1,vU b0.fl.2.2.2.2.2.2.2]) I (AE (cs:=[vU b0.fl.2.2.2.2.1]) (ds:=[vU b0.fl.2.2.2.2.2.1,vU b0.fl.2.2.2.2.2.2.1,vU b0.fl.2.2.2.2.2.2.2]) I (AE (cs:=[vU b0.fl.2.2.2.2.2.1]) (ds:=[vU b0.fl.2.2.2.2.2.2.1,vU b0.fl.2.2.2.2.2.2.2]) I (AE (cs:=[vU b0.fl.2.2.2.2.2.2.1]) (ds:=[vU b0.fl.2.2.2.2.2.2.2]) I (AE (cs:=[vU b0.fl.2.2.2.2.2.2.2]) (ds:=[]) I (AT _ _))))))))) I)) (fun t0 P0 ⟨p0,k0,q0,s0⟩=>?_))
 obtain ⟨Z0,J0⟩:=AB k0 (.a0 (.a1 .done))
 exact B0 (t0,p0) Z0 (Tt v0 (Tt q0 J0)) (AR s0 J0)
 refine RO.doesL (m' :=61) (sk c0) I I .plain I (Bn (α:=Ua) (ys:=([b0.fl.1,b0.fl.2.1,b0.fl.2.2.1,b0.fl.2.2.2.1,b0.fl.2.2.2.2.1,b0.fl.2.2.2.2.2.1,b0.fl.2.2.2.2.2.2.1,b0.fl.2.2.2.2.2.2.2]:Lb Ua)) G0 d0 (fun _ _=>.hd) eb I I x0 (Src.arr (ds:=[vU b0.fl.1,vU b0.fl.2.1,vU b0.fl.2.2.1,vU b0.fl.2.2.2.1,vU b0.fl.2.2.2.2.1,vU b0.fl.2.2.2.2.2.1,vU b0.fl.2.2.2.2.2.2.1,vU b0.fl.2.2.2.2.2.2.2]) (ys:=([b0.fl.1,b0.fl.2.1,b0.fl.2.2.1,b0.fl.2.2.2.1,b0.fl.2.2.2.2.1,b0.fl.2.2.2.2.2.1,b0.fl.2.2.2.2.2.2.1,b0.fl.2.2.2.2.2.2.2]:Lb Ua)) (n:=8) (ac (d0.memA .t1) 1 8) (AE (cs:=[vU b0.fl.1]) (ds:=[vU b0.fl.2.1,vU b0.fl.2.2.1,vU b0.fl.2.2.2.1,vU b0.fl.2.2.2.2.1,vU b0.fl.2.2.2.2.2.1,vU b0.fl.2.2.2.2.2.2.1,vU b0.fl.2.2.2.2.2.2.2]) I (AE (cs:=[vU b0.fl.2.1]) (ds:=[vU b0.fl.2.2.1,vU b0.fl.2.2.2.1,vU b0.fl.2.2.2.2.1,vU b0.fl.2.2.2.2.2.1,vU b0.fl.2.2.2.2.2.2.1,vU b0.fl.2.2.2.2.2.2.2]) I (AE (cs:=[vU b0.fl.2.2.1]) (ds:=[vU b0.fl.2.2.2.1,vU b0.fl.2.2.2.2.1,vU b0.fl.2.2.2.2.2.1,vU b0.fl.2.2.2.2.2.2.1,vU b0.fl.2.2.2.2.2.2.2]) I (AE (cs:=[vU b0.fl.2.2.2.1]) (ds:=[vU b0.fl.2.2.2.2.1,vU b0.fl.2.2.2.2.2.1,vU b0.fl.2.2.2.2.2.2.1,vU b0.fl.2.2.2.2.2.2.2]) I (AE (cs:=[vU b0.fl.2.2.2.2.1]) (ds:=[vU b0.fl.2.2.2.2.2.1,vU b0.fl.2.2.2.2.2.2.1,vU b0.fl.2.2.2.2.2.2.2]) I (AE (cs:=[vU b0.fl.2.2.2.2.2.1]) (ds:=[vU b0.fl.2.2.2.2.2.2.1,vU b0.fl.2.2.2.2.2.2.2]) I (AE (cs:=[vU b0.fl.2.2.2.2.2.2.1]) (ds:=[vU b0.fl.2.2.2.2.2.2.2]) I (AE (cs:=[vU b0.fl.2.2.2.2.2.2.2]) (ds:=[]) I (AT _ _))))))))) I)) fun t0 P0 ⟨p0,k0,q0,s0⟩=>Rx 1 192 c0 I y0 (Bp I ((k0.memA .t1) 0 _ I)) ?_
 obtain ⟨b1,K0⟩:=AB k0 (.a0 (.a1 .done))
 exact B0 (t0,p0) b1 (Tt v0 (Tt q0 K0)) (AR s0 K0)
def bU_l1 (_n:Nat) (a0:Lb Ua) (a1:Lb Ua) (g0:Int -> Oa (Int ⊕ Unit)):Int -> Oa (Int ⊕ Unit)
  | b0=>(if 0 <= b0 then (idx a0 b0).bind fun c0=>(idx a1 b0).bind fun d0=>(if c0 < d0 then some (.inl (-1:Int)) else (if d0 < c0 then some (.inl (1:Int)) else (chk (b0 - 1)).bind fun j0=>g0 j0)) else some (.inr ()))
def bU_p (n:Nat) (a0:Lb Ua) (a1:Lb Ua):Oa Int:=
  (if a0.length = a1.length then thn (ao (bU_l1 n a0 a1) n (((a0.length:Nat):Int) - 1)) (fun _=>some (0:Int)) else some (((a0.length:Nat):Int) - ((a1.length:Nat):Int)))
theorem bU_c (n:Nat) {L w} (_hL:hl L w) {a0:Lb Ua} {v0_0:Vc} (h0_0:Rep.R w L [v0_0] a0) {a1:Lb Ua} {v1_0:Vc} (h1_0:Rep.R w L [v1_0] a1)  {r:Int} (h:bU_p n a0 a1 = some r) :
 Cl 171 #[v0_0,v1_0] w (aj w fun _ u=>u = vI r):=by
 unfold bU_p at h
 have hS0:=AL w
 refine AM func171 I I I fun _ cs0 hb0=>Ae<|Ah I<|Aa<|Aj<|Ae<|Ac I ?_
 have hl1:=AY h0_0
 refine Ab (Ba (xs:=a0) underlying105 I h0_0)<|Ac I ?_
 have hl2:=AY h1_0
 refine Ab (Ba (xs:=a1) underlying105 I h1_0)<|Ab (FV.neqN (i:=a0.length) (j:=a1.length) I I)<|Aa<|BI I h (fun c3 h=>?_) (fun c3 h=>?_)
 refine Aq<|Aj<|Ae<|Ac I<|Ab (Ba (xs:=a0) underlying105 I h0_0)<|Ab (FV.subI (i:=((a0.length:Nat):Int)) (j:=1) I I (by omega))<|Ah I<|Aa<|Av<|tn h fun j1 M0 p0=>MX.lo (α:=Int) (fun d0=>[(0,v0_0),(1,v1_0),(5,vI d0)]) (fun d0=>[]) (fun d0=>d0) (((a0.length:Nat):Int) - 1) M0 hS0 ?_
 rintro c1 d0 k1 H0 k0 I0 h
 unfold bU_l1 at h
 try dsimp only at h
 refine Aj<|Ae<|Ac I<|Ab (FV.geq (i:=d0) (j:=0) I I)<|Aa<|AV I h (fun C0 h=>?_) (fun C0 h=>?_)
 refine Aq<|Aj<|Av<|Av<|Aj<|du 10 fun b0 g0=>Rv 0 b0 I g0 (fun _=>Al I)<|Rv 1 b0 I g0 (fun _=>Al I)<|bk h fun q0 U0 h=>?_
 obtain ⟨v0,V0⟩:=aR U0
 obtain ⟨Z0,d1,t0,y0,F0,P0,A0⟩:=Bh (AH h0_0 k0) V0
 have J0:F0 = [vU q0]:=P0; subst J0
 refine Rv 2 b0 I g0 (fun _=>Be 1 (d0.toNat) I t0 I v0 y0)<|Rx 3 768 b0 I g0 (Bp I (A0 0 _ I))<|Rv 4 b0 I g0 (fun _=>Al I)<|Rv 5 b0 I g0 (fun _=>Al I)<|bk h fun s0 W0 h=>?_
 obtain ⟨x0,X0⟩:=aR W0
 obtain ⟨b1,g1,u0,z0,G0,Q0,B0⟩:=Bh (AH h1_0 k0) X0
 have K0:G0 = [vU s0]:=Q0; subst K0
 refine Rv 6 b0 I g0 (fun _=>Be 1 (d0.toNat) I u0 I x0 z0)<|Rx 7 768 b0 I g0 (Bp I (B0 0 _ I))<|Rv 8 b0 I g0 (fun _=>FV.lssU (a:=q0) (b:=s0) I I)<|Rv 9 b0 I g0 (fun _=>Bj I)<|AK (dk b0)<|AV I h (fun D0 h=>?_) (fun D0 h=>?_)
 refine Ae<|Ah I<|Aa ?_
 have h:=aH h p0
 refine Ar I<|Bb hb0 func171 I I ?_
 cases h
 exact k0.gv
 refine Aj<|du 10 fun c0 j0=>Rv 0 c0 I j0 (fun _=>Al I)<|Rv 1 c0 I j0 (fun _=>Al I)<|Rv 2 c0 I j0 (fun _=>Be 1 (d0.toNat) I t0 I v0 y0)<|Rx 3 768 c0 I j0 (Bp I (A0 0 _ I))<|Rv 4 c0 I j0 (fun _=>Al I)<|Rv 5 c0 I j0 (fun _=>Al I)<|Rv 6 c0 I j0 (fun _=>Be 1 (d0.toNat) I u0 I x0 z0)<|Rx 7 768 c0 I j0 (Bp I (B0 0 _ I))<|Rv 8 c0 I j0 (fun _=>FV.gtrU (a:=q0) (b:=s0) I I)<|Rv 9 c0 I j0 (fun _=>Bj I)<|AK (dk c0)<|AV I h (fun E0 h=>?_) (fun E0 h=>?_)
 refine Ae<|Ah I<|Aa ?_
 have h:=aH h p0
 refine Ar I<|Bb hb0 func171 I I ?_
 cases h
 exact k0.gv
 refine Aq<|Ax<|Ax<|Am<|Ac I<|bk h fun Y0 R0 h=>Ab (FV.subc (i:=d0) (j:=1) I I R0)<|Ah I<|Aa<|H0 Y0 k0 I0 h
 refine AZ I ?_
 have h:=bc h p0
 try dsimp only at h
 refine Ae<|Ah I<|Aa<|Ar I<|Bb hb0 func171 I I ?_
 cases h
 exact k0.gv
 refine Ae<|Ac I<|Ab (Ba (xs:=a0) underlying105 I h0_0)<|Ac I<|Ab (Ba (xs:=a1) underlying105 I h1_0)<|Ab (FV.subI (i:=((a0.length:Nat):Int)) (j:=((a1.length:Nat):Int)) I I (by omega))<|Ah I<|Aa<|Ar I<|Bb hb0 func171 I I ?_
 cases h
 exact hS0.gv
def cg_l1 (_n:Nat) (a0:Lb Ua) (a1:Lb Ua) (j0:Ua × Nat × (Lb Ua) -> Oa (Lb Ua)):Ua × Nat × (Lb Ua) -> Oa (Lb Ua)
  | (k0,b0,c0)=>(if b0 < a0.length then (a0[b0]?).bind fun q0=>jn (fun p0=>(sub64 q0 p0 k0).bind fun g0=>(c0[b0]?).bind fun _x193=>(put c0 ((b0:Nat):Int) g0.1).bind fun t0=>j0 (g0.2,b0 + 1,t0)) (fun d0=>(if b0 < a1.length then (a1[b0]?).bind fun s0=>d0 s0 else d0 (0:Ua))) else some c0)
def cg_p (n:Nat) (a0:Lb Ua) (a1:Lb Ua):Oa (Lb Ua):=
  (mk ((a0.length:Nat):Int) (0:Ua)).bind fun b0=>Option.bind (ao (cg_l1 n a0 a1) n (0,0,b0)) (fun c0=>some c0)
theorem cg_c (n:Nat) {L w} (hL:hl L w) {a0:Lb Ua} {v0_0:Vc} (h0_0:Rep.R w L [v0_0] a0) {a1:Lb Ua} {v1_0:Vc} (h1_0:Rep.R w L [v1_0] a1)  {r:Lb Ua} (h:cg_p n a0 a1 = some r) :
 Cl 172 #[v0_0,v1_0] w (aj w fun w' u=>∃ v0_0:Vc,u = v0_0/\Rep.R w' L [v0_0] r):=by
 unfold cg_p at h
 refine AM func172 I I I fun _ cs0 hb0=>Ae<|Ah I<|Aa<|Ae<|Ac I ?_
 have hl1:=AY h0_0
 refine Ab (Ba (xs:=a0) underlying105 I h0_0)<|bk h fun H0 E0 h=>Ao .plain I (Does.mk (α:=Ua) E0 (AL w) eb I) fun c2 k0 q0 W1=>Ah I<|Aa<|Ae<|Ah I<|Aa<|Aj<|Ae<|Ac I<|Ab (Ba (xs:=a0) underlying105 I (AH h0_0 q0))<|Ac I<|Aa<|Av ?_
 obtain ⟨b2,v1,k1⟩:=ap h
 refine BP (α:=Ua × Nat × (Lb Ua) × (Lb Vc)) (fun ⟨j0,b0,c0,d0⟩=>[(1,v1_0),(5,(.slice (some ⟨k0,0,none⟩) ((a0.length:Nat):Int).toNat ((a0.length:Nat):Int).toNat)),(6,vU j0),(13,v0_0),(14,vn a0.length),(15,vn b0)]) (fun ⟨j0,b0,c0,d0⟩=>[rr w 30 Ua (.slice (some ⟨k0,0,none⟩) ((a0.length:Nat):Int).toNat ((a0.length:Nat):Int).toNat) c0.length d0]) (fun ⟨j0,b0,c0,d0⟩ F0=>Cells F0 (bl [rr w 30 Ua (.slice (some ⟨k0,0,none⟩) ((a0.length:Nat):Int).toNat ((a0.length:Nat):Int).toNat) c0.length d0] ++ L) d0 c0) (fun ⟨j0,b0,c0,d0⟩=>(j0,b0,c0)) (0,0,H0,(List.replicate ((a0.length:Nat):Int).toNat [vW 0]).flatten) v1 q0 (AI (cs:=(List.replicate ((a0.length:Nat):Int).toNat [vW 0]).flatten) (xs:=H0) q0 L (Cells.mk E0 I)) ?_
 rintro M1 ⟨j0,b0,c0,d0⟩ F0 V0 g0 X0 A0 h
 unfold cg_l1 at h
 try dsimp only at h
 refine Ae<|Ab (AU (i:=b0) (j:=a0.length) I I)<|Aa<|Aj<|AV I h (fun K0 h=>?_) (fun K0 h=>?_)
 refine Aq<|Aj<|Av<|Ae<|Ac I<|bk h fun x0 B1 h=>?_
 obtain ⟨J1,Q1,b1,p1,P0,x1,s1⟩:=Bh (AH h0_0 g0) B1
 have c1:P0 = [vU x0]:=x1; subst c1
 refine Ab (Be 1 b0 I b1 I I p1)<|Bf I (s1 0 _ I)<|Ah I<|Ah I<|Aa<|Ae<|Ah I<|Aa<|Aj<|Ae<|Ac I<|Ac I ?_
 have v0:=AH h1_0 g0
 have Y1:=AY v0
 refine Ab (Ba (xs:=a1) underlying105 I v0)<|Ab (AU (i:=b0) (j:=a1.length) I I)<|Aa<|MX.jo (α:=Ua) (fun p0=>[(1,v1_0),(5,(.slice (some ⟨k0,0,none⟩) ((a0.length:Nat):Int).toNat ((a0.length:Nat):Int).toNat)),(6,vU j0),(13,v0_0),(14,vn a0.length),(15,vn b0),(7,vn b0),(8,vU x0),(9,vU p0)]) (fun p0=>[rr w 30 Ua (.slice (some ⟨k0,0,none⟩) ((a0.length:Nat):Int).toNat ((a0.length:Nat):Int).toNat) c0.length d0]) (fun p0=>p0) g0 h ?_ ?_
 rintro p0 g2 s0 z0 h
 try dsimp only at h
 refine Am<|Ac I<|Ac I<|Ac I<|Ac I<|Ac I<|bk h fun I1 F1 h=>Ab (FV.sub64 (a:=x0) (b:=p0) (c:=j0) func193 I I I I I I I F1)<|Ac I<|Ab (Ai I I)<|Ab (Ai I I)<|bk h fun G1 C1 h=>?_
 have D0:=AR A0 z0
 obtain ⟨I0,R1,u0,C0,Q0,y1,Z1⟩:=BS (α:=Ua) s0 .hd D0 C1
 obtain ⟨J0,U1,B0⟩:=BC (α:=Ua) s0 .hd C0
 obtain rfl:I0 = ⟨J0,0,none⟩:=by rw [B0] at u0; cases u0; rfl
 have d1:Q0 = [vU G1]:=y1; subst d1
 refine Ab (Be 1 b0 I u0 I I C0)<|bk h fun H1 E1 h=>RG.acts' .plain (Acts.set (α:=Ua) (i:=b0) E1 s0 B0 (fun _=>.hd) D0 I I I I I I) fun d2 ⟨R0,W0,Y0,Z0⟩=>Ah I<|Aa<|Ax<|Am<|Ab (Bc (i:=b0) (j:=1) I I (by omega))<|Ac I<|Aa<|V0 (I1.2,b0 + 1,H1,R0) W0 (Tt X0 (Tt z0 Y0)) Z0 h
 intro P1 y0 h
 try dsimp only at h
 refine AV I h (fun M0 h=>?_) (fun M0 h=>?_)
 refine Am<|Ac I<|Ac I<|bk h fun G0 D1 h=>?_
 obtain ⟨K1,V1,g1,q1,U0,z1,u1⟩:=Bh v0 D1
 have j1:U0 = [vU G0]:=z1; subst j1
 refine Ab (Be 1 b0 I g1 I I q1)<|Bf I (u1 0 _ I)<|Ah I<|Aa<|y0 G0 g0 (BM _ _) h
 refine Aq<|y0 (0:Ua) g0 (BM _ _) h
 refine AZ I ?_
 have h:=k1 _ h
 try dsimp only at h
 refine Ae<|Ac I<|Ah I<|Aa<|Ar I ?_
 have t0:=Bu g0 .hd
 have X1:=Bv g0 .hd
 have A1:=Bw (α:=Ua) (v:=(.slice (some ⟨k0,0,none⟩) ((a0.length:Nat):Int).toNat ((a0.length:Nat):Int).toNat)) (xs:=c0) t0 L (Bi (α:=Ua) g0 .hd A0 hL)
 refine Bb hb0 func172 I I ?_
 cases h
 exact ⟨t0.ag,fun w9 hw9=>⟨(.slice (some ⟨k0,0,none⟩) ((a0.length:Nat):Int).toNat ((a0.length:Nat):Int).toNat),I,t0.kd A1 hw9⟩⟩
def eF:Lb UInt8:=[0,1,2,2,3,3,3,3,4,4,4,4,4,4,4,4,5,5,5,5,5,5,5,5,5,5,5,5,5,5,5,5,6,6,6,6,6,6,6,6,6,6,6,6,6,6,6,6,6,6,6,6,6,6,6,6,6,6,6,6,6,6,6,6,7,7,7,7,7,7,7,7,7,7,7,7,7,7,7,7,7,7,7,7,7,7,7,7,7,7,7,7,7,7,7,7,7,7,7,7,7,7,7,7,7,7,7,7,7,7,7,7,7,7,7,7,7,7,7,7,7,7,7,7,7,7,7,7,8,8,8,8,8,8,8,8,8,8,8,8,8,8,8,8,8,8,8,8,8,8,8,8,8,8,8,8,8,8,8,8,8,8,8,8,8,8,8,8,8,8,8,8,8,8,8,8,8,8,8,8,8,8,8,8,8,8,8,8,8,8,8,8,8,8,8,8,8,8,8,8,8,8,8,8,8,8,8,8,8,8,8,8,8,8,8,8,8,8,8,8,8,8,8,8,8,8,8,8,8,8,8,8,8,8,8,8,8,8,8,8,8,8,8,8,8,8,8,8,8,8,8,8,8,8,8,8]
def cq_p (_n:Nat) (a0:Ua):Oa Int:=
  jn (fun (u2,i3)=>jn (fun (b0,g0)=>jn (fun (q0,s0)=>(eF[(aq q0).toNat]?).bind fun t0=>(chk (s0 + ((t0.toNat:Nat):Int))).bind fun j0=>some j0) (fun d0=>(if (256:Ua) <= b0 then (chk (g0 + 8)).bind fun k0=>d0 (shrU b0 8,k0) else d0 (b0,g0)))) (fun c0=>(if (65536:Ua) <= u2 then (chk (((i3:Nat):Int) + 16)).bind fun p0=>c0 (shrU u2 16,p0) else c0 (u2,((i3:Nat):Int))))) (fun J7=>(if (4294967296:Ua) <= a0 then J7 (shrU a0 32,32) else J7 (a0,0)))
theorem cq_c (n:Nat) {L w} (_hL:hl L w) (a0:Ua)  {r:Int} (h:cq_p n a0 = some r) :
 Cl 203 #[vU a0] w (aj w fun _ u=>u = vI r):=by
 unfold cq_p at h
 have hS0:=AL w
 refine AM func203 I I I fun _ cs0 hb0=>Ae<|Ah I<|Aa<|Aj<|Ae<|Ac I<|Ab (FV.geqU (a:=a0) (b:=(4294967296:Ua)) I I)<|Aa<|MX.jo (α:=Ua × Nat) (fun ⟨u2,i3⟩=>[(0,vU u2),(2,vn i3)]) (fun ⟨u2,i3⟩=>[]) (fun ⟨u2,i3⟩=>(u2,i3)) hS0 h ?_ ?_
 rintro ⟨u2,i3⟩ wx3 hS4 hT5 h
 try dsimp only at h
 refine Aj<|Ae<|Ac I<|Ab (FV.geqU (a:=u2) (b:=(65536:Ua)) I I)<|Aa<|MX.jo (α:=Ua × Int) (fun ⟨b0,d0⟩=>[(0,vU b0),(2,vI d0)]) (fun ⟨b0,d0⟩=>[]) (fun ⟨b0,d0⟩=>(b0,d0)) hS4 h ?_ ?_
 rintro ⟨b0,d0⟩ J0 j0 F0 h
 try dsimp only at h
 refine Aj<|Ae<|Ac I<|Ab (FV.geqU (a:=b0) (b:=(256:Ua)) I I)<|Aa<|MX.jo (α:=Ua × Int) (fun ⟨c0,g0⟩=>[(0,vU c0),(2,vI g0)]) (fun ⟨c0,g0⟩=>[]) (fun ⟨c0,g0⟩=>(c0,g0)) j0 h ?_ ?_
 rintro ⟨c0,g0⟩ K0 v0 G0 h
 try dsimp only at h
 refine Ae<|Ac I<|Ac I<|Ab (FV.conv8 (a:=c0) underlying30 underlying5 I)<|bk h fun k0 A0 h=>Ab (FV.strIdx (k:=(aq c0).toNat) (tab:=eF) underlying9 I I I I A0) ?_
 have H0:=k0.toNat_lt
 refine Ab (FV.convN (i:=k0.toNat) underlying5 underlying3 I (by omega))<|bk h fun I0 x0 h=>Ab (FV.addc (i:=g0) (j:=((k0.toNat:Nat):Int)) I I x0)<|Ah I<|Aa<|Ar I<|Bb hb0 func203 I I ?_
 cases h
 exact v0.gv
 intro E0 q0 h
 try dsimp only at h
 refine AV I h (fun s0 h=>?_) (fun s0 h=>?_)
 refine Ae<|Ac I<|Ab (FV.shrU (a:=b0) (j:=8) I I)<|Ah I<|Aa<|Am<|Ac I<|bk h fun B0 y0 h=>Ab (FV.addc (i:=d0) (j:=8) I I y0)<|Ah I<|Aa<|q0 (shrU b0 8,B0) j0 (BM _ _) h
 refine Aq<|q0 (b0,d0) j0 (BM _ _) h
 intro D0 p0 h
 try dsimp only at h
 refine AV I h (fun t0 h=>?_) (fun t0 h=>?_)
 refine Ae<|Ac I<|Ab (FV.shrU (a:=u2) (j:=16) I I)<|Ah I<|Aa<|Am<|Ac I<|bk h fun C0 z0 h=>Ab (FV.addc (i:=((i3:Nat):Int)) (j:=16) I I z0)<|Ah I<|Aa<|p0 (shrU u2 16,C0) hS4 (BM _ _) h
 refine Aq<|p0 (u2,((i3:Nat):Int)) hS4 (BM _ _) h
 intro J7 hJ8 h
 try dsimp only at h
 refine AV I h (fun u0 h=>?_) (fun u0 h=>?_)
 refine Ae<|Ac I<|Ab (FV.shrU (a:=a0) (j:=32) I I)<|Ah I<|Aa<|Am<|Ah I<|Aa<|hJ8 (shrU a0 32,32) hS0 (BM _ _) h
 refine Aq<|hJ8 (a0,0) hS0 (BM _ _) h
def bE_p (n:Nat) (a0:Ua):Oa Int:=
  (cq_p n a0).bind fun y1=>(chk (64 - y1)).bind fun s2=>some s2
theorem bE_c (n:Nat) {L w} (hL:hl L w) (a0:Ua)  {r:Int} (h:bE_p n a0 = some r) :
 Cl 205 #[vU a0] w (aj w fun _ u=>u = vI r):=by
 unfold bE_p at h
 have hS0:=AL w
 refine AM func205 I I I fun _ cs0 hb0=>Ae<|Ah I<|Aa<|Ae<|Ac I<|bk h fun y1 hy1 h=>Bd (vI y1) (bd 203) I (e1 I) (fun w9 hw9=>cq_c n (hS0.hL0 hL hw9) a0 hy1) I<|bk h fun s2 hs2 h=>Ab (FV.subc (i:=64) (j:=y1) I I hs2)<|Ah I<|Aa<|Ar I<|Bb hb0 func205 I I ?_
 cases h
 exact hS0.gv
def bt_l1 (_n:Nat) (a2:Ua) (y8:Int) (a1:Ua) (d0:Ua × Ua -> Oa Ua):Ua × Ua -> Oa Ua
  | (b0,c0)=>(if (4294967296:Ua) <= b0 then (if (4294967296:Ua) <= (c0 + (shrU (shlU a2 (ae y8).toNat) 32)) then some (b0 - (1:Ua)) else d0 (b0 - (1:Ua),c0 + (shrU (shlU a2 (ae y8).toNat) 32))) else (if (((4294967296:Ua) * c0) + ((shlU a1 (ae y8).toNat) &&& (4294967295:Ua))) < (b0 * ((shlU a2 (ae y8).toNat) &&& (4294967295:Ua))) then (if (4294967296:Ua) <= (c0 + (shrU (shlU a2 (ae y8).toNat) 32)) then some (b0 - (1:Ua)) else d0 (b0 - (1:Ua),c0 + (shrU (shlU a2 (ae y8).toNat) 32))) else some b0))
def bt_l2 (_n:Nat) (a2:Ua) (y8:Int) (a1:Ua) (d0:Ua × Ua -> Oa Ua):Ua × Ua -> Oa Ua
  | (b0,c0)=>(if (4294967296:Ua) <= b0 then (if (4294967296:Ua) <= (c0 + (shrU (shlU a2 (ae y8).toNat) 32)) then some (b0 - (1:Ua)) else d0 (b0 - (1:Ua),c0 + (shrU (shlU a2 (ae y8).toNat) 32))) else (if (((4294967296:Ua) * c0) + (shrU (shlU a1 (ae y8).toNat) 32)) < (b0 * ((shlU a2 (ae y8).toNat) &&& (4294967295:Ua))) then (if (4294967296:Ua) <= (c0 + (shrU (shlU a2 (ae y8).toNat) 32)) then some (b0 - (1:Ua)) else d0 (b0 - (1:Ua),c0 + (shrU (shlU a2 (ae y8).toNat) 32))) else some b0))
def bt_p (n:Nat) (a0:Ua) (a1:Ua) (a2:Ua):Oa (Ua × Ua):=
  (if a2 = (0:Ua) then none else (if a2 <= a0 then none else (if a0 = (0:Ua) then (lB a1 a2).bind fun s6=>(pR a1 a2).bind fun s7=>some (s6,s7) else (bE_p n a2).bind fun y8=>(lB ((shlU a0 (ae y8).toNat) ||| (shrU a1 ((64:Ua) - (ae y8)).toNat)) (shrU (shlU a2 (ae y8).toNat) 32)).bind fun s9=>(some (((shlU a0 (ae y8).toNat) ||| (shrU a1 ((64:Ua) - (ae y8)).toNat)) - (s9 * (shrU (shlU a2 (ae y8).toNat) 32)))).bind fun p0=>jn (fun b0=>(some (((shlU a0 (ae y8).toNat) ||| (shrU a1 ((64:Ua) - (ae y8)).toNat)) * (4294967296:Ua))).bind fun c0=>(lB ((c0 + (shrU (shlU a1 (ae y8).toNat) 32)) - (b0 * (shlU a2 (ae y8).toNat))) (shrU (shlU a2 (ae y8).toNat) 32)).bind fun d0=>(some (((c0 + (shrU (shlU a1 (ae y8).toNat) 32)) - (b0 * (shlU a2 (ae y8).toNat))) - (d0 * (shrU (shlU a2 (ae y8).toNat) 32)))).bind fun q0=>jn (fun g0=>(some (((c0 + (shrU (shlU a1 (ae y8).toNat) 32)) - (b0 * (shlU a2 (ae y8).toNat))) * (4294967296:Ua))).bind fun s0=>(some ((s0 + ((shlU a1 (ae y8).toNat) &&& (4294967295:Ua))) - (g0 * (shlU a2 (ae y8).toNat)))).bind fun t0=>some ((b0 * (4294967296:Ua)) + g0,shrU t0 (ae y8).toNat)) (fun k0=>Option.bind (ao (bt_l1 n a2 y8 a1) n (d0,q0)) (k0))) (fun j0=>Option.bind (ao (bt_l2 n a2 y8 a1) n (s9,p0)) (j0)))))
theorem bt_c (n:Nat) {L w} (hL:hl L w) (a0:Ua) (a1:Ua) (a2:Ua)  {r:Ua × Ua} (h:bt_p n a0 a1 a2 = some r) :
 Cl 186 #[vU a0,vU a1,vU a2] w (aj w fun _ u=>u = .tuple #[vU r.1,vU r.2]):=by
 unfold bt_p at h
 have hS0:=AL w
 refine AM func186 I I I fun _ cs0 hb0=>Ae<|Ah I<|Ah I<|Aa<|Aj<|Ae<|Ac I<|Ab (FV.eqlU (a:=a2) (b:=(0:Ua)) I I)<|Aa<|AV I h (fun c1 h=>?_) (fun c1 h=>?_)
 refine Am ?_
 cases h
 refine Aq<|Aj<|Ae<|Ac I<|Ac I<|Ab (FV.leqU (a:=a2) (b:=a0) I I)<|Aa<|AV I h (fun c2 h=>?_) (fun c2 h=>?_)
 refine Am ?_
 cases h
 refine Aq<|Aj<|Ae<|Ac I<|Ab (FV.eqlU (a:=a0) (b:=(0:Ua)) I I)<|Aa<|AV I h (fun c3 h=>?_) (fun c3 h=>?_)
 refine Aj<|du 8 fun kt4 kp5=>Rv 0 kt4 I kp5 (fun _=>Al I)<|Rv 1 kt4 I kp5 (fun _=>Al I)<|bk h fun s6 hs6 h=>Rv 2 kt4 I kp5 (fun _=>FV.quoV (a:=a1) (b:=a2) I I hs6)<|Rv 3 kt4 I kp5 (fun _=>Al I)<|Rv 4 kt4 I kp5 (fun _=>Al I)<|bk h fun s7 hs7 h=>Rv 5 kt4 I kp5 (fun _=>FV.remV (a:=a1) (b:=a2) I I hs7)<|Rv 6 kt4 I kp5 (fun _=>Bj I)<|Rv 7 kt4 I kp5 (fun _=>Bj I)<|AK (dk kt4)<|Ar I<|Au hb0 func186 I (.cons (.tmp I) (.cons (.tmp I) .nil)) I ?_
 cases h
 exact hS0.gv
 refine Aq<|Ae<|Ac I<|bk h fun y8 hy8 h=>Bd (vI y8) (bd 205) I (e1 I) (fun w9 hw9=>bE_c n (hS0.hL0 hL hw9) a2 hy8) I<|Ab (FV.convU (i:=y8) underlying3 underlying193 I)<|Ah I<|Aa<|Ae<|Ac I<|Ac I<|Ab (FV.shlU (a:=a2) (j:=(ae y8).toNat) I I)<|Ah I<|Aa<|Ae<|Ac I<|Ab (FV.shrU (a:=shlU a2 (ae y8).toNat) (j:=32) I I)<|Ah I<|Aa<|Ae<|Ac I<|Ab (FV.andU (a:=shlU a2 (ae y8).toNat) (b:=(4294967295:Ua)) I I)<|Ah I<|Aa<|Ae<|Ac I<|Ac I<|Ab (FV.shlU (a:=a0) (j:=(ae y8).toNat) I I)<|Ac I<|Ac I<|Ab (FV.subU (a:=(64:Ua)) (b:=ae y8) I I)<|Ab (FV.shrU (a:=a1) (j:=((64:Ua) - (ae y8)).toNat) I I)<|Ab (FV.orU (a:=shlU a0 (ae y8).toNat) (b:=shrU a1 ((64:Ua) - (ae y8)).toNat) I I)<|Ah I<|Aa<|Ae<|Ac I<|Ac I<|Ab (FV.shlU (a:=a1) (j:=(ae y8).toNat) I I)<|Ah I<|Aa<|Ae<|Ac I<|Ab (FV.shrU (a:=shlU a1 (ae y8).toNat) (j:=32) I I)<|Ah I<|Aa<|Ae<|Ac I<|Ab (FV.andU (a:=shlU a1 (ae y8).toNat) (b:=(4294967295:Ua)) I I)<|Ah I<|Aa<|Ae<|Ac I<|Ac I<|bk h fun s9 hs9 h=>Ab (FV.quoV (a:=(shlU a0 (ae y8).toNat) ||| (shrU a1 ((64:Ua) - (ae y8)).toNat)) (b:=shrU (shlU a2 (ae y8).toNat) 32) I I hs9)<|Ah I<|Aa<|Ae<|Ac I ?_
 refine Ac I<|Ac I<|Ab (FV.mulU (a:=s9) (b:=shrU (shlU a2 (ae y8).toNat) 32) I I)<|bk h fun d1 W0 h=>Ab (FV.as (FV.subU (a:=(shlU a0 (ae y8).toNat) ||| (shrU a1 ((64:Ua) - (ae y8)).toNat)) (b:=s9 * (shrU (shlU a2 (ae y8).toNat) 32)) I I) (congrArg (fun z:Ua=>Value.int .u64 (z.toNat:Int)) (Option.some.inj W0)))<|Ah I<|Aa<|Aj<|Av<|MX.xo (α:=Ua) 0 (fun b0=>[(2,vW ((shlU a2 (ae y8).toNat).toNat:Int)),(8,vW ((ae y8).toNat:Int)),(9,vW ((shrU (shlU a2 (ae y8).toNat) 32).toNat:Int)),(10,vW (((shlU a2 (ae y8).toNat) &&& (4294967295:Ua)).toNat:Int)),(11,vW (((shlU a0 (ae y8).toNat) ||| (shrU a1 ((64:Ua) - (ae y8)).toNat)).toNat:Int)),(13,vW ((shrU (shlU a1 (ae y8).toNat) 32).toNat:Int)),(14,vW (((shlU a1 (ae y8).toNat) &&& (4294967295:Ua)).toNat:Int)),(15,vU b0)]) (fun b0=>[]) (fun b0=>b0) hS0 I h ?_ ?_
 rintro b0 A1 D0 t1 h
 try dsimp only at h
 refine Ae<|Ac I<|bk h fun p0 X0 h=>Ab (FV.as (FV.mulU (a:=(shlU a0 (ae y8).toNat) ||| (shrU a1 ((64:Ua) - (ae y8)).toNat)) (b:=(4294967296:Ua)) I I) (congrArg (fun z:Ua=>Value.int .u64 (z.toNat:Int)) (Option.some.inj X0)))<|Ac I<|Ab (FV.addU (a:=p0) (b:=shrU (shlU a1 (ae y8).toNat) 32) I I)<|Ac I<|Ac I<|Ab (FV.mulU (a:=b0) (b:=shlU a2 (ae y8).toNat) I I)<|Ab (FV.subU (a:=p0 + (shrU (shlU a1 (ae y8).toNat) 32)) (b:=b0 * (shlU a2 (ae y8).toNat)) I I)<|Ah I<|Aa<|Ae<|Ac I<|Ac I<|bk h fun A0 V0 h=>Ab (FV.quoV (a:=(p0 + (shrU (shlU a1 (ae y8).toNat) 32)) - (b0 * (shlU a2 (ae y8).toNat))) (b:=shrU (shlU a2 (ae y8).toNat) 32) I I V0)<|Ah I<|Aa<|Ae<|Ac I<|Ac I<|Ac I<|Ab (FV.mulU (a:=A0) (b:=shrU (shlU a2 (ae y8).toNat) 32) I I)<|bk h fun g1 Y0 h=>Ab (FV.as (FV.subU (a:=(p0 + (shrU (shlU a1 (ae y8).toNat) 32)) - (b0 * (shlU a2 (ae y8).toNat))) (b:=A0 * (shrU (shlU a2 (ae y8).toNat) 32)) I I) (congrArg (fun z:Ua=>Value.int .u64 (z.toNat:Int)) (Option.some.inj Y0)))<|Ah I<|Aa<|Aj<|Av<|MX.xo (α:=Ua) 2 (fun k0=>[(2,vW ((shlU a2 (ae y8).toNat).toNat:Int)),(8,vW ((ae y8).toNat:Int)),(14,vW (((shlU a1 (ae y8).toNat) &&& (4294967295:Ua)).toNat:Int)),(15,vU b0),(17,vW (((p0 + (shrU (shlU a1 (ae y8).toNat) 32)) - (b0 * (shlU a2 (ae y8).toNat))).toNat:Int)),(18,vU k0)]) (fun k0=>[]) (fun k0=>k0) D0 I h ?_ ?_
 rintro k0 B1 Q0 u1 h
 try dsimp only at h
 refine Ae<|Ac I<|Ab (FV.mulU (a:=b0) (b:=(4294967296:Ua)) I I)<|Ac I<|Ab (FV.addU (a:=b0 * (4294967296:Ua)) (b:=k0) I I)<|Ac I<|bk h fun E0 Z0 h=>Ab (FV.as (FV.mulU (a:=(p0 + (shrU (shlU a1 (ae y8).toNat) 32)) - (b0 * (shlU a2 (ae y8).toNat))) (b:=(4294967296:Ua)) I I) (congrArg (fun z:Ua=>Value.int .u64 (z.toNat:Int)) (Option.some.inj Z0)))<|Ac I<|Ab (FV.addU (a:=E0) (b:=(shlU a1 (ae y8).toNat) &&& (4294967295:Ua)) I I)<|Ac I<|Ac I<|Ab (FV.mulU (a:=k0) (b:=shlU a2 (ae y8).toNat) I I)<|bk h fun j1 b1 h=>Ab (FV.as (FV.subU (a:=E0 + ((shlU a1 (ae y8).toNat) &&& (4294967295:Ua))) (b:=k0 * (shlU a2 (ae y8).toNat)) I I) (congrArg (fun z:Ua=>Value.int .u64 (z.toNat:Int)) (Option.some.inj b1)))<|Ac I<|Ab (FV.shrU (a:=j1) (j:=(ae y8).toNat) I I)<|Ah I<|Ah I<|Aa<|Ar I<|Au hb0 func186 I (.cons (.tmp I) (.cons (.tmp I) .nil)) I ?_
 cases h
 exact Q0.gv
 intro s1 x0 h
 try dsimp only at h
 obtain ⟨v1,R0,y0⟩:=ap h
 refine MX.lo (α:=Ua × Ua) (fun ⟨c0,g0⟩=>[(2,vW ((shlU a2 (ae y8).toNat).toNat:Int)),(8,vW ((ae y8).toNat:Int)),(9,vW ((shrU (shlU a2 (ae y8).toNat) 32).toNat:Int)),(10,vW (((shlU a2 (ae y8).toNat) &&& (4294967295:Ua)).toNat:Int)),(14,vW (((shlU a1 (ae y8).toNat) &&& (4294967295:Ua)).toNat:Int)),(15,vU b0),(17,vW (((p0 + (shrU (shlU a1 (ae y8).toNat) 32)) - (b0 * (shlU a2 (ae y8).toNat))).toNat:Int)),(18,vU c0),(16,vU g0)]) (fun ⟨c0,g0⟩=>[]) (fun ⟨c0,g0⟩=>(c0,g0)) (A0,g1) R0 D0 ?_
 rintro k1 ⟨c0,g0⟩ y1 B0 q0 t0 h
 unfold bt_l1 at h
 try dsimp only at h
 refine Aj<|Ae<|Ac I<|Ab (FV.geqU (a:=c0) (b:=(4294967296:Ua)) I I)<|Ac I<|RG.ifd (s:=104) I h (fun F0 h=>?_) (fun F0 h=>?_)
 refine Ap<|Ap<|Ap<|Ap<|Ap<|Ap<|Ap<|Ap<|Bk I I<|Aa<|AG I<|Aq<|Av<|Ae<|Ac I<|Ab (FV.subU (a:=c0) (b:=(1:Ua)) I I)<|Ah I<|Aa<|Ae<|Ac I<|Ac I<|Ab (FV.addU (a:=g0) (b:=shrU (shlU a2 (ae y8).toNat) 32) I I)<|Ah I<|Aa<|Ae<|Ac I<|Ab (FV.geqU (a:=g0 + (shrU (shlU a2 (ae y8).toNat) 32)) (b:=(4294967296:Ua)) I I)<|Aa<|AV I h (fun G0 h=>?_) (fun G0 h=>?_)
 refine AZ I ?_
 have h:=y0 _ h
 try dsimp only at h
 exact x0 (c0 - (1:Ua)) q0 t0 h
 refine Aq<|Ax<|B0 (c0 - (1:Ua),g0 + (shrU (shlU a2 (ae y8).toNat) 32)) q0 t0 h
 refine AJ (Al I)<|AJ (Al I)<|AJ (FV.mulU (a:=c0) (b:=(shlU a2 (ae y8).toNat) &&& (4294967295:Ua)) I I)<|AJ (Al I)<|AJ (FV.mulU (a:=(4294967296:Ua)) (b:=g0) I I)<|AJ (Al I)<|AJ (FV.addU (a:=(4294967296:Ua) * g0) (b:=(shlU a1 (ae y8).toNat) &&& (4294967295:Ua)) I I)<|AJ (FV.gtrU (a:=c0 * ((shlU a2 (ae y8).toNat) &&& (4294967295:Ua))) (b:=((4294967296:Ua) * g0) + ((shlU a1 (ae y8).toNat) &&& (4294967295:Ua))) I I)<|Bs I I<|Aa<|AV I h (fun H0 h=>?_) (fun H0 h=>?_)
 refine Aq<|Av<|Ae<|Ac I<|Ab (FV.subU (a:=c0) (b:=(1:Ua)) I I)<|Ah I<|Aa<|Ae<|Ac I<|Ac I<|Ab (FV.addU (a:=g0) (b:=shrU (shlU a2 (ae y8).toNat) 32) I I)<|Ah I<|Aa<|Ae<|Ac I<|Ab (FV.geqU (a:=g0 + (shrU (shlU a2 (ae y8).toNat) 32)) (b:=(4294967296:Ua)) I I)<|Aa<|AV I h (fun I0 h=>?_) (fun I0 h=>?_)
 refine AZ I ?_
 have h:=y0 _ h
 try dsimp only at h
 exact x0 (c0 - (1:Ua)) q0 t0 h
 refine Aq<|Ax<|B0 (c0 - (1:Ua),g0 + (shrU (shlU a2 (ae y8).toNat) 32)) q0 t0 h
 refine AZ I ?_
 have h:=y0 _ h
 try dsimp only at h
 exact x0 c0 q0 t0 h
 intro q1 v0 h
 try dsimp only at h
 obtain ⟨x1,U0,z0⟩:=ap h
 refine MX.lo (α:=Ua × Ua) (fun ⟨d0,j0⟩=>[(2,vW ((shlU a2 (ae y8).toNat).toNat:Int)),(8,vW ((ae y8).toNat:Int)),(9,vW ((shrU (shlU a2 (ae y8).toNat) 32).toNat:Int)),(10,vW (((shlU a2 (ae y8).toNat) &&& (4294967295:Ua)).toNat:Int)),(11,vW (((shlU a0 (ae y8).toNat) ||| (shrU a1 ((64:Ua) - (ae y8)).toNat)).toNat:Int)),(13,vW ((shrU (shlU a1 (ae y8).toNat) 32).toNat:Int)),(14,vW (((shlU a1 (ae y8).toNat) &&& (4294967295:Ua)).toNat:Int)),(15,vU d0),(16,vU j0)]) (fun ⟨d0,j0⟩=>[]) (fun ⟨d0,j0⟩=>(d0,j0)) (s9,d1) U0 hS0 ?_
 rintro p1 ⟨d0,j0⟩ z1 C0 s0 u0 h
 unfold bt_l2 at h
 try dsimp only at h
 refine Aj<|Ae<|Ac I<|Ab (FV.geqU (a:=d0) (b:=(4294967296:Ua)) I I)<|Ac I<|RG.ifd (s:=69) I h (fun J0 h=>?_) (fun J0 h=>?_)
 refine Ap<|Ap<|Ap<|Ap<|Ap<|Ap<|Ap<|Ap<|Bk I I<|Aa<|AG I<|Aq<|Av<|Ae<|Ac I<|Ab (FV.subU (a:=d0) (b:=(1:Ua)) I I)<|Ah I<|Aa<|Ae<|Ac I<|Ac I<|Ab (FV.addU (a:=j0) (b:=shrU (shlU a2 (ae y8).toNat) 32) I I)<|Ah I<|Aa<|Ae<|Ac I<|Ab (FV.geqU (a:=j0 + (shrU (shlU a2 (ae y8).toNat) 32)) (b:=(4294967296:Ua)) I I)<|Aa<|AV I h (fun K0 h=>?_) (fun K0 h=>?_)
 refine AZ I ?_
 have h:=z0 _ h
 try dsimp only at h
 exact v0 (d0 - (1:Ua)) s0 u0 h
 refine Aq<|Ax<|C0 (d0 - (1:Ua),j0 + (shrU (shlU a2 (ae y8).toNat) 32)) s0 u0 h
 refine AJ (Al I)<|AJ (Al I)<|AJ (FV.mulU (a:=d0) (b:=(shlU a2 (ae y8).toNat) &&& (4294967295:Ua)) I I)<|AJ (Al I)<|AJ (FV.mulU (a:=(4294967296:Ua)) (b:=j0) I I)<|AJ (Al I)<|AJ (FV.addU (a:=(4294967296:Ua) * j0) (b:=shrU (shlU a1 (ae y8).toNat) 32) I I)<|AJ (FV.gtrU (a:=d0 * ((shlU a2 (ae y8).toNat) &&& (4294967295:Ua))) (b:=((4294967296:Ua) * j0) + (shrU (shlU a1 (ae y8).toNat) 32)) I I)<|Bs I I<|Aa<|AV I h (fun M0 h=>?_) (fun M0 h=>?_)
 refine Aq<|Av<|Ae<|Ac I<|Ab (FV.subU (a:=d0) (b:=(1:Ua)) I I)<|Ah I<|Aa<|Ae<|Ac I<|Ac I<|Ab (FV.addU (a:=j0) (b:=shrU (shlU a2 (ae y8).toNat) 32) I I)<|Ah I<|Aa<|Ae<|Ac I<|Ab (FV.geqU (a:=j0 + (shrU (shlU a2 (ae y8).toNat) 32)) (b:=(4294967296:Ua)) I I)<|Aa<|AV I h (fun P0 h=>?_) (fun P0 h=>?_)
 refine AZ I ?_
 have h:=z0 _ h
 try dsimp only at h
 exact v0 (d0 - (1:Ua)) s0 u0 h
 refine Aq<|Ax<|C0 (d0 - (1:Ua),j0 + (shrU (shlU a2 (ae y8).toNat) 32)) s0 u0 h
 refine AZ I ?_
 have h:=z0 _ h
 try dsimp only at h
 exact v0 d0 s0 u0 h
def cT_p (n:Nat) (a0:Lb Ua):Oa Int:=
  (if a0.length = 0 then some (0:Int) else (chk (64 * ((a0.length:Nat):Int))).bind fun s3=>(idx a0 (((a0.length:Nat):Int) - 1)).bind fun x4=>(bE_p n x4).bind fun c0=>(chk (s3 - c0)).bind fun b0=>some b0)
theorem cT_c (n:Nat) {L w} (hL:hl L w) {a0:Lb Ua} {v0_0:Vc} (h0_0:Rep.R w L [v0_0] a0)  {r:Int} (h:cT_p n a0 = some r) :
 Cl 187 #[v0_0] w (aj w fun _ u=>u = vI r):=by
 unfold cT_p at h
 have hS0:=AL w
 refine AM func187 I I I fun _ cs0 hb0=>Ae<|Ah I<|Aa<|Aj<|Ae<|Ac I ?_
 have hl1:=AY h0_0
 refine Ab (Ba (xs:=a0) underlying105 I h0_0)<|Ab (FV.eqlN (i:=a0.length) (j:=0) I I)<|Aa<|AV I h (fun c2 h=>?_) (fun c2 h=>?_)
 refine Ae<|Ah I<|Aa<|Ar I<|Bb hb0 func187 I I ?_
 cases h
 exact hS0.gv
 refine Aq<|Ae<|Ac I<|Ab (Ba (xs:=a0) underlying105 I h0_0)<|bk h fun s3 hs3 h=>Ab (FV.mulc (i:=64) (j:=((a0.length:Nat):Int)) I I hs3)<|Ac I<|Ac I<|Ab (Ba (xs:=a0) underlying105 I h0_0)<|Ab (FV.subI (i:=((a0.length:Nat):Int)) (j:=1) I I (by omega))<|bk h fun x4 hx4 h=>?_
 obtain ⟨hi5,hx6⟩:=aR hx4
 obtain ⟨A7,c8,he9,g0,c0,k0,j0⟩:=Bh h0_0 hx6
 have d0:c0 = [vU x4]:=k0; subst d0
 refine Ab (FV.idxAddr (m:=1) (i:=(((a0.length:Nat):Int) - 1).toNat) I I he9 I hi5 g0)<|Bf I (j0 0 _ I)<|bk h fun b0 q0 h=>Bd (vI b0) (bd 205) I (e1 I) (fun w9 hw9=>bE_c n (hS0.hL0 hL hw9) x4 q0) I<|bk h fun s0 p0 h=>Ab (FV.subc (i:=s3) (j:=b0) I I p0)<|Ah I<|Aa<|Ar I<|Bb hb0 func187 I I ?_
 cases h
 exact hS0.gv
def cK_l1 (_n:Nat) (a0:Lb Ua) (a1:Int) (g0:Nat × (Lb Ua) -> Oa (Lb Ua)):Nat × (Lb Ua) -> Oa (Lb Ua)
  | (b0,c0)=>(if b0 < a0.length then (a0[b0]?).bind fun p0=>(ej a1 64).bind fun t0=>(chk (((b0:Nat):Int) + t0)).bind fun j0=>(idx c0 j0).bind fun B0=>(cg a1 64).bind fun u0=>(bT u0).bind fun q0=>(put c0 ((j0.toNat:Nat):Int) (B0 ||| (shlU p0 q0))).bind fun d0=>(cg a1 64).bind fun v0=>(if 0 < v0 then (ej a1 64).bind fun x0=>(chk (((b0:Nat):Int) + x0)).bind fun y0=>(chk (y0 + 1)).bind fun k0=>(cg a1 64).bind fun z0=>(chk (64 - z0)).bind fun A0=>(bT A0).bind fun s0=>(idx d0 k0).bind fun _x218=>(put d0 ((k0.toNat:Nat):Int) (shrU p0 s0)).bind fun C0=>g0 (b0 + 1,C0) else g0 (b0 + 1,d0)) else some c0)
def cK_p (n:Nat) (a0:Lb Ua) (a1:Int):Oa (Lb Ua):=
  (ej a1 64).bind fun s2=>(chk (((a0.length:Nat):Int) + s2)).bind fun s3=>(chk (s3 + 1)).bind fun s4=>(mk s4 (0:Ua)).bind fun b0=>Option.bind (ao (cK_l1 n a0 a1) n (0,b0)) (fun c0=>(aB_p n false c0).bind fun d0=>some d0.fk)
theorem cK_c (n:Nat) {L w} (hL:hl L w) {a0:Lb Ua} {v0_0:Vc} (h0_0:Rep.R w L [v0_0] a0) {a1:Int}  {r:Lb Ua} (h:cK_p n a0 a1 = some r) :
 Cl 188 #[v0_0,vI a1] w (aj w fun w' u=>∃ v0_0:Vc,u = v0_0/\Rep.R w' L [v0_0] r):=by
 unfold cK_p at h
 refine AM func188 I I I fun _ cs0 hb0=>Ae<|Ah I<|Aa<|Ae<|Ac I ?_
 have hl1:=AY h0_0
 refine Ab (Ba (xs:=a0) underlying105 I h0_0)<|Ac I<|bk h fun s2 hs2 h=>Ab (FV.quoc (i:=a1) (j:=64) I I hs2)<|bk h fun s3 hs3 h=>Ab (FV.addc (i:=((a0.length:Nat):Int)) (j:=s2) I I hs3)<|bk h fun s4 hs4 h=>Ab (FV.addc (i:=s3) (j:=1) I I hs4)<|bk h fun U0 K0 h=>Ao .plain I (Does.mk (α:=Ua) K0 (AL w) eb I) fun Z2 p0 u0 Q2=>Ah I<|Aa<|Aj<|Ae<|Ac I<|Ab (Ba (xs:=a0) underlying105 I (AH h0_0 u0))<|Ac I<|Aa<|Av ?_
 obtain ⟨X2,H1,A1⟩:=ap h
 refine BP (α:=Nat × (Lb Ua) × (Lb Vc)) (fun ⟨c0,g0,j0⟩=>[(1,vI a1),(5,(.slice (some ⟨p0,0,none⟩) s4.toNat s4.toNat)),(15,v0_0),(16,vn a0.length),(17,vn c0)]) (fun ⟨c0,g0,j0⟩=>[rr w 30 Ua (.slice (some ⟨p0,0,none⟩) s4.toNat s4.toNat) g0.length j0]) (fun ⟨c0,g0,j0⟩ Q0=>Cells Q0 (bl [rr w 30 Ua (.slice (some ⟨p0,0,none⟩) s4.toNat s4.toNat) g0.length j0] ++ L) j0 g0) (fun ⟨c0,g0,j0⟩=>(c0,g0)) (0,U0,(List.replicate s4.toNat [vW 0]).flatten) H1 u0 (AI (cs:=(List.replicate s4.toNat [vW 0]).flatten) (xs:=U0) u0 L (Cells.mk K0 I)) ?_
 rintro H2 ⟨c0,g0,j0⟩ Q0 C0 k0 E0 x0 h
 unfold cK_l1 at h
 try dsimp only at h
 refine Ae<|Ab (AU (i:=c0) (j:=a0.length) I I)<|Aa<|Aj<|AV I h (fun Z0 h=>?_) (fun Z0 h=>?_)
 refine Aq<|Aj<|Av<|Ae<|Ac I<|bk h fun t0 b2 h=>?_
 obtain ⟨G2,I2,v1,C1,c1,I1,F1⟩:=Bh (AH h0_0 k0) b2
 have x1:c1 = [vU t0]:=I1; subst x1
 refine Ab (Be 1 c0 I v1 I I C1)<|Bf I (F1 0 _ I)<|Ah I<|Ah I<|Aa<|Aj<|du 13 fun b0 d0=>Rv 0 b0 I d0 (fun _=>Al I)<|Rv 1 b0 I d0 (fun _=>Al I)<|Rv 2 b0 I d0 (fun _=>Al I)<|bk h fun u2 P1 h=>Rv 3 b0 I d0 (fun _=>FV.quoc (i:=a1) (j:=64) I I P1)<|bk h fun B0 Q1 h=>Rv 4 b0 I d0 (fun _=>FV.addc (i:=((c0:Nat):Int)) (j:=u2) I I Q1)<|bk h fun R0 c2 h=>?_
 obtain ⟨I0,d2⟩:=aR c2
 obtain ⟨V0,J2,s0,A0,d1,J1,G1⟩:=BS (α:=Ua) k0 .hd x0 d2
 obtain ⟨X0,K2,G0⟩:=BC (α:=Ua) k0 .hd A0
 obtain rfl:V0 = ⟨X0,0,none⟩:=by rw [G0] at s0; cases s0; rfl
 have y1:d1 = [vU R0]:=J1; subst y1
 refine Rv 5 b0 I d0 (fun _=>Be 1 (B0.toNat) I s0 I I0 A0)<|Rx 6 14336 b0 I d0 (Bp I (G1 0 _ I))<|Rv 7 b0 I d0 (fun _=>Al I)<|Rv 8 b0 I d0 (fun _=>Al I)<|bk h fun v2 R1 h=>Rv 9 b0 I d0 (fun _=>FV.remc (i:=a1) (j:=64) I I R1)<|bk h fun t2 D1 h=>Rv 10 b0 I d0 (fun _=>FV.shlI (a:=t0) (i:=v2) I I D1)<|Rv 11 b0 I d0 (fun _=>FV.orU (a:=R0) (b:=shlU t0 t2) I I)<|Rv 12 b0 I d0 (fun _=>Be 1 (B0.toNat) I s0 I I0 A0)<|bk h fun D2 k2 h=>BK (i:=13) (rk b0) (RO.acts (m' :=16383) (sk b0) I I .plain (Acts.set (α:=Ua) (i:=B0.toNat) k2 k0 G0 (fun _=>.hd) x0 I I I I I I) (fun b3 ⟨g1,q0,F0,y0⟩=>?_))
 refine AK (dk b0)<|Ae<|Ac I<|bk h fun x2 U1 h=>Ab (FV.remc (i:=a1) (j:=64) I I U1)<|Ab (FV.gtr (i:=x2) (j:=0) I I)<|Aa<|AV I h (fun b1 h=>?_) (fun b1 h=>?_)
 refine Am<|Ac I<|Ac I<|Ac I<|bk h fun y2 V1 h=>Ab (FV.quoc (i:=a1) (j:=64) I I V1)<|bk h fun z2 W1 h=>Ab (FV.addc (i:=((c0:Nat):Int)) (j:=y2) I I W1)<|bk h fun M0 X1 h=>Ab (FV.addc (i:=z2) (j:=1) I I X1)<|Ac I<|Ac I<|bk h fun A2 Y1 h=>Ab (FV.remc (i:=a1) (j:=64) I I Y1)<|bk h fun B2 Z1 h=>Ab (FV.subc (i:=64) (j:=A2) I I Z1)<|bk h fun W2 E1 h=>Ab (FV.shrI (a:=t0) (i:=B2) I I E1)<|bk h fun C2 g2 h=>?_
 obtain ⟨B1,j2⟩:=aR g2
 obtain ⟨W0,M2,z0,J0,j1,K1,V2⟩:=BS (α:=Ua) q0 .hd y0 j2
 obtain ⟨Y0,P2,H0⟩:=BC (α:=Ua) q0 .hd J0
 obtain rfl:W0 = ⟨Y0,0,none⟩:=by rw [H0] at z0; cases z0; rfl
 have z1:j1 = [vU C2]:=K1; subst z1
 refine Ab (Be 1 (M0.toNat) I z0 I B1 J0)<|bk h fun E2 p2 h=>RG.acts' .plain (Acts.set (α:=Ua) (i:=M0.toNat) p2 q0 H0 (fun _=>.hd) y0 I I I I I I) fun c3 ⟨k1,p1,q1,u1⟩=>Aa<|Ax<|Am<|Ab (Bc (i:=c0) (j:=1) I I (by omega))<|Ac I<|Aa<|C0 (c0 + 1,E2,k1) p1 (Tt E0 (Tt F0 q1)) u1 h
 refine Aq<|Ax<|Am<|Ab (Bc (i:=c0) (j:=1) I I (by omega))<|Ac I<|Aa<|C0 (c0 + 1,D2,g1) q0 (Tt E0 F0) y0 h
 refine AZ I ?_
 have h:=A1 _ h
 try dsimp only at h
 refine Ae<|Ac I ?_
 have v0:=Bu k0 .hd
 have R2:=Bv k0 .hd
 refine bk h fun F2 q2 h=>jE (bd 166) I (e2 I I) (fun w9 hw9=>aB_c n (v0.hL hL hw9) (Af (Bw (α:=Ua) (v:=(.slice (some ⟨p0,0,none⟩) s4.toNat s4.toNat)) (xs:=g0) v0 L (Bi (α:=Ua) k0 .hd x0 hL)) hw9) q2) I fun d3 Y2 s1 ⟨P0,hu_,M1⟩=>?_
 subst hu_
 obtain ⟨D0,U2⟩:=v0.agr s1
 refine Ab (FV.field1 (cs:=[.bool F2.fc,P0]) (off:=1) (m:=1) I I I I)<|Ah I<|Aa<|Ar I<|Bb hb0 func188 I I ?_
 cases h
 exact ⟨D0.ag,fun w9 hw9=>⟨P0,I,D0.kd M1 hw9⟩⟩

def bF_l1 (n:Nat) (a0:Lb Ua) (a1:Lb Ua) (j0:Ua × Int × (Lb Ua) -> Oa (Ua × (Lb Ua))):Ua × Int × (Lb Ua) -> Oa (Ua × (Lb Ua))
  | (d0,b0,c0)=>(if 0 <= b0 then (idx a0 b0).bind fun p0=>(a1[0]?).bind fun q0=>(bt_p n d0 p0 q0).bind fun g0=>(idx c0 b0).bind fun _x169=>(put c0 ((b0.toNat:Nat):Int) g0.1).bind fun s0=>(chk (b0 - 1)).bind fun k0=>j0 (g0.2,k0,s0) else some (d0,c0))
def bF_l2 (n:Nat) (a1:Lb Ua) (p0:(Lb Ua) × Int × (Lb Ua) -> Oa ((Lb Ua) × (Lb Ua))):(Lb Ua) × Int × (Lb Ua) -> Oa ((Lb Ua) × (Lb Ua))
  | (c0,b0,d0)=>(if 0 <= b0 then (cK_p n a1 b0).bind fun k0=>(bU_p n c0 k0).bind fun z0=>jn (fun (v0,x0)=>(chk (b0 - 1)).bind fun s0=>p0 (v0,s0,x0)) (fun g0=>(if 0 <= z0 then (cg_p n c0 k0).bind fun A0=>(aB_p n false A0).bind fun B0=>(ej b0 64).bind fun j0=>(idx d0 j0).bind fun u0=>(cg b0 64).bind fun t0=>(bT t0).bind fun q0=>(put d0 ((j0.toNat:Nat):Int) (u0 ||| (shlU (1:Ua) q0))).bind fun y0=>g0 (B0.fk,y0) else g0 (c0,d0))) else some (d0,c0))
def bF_p (n:Nat) (a0:Lb Ua) (a1:Lb Ua):Oa ((Lb Ua) × (Lb Ua)):=
  (mk ((a0.length:Nat):Int) (0:Ua)).bind fun b0=>(if a1.length = 1 then Option.bind (ao (bF_l1 n a0 a1) n (0,((a0.length:Nat):Int) - 1,b0)) (fun (d0,g0)=>(aB_p n false ([d0]:Lb Ua)).bind fun p0=>some (g0,p0.fk)) else (cT_p n a0).bind fun q0=>(cT_p n a1).bind fun s0=>(chk (q0 - s0)).bind fun c0=>Option.bind (ao (bF_l2 n a1) n (a0,c0,b0)) (fun (k0,j0)=>some (k0,j0)))
theorem bF_c (n:Nat) {L w} (hL:hl L w) {a0:Lb Ua} {v0_0:Vc} (h0_0:Rep.R w L [v0_0] a0) {a1:Lb Ua} {v1_0:Vc} (h1_0:Rep.R w L [v1_0] a1)  {r:(Lb Ua) × (Lb Ua)} (h:bF_p n a0 a1 = some r) :
 Cl 163 #[v0_0,v1_0] w (aj w fun w' u=>∃ v0_0 v1_0:Vc,u = .tuple #[v0_0,v1_0]/\Rep.R w' L [v0_0] r.1/\Rep.R w' L [v1_0] r.2):=by
 unfold bF_p at h
 refine AM func163 I I I fun _ cs0 hb0=>Ae<|Ah I<|Ah I<|Aa<|Ae<|Ac I ?_
 have hl1:=AY h0_0
 refine Ab (Ba (xs:=a0) underlying105 I h0_0)<|bk h fun g1 E1 h=>Ao .plain I (Does.mk (α:=Ua) E1 (AL w) eb I) fun g5 c0 t0 Q4=>?_
 have u1:=AI (cs:=(List.replicate ((a0.length:Nat):Int).toNat [vW 0]).flatten) (xs:=g1) t0 L (Cells.mk E1 I)
 refine Ah I<|Aa<|Aj<|Ae<|Ac I ?_
 have A1:=AH h1_0 t0
 have R4:=AY A1
 refine Ab (Ba (xs:=a1) underlying105 I A1)<|Ab (FV.eqlN (i:=a1.length) (j:=1) I I)<|Aa<|AV I h (fun b2 h=>?_) (fun b2 h=>?_)
 refine Ae<|Ah I<|Aa<|Aj<|Ae<|Ac I<|Ab (Ba (xs:=a0) underlying105 I (AH h0_0 t0))<|Ab (FV.subI (i:=((a0.length:Nat):Int)) (j:=1) I I (by omega))<|Ah I<|Aa<|Av ?_
 obtain ⟨V4,u3,b3⟩:=ap h
 refine BP (α:=Ua × Int × (Lb Ua) × (Lb Vc)) (fun ⟨g0,q0,z0,B0⟩=>[(0,v0_0),(1,v1_0),(4,(.slice (some ⟨c0,0,none⟩) ((a0.length:Nat):Int).toNat ((a0.length:Nat):Int).toNat)),(6,vU g0),(7,vI q0)]) (fun ⟨g0,q0,z0,B0⟩=>[rr w 30 Ua (.slice (some ⟨c0,0,none⟩) ((a0.length:Nat):Int).toNat ((a0.length:Nat):Int).toNat) z0.length B0]) (fun ⟨g0,q0,z0,B0⟩ H1=>Cells H1 (bl [rr w 30 Ua (.slice (some ⟨c0,0,none⟩) ((a0.length:Nat):Int).toNat ((a0.length:Nat):Int).toNat) z0.length B0] ++ L) B0 z0) (fun ⟨g0,q0,z0,B0⟩=>(g0,q0,z0)) (0,((a0.length:Nat):Int) - 1,g1,(List.replicate ((a0.length:Nat):Int).toNat [vW 0]).flatten) u3 t0 u1 ?_
 rintro E4 ⟨g0,q0,z0,B0⟩ H1 t2 C0 z2 V0 h
 unfold bF_l1 at h
 try dsimp only at h
 refine Aj<|Ae<|Ac I<|Ab (FV.geq (i:=q0) (j:=0) I I)<|Aa<|AV I h (fun Z1 h=>?_) (fun Z1 h=>?_)
 refine Aq<|Aj<|Av<|du 15 fun b0 d0=>Rv 0 b0 I d0 (fun _=>Al I)<|Rv 1 b0 I d0 (fun _=>Al I)<|Rv 2 b0 I d0 (fun _=>Al I)<|Rv 3 b0 I d0 (fun _=>Al I)<|Rv 4 b0 I d0 (fun _=>Al I)<|bk h fun I1 P3 h=>?_
 obtain ⟨d3,Q3⟩:=aR P3
 obtain ⟨C4,H4,U2,j3,g2,x3,q3⟩:=Bh (AH h0_0 C0) Q3
 have V2:g2 = [vU I1]:=x3; subst V2
 refine Rv 5 b0 I d0 (fun _=>Be 1 (q0.toNat) I U2 I d3 j3)<|Rx 6 130048 b0 I d0 (Bp I (q3 0 _ I))<|Rv 7 b0 I d0 (fun _=>Al I)<|bk h fun J1 R3 h=>?_
 obtain ⟨D4,I4,W2,k3,j2,y3,s3⟩:=Bh (AH h1_0 C0) R3
 have X2:j2 = [vU J1]:=y3; subst X2
 refine Rv 8 b0 I d0 (fun _=>Be 1 0 I W2 I I k3)<|Rx 9 130048 b0 I d0 (Bp I (s3 0 _ I))<|bk h fun j1 b4 h=>RD.cq 10 2047 129024 (.tuple #[vU j1.1,vU j1.2]) b0 I d0 (bd 186) I (e3 I I I) (fun p q=>bt_c n (C0.hL0 hL q) g0 I1 J1 b4) I<|Rv 11 b0 I d0 (fun _=>Al I)<|Rv 12 b0 I d0 (fun _=>Ai I I)<|Rv 13 b0 I d0 (fun _=>Ai I I)<|bk h fun y4 U3 h=>?_
 obtain ⟨g3,V3⟩:=aR U3
 obtain ⟨U1,J4,X0,z1,k2,z3,U4⟩:=BS (α:=Ua) C0 .hd V0 V3
 obtain ⟨W1,K4,v1⟩:=BC (α:=Ua) C0 .hd z1
 obtain rfl:U1 = ⟨W1,0,none⟩:=by rw [v1] at X0; cases X0; rfl
 have Y2:k2 = [vU y4]:=z3; subst Y2
 refine Rv 14 b0 I d0 (fun _=>Be 1 (q0.toNat) I X0 I g3 z1)<|bk h fun z4 Y3 h=>BK (i:=15) (rk b0) (RO.acts (m' :=65535) (sk b0) I I .plain (Acts.set (α:=Ua) (i:=q0.toNat) Y3 C0 v1 (fun _=>.hd) V0 I I I I I I) (fun j5 ⟨p2,v2,A2,P2⟩=>?_))
 refine BK (i:=16) (rk b0) (BV (m' :=131071) (sk b0) I .plain I (Bj I) ?_)
 refine AK (dk b0)<|Ax<|Am<|Ac I<|bk h fun t4 H3 h=>Ab (FV.subc (i:=q0) (j:=1) I I H3)<|Ah I<|Aa<|t2 (j1.2,t4,z4,p2) v2 (Tt z2 A2) P2 h
 refine AZ I ?_
 have h:=b3 _ h
 try dsimp only at h
 refine Ae<|Ac I<|Ac I<|Ao .plain I (jA g0 (vU g0) C0 eb (e1 I)) fun k5 X1 I0 B2=>?_
 have Q0:=Bu I0 .hd
 have C2:=Bv I0 .hd
 refine bk h fun B4 c4 h=>jE (bd 166) I (e2 I I) (fun p q=>aB_c n (Q0.hL hL q) (Af (Bw (α:=Ua) (v:=(vS X1 1)) (xs:=([g0]:Lb Ua)) Q0 L (Bi (α:=Ua) I0 .hd (jC g0 (vU g0) I0 L I) hL)) q) c4) I fun p5 Z4 I2 ⟨F1,hu_,A3⟩=>?_
 subst hu_
 obtain ⟨R0,D2⟩:=Q0.agr I2
 refine Ab (FV.field1 (cs:=[.bool B4.fc,F1]) (off:=1) (m:=1) I I I I)<|Ah I<|Ah I<|Aa<|Ar I ?_
 have J0:=Bu R0 .hd
 have E2:=Bv R0 .hd
 have B3:=Bw (α:=Ua) (v:=(.slice (some ⟨c0,0,none⟩) ((a0.length:Nat):Int).toNat ((a0.length:Nat):Int).toNat)) (xs:=z0) J0 L (Bi (α:=Ua) R0 .hd (AR V0 (Tt B2 (Tt C2 D2))) hL)
 refine Au hb0 func163 I (.cons (.tmp I) (.cons (.tmp I) .nil)) I ?_
 cases h
 exact ⟨J0.ag,fun p q=>⟨(.slice (some ⟨c0,0,none⟩) ((a0.length:Nat):Int).toNat ((a0.length:Nat):Int).toNat),F1,I,J0.kd B3 q,J0.kd (Ag A3 E2) q⟩⟩
 refine Aq<|Ae<|Ac I<|Ah I<|Aa<|Aj<|Ae<|Ac I<|bk h fun M1 d4 h=>Bd (vI M1) (bd 187) I (e1 I) (fun p q=>cT_c n (t0.hL0 hL q) (t0.k0 h0_0 q) d4) I<|Ac I<|bk h fun P1 g4 h=>Bd (vI P1) (bd 187) I (e1 I) (fun p q=>cT_c n (t0.hL0 hL q) (t0.k0 h1_0 q) g4) I<|bk h fun u4 I3 h=>Ab (FV.subc (i:=M1) (j:=P1) I I I3)<|Ah I<|Aa<|Av ?_
 obtain ⟨W4,v3,c3⟩:=ap h
 refine BP (α:=(Lb Ua) × Int × (Lb Ua) × Vc × (Lb Vc)) (fun ⟨F0,s0,p0,A0,x0⟩=>[(1,v1_0),(4,(.slice (some ⟨c0,0,none⟩) ((a0.length:Nat):Int).toNat ((a0.length:Nat):Int).toNat)),(5,A0),(8,vI s0)]) (fun ⟨F0,s0,p0,A0,x0⟩=>[rr w 30 Ua (.slice (some ⟨c0,0,none⟩) ((a0.length:Nat):Int).toNat ((a0.length:Nat):Int).toNat) p0.length x0]) (fun ⟨F0,s0,p0,A0,x0⟩ c1=>Rep.R c1 (bl [rr w 30 Ua (.slice (some ⟨c0,0,none⟩) ((a0.length:Nat):Int).toNat ((a0.length:Nat):Int).toNat) p0.length x0] ++ L) [A0] F0/\Cells c1 (bl [rr w 30 Ua (.slice (some ⟨c0,0,none⟩) ((a0.length:Nat):Int).toNat ((a0.length:Nat):Int).toNat) p0.length x0] ++ L) x0 p0) (fun ⟨F0,s0,p0,A0,x0⟩=>(F0,s0,p0)) (a0,u4,g1,v0_0,(List.replicate ((a0.length:Nat):Int).toNat [vW 0]).flatten) v3 t0 ⟨(AH h0_0 t0),u1⟩ ?_
 rintro F4 ⟨F0,s0,p0,A0,x0⟩ c1 u2 H0 F2 ⟨C1,W0⟩ h
 unfold bF_l2 at h
 try dsimp only at h
 refine Aj<|Ae<|Ac I<|Ab (FV.geq (i:=s0) (j:=0) I I)<|Aa<|AV I h (fun c2 h=>?_) (fun c2 h=>?_)
 refine Aq<|Aj<|Av<|Ae<|Ac I<|Ac I<|bk h fun v5 j4 h=>jE (bd 188) I (e2 I I) (fun p q=>cK_c n (H0.hL hL q) (H0.km h1_0 q) j4) I fun q5 b5 J2 ⟨X4,hu_,D1⟩=>?_
 subst hu_
 obtain ⟨D0,M0⟩:=H0.agr J2
 refine Ah I<|Aa<|Ae<|Ac I<|Ac I<|bk h fun Q1 k4 h=>?_
 have Z0:=Ag C1 M0
 refine Bd (vI Q1) (bd 171) I (e2 I I) (fun p q=>bU_c n (D0.hL0 hL q) (D0.kd Z0 q) (D0.kd D1 q) k4) I<|Ab (FV.geq (i:=Q1) (j:=0) I I)<|Aa<|MX.jf (α:=(Lb Ua) × (Lb Ua) × Vc × (Lb Vc)) (fun ⟨G0,v0,E0,y0⟩=>[(1,v1_0),(4,(.slice (some ⟨c0,0,none⟩) ((a0.length:Nat):Int).toNat ((a0.length:Nat):Int).toNat)),(5,E0),(8,vI s0)]) (fun ⟨G0,v0,E0,y0⟩=>[rr w 30 Ua (.slice (some ⟨c0,0,none⟩) ((a0.length:Nat):Int).toNat ((a0.length:Nat):Int).toNat) v0.length y0]) (fun ⟨G0,v0,E0,y0⟩ d1=>Rep.R d1 (bl [rr w 30 Ua (.slice (some ⟨c0,0,none⟩) ((a0.length:Nat):Int).toNat ((a0.length:Nat):Int).toNat) v0.length y0] ++ L) [E0] G0/\Cells d1 (bl [rr w 30 Ua (.slice (some ⟨c0,0,none⟩) ((a0.length:Nat):Int).toNat ((a0.length:Nat):Int).toNat) v0.length y0] ++ L) y0 v0) (fun ⟨G0,v0,E0,y0⟩=>(G0,v0)) D0 h ?_ ?_
 rintro ⟨G0,v0,E0,y0⟩ d1 x2 G2 ⟨C3,Q2⟩ h
 try dsimp only at h
 refine Ax<|Am<|Ac I<|bk h fun v4 J3 h=>Ab (FV.subc (i:=s0) (j:=1) I I J3)<|Ah I<|Aa<|u2 (G0,v4,v0,E0,y0) x2 (Tt F2 (Tt M0 G2)) ⟨C3,Q2⟩ h
 intro G4 k1 h
 try dsimp only at h
 refine AV I h (fun d2 h=>?_) (fun d2 h=>?_)
 refine Ae<|Ac I<|Ac I<|bk h fun x5 p4 h=>jE (bd 172) I (e2 I I) (fun p q=>cg_c n (D0.hL hL q) (Af Z0 q) (Af D1 q) p4) I fun s5 c5 K2 ⟨Y4,hu_,D3⟩=>?_
 subst hu_
 obtain ⟨p1,q1⟩:=D0.agr K2
 refine bk h fun R1 q4 h=>jE (bd 166) I (e2 I I) (fun p q=>aB_c n (p1.hL hL q) (Af D3 q) q4) I fun t5 d5 M2 ⟨G1,hu_,E3⟩=>?_
 subst hu_
 obtain ⟨U0,s1⟩:=p1.agr M2
 refine Ab (FV.field1 (cs:=[.bool R1.fc,G1]) (off:=1) (m:=1) I I I I)<|Ah I<|Aa<|du 10 fun j0 u0=>Rv 0 j0 I u0 (fun _=>Al I)<|Rv 1 j0 I u0 (fun _=>Al I)<|bk h fun b1 K3 h=>Rv 2 j0 I u0 (fun _=>FV.quoc (i:=s0) (j:=64) I I K3)<|bk h fun K1 W3 h=>?_
 obtain ⟨y1,X3⟩:=aR W3
 have B1:=AR W0 (Tt M0 (Tt q1 s1))
 obtain ⟨V1,M4,P0,Y0,q2,F3,t3⟩:=BS (α:=Ua) U0 .hd B1 X3
 obtain ⟨Y1,P4,x1⟩:=BC (α:=Ua) U0 .hd Y0
 obtain rfl:V1 = ⟨Y1,0,none⟩:=by rw [x1] at P0; cases P0; rfl
 have Z2:q2 = [vU K1]:=F3; subst Z2
 refine Rv 3 j0 I u0 (fun _=>Be 1 (b1.toNat) I P0 I y1 Y0)<|Rx 4 1792 j0 I u0 (Bp I (t3 0 _ I))<|Rv 5 j0 I u0 (fun _=>Al I)<|bk h fun x4 M3 h=>Rv 6 j0 I u0 (fun _=>FV.remc (i:=s0) (j:=64) I I M3)<|bk h fun s4 p3 h=>Rv 7 j0 I u0 (fun _=>FV.shlI (a:=(1:Ua)) (i:=x4) I I p3)<|Rv 8 j0 I u0 (fun _=>FV.orU (a:=K1) (b:=shlU (1:Ua) s4) I I)<|Rv 9 j0 I u0 (fun _=>Be 1 (b1.toNat) I P0 I y1 Y0)<|bk h fun A4 Z3 h=>BK (i:=10) (rk j0) (RO.acts (m' :=2047) (sk j0) I I .plain (Acts.set (α:=Ua) (i:=b1.toNat) Z3 U0 x1 (fun _=>.hd) B1 I I I I I I) (fun u5 ⟨s2,y2,t1,R2⟩=>?_))
 refine AK (dk j0)<|k1 (R1.fk,A4,G1,s2) y2 (Tt q1 (Tt s1 t1)) ⟨(Ag E3 t1),R2⟩ h
 refine Aq<|k1 (F0,p0,A0,x0) D0 (BM _ _) ⟨Z0,(AR W0 M0)⟩ h
 refine AZ I ?_
 have h:=c3 _ h
 try dsimp only at h
 refine Ae<|Ac I<|Ac I<|Ah I<|Ah I<|Aa<|Ar I ?_
 have K0:=Bu H0 .hd
 have H2:=Bv H0 .hd
 have G3:=Bw (α:=Ua) (v:=(.slice (some ⟨c0,0,none⟩) ((a0.length:Nat):Int).toNat ((a0.length:Nat):Int).toNat)) (xs:=p0) K0 L (Bi (α:=Ua) H0 .hd W0 hL)
 refine Au hb0 func163 I (.cons (.tmp I) (.cons (.tmp I) .nil)) I ?_
 cases h
 exact ⟨K0.ag,fun p q=>⟨(.slice (some ⟨c0,0,none⟩) ((a0.length:Nat):Int).toNat ((a0.length:Nat):Int).toNat),A0,I,K0.kd G3 q,K0.kd (Ag C1 H2) q⟩⟩
def bA_l1 (n:Nat) (d0:(Lb Ua) × (Lb Ua) -> Oa (Lb Ua)):(Lb Ua) × (Lb Ua) -> Oa (Lb Ua)
  | (c0,b0)=>(if 0 < b0.length then (bF_p n c0 b0).bind fun g0=>d0 (b0,g0.2) else some c0)
def bA_p (n:Nat) (a0:Tg) (a1:Tg):Oa Tg:=
  Option.bind (ao (bA_l1 n) n (a0.fk,a1.fk)) (fun b0=>some (⟨false,b0⟩:Tg))
theorem bA_c (n:Nat) {L w} (hL:hl L w) (a0:Tg) {v0_1:Vc} (h0_1:Rep.R w L [v0_1] a0.fk) (a1:Tg) {v1_1:Vc} (h1_1:Rep.R w L [v1_1] a1.fk)  {r:Tg} (h:bA_p n a0 a1 = some r) :
 Cl 133 #[.agg #[.bool a0.fc,v0_1],.agg #[.bool a1.fc,v1_1]] w (aj w fun w' u=>∃ v0_1:Vc,u = .agg #[.bool r.fc,v0_1]/\Rep.R w' L [v0_1] r.fk):=by
 unfold bA_p at h
 refine AM func133 I I I fun _ cs0 hb0=>Ae<|RG.bx (AL w) I I fun s1 W0 C0 Z0=>RG.bx C0 I I fun u1 X0 D0 b1=>RG.nl [.bool false,vN] D0 fun v1 p0 t0 c1=>Aa<|Aj<|du 6 fun d0 j0=>Rv 0 d0 I j0 (fun _=>Bg 1 I)<|Rx 1 48 d0 I j0 (Bp I ((t0.memA .t2) 1 _ I))<|Rv 2 d0 I j0 (fun _=>Bg 1 I)<|Rx 3 32 d0 I j0 (Bp I ((t0.memA .t1) 1 _ I))<|Rv 4 d0 I j0 (fun _=>Bj I)<|Rv 5 d0 I j0 (fun _=>Bj I)<|AK (dk d0)<|Aj<|Av ?_
 obtain ⟨u0,d1⟩:=AB t0 (.a0 .done)
 obtain ⟨k1,J0,I0⟩:=ap h
 refine BP (α:=(Lb Ua) × (Lb Ua) × Vc × Vc) (fun ⟨k0,c0,b0,g0⟩=>[(4,vP p0),(5,b0),(6,g0)]) (fun ⟨k0,c0,b0,g0⟩=>[.cells p0 [.bool false,vN] 107]) (fun ⟨k0,c0,b0,g0⟩ y0=>Rep.R y0 (bl [.cells p0 [.bool false,vN] 107] ++ L) [b0] k0/\Rep.R y0 (bl [.cells p0 [.bool false,vN] 107] ++ L) [g0] c0) (fun ⟨k0,c0,b0,g0⟩=>(k0,c0)) (a0.fk,a1.fk,v0_1,v1_1) J0 u0 ⟨(AH h0_1 u0),(AH h1_1 u0)⟩ ?_
 rintro V0 ⟨k0,c0,b0,g0⟩ y0 B0 v0 F0 ⟨q0,s0⟩ h
 unfold bA_l1 at h
 try dsimp only at h
 refine Aj<|Ae<|Ac I ?_
 have g1:=AY s0
 refine Ab (Ba (xs:=c0) underlying105 I s0)<|Ab (FV.gtrN (i:=c0.length) (j:=0) I I)<|Aa<|AV I h (fun A0 h=>?_) (fun A0 h=>?_)
 refine Aq<|Av<|Ae<|Ac I<|Ac I<|bk h fun R0 P0 h=>jE (bd 163) I (e2 I I) (fun p q=>bF_c n (v0.hL hL q) (Af q0 q) (Af s0 q) P0) I fun x1 q1 H0 ⟨p1,Q0,hu_,j1,K0⟩=>?_
 subst hu_
 obtain ⟨E0,z0⟩:=v0.agr H0
 refine Ac I<|Ab (Ai I I)<|Ab (Ai I I)<|Ah I<|Ah I<|Aa<|Am<|Ac I<|Ac I<|Ah I<|Ah I<|Aa<|Ax<|B0 (c0,R0.2,g0,Q0) E0 (Tt F0 z0) ⟨(Ag s0 z0),K0⟩ h
 refine AZ I ?_
 have h:=I0 _ h
 try dsimp only at h
 refine Ae<|Ac I ?_
 obtain ⟨U0,Y0,M0,_⟩:=Bl q0
 refine Ab (AS (vs:=[b0]) (u:=.agg #[.bool false,b0]) (e1 I) (fun p=>by rw [M0]; try kernel_rfl))<|AQ [.bool false,b0] v0 .hd (o2 I (Ay q0)) fun y1 x0 G0=>Aa<|Ar I<|Au hb0 func133 I (.cons (.many (cs:=[.bool false,b0]) I I (x0.memA .hd)) .nil) I ?_
 cases h
 exact ⟨x0.ag,fun p q=>⟨b0,I,x0.kd (Ag q0 G0) q⟩⟩
def bJ_p (n:Nat) (a0:Tg):Oa Tg:=
  (aB_p n (!a0.fc) a0.fk).bind fun b0=>some b0
theorem bJ_c (n:Nat) {L w} (hL:hl L w) (a0:Tg) {v0_1:Vc} (h0_1:Rep.R w L [v0_1] a0.fk)  {r:Tg} (h:bJ_p n a0 = some r) :
 Cl 145 #[.agg #[.bool a0.fc,v0_1]] w (aj w fun w' u=>∃ v0_1:Vc,u = .agg #[.bool r.fc,v0_1]/\Rep.R w' L [v0_1] r.fk):=by
 unfold bJ_p at h
 refine AM func145 I I I fun _ cs0 hb0=>Ae<|RG.bx (AL w) I I fun B0 u0 k0 x0=>RG.nl [.bool false,vN] k0 fun C0 v0 b0 y0=>Aa<|Ae<|Bm 0 I<|Bf I ((b0.memA .t1) 0 _ I)<|Ab (Bx I)<|Bm 1 I<|Bf I ((b0.memA .t1) 1 _ I)<|bk h fun j0 t0 h=>jE (bd 166) I (e2 I I) (fun p q=>aB_c n (b0.hL hL q) (b0.km h0_1 q) t0) I fun D0 A0 s0 ⟨d0,hu_,g0⟩=>?_
 subst hu_
 obtain ⟨p0,z0⟩:=b0.agr s0
 refine AQ [.bool j0.fc,d0] p0 .hd (o2 I (Ay g0)) fun E0 c0 q0=>Aa<|Ar I<|Au hb0 func145 I (.cons (.many (cs:=[.bool j0.fc,d0]) I I (c0.memA .hd)) .nil) I ?_
 cases h
 exact ⟨c0.ag,fun p q=>⟨d0,I,c0.kd (Ag g0 q0) q⟩⟩
def cv_l1 (_n:Nat) (xs4:Lb Ua) (xs7:Lb Ua) (k0:Ua × Nat × (Lb Ua) -> Oa ((Lb Ua) × Ua)):Ua × Nat × (Lb Ua) -> Oa ((Lb Ua) × Ua)
  | (g0,b0,c0)=>(if b0 < xs4.length then (xs4[b0]?).bind fun q0=>jn (fun p0=>(add64 q0 p0 g0).bind fun j0=>(c0[b0]?).bind fun _x199=>(put c0 ((b0:Nat):Int) j0.1).bind fun t0=>k0 (j0.2,b0 + 1,t0)) (fun d0=>(if b0 < xs7.length then (xs7[b0]?).bind fun s0=>d0 s0 else d0 (0:Ua))) else some (c0,g0))
def cv_p (n:Nat) (a0:Lb Ua) (a1:Lb Ua):Oa (Lb Ua):=
  jn (fun (xs4,xs7)=>(mk ((xs4.length + 1:Nat):Int) (0:Ua)).bind fun g0=>Option.bind (ao (cv_l1 n xs4 xs7) n (0,0,g0)) (fun (c0,d0)=>(c0[xs4.length]?).bind fun _x229=>(put c0 ((xs4.length:Nat):Int) d0).bind fun j0=>some j0)) (fun b0=>(if a0.length < a1.length then b0 (a1,a0) else b0 (a0,a1)))
theorem cv_c (n:Nat) {L w} (hL:hl L w) {a0:Lb Ua} {v0_0:Vc} (h0_0:Rep.R w L [v0_0] a0) {a1:Lb Ua} {v1_0:Vc} (h1_0:Rep.R w L [v1_0] a1)  {r:Lb Ua} (h:cv_p n a0 a1 = some r) :
 Cl 170 #[v0_0,v1_0] w (aj w fun w' u=>∃ v0_0:Vc,u = v0_0/\Rep.R w' L [v0_0] r):=by
 unfold cv_p at h
 have hS0:=AL w
 refine AM func170 I I I fun _ cs0 hb0=>Ae<|Ah I<|Aa<|Aj<|Ae<|Ac I ?_
 have hl1:=AY h0_0
 refine Ab (Ba (xs:=a0) underlying105 I h0_0)<|Ac I ?_
 have hl2:=AY h1_0
 refine Ab (Ba (xs:=a1) underlying105 I h1_0)<|Ab (AU (i:=a0.length) (j:=a1.length) I I)<|Aa<|MX.jf (α:=(Lb Ua) × (Lb Ua) × Vc × Vc) (fun ⟨xs4,xs7,v5,v8⟩=>[(0,v5),(1,v8)]) (fun ⟨xs4,xs7,v5,v8⟩=>[]) (fun ⟨xs4,xs7,v5,v8⟩ wx9=>Rep.R wx9 (bl [] ++ L) [v5] xs4/\Rep.R wx9 (bl [] ++ L) [v8] xs7) (fun ⟨xs4,xs7,v5,v8⟩=>(xs4,xs7)) hS0 h ?_ ?_
 rintro ⟨xs4,xs7,v5,v8⟩ wx9 q1 D2 ⟨hr6,hr9⟩ h
 try dsimp only at h
 refine Ae<|Ac I ?_
 have G2:=AY hr6
 refine Ab (Ba (xs:=xs4) underlying105 I hr6)<|Ab (Bc (i:=xs4.length) (j:=1) I I (by omega))<|bk h fun R0 M0 h=>Ao .plain I (Does.mk (α:=Ua) M0 q1 eb I) fun M2 j0 E0 s0=>Ah I<|Aa<|Ae<|Ah I<|Aa<|Aj<|Ae<|Ac I<|Ab (Ba (xs:=xs4) underlying105 I (Ag hr6 s0))<|Ac I<|Aa<|Av ?_
 obtain ⟨K2,J1,E1⟩:=ap h
 refine BP (α:=Ua × Nat × (Lb Ua) × (Lb Vc)) (fun ⟨g0,b0,c0,d0⟩=>[(0,v5),(1,v8),(5,(.slice (some ⟨j0,0,none⟩) ((xs4.length + 1:Nat):Int).toNat ((xs4.length + 1:Nat):Int).toNat)),(6,vU g0),(21,v5),(22,vn xs4.length),(23,vn b0)]) (fun ⟨g0,b0,c0,d0⟩=>[rr w 30 Ua (.slice (some ⟨j0,0,none⟩) ((xs4.length + 1:Nat):Int).toNat ((xs4.length + 1:Nat):Int).toNat) c0.length d0]) (fun ⟨g0,b0,c0,d0⟩ P0=>Cells P0 (bl [rr w 30 Ua (.slice (some ⟨j0,0,none⟩) ((xs4.length + 1:Nat):Int).toNat ((xs4.length + 1:Nat):Int).toNat) c0.length d0] ++ L) d0 c0) (fun ⟨g0,b0,c0,d0⟩=>(g0,b0,c0)) (0,0,R0,(List.replicate ((xs4.length + 1:Nat):Int).toNat [vW 0]).flatten) J1 E0 (AI (cs:=(List.replicate ((xs4.length + 1:Nat):Int).toNat [vW 0]).flatten) (xs:=R0) E0 L (Cells.mk M0 I)) ?_
 rintro t2 ⟨g0,b0,c0,d0⟩ P0 p1 k0 q0 x0 h
 unfold cv_l1 at h
 try dsimp only at h
 refine Ae<|Ab (AU (i:=b0) (j:=xs4.length) I I)<|Aa<|Aj<|AV I h (fun Y0 h=>?_) (fun Y0 h=>?_)
 refine Aq<|Aj<|Av<|Ae<|Ac I<|bk h fun B0 U1 h=>?_
 obtain ⟨p2,v2,y1,F1,c1,K1,H1⟩:=Bh (Ag hr6 (Tt s0 q0)) U1
 have z1:c1 = [vU B0]:=K1; subst z1
 refine Ab (Be 1 b0 I y1 I I F1)<|Bf I (H1 0 _ I)<|Ah I<|Ah I<|Aa<|Ae<|Ah I<|Aa<|Aj<|Ae<|Ac I<|Ac I ?_
 have A0:=Ag hr9 (Tt s0 q0)
 have H2:=AY A0
 refine Ab (Ba (xs:=xs7) underlying105 I A0)<|Ab (AU (i:=b0) (j:=xs7.length) I I)<|Aa<|MX.jo (α:=Ua) (fun p0=>[(0,v5),(1,v8),(5,(.slice (some ⟨j0,0,none⟩) ((xs4.length + 1:Nat):Int).toNat ((xs4.length + 1:Nat):Int).toNat)),(6,vU g0),(21,v5),(22,vn xs4.length),(23,vn b0),(7,vn b0),(8,vU B0),(9,vU p0)]) (fun p0=>[rr w 30 Ua (.slice (some ⟨j0,0,none⟩) ((xs4.length + 1:Nat):Int).toNat ((xs4.length + 1:Nat):Int).toNat) c0.length d0]) (fun p0=>p0) k0 h ?_ ?_
 rintro p0 R2 t0 F0 h
 try dsimp only at h
 refine Am<|Ac I<|Ac I<|Ac I<|Ac I<|Ac I<|bk h fun k2 b2 h=>Ab (FV.add64 (a:=B0) (b:=p0) (c:=g0) func191 I I I I I I I b2)<|Ac I<|Ab (Ai I I)<|Ab (Ai I I)<|bk h fun c2 V1 h=>?_
 have K0:=AR x0 F0
 obtain ⟨U0,x2,y0,I0,d1,M1,I2⟩:=BS (α:=Ua) t0 .hd K0 V1
 obtain ⟨W0,y2,G0⟩:=BC (α:=Ua) t0 .hd I0
 obtain rfl:U0 = ⟨W0,0,none⟩:=by rw [G0] at y0; cases y0; rfl
 have A1:d1 = [vU c2]:=M1; subst A1
 refine Ab (Be 1 b0 I y0 I I I0)<|bk h fun g2 Y1 h=>RG.acts' .plain (Acts.set (α:=Ua) (i:=b0) Y1 t0 G0 (fun _=>.hd) K0 I I I I I I) fun P2 ⟨g1,s1,u1,v1⟩=>Ah I<|Aa<|Ax<|Am<|Ab (Bc (i:=b0) (j:=1) I I (by omega))<|Ac I<|Aa<|p1 (k2.2,b0 + 1,g2,g1) s1 (Tt q0 (Tt F0 u1)) v1 h
 intro u2 D0 h
 try dsimp only at h
 refine AV I h (fun Z0 h=>?_) (fun Z0 h=>?_)
 refine Am<|Ac I<|Ac I<|bk h fun Q0 W1 h=>?_
 obtain ⟨q2,z2,B1,G1,j1,P1,I1⟩:=Bh A0 W1
 have C1:j1 = [vU Q0]:=P1; subst C1
 refine Ab (Be 1 b0 I B1 I I G1)<|Bf I (I1 0 _ I)<|Ah I<|Aa<|D0 Q0 k0 (BM _ _) h
 refine Aq<|D0 (0:Ua) k0 (BM _ _) h
 refine AZ I ?_
 have h:=E1 _ h
 try dsimp only at h
 refine Ae<|Ac I<|Ac I<|Ab (Ba (xs:=xs4) underlying105 I (Ag hr6 (Tt s0 q0)))<|Ac I<|bk h fun d2 X1 h=>?_
 obtain ⟨V0,A2,z0,J0,k1,Q1,J2⟩:=BS (α:=Ua) k0 .hd x0 X1
 obtain ⟨X0,B2,H0⟩:=BC (α:=Ua) k0 .hd J0
 obtain rfl:V0 = ⟨X0,0,none⟩:=by rw [H0] at z0; cases z0; rfl
 have D1:k1 = [vU d2]:=Q1; subst D1
 refine Ab (Be 1 (xs4.length) I z0 I I J0)<|bk h fun j2 Z1 h=>RG.acts' .plain (Acts.set (α:=Ua) (i:=xs4.length) Z1 k0 H0 (fun _=>.hd) x0 I I I I I I) fun Q2 ⟨C2,u0,E2,x1⟩=>Aa<|Ae<|Ac I<|Ah I<|Aa<|Ar I ?_
 have v0:=Bu u0 .hd
 have F2:=Bv u0 .hd
 have R1:=Bw (α:=Ua) (v:=(.slice (some ⟨j0,0,none⟩) ((xs4.length + 1:Nat):Int).toNat ((xs4.length + 1:Nat):Int).toNat)) (xs:=j2) v0 L (Bi (α:=Ua) u0 .hd x1 hL)
 refine Bb hb0 func170 I I ?_
 cases h
 exact ⟨v0.ag,fun p q=>⟨(.slice (some ⟨j0,0,none⟩) ((xs4.length + 1:Nat):Int).toNat ((xs4.length + 1:Nat):Int).toNat),I,v0.kd R1 q⟩⟩
 intro s2 C0 h
 try dsimp only at h
 refine AV I h (fun b1 h=>?_) (fun b1 h=>?_)
 refine Am<|Ac I<|Ac I<|Ah I<|Ah I<|Aa<|C0 (a1,a0,v1_0,v0_0) hS0 (BM _ _) ⟨h1_0,h0_0⟩ h
 refine Aq<|C0 (a0,a1,v0_0,v1_0) hS0 (BM _ _) ⟨h0_0,h1_0⟩ h
def bT_p (n:Nat) (a0:Tg) (a1:Tg):Oa Tg:=
  (if (a0.fc == a1.fc) = true then (cv_p n a0.fk a1.fk).bind fun j0=>(aB_p n a0.fc j0).bind fun k0=>some k0 else (bU_p n a0.fk a1.fk).bind fun p0=>jn (fun (_q58,d0,c0,g0)=>(cg_p n g0 d0).bind fun q0=>(aB_p n c0 q0).bind fun s0=>some s0) (fun b0=>(if p0 < 0 then b0 (a0.fc,a0.fk,a1.fc,a1.fk) else b0 (a1.fc,a1.fk,a0.fc,a0.fk))))
theorem bT_c (n:Nat) {L w} (hL:hl L w) (a0:Tg) {v0_1:Vc} (h0_1:Rep.R w L [v0_1] a0.fk) (a1:Tg) {v1_1:Vc} (h1_1:Rep.R w L [v1_1] a1.fk)  {r:Tg} (h:bT_p n a0 a1 = some r) :
 Cl 141 #[.agg #[.bool a0.fc,v0_1],.agg #[.bool a1.fc,v1_1]] w (aj w fun w' u=>∃ v0_1:Vc,u = .agg #[.bool r.fc,v0_1]/\Rep.R w' L [v0_1] r.fk):=by
 unfold bT_p at h
 refine AM func141 I I I fun _ cs0 hb0=>Ae<|RG.bx (AL w) I I fun Y1 y0 X0 F1=>RG.bx X0 I I fun Z1 z0 Y0 G1=>RG.nl [.bool false,vN] Y0 fun b2 A0 b0 H1=>Aa<|Aj<|Ae<|Bm 0 I<|Bf I ((b0.memA .t2) 0 _ I)<|Bm 0 I<|Bf I ((b0.memA .t1) 0 _ I)<|Ab (FV.eqlB (a:=a0.fc) (b:=a1.fc) underlying4 I I)<|Aa<|MX.ifb I h (fun V0 h=>?_) (fun V0 h=>?_)
 refine Aj<|du 8 fun c0 s0=>Rv 0 c0 I s0 (fun _=>Bg 0 I)<|Rx 1 384 c0 I s0 (Bp I ((b0.memA .t2) 0 _ I))<|Rv 2 c0 I s0 (fun _=>Bg 1 I)<|Rx 3 448 c0 I s0 (Bp I ((b0.memA .t2) 1 _ I))<|Rv 4 c0 I s0 (fun _=>Bg 1 I)<|Rx 5 448 c0 I s0 (Bp I ((b0.memA .t1) 1 _ I))<|bk h fun u2 z1 h=>AX 6 127 c0 I .plain (bd 170) I (e2 I I) (fun p q=>cv_c n (b0.hL hL q) (b0.km h0_1 q) (b0.km h1_1 q) z1) I fun c2 U1 k1 ⟨Q1,hu_,u1⟩=>?_
 subst hu_
 obtain ⟨I0,I1⟩:=b0.agr k1
 refine bk h fun Q0 A1 h=>AX 7 255 c0 I .plain (bd 166) I (e2 I I) (fun p q=>aB_c n (I0.hL hL q) (Af u1 q) A1) I fun d2 V1 p1 ⟨E0,hu_,M0⟩=>?_
 subst hu_
 obtain ⟨Z0,J1⟩:=I0.agr p1
 refine BB 8 511 c0 I I .plain (AC (news:=[.bool Q0.fc,E0]) Z0 .hd I I I I I I (o2 I (Ay M0))) fun g2 C0 d1=>AK (dk c0)<|Ar I<|Au hb0 func141 I (.cons (.many (cs:=[.bool Q0.fc,E0]) I I (C0.memA .hd)) .nil) I ?_
 cases h
 exact ⟨C0.ag,fun p q=>⟨E0,I,C0.kd (Ag M0 d1) q⟩⟩
 refine Aq<|Aj<|Ae<|Bm 1 I<|Bf I ((b0.memA .t2) 1 _ I)<|Bm 1 I<|Bf I ((b0.memA .t1) 1 _ I)<|bk h fun R0 B1 h=>Bd (vI R0) (bd 171) I (e2 I I) (fun p q=>bU_c n (b0.hL0 hL q) (b0.k0 h0_1 q) (b0.k0 h1_1 q) B1) I<|Ab (FV.lss (i:=R0) (j:=0) I I)<|Aa<|MX.jf (α:=Bool × (Lb Ua) × Bool × (Lb Ua) × Vc × Vc) (fun ⟨g0,u0,j0,v0,p0,q0⟩=>[(2,vP y0),(3,vP z0),(4,vP A0)]) (fun ⟨g0,u0,j0,v0,p0,q0⟩=>[.cells A0 [.bool false,vN] 107,.cells z0 [.bool g0,p0] 107,.cells y0 [.bool j0,q0] 107]) (fun ⟨g0,u0,j0,v0,p0,q0⟩ G0=>Rep.R G0 (bl [.cells A0 [.bool false,vN] 107,.cells z0 [.bool g0,p0] 107,.cells y0 [.bool j0,q0] 107] ++ L) [p0] u0/\Rep.R G0 (bl [.cells A0 [.bool false,vN] 107,.cells z0 [.bool g0,p0] 107,.cells y0 [.bool j0,q0] 107] ++ L) [q0] v0) (fun ⟨g0,u0,j0,v0,p0,q0⟩=>(g0,u0,j0,v0)) b0 h ?_ ?_
 rintro ⟨g0,u0,j0,v0,p0,q0⟩ G0 x0 K1 ⟨v1,x1⟩ h
 try dsimp only at h
 refine Aj<|du 8 fun d0 t0=>Rv 0 d0 I t0 (fun _=>Bg 0 I)<|Rx 1 384 d0 I t0 (Bp I ((x0.memA .t2) 0 _ I))<|Rv 2 d0 I t0 (fun _=>Bg 1 I)<|Rx 3 448 d0 I t0 (Bp I ((x0.memA .t2) 1 _ I))<|Rv 4 d0 I t0 (fun _=>Bg 1 I)<|Rx 5 448 d0 I t0 (Bp I ((x0.memA .t1) 1 _ I))<|bk h fun v2 C1 h=>AX 6 127 d0 I .plain (bd 172) I (e2 I I) (fun p q=>cg_c n (x0.hL hL q) (Af x1 q) (Af v1 q) C1) I fun j2 W1 q1 ⟨R1,hu_,y1⟩=>?_
 subst hu_
 obtain ⟨J0,M1⟩:=x0.agr q1
 refine bk h fun U0 D1 h=>AX 7 255 d0 I .plain (bd 166) I (e2 I I) (fun p q=>aB_c n (J0.hL hL q) (Af y1 q) D1) I fun k2 X1 s1 ⟨F0,hu_,P0⟩=>?_
 subst hu_
 obtain ⟨b1,P1⟩:=J0.agr s1
 refine BB 8 511 d0 I I .plain (AC (news:=[.bool U0.fc,F0]) b1 .hd I I I I I I (o2 I (Ay P0))) fun p2 D0 g1=>AK (dk d0)<|Ar I<|Au hb0 func141 I (.cons (.many (cs:=[.bool U0.fc,F0]) I I (D0.memA .hd)) .nil) I ?_
 cases h
 exact ⟨D0.ag,fun p q=>⟨F0,I,D0.kd (Ag P0 g1) q⟩⟩
 intro E1 H0 h
 try dsimp only at h
 refine AV I h (fun W0 h=>?_) (fun W0 h=>?_)
 refine Am<|Ab (Az I (b0.memA .t1))<|Ab (Az I (b0.memA .t2))<|AQ [.bool a1.fc,v1_1] b0 .t2 (o2 I (Ay (AH h1_1 b0))) fun q2 K0 j1=>AQ [.bool a0.fc,v0_1] K0 .t1 (o2 I (Ay (AH h0_1 K0))) fun s2 B0 c1=>Aa<|H0 (a0.fc,a0.fk,a1.fc,a1.fk,v0_1,v1_1) B0 (Tt j1 c1) ⟨(AH h0_1 B0),(AH h1_1 B0)⟩ h
 refine Aq<|H0 (a1.fc,a1.fk,a0.fc,a0.fk,v1_1,v0_1) b0 (BM _ _) ⟨(AH h1_1 b0),(AH h0_1 b0)⟩ h
def cr_p (n:Nat) (a0:Tg) (a1:Tg):Oa (Tg × Tg):=
  (bF_p n a0.fk a1.fk).bind fun c0=>(aB_p n (!(a0.fc == a1.fc)) c0.1).bind fun d0=>(aB_p n a0.fc c0.2).bind fun b0=>(if b0.fc = true then (bT_p n b0 (⟨false,a1.fk⟩:Tg)).bind fun j0=>(bT_p n d0 (⟨(!a1.fc),([(1:Ua)]:Lb Ua)⟩:Tg)).bind fun g0=>some (g0,j0) else some (d0,b0))
theorem cr_c (n:Nat) {L w} (hL:hl L w) (a0:Tg) {v0_1:Vc} (h0_1:Rep.R w L [v0_1] a0.fk) (a1:Tg) {v1_1:Vc} (h1_1:Rep.R w L [v1_1] a1.fk)  {r:Tg × Tg} (h:cr_p n a0 a1 = some r) :
 Cl 169 #[.agg #[.bool a0.fc,v0_1],.agg #[.bool a1.fc,v1_1]] w (aj w fun w' u=>∃ v0_1 v1_1:Vc,u = .tuple #[.agg #[.bool r.1.fc,v0_1],.agg #[.bool r.2.fc,v1_1]]/\Rep.R w' L [v0_1] r.1.fk/\Rep.R w' L [v1_1] r.2.fk):=by
 unfold cr_p at h
 refine AM func169 I I I fun _ cs0 hb0=>Ae<|RG.bx (AL w) I I fun x3 R2 K1 X2=>RG.bx K1 I I fun B3 U2 R1 Y2=>RG.nl [.bool false,vN] R1 fun C3 J0 U1 Z2=>RG.nl [.bool false,vN] U1 fun E3 K0 p0 b3=>Aa<|Ae<|Bm 1 I<|Bf I ((p0.memA .t3) 1 _ I)<|Bm 1 I<|Bf I ((p0.memA .t2) 1 _ I)<|bk h fun W3 G2 h=>jE (bd 163) I (e2 I I) (fun p q=>bF_c n (p0.hL hL q) (p0.km h0_1 q) (p0.km h1_1 q) G2) I fun F3 k3 u2 ⟨d3,g3,hu_,C2,D2⟩=>?_
 subst hu_
 obtain ⟨D0,c3⟩:=p0.agr u2
 refine Ac I<|Ab (Ai I I)<|Ab (Ai I I)<|Ah I<|Ah I<|Aa<|Aj<|du 11 fun b0 d0=>Rv 0 b0 I d0 (fun _=>Bg 0 I)<|Rx 1 7248 b0 I d0 (Bp I ((D0.memA .t3) 0 _ I))<|Rv 2 b0 I d0 (fun _=>Bg 0 I)<|Rx 3 7248 b0 I d0 (Bp I ((D0.memA .t2) 0 _ I))<|Rv 4 b0 I d0 (fun _=>FV.neqB (a:=a0.fc) (b:=a1.fc) underlying4 I I)<|Rv 5 b0 I d0 (fun _=>Al I)<|Rv 7 b0 I d0 (fun _=>Bg 0 I)<|Rx 8 7168 b0 I d0 (Bp I ((D0.memA .t3) 0 _ I))<|Rv 9 b0 I d0 (fun _=>Al I)<|bk h fun x0 H2 h=>AX 6 1023 b0 I .plain (bd 166) I (e2 I I) (fun p q=>aB_c n (D0.hL hL q) (Af C2 q) H2) I fun G3 p3 v2 ⟨t0,hu_,G0⟩=>?_
 subst hu_
 obtain ⟨s1,p2⟩:=D0.agr v2
 refine bk h fun y0 I2 h=>AX 10 2047 b0 I .plain (bd 166) I (e2 I I) (fun p q=>aB_c n (s1.hL hL q) (Af (Ag D2 p2) q) I2) I fun H3 q3 x2 ⟨u0,hu_,X0⟩=>?_
 subst hu_
 obtain ⟨Y1,F0⟩:=s1.agr x2
 refine BB 11 4095 b0 I I .plain (AC (news:=[.bool x0.fc,t0]) Y1 .t1 I I I I I I (o2 I (Ay (Ag G0 F0)))) fun I3 Z1 k0=>BB 12 8191 b0 I I .plain (AC (news:=[.bool y0.fc,u0]) Z1 .hd I I I I I I (o2 I (Ay (Ag X0 k0)))) fun J3 c0 q0=>AK (dk b0)<|Aj<|Ae<|Bm 0 I<|Bf I ((c0.memA .hd) 0 _ I)<|Aa<|MX.ifb I h (fun I1 h=>?_) (fun I1 h=>?_)
 refine Ae<|Bm 1 I<|Bf I ((c0.memA .t2) 1 _ I) ?_
 obtain ⟨P2,W2,E2,_⟩:=Bl (AH h1_1 c0)
 refine Ab (AS (vs:=[v1_1]) (u:=.agg #[.bool false,v1_1]) (e1 I) (fun p=>by rw [E2]; try kernel_rfl))<|RG.nl [.bool false,vN] c0 fun K3 V2 u1 C1=>AQ [.bool false,v1_1] u1 .hd (o2 I (Ay (AH h1_1 u1))) fun M3 E0 D1=>Aa<|Ae<|Ab (Az I (E0.memA .t1))<|Ab (Az I (E0.memA .hd))<|bk h fun I0 J2 h=>jE (bd 141) I (e2 I I) (fun p q=>bT_c n (E0.hL hL q) y0 (Af (Ag X0 (Tt k0 (Tt q0 (Tt C1 D1)))) q) (⟨false,a1.fk⟩:Tg) (E0.km h1_1 q) J2) I fun P3 s3 y2 ⟨v0,hu_,j1⟩=>?_
 subst hu_
 obtain ⟨b2,q2⟩:=E0.agr y2
 refine AQ [.bool I0.fc,v0] b2 .t1 (o2 I (Ay j1)) fun Q3 v1 d1=>Aa<|Ae<|Bm 0 I<|Bf I ((v1.memA .t3) 0 _ I)<|Ab (Bx I)<|Ao .plain I (jA ((1:Ua)) (vW 1) v1 eb (e1 I)) fun R3 M0 x1 g1=>Ab (AS (vs:=[.bool (!a1.fc),(vS M0 1)]) (u:=.agg #[.bool (!a1.fc),(vS M0 1)]) (e2 I I) (fun p=>by kernel_rfl))<|RG.nl [.bool false,vN] x1 fun u3 Q2 q1 R0=>AQ [.bool (!a1.fc),(vS M0 1)] q1 .hd (o2 I (St.o1 (α:=Ua) q1 .t1)) fun v3 z0 U0=>Aa<|Am<|Ab (Az I (z0.memA .t4))<|Ab (Az I (z0.memA .hd)) ?_
 have Y0:=Bu z0 .t1
 have Z0:=Bv z0 .t1
 refine bk h fun H0 F2 h=>jE (bd 141) I (e2 I I) (fun p q=>bT_c n (Y0.hL hL q) x0 (Af (Ag G0 (Tt F0 (Tt k0 (Tt q0 (Tt C1 (Tt D1 (Tt q2 (Tt d1 (Tt g1 (Tt R0 (Tt U0 Z0))))))))))) q) (⟨(!a1.fc),([(1:Ua)]:Lb Ua)⟩:Tg) (Af (Bw (α:=Ua) (v:=(vS M0 1)) (xs:=([(1:Ua)]:Lb Ua)) Y0 L (Bi (α:=Ua) z0 .t1 (AR (jC ((1:Ua)) (vW 1) x1 L I) (Tt R0 U0)) hL)) q) F2) I fun y3 j3 s2 ⟨s0,hu_,W0⟩=>?_
 subst hu_
 obtain ⟨J1,y1⟩:=Y0.agr s2
 refine AQ [.bool H0.fc,s0] J1 .t3 (o2 I (Ay W0)) fun z3 A0 V0=>Aa<|Aj<|du 2 fun g0 G1=>Rx 0 12 g0 I G1 (Az I (A0.memA .t3))<|RD.mo (α:=Unit) (fun ()=>[(4,vP J0),(5,vP K0),(46,.agg #[.bool I0.fc,v0])]) (fun ()=>[.cells K0 [.bool I0.fc,v0] 107,.cells J0 [.bool H0.fc,s0] 107]) A0 1 7 ?_ ?_
 rintro ⟨⟩ U3 M1 z1
 try dsimp only
 refine BB 3 15 g0 I I .plain (AC (news:=[.bool I0.fc,v0]) M1 .hd I I I I I I (o2 I (Ay (Ag j1 (Tt d1 (Tt g1 (Tt R0 (Tt U0 (Tt Z0 (Tt y1 (Tt V0 z1))))))))))) fun A3 B0 c2=>AK (dk g0)<|Ar I<|Au hb0 func169 I (.cons (.many (cs:=[.bool H0.fc,s0]) I I (B0.memA .t1)) (.cons (.many (cs:=[.bool I0.fc,v0]) I I (B0.memA .hd)) .nil)) I ?_
 cases h
 have E1:=Tt V0 (Tt z1 c2)
 exact ⟨B0.ag,fun p q=>⟨s0,v0,I,B0.kd (Ag W0 E1) q,B0.kd (Ag j1 (Tt d1 (Tt g1 (Tt R0 (Tt U0 (Tt Z0 (Tt y1 E1))))))) q⟩⟩
 intro k1
 refine BJ [1,2] (rk g0) ⟨?_,?_,trivial⟩
 refine BV (m' :=3) (sk g0) I .plain I (Az I (A0.memA .t2)) ?_
 have A2:=Ag W0 V0
 refine BB 2 7 g0 I I .plain (AC (news:=[.bool H0.fc,s0]) A0 .t3 I I I I I I (o2 I (Ay A2))) fun M2 Q0 c1=>?_
 obtain ⟨P1,d2⟩:=AB Q0 (.a2 (.a2 .done))
 exact k1 () P1 (Tt c1 d2)
 refine RO.now (m' :=5) (sk g0) I I .plain (AC (news:=[.bool H0.fc,s0]) A0 .t3 I I I I I I (o2 I (Ay (Ag W0 V0)))) fun M2 Q0 c1=>Rx 1 8 g0 I G1 (Az I (Q0.memA .t2)) ?_
 obtain ⟨Q1,g2⟩:=AB Q0 (.a2 (.a2 .done))
 exact k1 () Q1 (Tt c1 g2)
 refine Aq<|Aj<|du 2 fun j0 H1=>Rx 0 12 j0 I H1 (Az I (c0.memA .t1))<|RD.mo (α:=Unit) (fun ()=>[(4,vP J0),(5,vP K0),(46,.agg #[.bool y0.fc,u0])]) (fun ()=>[.cells K0 [.bool y0.fc,u0] 107,.cells J0 [.bool x0.fc,t0] 107]) c0 1 7 ?_ ?_
 rintro ⟨⟩ V3 V1 A1
 try dsimp only
 have F1:=Tt k0 (Tt q0 A1)
 refine BB 3 15 j0 I I .plain (AC (news:=[.bool y0.fc,u0]) V1 .hd I I I I I I (o2 I (Ay (Ag X0 F1)))) fun D3 C0 B1=>AK (dk j0)<|Ar I<|Au hb0 func169 I (.cons (.many (cs:=[.bool x0.fc,t0]) I I (C0.memA .t1)) (.cons (.many (cs:=[.bool y0.fc,u0]) I I (C0.memA .hd)) .nil)) I ?_
 cases h
 exact ⟨C0.ag,fun p q=>⟨t0,u0,I,C0.kd (Ag G0 (Tt F0 (Tt k0 (Tt q0 (Tt A1 B1))))) q,C0.kd (Ag X0 (Tt F1 B1)) q⟩⟩
 intro p1
 refine BJ [1,2] (rk j0) ⟨?_,?_,trivial⟩
 refine BV (m' :=3) (sk j0) I .plain I (Az I (c0.memA .hd)) ?_
 have B2:=Tt F0 (Tt k0 q0)
 have z2:=Ag G0 B2
 refine BB 2 7 j0 I I .plain (AC (news:=[.bool x0.fc,t0]) c0 .t1 I I I I I I (o2 I (Ay z2))) fun K2 P0 b1=>?_
 obtain ⟨W1,j2⟩:=AB P0 (.a0 (.a0 .done))
 exact p1 () W1 (Tt b1 j2)
 refine RO.now (m' :=5) (sk j0) I I .plain (AC (news:=[.bool x0.fc,t0]) c0 .t1 I I I I I I (o2 I (Ay (Ag G0 (Tt F0 (Tt k0 q0)))))) fun K2 P0 b1=>Rx 1 8 j0 I H1 (Az I (P0.memA .hd)) ?_
 obtain ⟨X1,k2⟩:=AB P0 (.a0 (.a0 .done))
 exact p1 () X1 (Tt b1 k2)
def cj_p (n:Nat) (a0:Tg) (a1:Tg):Oa Td:=
  (bA_p n a0 a1).bind fun c0=>(cr_p n a0 c0).bind fun d0=>(cr_p n a1 c0).bind fun b0=>(if b0.1.fc = true then (bJ_p n d0.1).bind fun g0=>(bJ_p n b0.1).bind fun j0=>some (⟨g0,j0⟩:Td) else some (⟨d0.1,b0.1⟩:Td))
theorem cj_c (n:Nat) {L w} (hL:hl L w) (a0:Tg) {v0_1:Vc} (h0_1:Rep.R w L [v0_1] a0.fk) (a1:Tg) {v1_1:Vc} (h1_1:Rep.R w L [v1_1] a1.fk)  {r:Td} (h:cj_p n a0 a1 = some r) :
 Cl 140 #[.agg #[.bool a0.fc,v0_1],.agg #[.bool a1.fc,v1_1]] w (aj w fun w' u=>∃ v0_1 v0_3:Vc,u = .agg #[.bool r.fj.fc,v0_1,.bool r.fh.fc,v0_3]/\Rep.R w' L [v0_1] r.fj.fk/\Rep.R w' L [v0_3] r.fh.fk):=by
 unfold cj_p at h
 refine AM func140 I I I fun _ cs0 hb0=>Ae<|RG.bx (AL w) I I fun k3 D2 z1 U2=>RG.bx z1 I I fun x3 E2 C1 V2=>RG.nl [.bool false,vN,.bool false,vN] C1 fun y3 F2 j0 W2=>Aa<|Ae<|Ab (Az I (j0.memA .t2))<|Ab (Az I (j0.memA .t1))<|bk h fun X0 q2 h=>jE (bd 133) I (e2 I I) (fun p q=>bA_c n (j0.hL hL q) a0 (j0.km h0_1 q) a1 (j0.km h1_1 q) q2) I fun z3 b3 W1 ⟨v2,hu_,W0⟩=>?_
 subst hu_
 obtain ⟨D1,X2⟩:=j0.agr W1
 refine RG.nl [.bool false,vN] D1 fun A3 G2 E1 J0=>AQ [.bool X0.fc,v2] E1 .hd (o2 I (Ay (Ag W0 J0))) fun B3 t0 d1=>Aa<|Ae<|Ab (Az I (t0.memA .t3))<|Ab (Az I (t0.memA .hd))<|bk h fun d0 s2 h=>jE (bd 169) I (e2 I I) (fun p q=>cr_c n (t0.hL hL q) a0 (t0.km h0_1 q) X0 (Af (Ag W0 (Tt J0 d1)) q) s2) I fun C3 c3 X1 ⟨q0,x2,hu_,F0,Z1⟩=>?_
 subst hu_
 obtain ⟨F1,R1⟩:=t0.agr X1
 refine Ac I<|Ab (Ai I I)<|Ab (Ai I I)<|RG.nl [.bool false,vN] F1 fun D3 H2 G1 K0=>RG.nl [.bool false,vN] G1 fun E3 I2 H1 M0=>AQ [.bool d0.1.fc,q0] H1 .t1 (o2 I (Ay (Ag F0 (Tt K0 M0)))) fun F3 I1 g1=>?_
 have R0:=Tt K0 (Tt M0 g1)
 refine AQ [.bool d0.2.fc,x2] I1 .hd (o2 I (Ay (Ag Z1 R0))) fun G3 u0 P0=>Aa<|Ae<|Ab (Az I (u0.memA .t4))<|Ab (Az I (u0.memA .t2))<|bk h fun g0 u2 h=>jE (bd 169) I (e2 I I) (fun p q=>cr_c n (u0.hL hL q) a1 (u0.km h1_1 q) X0 (Af (Ag W0 (Tt J0 (Tt d1 (Tt R1 (Tt K0 (Tt M0 (Tt g1 P0))))))) q) u2) I fun H3 d3 Y1 ⟨s0,y2,hu_,G0,b2⟩=>?_
 subst hu_
 obtain ⟨J1,j1⟩:=u0.agr Y1
 refine Ac I<|Ab (Ai I I)<|Ab (Ai I I)<|RG.nl [.bool false,vN] J1 fun I3 J2 K1 C0=>RG.nl [.bool false,vN] K1 fun J3 K2 M1 D0=>AQ [.bool g0.1.fc,s0] M1 .t1 (o2 I (Ay (Ag G0 (Tt C0 D0)))) fun K3 P1 Q0=>?_
 have E0:=Tt C0 (Tt D0 Q0)
 refine AQ [.bool g0.2.fc,y2] P1 .hd (o2 I (Ay (Ag b2 E0))) fun g3 b0 v0=>Aa<|Aj<|Ae<|Bm 0 I<|Bf I ((b0.memA .t1) 0 _ I)<|Aa<|MX.ifb I h (fun y1 h=>?_) (fun y1 h=>?_)
 refine du 4 fun c0 x1=>Rx 0 58 c0 I x1 (Az I (b0.memA .t3))<|Rx 2 56 c0 I x1 (Az I (b0.memA .t1))<|bk h fun x0 k2 h=>AX 1 7 c0 I .plain (bd 145) I (e1 I) (fun p q=>bJ_c n (b0.hL hL q) d0.1 (Af (Ag F0 (Tt R0 (Tt P0 (Tt j1 (Tt C0 (Tt D0 (Tt Q0 v0))))))) q) k2) I fun j3 Y2 U1 ⟨k0,hu_,U0⟩=>?_
 subst hu_
 obtain ⟨Y0,Q1⟩:=b0.agr U1
 refine bk h fun y0 p2 h=>AX 3 15 c0 I .plain (bd 145) I (e1 I) (fun p q=>bJ_c n (Y0.hL hL q) g0.1 (Af (Ag G0 (Tt E0 (Tt v0 Q1))) q) p2) I fun p3 Z2 V1 ⟨p0,hu_,V0⟩=>?_
 subst hu_
 obtain ⟨A1,Z0⟩:=Y0.agr V1
 refine BB 4 31 c0 I I .plain (AC (news:=[.bool x0.fc,k0]) A1 .t3 I I I I I I (o2 I (Ay (Ag U0 Z0)))) fun q3 B1 B0=>BB 5 63 c0 I I .plain (AC (news:=[.bool y0.fc,p0]) B1 .t1 I I I I I I (o2 I (Ay (Ag V0 B0)))) fun s3 H0 I0=>AK (dk c0)<|Ae<|Ab (Az I (H0.memA .t3))<|Ab (Az I (H0.memA .t1)) ?_
 have u1:=Tt Z0 (Tt B0 I0)
 have k1:=Ag U0 u1
 obtain ⟨z2,M2,c2,_⟩:=Bl k1
 have p1:=Ag V0 (Tt B0 I0)
 obtain ⟨A2,P2,d2,_⟩:=Bl p1
 refine Ab (AS (vs:=[.agg #[.bool x0.fc,k0],.agg #[.bool y0.fc,p0]]) (u:=.agg #[.bool x0.fc,k0,.bool y0.fc,p0]) (e2 I I) (fun p=>by rw [c2,d2]; try kernel_rfl))<|AQ [.bool x0.fc,k0,.bool y0.fc,p0] H0 .t5 (o4 I (Ay k1) I (Ay p1)) fun u3 z0 b1=>Aa<|Ar I<|Au hb0 func140 I (.cons (.many (cs:=[.bool x0.fc,k0,.bool y0.fc,p0]) I I (z0.memA .t5)) .nil) I ?_
 cases h
 exact ⟨z0.ag,fun p q=>⟨k0,p0,I,z0.kd (Ag U0 (Tt u1 b1)) q,z0.kd (Ag V0 (Tt B0 (Tt I0 b1))) q⟩⟩
 refine Aq<|Ae<|Ab (Az I (b0.memA .t3))<|Ab (Az I (b0.memA .t1)) ?_
 have v1:=Tt R0 (Tt P0 (Tt j1 (Tt C0 (Tt D0 (Tt Q0 v0)))))
 have q1:=Ag F0 v1
 obtain ⟨B2,Q2,g2,_⟩:=Bl q1
 have s1:=Ag G0 (Tt E0 v0)
 obtain ⟨C2,R2,j2,_⟩:=Bl s1
 refine Ab (AS (vs:=[.agg #[.bool d0.1.fc,q0],.agg #[.bool g0.1.fc,s0]]) (u:=.agg #[.bool d0.1.fc,q0,.bool g0.1.fc,s0]) (e2 I I) (fun p=>by rw [g2,j2]; try kernel_rfl))<|AQ [.bool d0.1.fc,q0,.bool g0.1.fc,s0] b0 .t5 (o4 I (Ay q1) I (Ay s1)) fun v3 A0 c1=>Aa<|Ar I<|Au hb0 func140 I (.cons (.many (cs:=[.bool d0.1.fc,q0,.bool g0.1.fc,s0]) I I (A0.memA .t5)) .nil) I ?_
 cases h
 exact ⟨A0.ag,fun p q=>⟨q0,s0,I,A0.kd (Ag F0 (Tt v1 c1)) q,A0.kd (Ag G0 (Tt E0 (Tt v0 c1))) q⟩⟩
theorem po {w:World} {L:Lb Nat} {cs:Lb Vc} {x:U8} (h:Rep.R w L cs x):cs = [vU x.1,vU x.2.1,vU x.2.2.1,vU x.2.2.2.1,vU x.2.2.2.2.1,vU x.2.2.2.2.2.1,vU x.2.2.2.2.2.2.1,vU x.2.2.2.2.2.2.2]:=by
  obtain ⟨c0,r0,rfl,h0,h⟩:=h
  have e0:c0 = [vU x.1]:=h0; subst e0
  obtain ⟨c1,r1,rfl,h1,h⟩:=h
  have e1:c1 = [vU x.2.1]:=h1; subst e1
  obtain ⟨c2,r2,rfl,h2,h⟩:=h
  have e2:c2 = [vU x.2.2.1]:=h2; subst e2
  obtain ⟨c3,r3,rfl,h3,h⟩:=h
  have e3:c3 = [vU x.2.2.2.1]:=h3; subst e3
  obtain ⟨c4,r4,rfl,h4,h⟩:=h
  have e4:c4 = [vU x.2.2.2.2.1]:=h4; subst e4
  obtain ⟨c5,r5,rfl,h5,h⟩:=h
  have e5:c5 = [vU x.2.2.2.2.2.1]:=h5; subst e5
  obtain ⟨c6,r6,rfl,h6,h⟩:=h
  have e6:c6 = [vU x.2.2.2.2.2.2.1]:=h6; subst e6
  have e7:r6 = [vU x.2.2.2.2.2.2.2]:=h; subst e7
  rfl
theorem py {w:World} {L:Lb Nat} (a0:Ua) (a1:Ua) (a2:Ua) (a3:Ua) (a4:Ua) (a5:Ua) (a6:Ua) (a7:Ua):Rep.R w L [vU a0,vU a1,vU a2,vU a3,vU a4,vU a5,vU a6,vU a7] ((a0,a1,a2,a3,a4,a5,a6,a7):U8):=⟨[vU a0],[vU a1,vU a2,vU a3,vU a4,vU a5,vU a6,vU a7],rfl,rfl,⟨[vU a1],[vU a2,vU a3,vU a4,vU a5,vU a6,vU a7],rfl,rfl,⟨[vU a2],[vU a3,vU a4,vU a5,vU a6,vU a7],rfl,rfl,⟨[vU a3],[vU a4,vU a5,vU a6,vU a7],rfl,rfl,⟨[vU a4],[vU a5,vU a6,vU a7],rfl,rfl,⟨[vU a5],[vU a6,vU a7],rfl,rfl,⟨[vU a6],[vU a7],rfl,rfl,rfl⟩⟩⟩⟩⟩⟩⟩
theorem mw {a b:U8} (h0:a.1 = b.1) (h1:a.2.1 = b.2.1) (h2:a.2.2.1 = b.2.2.1) (h3:a.2.2.2.1 = b.2.2.2.1) (h4:a.2.2.2.2.1 = b.2.2.2.2.1) (h5:a.2.2.2.2.2.1 = b.2.2.2.2.2.1) (h6:a.2.2.2.2.2.2.1 = b.2.2.2.2.2.2.1) (h7:a.2.2.2.2.2.2.2 = b.2.2.2.2.2.2.2):a = b:=Prod.ext h0 (Prod.ext h1 (Prod.ext h2 (Prod.ext h3 (Prod.ext h4 (Prod.ext h5 (Prod.ext h6 (h7)))))))
theorem nj (a b:U8) (p:World):(do eqGuard .eql 32 (.tmp 0) (.tmp 0) (.agg #[vU a.1,vU a.2.1,vU a.2.2.1,vU a.2.2.2.1,vU a.2.2.2.2.1,vU a.2.2.2.2.2.1,vU a.2.2.2.2.2.2.1,vU a.2.2.2.2.2.2.2]) (.agg #[vU b.1,vU b.2.1,vU b.2.2.1,vU b.2.2.2.1,vU b.2.2.2.2.1,vU b.2.2.2.2.2.1,vU b.2.2.2.2.2.2.1,vU b.2.2.2.2.2.2.2]); binOp .eql 32 (.agg #[vU a.1,vU a.2.1,vU a.2.2.1,vU a.2.2.2.1,vU a.2.2.2.2.1,vU a.2.2.2.2.2.1,vU a.2.2.2.2.2.2.1,vU a.2.2.2.2.2.2.2]) (.agg #[vU b.1,vU b.2.1,vU b.2.2.1,vU b.2.2.2.1,vU b.2.2.2.2.1,vU b.2.2.2.2.2.1,vU b.2.2.2.2.2.2.1,vU b.2.2.2.2.2.2.2]):Sem Vc).run Tryz.prog p = .ok (.bool (decide (a = b))) p:=
  pF (ks:=[.int .u64,.int .u64,.int .u64,.int .u64,.int .u64,.int .u64,.int .u64,.int .u64]) (xs:=[vU a.1,vU a.2.1,vU a.2.2.1,vU a.2.2.2.1,vU a.2.2.2.2.1,vU a.2.2.2.2.2.1,vU a.2.2.2.2.2.2.1,vU a.2.2.2.2.2.2.2]) (ys:=[vU b.1,vU b.2.1,vU b.2.2.1,vU b.2.2.2.1,vU b.2.2.2.2.1,vU b.2.2.2.2.2.1,vU b.2.2.2.2.2.2.1,vU b.2.2.2.2.2.2.2]) (by kernel_rfl) (by kernel_rfl) (by kernel_rfl) I I ⟨fun h=>by
    simp only [bn,veq,Bool.and_eq_true,beq_iff_eq,and_true] at h
    obtain ⟨h0,h1,h2,h3,h4,h5,h6,h7⟩:=h
    exact mw (ah h0) (ah h1) (ah h2) (ah h3) (ah h4) (ah h5) (ah h6) (ah h7),fun h=>by subst h; simp [bn,veq]⟩ _ _ p
def dh_p (n:Nat) (a0:U8) (a1:U8):Oa (Tb × Int):=
  (if a1 = (0,0,0,0,0,0,0,0) then some ((⟨(0,0,0,0,0,0,0,0),(0,0,0,0,0,0,0,0)⟩:Tb),(7:Int)) else (bV_p n a0).bind fun c0=>(bV_p n a1).bind fun d0=>(cj_p n c0 d0).bind fun g0=>(ac_p n g0).bind fun b0=>some (b0.1,b0.2))
theorem dh_c (n:Nat) {L w} (hL:hl L w) (a0:U8) (a1:U8)  {r:Tb × Int} (h:dh_p n a0 a1 = some r) :
 Cl 131 #[.agg ((ak a0)).toArray,.agg ((ak a1)).toArray] w (aj w fun _ u=>u = .tuple #[.agg ((ab r.1)).toArray,vI r.2]):=by
 unfold dh_p at h
 refine AM func131 I I I fun _ cs0 hb0=>Ae<|RG.bx (AL w) I I fun s1 P0 u0 U0=>RG.bx u0 I I fun u1 Q0 v0 V0=>RG.nl zL v0 fun v1 R0 c0 W0=>Ah I<|Aa<|Aj<|Ae<|Ab (Az I (c0.memA .t1))<|Ab (AS (vs:=[]) (u:=.agg zQ) am (fun p=>by kernel_rfl))<|Ab (FV.eqlV (v:=.agg ((ak a1)).toArray) (u:=.agg zQ) I I (nj a1 (0,0,0,0,0,0,0,0)))<|Aa<|AV I h (fun t0 h=>?_) (fun t0 h=>?_)
 refine Ae<|Ab (AS (vs:=[]) (u:=.agg zM) am (fun p=>by kernel_rfl))<|AQ zL c0 .hd (ai I) fun x1 k0 X0=>Ah I<|Aa<|Ar I<|Au hb0 func131 I (.cons (.many (cs:=zL) I I (k0.memA .hd)) (.cons (.tmp I) .nil)) I ?_
 cases h
 exact k0.gv
 refine Aq<|Aj<|du 8 fun b0 d0=>Rx 0 1018 b0 I d0 (Az I (c0.memA .t2))<|Rx 2 1016 b0 I d0 (Az I (c0.memA .t1))<|bk h fun J0 F0 h=>AX 1 7 b0 I .plain (bd 135) I (e1 I) (fun p q=>bV_c n (c0.hL hL q) a0 F0) I fun w32 k1 y0 ⟨c1,hu_,B0⟩=>?_
 subst hu_
 obtain ⟨p0,Y0⟩:=c0.agr y0
 refine bk h fun K0 G0 h=>AX 3 15 b0 I .plain (bd 135) I (e1 I) (fun p q=>bV_c n (p0.hL hL q) a1 G0) I fun y1 p1 z0 ⟨d1,hu_,C0⟩=>?_
 subst hu_
 obtain ⟨q0,x0⟩:=p0.agr z0
 refine bk h fun M0 H0 h=>AX 4 31 b0 I .plain (bd 140) I (e2 I I) (fun p q=>cj_c n (q0.hL hL q) J0 (Af (Ag B0 x0) q) K0 (Af C0 q) H0) I fun z1 q1 A0 ⟨g1,j1,hu_,D0,E0⟩=>?_
 subst hu_
 obtain ⟨g0,Z0⟩:=q0.agr A0
 refine bk h fun j0 I0 h=>RD.cq 5 63 960 (.tuple #[.agg ((ab j0.1)).toArray,vI j0.2]) b0 I d0 (bd 77) I (e1 I) (fun p q=>ac_c n (g0.hL0 hL q) M0 (g0.kd D0 q) (g0.kd E0 q) I0) I<|Rv 6 b0 I d0 (fun _=>Ai I I)<|Rv 7 b0 I d0 (fun _=>Ai I I)<|BB 8 511 b0 I I .plain (AC (news:=(ab j0.1)) g0 .hd I I I I I I (ai I)) fun A1 s0 b1=>BK (i:=9) (rk b0) (BV (m' :=1023) (sk b0) I .plain I (Bj I) ?_)
 refine AK (dk b0)<|Ar I<|Au hb0 func131 I (.cons (.many (cs:=(ab j0.1)) I I (s0.memA .hd)) (.cons (.tmp I) .nil)) I ?_
 cases h
 exact s0.gv
def di_p (n:Nat) (a0:Int) (a1:Int):Oa (Tb × Int):=
  (cY_p n a0).bind fun c0=>(cY_p n a1).bind fun d0=>(dh_p n c0 d0).bind fun b0=>some (b0.1,b0.2)
theorem di_c (n:Nat) {L w} (hL:hl L w) {a0:Int} {a1:Int}  {r:Tb × Int} (h:di_p n a0 a1 = some r) :
 Cl 64 #[vI a0,vI a1] w (aj w fun _ u=>u = .tuple #[.agg ((ab r.1)).toArray,vI r.2]):=by
 unfold di_p at h
 refine AM func64 I I I fun _ cs0 hb0=>Ae<|RG.nl zL (AL w) fun v0 s0 b0 t0=>Ah I<|Aa<|Ae<|Ac I<|bk h fun g0 k0 h=>Bd (.agg ((ak g0)).toArray) (bd 32) I (e1 I) (fun p q=>cY_c n (b0.hL0 hL q)  k0) I<|Ac I<|bk h fun j0 p0 h=>Bd (.agg ((ak j0)).toArray) (bd 32) I (e1 I) (fun p q=>cY_c n (b0.hL0 hL q)  p0) I<|bk h fun c0 q0 h=>Bd (.tuple #[.agg ((ab c0.1)).toArray,vI c0.2]) (bd 131) I (e2 I I) (fun p q=>dh_c n (b0.hL0 hL q) g0 j0 q0) I<|Ab (Ai I I)<|Ab (Ai I I)<|AQ (ab c0.1) b0 .hd (ai I) fun x0 d0 u0=>Ah I<|Aa<|Ar I<|Au hb0 func64 I (.cons (.many (cs:=(ab c0.1)) I I (d0.memA .hd)) (.cons (.tmp I) .nil)) I ?_
 cases h
 exact d0.gv
def ai_p (n:Nat) (a0:Int) (a1:Int):Oa Tb:=
  (di_p n a0 a1).bind fun b0=>some b0.1
theorem ai_c (n:Nat) {L w} (hL:hl L w) {a0:Int} {a1:Int}  {r:Tb} (h:ai_p n a0 a1 = some r) :
 Cl 15 #[vI a0,vI a1] w (aj w fun _ u=>u = .agg ((ab r)).toArray):=by
 unfold ai_p at h
 refine AM func15 I I I fun _ cs0 hb0=>Ae<|RG.nl zL (AL w) fun x0 p0 c0 s0=>Aa<|Ae<|Ac I<|Ac I<|bk h fun b0 k0 h=>Bd (.tuple #[.agg ((ab b0.1)).toArray,vI b0.2]) (bd 64) I (e2 I I) (fun p q=>di_c n (c0.hL0 hL q)  k0) I<|Ac I<|Ab (Ai I I)<|Ab (Ai I I)<|RG.nl zL c0 fun y0 q0 j0 t0=>AQ (ab b0.1) j0 .hd (ai I) fun z0 d0 u0=>Ah I<|Aa<|Ae<|Ab (Az I (d0.memA .hd))<|AQ (ab b0.1) d0 .t1 (ai I) fun A0 g0 v0=>Aa<|Ar I<|Au hb0 func15 I (.cons (.many (cs:=(ab b0.1)) I I (g0.memA .t1)) .nil) I ?_
 cases h
 exact g0.gv
structure Ta where
  fm:Tb
  fP:Tb
  deriving DecidableEq
instance:Rep Ta:=Rep.via (β:=Tb × Tb) fun x=>(x.fm,x.fP)
theorem op_A26 {w:World} {L:Lb Nat} {cs:Lb Vc} {x:Int × Int} (h:Rep.R w L cs x):cs = [vI x.1,vI x.2]:=by
  obtain ⟨c0,r0,rfl,h0,h⟩:=h
  have e0:c0 = [vI x.1]:=h0; subst e0
  have e1:r0 = [vI x.2]:=h; subst e1
  rfl
theorem bR {w:World} {L:Lb Nat} (a0:Int) (a1:Int):Rep.R w L [vI a0,vI a1] ((a0,a1):Int × Int):=⟨[vI a0],[vI a1],rfl,rfl,rfl⟩
theorem dh {w:World} {L:Lb Nat} {cs:Lb Vc} {x:Tb} (h:Rep.R w L cs x):cs = [vU x.fN.1,vU x.fN.2.1,vU x.fN.2.2.1,vU x.fN.2.2.2.1,vU x.fN.2.2.2.2.1,vU x.fN.2.2.2.2.2.1,vU x.fN.2.2.2.2.2.2.1,vU x.fN.2.2.2.2.2.2.2,vU x.fD.1,vU x.fD.2.1,vU x.fD.2.2.1,vU x.fD.2.2.2.1,vU x.fD.2.2.2.2.1,vU x.fD.2.2.2.2.2.1,vU x.fD.2.2.2.2.2.2.1,vU x.fD.2.2.2.2.2.2.2]:=by
  obtain ⟨c0,r0,rfl,h0,h⟩:=h
  obtain rfl:=po (x:=x.fN) h0
  obtain rfl:=po (x:=x.fD) h
  rfl
theorem ci {w:World} {L:Lb Nat} (a0:U8) (a1:U8):Rep.R w L [vU a0.1,vU a0.2.1,vU a0.2.2.1,vU a0.2.2.2.1,vU a0.2.2.2.2.1,vU a0.2.2.2.2.2.1,vU a0.2.2.2.2.2.2.1,vU a0.2.2.2.2.2.2.2,vU a1.1,vU a1.2.1,vU a1.2.2.1,vU a1.2.2.2.1,vU a1.2.2.2.2.1,vU a1.2.2.2.2.2.1,vU a1.2.2.2.2.2.2.1,vU a1.2.2.2.2.2.2.2] (⟨a0,a1⟩:Tb):=⟨[vU a0.1,vU a0.2.1,vU a0.2.2.1,vU a0.2.2.2.1,vU a0.2.2.2.2.1,vU a0.2.2.2.2.2.1,vU a0.2.2.2.2.2.2.1,vU a0.2.2.2.2.2.2.2],[vU a1.1,vU a1.2.1,vU a1.2.2.1,vU a1.2.2.2.1,vU a1.2.2.2.2.1,vU a1.2.2.2.2.2.1,vU a1.2.2.2.2.2.2.1,vU a1.2.2.2.2.2.2.2],rfl,py a0.1 a0.2.1 a0.2.2.1 a0.2.2.2.1 a0.2.2.2.2.1 a0.2.2.2.2.2.1 a0.2.2.2.2.2.2.1 a0.2.2.2.2.2.2.2,py a1.1 a1.2.1 a1.2.2.1 a1.2.2.2.1 a1.2.2.2.2.1 a1.2.2.2.2.2.1 a1.2.2.2.2.2.2.1 a1.2.2.2.2.2.2.2⟩
theorem aF {w:World} {L:Lb Nat} {cs:Lb Vc} {x:Ta} (h:Rep.R w L cs x):cs = [vU x.fm.fN.1,vU x.fm.fN.2.1,vU x.fm.fN.2.2.1,vU x.fm.fN.2.2.2.1,vU x.fm.fN.2.2.2.2.1,vU x.fm.fN.2.2.2.2.2.1,vU x.fm.fN.2.2.2.2.2.2.1,vU x.fm.fN.2.2.2.2.2.2.2,vU x.fm.fD.1,vU x.fm.fD.2.1,vU x.fm.fD.2.2.1,vU x.fm.fD.2.2.2.1,vU x.fm.fD.2.2.2.2.1,vU x.fm.fD.2.2.2.2.2.1,vU x.fm.fD.2.2.2.2.2.2.1,vU x.fm.fD.2.2.2.2.2.2.2,vU x.fP.fN.1,vU x.fP.fN.2.1,vU x.fP.fN.2.2.1,vU x.fP.fN.2.2.2.1,vU x.fP.fN.2.2.2.2.1,vU x.fP.fN.2.2.2.2.2.1,vU x.fP.fN.2.2.2.2.2.2.1,vU x.fP.fN.2.2.2.2.2.2.2,vU x.fP.fD.1,vU x.fP.fD.2.1,vU x.fP.fD.2.2.1,vU x.fP.fD.2.2.2.1,vU x.fP.fD.2.2.2.2.1,vU x.fP.fD.2.2.2.2.2.1,vU x.fP.fD.2.2.2.2.2.2.1,vU x.fP.fD.2.2.2.2.2.2.2]:=by
  obtain ⟨c0,r0,rfl,h0,h⟩:=h
  obtain rfl:=dh (x:=x.fm) h0
  obtain rfl:=dh (x:=x.fP) h
  rfl
theorem aW {w:World} {L:Lb Nat} (a0:Tb) (a1:Tb):Rep.R w L [vU a0.fN.1,vU a0.fN.2.1,vU a0.fN.2.2.1,vU a0.fN.2.2.2.1,vU a0.fN.2.2.2.2.1,vU a0.fN.2.2.2.2.2.1,vU a0.fN.2.2.2.2.2.2.1,vU a0.fN.2.2.2.2.2.2.2,vU a0.fD.1,vU a0.fD.2.1,vU a0.fD.2.2.1,vU a0.fD.2.2.2.1,vU a0.fD.2.2.2.2.1,vU a0.fD.2.2.2.2.2.1,vU a0.fD.2.2.2.2.2.2.1,vU a0.fD.2.2.2.2.2.2.2,vU a1.fN.1,vU a1.fN.2.1,vU a1.fN.2.2.1,vU a1.fN.2.2.2.1,vU a1.fN.2.2.2.2.1,vU a1.fN.2.2.2.2.2.1,vU a1.fN.2.2.2.2.2.2.1,vU a1.fN.2.2.2.2.2.2.2,vU a1.fD.1,vU a1.fD.2.1,vU a1.fD.2.2.1,vU a1.fD.2.2.2.1,vU a1.fD.2.2.2.2.1,vU a1.fD.2.2.2.2.2.1,vU a1.fD.2.2.2.2.2.2.1,vU a1.fD.2.2.2.2.2.2.2] (⟨a0,a1⟩:Ta):=⟨[vU a0.fN.1,vU a0.fN.2.1,vU a0.fN.2.2.1,vU a0.fN.2.2.2.1,vU a0.fN.2.2.2.2.1,vU a0.fN.2.2.2.2.2.1,vU a0.fN.2.2.2.2.2.2.1,vU a0.fN.2.2.2.2.2.2.2,vU a0.fD.1,vU a0.fD.2.1,vU a0.fD.2.2.1,vU a0.fD.2.2.2.1,vU a0.fD.2.2.2.2.1,vU a0.fD.2.2.2.2.2.1,vU a0.fD.2.2.2.2.2.2.1,vU a0.fD.2.2.2.2.2.2.2],[vU a1.fN.1,vU a1.fN.2.1,vU a1.fN.2.2.1,vU a1.fN.2.2.2.1,vU a1.fN.2.2.2.2.1,vU a1.fN.2.2.2.2.2.1,vU a1.fN.2.2.2.2.2.2.1,vU a1.fN.2.2.2.2.2.2.2,vU a1.fD.1,vU a1.fD.2.1,vU a1.fD.2.2.1,vU a1.fD.2.2.2.1,vU a1.fD.2.2.2.2.1,vU a1.fD.2.2.2.2.2.1,vU a1.fD.2.2.2.2.2.2.1,vU a1.fD.2.2.2.2.2.2.2],rfl,ci a0.fN a0.fD,ci a1.fN a1.fD⟩
theorem cW:ElT Tryz.prog 24 37 (Rep.size Ta) 256 (.agg #[vW 0,vW 0,vW 0,vW 0,vW 0,vW 0,vW 0,vW 0,vW 0,vW 0,vW 0,vW 0,vW 0,vW 0,vW 0,vW 0,vW 0,vW 0,vW 0,vW 0,vW 0,vW 0,vW 0,vW 0,vW 0,vW 0,vW 0,vW 0,vW 0,vW 0,vW 0,vW 0]) [vW 0,vW 0,vW 0,vW 0,vW 0,vW 0,vW 0,vW 0,vW 0,vW 0,vW 0,vW 0,vW 0,vW 0,vW 0,vW 0,vW 0,vW 0,vW 0,vW 0,vW 0,vW 0,vW 0,vW 0,vW 0,vW 0,vW 0,vW 0,vW 0,vW 0,vW 0,vW 0]:=⟨underlying24,by kernel_rfl,rfl,rfl,rfl,rfl⟩
def az_l1 (n:Nat) (a1:Lb (Int × Int)) (a0:Int) (g0:Nat × (Lb Ta) -> Oa (Lb Ta)):Nat × (Lb Ta) -> Oa (Lb Ta)
  | (b0,d0)=>(if b0 < a1.length then (a1[b0]?).bind fun c0=>(ai_p n c0.1 (2:Int)).bind fun k0=>(ai_p n c0.2 a0).bind fun p0=>(app d0 ([(⟨k0,p0⟩:Ta)]:Lb Ta)).bind fun j0=>g0 (b0 + 1,j0) else some d0)
def az_p (n:Nat) (a0:Int) (a1:Lb (Int × Int)):Oa (Lb Ta):=
  Option.bind (ao (az_l1 n a1 a0) n (0,([]:Lb Ta))) (fun b0=>some b0)
theorem az_c (n:Nat) {L w} (hL:hl L w) {a0:Int} {a1:Lb (Int × Int)} {v1_0:Vc} (h1_0:Rep.R w L [v1_0] a1)  {r:Lb Ta} (h:az_p n a0 a1 = some r) :
 Cl 13 #[vI a0,v1_0] w (aj w fun w' u=>∃ v0_0:Vc,u = v0_0/\Rep.R w' L [v0_0] r):=by
 unfold az_p at h
 have hS0:=AL w
 refine AM func13 I I I fun _ cs0 hb0=>Ae<|Ah I<|Aa<|Ae<|Ah I<|Aa<|Aj<|Ae<|Ac I ?_
 have hl1:=AY h1_0
 refine Ab (Ba (xs:=a1) underlying102 I h1_0)<|Ac I<|Aa<|Av ?_
 have x0:=hS0.nilRow 37 (Rep.size Ta)
 have z1:=BW hS0 37 (Rep.size Ta)
 obtain ⟨B1,Y0,V0⟩:=ap h
 refine BP (α:=Nat × (Lb Ta) × Vc × (Lb Vc)) (fun ⟨g0,p0,k0,q0⟩=>[(0,vI a0),(5,k0),(8,v1_0),(9,vn a1.length),(10,vn g0)]) (fun ⟨g0,p0,k0,q0⟩=>[rr w 37 Ta k0 p0.length q0]) (fun ⟨g0,p0,k0,q0⟩ B0=>Cells B0 (bl [rr w 37 Ta k0 p0.length q0] ++ L) q0 p0) (fun ⟨g0,p0,k0,q0⟩=>(g0,p0)) (0,([]:Lb Ta),vN,[]) Y0 x0 (AI (cs:=[]) (xs:=([]:Lb Ta)) x0 L (AT _ _)) ?_
 rintro s1 ⟨g0,p0,k0,q0⟩ B0 F0 s0 J0 z0 h
 unfold az_l1 at h
 try dsimp only at h
 refine Ae<|Ab (AU (i:=g0) (j:=a1.length) I I)<|Aa<|Aj<|AV I h (fun D0 h=>?_) (fun D0 h=>?_)
 refine Aq<|Aj<|Av<|Ae<|bk h fun C0 c1 h=>?_
 obtain ⟨q1,x1,U0,W0,y1,Z0,X0⟩:=Bh (AH h1_0 s0) c1
 obtain rfl:=op_A26 Z0
 refine Ab (Be 2 g0 I U0 I I W0)<|Ab (Az I X0)<|RG.nl [vI 0,vI 0] s0 fun C1 u1 G0 K0=>AQ [vI C0.1,vI C0.2] G0 .hd (ai I) fun D1 t0 M0=>Aa<|du 10 fun b0 j0=>Rv 0 b0 I j0 (fun _=>Al I)<|Rv 1 b0 I j0 (fun _=>AP (m:=1) (k:=0) (len:=2) I I I I (by omega))<|Rx 2 3976 b0 I j0 (Bp I ((t0.memA .hd) 0 _ I))<|bk h fun c0 g1 h=>RD.cq 3 15 3968 (.agg ((ab c0)).toArray) b0 I j0 (bd 15) I (e2 I I) (fun p q=>ai_c n (t0.hL0 hL q)  g1) I<|Rv 4 b0 I j0 (fun _=>AP (m:=1) (k:=1) (len:=2) I I I I (by omega))<|Rx 5 3968 b0 I j0 (Bp I ((t0.memA .hd) 1 _ I))<|Rv 6 b0 I j0 (fun _=>Al I)<|bk h fun d0 j1 h=>RD.cq 7 255 3840 (.agg ((ab d0)).toArray) b0 I j0 (bd 15) I (e2 I I) (fun p q=>ai_c n (t0.hL0 hL q)  j1) I<|Rv 8 b0 I j0 (fun _=>AS (vs:=[.agg ((ab c0)).toArray,.agg ((ab d0)).toArray]) (u:=.agg ((ab c0 ++ ab d0)).toArray) (e2 I I) (fun p=>by kernel_rfl))<|RD.nu 9 1023 b0 I .plain I (AW (α:=Ta) (xs:=([(⟨c0,d0⟩:Ta)]:Lb Ta)) (vs:=[.agg ((ab c0 ++ ab d0)).toArray]) (ds' :=(ab c0 ++ ab d0)) I t0 cW I (e1 I) (by kernel_rfl) I) fun E1 v1 u0 P0=>bk h fun p1 d1 h=>?_
 have A0:=Tt K0 (Tt M0 P0)
 refine BK (i:=10) (rk b0) (RO.doesL (m' :=2047) (sk b0) I I .plain I (Bn (α:=Ta) (ys:=([(⟨c0,d0⟩:Ta)]:Lb Ta)) d1 u0 (fun _ _=>.t2) cW I I (AR z0 A0) (BH (α:=Ta) u0 .hd (AI (cs:=(ab c0 ++ ab d0)) (xs:=(([(⟨c0,d0⟩:Ta)]:Lb Ta):Lb Ta)) u0 L (AE (cs:=(ab c0 ++ ab d0)) (ds:=[]) (aW c0 d0) (AT _ _))))) (fun k1 F1 ⟨E0,H0,Q0,R0⟩=>?_))
 refine BK (i:=11) (rk b0) (BV (m' :=4095) (sk b0) I .plain I (Bj I) ?_)
 refine AK (dk b0)<|Ax<|Am<|Ab (Bc (i:=g0) (j:=1) I I (by omega))<|Ac I<|Aa ?_
 obtain ⟨I0,y0⟩:=AB H0 .d2
 exact F0 (g0 + 1,p1,k1,E0) I0 (Tt J0 (Tt A0 (Tt Q0 y0))) (AR R0 y0) h
 refine AZ I ?_
 have h:=V0 _ h
 try dsimp only at h
 refine Ae<|Ac I<|Ah I<|Aa<|Ar I ?_
 have v0:=Bu s0 .hd
 have A1:=Bv s0 .hd
 have b1:=Bw (α:=Ta) (v:=k0) (xs:=p0) v0 L (Bi (α:=Ta) s0 .hd z0 hL)
 refine Bb hb0 func13 I I ?_
 cases h
 exact ⟨v0.ag,fun p q=>⟨k0,I,v0.kd b1 q⟩⟩
def aW_p (_n:Nat) (a0:Tg):Oa Int:=
  (if a0.fc = true then some (-1:Int) else (if a0.fk.length = 0 then some (0:Int) else some (1:Int)))
theorem aW_c (n:Nat) {L w} (_hL:hl L w) (a0:Tg) {v0_1:Vc} (h0_1:Rep.R w L [v0_1] a0.fk)  {r:Int} (h:aW_p n a0 = some r) :
 Cl 67 #[.agg #[.bool a0.fc,v0_1]] w (aj w fun _ u=>u = vI r):=by
 unfold aW_p at h
 refine AM func67 I I I fun _ cs0 hb0=>Ae<|RG.bx (AL w) I I fun q0 j0 b0 k0=>Ah I<|Aa<|Aj<|Av<|Ae<|Bm 0 I<|Bf I ((b0.memA .hd) 0 _ I)<|Ah I<|Aa<|MX.ifb I h (fun d0 h=>?_) (fun d0 h=>?_)
 refine Ae<|Ah I<|Aa<|Ar I<|Bb hb0 func67 I I ?_
 cases h
 exact b0.gv
 refine Ae<|Bm 1 I<|Bf I ((b0.memA .hd) 1 _ I) ?_
 have c0:=AH h0_1 b0
 have p0:=AY c0
 refine Ab (Ba (xs:=a0.fk) underlying105 I c0)<|Ab (FV.eqlN (i:=a0.fk.length) (j:=0) I I)<|Ah I<|Aa<|AV I h (fun g0 h=>?_) (fun g0 h=>?_)
 refine Ae<|Ah I<|Aa<|Ar I<|Bb hb0 func67 I I ?_
 cases h
 exact b0.gv
 refine Aq<|Ax<|Ae<|Ah I<|Aa<|Ar I<|Bb hb0 func67 I I ?_
 cases h
 exact b0.gv
def ak_p (n:Nat) (a0:Tb):Oa Td:=
  (bV_p n a0.fN).bind fun b0=>(bV_p n a0.fD).bind fun c0=>some (⟨b0,c0⟩:Td)
theorem ak_c (n:Nat) {L w} (hL:hl L w) (a0:Tb)  {r:Td} (h:ak_p n a0 = some r) :
 Cl 68 #[.agg ((ab a0)).toArray] w (aj w fun w' u=>∃ v0_1 v0_3:Vc,u = .agg #[.bool r.fj.fc,v0_1,.bool r.fh.fc,v0_3]/\Rep.R w' L [v0_1] r.fj.fk/\Rep.R w' L [v0_3] r.fh.fk):=by
 unfold ak_p at h
 refine AM func68 I I I fun _ cs0 hb0=>Ae<|RG.bx (AL w) I I fun X0 J0 z0 Q0=>RG.nl [.bool false,vN,.bool false,vN] z0 fun Y0 K0 j0 R0=>Aa<|Aj<|du 7 fun b0 c0=>Rv 0 b0 I c0 (fun _=>Bg 0 I)<|Rx 1 228 b0 I c0 (AN (cs:=(ak a0.fN)) I I (ac (j0.memA .t1) 0 8))<|Rv 3 b0 I c0 (fun _=>Bg 8 I)<|Rx 4 224 b0 I c0 (AN (cs:=(ak a0.fD)) I I (ac (j0.memA .t1) 8 8))<|bk h fun p0 F0 h=>AX 2 31 b0 I .plain (bd 135) I (e1 I) (fun p q=>bV_c n (j0.hL hL q) a0.fN F0) I fun Z0 V0 B0 ⟨d0,hu_,y0⟩=>?_
 subst hu_
 obtain ⟨t0,U0⟩:=j0.agr B0
 refine bk h fun q0 G0 h=>AX 5 63 b0 I .plain (bd 135) I (e1 I) (fun p q=>bV_c n (t0.hL hL q) a0.fD G0) I fun b1 W0 C0 ⟨g0,hu_,s0⟩=>?_
 subst hu_
 obtain ⟨A0,u0⟩:=t0.agr C0
 have x0:=Ag y0 u0
 obtain ⟨H0,M0,D0,_⟩:=Bl x0
 obtain ⟨I0,P0,E0,_⟩:=Bl s0
 refine Rv 6 b0 I c0 (fun _=>AS (vs:=[.agg #[.bool p0.fc,d0],.agg #[.bool q0.fc,g0]]) (u:=.agg #[.bool p0.fc,d0,.bool q0.fc,g0]) (e2 I I) (fun p=>by rw [D0,E0]; try kernel_rfl))<|BB 7 255 b0 I I .plain (AC (news:=[.bool p0.fc,d0,.bool q0.fc,g0]) A0 .hd I I I I I I (o4 I (Ay x0) I (Ay s0))) fun c1 k0 v0=>AK (dk b0)<|Ar I<|Au hb0 func68 I (.cons (.many (cs:=[.bool p0.fc,d0,.bool q0.fc,g0]) I I (k0.memA .hd)) .nil) I ?_
 cases h
 exact ⟨k0.ag,fun p q=>⟨d0,g0,I,k0.kd (Ag y0 (Tt u0 v0)) q,k0.kd (Ag s0 v0) q⟩⟩
def cV_p (n:Nat) (a0:Int):Oa Tg:=
  (cY_p n a0).bind fun b0=>(bV_p n b0).bind fun c0=>some c0
theorem cV_c (n:Nat) {L w} (hL:hl L w) {a0:Int}  {r:Tg} (h:cV_p n a0 = some r) :
 Cl 132 #[vI a0] w (aj w fun w' u=>∃ v0_1:Vc,u = .agg #[.bool r.fc,v0_1]/\Rep.R w' L [v0_1] r.fk):=by
 unfold cV_p at h
 refine AM func132 I I I fun _ cs0 hb0=>Ae<|RG.nl [.bool false,vN] (AL w) fun A0 v0 b0 x0=>Aa<|Ae<|Ac I<|bk h fun j0 t0 h=>Bd (.agg ((ak j0)).toArray) (bd 32) I (e1 I) (fun p q=>cY_c n (b0.hL0 hL q)  t0) I<|bk h fun k0 u0 h=>jE (bd 135) I (e1 I) (fun p q=>bV_c n (b0.hL hL q) j0 u0) I fun B0 z0 s0 ⟨d0,hu_,g0⟩=>?_
 subst hu_
 obtain ⟨p0,y0⟩:=b0.agr s0
 refine AQ [.bool k0.fc,d0] p0 .hd (o2 I (Ay g0)) fun C0 c0 q0=>Aa<|Ar I<|Au hb0 func132 I (.cons (.many (cs:=[.bool k0.fc,d0]) I I (c0.memA .hd)) .nil) I ?_
 cases h
 exact ⟨c0.ag,fun p q=>⟨d0,I,c0.kd (Ag g0 q0) q⟩⟩
def cL_p (n:Nat) (a0:Tg) (a1:Tg):Oa Tg:=
  (bJ_p n a1).bind fun b0=>(bT_p n a0 b0).bind fun c0=>some c0
theorem cL_c (n:Nat) {L w} (hL:hl L w) (a0:Tg) {v0_1:Vc} (h0_1:Rep.R w L [v0_1] a0.fk) (a1:Tg) {v1_1:Vc} (h1_1:Rep.R w L [v1_1] a1.fk)  {r:Tg} (h:cL_p n a0 a1 = some r) :
 Cl 164 #[.agg #[.bool a0.fc,v0_1],.agg #[.bool a1.fc,v1_1]] w (aj w fun w' u=>∃ v0_1:Vc,u = .agg #[.bool r.fc,v0_1]/\Rep.R w' L [v0_1] r.fk):=by
 unfold cL_p at h
 refine AM func164 I I I fun _ cs0 hb0=>Ae<|RG.bx (AL w) I I fun R0 D0 s0 G0=>RG.bx s0 I I fun U0 E0 t0 H0=>RG.nl [.bool false,vN] t0 fun V0 F0 c0 I0=>Aa<|Aj<|du 4 fun b0 p0=>Rx 0 24 b0 I p0 (Az I (c0.memA .t2))<|Rx 1 28 b0 I p0 (Az I (c0.memA .t1))<|bk h fun C0 A0 h=>AX 2 7 b0 I .plain (bd 145) I (e1 I) (fun p q=>bJ_c n (c0.hL hL q) a1 (c0.km h1_1 q) A0) I fun W0 P0 x0 ⟨M0,hu_,z0⟩=>?_
 subst hu_
 obtain ⟨d0,J0⟩:=c0.agr x0
 refine bk h fun q0 B0 h=>AX 3 15 b0 I .plain (bd 141) I (e2 I I) (fun p q=>bT_c n (d0.hL hL q) a0 (d0.km h0_1 q) C0 (Af z0 q) B0) I fun X0 Q0 y0 ⟨j0,hu_,k0⟩=>?_
 subst hu_
 obtain ⟨u0,K0⟩:=d0.agr y0
 refine BB 4 31 b0 I I .plain (AC (news:=[.bool q0.fc,j0]) u0 .hd I I I I I I (o2 I (Ay k0))) fun Y0 g0 v0=>AK (dk b0)<|Ar I<|Au hb0 func164 I (.cons (.many (cs:=[.bool q0.fc,j0]) I I (g0.memA .hd)) .nil) I ?_
 cases h
 exact ⟨g0.ag,fun p q=>⟨j0,I,g0.kd (Ag k0 v0) q⟩⟩
def cn_p (n:Nat) (a0:Tg) (a1:Tg):Oa Int:=
  (cL_p n a0 a1).bind fun b0=>(aW_p n b0).bind fun c0=>some c0
theorem cn_c (n:Nat) {L w} (hL:hl L w) (a0:Tg) {v0_1:Vc} (h0_1:Rep.R w L [v0_1] a0.fk) (a1:Tg) {v1_1:Vc} (h1_1:Rep.R w L [v1_1] a1.fk)  {r:Int} (h:cn_p n a0 a1 = some r) :
 Cl 134 #[.agg #[.bool a0.fc,v0_1],.agg #[.bool a1.fc,v1_1]] w (aj w fun _ u=>u = vI r):=by
 unfold cn_p at h
 refine AM func134 I I I fun _ cs0 hb0=>Ae<|RG.bx (AL w) I I fun B0 t0 d0 v0=>RG.bx d0 I I fun C0 u0 b0 x0=>Ah I<|Aa<|Ae<|Ab (Az I (b0.memA .t1))<|Ab (Az I (b0.memA .hd))<|bk h fun q0 k0 h=>jE (bd 164) I (e2 I I) (fun p q=>cL_c n (b0.hL hL q) a0 (b0.km h0_1 q) a1 (b0.km h1_1 q) k0) I fun D0 A0 g0 ⟨z0,hu_,j0⟩=>?_
 subst hu_
 obtain ⟨c0,y0⟩:=b0.agr g0
 refine bk h fun s0 p0 h=>Bd (vI s0) (bd 67) I (e1 I) (fun p q=>aW_c n (c0.hL0 hL q) q0 (c0.kd j0 q) p0) I<|Ah I<|Aa<|Ar I<|Bb hb0 func134 I I ?_
 cases h
 exact c0.gv
def bY_p (n:Nat) (a0:Tb):Oa Int:=
  (cV_p n (1:Int)).bind fun c0=>(ak_p n a0).bind fun b0=>(aW_p n b0.fh).bind fun d0=>(if d0 <= 0 then some (20:Int) else (bA_p n b0.fj b0.fh).bind fun g0=>(cn_p n g0 c0).bind fun j0=>(if j0 = 0 then some (0:Int) else some (20:Int)))
theorem bY_c (n:Nat) {L w} (hL:hl L w) (a0:Tb)  {r:Int} (h:bY_p n a0 = some r) :
 Cl 65 #[.agg ((ab a0)).toArray] w (aj w fun _ u=>u = vI r):=by
 unfold bY_p at h
 refine AM func65 I I I fun _ cs0 hb0=>Ae<|RG.bx (AL w) I I fun y1 g1 t0 p1=>Ah I<|Aa<|Ae<|bk h fun B0 W0 h=>jE (bd 132) I (e1 I) (fun p q=>cV_c n (t0.hL hL q)  W0) I fun z1 u1 Q0 ⟨c1,hu_,x0⟩=>?_
 subst hu_
 obtain ⟨G0,q1⟩:=t0.agr Q0
 refine RG.nl [.bool false,vN] G0 fun A1 j1 H0 u0=>AQ [.bool B0.fc,c1] H0 .hd (o2 I (Ay (Ag x0 u0))) fun B1 p0 K0=>Aa<|Ae<|Ab (Az I (p0.memA .t1))<|bk h fun g0 X0 h=>jE (bd 68) I (e1 I) (fun p q=>ak_c n (p0.hL hL q) a0 X0) I fun C1 v1 R0 ⟨A0,s0,hu_,y0,z0⟩=>?_
 subst hu_
 obtain ⟨I0,M0⟩:=p0.agr R0
 refine RG.nl [.bool false,vN,.bool false,vN] I0 fun D1 k1 J0 k0=>AQ [.bool g0.fj.fc,A0,.bool g0.fh.fc,s0] J0 .hd (o4 I (Ay (Ag y0 k0)) I (Ay (Ag z0 k0))) fun E1 d0 q0=>Aa<|Aj<|Aj<|du 14 fun b0 c0=>Rv 0 b0 I c0 (fun _=>Bg 2 I)<|Rx 1 16380 b0 I c0 (AN (cs:=[.bool g0.fh.fc,s0]) I I (ac (d0.memA .hd) 2 2))<|bk h fun C0 Y0 h=>?_
 have v0:=Ag z0 (Tt k0 q0)
 refine RD.cq 2 7 16376 (vI C0) b0 I c0 (bd 67) I (e1 I) (fun p q=>aW_c n (d0.hL0 hL q) g0.fh (d0.kd v0 q) Y0) I<|Rv 3 b0 I c0 (fun _=>FV.leq (i:=C0) (j:=0) I I)<|Rv 4 b0 I c0 (fun _=>Al I)<|RD.ifd (s:=12) I h (fun E0 h=>?_) (fun E0 h=>?_)
 refine BF 8191 1 [(5,13),(6,14),(7,15),(8,16),(9,17),(10,18),(11,19),(12,20)] (F:=[(12,true)]) (U:=[]) b0 c0 (.cons I .nil) .nil ?_
 dsimp only [aO,List.map]
 refine Rv 13 b0 I c0 (fun _=>BT I I)<|AK (dk b0)<|AG I<|Ae<|Ah I<|Aa<|Ar I<|Bb hb0 func65 I I ?_
 cases h
 exact d0.gv
 refine BR 5 63 b0 I c0 (.yes I I) (fun _=>Bg 0 I) I<|RD.val (i:=6) (m' :=127) (W:=14848) (tk b0) I c0 (.yes I I) (AN (cs:=[.bool g0.fj.fc,A0]) I I (ac (d0.memA .hd) 0 2)) I<|BR 7 255 b0 I c0 (.yes I I) (fun _=>Bg 2 I) I<|RD.val (i:=8) (m' :=511) (W:=14848) (tk b0) I c0 (.yes I I) (AN (cs:=[.bool g0.fh.fc,s0]) I I (ac (d0.memA .hd) 2 2)) I<|RD.val (i:=10) (m' :=1535) (W:=14336) (tk b0) I c0 (.yes I I) (Az I (d0.memA .t1)) I<|bk h fun d1 Z0 h=>AX 9 2047 b0 I (.yes I I) (bd 133) I (e2 I I) (fun p q=>bA_c n (d0.hL hL q) g0.fj (Af (Ag y0 (Tt k0 q0)) q) g0.fh (Af v0 q) Z0) I fun F1 x1 U0 ⟨s1,hu_,V0⟩=>?_
 subst hu_
 obtain ⟨j0,P0⟩:=d0.agr U0
 refine bk h fun D0 b1 h=>RD.callq (i:=11) (m' :=4095) (W:=12288) (tk b0) I c0 (v:=vI D0) (fst:=[]) (cap:=[]) (.yes I I) (bd 134) I (e2 I I) (fun p q=>cn_c n (j0.hL0 hL q) d1 (j0.kd V0 q) B0 (j0.kd (Ag x0 (Tt u0 (Tt K0 (Tt M0 (Tt k0 (Tt q0 P0)))))) q) b1) I<|BR 12 8191 b0 I c0 (.yes I I) (fun _=>BA (i:=D0) (j:=0) I I) I<|Rv 13 b0 I c0 (fun _=>Br I I)<|AK (dk b0)<|BI I h (fun F0 h=>?_) (fun F0 h=>?_)
 refine Aq<|Ae<|Ah I<|Aa<|Ar I<|Bb hb0 func65 I I ?_
 cases h
 exact j0.gv
 refine Ae<|Ah I<|Aa<|Ar I<|Bb hb0 func65 I I ?_
 cases h
 exact j0.gv
def av (x:Ta):Lb Vc:=[vU x.fm.fN.1,vU x.fm.fN.2.1,vU x.fm.fN.2.2.1,vU x.fm.fN.2.2.2.1,vU x.fm.fN.2.2.2.2.1,vU x.fm.fN.2.2.2.2.2.1,vU x.fm.fN.2.2.2.2.2.2.1,vU x.fm.fN.2.2.2.2.2.2.2,vU x.fm.fD.1,vU x.fm.fD.2.1,vU x.fm.fD.2.2.1,vU x.fm.fD.2.2.2.1,vU x.fm.fD.2.2.2.2.1,vU x.fm.fD.2.2.2.2.2.1,vU x.fm.fD.2.2.2.2.2.2.1,vU x.fm.fD.2.2.2.2.2.2.2,vU x.fP.fN.1,vU x.fP.fN.2.1,vU x.fP.fN.2.2.1,vU x.fP.fN.2.2.2.1,vU x.fP.fN.2.2.2.2.1,vU x.fP.fN.2.2.2.2.2.1,vU x.fP.fN.2.2.2.2.2.2.1,vU x.fP.fN.2.2.2.2.2.2.2,vU x.fP.fD.1,vU x.fP.fD.2.1,vU x.fP.fD.2.2.1,vU x.fP.fD.2.2.2.1,vU x.fP.fD.2.2.2.2.1,vU x.fP.fD.2.2.2.2.2.1,vU x.fP.fD.2.2.2.2.2.2.1,vU x.fP.fD.2.2.2.2.2.2.2]
def bn_p (n:Nat) (a0:Ta):Oa Td:=
  (ak_p n a0.fP).bind fun b0=>some b0
theorem bn_c (n:Nat) {L w} (hL:hl L w) (a0:Ta)  {r:Td} (h:bn_p n a0 = some r) :
 Cl 66 #[.agg ((av a0)).toArray] w (aj w fun w' u=>∃ v0_1 v0_3:Vc,u = .agg #[.bool r.fj.fc,v0_1,.bool r.fh.fc,v0_3]/\Rep.R w' L [v0_1] r.fj.fk/\Rep.R w' L [v0_3] r.fh.fk):=by
 unfold bn_p at h
 refine AM func66 I I I fun _ cs0 hb0=>Ae<|RG.bx (AL w) I I fun D0 x0 s0 z0=>RG.nl [.bool false,vN,.bool false,vN] s0 fun E0 y0 d0 A0=>Aa<|Ae<|Bm 16 I<|Ab (AN (cs:=(ab a0.fP)) I I (ac (d0.memA .t1) 16 16))<|bk h fun c0 v0 h=>jE (bd 68) I (e1 I) (fun p q=>ak_c n (d0.hL hL q) a0.fP v0) I fun F0 C0 u0 ⟨g0,j0,hu_,p0,q0⟩=>?_
 subst hu_
 obtain ⟨t0,B0⟩:=d0.agr u0
 refine AQ [.bool c0.fj.fc,g0,.bool c0.fh.fc,j0] t0 .hd (o4 I (Ay p0) I (Ay q0)) fun G0 b0 k0=>Aa<|Ar I<|Au hb0 func66 I (.cons (.many (cs:=[.bool c0.fj.fc,g0,.bool c0.fh.fc,j0]) I I (b0.memA .hd)) .nil) I ?_
 cases h
 exact ⟨b0.ag,fun p q=>⟨g0,j0,I,b0.kd (Ag p0 k0) q,b0.kd (Ag q0 k0) q⟩⟩
def cS_p (_n:Nat) (a0:Ua) (a1:Ua):Oa (Ua × Ua):=
  (some (((shrU a0 32) * (a1 &&& (4294967295:Ua))) + (shrU ((a0 &&& (4294967295:Ua)) * (a1 &&& (4294967295:Ua))) 32))).bind fun u1=>(some (shrU ((u1 &&& (4294967295:Ua)) + ((a0 &&& (4294967295:Ua)) * (shrU a1 32))) 32)).bind fun u2=>some ((((shrU a0 32) * (shrU a1 32)) + (shrU u1 32)) + u2,a0 * a1)
theorem cS_c (n:Nat) {L w} (_hL:hl L w) (a0:Ua) (a1:Ua)  {r:Ua × Ua} (h:cS_p n a0 a1 = some r) :
 Cl 190 #[vU a0,vU a1] w (aj w fun _ u=>u = .tuple #[vU r.1,vU r.2]):=by
 unfold cS_p at h
 have hS0:=AL w
 refine AM func190 I I I fun _ cs0 hb0=>Ae<|Ah I<|Ah I<|Aa<|Ae<|Ac I<|Ab (FV.andU (a:=a0) (b:=(4294967295:Ua)) I I)<|Ah I<|Aa<|Ae<|Ac I<|Ab (FV.shrU (a:=a0) (j:=32) I I)<|Ah I<|Aa<|Ae<|Ac I<|Ab (FV.andU (a:=a1) (b:=(4294967295:Ua)) I I)<|Ah I<|Aa<|Ae<|Ac I<|Ab (FV.shrU (a:=a1) (j:=32) I I)<|Ah I<|Aa<|Ae<|Ac I<|Ac I<|Ab (FV.mulU (a:=a0 &&& (4294967295:Ua)) (b:=a1 &&& (4294967295:Ua)) I I)<|Ah I<|Aa<|Ae<|Ac I<|Ac I<|Ab (FV.mulU (a:=shrU a0 32) (b:=a1 &&& (4294967295:Ua)) I I)<|Ac I<|Ab (FV.shrU (a:=(a0 &&& (4294967295:Ua)) * (a1 &&& (4294967295:Ua))) (j:=32) I I)<|bk h fun u1 hu1 h=>Ab (FV.as (FV.addU (a:=(shrU a0 32) * (a1 &&& (4294967295:Ua))) (b:=shrU ((a0 &&& (4294967295:Ua)) * (a1 &&& (4294967295:Ua))) 32) I I) (congrArg (fun z:Ua=>Value.int .u64 (z.toNat:Int)) (Option.some.inj hu1)))<|Ah I<|Aa<|Ae<|Ac I<|Ab (FV.andU (a:=u1) (b:=(4294967295:Ua)) I I)<|Ah I<|Aa<|Ae<|Ac I<|Ab (FV.shrU (a:=u1) (j:=32) I I)<|Ah I<|Aa<|Ae<|Ac I<|Ac I<|Ac I ?_
 refine Ab (FV.mulU (a:=a0 &&& (4294967295:Ua)) (b:=shrU a1 32) I I)<|Ab (FV.addU (a:=u1 &&& (4294967295:Ua)) (b:=(a0 &&& (4294967295:Ua)) * (shrU a1 32)) I I)<|Ah I<|Aa<|Ae<|Ac I<|Ac I<|Ab (FV.mulU (a:=shrU a0 32) (b:=shrU a1 32) I I)<|Ac I<|Ab (FV.addU (a:=(shrU a0 32) * (shrU a1 32)) (b:=shrU u1 32) I I)<|Ac I<|bk h fun u2 hu2 h=>Ab (FV.as (FV.shrU (a:=(u1 &&& (4294967295:Ua)) + ((a0 &&& (4294967295:Ua)) * (shrU a1 32))) (j:=32) I I) (congrArg (fun z:Ua=>Value.int .u64 (z.toNat:Int)) (Option.some.inj hu2)))<|Ab (FV.addU (a:=((shrU a0 32) * (shrU a1 32)) + (shrU u1 32)) (b:=u2) I I)<|Ah I<|Aa<|Ae<|Ac I<|Ac I<|Ab (FV.mulU (a:=a0) (b:=a1) I I)<|Ah I<|Aa<|Ar I<|Au hb0 func190 I (.cons (.tmp I) (.cons (.tmp I) .nil)) I ?_
 cases h
 exact hS0.gv
def bq_l1 (n:Nat) (a1:Lb Ua) (s0:Ua) (d0:Nat) (q0:Ua × Nat × (Lb Ua) -> Oa ((Lb Ua) × Ua)):Ua × Nat × (Lb Ua) -> Oa ((Lb Ua) × Ua)
  | (g0,b0,c0)=>(if b0 < a1.length then (a1[b0]?).bind fun t0=>(cS_p n s0 t0).bind fun j0=>(c0[d0 + b0]?).bind fun u0=>(add64 u0 j0.2 (0:Ua)).bind fun k0=>(add64 k0.1 g0 (0:Ua)).bind fun p0=>(put c0 ((d0 + b0:Nat):Int) p0.1).bind fun v0=>q0 ((j0.1 + k0.2) + p0.2,b0 + 1,v0) else some (c0,g0))
def bq_l2 (n:Nat) (a0:Lb Ua) (a1:Lb Ua) (g0:Nat × (Lb Ua) -> Oa (Lb Ua)):Nat × (Lb Ua) -> Oa (Lb Ua)
  | (b0,c0)=>(if b0 < a0.length then (a0[b0]?).bind fun k0=>Option.bind (ao (bq_l1 n a1 k0 b0) n (0,0,c0)) (fun (d0,j0)=>(d0[b0 + a1.length]?).bind fun _x490=>(put d0 ((b0 + a1.length:Nat):Int) j0).bind fun p0=>g0 (b0 + 1,p0)) else some c0)
def bq_p (n:Nat) (a0:Lb Ua) (a1:Lb Ua):Oa (Lb Ua):=
  (mk ((a0.length + a1.length:Nat):Int) (0:Ua)).bind fun b0=>Option.bind (ao (bq_l2 n a0 a1) n (0,b0)) (fun c0=>some c0)
theorem bq_c (n:Nat) {L w} (hL:hl L w) {a0:Lb Ua} {v0_0:Vc} (h0_0:Rep.R w L [v0_0] a0) {a1:Lb Ua} {v1_0:Vc} (h1_0:Rep.R w L [v1_0] a1)  {r:Lb Ua} (h:bq_p n a0 a1 = some r) :
 Cl 167 #[v0_0,v1_0] w (aj w fun w' u=>∃ v0_0:Vc,u = v0_0/\Rep.R w' L [v0_0] r):=by
 unfold bq_p at h
 refine AM func167 I I I fun _ cs0 hb0=>Ae<|Ah I<|Aa<|Ae<|Ac I ?_
 have hl1:=AY h0_0
 refine Ab (Ba (xs:=a0) underlying105 I h0_0)<|Ac I ?_
 have hl2:=AY h1_0
 refine Ab (Ba (xs:=a1) underlying105 I h1_0)<|Ab (Bc (i:=a0.length) (j:=a1.length) I I (by omega))<|bk h fun R0 J0 h=>Ao .plain I (Does.mk (α:=Ua) J0 (AL w) eb I) fun Q2 j0 z0 I2=>Ah I<|Aa<|Aj<|Ae<|Ac I<|Ab (Ba (xs:=a0) underlying105 I (AH h0_0 z0))<|Ac I<|Aa<|Av ?_
 obtain ⟨M2,U1,I1⟩:=ap h
 refine BP (α:=Nat × (Lb Ua) × (Lb Vc)) (fun ⟨b0,d0,k0⟩=>[(1,v1_0),(5,(.slice (some ⟨j0,0,none⟩) ((a0.length + a1.length:Nat):Int).toNat ((a0.length + a1.length:Nat):Int).toNat)),(22,v0_0),(23,vn a0.length),(24,vn b0)]) (fun ⟨b0,d0,k0⟩=>[rr w 30 Ua (.slice (some ⟨j0,0,none⟩) ((a0.length + a1.length:Nat):Int).toNat ((a0.length + a1.length:Nat):Int).toNat) d0.length k0]) (fun ⟨b0,d0,k0⟩ K0=>Cells K0 (bl [rr w 30 Ua (.slice (some ⟨j0,0,none⟩) ((a0.length + a1.length:Nat):Int).toNat ((a0.length + a1.length:Nat):Int).toNat) d0.length k0] ++ L) k0 d0) (fun ⟨b0,d0,k0⟩=>(b0,d0)) (0,R0,(List.replicate ((a0.length + a1.length:Nat):Int).toNat [vW 0]).flatten) U1 z0 (AI (cs:=(List.replicate ((a0.length + a1.length:Nat):Int).toNat [vW 0]).flatten) (xs:=R0) z0 L (Cells.mk J0 I)) ?_
 rintro A2 ⟨b0,d0,k0⟩ K0 q1 t0 x1 F0 h
 unfold bq_l2 at h
 try dsimp only at h
 refine Ae<|Ab (AU (i:=b0) (j:=a0.length) I I)<|Aa<|Aj<|AV I h (fun Z0 h=>?_) (fun Z0 h=>?_)
 refine Aq<|Aj<|Av<|Ae<|Ac I<|bk h fun D0 c2 h=>?_
 obtain ⟨y2,C2,C1,K1,c1,W1,P1⟩:=Bh (AH h0_0 t0) c2
 have D1:c1 = [vU D0]:=W1; subst D1
 refine Ab (Be 1 b0 I C1 I I K1)<|Bf I (P1 0 _ I)<|Ah I<|Ah I<|Aa<|Ae<|Ah I<|Aa<|Aj<|Ae<|Ac I<|Ab (Ba (xs:=a1) underlying105 I (AH h1_0 t0))<|Ac I<|Aa<|Av ?_
 obtain ⟨P2,V1,J1⟩:=ap h
 refine BP (α:=Ua × Nat × (Lb Ua) × (Lb Vc)) (fun ⟨s0,c0,p0,q0⟩=>[(1,v1_0),(5,(.slice (some ⟨j0,0,none⟩) ((a0.length + a1.length:Nat):Int).toNat ((a0.length + a1.length:Nat):Int).toNat)),(22,v0_0),(23,vn a0.length),(24,vn b0),(6,vn b0),(7,vU D0),(8,vU s0),(29,v1_0),(30,vn a1.length),(31,vn c0)]) (fun ⟨s0,c0,p0,q0⟩=>[rr w 30 Ua (.slice (some ⟨j0,0,none⟩) ((a0.length + a1.length:Nat):Int).toNat ((a0.length + a1.length:Nat):Int).toNat) p0.length q0]) (fun ⟨s0,c0,p0,q0⟩ M0=>Cells M0 (bl [rr w 30 Ua (.slice (some ⟨j0,0,none⟩) ((a0.length + a1.length:Nat):Int).toNat ((a0.length + a1.length:Nat):Int).toNat) p0.length q0] ++ L) q0 p0) (fun ⟨s0,c0,p0,q0⟩=>(s0,c0,p0)) (0,0,d0,k0) V1 t0 F0 ?_
 rintro B2 ⟨s0,c0,p0,q0⟩ M0 s1 g0 E0 v0 h
 unfold bq_l1 at h
 try dsimp only at h
 refine Ae<|Ab (AU (i:=c0) (j:=a1.length) I I)<|Aa<|Aj<|AV I h (fun b1 h=>?_) (fun b1 h=>?_)
 refine Aq<|Aj<|Av<|Ae<|Ac I<|bk h fun P0 d2 h=>?_
 obtain ⟨z2,D2,E1,M1,d1,X1,Q1⟩:=Bh (AH h1_0 g0) d2
 have F1:d1 = [vU P0]:=X1; subst F1
 refine Ab (Be 1 c0 I E1 I I M1)<|Bf I (Q1 0 _ I)<|Ah I<|Ah I<|Aa<|Ae<|Ac I<|Ac I<|bk h fun u0 q2 h=>Bd (.tuple #[vU u0.1,vU u0.2]) (bd 190) I (e2 I I) (fun p q=>cS_c n (g0.hL0 hL q) D0 P0 q2) I<|Ac I<|Ab (Ai I I)<|Ab (Ai I I)<|Ah I<|Ah I<|Aa<|Ae<|Ac I<|Ac I<|Ac I<|Ab (Bc (i:=b0) (j:=c0) I I (by omega))<|bk h fun Q0 g2 h=>?_
 obtain ⟨V0,E2,x0,C0,g1,Y1,R1⟩:=BS (α:=Ua) g0 .hd v0 g2
 obtain ⟨X0,F2,G0⟩:=BC (α:=Ua) g0 .hd C0
 obtain rfl:V0 = ⟨X0,0,none⟩:=by rw [G0] at x0; cases x0; rfl
 have G1:g1 = [vU Q0]:=Y1; subst G1
 refine Ab (Be 1 (b0 + c0) I x0 I I C0)<|Bf I (R1 0 _ I)<|Ac I<|bk h fun y0 s2 h=>Ab (FV.add64 (a:=Q0) (b:=u0.2) (c:=(0:Ua)) func191 I I I I I I I s2)<|Ac I<|Ab (Ai I I)<|Ab (Ai I I)<|Ah I<|Ah I<|Aa<|Ae<|Ac I<|Ac I<|bk h fun U0 t2 h=>Ab (FV.add64 (a:=y0.1) (b:=s0) (c:=(0:Ua)) func191 I I I I I I I t2)<|Ac I<|Ab (Ai I I)<|Ab (Ai I I)<|Ah I<|Ah I<|Aa<|Am<|Ac I<|Ac I<|Ac I<|Ab (Bc (i:=b0) (j:=c0) I I (by omega))<|Ac I<|Ac I<|Ac I<|Ab (FV.addU (a:=u0.1) (b:=y0.2) I I)<|Ac I<|Ab (FV.addU (a:=u0.1 + y0.2) (b:=U0.2) I I)<|Ab (Be 1 (b0 + c0) I x0 I I C0)<|bk h fun v2 k2 h=>RG.acts' .plain (Acts.set (α:=Ua) (i:=b0 + c0) k2 g0 G0 (fun _=>.hd) v0 I I I I I I) fun R2 ⟨j1,u1,y1,A1⟩=>Ah I<|Aa<|Ax<|Am<|Ab (Bc (i:=c0) (j:=1) I I (by omega))<|Ac I<|Aa<|s1 ((u0.1 + y0.2) + U0.2,c0 + 1,v2,j1) u1 (Tt E0 y1) A1 h
 refine AZ I ?_
 have h:=J1 _ h
 try dsimp only at h
 refine Am<|Ac I<|Ac I<|Ac I<|Ab (Ba (xs:=a1) underlying105 I (AH h1_0 g0))<|Ab (Bc (i:=b0) (j:=a1.length) I I (by omega))<|Ac I<|bk h fun u2 j2 h=>?_
 obtain ⟨W0,G2,B0,I0,k1,Z1,K2⟩:=BS (α:=Ua) g0 .hd v0 j2
 obtain ⟨Y0,H2,H0⟩:=BC (α:=Ua) g0 .hd I0
 obtain rfl:W0 = ⟨Y0,0,none⟩:=by rw [H0] at B0; cases B0; rfl
 have H1:k1 = [vU u2]:=Z1; subst H1
 refine Ab (Be 1 (b0 + a1.length) I B0 I I I0)<|bk h fun x2 p2 h=>RG.acts' .plain (Acts.set (α:=Ua) (i:=b0 + a1.length) p2 g0 H0 (fun _=>.hd) v0 I I I I I I) fun U2 ⟨p1,v1,z1,B1⟩=>Aa<|Ax<|Am<|Ab (Bc (i:=b0) (j:=1) I I (by omega))<|Ac I<|Aa<|q1 (b0 + 1,x2,p1) v1 (Tt x1 (Tt E0 z1)) B1 h
 refine AZ I ?_
 have h:=I1 _ h
 try dsimp only at h
 refine Ae<|Ac I<|Ah I<|Aa<|Ar I ?_
 have A0:=Bu t0 .hd
 have J2:=Bv t0 .hd
 have b2:=Bw (α:=Ua) (v:=(.slice (some ⟨j0,0,none⟩) ((a0.length + a1.length:Nat):Int).toNat ((a0.length + a1.length:Nat):Int).toNat)) (xs:=d0) A0 L (Bi (α:=Ua) t0 .hd F0 hL)
 refine Bb hb0 func167 I I ?_
 cases h
 exact ⟨A0.ag,fun p q=>⟨(.slice (some ⟨j0,0,none⟩) ((a0.length + a1.length:Nat):Int).toNat ((a0.length + a1.length:Nat):Int).toNat),I,A0.kd b2 q⟩⟩
def aP_p (n:Nat) (a0:Tg) (a1:Tg):Oa Tg:=
  (bq_p n a0.fk a1.fk).bind fun b0=>(aB_p n (!(a0.fc == a1.fc)) b0).bind fun c0=>some c0
theorem aP_c (n:Nat) {L w} (hL:hl L w) (a0:Tg) {v0_1:Vc} (h0_1:Rep.R w L [v0_1] a0.fk) (a1:Tg) {v1_1:Vc} (h1_1:Rep.R w L [v1_1] a1.fk)  {r:Tg} (h:aP_p n a0 a1 = some r) :
 Cl 136 #[.agg #[.bool a0.fc,v0_1],.agg #[.bool a1.fc,v1_1]] w (aj w fun w' u=>∃ v0_1:Vc,u = .agg #[.bool r.fc,v0_1]/\Rep.R w' L [v0_1] r.fk):=by
 unfold aP_p at h
 refine AM func136 I I I fun _ cs0 hb0=>Ae<|RG.bx (AL w) I I fun Q0 C0 s0 F0=>RG.bx s0 I I fun R0 D0 t0 G0=>RG.nl [.bool false,vN] t0 fun U0 E0 d0 H0=>Aa<|Aj<|du 11 fun b0 c0=>Rv 0 b0 I c0 (fun _=>Bg 0 I)<|Rx 1 3088 b0 I c0 (Bp I ((d0.memA .t2) 0 _ I))<|Rv 2 b0 I c0 (fun _=>Bg 0 I)<|Rx 3 3088 b0 I c0 (Bp I ((d0.memA .t1) 0 _ I))<|Rv 4 b0 I c0 (fun _=>FV.neqB (a:=a0.fc) (b:=a1.fc) underlying4 I I)<|Rv 5 b0 I c0 (fun _=>Bg 1 I)<|Rx 6 3584 b0 I c0 (Bp I ((d0.memA .t2) 1 _ I))<|Rv 7 b0 I c0 (fun _=>Bg 1 I)<|Rx 8 3584 b0 I c0 (Bp I ((d0.memA .t1) 1 _ I))<|bk h fun Y0 A0 h=>AX 9 1023 b0 I .plain (bd 167) I (e2 I I) (fun p q=>bq_c n (d0.hL hL q) (d0.km h0_1 q) (d0.km h1_1 q) A0) I fun V0 M0 x0 ⟨K0,hu_,z0⟩=>?_
 subst hu_
 obtain ⟨k0,I0⟩:=d0.agr x0
 refine bk h fun q0 B0 h=>AX 10 2047 b0 I .plain (bd 166) I (e2 I I) (fun p q=>aB_c n (k0.hL hL q) (Af z0 q) B0) I fun W0 P0 y0 ⟨j0,hu_,p0⟩=>?_
 subst hu_
 obtain ⟨u0,J0⟩:=k0.agr y0
 refine BB 11 4095 b0 I I .plain (AC (news:=[.bool q0.fc,j0]) u0 .hd I I I I I I (o2 I (Ay p0))) fun X0 g0 v0=>AK (dk b0)<|Ar I<|Au hb0 func136 I (.cons (.many (cs:=[.bool q0.fc,j0]) I I (g0.memA .hd)) .nil) I ?_
 cases h
 exact ⟨g0.ag,fun p q=>⟨j0,I,g0.kd (Ag p0 v0) q⟩⟩
def aN_p (n:Nat) (a0:Td) (a1:Td):Oa Int:=
  (aP_p n a0.fj a1.fh).bind fun b0=>(aP_p n a1.fj a0.fh).bind fun c0=>(cn_p n b0 c0).bind fun d0=>some d0
theorem aN_c (n:Nat) {L w} (hL:hl L w) (a0:Td) {v0_1:Vc} (h0_1:Rep.R w L [v0_1] a0.fj.fk) {v0_3:Vc} (h0_3:Rep.R w L [v0_3] a0.fh.fk) (a1:Td) {v1_1:Vc} (h1_1:Rep.R w L [v1_1] a1.fj.fk) {v1_3:Vc} (h1_3:Rep.R w L [v1_3] a1.fh.fk)  {r:Int} (h:aN_p n a0 a1 = some r) :
 Cl 69 #[.agg #[.bool a0.fj.fc,v0_1,.bool a0.fh.fc,v0_3],.agg #[.bool a1.fj.fc,v1_1,.bool a1.fh.fc,v1_3]] w (aj w fun _ u=>u = vI r):=by
 unfold aN_p at h
 refine AM func69 I I I fun _ cs0 hb0=>Ae<|RG.bx (AL w) I I fun M0 C0 k0 E0=>RG.bx k0 I I fun P0 D0 d0 F0=>Ah I<|Aa<|Aj<|du 12 fun b0 c0=>Rv 0 b0 I c0 (fun _=>Bg 0 I)<|Rx 1 3600 b0 I c0 (AN (cs:=[.bool a0.fj.fc,v0_1]) I I (ac (d0.memA .t1) 0 2))<|Rv 2 b0 I c0 (fun _=>Bg 2 I)<|Rx 3 3600 b0 I c0 (AN (cs:=[.bool a1.fh.fc,v1_3]) I I (ac (d0.memA .hd) 2 2))<|Rv 5 b0 I c0 (fun _=>Bg 0 I)<|Rx 6 3584 b0 I c0 (AN (cs:=[.bool a1.fj.fc,v1_1]) I I (ac (d0.memA .hd) 0 2))<|Rv 7 b0 I c0 (fun _=>Bg 2 I)<|Rx 8 3584 b0 I c0 (AN (cs:=[.bool a0.fh.fc,v0_3]) I I (ac (d0.memA .t1) 2 2))<|bk h fun z0 v0 h=>AX 4 511 b0 I .plain (bd 136) I (e2 I I) (fun p q=>aP_c n (d0.hL hL q) a0.fj (d0.km h0_1 q) a1.fh (d0.km h1_3 q) v0) I fun Q0 J0 q0 ⟨H0,hu_,t0⟩=>?_
 subst hu_
 obtain ⟨g0,G0⟩:=d0.agr q0
 refine bk h fun A0 x0 h=>AX 9 1023 b0 I .plain (bd 136) I (e2 I I) (fun p q=>aP_c n (g0.hL hL q) a1.fj (g0.km h1_1 q) a0.fh (g0.km h0_3 q) x0) I fun R0 K0 s0 ⟨I0,hu_,u0⟩=>?_
 subst hu_
 obtain ⟨j0,p0⟩:=g0.agr s0
 refine bk h fun B0 y0 h=>RD.cq 10 2047 2048 (vI B0) b0 I c0 (bd 134) I (e2 I I) (fun p q=>cn_c n (j0.hL0 hL q) z0 (j0.kd (Ag t0 p0) q) A0 (j0.kd u0 q) y0) I<|Rv 11 b0 I c0 (fun _=>Bj I)<|AK (dk b0)<|Ar I<|Bb hb0 func69 I I ?_
 cases h
 exact j0.gv
def de_p (n:Nat) (a0:Tg):Oa Td:=
  (cV_p n (1:Int)).bind fun b0=>some (⟨a0,b0⟩:Td)
theorem de_c (n:Nat) {L w} (hL:hl L w) (a0:Tg) {v0_1:Vc} (h0_1:Rep.R w L [v0_1] a0.fk)  {r:Td} (h:de_p n a0 = some r) :
 Cl 137 #[.agg #[.bool a0.fc,v0_1]] w (aj w fun w' u=>∃ v0_1 v0_3:Vc,u = .agg #[.bool r.fj.fc,v0_1,.bool r.fh.fc,v0_3]/\Rep.R w' L [v0_1] r.fj.fk/\Rep.R w' L [v0_3] r.fh.fk):=by
 unfold de_p at h
 refine AM func137 I I I fun _ cs0 hb0=>Ae<|RG.bx (AL w) I I fun M0 D0 u0 H0=>RG.nl [.bool false,vN,.bool false,vN] u0 fun P0 E0 j0 I0=>Aa<|Aj<|du 3 fun b0 t0=>Rx 0 12 b0 I t0 (Az I (j0.memA .t1))<|bk h fun g0 A0 h=>AX 1 3 b0 I .plain (bd 132) I (e1 I) (fun p q=>cV_c n (j0.hL hL q)  A0) I fun Q0 K0 x0 ⟨c0,hu_,p0⟩=>?_
 subst hu_
 obtain ⟨q0,J0⟩:=j0.agr x0
 have s0:=AH h0_1 q0
 obtain ⟨B0,F0,y0,_⟩:=Bl s0
 obtain ⟨C0,G0,z0,_⟩:=Bl p0
 refine Rv 2 b0 I t0 (fun _=>AS (vs:=[.agg #[.bool a0.fc,v0_1],.agg #[.bool g0.fc,c0]]) (u:=.agg #[.bool a0.fc,v0_1,.bool g0.fc,c0]) (e2 I I) (fun p=>by rw [y0,z0]; try kernel_rfl))<|BB 3 15 b0 I I .plain (AC (news:=[.bool a0.fc,v0_1,.bool g0.fc,c0]) q0 .hd I I I I I I (o4 I (Ay s0) I (Ay p0))) fun R0 d0 v0=>AK (dk b0)<|Ar I<|Au hb0 func137 I (.cons (.many (cs:=[.bool a0.fc,v0_1,.bool g0.fc,c0]) I I (d0.memA .hd)) .nil) I ?_
 cases h
 exact ⟨d0.ag,fun p q=>⟨v0_1,c0,I,d0.k0 h0_1 q,d0.kd (Ag p0 v0) q⟩⟩
def aL_p (n:Nat) (a0:Int):Oa Td:=
  (cV_p n a0).bind fun b0=>(de_p n b0).bind fun c0=>some c0
theorem aL_c (n:Nat) {L w} (hL:hl L w) {a0:Int}  {r:Td} (h:aL_p n a0 = some r) :
 Cl 71 #[vI a0] w (aj w fun w' u=>∃ v0_1 v0_3:Vc,u = .agg #[.bool r.fj.fc,v0_1,.bool r.fh.fc,v0_3]/\Rep.R w' L [v0_1] r.fj.fk/\Rep.R w' L [v0_3] r.fh.fk):=by
 unfold aL_p at h
 refine AM func71 I I I fun _ cs0 hb0=>Ae<|RG.nl [.bool false,vN,.bool false,vN] (AL w) fun I0 B0 j0 C0=>Aa<|Ae<|Ac I<|bk h fun A0 y0 h=>jE (bd 132) I (e1 I) (fun p q=>cV_c n (j0.hL hL q)  y0) I fun J0 G0 u0 ⟨F0,hu_,x0⟩=>?_
 subst hu_
 obtain ⟨k0,D0⟩:=j0.agr u0
 refine bk h fun c0 z0 h=>jE (bd 137) I (e1 I) (fun p q=>de_c n (k0.hL hL q) A0 (Af x0 q) z0) I fun K0 H0 v0 ⟨d0,g0,hu_,q0,s0⟩=>?_
 subst hu_
 obtain ⟨t0,E0⟩:=k0.agr v0
 refine AQ [.bool c0.fj.fc,d0,.bool c0.fh.fc,g0] t0 .hd (o4 I (Ay q0) I (Ay s0)) fun M0 b0 p0=>Aa<|Ar I<|Au hb0 func71 I (.cons (.many (cs:=[.bool c0.fj.fc,d0,.bool c0.fh.fc,g0]) I I (b0.memA .hd)) .nil) I ?_
 cases h
 exact ⟨b0.ag,fun p q=>⟨d0,g0,I,b0.kd (Ag q0 p0) q,b0.kd (Ag s0 p0) q⟩⟩
def aa_p (n:Nat) (a0:Td) (a1:Td):Oa Td:=
  (aP_p n a0.fj a1.fh).bind fun b0=>(aP_p n a1.fj a0.fh).bind fun c0=>(bT_p n b0 c0).bind fun d0=>(aP_p n a0.fh a1.fh).bind fun g0=>(cj_p n d0 g0).bind fun j0=>some j0
theorem aa_c (n:Nat) {L w} (hL:hl L w) (a0:Td) {v0_1:Vc} (h0_1:Rep.R w L [v0_1] a0.fj.fk) {v0_3:Vc} (h0_3:Rep.R w L [v0_3] a0.fh.fk) (a1:Td) {v1_1:Vc} (h1_1:Rep.R w L [v1_1] a1.fj.fk) {v1_3:Vc} (h1_3:Rep.R w L [v1_3] a1.fh.fk)  {r:Td} (h:aa_p n a0 a1 = some r) :
 Cl 81 #[.agg #[.bool a0.fj.fc,v0_1,.bool a0.fh.fc,v0_3],.agg #[.bool a1.fj.fc,v1_1,.bool a1.fh.fc,v1_3]] w (aj w fun w' u=>∃ v0_1 v0_3:Vc,u = .agg #[.bool r.fj.fc,v0_1,.bool r.fh.fc,v0_3]/\Rep.R w' L [v0_1] r.fj.fk/\Rep.R w' L [v0_3] r.fh.fk):=by
 unfold aa_p at h
 refine AM func81 I I I fun _ cs0 hb0=>Ae<|RG.bx (AL w) I I fun F1 c1 z0 j1=>RG.bx z0 I I fun G1 d1 A0 k1=>RG.nl [.bool false,vN,.bool false,vN] A0 fun H1 g1 d0 p1=>Aa<|Aj<|du 17 fun b0 c0=>Rv 0 b0 I c0 (fun _=>Bg 0 I)<|Rx 1 230928 b0 I c0 (AN (cs:=[.bool a0.fj.fc,v0_1]) I I (ac (d0.memA .t2) 0 2))<|Rv 2 b0 I c0 (fun _=>Bg 2 I)<|Rx 3 230928 b0 I c0 (AN (cs:=[.bool a1.fh.fc,v1_3]) I I (ac (d0.memA .t1) 2 2))<|Rv 5 b0 I c0 (fun _=>Bg 0 I)<|Rx 6 230912 b0 I c0 (AN (cs:=[.bool a1.fj.fc,v1_1]) I I (ac (d0.memA .t1) 0 2))<|Rv 7 b0 I c0 (fun _=>Bg 2 I)<|Rx 8 230912 b0 I c0 (AN (cs:=[.bool a0.fh.fc,v0_3]) I I (ac (d0.memA .t2) 2 2))<|Rv 11 b0 I c0 (fun _=>Bg 2 I)<|Rx 12 229376 b0 I c0 (AN (cs:=[.bool a0.fh.fc,v0_3]) I I (ac (d0.memA .t2) 2 2))<|Rv 13 b0 I c0 (fun _=>Bg 2 I)<|Rx 14 229376 b0 I c0 (AN (cs:=[.bool a1.fh.fc,v1_3]) I I (ac (d0.memA .t1) 2 2))<|bk h fun X0 Q0 h=>AX 4 31231 b0 I .plain (bd 136) I (e2 I I) (fun p q=>aP_c n (d0.hL hL q) a0.fj (d0.km h0_1 q) a1.fh (d0.km h1_3 q) Q0) I fun I1 A1 E0 ⟨v1,hu_,J0⟩=>?_
 subst hu_
 obtain ⟨g0,q1⟩:=d0.agr E0
 refine bk h fun Y0 R0 h=>AX 9 31743 b0 I .plain (bd 136) I (e2 I I) (fun p q=>aP_c n (g0.hL hL q) a1.fj (g0.km h1_1 q) a0.fh (g0.km h0_3 q) R0) I fun J1 B1 F0 ⟨x1,hu_,K0⟩=>?_
 subst hu_
 obtain ⟨t0,C0⟩:=g0.agr F0
 refine bk h fun Z0 U0 h=>AX 10 32767 b0 I .plain (bd 141) I (e2 I I) (fun p q=>bT_c n (t0.hL hL q) X0 (Af (Ag J0 C0) q) Y0 (Af K0 q) U0) I fun K1 C1 G0 ⟨y1,hu_,M0⟩=>?_
 subst hu_
 obtain ⟨j0,s1⟩:=t0.agr G0
 refine bk h fun b1 V0 h=>AX 15 65535 b0 I .plain (bd 136) I (e2 I I) (fun p q=>aP_c n (j0.hL hL q) a0.fh (j0.km h0_3 q) a1.fh (j0.km h1_3 q) V0) I fun M1 D1 H0 ⟨z1,hu_,P0⟩=>?_
 subst hu_
 obtain ⟨u0,D0⟩:=j0.agr H0
 refine bk h fun p0 W0 h=>AX 16 131071 b0 I .plain (bd 140) I (e2 I I) (fun p q=>cj_c n (u0.hL hL q) Z0 (Af (Ag M0 D0) q) b1 (Af P0 q) W0) I fun P1 E1 I0 ⟨q0,s0,hu_,x0,y0⟩=>?_
 subst hu_
 obtain ⟨B0,u1⟩:=u0.agr I0
 refine BB 17 262143 b0 I I .plain (AC (news:=[.bool p0.fj.fc,q0,.bool p0.fh.fc,s0]) B0 .hd I I I I I I (o4 I (Ay x0) I (Ay y0))) fun Q1 k0 v0=>AK (dk b0)<|Ar I<|Au hb0 func81 I (.cons (.many (cs:=[.bool p0.fj.fc,q0,.bool p0.fh.fc,s0]) I I (k0.memA .hd)) .nil) I ?_
 cases h
 exact ⟨k0.ag,fun p q=>⟨q0,s0,I,k0.kd (Ag x0 v0) q,k0.kd (Ag y0 v0) q⟩⟩

def aU_l1 (n:Nat) (a0:Lb Ta) (p0:Nat × Bool × (Lb Ua) × Bool × (Lb Ua) -> Oa (Bool × (Lb Ua) × Bool × (Lb Ua))):Nat × Bool × (Lb Ua) × Bool × (Lb Ua) -> Oa (Bool × (Lb Ua) × Bool × (Lb Ua))
  | (c0,d0,j0,g0,k0)=>(if c0 < a0.length then (a0[c0]?).bind fun q0=>(bn_p n q0).bind fun s0=>(aa_p n (⟨(⟨d0,j0⟩:Tg),(⟨g0,k0⟩:Tg)⟩:Td) s0).bind fun b0=>p0 (c0 + 1,b0.fj.fc,b0.fj.fk,b0.fh.fc,b0.fh.fk) else some (d0,j0,g0,k0))
def aU_l2 (n:Nat) (a0:Lb Ta) (g0:Nat -> Oa (Int ⊕ Unit)):Nat -> Oa (Int ⊕ Unit)
  | c0=>(if c0 < a0.length then (a0[c0]?).bind fun d0=>jn (fun j0=>(if j0 = true then some (.inl (50:Int)) else g0 (c0 + 1))) (fun b0=>(bY_p n d0.fm).bind fun p0=>(if p0 = 0 then (bY_p n d0.fP).bind fun q0=>(if q0 = 0 then (bn_p n d0).bind fun s0=>(aW_p n s0.fj).bind fun t0=>(if t0 <= 0 then b0 true else (if 0 < c0 then (a0[c0 - 1]?).bind fun k0=>(ak_p n k0.fm).bind fun u0=>(ak_p n d0.fm).bind fun v0=>(aN_p n u0 v0).bind fun x0=>b0 (decide (0 <= x0)) else b0 false)) else b0 true) else b0 true)) else some (.inr ()))
def aU_p (n:Nat) (a0:Lb Ta):Oa Int:=
  (if a0.length < 1 then some (50:Int) else (if 400 < a0.length then some (50:Int) else thn (ao (aU_l2 n a0) n 0) (fun _=>(aL_p n (0:Int)).bind fun b0=>Option.bind (ao (aU_l1 n a0) n (0,b0.fj.fc,b0.fj.fk,b0.fh.fc,b0.fh.fk)) (fun (c0,g0,d0,j0)=>(aL_p n (1:Int)).bind fun k0=>(aN_p n (⟨(⟨c0,g0⟩:Tg),(⟨d0,j0⟩:Tg)⟩:Td) k0).bind fun p0=>(if p0 = 0 then some (0:Int) else some (50:Int))))))
theorem aU_c (n:Nat) {L w} (hL:hl L w) {a0:Lb Ta} {v0_0:Vc} (h0_0:Rep.R w L [v0_0] a0)  {r:Int} (h:aU_p n a0 = some r) :
 Cl 16 #[v0_0] w (aj w fun _ u=>u = vI r):=by
 unfold aU_p at h
 have hS0:=AL w
 refine AM func16 I I I fun _ cs0 hb0=>Ae<|Ah I<|Aa<|Aj<|Ae<|Ac I ?_
 have hl1:=AY h0_0
 refine Ab (Ba (xs:=a0) underlying24 I h0_0)<|Ab (AU (i:=a0.length) (j:=1) I I)<|Ac I<|RG.ifd (s:=8) I h (fun c2 h=>?_) (fun c2 h=>?_)
 refine Ap<|Ap<|Ap<|Bk I I<|Aa<|AG I<|Ae<|Ah I<|Aa<|Ar I<|Bb hb0 func16 I I ?_
 cases h
 exact hS0.gv
 refine AJ (Al I)<|AJ (Ba (xs:=a0) underlying24 I h0_0)<|AJ (FV.gtrN (i:=a0.length) (j:=400) I I)<|Bs I I<|Aa<|AV I h (fun c3 h=>?_) (fun c3 h=>?_)
 refine Ae<|Ah I<|Aa<|Ar I<|Bb hb0 func16 I I ?_
 cases h
 exact hS0.gv
 refine Aq<|Aj<|Ae<|Ac I<|Ab (Ba (xs:=a0) underlying24 I h0_0)<|Ac I<|Aa<|Av<|tn h fun U4 x3 x1=>MX.lo (α:=Nat) (fun d0=>[(0,v0_0),(13,v0_0),(14,vn a0.length),(15,vn d0)]) (fun d0=>[]) (fun d0=>d0) 0 x3 hS0 ?_
 rintro z4 d0 P5 Z1 K0 z2 h
 unfold aU_l2 at h
 try dsimp only at h
 refine Ae<|Ab (AU (i:=d0) (j:=a0.length) I I)<|Aa<|Aj<|AV I h (fun P1 h=>?_) (fun P1 h=>?_)
 refine Aq<|Aj<|Av<|Ae<|Ac I<|bk h fun u0 M3 h=>?_
 obtain ⟨v4,E4,d3,p3,H4,z3,t3⟩:=Bh (AH h0_0 K0) M3
 obtain rfl:=aF z3
 refine Ab (Be 32 d0 I d3 I I p3)<|Ab (Az I t3)<|RG.nl [vW 0,vW 0,vW 0,vW 0,vW 0,vW 0,vW 0,vW 0,vW 0,vW 0,vW 0,vW 0,vW 0,vW 0,vW 0,vW 0,vW 0,vW 0,vW 0,vW 0,vW 0,vW 0,vW 0,vW 0,vW 0,vW 0,vW 0,vW 0,vW 0,vW 0,vW 0,vW 0] K0 fun v5 C4 d2 A2=>Ah I<|AQ (av u0) d2 .hd (ai I) fun x5 q0 B2=>Aa<|Aj<|MX.jo (α:=Bool) (fun E0=>[(0,v0_0),(13,v0_0),(14,vn a0.length),(15,vn d0),(54,.bool E0)]) (fun E0=>[]) (fun E0=>E0) q0 h ?_ ?_
 rintro E0 Q5 g1 C2 h
 try dsimp only at h
 refine MX.ifb I h (fun Q1 h=>?_) (fun Q1 h=>?_)
 refine Ae<|Ah I<|Aa ?_
 have h:=aH h x1
 refine Ar I<|Bb hb0 func16 I I ?_
 cases h
 exact g1.gv
 refine Aq<|Ax<|Am<|Ab (Bc (i:=d0) (j:=1) I I (by omega))<|Ac I<|Aa<|Z1 (d0 + 1) g1 (Tt z2 (Tt A2 (Tt B2 C2))) h
 intro A4 D0 h
 try dsimp only at h
 refine du 35 fun b0 c0=>Rv 0 b0 I c0 (fun _=>Bg 0 I)<|Rx 1 34359738364 b0 I c0 (AN (cs:=(ab u0.fm)) I I (ac (q0.memA .hd) 0 16))<|bk h fun I1 R3 h=>RD.cq 2 7 34359738360 (vI I1) b0 I c0 (bd 65) I (e1 I) (fun p q=>bY_c n (q0.hL0 hL q) u0.fm R3) I<|Rv 3 b0 I c0 (fun _=>BA (i:=I1) (j:=0) I I)<|Rv 4 b0 I c0 (fun _=>Al I)<|RD.ifn (s:=24) I h (fun R1 h=>?_) (fun R1 h=>?_)
 refine BR 5 63 b0 I c0 (.yes I I) (fun _=>Bg 16 I) I<|RD.val (i:=6) (m' :=127) (W:=34359738240) (tk b0) I c0 (.yes I I) (AN (cs:=(ab u0.fP)) I I (ac (q0.memA .hd) 16 16)) I<|bk h fun J1 U3 h=>RD.callq (i:=7) (m' :=255) (W:=34359738112) (tk b0) I c0 (v:=vI J1) (fst:=[]) (cap:=[]) (.yes I I) (bd 65) I (e1 I) (fun p q=>bY_c n (q0.hL0 hL q) u0.fP U3) I<|BR 8 511 b0 I c0 (.yes I I) (fun _=>BA (i:=J1) (j:=0) I I) I<|Rv 9 b0 I c0 (fun _=>Br I I)<|Rv 10 b0 I c0 (fun _=>Al I)<|RD.ifn (s:=30) I h (fun U1 h=>?_) (fun U1 h=>?_)
 refine RD.val (i:=11) (m' :=4095) (W:=34359734272) (tk b0) I c0 (.yes I I) (Az I (q0.memA .hd)) I<|bk h fun b1 V3 h=>AX 12 8191 b0 I (.yes I I) (bd 66) I (e1 I) (fun p q=>bn_c n (q0.hL hL q) u0 V3) I fun y5 j5 R2 ⟨k4,p4,hu_,A3,R4⟩=>?_
 subst hu_
 obtain ⟨t0,P0⟩:=q0.agr R2
 refine RD.val (i:=13) (m' :=16383) (W:=34359721984) (tk b0) I c0 (.yes I I) (FV.fieldN (cs:=[.bool b1.fj.fc,k4,.bool b1.fh.fc,p4]) (off:=0) (m:=2) I I I I) I<|bk h fun K1 W3 h=>RD.callq (i:=14) (m' :=32767) (W:=34359705600) (tk b0) I c0 (v:=vI K1) (fst:=[]) (cap:=[]) (.yes I I) (bd 67) I (e1 I) (fun p q=>aW_c n (t0.hL0 hL q) b1.fj (t0.kd A3 q) W3) I<|BR 15 65535 b0 I c0 (.yes I I) (fun _=>FV.leq (i:=K1) (j:=0) I I) I<|Rv 16 b0 I c0 (fun _=>Br I I)<|Rv 17 b0 I c0 (fun _=>Al I)<|RD.ifd (s:=37) I h (fun V1 h=>?_) (fun V1 h=>?_)
 refine BF 17179869183 1 [(18,38),(19,39),(20,40),(21,41),(22,42),(23,43),(24,44),(25,45),(26,46),(27,47),(28,48),(29,49),(30,50),(31,51),(32,52),(33,53)] (F:=[(37,true)]) (U:=[]) b0 c0 (.cons I .nil) .nil ?_
 dsimp only [aO,List.map]
 refine Rv 34 b0 I c0 (fun _=>BT I I)<|AK (dk b0) ?_
 obtain ⟨g2,D2⟩:=AB t0 .done
 exact D0 true g2 (Tt P0 D2) h
 refine BR 18 524287 b0 I c0 (.yes I I) (fun _=>Al I) I<|BR 19 1048575 b0 I c0 (.yes I I) (fun _=>FV.gtrN (i:=d0) (j:=0) I I) I<|BR 20 2097151 b0 I c0 (.yes I I) (fun _=>Al I) I<|RD.ifd (s:=40) I h (fun W1 h=>?_) (fun W1 h=>?_)
 refine BR 21 4194303 b0 I c0 (.yes I I) (fun _=>Al I) I<|BR 22 8388607 b0 I c0 (.yes I I) (fun _=>Al I) I<|BR 23 16777215 b0 I c0 (.yes I I) (fun _=>FV.subN (i:=d0) (j:=1) I I (by omega) (by omega)) I<|bk h fun G1 P3 h=>?_
 obtain ⟨x4,F4,g3,q3,I4,B3,u3⟩:=Bh (AH h0_0 t0) P3
 obtain rfl:=aF B3
 refine BR 24 33554431 b0 I c0 (.yes I I) (fun _=>Be 32 (d0 - 1) I g3 I I q3) I<|BR 25 67108863 b0 I c0 (.yes I I) (fun _=>Bg 0 I) I<|RD.val (i:=26) (m' :=134217727) (W:=33420214272) (tk b0) I c0 (.yes I I) (AN (cs:=(ab G1.fm)) I I (ac u3 0 16)) I<|BR 28 402653183 b0 I c0 (.yes I I) (fun _=>Bg 0 I) I<|RD.val (i:=29) (m' :=939524095) (W:=33285996544) (tk b0) I c0 (.yes I I) (AN (cs:=(ab u0.fm)) I I (ac (t0.memA .hd) 0 16)) I<|bk h fun q4 X3 h=>AX 27 1073741823 b0 I (.yes I I) (bd 68) I (e1 I) (fun p q=>ak_c n (t0.hL hL q) G1.fm X3) I fun z5 k5 U2 ⟨W4,X4,hu_,C3,D3⟩=>?_
 subst hu_
 obtain ⟨j1,E2⟩:=t0.agr U2
 refine bk h fun s4 Y3 h=>AX 30 2147483647 b0 I (.yes I I) (bd 68) I (e1 I) (fun p q=>ak_c n (j1.hL hL q) u0.fm Y3) I fun A5 p5 V2 ⟨Y4,Z4,hu_,E3,F3⟩=>?_
 subst hu_
 obtain ⟨A0,Q0⟩:=j1.agr V2
 refine bk h fun c1 Z3 h=>RD.callq (i:=31) (m' :=4294967295) (W:=30064771072) (tk b0) I c0 (v:=vI c1) (fst:=[]) (cap:=[]) (.yes I I) (bd 69) I (e2 I I) (fun p q=>aN_c n (A0.hL0 hL q) q4 (A0.kd (Ag C3 Q0) q) (A0.kd (Ag D3 Q0) q) s4 (A0.kd E3 q) (A0.kd F3 q) Z3) I<|BR 32 8589934591 b0 I c0 (.yes I I) (fun _=>FV.geq (i:=c1) (j:=0) I I) I<|BR 33 17179869183 b0 I c0 (.yes I I) (fun _=>BT I I) I<|Rv 34 b0 I c0 (fun _=>Br I I)<|AK (dk b0) ?_
 obtain ⟨j2,F2⟩:=AB A0 .done
 exact D0 (decide (0 <= c1)) j2 (Tt P0 (Tt E2 (Tt Q0 F2))) h
 refine BF 8589934591 2 [(21,41),(22,42),(23,43),(24,44),(25,45),(26,46),(27,47),(28,48),(29,49),(30,50),(31,51),(32,52)] (F:=[(40,false)]) (U:=[]) b0 c0 (.cons I .nil) .nil ?_
 dsimp only [aO,List.map]
 refine BR 33 17179869183 b0 I c0 (.yes I I) (fun _=>Br I I) I<|Rv 34 b0 I c0 (fun _=>Br I I)<|AK (dk b0) ?_
 obtain ⟨k2,G2⟩:=AB t0 .done
 exact D0 false k2 (Tt P0 G2) h
 refine BF 65535 19 [(11,31),(12,32),(13,33),(14,34),(15,35)] (F:=[(30,true)]) (U:=[]) b0 c0 (.cons I .nil) .nil ?_
 dsimp only [aO,List.map]
 refine Rv 16 b0 I c0 (fun _=>BT I I)<|Rv 17 b0 I c0 (fun _=>Al I)<|BF 17179869183 1 [(18,38),(19,39),(20,40),(21,41),(22,42),(23,43),(24,44),(25,45),(26,46),(27,47),(28,48),(29,49),(30,50),(31,51),(32,52),(33,53)] (F:=[(37,true)]) (U:=[]) b0 c0 (.cons I .nil) .nil ?_
 dsimp only [aO,List.map]
 refine Rv 34 b0 I c0 (fun _=>BT I I)<|AK (dk b0) ?_
 obtain ⟨p2,H2⟩:=AB q0 .done
 exact D0 true p2 H2 h
 refine BF 511 26 [(5,25),(6,26),(7,27),(8,28)] (F:=[(24,true)]) (U:=[]) b0 c0 (.cons I .nil) .nil ?_
 dsimp only [aO,List.map]
 refine Rv 9 b0 I c0 (fun _=>BT I I)<|Rv 10 b0 I c0 (fun _=>Al I)<|BF 65535 19 [(11,31),(12,32),(13,33),(14,34),(15,35)] (F:=[(30,true)]) (U:=[]) b0 c0 (.cons I .nil) .nil ?_
 dsimp only [aO,List.map]
 refine Rv 16 b0 I c0 (fun _=>BT I I)<|Rv 17 b0 I c0 (fun _=>Al I)<|BF 17179869183 1 [(18,38),(19,39),(20,40),(21,41),(22,42),(23,43),(24,44),(25,45),(26,46),(27,47),(28,48),(29,49),(30,50),(31,51),(32,52),(33,53)] (F:=[(37,true)]) (U:=[]) b0 c0 (.cons I .nil) .nil ?_
 dsimp only [aO,List.map]
 refine Rv 34 b0 I c0 (fun _=>BT I I)<|AK (dk b0) ?_
 obtain ⟨q2,I2⟩:=AB q0 .done
 exact D0 true q2 I2 h
 refine AZ I ?_
 have h:=bc h x1
 try dsimp only at h
 refine Aj<|Ae<|Ac I<|BE (fst:=[]) (cap:=[]) (vs:=[v0_0,.func (.func 66) #[] #[]]) .plain (bd 70) func70 I I I I (e2 I I) I fun J4 b3 Q4=>Ae<|RG.nl [.bool false,vN,.bool false,vN] K0 fun B5 F0 k1 M4=>Aa<|Ae<|bk h fun B0 b4 h=>jE (bd 71) I (e1 I) (fun p q=>aL_c n (k1.hL hL q)  b4) I fun C5 q5 W2 ⟨C1,D1,hu_,y1,z1⟩=>?_
 subst hu_
 obtain ⟨s2,P4⟩:=k1.agr W2
 refine RG.nl [.bool false,vN,.bool false,vN] s2 fun D5 G0 t2 J0=>AQ [.bool B0.fj.fc,C1,.bool B0.fh.fc,D1] t2 .hd (o4 I (Ay (Ag y1 J0)) I (Ay (Ag z1 J0))) fun E5 p1 s1=>Aa<|Aj<|Ae<|Ac I<|Ab (Ba (xs:=a0) underlying23 I (AH h0_0 p1))<|Ac I<|Aa<|Av ?_
 obtain ⟨V4,y3,k3⟩:=ap h
 refine BP (α:=Nat × Bool × (Lb Ua) × Bool × (Lb Ua) × Vc × Vc) (fun ⟨s0,g0,v0,j0,x0,k0,p0⟩=>[(1,.func (.func 66) #[] #[]),(4,vP F0),(5,vP G0),(9,v0_0),(10,vn a0.length),(11,vn s0)]) (fun ⟨s0,g0,v0,j0,x0,k0,p0⟩=>[.cells G0 [.bool g0,k0,.bool j0,p0] 109,.cells F0 [.bool false,vN,.bool false,vN] 109]) (fun ⟨s0,g0,v0,j0,x0,k0,p0⟩ Z0=>Rep.R Z0 (bl [.cells G0 [.bool g0,k0,.bool j0,p0] 109,.cells F0 [.bool false,vN,.bool false,vN] 109] ++ L) [k0] v0/\Rep.R Z0 (bl [.cells G0 [.bool g0,k0,.bool j0,p0] 109,.cells F0 [.bool false,vN,.bool false,vN] 109] ++ L) [p0] x0) (fun ⟨s0,g0,v0,j0,x0,k0,p0⟩=>(s0,g0,v0,j0,x0)) (0,B0.fj.fc,B0.fj.fk,B0.fh.fc,B0.fh.fk,C1,D1) y3 p1 ⟨(Ag y1 (Tt J0 s1)),(Ag z1 (Tt J0 s1))⟩ ?_
 rintro B4 ⟨s0,g0,v0,j0,x0,k0,p0⟩ Z0 b2 H0 J2 ⟨W0,X0⟩ h
 unfold aU_l1 at h
 try dsimp only at h
 refine Ae<|Ab (AU (i:=s0) (j:=a0.length) I I)<|Aa<|Aj<|AV I h (fun X1 h=>?_) (fun X1 h=>?_)
 refine Aq<|Aj<|Av<|Ae<|bk h fun H1 Q3 h=>?_
 obtain ⟨y4,G4,j3,s3,K4,G3,v3⟩:=Bh (AH h0_0 H0) Q3
 obtain rfl:=aF G3
 refine Ab (Be 32 s0 I j3 I I s3)<|Ab (Az I v3)<|RG.nl [vW 0,vW 0,vW 0,vW 0,vW 0,vW 0,vW 0,vW 0,vW 0,vW 0,vW 0,vW 0,vW 0,vW 0,vW 0,vW 0,vW 0,vW 0,vW 0,vW 0,vW 0,vW 0,vW 0,vW 0,vW 0,vW 0,vW 0,vW 0,vW 0,vW 0,vW 0,vW 0] H0 fun F5 D4 u2 K2=>AQ (av H1) u2 .hd (ai I) fun G5 I0 M2=>Aa<|du 5 fun z0 Y0=>Rx 0 48 z0 I Y0 (Az I (I0.memA .t1))<|Rv 1 z0 I Y0 (fun _=>Al I)<|Rx 2 56 z0 I Y0 (Az I (I0.memA .hd))<|bk h fun t4 c4 h=>AX 3 15 z0 I .plain (bd 66) I (e1 I) (fun p q=>bn_c n (I0.hL hL q) H1 c4) I fun H5 s5 X2 ⟨b5,c5,hu_,H3,I3⟩=>?_
 subst hu_
 obtain ⟨q1,P2⟩:=I0.agr X2
 refine bk h fun C0 d4 h=>?_
 have V0:=Tt K2 (Tt M2 P2)
 refine AX 4 31 z0 I .plain (bd 81) I (e2 I I) (fun p q=>aa_c n (q1.hL hL q) (⟨(⟨g0,v0⟩:Tg),(⟨j0,x0⟩:Tg)⟩:Td) (Af (Ag W0 V0) q) (Af (Ag X0 V0) q) t4 (Af H3 q) (Af I3 q) d4) I fun I5 t5 Y2 ⟨E1,F1,hu_,A1,B1⟩=>?_
 subst hu_
 obtain ⟨v2,Q2⟩:=q1.agr Y2
 refine BB 5 63 z0 I I .plain (AC (news:=[.bool C0.fj.fc,E1,.bool C0.fh.fc,F1]) v2 .t1 I I I I I I (o4 I (Ay A1) I (Ay B1))) fun J5 x2 R0=>AK (dk z0)<|Ax<|Am<|Ab (Bc (i:=s0) (j:=1) I I (by omega))<|Ac I<|Aa ?_
 obtain ⟨y2,U0⟩:=AB x2 .d1
 exact b2 (s0 + 1,C0.fj.fc,C0.fj.fk,C0.fh.fc,C0.fh.fk,E1,F1) y2 (Tt J2 (Tt V0 (Tt Q2 (Tt R0 U0)))) ⟨(Ag A1 (Tt R0 U0)),(Ag B1 (Tt R0 U0))⟩ h
 refine AZ I ?_
 have h:=k3 _ h
 try dsimp only at h
 refine Ae<|Ab (Az I (H0.memA .hd))<|AQ [.bool g0,k0,.bool j0,p0] H0 .t1 (o4 I (Ay W0) I (Ay X0)) fun K5 M0 u1=>Aa<|Ar I<|Au (u:=.agg #[.bool g0,k0,.bool j0,p0]) b3 func70 I (.cons (.many (cs:=[.bool g0,k0,.bool j0,p0]) I I (M0.memA .t1)) .nil) I<|bk h fun u4 g4 h=>jE (bd 71) I (e1 I) (fun p q=>aL_c n (M0.hL hL q)  g4) I fun M5 u5 Z2 ⟨d5,g5,hu_,J3,K3⟩=>?_
 subst hu_
 obtain ⟨y0,v1⟩:=M0.agr Z2
 refine bk h fun M1 j4 h=>Bd (vI M1) (bd 69) I (e2 I I) (fun p q=>aN_c n (y0.hL0 hL q) (⟨(⟨g0,v0⟩:Tg),(⟨j0,x0⟩:Tg)⟩:Td) (y0.kd (Ag W0 (Tt u1 v1)) q) (y0.kd (Ag X0 (Tt u1 v1)) q) u4 (y0.kd J3 q) (y0.kd K3 q) j4) I<|Ab (BA (i:=M1) (j:=0) I I)<|Aa<|BI I h (fun Y1 h=>?_) (fun Y1 h=>?_)
 refine Aq<|Ae<|Ah I<|Aa<|Ar I<|Bb hb0 func16 I I ?_
 cases h
 exact y0.gv
 refine Ae<|Ah I<|Aa<|Ar I<|Bb hb0 func16 I I ?_
 cases h
 exact y0.gv
theorem ni {a b:Tb} (h0:a.fN.1 = b.fN.1) (h1:a.fN.2.1 = b.fN.2.1) (h2:a.fN.2.2.1 = b.fN.2.2.1) (h3:a.fN.2.2.2.1 = b.fN.2.2.2.1) (h4:a.fN.2.2.2.2.1 = b.fN.2.2.2.2.1) (h5:a.fN.2.2.2.2.2.1 = b.fN.2.2.2.2.2.1) (h6:a.fN.2.2.2.2.2.2.1 = b.fN.2.2.2.2.2.2.1) (h7:a.fN.2.2.2.2.2.2.2 = b.fN.2.2.2.2.2.2.2) (h8:a.fD.1 = b.fD.1) (h9:a.fD.2.1 = b.fD.2.1) (b0:a.fD.2.2.1 = b.fD.2.2.1) (c0:a.fD.2.2.2.1 = b.fD.2.2.2.1) (d0:a.fD.2.2.2.2.1 = b.fD.2.2.2.2.1) (g0:a.fD.2.2.2.2.2.1 = b.fD.2.2.2.2.2.1) (j0:a.fD.2.2.2.2.2.2.1 = b.fD.2.2.2.2.2.2.1) (k0:a.fD.2.2.2.2.2.2.2 = b.fD.2.2.2.2.2.2.2):a = b:=congr (congrArg Tb.mk (mw (a:=a.fN) (b:=b.fN) h0 h1 h2 h3 h4 h5 h6 h7)) (mw (a:=a.fD) (b:=b.fD) h8 h9 b0 c0 d0 g0 j0 k0)
theorem cn (a b:Tb) (p:World):(do eqGuard .eql 34 (.tmp 0) (.tmp 0) (.agg #[vU a.fN.1,vU a.fN.2.1,vU a.fN.2.2.1,vU a.fN.2.2.2.1,vU a.fN.2.2.2.2.1,vU a.fN.2.2.2.2.2.1,vU a.fN.2.2.2.2.2.2.1,vU a.fN.2.2.2.2.2.2.2,vU a.fD.1,vU a.fD.2.1,vU a.fD.2.2.1,vU a.fD.2.2.2.1,vU a.fD.2.2.2.2.1,vU a.fD.2.2.2.2.2.1,vU a.fD.2.2.2.2.2.2.1,vU a.fD.2.2.2.2.2.2.2]) (.agg #[vU b.fN.1,vU b.fN.2.1,vU b.fN.2.2.1,vU b.fN.2.2.2.1,vU b.fN.2.2.2.2.1,vU b.fN.2.2.2.2.2.1,vU b.fN.2.2.2.2.2.2.1,vU b.fN.2.2.2.2.2.2.2,vU b.fD.1,vU b.fD.2.1,vU b.fD.2.2.1,vU b.fD.2.2.2.1,vU b.fD.2.2.2.2.1,vU b.fD.2.2.2.2.2.1,vU b.fD.2.2.2.2.2.2.1,vU b.fD.2.2.2.2.2.2.2]); binOp .eql 34 (.agg #[vU a.fN.1,vU a.fN.2.1,vU a.fN.2.2.1,vU a.fN.2.2.2.1,vU a.fN.2.2.2.2.1,vU a.fN.2.2.2.2.2.1,vU a.fN.2.2.2.2.2.2.1,vU a.fN.2.2.2.2.2.2.2,vU a.fD.1,vU a.fD.2.1,vU a.fD.2.2.1,vU a.fD.2.2.2.1,vU a.fD.2.2.2.2.1,vU a.fD.2.2.2.2.2.1,vU a.fD.2.2.2.2.2.2.1,vU a.fD.2.2.2.2.2.2.2]) (.agg #[vU b.fN.1,vU b.fN.2.1,vU b.fN.2.2.1,vU b.fN.2.2.2.1,vU b.fN.2.2.2.2.1,vU b.fN.2.2.2.2.2.1,vU b.fN.2.2.2.2.2.2.1,vU b.fN.2.2.2.2.2.2.2,vU b.fD.1,vU b.fD.2.1,vU b.fD.2.2.1,vU b.fD.2.2.2.1,vU b.fD.2.2.2.2.1,vU b.fD.2.2.2.2.2.1,vU b.fD.2.2.2.2.2.2.1,vU b.fD.2.2.2.2.2.2.2]):Sem Vc).run Tryz.prog p = .ok (.bool (decide (a = b))) p:=
  pF (ks:=[.int .u64,.int .u64,.int .u64,.int .u64,.int .u64,.int .u64,.int .u64,.int .u64,.int .u64,.int .u64,.int .u64,.int .u64,.int .u64,.int .u64,.int .u64,.int .u64]) (xs:=[vU a.fN.1,vU a.fN.2.1,vU a.fN.2.2.1,vU a.fN.2.2.2.1,vU a.fN.2.2.2.2.1,vU a.fN.2.2.2.2.2.1,vU a.fN.2.2.2.2.2.2.1,vU a.fN.2.2.2.2.2.2.2,vU a.fD.1,vU a.fD.2.1,vU a.fD.2.2.1,vU a.fD.2.2.2.1,vU a.fD.2.2.2.2.1,vU a.fD.2.2.2.2.2.1,vU a.fD.2.2.2.2.2.2.1,vU a.fD.2.2.2.2.2.2.2]) (ys:=[vU b.fN.1,vU b.fN.2.1,vU b.fN.2.2.1,vU b.fN.2.2.2.1,vU b.fN.2.2.2.2.1,vU b.fN.2.2.2.2.2.1,vU b.fN.2.2.2.2.2.2.1,vU b.fN.2.2.2.2.2.2.2,vU b.fD.1,vU b.fD.2.1,vU b.fD.2.2.1,vU b.fD.2.2.2.1,vU b.fD.2.2.2.2.1,vU b.fD.2.2.2.2.2.1,vU b.fD.2.2.2.2.2.2.1,vU b.fD.2.2.2.2.2.2.2]) (by kernel_rfl) (by kernel_rfl) (by kernel_rfl) I I ⟨fun h=>by
    simp only [bn,veq,Bool.and_eq_true,beq_iff_eq,and_true] at h
    obtain ⟨h0,h1,h2,h3,h4,h5,h6,h7,h8,h9,b0,c0,d0,g0,j0,k0⟩:=h
    exact ni (ah h0) (ah h1) (ah h2) (ah h3) (ah h4) (ah h5) (ah h6) (ah h7) (ah h8) (ah h9) (ah b0) (ah c0) (ah d0) (ah g0) (ah j0) (ah k0),fun h=>by subst h; simp [bn,veq]⟩ _ _ p
def cE_p (_n:Nat) (a0:Tb) (a1:Int) (a2:Int):Oa Bool:=
  (if a0 = (⟨(0,0,0,0,0,0,0,0),(0,0,0,0,0,0,0,0)⟩:Tb) then some (decide (a1 = a2)) else some false)
theorem cE_c (n:Nat) {L w} (_hL:hl L w) (a0:Tb) {a1:Int} {a2:Int} {p2:Nat} (m2:∀ j9 v9,([vI a2]:Lb Vc)[j9]? = some v9 -> w.cell? ((⟨p2,0,none⟩:Addr).add j9) = some v9)  {r:Bool} (h:cE_p n a0 a1 a2 = some r) :
 Cl 74 #[.agg ((ab a0)).toArray,vI a1,.pointer (some ⟨p2,0,none⟩)] w (aj w fun _ u=>u = .bool r):=by
 unfold cE_p at h
 refine AM func74 I I I fun _ cs0 hb0=>Ae<|RG.bx (AL w) I I fun j0 d0 b0 g0=>Ah I<|Aa<|Ae<|Ab (Az I (b0.memA .hd))<|Ab (AS (vs:=[]) (u:=.agg zM) am (fun p=>by kernel_rfl))<|Ab (FV.eqlV (v:=.agg ((ab a0)).toArray) (u:=.agg zM) I I (cn a0 (⟨(0,0,0,0,0,0,0,0),(0,0,0,0,0,0,0,0)⟩:Tb)))<|Ac I<|RG.ifd (s:=9) I h (fun c0 h=>?_) (fun c0 h=>?_)
 refine AJ (Al I)<|AJ (Bp I ((fun j9 v9 h9=>b0.ag.cell0 (m2 j9 v9 h9)) 0 _ I))<|AJ (FV.eql (i:=a1) (j:=a2) I I)<|Bk I I<|Ah I<|Aa<|Ar I<|Bb hb0 func74 I I ?_
 cases h
 exact b0.gv
 refine Ap<|Ap<|Ap<|Bs I I<|Ah I<|Aa<|Ar I<|Bb hb0 func74 I I ?_
 cases h
 exact b0.gv
theorem dj_c (_n:Nat) {L w} (_hL:hl L w) (a0:Int)  :
 Cl 18 #[vI a0] w (aj w fun w' u=>∃ b0:Nat,u = .func (.func 74) #[] #[vP b0]/\St w w' [.cells b0 [vI a0] 27]):=by
 refine AM func18 I I I fun _ cs0 hb0=>Ae<|RG.bx (AL w) I I fun g0 b0 c0 d0=>Ah I<|Aa<|Ae<|Ab (FV.makeFunc (vs:=[]) (us:=[vP b0]) am (e1 I))<|Ah I<|Aa<|Ar I<|Au (u:=.func (.func 74) #[] #[vP b0]) hb0 func18 I (.cons (.tmp I) .nil) I<|⟨c0.ag,fun p q=>⟨b0,I,c0.agree q⟩⟩
def ax_p (n:Nat) (a0:Td) (a1:Td):Oa Td:=
  (aP_p n a0.fj a1.fj).bind fun b0=>(aP_p n a0.fh a1.fh).bind fun c0=>(cj_p n b0 c0).bind fun d0=>some d0
theorem ax_c (n:Nat) {L w} (hL:hl L w) (a0:Td) {v0_1:Vc} (h0_1:Rep.R w L [v0_1] a0.fj.fk) {v0_3:Vc} (h0_3:Rep.R w L [v0_3] a0.fh.fk) (a1:Td) {v1_1:Vc} (h1_1:Rep.R w L [v1_1] a1.fj.fk) {v1_3:Vc} (h1_3:Rep.R w L [v1_3] a1.fh.fk)  {r:Td} (h:ax_p n a0 a1 = some r) :
 Cl 80 #[.agg #[.bool a0.fj.fc,v0_1,.bool a0.fh.fc,v0_3],.agg #[.bool a1.fj.fc,v1_1,.bool a1.fh.fc,v1_3]] w (aj w fun w' u=>∃ v0_1 v0_3:Vc,u = .agg #[.bool r.fj.fc,v0_1,.bool r.fh.fc,v0_3]/\Rep.R w' L [v0_1] r.fj.fk/\Rep.R w' L [v0_3] r.fh.fk):=by
 unfold ax_p at h
 refine AM func80 I I I fun _ cs0 hb0=>Ae<|RG.bx (AL w) I I fun g1 M0 x0 R0=>RG.bx x0 I I fun j1 P0 y0 U0=>RG.nl [.bool false,vN,.bool false,vN] y0 fun k1 Q0 c0 V0=>Aa<|Aj<|du 11 fun b0 d0=>Rv 0 b0 I d0 (fun _=>Bg 0 I)<|Rx 1 3600 b0 I d0 (AN (cs:=[.bool a0.fj.fc,v0_1]) I I (ac (c0.memA .t2) 0 2))<|Rv 2 b0 I d0 (fun _=>Bg 0 I)<|Rx 3 3600 b0 I d0 (AN (cs:=[.bool a1.fj.fc,v1_1]) I I (ac (c0.memA .t1) 0 2))<|Rv 5 b0 I d0 (fun _=>Bg 2 I)<|Rx 6 3584 b0 I d0 (AN (cs:=[.bool a0.fh.fc,v0_3]) I I (ac (c0.memA .t2) 2 2))<|Rv 7 b0 I d0 (fun _=>Bg 2 I)<|Rx 8 3584 b0 I d0 (AN (cs:=[.bool a1.fh.fc,v1_3]) I I (ac (c0.memA .t1) 2 2))<|bk h fun J0 G0 h=>AX 4 511 b0 I .plain (bd 136) I (e2 I I) (fun p q=>aP_c n (c0.hL hL q) a0.fj (c0.km h0_1 q) a1.fj (c0.km h1_1 q) G0) I fun p1 b1 B0 ⟨Y0,hu_,E0⟩=>?_
 subst hu_
 obtain ⟨g0,W0⟩:=c0.agr B0
 refine bk h fun K0 H0 h=>AX 9 1023 b0 I .plain (bd 136) I (e2 I I) (fun p q=>aP_c n (g0.hL hL q) a0.fh (g0.km h0_3 q) a1.fh (g0.km h1_3 q) H0) I fun q1 c1 C0 ⟨Z0,hu_,F0⟩=>?_
 subst hu_
 obtain ⟨s0,A0⟩:=g0.agr C0
 refine bk h fun k0 I0 h=>AX 10 2047 b0 I .plain (bd 140) I (e2 I I) (fun p q=>cj_c n (s0.hL hL q) J0 (Af (Ag E0 A0) q) K0 (Af F0 q) I0) I fun s1 d1 D0 ⟨p0,q0,hu_,u0,v0⟩=>?_
 subst hu_
 obtain ⟨z0,X0⟩:=s0.agr D0
 refine BB 11 4095 b0 I I .plain (AC (news:=[.bool k0.fj.fc,p0,.bool k0.fh.fc,q0]) z0 .hd I I I I I I (o4 I (Ay u0) I (Ay v0))) fun u1 j0 t0=>AK (dk b0)<|Ar I<|Au hb0 func80 I (.cons (.many (cs:=[.bool k0.fj.fc,p0,.bool k0.fh.fc,q0]) I I (j0.memA .hd)) .nil) I ?_
 cases h
 exact ⟨j0.ag,fun p q=>⟨p0,q0,I,j0.kd (Ag u0 t0) q,j0.kd (Ag v0 t0) q⟩⟩
def cH_p (_n:Nat) (a0:Td):Oa Td:=
  some a0
theorem cH_c (n:Nat) {L w} (_hL:hl L w) (a0:Td) {v0_1:Vc} (h0_1:Rep.R w L [v0_1] a0.fj.fk) {v0_3:Vc} (h0_3:Rep.R w L [v0_3] a0.fh.fk)  {r:Td} (h:cH_p n a0 = some r) :
 Cl 76 #[.agg #[.bool a0.fj.fc,v0_1,.bool a0.fh.fc,v0_3]] w (aj w fun w' u=>∃ v0_1 v0_3:Vc,u = .agg #[.bool r.fj.fc,v0_1,.bool r.fh.fc,v0_3]/\Rep.R w' L [v0_1] r.fj.fk/\Rep.R w' L [v0_3] r.fh.fk):=by
 unfold cH_p at h
 refine AM func76 I I I fun _ cs0 hb0=>Ae<|RG.bx (AL w) I I fun t0 g0 d0 p0=>RG.nl [.bool false,vN,.bool false,vN] d0 fun u0 j0 b0 q0=>Aa<|Ae<|Ab (Az I (b0.memA .t1))<|AQ [.bool a0.fj.fc,v0_1,.bool a0.fh.fc,v0_3] b0 .hd (o4 I (Ay (AH h0_1 b0)) I (Ay (AH h0_3 b0))) fun v0 c0 s0=>Aa<|Ar I<|Au hb0 func76 I (.cons (.many (cs:=[.bool a0.fj.fc,v0_1,.bool a0.fh.fc,v0_3]) I I (c0.memA .hd)) .nil) I ?_
 cases h
 exact ⟨c0.ag,fun p q=>⟨v0_1,v0_3,I,c0.k0 h0_1 q,c0.k0 h0_3 q⟩⟩
def bZ_l1 (n:Nat) (a0:Lb Ta) (q0:Nat × Bool × (Lb Ua) × Bool × (Lb Ua) -> Oa (Bool × (Lb Ua) × Bool × (Lb Ua))):Nat × Bool × (Lb Ua) × Bool × (Lb Ua) -> Oa (Bool × (Lb Ua) × Bool × (Lb Ua))
  | (c0,d0,k0,g0,p0)=>(if c0 < a0.length then (a0[c0]?).bind fun j0=>(bn_p n j0).bind fun s0=>(ak_p n j0.fm).bind fun t0=>(cH_p n t0).bind fun u0=>(ax_p n s0 u0).bind fun v0=>(aa_p n (⟨(⟨d0,k0⟩:Tg),(⟨g0,p0⟩:Tg)⟩:Td) v0).bind fun b0=>q0 (c0 + 1,b0.fj.fc,b0.fj.fk,b0.fh.fc,b0.fh.fk) else some (d0,k0,g0,p0))
def bZ_p (n:Nat) (a0:Lb Ta):Oa (Tb × Int):=
  (aU_p n a0).bind fun c0=>(if c0 = 0 then (aL_p n (0:Int)).bind fun b0=>Option.bind (ao (bZ_l1 n a0) n (0,b0.fj.fc,b0.fj.fk,b0.fh.fc,b0.fh.fk)) (fun (g0,k0,j0,p0)=>(ac_p n (⟨(⟨g0,k0⟩:Tg),(⟨j0,p0⟩:Tg)⟩:Td)).bind fun d0=>some (d0.1,d0.2)) else some ((⟨(0,0,0,0,0,0,0,0),(0,0,0,0,0,0,0,0)⟩:Tb),c0))
theorem bZ_c (n:Nat) {L w} (hL:hl L w) {a0:Lb Ta} {v0_0:Vc} (h0_0:Rep.R w L [v0_0] a0)  {r:Tb × Int} (h:bZ_p n a0 = some r) :
 Cl 19 #[v0_0] w (aj w fun _ u=>u = .tuple #[.agg ((ab r.1)).toArray,vI r.2]):=by
 unfold bZ_p at h
 refine AM func19 I I I fun _ cs0 hb0=>Ae<|RG.nl zL (AL w) fun U4 v1 j1 D4=>Ah I<|Aa<|Aj<|Ae<|Ac I<|bk h fun M2 I3 h=>Bd (vI M2) (bd 16) I (e1 I) (fun p q=>aU_c n (j1.hL0 hL q) (j1.k0 h0_0 q) I3) I<|Ah I<|Aa<|Ae<|Ac I<|Ab (BA (i:=M2) (j:=0) I I)<|Aa<|BI I h (fun R2 h=>?_) (fun R2 h=>?_)
 refine Aq<|Ae<|Ac I<|BE (fst:=[]) (cap:=[]) (vs:=[v0_0,.func (.func 76) #[] #[]]) .plain (bd 75) func75 I I I I (e2 I I) I fun A4 g3 M4=>Ae<|RG.bx j1 I I fun V4 A0 W2 E4=>RG.nl [.bool false,vN,.bool false,vN] W2 fun W4 x1 X2 F4=>Aa<|Ae<|Ac I<|Ab (FV.makeFunc (vs:=[]) (us:=[vP A0]) am (e1 I))<|BE (fst:=[]) (cap:=[]) (vs:=[v0_0,.func (.func 138) #[] #[vP A0]]) .plain (bd 70) func70 I I I I (e2 I I) I fun B4 j3 P4=>Ae<|RG.nl [.bool false,vN,.bool false,vN] X2 fun X4 d1 v2 G4=>Aa<|Ae<|bk h fun K0 J3 h=>jE (bd 71) I (e1 I) (fun p q=>aL_c n (v2.hL hL q)  J3) I fun Y4 R4 c3 ⟨J2,K2,hu_,H2,I2⟩=>?_
 subst hu_
 obtain ⟨Y2,H4⟩:=v2.agr c3
 refine RG.nl [.bool false,vN,.bool false,vN] Y2 fun c5 g1 b3 q1=>AQ [.bool K0.fj.fc,J2,.bool K0.fh.fc,K2] b3 .hd (o4 I (Ay (Ag H2 q1)) I (Ay (Ag I2 q1))) fun d5 x2 E2=>Aa<|Aj<|Ae<|Ac I ?_
 have G2:=AH h0_0 x2
 have K4:=AY G2
 refine Ab (Ba (xs:=a0) underlying23 I G2)<|Ac I<|Aa<|Av ?_
 obtain ⟨Q4,D3,p3⟩:=ap h
 refine BP (α:=Nat × Bool × (Lb Ua) × Bool × (Lb Ua) × Vc × Vc) (fun ⟨t0,c0,y0,d0,z0,p0,q0⟩=>[(1,.func (.func 138) #[] #[vP A0]),(4,vP d1),(5,vP g1),(9,v0_0),(10,vn a0.length),(11,vn t0)]) (fun ⟨t0,c0,y0,d0,z0,p0,q0⟩=>[.cells g1 [.bool c0,p0,.bool d0,q0] 109,.cells d1 [.bool false,vN,.bool false,vN] 109,.cells x1 [.bool false,vN,.bool false,vN] 109,.cells A0 [.func (.func 76) #[] #[]] 119,.cells v1 zL 34]) (fun ⟨t0,c0,y0,d0,z0,p0,q0⟩ k2=>Rep.R k2 (bl [.cells g1 [.bool c0,p0,.bool d0,q0] 109,.cells d1 [.bool false,vN,.bool false,vN] 109,.cells x1 [.bool false,vN,.bool false,vN] 109,.cells A0 [.func (.func 76) #[] #[]] 119,.cells v1 zL 34] ++ L) [p0] y0/\Rep.R k2 (bl [.cells g1 [.bool c0,p0,.bool d0,q0] 109,.cells d1 [.bool false,vN,.bool false,vN] 109,.cells x1 [.bool false,vN,.bool false,vN] 109,.cells A0 [.func (.func 76) #[] #[]] 119,.cells v1 zL 34] ++ L) [q0] z0) (fun ⟨t0,c0,y0,d0,z0,p0,q0⟩=>(t0,c0,y0,d0,z0)) (0,K0.fj.fc,K0.fj.fk,K0.fh.fc,K0.fh.fk,J2,K2) D3 x2 ⟨(Ag H2 (Tt q1 E2)),(Ag I2 (Tt q1 E2))⟩ ?_
 rintro x4 ⟨t0,c0,y0,d0,z0,p0,q0⟩ k2 u2 k1 B2 ⟨U0,V0⟩ h
 unfold bZ_l1 at h
 try dsimp only at h
 refine Ae<|Ab (AU (i:=t0) (j:=a0.length) I I)<|Aa<|Aj<|AV I h (fun U2 h=>?_) (fun U2 h=>?_)
 refine Aq<|Aj<|Av<|Ae<|bk h fun x0 H3 h=>?_
 obtain ⟨v4,z4,k3,q3,C4,G3,s3⟩:=Bh (AH h0_0 k1) H3
 obtain rfl:=aF G3
 refine Ab (Be 32 t0 I k3 I I q3)<|Ab (Az I s3)<|RG.nl [vW 0,vW 0,vW 0,vW 0,vW 0,vW 0,vW 0,vW 0,vW 0,vW 0,vW 0,vW 0,vW 0,vW 0,vW 0,vW 0,vW 0,vW 0,vW 0,vW 0,vW 0,vW 0,vW 0,vW 0,vW 0,vW 0,vW 0,vW 0,vW 0,vW 0,vW 0,vW 0] k1 fun Z4 y4 Z2 C2=>AQ (av x0) Z2 .hd (ai I) fun b5 p1 D2=>Aa<|du 3 fun j0 j2=>Rv 1 j0 I j2 (fun _=>Al I)<|Rx 2 56 j0 I j2 (Az I (p1.memA .hd))<|BJ [0,3] (rk j0) ⟨?_,?_,trivial⟩
 refine BV (m' :=7) (sk j0) I .plain I (Az I (p1.memA .t1))<|BK (i:=3) (rk j0) (RO.enterPT (m' :=15) (fst:=[]) (cap:=[vP A0]) (vs:=[.agg ((av x0)).toArray]) (sk j0) I I .plain (bd 138) func138 I I I I (e1 I) I (fun _ V2 Q1 E3=>?_))
 refine Ae<|RG.bx p1 I I fun c4 P2 y1 D1=>RG.nl [.bool false,vN,.bool false,vN] y1 fun d4 Q2 u0 E1=>Aa<|Aj<|du 8 fun b0 v0=>Rx 0 482 b0 I v0 (Az I (u0.memA .t1))<|Rx 2 448 b0 I v0 (Bp I ((u0.memA .t6) 0 _ I))<|Rv 3 b0 I v0 (fun _=>Bg 0 I)<|Rx 4 480 b0 I v0 (AN (cs:=(ab x0.fm)) I I (ac (u0.memA .t1) 0 16))<|bk h fun p2 Z1 h=>AX 1 31 b0 I .plain (bd 66) I (e1 I) (fun p q=>bn_c n (u0.hL hL q) x0 Z1) I fun g4 W3 I1 ⟨M3,P3,hu_,R1,U1⟩=>?_
 subst hu_
 obtain ⟨M0,F1⟩:=u0.agr I1
 refine bk h fun q2 b2 h=>AX 5 63 b0 I .plain (bd 68) I (e1 I) (fun p q=>ak_c n (M0.hL hL q) x0.fm b2) I fun j4 X3 J1 ⟨Q3,R3,hu_,V1,W1⟩=>?_
 subst hu_
 obtain ⟨P0,C0⟩:=M0.agr J1
 refine bk h fun s2 c2 h=>AX 6 127 b0 I .plain (bd 76) I (e1 I) (fun p q=>cH_c n (P0.hL hL q) q2 (Af V1 q) (Af W1 q) c2) I fun k4 Y3 K1 ⟨U3,V3,hu_,X1,Y1⟩=>?_
 subst hu_
 obtain ⟨Q0,D0⟩:=P0.agr K1
 refine bk h fun g0 d2 h=>?_
 have u3:=Ag R1 (Tt C0 D0)
 have v3:=Ag U1 (Tt C0 D0)
 refine AX 7 255 b0 I .plain (bd 80) I (e2 I I) (fun p q=>ax_c n (Q0.hL hL q) p2 (Af u3 q) (Af v3 q) s2 (Af X1 q) (Af Y1 q) d2) I fun p4 Z3 M1 ⟨I0,J0,hu_,W0,X0⟩=>?_
 subst hu_
 obtain ⟨z1,G1⟩:=Q0.agr M1
 refine BB 8 511 b0 I I .plain (AC (news:=[.bool g0.fj.fc,I0,.bool g0.fh.fc,J0]) z1 .hd I I I I I I (o4 I (Ay W0) I (Ay X0))) fun q4 B0 E0=>AK (dk b0)<|Ar I<|Au (u:=.agg #[.bool g0.fj.fc,I0,.bool g0.fh.fc,J0]) Q1 func138 I (.cons (.many (cs:=[.bool g0.fj.fc,I0,.bool g0.fh.fc,J0]) I I (B0.memA .hd)) .nil) I<|bk h fun s0 g2 h=>?_
 have H0:=Tt C2 (Tt D2 (Tt D1 (Tt E1 (Tt F1 (Tt C0 (Tt D0 (Tt G1 E0)))))))
 have x3:=Ag U0 H0
 have y3:=Ag V0 H0
 have z3:=Ag W0 E0
 have A3:=Ag X0 E0
 refine AX 4 31 j0 I .plain (bd 81) I (e2 I I) (fun p q=>aa_c n (B0.hL hL q) (⟨(⟨c0,y0⟩:Tg),(⟨d0,z0⟩:Tg)⟩:Td) (Af x3 q) (Af y3 q) g0 (Af z3 q) (Af A3 q) g2) I fun s4 b4 P1 ⟨b1,c1,hu_,Y0,Z0⟩=>?_
 subst hu_
 obtain ⟨A1,H1⟩:=B0.agr P1
 refine BB 5 63 j0 I I .plain (AC (news:=[.bool s0.fj.fc,b1,.bool s0.fh.fc,c1]) A1 .t3 I I I I I I (o4 I (Ay Y0) I (Ay Z0))) fun u4 B1 F0=>AK (dk j0)<|Ax<|Am<|Ab (Bc (i:=t0) (j:=1) I I (by omega))<|Ac I<|Aa ?_
 obtain ⟨C1,G0⟩:=AB B1 .d3
 have B3:=Ag Y0 (Tt F0 G0)
 have C3:=Ag Z0 (Tt F0 G0)
 have F3:=Tt H0 (Tt H1 (Tt F0 G0))
 exact u2 (t0 + 1,s0.fj.fc,s0.fj.fk,s0.fh.fc,s0.fh.fk,b1,c1) C1 (Tt B2 F3) ⟨B3,C3⟩ h
 refine RO.enterPT (m' :=14) (fst:=[]) (cap:=[vP A0]) (vs:=[.agg ((av x0)).toArray]) (sk j0) I I .plain (bd 138) func138 I I I I (e1 I) I fun _ V2 Q1 E3=>Ae<|RG.bx p1 I I fun c4 P2 y1 D1=>RG.nl [.bool false,vN,.bool false,vN] y1 fun d4 Q2 u0 E1=>Aa<|Aj<|du 8 fun b0 v0=>Rx 0 482 b0 I v0 (Az I (u0.memA .t1))<|Rx 2 448 b0 I v0 (Bp I ((u0.memA .t6) 0 _ I))<|Rv 3 b0 I v0 (fun _=>Bg 0 I)<|Rx 4 480 b0 I v0 (AN (cs:=(ab x0.fm)) I I (ac (u0.memA .t1) 0 16))<|bk h fun p2 Z1 h=>AX 1 31 b0 I .plain (bd 66) I (e1 I) (fun p q=>bn_c n (u0.hL hL q) x0 Z1) I fun g4 W3 I1 ⟨M3,P3,hu_,R1,U1⟩=>?_
 subst hu_
 obtain ⟨M0,F1⟩:=u0.agr I1
 refine bk h fun q2 b2 h=>AX 5 63 b0 I .plain (bd 68) I (e1 I) (fun p q=>ak_c n (M0.hL hL q) x0.fm b2) I fun j4 X3 J1 ⟨Q3,R3,hu_,V1,W1⟩=>?_
 subst hu_
 obtain ⟨P0,C0⟩:=M0.agr J1
 refine bk h fun s2 c2 h=>AX 6 127 b0 I .plain (bd 76) I (e1 I) (fun p q=>cH_c n (P0.hL hL q) q2 (Af V1 q) (Af W1 q) c2) I fun k4 Y3 K1 ⟨U3,V3,hu_,X1,Y1⟩=>?_
 subst hu_
 obtain ⟨Q0,D0⟩:=P0.agr K1
 refine bk h fun g0 d2 h=>AX 7 255 b0 I .plain (bd 80) I (e2 I I) (fun p q=>ax_c n (Q0.hL hL q) p2 (Af (Ag R1 (Tt C0 D0)) q) (Af (Ag U1 (Tt C0 D0)) q) s2 (Af X1 q) (Af Y1 q) d2) I fun p4 Z3 M1 ⟨I0,J0,hu_,W0,X0⟩=>?_
 subst hu_
 obtain ⟨z1,G1⟩:=Q0.agr M1
 refine BB 8 511 b0 I I .plain (AC (news:=[.bool g0.fj.fc,I0,.bool g0.fh.fc,J0]) z1 .hd I I I I I I (o4 I (Ay W0) I (Ay X0))) fun q4 B0 E0=>AK (dk b0)<|Ar I<|Au (u:=.agg #[.bool g0.fj.fc,I0,.bool g0.fh.fc,J0]) Q1 func138 I (.cons (.many (cs:=[.bool g0.fj.fc,I0,.bool g0.fh.fc,J0]) I I (B0.memA .hd)) .nil) I<|Rx 0 48 j0 I j2 (Az I (B0.memA .t3))<|bk h fun s0 g2 h=>?_
 have H0:=Tt C2 (Tt D2 (Tt D1 (Tt E1 (Tt F1 (Tt C0 (Tt D0 (Tt G1 E0)))))))
 refine AX 4 31 j0 I .plain (bd 81) I (e2 I I) (fun p q=>aa_c n (B0.hL hL q) (⟨(⟨c0,y0⟩:Tg),(⟨d0,z0⟩:Tg)⟩:Td) (Af (Ag U0 H0) q) (Af (Ag V0 H0) q) g0 (Af (Ag W0 E0) q) (Af (Ag X0 E0) q) g2) I fun s4 b4 P1 ⟨b1,c1,hu_,Y0,Z0⟩=>?_
 subst hu_
 obtain ⟨A1,H1⟩:=B0.agr P1
 refine BB 5 63 j0 I I .plain (AC (news:=[.bool s0.fj.fc,b1,.bool s0.fh.fc,c1]) A1 .t3 I I I I I I (o4 I (Ay Y0) I (Ay Z0))) fun u4 B1 F0=>AK (dk j0)<|Ax<|Am<|Ab (Bc (i:=t0) (j:=1) I I (by omega))<|Ac I<|Aa ?_
 obtain ⟨C1,G0⟩:=AB B1 .d3
 exact u2 (t0 + 1,s0.fj.fc,s0.fj.fk,s0.fh.fc,s0.fh.fk,b1,c1) C1 (Tt B2 (Tt H0 (Tt H1 (Tt F0 G0)))) ⟨(Ag Y0 (Tt F0 G0)),(Ag Z0 (Tt F0 G0))⟩ h
 refine AZ I ?_
 have h:=p3 _ h
 try dsimp only at h
 refine Ae<|Ab (Az I (k1.memA .hd))<|AQ [.bool c0,p0,.bool d0,q0] k1 .t1 (o4 I (Ay U0) I (Ay V0)) fun g5 y2 s1=>Aa<|Ar I<|Au (u:=.agg #[.bool c0,p0,.bool d0,q0]) j3 func70 I (.cons (.many (cs:=[.bool c0,p0,.bool d0,q0]) I I (y2.memA .t1)) .nil) I<|AQ [.bool c0,p0,.bool d0,q0] y2 .t2 (o4 I (Ay (Ag U0 s1)) I (Ay (Ag V0 s1))) fun j5 R0 F2=>Aa<|Ar I<|Au (u:=.agg #[.bool c0,p0,.bool d0,q0]) g3 func75 I (.cons (.many (cs:=[.bool c0,p0,.bool d0,q0]) I I (R0.memA .t2)) .nil) I<|bk h fun u1 K3 h=>Bd (.tuple #[.agg ((ab u1.1)).toArray,vI u1.2]) (bd 77) I (e1 I) (fun p q=>ac_c n (R0.hL0 hL q) (⟨(⟨c0,y0⟩:Tg),(⟨d0,z0⟩:Tg)⟩:Td) (R0.kd (Ag U0 (Tt s1 F2)) q) (R0.kd (Ag V0 (Tt s1 F2)) q) K3) I<|Ab (Ai I I)<|Ab (Ai I I)<|AQ (ab u1.1) R0 .t4 (ai I) fun k5 z2 I4=>Ah I<|Aa<|Ar I<|Au hb0 func19 I (.cons (.many (cs:=(ab u1.1)) I I (z2.memA .t4)) (.cons (.tmp I) .nil)) I ?_
 cases h
 exact z2.gv
 refine Ae<|Ab (AS (vs:=[]) (u:=.agg zM) am (fun p=>by kernel_rfl))<|Ac I<|AQ zL j1 .hd (ai I) fun p5 A2 J4=>Ah I<|Aa<|Ar I<|Au hb0 func19 I (.cons (.many (cs:=zL) I I (A2.memA .hd)) (.cons (.tmp I) .nil)) I ?_
 cases h
 exact A2.gv
def bW_p (n:Nat) (a0:Td):Oa Td:=
  (bJ_p n a0.fj).bind fun b0=>some (⟨b0,a0.fh⟩:Td)
theorem bW_c (n:Nat) {L w} (hL:hl L w) (a0:Td) {v0_1:Vc} (h0_1:Rep.R w L [v0_1] a0.fj.fk) {v0_3:Vc} (h0_3:Rep.R w L [v0_3] a0.fh.fk)  {r:Td} (h:bW_p n a0 = some r) :
 Cl 89 #[.agg #[.bool a0.fj.fc,v0_1,.bool a0.fh.fc,v0_3]] w (aj w fun w' u=>∃ v0_1 v0_3:Vc,u = .agg #[.bool r.fj.fc,v0_1,.bool r.fh.fc,v0_3]/\Rep.R w' L [v0_1] r.fj.fk/\Rep.R w' L [v0_3] r.fh.fk):=by
 unfold bW_p at h
 refine AM func89 I I I fun _ cs0 hb0=>Ae<|RG.bx (AL w) I I fun M0 D0 u0 H0=>RG.nl [.bool false,vN,.bool false,vN] u0 fun P0 E0 c0 I0=>Aa<|Aj<|du 6 fun b0 d0=>Rv 0 b0 I d0 (fun _=>Bg 0 I)<|Rx 1 100 b0 I d0 (AN (cs:=[.bool a0.fj.fc,v0_1]) I I (ac (c0.memA .t1) 0 2))<|Rv 3 b0 I d0 (fun _=>Bg 2 I)<|Rx 4 96 b0 I d0 (AN (cs:=[.bool a0.fh.fc,v0_3]) I I (ac (c0.memA .t1) 2 2))<|bk h fun p0 A0 h=>AX 2 31 b0 I .plain (bd 145) I (e1 I) (fun p q=>bJ_c n (c0.hL hL q) a0.fj (c0.km h0_1 q) A0) I fun Q0 K0 x0 ⟨g0,hu_,q0⟩=>?_
 subst hu_
 obtain ⟨s0,J0⟩:=c0.agr x0
 obtain ⟨B0,F0,y0,_⟩:=Bl q0
 have t0:=AH h0_3 s0
 obtain ⟨C0,G0,z0,_⟩:=Bl t0
 refine Rv 5 b0 I d0 (fun _=>AS (vs:=[.agg #[.bool p0.fc,g0],.agg #[.bool a0.fh.fc,v0_3]]) (u:=.agg #[.bool p0.fc,g0,.bool a0.fh.fc,v0_3]) (e2 I I) (fun p=>by rw [y0,z0]; try kernel_rfl))<|BB 6 127 b0 I I .plain (AC (news:=[.bool p0.fc,g0,.bool a0.fh.fc,v0_3]) s0 .hd I I I I I I (o4 I (Ay q0) I (Ay t0))) fun R0 j0 v0=>AK (dk b0)<|Ar I<|Au hb0 func89 I (.cons (.many (cs:=[.bool p0.fc,g0,.bool a0.fh.fc,v0_3]) I I (j0.memA .hd)) .nil) I ?_
 cases h
 exact ⟨j0.ag,fun p q=>⟨g0,v0_3,I,j0.kd (Ag q0 v0) q,j0.k0 h0_3 q⟩⟩
def cw_p (n:Nat) (a0:Td) (a1:Td):Oa Td:=
  (bW_p n a1).bind fun b0=>(aa_p n a0 b0).bind fun c0=>some c0
theorem cw_c (n:Nat) {L w} (hL:hl L w) (a0:Td) {v0_1:Vc} (h0_1:Rep.R w L [v0_1] a0.fj.fk) {v0_3:Vc} (h0_3:Rep.R w L [v0_3] a0.fh.fk) (a1:Td) {v1_1:Vc} (h1_1:Rep.R w L [v1_1] a1.fj.fk) {v1_3:Vc} (h1_3:Rep.R w L [v1_3] a1.fh.fk)  {r:Td} (h:cw_p n a0 a1 = some r) :
 Cl 79 #[.agg #[.bool a0.fj.fc,v0_1,.bool a0.fh.fc,v0_3],.agg #[.bool a1.fj.fc,v1_1,.bool a1.fh.fc,v1_3]] w (aj w fun w' u=>∃ v0_1 v0_3:Vc,u = .agg #[.bool r.fj.fc,v0_1,.bool r.fh.fc,v0_3]/\Rep.R w' L [v0_1] r.fj.fk/\Rep.R w' L [v0_3] r.fh.fk):=by
 unfold cw_p at h
 refine AM func79 I I I fun _ cs0 hb0=>Ae<|RG.bx (AL w) I I fun X0 G0 v0 J0=>RG.bx v0 I I fun Y0 H0 x0 K0=>RG.nl [.bool false,vN,.bool false,vN] x0 fun Z0 I0 b0 M0=>Aa<|Aj<|du 4 fun c0 u0=>Rx 0 24 c0 I u0 (Az I (b0.memA .t2))<|Rx 1 28 c0 I u0 (Az I (b0.memA .t1))<|bk h fun F0 D0 h=>AX 2 7 c0 I .plain (bd 89) I (e1 I) (fun p q=>bW_c n (b0.hL hL q) a1 (b0.km h1_1 q) (b0.km h1_3 q) D0) I fun b1 V0 z0 ⟨R0,U0,hu_,B0,C0⟩=>?_
 subst hu_
 obtain ⟨d0,P0⟩:=b0.agr z0
 refine bk h fun j0 E0 h=>AX 3 15 c0 I .plain (bd 81) I (e2 I I) (fun p q=>aa_c n (d0.hL hL q) a0 (d0.km h0_1 q) (d0.km h0_3 q) F0 (Af B0 q) (Af C0 q) E0) I fun c1 W0 A0 ⟨k0,p0,hu_,s0,t0⟩=>?_
 subst hu_
 obtain ⟨y0,Q0⟩:=d0.agr A0
 refine BB 4 31 c0 I I .plain (AC (news:=[.bool j0.fj.fc,k0,.bool j0.fh.fc,p0]) y0 .hd I I I I I I (o4 I (Ay s0) I (Ay t0))) fun d1 g0 q0=>AK (dk c0)<|Ar I<|Au hb0 func79 I (.cons (.many (cs:=[.bool j0.fj.fc,k0,.bool j0.fh.fc,p0]) I I (g0.memA .hd)) .nil) I ?_
 cases h
 exact ⟨g0.ag,fun p q=>⟨k0,p0,I,g0.kd (Ag s0 q0) q,g0.kd (Ag t0 q0) q⟩⟩
def cy_p (n:Nat) (a0:Td) (a1:Td):Oa Td:=
  (cw_p n a0 a1).bind fun b0=>(ax_p n b0 b0).bind fun c0=>some c0
theorem cy_c (n:Nat) {L w} (hL:hl L w) (a0:Td) {v0_1:Vc} (h0_1:Rep.R w L [v0_1] a0.fj.fk) {v0_3:Vc} (h0_3:Rep.R w L [v0_3] a0.fh.fk) (a1:Td) {v1_1:Vc} (h1_1:Rep.R w L [v1_1] a1.fj.fk) {v1_3:Vc} (h1_3:Rep.R w L [v1_3] a1.fh.fk) {p1:Nat} (m1:∀ j9 v9,([.bool a1.fj.fc,v1_1,.bool a1.fh.fc,v1_3]:Lb Vc)[j9]? = some v9 -> w.cell? ((⟨p1,0,none⟩:Addr).add j9) = some v9)  {r:Td} (h:cy_p n a0 a1 = some r) :
 Cl 78 #[.agg #[.bool a0.fj.fc,v0_1,.bool a0.fh.fc,v0_3],.pointer (some ⟨p1,0,none⟩)] w (aj w fun w' u=>∃ v0_1 v0_3:Vc,u = .agg #[.bool r.fj.fc,v0_1,.bool r.fh.fc,v0_3]/\Rep.R w' L [v0_1] r.fj.fk/\Rep.R w' L [v0_3] r.fh.fk):=by
 unfold cy_p at h
 refine AM func78 I I I fun _ cs0 hb0=>Ae<|RG.bx (AL w) I I fun Z0 M0 B0 R0=>RG.nl [.bool false,vN,.bool false,vN] B0 fun b1 P0 b0 U0=>Aa<|Ae<|Ab (Az I (b0.memA .t1))<|Ab (Az I (fun j9 v9 h9=>b0.ag.cell0 (m1 j9 v9 h9)))<|bk h fun j0 H0 h=>jE (bd 79) I (e2 I I) (fun p q=>cw_c n (b0.hL hL q) a0 (b0.km h0_1 q) (b0.km h0_3 q) a1 (b0.km h1_1 q) (b0.km h1_3 q) H0) I fun c1 X0 F0 ⟨J0,K0,hu_,x0,y0⟩=>?_
 subst hu_
 obtain ⟨C0,V0⟩:=b0.agr F0
 refine RG.nl [.bool false,vN,.bool false,vN] C0 fun d1 Q0 D0 g0=>AQ [.bool j0.fj.fc,J0,.bool j0.fh.fc,K0] D0 .hd (o4 I (Ay (Ag x0 g0)) I (Ay (Ag y0 g0))) fun g1 c0 s0=>Aa<|Ae<|Ab (Az I (c0.memA .hd))<|Ab (Az I (c0.memA .hd))<|bk h fun k0 I0 h=>?_
 have u0:=Ag x0 (Tt g0 s0)
 have v0:=Ag y0 (Tt g0 s0)
 refine jE (bd 80) I (e2 I I) (fun p q=>ax_c n (c0.hL hL q) j0 (Af u0 q) (Af v0 q) j0 (Af u0 q) (Af v0 q) I0) I fun j1 Y0 G0 ⟨p0,q0,hu_,z0,A0⟩=>?_
 subst hu_
 obtain ⟨E0,W0⟩:=c0.agr G0
 refine AQ [.bool k0.fj.fc,p0,.bool k0.fh.fc,q0] E0 .t1 (o4 I (Ay z0) I (Ay A0)) fun k1 d0 t0=>Aa<|Ar I<|Au hb0 func78 I (.cons (.many (cs:=[.bool k0.fj.fc,p0,.bool k0.fh.fc,q0]) I I (d0.memA .t1)) .nil) I ?_
 cases h
 exact ⟨d0.ag,fun p q=>⟨p0,q0,I,d0.kd (Ag z0 t0) q,d0.kd (Ag A0 t0) q⟩⟩
def ba_l1 (n:Nat) (a0:Lb Ta) (s0:Bool) (u0:Lb Ua) (t0:Bool) (v0:Lb Ua) (q0:Nat × Bool × (Lb Ua) × Bool × (Lb Ua) -> Oa (Bool × (Lb Ua) × Bool × (Lb Ua))):Nat × Bool × (Lb Ua) × Bool × (Lb Ua) -> Oa (Bool × (Lb Ua) × Bool × (Lb Ua))
  | (c0,d0,k0,g0,p0)=>(if c0 < a0.length then (a0[c0]?).bind fun j0=>(bn_p n j0).bind fun x0=>(ak_p n j0.fm).bind fun y0=>(cy_p n y0 (⟨(⟨s0,u0⟩:Tg),(⟨t0,v0⟩:Tg)⟩:Td)).bind fun z0=>(ax_p n x0 z0).bind fun A0=>(aa_p n (⟨(⟨d0,k0⟩:Tg),(⟨g0,p0⟩:Tg)⟩:Td) A0).bind fun b0=>q0 (c0 + 1,b0.fj.fc,b0.fj.fk,b0.fh.fc,b0.fh.fk) else some (d0,k0,g0,p0))
def ba_l2 (n:Nat) (a0:Lb Ta) (q0:Nat × Bool × (Lb Ua) × Bool × (Lb Ua) -> Oa (Bool × (Lb Ua) × Bool × (Lb Ua))):Nat × Bool × (Lb Ua) × Bool × (Lb Ua) -> Oa (Bool × (Lb Ua) × Bool × (Lb Ua))
  | (c0,d0,k0,g0,p0)=>(if c0 < a0.length then (a0[c0]?).bind fun j0=>(bn_p n j0).bind fun s0=>(ak_p n j0.fm).bind fun t0=>(cH_p n t0).bind fun u0=>(ax_p n s0 u0).bind fun v0=>(aa_p n (⟨(⟨d0,k0⟩:Tg),(⟨g0,p0⟩:Tg)⟩:Td) v0).bind fun b0=>q0 (c0 + 1,b0.fj.fc,b0.fj.fk,b0.fh.fc,b0.fh.fk) else some (d0,k0,g0,p0))
def ba_p (n:Nat) (a0:Lb Ta):Oa (Tb × Int):=
  (aU_p n a0).bind fun g0=>(if g0 = 0 then (aL_p n (0:Int)).bind fun b0=>Option.bind (ao (ba_l2 n a0) n (0,b0.fj.fc,b0.fj.fk,b0.fh.fc,b0.fh.fk)) (fun (p0,u0,q0,v0)=>(aL_p n (0:Int)).bind fun c0=>Option.bind (ao (ba_l1 n a0 p0 u0 q0 v0) n (0,c0.fj.fc,c0.fj.fk,c0.fh.fc,c0.fh.fk)) (fun (j0,s0,k0,t0)=>(ac_p n (⟨(⟨j0,s0⟩:Tg),(⟨k0,t0⟩:Tg)⟩:Td)).bind fun d0=>some (d0.1,d0.2))) else some ((⟨(0,0,0,0,0,0,0,0),(0,0,0,0,0,0,0,0)⟩:Tb),g0))
theorem ba_c (n:Nat) {L w} (hL:hl L w) {a0:Lb Ta} {v0_0:Vc} (h0_0:Rep.R w L [v0_0] a0)  {r:Tb × Int} (h:ba_p n a0 = some r) :
 Cl 20 #[v0_0] w (aj w fun _ u=>u = .tuple #[.agg ((ab r.1)).toArray,vI r.2]):=by
 unfold ba_p at h
 refine AM func20 I I I fun _ cs0 hb0=>Ae<|RG.nl zL (AL w) fun E9 D1 A2 g9=>Ah I<|Aa<|Aj<|Ae<|Ac I<|bk h fun F5 D7 h=>Bd (vI F5) (bd 16) I (e1 I) (fun p q=>aU_c n (A2.hL0 hL q) (A2.k0 h0_0 q) D7) I<|Ah I<|Aa<|Ae<|Ac I<|Ab (BA (i:=F5) (j:=0) I I)<|Aa<|BI I h (fun M5 h=>?_) (fun M5 h=>?_)
 refine Aq<|Ae<|Ac I<|BE (fst:=[]) (cap:=[]) (vs:=[v0_0,.func (.func 76) #[] #[]]) .plain (bd 75) func75 I I I I (e2 I I) I fun Y8 x6 v9=>Ae<|RG.bx A2 I I fun M9 V0 W5 p9=>RG.nl [.bool false,vN,.bool false,vN] W5 fun P9 P2 X5 q9=>Aa<|Ae<|Ac I<|Ab (FV.makeFunc (vs:=[]) (us:=[vP V0]) am (e1 I))<|BE (fst:=[]) (cap:=[]) (vs:=[v0_0,.func (.func 138) #[] #[vP V0]]) .plain (bd 70) func70 I I I I (e2 I I) I fun Z8 y6 x9=>Ae<|RG.nl [.bool false,vN,.bool false,vN] X5 fun Q9 v2 R4 s9=>Aa<|Ae<|bk h fun E1 E7 h=>jE (bd 71) I (e1 I) (fun p q=>aL_c n (R4.hL hL q)  E7) I fun R9 C9 u6 ⟨B5,C5,hu_,x5,y5⟩=>?_
 subst hu_
 obtain ⟨Y5,t9⟩:=R4.agr u6
 refine RG.nl [.bool false,vN,.bool false,vN] Y5 fun W9 x2 b6 J2=>AQ [.bool E1.fj.fc,B5,.bool E1.fh.fc,C5] b6 .hd (o4 I (Ay (Ag x5 J2)) I (Ay (Ag y5 J2))) fun X9 U4 g5=>Aa<|Aj<|Ae<|Ac I ?_
 have u5:=AH h0_0 U4
 have u9:=AY u5
 refine Ab (Ba (xs:=a0) underlying23 I u5)<|Ac I<|Aa<|Av ?_
 obtain ⟨B9,q7,E6⟩:=ap h
 refine BP (α:=Nat × Bool × (Lb Ua) × Bool × (Lb Ua) × Vc × Vc) (fun ⟨D0,c0,H0,d0,I0,j0,p0⟩=>[(1,.func (.func 138) #[] #[vP V0]),(4,vP v2),(5,vP x2),(9,v0_0),(10,vn a0.length),(11,vn D0)]) (fun ⟨D0,c0,H0,d0,I0,j0,p0⟩=>[.cells x2 [.bool c0,j0,.bool d0,p0] 109,.cells v2 [.bool false,vN,.bool false,vN] 109,.cells P2 [.bool false,vN,.bool false,vN] 109,.cells V0 [.func (.func 76) #[] #[]] 119,.cells D1 zL 34]) (fun ⟨D0,c0,H0,d0,I0,j0,p0⟩ C4=>Rep.R C4 (bl [.cells x2 [.bool c0,j0,.bool d0,p0] 109,.cells v2 [.bool false,vN,.bool false,vN] 109,.cells P2 [.bool false,vN,.bool false,vN] 109,.cells V0 [.func (.func 76) #[] #[]] 119,.cells D1 zL 34] ++ L) [j0] H0/\Rep.R C4 (bl [.cells x2 [.bool c0,j0,.bool d0,p0] 109,.cells v2 [.bool false,vN,.bool false,vN] 109,.cells P2 [.bool false,vN,.bool false,vN] 109,.cells V0 [.func (.func 76) #[] #[]] 119,.cells D1 zL 34] ++ L) [p0] I0) (fun ⟨D0,c0,H0,d0,I0,j0,p0⟩=>(D0,c0,H0,d0,I0)) (0,E1.fj.fc,E1.fj.fk,E1.fh.fc,E1.fh.fk,B5,C5) q7 U4 ⟨(Ag x5 (Tt J2 g5)),(Ag y5 (Tt J2 g5))⟩ ?_
 rintro Q8 ⟨D0,c0,H0,d0,I0,j0,p0⟩ C4 K4 D2 b5 ⟨x1,y1⟩ h
 unfold ba_l2 at h
 try dsimp only at h
 refine Ae<|Ab (AU (i:=D0) (j:=a0.length) I I)<|Aa<|Aj<|AV I h (fun P5 h=>?_) (fun P5 h=>?_)
 refine Aq<|Aj<|Av<|Ae<|bk h fun Q0 B7 h=>?_
 obtain ⟨M8,W8,C6,G6,b9,z7,X6⟩:=Bh (AH h0_0 D2) B7
 obtain rfl:=aF z7
 refine Ab (Be 32 D0 I C6 I I G6)<|Ab (Az I X6)<|RG.nl [vW 0,vW 0,vW 0,vW 0,vW 0,vW 0,vW 0,vW 0,vW 0,vW 0,vW 0,vW 0,vW 0,vW 0,vW 0,vW 0,vW 0,vW 0,vW 0,vW 0,vW 0,vW 0,vW 0,vW 0,vW 0,vW 0,vW 0,vW 0,vW 0,vW 0,vW 0,vW 0] D2 fun U9 U8 Z5 c5=>AQ (av Q0) Z5 .hd (ai I) fun V9 E2 d5=>Aa<|du 3 fun x0 A4=>Rv 1 x0 I A4 (fun _=>Al I)<|Rx 2 56 x0 I A4 (Az I (E2.memA .hd))<|BJ [0,3] (rk x0) ⟨?_,?_,trivial⟩
 refine BV (m' :=7) (sk x0) I .plain I (Az I (E2.memA .t1))<|BK (i:=3) (rk x0) (RO.enterPT (m' :=15) (fst:=[]) (cap:=[vP V0]) (vs:=[.agg ((av Q0)).toArray]) (sk x0) I I .plain (bd 138) func138 I I I I (e1 I) I (fun _ R5 M3 u7=>?_))
 refine Ae<|RG.bx E2 I I fun B8 I5 Y2 q3=>RG.nl [.bool false,vN,.bool false,vN] Y2 fun C8 J5 F0 s3=>Aa<|Aj<|du 8 fun g0 M0=>Rx 0 482 g0 I M0 (Az I (F0.memA .t1))<|Rx 2 448 g0 I M0 (Bp I ((F0.memA .t6) 0 _ I))<|Rv 3 g0 I M0 (fun _=>Bg 0 I)<|Rx 4 480 g0 I M0 (AN (cs:=(ab Q0.fm)) I I (ac (F0.memA .t1) 0 16))<|bk h fun G4 t4 h=>AX 1 31 g0 I .plain (bd 66) I (e1 I) (fun p q=>bn_c n (F0.hL hL q) Q0 t4) I fun D8 d8 F3 ⟨P7,Q7,hu_,X3,Y3⟩=>?_
 subst hu_
 obtain ⟨J1,u3⟩:=F0.agr F3
 refine bk h fun H4 u4 h=>AX 5 63 g0 I .plain (bd 68) I (e1 I) (fun p q=>ak_c n (J1.hL hL q) Q0.fm u4) I fun E8 g8 G3 ⟨R7,U7,hu_,Z3,b4⟩=>?_
 subst hu_
 obtain ⟨K1,j1⟩:=J1.agr G3
 refine bk h fun I4 v4 h=>AX 6 127 g0 I .plain (bd 76) I (e1 I) (fun p q=>cH_c n (K1.hL hL q) H4 (Af Z3 q) (Af b4 q) v4) I fun F8 j8 H3 ⟨V7,W7,hu_,c4,g4⟩=>?_
 subst hu_
 obtain ⟨M1,k1⟩:=K1.agr H3
 refine bk h fun u0 x4 h=>?_
 have Y6:=Ag X3 (Tt j1 k1)
 have Z6:=Ag Y3 (Tt j1 k1)
 refine AX 7 255 g0 I .plain (bd 80) I (e2 I I) (fun p q=>ax_c n (M1.hL hL q) G4 (Af Y6 q) (Af Z6 q) I4 (Af c4 q) (Af g4 q) x4) I fun G8 k8 I3 ⟨B1,C1,hu_,d2,g2⟩=>?_
 subst hu_
 obtain ⟨Z2,v3⟩:=M1.agr I3
 refine BB 8 511 g0 I I .plain (AC (news:=[.bool u0.fj.fc,B1,.bool u0.fh.fc,C1]) Z2 .hd I I I I I I (o4 I (Ay d2) I (Ay g2))) fun H8 Y0 p1=>AK (dk g0)<|Ar I<|Au (u:=.agg #[.bool u0.fj.fc,B1,.bool u0.fh.fc,C1]) M3 func138 I (.cons (.many (cs:=[.bool u0.fj.fc,B1,.bool u0.fh.fc,C1]) I I (Y0.memA .hd)) .nil) I<|bk h fun B0 y4 h=>?_
 have v1:=Tt c5 (Tt d5 (Tt q3 (Tt s3 (Tt u3 (Tt j1 (Tt k1 (Tt v3 p1)))))))
 have b7:=Ag x1 v1
 have c7:=Ag y1 v1
 have d7:=Ag d2 p1
 have g7:=Ag g2 p1
 refine AX 4 31 x0 I .plain (bd 81) I (e2 I I) (fun p q=>aa_c n (Y0.hL hL q) (⟨(⟨c0,H0⟩:Tg),(⟨d0,I0⟩:Tg)⟩:Td) (Af b7 q) (Af c7 q) u0 (Af d7 q) (Af g7 q) y4) I fun I8 p8 J3 ⟨s2,u2,hu_,j2,k2⟩=>?_
 subst hu_
 obtain ⟨b3,x3⟩:=Y0.agr J3
 refine BB 5 63 x0 I I .plain (AC (news:=[.bool B0.fj.fc,s2,.bool B0.fh.fc,u2]) b3 .t3 I I I I I I (o4 I (Ay j2) I (Ay k2))) fun J8 c3 q1=>AK (dk x0)<|Ax<|Am<|Ab (Bc (i:=D0) (j:=1) I I (by omega))<|Ac I<|Aa ?_
 obtain ⟨g3,s1⟩:=AB c3 .d3
 have j7:=Ag j2 (Tt q1 s1)
 have k7:=Ag k2 (Tt q1 s1)
 have x7:=Tt v1 (Tt x3 (Tt q1 s1))
 exact K4 (D0 + 1,B0.fj.fc,B0.fj.fk,B0.fh.fc,B0.fh.fk,s2,u2) g3 (Tt b5 x7) ⟨j7,k7⟩ h
 refine RO.enterPT (m' :=14) (fst:=[]) (cap:=[vP V0]) (vs:=[.agg ((av Q0)).toArray]) (sk x0) I I .plain (bd 138) func138 I I I I (e1 I) I fun _ R5 M3 u7=>Ae<|RG.bx E2 I I fun B8 I5 Y2 q3=>RG.nl [.bool false,vN,.bool false,vN] Y2 fun C8 J5 F0 s3=>Aa<|Aj<|du 8 fun g0 M0=>Rx 0 482 g0 I M0 (Az I (F0.memA .t1))<|Rx 2 448 g0 I M0 (Bp I ((F0.memA .t6) 0 _ I))<|Rv 3 g0 I M0 (fun _=>Bg 0 I)<|Rx 4 480 g0 I M0 (AN (cs:=(ab Q0.fm)) I I (ac (F0.memA .t1) 0 16))<|bk h fun G4 t4 h=>AX 1 31 g0 I .plain (bd 66) I (e1 I) (fun p q=>bn_c n (F0.hL hL q) Q0 t4) I fun D8 d8 F3 ⟨P7,Q7,hu_,X3,Y3⟩=>?_
 subst hu_
 obtain ⟨J1,u3⟩:=F0.agr F3
 refine bk h fun H4 u4 h=>AX 5 63 g0 I .plain (bd 68) I (e1 I) (fun p q=>ak_c n (J1.hL hL q) Q0.fm u4) I fun E8 g8 G3 ⟨R7,U7,hu_,Z3,b4⟩=>?_
 subst hu_
 obtain ⟨K1,j1⟩:=J1.agr G3
 refine bk h fun I4 v4 h=>AX 6 127 g0 I .plain (bd 76) I (e1 I) (fun p q=>cH_c n (K1.hL hL q) H4 (Af Z3 q) (Af b4 q) v4) I fun F8 j8 H3 ⟨V7,W7,hu_,c4,g4⟩=>?_
 subst hu_
 obtain ⟨M1,k1⟩:=K1.agr H3
 refine bk h fun u0 x4 h=>AX 7 255 g0 I .plain (bd 80) I (e2 I I) (fun p q=>ax_c n (M1.hL hL q) G4 (Af (Ag X3 (Tt j1 k1)) q) (Af (Ag Y3 (Tt j1 k1)) q) I4 (Af c4 q) (Af g4 q) x4) I fun G8 k8 I3 ⟨B1,C1,hu_,d2,g2⟩=>?_
 subst hu_
 obtain ⟨Z2,v3⟩:=M1.agr I3
 refine BB 8 511 g0 I I .plain (AC (news:=[.bool u0.fj.fc,B1,.bool u0.fh.fc,C1]) Z2 .hd I I I I I I (o4 I (Ay d2) I (Ay g2))) fun H8 Y0 p1=>AK (dk g0)<|Ar I<|Au (u:=.agg #[.bool u0.fj.fc,B1,.bool u0.fh.fc,C1]) M3 func138 I (.cons (.many (cs:=[.bool u0.fj.fc,B1,.bool u0.fh.fc,C1]) I I (Y0.memA .hd)) .nil) I<|Rx 0 48 x0 I A4 (Az I (Y0.memA .t3))<|bk h fun B0 y4 h=>?_
 have v1:=Tt c5 (Tt d5 (Tt q3 (Tt s3 (Tt u3 (Tt j1 (Tt k1 (Tt v3 p1)))))))
 refine AX 4 31 x0 I .plain (bd 81) I (e2 I I) (fun p q=>aa_c n (Y0.hL hL q) (⟨(⟨c0,H0⟩:Tg),(⟨d0,I0⟩:Tg)⟩:Td) (Af (Ag x1 v1) q) (Af (Ag y1 v1) q) u0 (Af (Ag d2 p1) q) (Af (Ag g2 p1) q) y4) I fun I8 p8 J3 ⟨s2,u2,hu_,j2,k2⟩=>?_
 subst hu_
 obtain ⟨b3,x3⟩:=Y0.agr J3
 refine BB 5 63 x0 I I .plain (AC (news:=[.bool B0.fj.fc,s2,.bool B0.fh.fc,u2]) b3 .t3 I I I I I I (o4 I (Ay j2) I (Ay k2))) fun J8 c3 q1=>AK (dk x0)<|Ax<|Am<|Ab (Bc (i:=D0) (j:=1) I I (by omega))<|Ac I<|Aa ?_
 obtain ⟨g3,s1⟩:=AB c3 .d3
 exact K4 (D0 + 1,B0.fj.fc,B0.fj.fk,B0.fh.fc,B0.fh.fk,s2,u2) g3 (Tt b5 (Tt v1 (Tt x3 (Tt q1 s1)))) ⟨(Ag j2 (Tt q1 s1)),(Ag k2 (Tt q1 s1))⟩ h
 refine AZ I ?_
 have h:=E6 _ h
 try dsimp only at h
 refine Ae<|Ab (Az I (D2.memA .hd))<|AQ [.bool c0,j0,.bool d0,p0] D2 .t1 (o4 I (Ay x1) I (Ay y1)) fun Y9 V4 y3=>Aa<|Ar I<|Au (u:=.agg #[.bool c0,j0,.bool d0,p0]) y6 func70 I (.cons (.many (cs:=[.bool c0,j0,.bool d0,p0]) I I (V4.memA .t1)) .nil) I<|AQ [.bool c0,j0,.bool d0,p0] V4 .t2 (o4 I (Ay (Ag x1 y3)) I (Ay (Ag y1 y3))) fun Z9 W4 q6=>Aa<|Ar I<|Au (u:=.agg #[.bool c0,j0,.bool d0,p0]) x6 func75 I (.cons (.many (cs:=[.bool c0,j0,.bool d0,p0]) I I (W4.memA .t2)) .nil) I<|RG.nl [.bool false,vN,.bool false,vN] W4 fun b00 G0 c6 s6=>?_
 have K2:=Tt y3 (Tt q6 s6)
 refine AQ [.bool c0,j0,.bool d0,p0] c6 .hd (o4 I (Ay (Ag x1 K2)) I (Ay (Ag y1 K2))) fun c00 d6 j5=>Aa<|Ae<|Ac I<|Ab (FV.makeFunc (vs:=[]) (us:=[vP G0]) am (e1 I))<|BE (fst:=[]) (cap:=[]) (vs:=[v0_0,.func (.func 78) #[] #[vP G0]]) .plain (bd 75) func75 I I I I (e2 I I) I fun c9 z6 y9=>Ae<|RG.bx d6 I I fun d00 W0 g6 k5=>RG.nl [.bool false,vN,.bool false,vN] g6 fun g00 Q2 j6 p5=>Aa<|Ae<|Ac I<|Ab (FV.makeFunc (vs:=[]) (us:=[vP W0]) am (e1 I))<|BE (fst:=[]) (cap:=[]) (vs:=[v0_0,.func (.func 138) #[] #[vP W0]]) .plain (bd 70) func70 I I I I (e2 I I) I fun d9 A6 z9=>Ae<|RG.nl [.bool false,vN,.bool false,vN] j6 fun j00 y2 X4 q5=>Aa<|Ae<|bk h fun F1 F7 h=>jE (bd 71) I (e1 I) (fun p q=>aL_c n (X4.hL hL q)  F7) I fun k00 D9 v6 ⟨D5,E5,hu_,z5,A5⟩=>?_
 subst hu_
 obtain ⟨k6,s5⟩:=X4.agr v6
 refine RG.nl [.bool false,vN,.bool false,vN] k6 fun p00 z2 p6 U1=>AQ [.bool F1.fj.fc,D5,.bool F1.fh.fc,E5] p6 .hd (o4 I (Ay (Ag z5 U1)) I (Ay (Ag A5 U1))) fun q00 Y4 z3=>Aa<|Aj<|Ae<|Ac I<|Ab (Ba (xs:=a0) underlying23 I (AH h0_0 Y4))<|Ac I<|Aa<|Av ?_
 obtain ⟨U5,j3⟩:=AB Y4 (.a0 (.a0 (.a0 (.a0 (.a0 .d4)))))
 have v5:=Tt U1 (Tt z3 j3)
 obtain ⟨A9,p7,D6⟩:=ap h
 refine BP (α:=Nat × Bool × (Lb Ua) × Bool × (Lb Ua) × Vc × Vc) (fun ⟨C0,q0,R0,s0,U0,y0,z0⟩=>[(1,.func (.func 138) #[] #[vP W0]),(4,vP y2),(5,vP z2),(9,v0_0),(10,vn a0.length),(11,vn C0)]) (fun ⟨C0,q0,R0,s0,U0,y0,z0⟩=>[.cells z2 [.bool q0,y0,.bool s0,z0] 109,.cells y2 [.bool false,vN,.bool false,vN] 109,.cells Q2 [.bool false,vN,.bool false,vN] 109,.cells W0 [.func (.func 78) #[] #[vP G0]] 119,.cells G0 [.bool c0,j0,.bool d0,p0] 109,.cells D1 zL 34]) (fun ⟨C0,q0,R0,s0,U0,y0,z0⟩ B4=>Rep.R B4 (bl [.cells z2 [.bool q0,y0,.bool s0,z0] 109,.cells y2 [.bool false,vN,.bool false,vN] 109,.cells Q2 [.bool false,vN,.bool false,vN] 109,.cells W0 [.func (.func 78) #[] #[vP G0]] 119,.cells G0 [.bool c0,j0,.bool d0,p0] 109,.cells D1 zL 34] ++ L) [y0] R0/\Rep.R B4 (bl [.cells z2 [.bool q0,y0,.bool s0,z0] 109,.cells y2 [.bool false,vN,.bool false,vN] 109,.cells Q2 [.bool false,vN,.bool false,vN] 109,.cells W0 [.func (.func 78) #[] #[vP G0]] 119,.cells G0 [.bool c0,j0,.bool d0,p0] 109,.cells D1 zL 34] ++ L) [z0] U0) (fun ⟨C0,q0,R0,s0,U0,y0,z0⟩=>(C0,q0,R0,s0,U0)) (0,F1.fj.fc,F1.fj.fk,F1.fh.fc,F1.fh.fk,D5,E5) p7 U5 ⟨(Ag z5 v5),(Ag A5 v5)⟩ ?_
 rintro P8 ⟨C0,q0,R0,s0,U0,y0,z0⟩ B4 J4 B2 F2 ⟨W1,X1⟩ h
 unfold ba_l1 at h
 try dsimp only at h
 refine Ae<|Ab (AU (i:=C0) (j:=a0.length) I I)<|Aa<|Aj<|AV I h (fun K5 h=>?_) (fun K5 h=>?_)
 refine Aq<|Aj<|Av<|Ae<|bk h fun P0 A7 h=>?_
 obtain ⟨K8,V8,B6,F6,X8,y7,H6⟩:=Bh (AH h0_0 B2) A7
 obtain rfl:=aF y7
 refine Ab (Be 32 C0 I B6 I I F6)<|Ab (Az I H6)<|RG.nl [vW 0,vW 0,vW 0,vW 0,vW 0,vW 0,vW 0,vW 0,vW 0,vW 0,vW 0,vW 0,vW 0,vW 0,vW 0,vW 0,vW 0,vW 0,vW 0,vW 0,vW 0,vW 0,vW 0,vW 0,vW 0,vW 0,vW 0,vW 0,vW 0,vW 0,vW 0,vW 0] B2 fun F9 R8 V5 G2=>AQ (av P0) V5 .hd (ai I) fun G9 C2 H2=>Aa<|du 3 fun v0 z4=>Rv 1 v0 I z4 (fun _=>Al I)<|Rx 2 56 v0 I z4 (Az I (C2.memA .hd))<|BJ [0,3] (rk v0) ⟨?_,?_,trivial⟩
 refine BV (m' :=7) (sk v0) I .plain I (Az I (C2.memA .t1))<|BK (i:=3) (rk v0) (RO.enterPT (m' :=15) (fst:=[]) (cap:=[vP W0]) (vs:=[.agg ((av P0)).toArray]) (sk v0) I I .plain (bd 138) func138 I I I I (e1 I) I (fun _ Q5 K3 s7=>?_))
 refine Ae<|RG.bx C2 I I fun q8 G5 R2 P1=>RG.nl [.bool false,vN,.bool false,vN] R2 fun s8 H5 E0 Q1=>Aa<|Aj<|du 8 fun b0 K0=>Rx 0 482 b0 I K0 (Az I (E0.memA .t1))<|Rx 2 448 b0 I K0 (Bp I ((E0.memA .t6) 0 _ I))<|Rv 3 b0 I K0 (fun _=>Bg 0 I)<|Rx 4 480 b0 I K0 (AN (cs:=(ab P0.fm)) I I (ac (E0.memA .t1) 0 16))<|bk h fun D4 j4 h=>AX 1 31 b0 I .plain (bd 66) I (e1 I) (fun p q=>bn_c n (E0.hL hL q) P0 j4) I fun t8 X7 A3 ⟨G7,H7,hu_,P3,Q3⟩=>?_
 subst hu_
 obtain ⟨G1,R1⟩:=E0.agr A3
 refine bk h fun E4 k4 h=>AX 5 63 b0 I .plain (bd 68) I (e1 I) (fun p q=>ak_c n (G1.hL hL q) P0.fm k4) I fun u8 Y7 B3 ⟨I7,J7,hu_,R3,U3⟩=>?_
 subst hu_
 obtain ⟨Z0,J0⟩:=G1.agr B3
 refine bk h fun F4 p4 h=>?_
 have V1:=Tt K2 (Tt j5 (Tt k5 (Tt p5 (Tt q5 (Tt s5 (Tt U1 (Tt z3 (Tt j3 (Tt F2 (Tt G2 (Tt H2 (Tt P1 (Tt Q1 (Tt R1 J0))))))))))))))
 have I6:=Ag x1 V1
 have J6:=Ag y1 V1
 refine BK (i:=6) (rk b0) (BX (m' :=127) (fst:=[]) (cap:=[vP G0]) (sk b0) I .plain (bd 78) I (e1 I) (fun p q=>cy_c n (Z0.hL hL q) E4 (Af R3 q) (Af U3 q) (⟨(⟨c0,H0⟩:Tg),(⟨d0,I0⟩:Tg)⟩:Td) (Af I6 q) (Af J6 q) (aJ q (Z0.memA .t7)) p4) I (fun v8 Z7 C3 ⟨K7,M7,hu_,V3,W3⟩=>?_))
 subst hu_
 obtain ⟨H1,b1⟩:=Z0.agr C3
 refine bk h fun t0 q4 h=>?_
 have K6:=Ag P3 (Tt J0 b1)
 have M6:=Ag Q3 (Tt J0 b1)
 refine AX 7 255 b0 I .plain (bd 80) I (e2 I I) (fun p q=>ax_c n (H1.hL hL q) D4 (Af K6 q) (Af M6 q) F4 (Af V3 q) (Af W3 q) q4) I fun x8 b8 D3 ⟨z1,A1,hu_,Y1,Z1⟩=>?_
 subst hu_
 obtain ⟨U2,k3⟩:=H1.agr D3
 refine BB 8 511 b0 I I .plain (AC (news:=[.bool t0.fj.fc,z1,.bool t0.fh.fc,A1]) U2 .hd I I I I I I (o4 I (Ay Y1) I (Ay Z1))) fun y8 X0 c1=>AK (dk b0)<|Ar I<|Au (u:=.agg #[.bool t0.fj.fc,z1,.bool t0.fh.fc,A1]) K3 func138 I (.cons (.many (cs:=[.bool t0.fj.fc,z1,.bool t0.fh.fc,A1]) I I (X0.memA .hd)) .nil) I<|bk h fun A0 s4 h=>?_
 have u1:=Tt G2 (Tt H2 (Tt P1 (Tt Q1 (Tt R1 (Tt J0 (Tt b1 (Tt k3 c1)))))))
 have P6:=Ag W1 u1
 have Q6:=Ag X1 u1
 have R6:=Ag Y1 c1
 have U6:=Ag Z1 c1
 refine AX 4 31 v0 I .plain (bd 81) I (e2 I I) (fun p q=>aa_c n (X0.hL hL q) (⟨(⟨q0,R0⟩:Tg),(⟨s0,U0⟩:Tg)⟩:Td) (Af P6 q) (Af Q6 q) t0 (Af R6 q) (Af U6 q) s4) I fun z8 c8 E3 ⟨p2,q2,hu_,b2,c2⟩=>?_
 subst hu_
 obtain ⟨V2,p3⟩:=X0.agr E3
 refine BB 5 63 v0 I I .plain (AC (news:=[.bool A0.fj.fc,p2,.bool A0.fh.fc,q2]) V2 .t3 I I I I I I (o4 I (Ay b2) I (Ay c2))) fun A8 W2 d1=>AK (dk v0)<|Ax<|Am<|Ab (Bc (i:=C0) (j:=1) I I (by omega))<|Ac I<|Aa ?_
 obtain ⟨X2,g1⟩:=AB W2 .d3
 have V6:=Ag b2 (Tt d1 g1)
 have W6:=Ag c2 (Tt d1 g1)
 have v7:=Tt u1 (Tt p3 (Tt d1 g1))
 exact J4 (C0 + 1,A0.fj.fc,A0.fj.fk,A0.fh.fc,A0.fh.fk,p2,q2) X2 (Tt F2 v7) ⟨V6,W6⟩ h
 refine RO.enterPT (m' :=14) (fst:=[]) (cap:=[vP W0]) (vs:=[.agg ((av P0)).toArray]) (sk v0) I I .plain (bd 138) func138 I I I I (e1 I) I fun _ Q5 K3 s7=>Ae<|RG.bx C2 I I fun q8 G5 R2 P1=>RG.nl [.bool false,vN,.bool false,vN] R2 fun s8 H5 E0 Q1=>Aa<|Aj<|du 8 fun b0 K0=>Rx 0 482 b0 I K0 (Az I (E0.memA .t1))<|Rx 2 448 b0 I K0 (Bp I ((E0.memA .t6) 0 _ I))<|Rv 3 b0 I K0 (fun _=>Bg 0 I)<|Rx 4 480 b0 I K0 (AN (cs:=(ab P0.fm)) I I (ac (E0.memA .t1) 0 16))<|bk h fun D4 j4 h=>AX 1 31 b0 I .plain (bd 66) I (e1 I) (fun p q=>bn_c n (E0.hL hL q) P0 j4) I fun t8 X7 A3 ⟨G7,H7,hu_,P3,Q3⟩=>?_
 subst hu_
 obtain ⟨G1,R1⟩:=E0.agr A3
 refine bk h fun E4 k4 h=>AX 5 63 b0 I .plain (bd 68) I (e1 I) (fun p q=>ak_c n (G1.hL hL q) P0.fm k4) I fun u8 Y7 B3 ⟨I7,J7,hu_,R3,U3⟩=>?_
 subst hu_
 obtain ⟨Z0,J0⟩:=G1.agr B3
 refine bk h fun F4 p4 h=>?_
 have V1:=Tt K2 (Tt j5 (Tt k5 (Tt p5 (Tt q5 (Tt s5 (Tt U1 (Tt z3 (Tt j3 (Tt F2 (Tt G2 (Tt H2 (Tt P1 (Tt Q1 (Tt R1 J0))))))))))))))
 refine BK (i:=6) (rk b0) (BX (m' :=127) (fst:=[]) (cap:=[vP G0]) (sk b0) I .plain (bd 78) I (e1 I) (fun p q=>cy_c n (Z0.hL hL q) E4 (Af R3 q) (Af U3 q) (⟨(⟨c0,H0⟩:Tg),(⟨d0,I0⟩:Tg)⟩:Td) (Af (Ag x1 V1) q) (Af (Ag y1 V1) q) (aJ q (Z0.memA .t7)) p4) I (fun v8 Z7 C3 ⟨K7,M7,hu_,V3,W3⟩=>?_))
 subst hu_
 obtain ⟨H1,b1⟩:=Z0.agr C3
 refine bk h fun t0 q4 h=>AX 7 255 b0 I .plain (bd 80) I (e2 I I) (fun p q=>ax_c n (H1.hL hL q) D4 (Af (Ag P3 (Tt J0 b1)) q) (Af (Ag Q3 (Tt J0 b1)) q) F4 (Af V3 q) (Af W3 q) q4) I fun x8 b8 D3 ⟨z1,A1,hu_,Y1,Z1⟩=>?_
 subst hu_
 obtain ⟨U2,k3⟩:=H1.agr D3
 refine BB 8 511 b0 I I .plain (AC (news:=[.bool t0.fj.fc,z1,.bool t0.fh.fc,A1]) U2 .hd I I I I I I (o4 I (Ay Y1) I (Ay Z1))) fun y8 X0 c1=>AK (dk b0)<|Ar I<|Au (u:=.agg #[.bool t0.fj.fc,z1,.bool t0.fh.fc,A1]) K3 func138 I (.cons (.many (cs:=[.bool t0.fj.fc,z1,.bool t0.fh.fc,A1]) I I (X0.memA .hd)) .nil) I<|Rx 0 48 v0 I z4 (Az I (X0.memA .t3))<|bk h fun A0 s4 h=>?_
 have u1:=Tt G2 (Tt H2 (Tt P1 (Tt Q1 (Tt R1 (Tt J0 (Tt b1 (Tt k3 c1)))))))
 refine AX 4 31 v0 I .plain (bd 81) I (e2 I I) (fun p q=>aa_c n (X0.hL hL q) (⟨(⟨q0,R0⟩:Tg),(⟨s0,U0⟩:Tg)⟩:Td) (Af (Ag W1 u1) q) (Af (Ag X1 u1) q) t0 (Af (Ag Y1 c1) q) (Af (Ag Z1 c1) q) s4) I fun z8 c8 E3 ⟨p2,q2,hu_,b2,c2⟩=>?_
 subst hu_
 obtain ⟨V2,p3⟩:=X0.agr E3
 refine BB 5 63 v0 I I .plain (AC (news:=[.bool A0.fj.fc,p2,.bool A0.fh.fc,q2]) V2 .t3 I I I I I I (o4 I (Ay b2) I (Ay c2))) fun A8 W2 d1=>AK (dk v0)<|Ax<|Am<|Ab (Bc (i:=C0) (j:=1) I I (by omega))<|Ac I<|Aa ?_
 obtain ⟨X2,g1⟩:=AB W2 .d3
 exact J4 (C0 + 1,A0.fj.fc,A0.fj.fk,A0.fh.fc,A0.fh.fk,p2,q2) X2 (Tt F2 (Tt u1 (Tt p3 (Tt d1 g1)))) ⟨(Ag b2 (Tt d1 g1)),(Ag c2 (Tt d1 g1))⟩ h
 refine AZ I ?_
 have h:=D6 _ h
 try dsimp only at h
 refine Ae<|Ab (Az I (B2.memA .hd))<|AQ [.bool q0,y0,.bool s0,z0] B2 .t1 (o4 I (Ay W1) I (Ay X1)) fun H9 M4 I2=>Aa<|Ar I<|Au (u:=.agg #[.bool q0,y0,.bool s0,z0]) A6 func70 I (.cons (.many (cs:=[.bool q0,y0,.bool s0,z0]) I I (M4.memA .t1)) .nil) I<|AQ [.bool q0,y0,.bool s0,z0] M4 .t2 (o4 I (Ay (Ag W1 I2)) I (Ay (Ag X1 I2))) fun I9 I1 Z4=>Aa<|Ar I<|Au (u:=.agg #[.bool q0,y0,.bool s0,z0]) z6 func75 I (.cons (.many (cs:=[.bool q0,y0,.bool s0,z0]) I I (I1.memA .t2)) .nil) I<|bk h fun M2 C7 h=>Bd (.tuple #[.agg ((ab M2.1)).toArray,vI M2.2]) (bd 77) I (e1 I) (fun p q=>ac_c n (I1.hL0 hL q) (⟨(⟨q0,R0⟩:Tg),(⟨s0,U0⟩:Tg)⟩:Td) (I1.kd (Ag W1 (Tt I2 Z4)) q) (I1.kd (Ag X1 (Tt I2 Z4)) q) C7) I<|Ab (Ai I I)<|Ab (Ai I I)<|AQ (ab M2.1) I1 .t5 (ai I) fun J9 P4 j9=>Ah I<|Aa<|Ar I<|Au hb0 func20 I (.cons (.many (cs:=(ab M2.1)) I I (P4.memA .t5)) (.cons (.tmp I) .nil)) I ?_
 cases h
 exact P4.gv
 refine Ae<|Ab (AS (vs:=[]) (u:=.agg zM) am (fun p=>by kernel_rfl))<|Ac I<|AQ zL A2 .hd (ai I) fun K9 Q4 k9=>Ah I<|Aa<|Ar I<|Au hb0 func20 I (.cons (.many (cs:=zL) I I (Q4.memA .hd)) (.cons (.tmp I) .nil)) I ?_
 cases h
 exact Q4.gv
def cO_p (n:Nat) (a0:Lb Ta):Oa Bool:=
  (aU_p n a0).bind fun y1=>some (!(decide (y1 = 0)))
theorem cO_c (n:Nat) {L w} (hL:hl L w) {a0:Lb Ta} {v0_0:Vc} (h0_0:Rep.R w L [v0_0] a0)  {r:Bool} (h:cO_p n a0 = some r) :
 Cl 129 #[v0_0] w (aj w fun _ u=>u = .bool r):=by
 unfold cO_p at h
 have hS0:=AL w
 refine AM func129 I I I fun _ cs0 hb0=>Ae<|Ah I<|Aa<|Ae<|Ac I<|bk h fun y1 hy1 h=>Bd (vI y1) (bd 16) I (e1 I) (fun p q=>aU_c n (hS0.hL0 hL q) (hS0.kd h0_0 q) hy1) I<|Ab (BA (i:=y1) (j:=0) I I)<|Ah I<|Aa<|Ar I<|Bb hb0 func129 I I ?_
 cases h
 exact hS0.gv
def cA_p (n:Nat) (a0:Tb):Oa Bool:=
  (bY_p n a0).bind fun b0=>some (!(decide (b0 = 0)))
theorem cA_c (n:Nat) {L w} (hL:hl L w) (a0:Tb)  {r:Bool} (h:cA_p n a0 = some r) :
 Cl 130 #[.agg ((ab a0)).toArray] w (aj w fun _ u=>u = .bool r):=by
 unfold cA_p at h
 refine AM func130 I I I fun _ cs0 hb0=>Ae<|RG.bx (AL w) I I fun k0 g0 b0 j0=>Ah I<|Aa<|Ae<|Ab (Az I (b0.memA .hd))<|bk h fun c0 d0 h=>Bd (vI c0) (bd 65) I (e1 I) (fun p q=>bY_c n (b0.hL0 hL q) a0 d0) I<|Ab (BA (i:=c0) (j:=0) I I)<|Ah I<|Aa<|Ar I<|Bb hb0 func130 I I ?_
 cases h
 exact b0.gv
def ar_l1 (n:Nat) (a1:Lb Tb) (c0:Nat -> Oa (Int ⊕ Unit)):Nat -> Oa (Int ⊕ Unit)
  | b0=>(if b0 < a1.length then (a1[b0]?).bind fun d0=>(cA_p n d0).bind fun g0=>(if g0 = true then ((if 0 <= b0 then some (20:Int) else some (0:Int))).map .inl else c0 (b0 + 1)) else some (.inr ()))
def ar_l2 (n:Nat) (a1:Lb Tb) (c0:Nat -> Oa (Int ⊕ Unit)):Nat -> Oa (Int ⊕ Unit)
  | b0=>(if b0 < a1.length then (a1[b0]?).bind fun d0=>(cA_p n d0).bind fun g0=>(if g0 = true then ((if 0 <= b0 then some (20:Int) else some (0:Int))).map .inl else c0 (b0 + 1)) else some (.inr ()))
def ar_l3 (n:Nat) (a0:Lb (Lb Ta)) (a1:Lb Tb) (c0:Nat -> Oa (Int ⊕ Unit)):Nat -> Oa (Int ⊕ Unit)
  | b0=>(if b0 < a0.length then (a0[b0]?).bind fun d0=>(cO_p n d0).bind fun g0=>(if g0 = true then ((if 0 <= b0 then some (50:Int) else thn (ao (ar_l1 n a1) n 0) (fun _=>(if 0 <= (-1) then some (20:Int) else some (0:Int))))).map .inl else c0 (b0 + 1)) else some (.inr ()))
def ar_p (n:Nat) (a0:Lb (Lb Ta)) (a1:Lb Tb):Oa Int:=
  thn (ao (ar_l3 n a0 a1) n 0) (fun _=>(if 0 <= (-1) then some (50:Int) else thn (ao (ar_l2 n a1) n 0) (fun _=>some (0:Int))))
theorem ar_c (n:Nat) {L w} (hL:hl L w) {a0:Lb (Lb Ta)} {v0_0:Vc} (h0_0:Rep.R w L [v0_0] a0) {a1:Lb Tb} {v1_0:Vc} (h1_0:Rep.R w L [v1_0] a1)  {r:Int} (h:ar_p n a0 a1 = some r) :
 Cl 63 #[v0_0,v1_0] w (aj w fun _ u=>u = vI r):=by
 unfold ar_p at h
 refine AM func63 I I I fun _ cs0 hb0=>Ae<|Ah I<|Aa<|Aj<|Ae<|Ac I<|BE (fst:=[]) (cap:=[]) (vs:=[v0_0,.func (.func 129) #[] #[]]) .plain (bd 128) func128 I I I I (e2 I I) I fun cs2 hb1 hp3=>Ae<|Ah I<|Aa<|Ae<|Ac I<|Ac I<|BE (fst:=[]) (cap:=[]) (vs:=[v0_0,.func (.func 129) #[] #[]]) .plain (bd 162) func162 I I I I (e2 I I) I fun cs5 hb4 hp6=>Ae<|Ah I<|Aa<|Aj<|Ae<|Ac I ?_
 have hl7:=AY h0_0
 refine Ab (Ba (xs:=a0) underlying57 I h0_0)<|Ac I<|Aa<|Av<|tn h fun v2 p1 x0=>MX.lo (α:=Nat) (fun c0=>[(0,v0_0),(1,.func (.func 129) #[] #[]),(7,vn a0.length),(8,vn c0)]) (fun c0=>[]) (fun c0=>c0) 0 p1 (AL w) ?_
 rintro Q1 c0 A2 P0 g0 U0 h
 unfold ar_l3 at h
 try dsimp only at h
 refine Ae<|Ab (AU (i:=c0) (j:=a0.length) I I)<|Aa<|Aj<|AV I h (fun E0 h=>?_) (fun E0 h=>?_)
 refine Aq<|Aj<|Av<|Ae<|Ac I<|Ah I<|Aa<|Ae<|Ac I<|Ac I<|Ac I<|bk h fun C2 z1 h=>?_
 obtain ⟨K1,V1,X0,b1,b2,u1,g1⟩:=Bh (AH h0_0 g0) z1
 obtain ⟨y2,rfl,v1⟩:=cY u1
 refine Ab (Be 1 c0 I X0 I I b1)<|Bf I (g1 0 _ I)<|bk h fun H1 C1 h=>Bd (.bool H1) (bd 129) I (e1 I) (fun p q=>cO_c n (g0.hL0 hL q) (g0.kd v1 q) C1) I<|Aa<|MX.ifb I h (fun F0 h=>?_) (fun F0 h=>?_)
 refine Ae<|Ac I<|Ah I<|Aa ?_
 have h:=ig h x0
 refine Ar I<|Au (u:=vn c0) hb4 func162 I (.cons (.tmp I) .nil) I<|Ab (FV.geqN (i:=c0) (j:=0) I I)<|Ah I<|Aa<|Ar I<|Au (u:=.bool (decide (0 <= c0))) hb1 func128 I (.cons (.tmp I) .nil) I<|Aa<|AV I h (fun G0 h=>?_) (fun G0 h=>?_)
 refine Ae<|Ah I<|Aa<|Ar I<|Bb hb0 func63 I I ?_
 cases h
 exact g0.gv
 refine Aq<|Aj<|Ae<|Ac I<|BE (fst:=[]) (cap:=[]) (vs:=[v1_0,.func (.func 130) #[] #[]]) .plain (bd 93) func93 I I I I (e2 I I) I fun c2 t0 s2=>Ae<|Ah I<|Aa<|Ae<|Ac I<|Ac I<|BE (fst:=[]) (cap:=[]) (vs:=[v1_0,.func (.func 130) #[] #[]]) .plain (bd 146) func146 I I I I (e2 I I) I fun d2 u0 t2=>Ae<|Ah I<|Aa<|Aj<|Ae<|Ac I ?_
 have A0:=AH h1_0 g0
 have k2:=AY A0
 refine Ab (Ba (xs:=a1) underlying51 I A0)<|Ac I<|Aa<|Av<|tn h fun x2 q1 y0=>MX.lo (α:=Nat) (fun d0=>[(0,v1_0),(1,.func (.func 130) #[] #[]),(7,vn a1.length),(8,vn d0)]) (fun d0=>[]) (fun d0=>d0) 0 q1 g0 ?_
 rintro R1 d0 B2 Q0 j0 V0 h
 unfold ar_l1 at h
 try dsimp only at h
 refine Ae<|Ab (AU (i:=d0) (j:=a1.length) I I)<|Aa<|Aj<|AV I h (fun H0 h=>?_) (fun H0 h=>?_)
 refine Aq<|Aj<|Av<|Ae<|Ac I<|Ah I<|Aa<|Ae<|Ac I<|Ac I<|Ac I<|bk h fun F1 A1 h=>?_
 obtain ⟨M1,W1,Y0,c1,g2,x1,j1⟩:=Bh (AH h1_0 j0) A1
 obtain rfl:=dh x1
 refine Ab (Be 16 d0 I Y0 I I c1)<|Ab (Az I j1)<|bk h fun I1 D1 h=>Bd (.bool I1) (bd 130) I (e1 I) (fun p q=>cA_c n (j0.hL0 hL q) F1 D1) I<|Aa<|MX.ifb I h (fun I0 h=>?_) (fun I0 h=>?_)
 refine Ae<|Ac I<|Ah I<|Aa ?_
 have h:=ig h y0
 refine Ar I<|Au (u:=vn d0) u0 func146 I (.cons (.tmp I) .nil) I<|Ab (FV.geqN (i:=d0) (j:=0) I I)<|Ah I<|Aa<|Ar I<|Au (u:=.bool (decide (0 <= d0))) t0 func93 I (.cons (.tmp I) .nil) I<|Aa<|AV I h (fun J0 h=>?_) (fun J0 h=>?_)
 refine Ae<|Ah I<|Aa<|Ar I<|Bb hb0 func63 I I ?_
 cases h
 exact j0.gv
 refine Aq<|Ae<|Ah I<|Aa<|Ar I<|Bb hb0 func63 I I ?_
 cases h
 exact j0.gv
 refine Aq<|Ax<|Am<|Ab (Bc (i:=d0) (j:=1) I I (by omega))<|Ac I<|Aa<|Q0 (d0 + 1) j0 V0 h
 refine AZ I ?_
 have h:=bc h y0
 try dsimp only at h
 refine Ae<|Ah I<|Aa<|Ar I<|Au (u:=vI (-1)) u0 func146 I (.cons (.tmp I) .nil) I<|Ab (FV.geq (i:=(-1)) (j:=0) I I)<|Ah I<|Aa<|Ar I<|Au (u:=.bool (decide (0 <= (-1)))) t0 func93 I (.cons (.tmp I) .nil) I<|Aa<|AV I h (fun K0 h=>?_) (fun K0 h=>?_)
 refine Ae<|Ah I<|Aa<|Ar I<|Bb hb0 func63 I I ?_
 cases h
 exact j0.gv
 refine Aq<|Ae<|Ah I<|Aa<|Ar I<|Bb hb0 func63 I I ?_
 cases h
 exact j0.gv
 refine Aq<|Ax<|Am<|Ab (Bc (i:=c0) (j:=1) I I (by omega))<|Ac I<|Aa<|P0 (c0 + 1) g0 U0 h
 refine AZ I ?_
 have h:=bc h x0
 try dsimp only at h
 refine Ae<|Ah I<|Aa<|Ar I<|Au (u:=vI (-1)) hb4 func162 I (.cons (.tmp I) .nil) I<|Ab (FV.geq (i:=(-1)) (j:=0) I I)<|Ah I<|Aa<|Ar I<|Au (u:=.bool (decide (0 <= (-1)))) hb1 func128 I (.cons (.tmp I) .nil) I<|Aa<|AV I h (fun p0 h=>?_) (fun p0 h=>?_)
 refine Ae<|Ah I<|Aa<|Ar I<|Bb hb0 func63 I I ?_
 cases h
 exact g0.gv
 refine Aq<|Aj<|Ae<|Ac I<|BE (fst:=[]) (cap:=[]) (vs:=[v1_0,.func (.func 130) #[] #[]]) .plain (bd 93) func93 I I I I (e2 I I) I fun X1 q0 p2=>Ae<|Ah I<|Aa<|Ae<|Ac I<|Ac I<|BE (fst:=[]) (cap:=[]) (vs:=[v1_0,.func (.func 130) #[] #[]]) .plain (bd 146) func146 I I I I (e2 I I) I fun Y1 s0 q2=>Ae<|Ah I<|Aa<|Aj<|Ae<|Ac I ?_
 have z0:=AH h1_0 g0
 have j2:=AY z0
 refine Ab (Ba (xs:=a1) underlying51 I z0)<|Ac I<|Aa<|Av<|tn h fun u2 k1 v0=>MX.lo (α:=Nat) (fun b0=>[(0,v1_0),(1,.func (.func 130) #[] #[]),(7,vn a1.length),(8,vn b0)]) (fun b0=>[]) (fun b0=>b0) 0 k1 g0 ?_
 rintro P1 b0 z2 M0 k0 R0 h
 unfold ar_l2 at h
 try dsimp only at h
 refine Ae<|Ab (AU (i:=b0) (j:=a1.length) I I)<|Aa<|Aj<|AV I h (fun B0 h=>?_) (fun B0 h=>?_)
 refine Aq<|Aj<|Av<|Ae<|Ac I<|Ah I<|Aa<|Ae<|Ac I<|Ac I<|Ac I<|bk h fun E1 y1 h=>?_
 obtain ⟨J1,U1,W0,Z0,Z1,s1,d1⟩:=Bh (AH h1_0 k0) y1
 obtain rfl:=dh s1
 refine Ab (Be 16 b0 I W0 I I Z0)<|Ab (Az I d1)<|bk h fun G1 B1 h=>Bd (.bool G1) (bd 130) I (e1 I) (fun p q=>cA_c n (k0.hL0 hL q) E1 B1) I<|Aa<|MX.ifb I h (fun C0 h=>?_) (fun C0 h=>?_)
 refine Ae<|Ac I<|Ah I<|Aa ?_
 have h:=ig h v0
 refine Ar I<|Au (u:=vn b0) s0 func146 I (.cons (.tmp I) .nil) I<|Ab (FV.geqN (i:=b0) (j:=0) I I)<|Ah I<|Aa<|Ar I<|Au (u:=.bool (decide (0 <= b0))) q0 func93 I (.cons (.tmp I) .nil) I<|Aa<|AV I h (fun D0 h=>?_) (fun D0 h=>?_)
 refine Ae<|Ah I<|Aa<|Ar I<|Bb hb0 func63 I I ?_
 cases h
 exact k0.gv
 refine Aq<|Ae<|Ah I<|Aa<|Ar I<|Bb hb0 func63 I I ?_
 cases h
 exact k0.gv
 refine Aq<|Ax<|Am<|Ab (Bc (i:=b0) (j:=1) I I (by omega))<|Ac I<|Aa<|M0 (b0 + 1) k0 R0 h
 refine AZ I ?_
 have h:=bc h v0
 try dsimp only at h
 refine Ae<|Ah I<|Aa<|Ar I<|Au (u:=vI (-1)) s0 func146 I (.cons (.tmp I) .nil) I<|Ab (FV.geq (i:=(-1)) (j:=0) I I)<|Ah I<|Aa<|Ar I<|Au (u:=.bool (decide (0 <= (-1)))) q0 func93 I (.cons (.tmp I) .nil) I<|Aa<|MX.cond_kf I (decide_eq_false p0)<|Aq<|Ae<|Ah I<|Aa<|Ar I<|Bb hb0 func63 I I ?_
 cases h
 exact k0.gv
end Go.Proofs.YtkommhmbkbhmlaaGreat
