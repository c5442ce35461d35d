import Derived.Test.YtkommhmbkbhmlaaGreatProg
import Derived.Test.YtkommhmbkbhmlaaGreatROe
namespace Go.Proofs.YtkommhmbkbhmlaaGreat
open Go Go.RowKit Tryz
set_option maxRecDepth 4000
set_option maxHeartbeats 4000000
abbrev Cl := Calls Tryz.prog
theorem bd (k:Nat) (h:bD Tryz.prog k = true:=by kernel_rfl):bD Tryz.prog k = true:=h

def ap (x:U8):List Vc:=[vU x.1,vU x.2.1,vU x.2.2.1,vU x.2.2.2.1,vU x.2.2.2.2.1,vU x.2.2.2.2.2.1,vU x.2.2.2.2.2.2.1,vU x.2.2.2.2.2.2.2]
def bD_l1 (_n:Nat) (t0:Nat × U8 -> Oa (U8)):Nat × U8 -> Oa (U8)
  | (b0,c0,d0,g0,j0,k0,p0,q0,s0)=>(if b0 < 8 then (([c0,d0,g0,j0,k0,p0,q0,s0]:List Ua)[b0]?).bind fun _z71=>t0 (b0 + 1,bA b0 0 (18446744073709551615:Ua) c0,bA b0 1 (18446744073709551615:Ua) d0,bA b0 2 (18446744073709551615:Ua) g0,bA b0 3 (18446744073709551615:Ua) j0,bA b0 4 (18446744073709551615:Ua) k0,bA b0 5 (18446744073709551615:Ua) p0,bA b0 6 (18446744073709551615:Ua) q0,bA b0 7 (18446744073709551615:Ua) s0) else some (c0,d0,g0,j0,k0,p0,q0,s0))
def bD_p (n:Nat) (a0:Int):Oa (U8):=
  (if a0 < 0 then Option.bind (az (bD_l1 n) n (1,ai a0,0,0,0,0,0,0,0)) (fun (b0,c0,d0,g0,j0,k0,p0,q0)=>some (b0,c0,d0,g0,j0,k0,p0,q0)) else some (ai a0,0,0,0,0,0,0,0))
theorem bD_c (n:Nat) {L w} (_hL:hl L w) {a0:Int}  {r:U8} (h:bD_p n a0 = some r) :
 Cl 32 #[vI a0] w (ar w fun _ u=>u = .agg ((ap r)).toArray):=by
 unfold bD_p at h
 refine AT func32 I I I fun _ cs0 hb0=>Af<|RG.nl zP (AS w) fun Y0 y0 E0 P0=>Aa<|Af<|Ae I<|Ab (FV.convU (i:=a0) underlying3 underlying30 I)<|Ab (AI (vs:=[vW ((ai a0).toNat:Int)]) (u:=.agg #[vW ((ai a0).toNat:Int),vW 0,vW 0,vW 0,vW 0,vW 0,vW 0,vW 0]) (e1 I) (fun w9=>by kernel_rfl))<|RG.nl zP E0 fun Z0 u0 F0 Q0=>AQ [vW ((ai a0).toNat:Int),vW 0,vW 0,vW 0,vW 0,vW 0,vW 0,vW 0] F0 .hd (ak I) fun b1 v0 R0=>Aa<|Ak<|Af<|Ae I<|Ab (FV.lss (i:=a0) (j:=0) I I)<|Aa<|Bb I h (fun B0 h=>?_) (fun B0 h=>?_)
 refine Af<|Ai I<|Aa<|Aw ?_
 obtain ⟨X0,K0,J0⟩:=aw h
 refine MX.lo (α:=Nat × U8) (fun ⟨b0,c0,d0,g0,j0,k0,p0,q0,s0⟩=>[(2,vP y0),(3,vP u0),(4,vn b0)]) (fun ⟨b0,c0,d0,g0,j0,k0,p0,q0,s0⟩=>[.cells u0 [vU c0,vU d0,vU g0,vU j0,vU k0,vU p0,vU q0,vU s0] 32,.cells y0 zP 32]) (fun ⟨b0,c0,d0,g0,j0,k0,p0,q0,s0⟩=>(b0,c0,d0,g0,j0,k0,p0,q0,s0)) (1,ai a0,0,0,0,0,0,0,0) K0 v0 ?_
 rintro M0 ⟨b0,c0,d0,g0,j0,k0,p0,q0,s0⟩ j1 D0 t0 H0 h
 unfold bD_l1 at h
 try dsimp only at h
 refine Ak<|Af<|Ae I<|Ab (AY (i:=b0) (j:=8) I I)<|Aa<|Bb I h (fun C0 h=>?_) (fun C0 h=>?_)
 refine Ar<|Ak<|Aw<|Ap<|Ae I<|bk h fun k1 x0 h=>?_
 have W0:=cJ (p:=⟨u0,0,none⟩) (cs:=([c0,d0,g0,j0,k0,p0,q0,s0]:List Ua).map (fun z9:Ua=>(vU z9:Vc)) ++ []) (i:=b0) (t0.memA .hd) (dT (fun z9:Ua=>(vU z9:Vc)) x0)
 refine Ab (Bi (m:=1) (k:=b0) (len:=8) I I I I (eB x0 I))<|RG.now .plain (Acts.storeArr (fun z9:Ua=>(vU z9:Vc)) (xs:=([c0,d0,g0,j0,k0,p0,q0,s0]:List Ua)) (pre:=[]) (post:=[]) (i:=b0) (m:=8) (x:=(18446744073709551615:Ua)) (old:=[vU c0,vU d0,vU g0,vU j0,vU k0,vU p0,vU q0,vU s0]) (new' :=[vW ((bA b0 0 (18446744073709551615:Ua) c0).toNat:Int),vW ((bA b0 1 (18446744073709551615:Ua) d0).toNat:Int),vW ((bA b0 2 (18446744073709551615:Ua) g0).toNat:Int),vW ((bA b0 3 (18446744073709551615:Ua) j0).toNat:Int),vW ((bA b0 4 (18446744073709551615:Ua) k0).toNat:Int),vW ((bA b0 5 (18446744073709551615:Ua) p0).toNat:Int),vW ((bA b0 6 (18446744073709551615:Ua) q0).toNat:Int),vW ((bA b0 7 (18446744073709551615:Ua) s0).toNat:Int)]) I I (eB x0 I) t0 .hd I (addr_at _ _ _) I I (fun _=>⟨I,I⟩) I I) fun c1 G0 I0=>Aa<|Ay<|Ap<|Ae I<|Ab (Bj (i:=b0) (j:=1) I I (by omega))<|Ai I<|Aa<|D0 (b0 + 1,bA b0 0 (18446744073709551615:Ua) c0,bA b0 1 (18446744073709551615:Ua) d0,bA b0 2 (18446744073709551615:Ua) g0,bA b0 3 (18446744073709551615:Ua) j0,bA b0 4 (18446744073709551615:Ua) k0,bA b0 5 (18446744073709551615:Ua) p0,bA b0 6 (18446744073709551615:Ua) q0,bA b0 7 (18446744073709551615:Ua) s0) G0 (Tt H0 I0) h
 refine Bd I ?_
 have h:=J0 _ h
 try dsimp only at h
 refine Af<|Ab (AF I (t0.memA .hd))<|AQ [vU c0,vU d0,vU g0,vU j0,vU k0,vU p0,vU q0,vU s0] t0 .t1 (ak I) fun d1 z0 U0=>Aa<|Au I<|Aq hb0 func32 I (.cons (.many (cs:=[vU c0,vU d0,vU g0,vU j0,vU k0,vU p0,vU q0,vU s0]) I I (z0.memA .t1)) .nil) I ?_
 cases h
 exact z0.gv
 refine Ar<|Af<|Ab (AF I (v0.memA .hd))<|AQ [vW ((ai a0).toNat:Int),vW 0,vW 0,vW 0,vW 0,vW 0,vW 0,vW 0] v0 .t1 (ak I) fun g1 A0 V0=>Aa<|Au I<|Aq hb0 func32 I (.cons (.many (cs:=[vW ((ai a0).toNat:Int),vW 0,vW 0,vW 0,vW 0,vW 0,vW 0,vW 0]) I I (A0.memA .t1)) .nil) I ?_
 cases h
 exact A0.gv
def aT_p (_n:Nat) (a0:U8) (a1:U8):Oa ((U8) × Ua):=
  (sub64 a0.1 a1.1 (0:Ua)).bind fun b0=>(sub64 a0.2.1 a1.2.1 b0.2).bind fun c0=>(sub64 a0.2.2.1 a1.2.2.1 c0.2).bind fun d0=>(sub64 a0.2.2.2.1 a1.2.2.2.1 d0.2).bind fun g0=>(sub64 a0.2.2.2.2.1 a1.2.2.2.2.1 g0.2).bind fun j0=>(sub64 a0.2.2.2.2.2.1 a1.2.2.2.2.2.1 j0.2).bind fun k0=>(sub64 a0.2.2.2.2.2.2.1 a1.2.2.2.2.2.2.1 k0.2).bind fun p0=>(sub64 a0.2.2.2.2.2.2.2 a1.2.2.2.2.2.2.2 p0.2).bind fun q0=>some ((b0.1,c0.1,d0.1,g0.1,j0.1,k0.1,p0.1,q0.1),q0.2)
theorem aT_c (n:Nat) {L w} (_hL:hl L w) (a0:U8) (a1:U8)  {r:(U8) × Ua} (h:aT_p n a0 a1 = some r) :
 Cl 189 #[.agg ((ap a0)).toArray,.agg ((ap a1)).toArray] w (ar w fun _ u=>u = .tuple #[.agg ((ap r.1)).toArray,vU r.2]):=by
 unfold aT_p at h
 refine AT func189 I I I fun _ cs0 hb0=>Af<|RG.bx (AS w) I I fun J1 s1 Y0 x1=>RG.bx Y0 I I fun K1 u1 Z0 y1=>RG.nl zP Z0 fun M1 v1 J0 z1=>Ai I<|Aa<|Af<|Ai I<|Aa<|Ak<|Af<|Ae I<|Aa<|Aw<|MX.loop1<|Af<|Ab (AY (i:=0) (j:=8) I I)<|Aa<|Ak<|AW I<|Ar<|Ak<|Aw<|Af<|Ae I<|Ai I<|Aa<|du 13 fun c0 v0=>Rv 0 c0 I v0 (fun _=>Aj I)<|Rv 1 c0 I v0 (fun _=>Aj I)<|Rv 2 c0 I v0 (fun _=>Bi (m:=1) (k:=0) (len:=8) I I I I (by omega))<|Rx 3 32512 c0 I v0 (Bx I ((J0.memA .t2) 0 _ I))<|Rv 4 c0 I v0 (fun _=>Aj I)<|Rv 5 c0 I v0 (fun _=>Bi (m:=1) (k:=0) (len:=8) I I I I (by omega))<|Rx 6 32512 c0 I v0 (Bx I ((J0.memA .t1) 0 _ I))<|Rv 7 c0 I v0 (fun _=>Aj I)<|bk h fun b0 b1 h=>Rv 8 c0 I v0 (fun _=>FV.sub64 (a:=a0.1) (b:=a1.1) (c:=(0:Ua)) func193 I I I I I I I b1)<|Rv 9 c0 I v0 (fun _=>Aj I)<|Rv 10 c0 I v0 (fun _=>Ac I I) ?_
 refine Rv 11 c0 I v0 (fun _=>Ac I I)<|Rv 12 c0 I v0 (fun _=>Bi (m:=1) (k:=0) (len:=8) I I I I (by omega))<|BF 13 16383 c0 I I .plain (BL (j:=0) (old:=(ap a0)) (news:=[vU b0.1]) (new' :=[vU b0.1,vU a0.2.1,vU a0.2.2.1,vU a0.2.2.2.1,vU a0.2.2.2.2.1,vU a0.2.2.2.2.2.1,vU a0.2.2.2.2.2.2.1,vU a0.2.2.2.2.2.2.2]) J0 .t2 I I I I I I (o1 I) I) fun P1 K0 A1=>BK (i:=14) (rk c0) (RO.val (m' :=32767) (sk c0) I .plain I (Bk I) ?_)
 refine AN (dk c0)<|Ay<|Ap<|Ab (FV.add (i:=0) (j:=1) (r:=1) I I (by decide))<|Ae I<|Aa<|Br<|Af<|Ab (AY (i:=1) (j:=8) I I)<|Aa<|Ak<|AW I<|Ar<|Ak<|Aw<|Af<|Ae I<|Ai I<|Aa<|du 13 fun d0 x0=>Rv 0 d0 I x0 (fun _=>Aj I)<|Rv 1 d0 I x0 (fun _=>Aj I)<|Rv 2 d0 I x0 (fun _=>Bi (m:=1) (k:=1) (len:=8) I I I I (by omega))<|Rx 3 32512 d0 I x0 (Bx I ((K0.memA .t2) 1 _ I))<|Rv 4 d0 I x0 (fun _=>Aj I)<|Rv 5 d0 I x0 (fun _=>Bi (m:=1) (k:=1) (len:=8) I I I I (by omega))<|Rx 6 32512 d0 I x0 (Bx I ((K0.memA .t1) 1 _ I))<|Rv 7 d0 I x0 (fun _=>Aj I)<|bk h fun t0 c1 h=>Rv 8 d0 I x0 (fun _=>FV.sub64 (a:=a0.2.1) (b:=a1.2.1) (c:=b0.2) func193 I I I I I I I c1)<|Rv 9 d0 I x0 (fun _=>Aj I)<|Rv 10 d0 I x0 (fun _=>Ac I I)<|Rv 11 d0 I x0 (fun _=>Ac I I)<|Rv 12 d0 I x0 (fun _=>Bi (m:=1) (k:=1) (len:=8) I I I I (by omega))<|BF 13 16383 d0 I I .plain (BL (j:=1) (old:=[vU b0.1,vU a0.2.1,vU a0.2.2.1,vU a0.2.2.2.1,vU a0.2.2.2.2.1,vU a0.2.2.2.2.2.1,vU a0.2.2.2.2.2.2.1,vU a0.2.2.2.2.2.2.2]) (news:=[vU t0.1]) (new' :=[vU b0.1,vU t0.1,vU a0.2.2.1,vU a0.2.2.2.1,vU a0.2.2.2.2.1,vU a0.2.2.2.2.2.1,vU a0.2.2.2.2.2.2.1,vU a0.2.2.2.2.2.2.2]) K0 .t2 I I I I I I (o1 I) I) fun Q1 M0 B1=>BK (i:=14) (rk d0) (RO.val (m' :=32767) (sk d0) I .plain I (Bk I) ?_)
 refine AN (dk d0)<|Ay<|Ap<|Ab (FV.add (i:=1) (j:=1) (r:=2) I I (by decide))<|Ae I<|Aa<|Br<|Af<|Ab (AY (i:=2) (j:=8) I I)<|Aa<|Ak<|AW I<|Ar<|Ak<|Aw<|Af<|Ae I<|Ai I<|Aa<|du 13 fun g0 y0=>Rv 0 g0 I y0 (fun _=>Aj I)<|Rv 1 g0 I y0 (fun _=>Aj I)<|Rv 2 g0 I y0 (fun _=>Bi (m:=1) (k:=2) (len:=8) I I I I (by omega))<|Rx 3 32512 g0 I y0 (Bx I ((M0.memA .t2) 2 _ I))<|Rv 4 g0 I y0 (fun _=>Aj I)<|Rv 5 g0 I y0 (fun _=>Bi (m:=1) (k:=2) (len:=8) I I I I (by omega))<|Rx 6 32512 g0 I y0 (Bx I ((M0.memA .t1) 2 _ I))<|Rv 7 g0 I y0 (fun _=>Aj I)<|bk h fun u0 d1 h=>Rv 8 g0 I y0 (fun _=>FV.sub64 (a:=a0.2.2.1) (b:=a1.2.2.1) (c:=t0.2) func193 I I I I I I I d1)<|Rv 9 g0 I y0 (fun _=>Aj I)<|Rv 10 g0 I y0 (fun _=>Ac I I)<|Rv 11 g0 I y0 (fun _=>Ac I I)<|Rv 12 g0 I y0 (fun _=>Bi (m:=1) (k:=2) (len:=8) I I I I (by omega))<|BF 13 16383 g0 I I .plain (BL (j:=2) (old:=[vU b0.1,vU t0.1,vU a0.2.2.1,vU a0.2.2.2.1,vU a0.2.2.2.2.1,vU a0.2.2.2.2.2.1,vU a0.2.2.2.2.2.2.1,vU a0.2.2.2.2.2.2.2]) (news:=[vU u0.1]) (new' :=[vU b0.1,vU t0.1,vU u0.1,vU a0.2.2.2.1,vU a0.2.2.2.2.1,vU a0.2.2.2.2.2.1,vU a0.2.2.2.2.2.2.1,vU a0.2.2.2.2.2.2.2]) M0 .t2 I I I I I I (o1 I) I) fun R1 P0 C1=>BK (i:=14) (rk g0) (RO.val (m' :=32767) (sk g0) I .plain I (Bk I) ?_)
 refine AN (dk g0)<|Ay<|Ap<|Ab (FV.add (i:=2) (j:=1) (r:=3) I I (by decide))<|Ae I<|Aa<|Br<|Af<|Ab (AY (i:=3) (j:=8) I I)<|Aa<|Ak<|AW I<|Ar<|Ak<|Aw<|Af<|Ae I<|Ai I<|Aa<|du 13 fun j0 z0=>Rv 0 j0 I z0 (fun _=>Aj I)<|Rv 1 j0 I z0 (fun _=>Aj I)<|Rv 2 j0 I z0 (fun _=>Bi (m:=1) (k:=3) (len:=8) I I I I (by omega))<|Rx 3 32512 j0 I z0 (Bx I ((P0.memA .t2) 3 _ I))<|Rv 4 j0 I z0 (fun _=>Aj I)<|Rv 5 j0 I z0 (fun _=>Bi (m:=1) (k:=3) (len:=8) I I I I (by omega))<|Rx 6 32512 j0 I z0 (Bx I ((P0.memA .t1) 3 _ I))<|Rv 7 j0 I z0 (fun _=>Aj I)<|bk h fun E0 g1 h=>Rv 8 j0 I z0 (fun _=>FV.sub64 (a:=a0.2.2.2.1) (b:=a1.2.2.2.1) (c:=u0.2) func193 I I I I I I I g1)<|Rv 9 j0 I z0 (fun _=>Aj I)<|Rv 10 j0 I z0 (fun _=>Ac I I)<|Rv 11 j0 I z0 (fun _=>Ac I I)<|Rv 12 j0 I z0 (fun _=>Bi (m:=1) (k:=3) (len:=8) I I I I (by omega))<|BF 13 16383 j0 I I .plain (BL (j:=3) (old:=[vU b0.1,vU t0.1,vU u0.1,vU a0.2.2.2.1,vU a0.2.2.2.2.1,vU a0.2.2.2.2.2.1,vU a0.2.2.2.2.2.2.1,vU a0.2.2.2.2.2.2.2]) (news:=[vU E0.1]) (new' :=[vU b0.1,vU t0.1,vU u0.1,vU E0.1,vU a0.2.2.2.2.1,vU a0.2.2.2.2.2.1,vU a0.2.2.2.2.2.2.1,vU a0.2.2.2.2.2.2.2]) P0 .t2 I I I I I I (o1 I) I) fun U1 Q0 D1=>BK (i:=14) (rk j0) (RO.val (m' :=32767) (sk j0) I .plain I (Bk I) ?_)
 refine AN (dk j0)<|Ay<|Ap<|Ab (FV.add (i:=3) (j:=1) (r:=4) I I (by decide))<|Ae I<|Aa<|Br<|Af<|Ab (AY (i:=4) (j:=8) I I)<|Aa<|Ak<|AW I<|Ar<|Ak<|Aw<|Af<|Ae I<|Ai I<|Aa<|du 13 fun k0 A0=>Rv 0 k0 I A0 (fun _=>Aj I)<|Rv 1 k0 I A0 (fun _=>Aj I)<|Rv 2 k0 I A0 (fun _=>Bi (m:=1) (k:=4) (len:=8) I I I I (by omega))<|Rx 3 32512 k0 I A0 (Bx I ((Q0.memA .t2) 4 _ I))<|Rv 4 k0 I A0 (fun _=>Aj I)<|Rv 5 k0 I A0 (fun _=>Bi (m:=1) (k:=4) (len:=8) I I I I (by omega))<|Rx 6 32512 k0 I A0 (Bx I ((Q0.memA .t1) 4 _ I))<|Rv 7 k0 I A0 (fun _=>Aj I)<|bk h fun F0 j1 h=>Rv 8 k0 I A0 (fun _=>FV.sub64 (a:=a0.2.2.2.2.1) (b:=a1.2.2.2.2.1) (c:=E0.2) func193 I I I I I I I j1)<|Rv 9 k0 I A0 (fun _=>Aj I)<|Rv 10 k0 I A0 (fun _=>Ac I I)<|Rv 11 k0 I A0 (fun _=>Ac I I)<|Rv 12 k0 I A0 (fun _=>Bi (m:=1) (k:=4) (len:=8) I I I I (by omega))<|BF 13 16383 k0 I I .plain (BL (j:=4) (old:=[vU b0.1,vU t0.1,vU u0.1,vU E0.1,vU a0.2.2.2.2.1,vU a0.2.2.2.2.2.1,vU a0.2.2.2.2.2.2.1,vU a0.2.2.2.2.2.2.2]) (news:=[vU F0.1]) (new' :=[vU b0.1,vU t0.1,vU u0.1,vU E0.1,vU F0.1,vU a0.2.2.2.2.2.1,vU a0.2.2.2.2.2.2.1,vU a0.2.2.2.2.2.2.2]) Q0 .t2 I I I I I I (o1 I) I) fun V1 R0 E1=>BK (i:=14) (rk k0) (RO.val (m' :=32767) (sk k0) I .plain I (Bk I) ?_)
 refine AN (dk k0)<|Ay<|Ap<|Ab (FV.add (i:=4) (j:=1) (r:=5) I I (by decide))<|Ae I<|Aa<|Br<|Af<|Ab (AY (i:=5) (j:=8) I I)<|Aa<|Ak<|AW I<|Ar<|Ak<|Aw<|Af<|Ae I<|Ai I<|Aa<|du 13 fun p0 B0=>Rv 0 p0 I B0 (fun _=>Aj I)<|Rv 1 p0 I B0 (fun _=>Aj I)<|Rv 2 p0 I B0 (fun _=>Bi (m:=1) (k:=5) (len:=8) I I I I (by omega))<|Rx 3 32512 p0 I B0 (Bx I ((R0.memA .t2) 5 _ I))<|Rv 4 p0 I B0 (fun _=>Aj I)<|Rv 5 p0 I B0 (fun _=>Bi (m:=1) (k:=5) (len:=8) I I I I (by omega))<|Rx 6 32512 p0 I B0 (Bx I ((R0.memA .t1) 5 _ I))<|Rv 7 p0 I B0 (fun _=>Aj I)<|bk h fun G0 k1 h=>Rv 8 p0 I B0 (fun _=>FV.sub64 (a:=a0.2.2.2.2.2.1) (b:=a1.2.2.2.2.2.1) (c:=F0.2) func193 I I I I I I I k1)<|Rv 9 p0 I B0 (fun _=>Aj I)<|Rv 10 p0 I B0 (fun _=>Ac I I)<|Rv 11 p0 I B0 (fun _=>Ac I I)<|Rv 12 p0 I B0 (fun _=>Bi (m:=1) (k:=5) (len:=8) I I I I (by omega))<|BF 13 16383 p0 I I .plain (BL (j:=5) (old:=[vU b0.1,vU t0.1,vU u0.1,vU E0.1,vU F0.1,vU a0.2.2.2.2.2.1,vU a0.2.2.2.2.2.2.1,vU a0.2.2.2.2.2.2.2]) (news:=[vU G0.1]) (new' :=[vU b0.1,vU t0.1,vU u0.1,vU E0.1,vU F0.1,vU G0.1,vU a0.2.2.2.2.2.2.1,vU a0.2.2.2.2.2.2.2]) R0 .t2 I I I I I I (o1 I) I) fun W1 U0 F1=>BK (i:=14) (rk p0) (RO.val (m' :=32767) (sk p0) I .plain I (Bk I) ?_)
 refine AN (dk p0)<|Ay<|Ap<|Ab (FV.add (i:=5) (j:=1) (r:=6) I I (by decide))<|Ae I<|Aa<|Br<|Af<|Ab (AY (i:=6) (j:=8) I I)<|Aa<|Ak<|AW I<|Ar<|Ak<|Aw<|Af<|Ae I<|Ai I<|Aa<|du 13 fun q0 C0=>Rv 0 q0 I C0 (fun _=>Aj I)<|Rv 1 q0 I C0 (fun _=>Aj I)<|Rv 2 q0 I C0 (fun _=>Bi (m:=1) (k:=6) (len:=8) I I I I (by omega))<|Rx 3 32512 q0 I C0 (Bx I ((U0.memA .t2) 6 _ I))<|Rv 4 q0 I C0 (fun _=>Aj I)<|Rv 5 q0 I C0 (fun _=>Bi (m:=1) (k:=6) (len:=8) I I I I (by omega))<|Rx 6 32512 q0 I C0 (Bx I ((U0.memA .t1) 6 _ I))<|Rv 7 q0 I C0 (fun _=>Aj I)<|bk h fun H0 p1 h=>Rv 8 q0 I C0 (fun _=>FV.sub64 (a:=a0.2.2.2.2.2.2.1) (b:=a1.2.2.2.2.2.2.1) (c:=G0.2) func193 I I I I I I I p1)<|Rv 9 q0 I C0 (fun _=>Aj I)<|Rv 10 q0 I C0 (fun _=>Ac I I)<|Rv 11 q0 I C0 (fun _=>Ac I I)<|Rv 12 q0 I C0 (fun _=>Bi (m:=1) (k:=6) (len:=8) I I I I (by omega))<|BF 13 16383 q0 I I .plain (BL (j:=6) (old:=[vU b0.1,vU t0.1,vU u0.1,vU E0.1,vU F0.1,vU G0.1,vU a0.2.2.2.2.2.2.1,vU a0.2.2.2.2.2.2.2]) (news:=[vU H0.1]) (new' :=[vU b0.1,vU t0.1,vU u0.1,vU E0.1,vU F0.1,vU G0.1,vU H0.1,vU a0.2.2.2.2.2.2.2]) U0 .t2 I I I I I I (o1 I) I) fun X1 V0 G1=>BK (i:=14) (rk q0) (RO.val (m' :=32767) (sk q0) I .plain I (Bk I) ?_)
 refine AN (dk q0)<|Ay<|Ap<|Ab (FV.add (i:=6) (j:=1) (r:=7) I I (by decide))<|Ae I<|Aa<|Br<|Af<|Ab (AY (i:=7) (j:=8) I I)<|Aa<|Ak<|AW I<|Ar<|Ak<|Aw<|Af<|Ae I<|Ai I<|Aa<|du 13 fun s0 D0=>Rv 0 s0 I D0 (fun _=>Aj I)<|Rv 1 s0 I D0 (fun _=>Aj I)<|Rv 2 s0 I D0 (fun _=>Bi (m:=1) (k:=7) (len:=8) I I I I (by omega))<|Rx 3 32512 s0 I D0 (Bx I ((V0.memA .t2) 7 _ I))<|Rv 4 s0 I D0 (fun _=>Aj I)<|Rv 5 s0 I D0 (fun _=>Bi (m:=1) (k:=7) (len:=8) I I I I (by omega))<|Rx 6 32512 s0 I D0 (Bx I ((V0.memA .t1) 7 _ I))<|Rv 7 s0 I D0 (fun _=>Aj I)<|bk h fun I0 q1 h=>Rv 8 s0 I D0 (fun _=>FV.sub64 (a:=a0.2.2.2.2.2.2.2) (b:=a1.2.2.2.2.2.2.2) (c:=H0.2) func193 I I I I I I I q1)<|Rv 9 s0 I D0 (fun _=>Aj I)<|Rv 10 s0 I D0 (fun _=>Ac I I)<|Rv 11 s0 I D0 (fun _=>Ac I I)<|Rv 12 s0 I D0 (fun _=>Bi (m:=1) (k:=7) (len:=8) I I I I (by omega))<|BF 13 16383 s0 I I .plain (BL (j:=7) (old:=[vU b0.1,vU t0.1,vU u0.1,vU E0.1,vU F0.1,vU G0.1,vU H0.1,vU a0.2.2.2.2.2.2.2]) (news:=[vU I0.1]) (new' :=[vU b0.1,vU t0.1,vU u0.1,vU E0.1,vU F0.1,vU G0.1,vU H0.1,vU I0.1]) V0 .t2 I I I I I I (o1 I) I) fun Y1 W0 H1=>BK (i:=14) (rk s0) (RO.val (m' :=32767) (sk s0) I .plain I (Bk I) ?_)
 refine AN (dk s0)<|Ay<|Ap<|Ab (FV.add (i:=7) (j:=1) (r:=8) I I (by decide))<|Ae I<|Aa<|Br<|Af<|Ab (AY (i:=8) (j:=8) I I)<|Aa<|Ak<|BG I<|Bd I<|Af<|Ab (AF I (W0.memA .t2))<|Ae I<|AQ [vU b0.1,vU t0.1,vU u0.1,vU E0.1,vU F0.1,vU G0.1,vU H0.1,vU I0.1] W0 .hd (ak I) fun Z1 X0 I1=>Ai I<|Aa<|Au I<|Aq hb0 func189 I (.cons (.many (cs:=[vU b0.1,vU t0.1,vU u0.1,vU E0.1,vU F0.1,vU G0.1,vU H0.1,vU I0.1]) I I (X0.memA .hd)) (.cons (.tmp I) .nil)) I ?_
 cases h
 exact X0.gv
def aO_l1 (_n:Nat) (a0:U8) (a1:U8) (g0:Int -> Oa (Int ⊕ Unit)):Int -> Oa (Int ⊕ Unit)
  | b0=>(if 0 <= b0 then (idx ([a0.1,a0.2.1,a0.2.2.1,a0.2.2.2.1,a0.2.2.2.2.1,a0.2.2.2.2.2.1,a0.2.2.2.2.2.2.1,a0.2.2.2.2.2.2.2]:List Ua) b0).bind fun c0=>(idx ([a1.1,a1.2.1,a1.2.2.1,a1.2.2.2.1,a1.2.2.2.2.1,a1.2.2.2.2.2.1,a1.2.2.2.2.2.2.1,a1.2.2.2.2.2.2.2]:List Ua) b0).bind fun d0=>(if c0 = d0 then (chk (b0 - 1)).bind fun j0=>g0 j0 else (if c0 < d0 then some (.inl (-1:Int)) else some (.inl (1:Int)))) else some (.inr ()))
def aO_p (n:Nat) (a0:U8) (a1:U8):Oa Int:=
  thn (az (aO_l1 n a0 a1) n 7) (fun _=>some (0:Int))
theorem aO_c (n:Nat) {L w} (_hL:hl L w) (a0:U8) (a1:U8)  {r:Int} (h:aO_p n a0 a1 = some r) :
 Cl 192 #[.agg ((ap a0)).toArray,.agg ((ap a1)).toArray] w (ar w fun _ u=>u = vI r):=by
 unfold aO_p at h
 refine AT func192 I I I fun _ cs0 hb0=>Af<|RG.bx (AS w) I I fun V0 p0 E0 Q0=>RG.bx E0 I I fun W0 q0 F0 R0=>Ai I<|Aa<|Ak<|Af<|Ai I<|Aa<|Aw<|tn h fun U0 H0 u0=>MX.lo (α:=Int) (fun b0=>[(2,vP p0),(3,vP q0),(5,vI b0)]) (fun b0=>[.cells q0 (ap a1) 205,.cells p0 (ap a0) 205]) (fun b0=>b0) 7 H0 F0 ?_
 rintro P0 b0 X0 D0 c0 G0 h
 unfold aO_l1 at h
 try dsimp only at h
 refine Ak<|Af<|Ae I<|Ab (FV.geq (i:=b0) (j:=0) I I)<|Aa<|Bb I h (fun A0 h=>?_) (fun A0 h=>?_)
 refine Ar<|Ak<|Aw<|Ak<|du 7 fun d0 j0=>Rv 0 d0 I j0 (fun _=>Aj I)<|bk h fun y0 J0 h=>?_
 obtain ⟨v0,s0⟩:=bY J0
 refine Rv 1 d0 I j0 (fun _=>Bi (m:=1) (k:=b0.toNat) (len:=8) I I I v0 (eB s0 I))<|Rx 2 64 d0 I j0 (Bx I ((cJ (p:=⟨p0,0,none⟩) (cs:=([a0.1,a0.2.1,a0.2.2.1,a0.2.2.2.1,a0.2.2.2.2.1,a0.2.2.2.2.2.1,a0.2.2.2.2.2.2.1,a0.2.2.2.2.2.2.2]:List Ua).map (fun z9:Ua=>(vU z9:Vc)) ++ []) (i:=b0.toNat) (c0.memA .t1) (dT (fun z9:Ua=>(vU z9:Vc)) s0)) 0 _ I))<|Rv 3 d0 I j0 (fun _=>Aj I)<|bk h fun z0 K0 h=>?_
 obtain ⟨x0,t0⟩:=bY K0
 refine Rv 4 d0 I j0 (fun _=>Bi (m:=1) (k:=b0.toNat) (len:=8) I I I x0 (eB t0 I))<|Rx 5 64 d0 I j0 (Bx I ((cJ (p:=⟨q0,0,none⟩) (cs:=([a1.1,a1.2.1,a1.2.2.1,a1.2.2.2.1,a1.2.2.2.2.1,a1.2.2.2.2.2.1,a1.2.2.2.2.2.2.1,a1.2.2.2.2.2.2.2]:List Ua).map (fun z9:Ua=>(vU z9:Vc)) ++ []) (i:=b0.toNat) (c0.memA .hd) (dT (fun z9:Ua=>(vU z9:Vc)) t0)) 0 _ I))<|Rv 6 d0 I j0 (fun _=>FV.neqU (a:=y0) (b:=z0) I I)<|AN (dk d0)<|MX.ifn I h (fun B0 h=>?_) (fun B0 h=>?_)
 refine Ar<|Ay<|Ap<|Ae I<|bk h fun M0 I0 h=>Ab (FV.subc (i:=b0) (j:=1) I I I0)<|Ai I<|Aa<|D0 M0 c0 G0 h
 refine Ak<|Ak<|du 7 fun g0 k0=>Rv 0 g0 I k0 (fun _=>Aj I)<|Rv 1 g0 I k0 (fun _=>Bi (m:=1) (k:=b0.toNat) (len:=8) I I I v0 (eB s0 I))<|Rx 2 64 g0 I k0 (Bx I ((cJ (p:=⟨p0,0,none⟩) (cs:=([a0.1,a0.2.1,a0.2.2.1,a0.2.2.2.1,a0.2.2.2.2.1,a0.2.2.2.2.2.1,a0.2.2.2.2.2.2.1,a0.2.2.2.2.2.2.2]:List Ua).map (fun z9:Ua=>(vU z9:Vc)) ++ []) (i:=b0.toNat) (c0.memA .t1) (dT (fun z9:Ua=>(vU z9:Vc)) s0)) 0 _ I))<|Rv 3 g0 I k0 (fun _=>Aj I)<|Rv 4 g0 I k0 (fun _=>Bi (m:=1) (k:=b0.toNat) (len:=8) I I I x0 (eB t0 I))<|Rx 5 64 g0 I k0 (Bx I ((cJ (p:=⟨q0,0,none⟩) (cs:=([a1.1,a1.2.1,a1.2.2.1,a1.2.2.2.1,a1.2.2.2.2.1,a1.2.2.2.2.2.1,a1.2.2.2.2.2.2.1,a1.2.2.2.2.2.2.2]:List Ua).map (fun z9:Ua=>(vU z9:Vc)) ++ []) (i:=b0.toNat) (c0.memA .hd) (dT (fun z9:Ua=>(vU z9:Vc)) t0)) 0 _ I))<|Rv 6 g0 I k0 (fun _=>FV.lssU (a:=y0) (b:=z0) I I)<|AN (dk g0)<|Bb I h (fun C0 h=>?_) (fun C0 h=>?_)
 refine Af<|Ai I<|Aa ?_
 have h:=dy h u0
 refine Au I<|By hb0 func192 I I ?_
 cases h
 exact c0.gv
 refine Ar<|Af<|Ai I<|Aa ?_
 have h:=dy h u0
 refine Au I<|By hb0 func192 I I ?_
 cases h
 exact c0.gv
 refine Bd I ?_
 have h:=cx h u0
 try dsimp only at h
 refine Af<|Ai I<|Aa<|Au I<|By hb0 func192 I I ?_
 cases h
 exact c0.gv
structure Te where
  fc:Bool
  fk:U8
  deriving DecidableEq
instance:Rep Te:=Rep.via (β:=Bool × (U8)) fun x=>(x.fc,x.fk)
def gK (x:Te):List Vc:=[.bool x.fc,vU x.fk.1,vU x.fk.2.1,vU x.fk.2.2.1,vU x.fk.2.2.2.1,vU x.fk.2.2.2.2.1,vU x.fk.2.2.2.2.2.1,vU x.fk.2.2.2.2.2.2.1,vU x.fk.2.2.2.2.2.2.2]
def bq_p (n:Nat) (a0:Te):Oa ((U8) × Int):=
  (aO_p n a0.fk (0,0,0,0,0,0,0,9223372036854775808)).bind fun b0=>(if 0 < b0 then some ((0,0,0,0,0,0,0,0),(6:Int)) else (if b0 = 0 then (if a0.fc = true then (aT_p n (0,0,0,0,0,0,0,0) a0.fk).bind fun c0=>some (c0.1,(0:Int)) else some ((0,0,0,0,0,0,0,0),(6:Int))) else (if a0.fc = true then (aT_p n (0,0,0,0,0,0,0,0) a0.fk).bind fun d0=>some (d0.1,(0:Int)) else some (a0.fk,(0:Int)))))
theorem bq_c (n:Nat) {L w} (hL:hl L w) (a0:Te)  {r:(U8) × Int} (h:bq_p n a0 = some r) :
 Cl 168 #[.agg ((gK a0)).toArray] w (ar w fun _ u=>u = .tuple #[.agg ((ap r.1)).toArray,vI r.2]):=by
 unfold bq_p at h
 refine AT func168 I I I fun _ cs0 hb0=>Af<|RG.bx (AS w) I I fun Z0 G0 A0 J0=>RG.nl zP A0 fun b1 H0 B0 K0=>Ai I<|Aa<|Af<|Ab (AI (vs:=[vW 9223372036854775808]) (u:=.agg #[vW 0,vW 0,vW 0,vW 0,vW 0,vW 0,vW 0,vW 9223372036854775808]) (e1 I) (fun w9=>by kernel_rfl))<|RG.nl zP B0 fun c1 I0 C0 M0=>RG.now .plain (AJ (news:=[vW 0,vW 0,vW 0,vW 0,vW 0,vW 0,vW 0,vW 9223372036854775808]) C0 .hd I I I I I (.refl 8) (ak I)) fun d1 b0 P0=>Aa<|Ak<|Af<|BB 1 I<|Ab (AZ (cs:=(ap a0.fk)) I I (aj (b0.memA .t2) 1 8))<|Ab (AF I (b0.memA .hd))<|bk h fun g0 D0 h=>Bo (vI g0) (bd 192) I (e2 I I) (fun w9 hw9=>aO_c n (b0.hL0 hL hw9) a0.fk (0,0,0,0,0,0,0,9223372036854775808) D0) I<|Ai I<|Aa<|Af<|Ae I<|Ab (FV.gtr (i:=g0) (j:=0) I I)<|Ae I<|RG.ifd (s:=13) I h (fun x0 h=>?_) (fun x0 h=>?_)
 refine Av<|Av<|Av<|RG.un<|RG.un<|RG.un<|Av<|RG.pt I I<|Aa<|AW I<|Af<|Ab (AI (vs:=[]) (u:=.agg zQ) ao (fun w9=>by kernel_rfl))<|AQ zP b0 .t1 (ak I) fun g1 k0 Q0=>Ai I<|Aa<|Au I<|Aq hb0 func168 I (.cons (.many (cs:=zP) I I (k0.memA .t1)) (.cons (.tmp I) .nil)) I ?_
 cases h
 exact k0.gv
 refine Ax (Aj I)<|Ax (FV.eql (i:=g0) (j:=0) I I)<|Ax (Aj I)<|RG.ifd (s:=16) I h (fun y0 h=>?_) (fun y0 h=>?_)
 refine RG.fg 0 I<|Ax (Bx I ((b0.memA .t2) 0 _ I))<|Ax (BC I)<|Ax (Bc I I)<|Bp I I<|Aa<|MX.ifnb I h (fun j0 h=>?_) (fun j0 h=>?_)
 refine Ar<|Ak<|Af<|BB 0 I<|BH I ((b0.memA .t2) 0 _ I)<|Aa<|MX.cond_kt I j0<|Ap<|Ab (AI (vs:=[]) (u:=.agg zQ) ao (fun w9=>by kernel_rfl))<|BB 1 I<|Ab (AZ (cs:=(ap a0.fk)) I I (aj (b0.memA .t2) 1 8))<|bk h fun c0 E0 h=>Bo (.tuple #[.agg ((ap c0.1)).toArray,vU c0.2]) (bd 189) I (e2 I I) (fun w9 hw9=>aT_c n (b0.hL0 hL hw9) (0,0,0,0,0,0,0,0) a0.fk E0) I<|Ae I<|Ab (Ac I I)<|Ab (Ac I I)<|BB 1 I<|RG.now .plain (BL (j:=1) (old:=(gK a0)) (news:=(ap c0.1)) (new' :=(([.bool a0.fc]:List Vc) ++ ap c0.1)) b0 .t2 I I I I I I (ak I) I) fun j1 p0 R0=>Aa<|Af<|BB 1 I<|Ab (AZ (cs:=(ap c0.1)) I I (aj (p0.memA .t2) 1 8))<|AQ (ap c0.1) p0 .t1 (ak I) fun k1 q0 U0=>Ai I<|Aa<|Au I<|Aq hb0 func168 I (.cons (.many (cs:=(ap c0.1)) I I (q0.memA .t1)) (.cons (.tmp I) .nil)) I ?_
 cases h
 exact q0.gv
 refine Af<|Ab (AI (vs:=[]) (u:=.agg zQ) ao (fun w9=>by kernel_rfl))<|AQ zP b0 .t1 (ak I) fun p1 s0 V0=>Ai I<|Aa<|Au I<|Aq hb0 func168 I (.cons (.many (cs:=zP) I I (s0.memA .t1)) (.cons (.tmp I) .nil)) I ?_
 cases h
 exact s0.gv
 refine Av<|Av<|Av<|Ax (Be I I)<|Bp I I<|Aa<|BG I<|Ar<|Ak<|Af<|BB 0 I<|BH I ((b0.memA .t2) 0 _ I)<|Aa<|MX.ifb I h (fun z0 h=>?_) (fun z0 h=>?_)
 refine Ap<|Ab (AI (vs:=[]) (u:=.agg zQ) ao (fun w9=>by kernel_rfl))<|BB 1 I<|Ab (AZ (cs:=(ap a0.fk)) I I (aj (b0.memA .t2) 1 8))<|bk h fun d0 F0 h=>Bo (.tuple #[.agg ((ap d0.1)).toArray,vU d0.2]) (bd 189) I (e2 I I) (fun w9 hw9=>aT_c n (b0.hL0 hL hw9) (0,0,0,0,0,0,0,0) a0.fk F0) I<|Ae I<|Ab (Ac I I)<|Ab (Ac I I)<|BB 1 I<|RG.now .plain (BL (j:=1) (old:=(gK a0)) (news:=(ap d0.1)) (new' :=(([.bool a0.fc]:List Vc) ++ ap d0.1)) b0 .t2 I I I I I I (ak I) I) fun q1 t0 W0=>Aa<|Af<|BB 1 I<|Ab (AZ (cs:=(ap d0.1)) I I (aj (t0.memA .t2) 1 8))<|AQ (ap d0.1) t0 .t1 (ak I) fun s1 u0 X0=>Ai I<|Aa<|Au I<|Aq hb0 func168 I (.cons (.many (cs:=(ap d0.1)) I I (u0.memA .t1)) (.cons (.tmp I) .nil)) I ?_
 cases h
 exact u0.gv
 refine Ar<|Af<|BB 1 I<|Ab (AZ (cs:=(ap a0.fk)) I I (aj (b0.memA .t2) 1 8))<|AQ (ap a0.fk) b0 .t1 (ak I) fun u1 v0 Y0=>Ai I<|Aa<|Au I<|Aq hb0 func168 I (.cons (.many (cs:=(ap a0.fk)) I I (v0.memA .t1)) (.cons (.tmp I) .nil)) I ?_
 cases h
 exact v0.gv
structure Td where
  fc:Bool
  fj:List Ua
  deriving DecidableEq
instance:Rep Td:=Rep.via (β:=Bool × (List UInt64)) fun x=>(x.fc,x.fj)
def bg_p (n:Nat) (a0:Td):Oa ((U8) × Int):=
  (if 8 < a0.fj.length then some ((0,0,0,0,0,0,0,0),(6:Int)) else (bq_p n (⟨a0.fc,(aO a0.fj 0 (0:Ua),aO a0.fj 1 (0:Ua),aO a0.fj 2 (0:Ua),aO a0.fj 3 (0:Ua),aO a0.fj 4 (0:Ua),aO a0.fj 5 (0:Ua),aO a0.fj 6 (0:Ua),aO a0.fj 7 (0:Ua))⟩:Te)).bind fun b0=>some (b0.1,b0.2))
theorem bg_c (n:Nat) {L w} (hL:hl L w) (a0:Td) {v0_1:Vc} (h0_1:Rep.R w L [v0_1] a0.fj)  {r:(U8) × Int} (h:bg_p n a0 = some r) :
 Cl 139 #[.agg #[.bool a0.fc,v0_1]] w (ar w fun _ u=>u = .tuple #[.agg ((ap r.1)).toArray,vI r.2]):=by
 unfold bg_p at h
 refine AT func139 I I I fun _ cs0 hb0=>Af<|RG.bx (AS w) I I fun M0 A0 v0 C0=>RG.nl zP v0 fun P0 B0 c0 D0=>Ai I<|Aa<|Ak<|Af<|BB 1 I<|BH I ((c0.memA .t1) 1 _ I) ?_
 have s0:=AO h0_1 c0
 have J0:=Bg s0
 refine Ab (Bh (xs:=a0.fj) underlying105 I s0)<|Ab (FV.gtrN (i:=a0.fj.length) (j:=8) I I)<|Aa<|Bb I h (fun u0 h=>?_) (fun u0 h=>?_)
 refine Af<|Ab (AI (vs:=[]) (u:=.agg zQ) ao (fun w9=>by kernel_rfl))<|AQ zP c0 .hd (ak I) fun Q0 p0 E0=>Ai I<|Aa<|Au I<|Aq hb0 func139 I (.cons (.many (cs:=zP) I I (p0.memA .hd)) (.cons (.tmp I) .nil)) I ?_
 cases h
 exact p0.gv
 refine Ar<|Af<|BB 0 I<|BH I ((c0.memA .t1) 0 _ I)<|Ab (AI (vs:=[.bool a0.fc]) (u:=.agg #[.bool a0.fc,vW 0,vW 0,vW 0,vW 0,vW 0,vW 0,vW 0,vW 0]) (e1 I) (fun w9=>by kernel_rfl))<|RG.nl [.bool false,vW 0,vW 0,vW 0,vW 0,vW 0,vW 0,vW 0,vW 0] c0 fun R0 t0 x0 F0=>AQ [.bool a0.fc,vW 0,vW 0,vW 0,vW 0,vW 0,vW 0,vW 0,vW 0] x0 .hd (ak I) fun U0 j0 G0=>Aa<|Ak<|du 4 fun b0 d0=>Rv 0 b0 I d0 (fun _=>Bw 1 I)<|Rx 1 16 b0 I d0 (FV.sliceA (len:=8) (m:=1) (p:=Addr.add ⟨t0,0,none⟩ 1) I I)<|Rv 2 b0 I d0 (fun _=>Bw 1 I)<|Rx 3 16 b0 I d0 (Bx I ((j0.memA .t2) 1 _ I))<|BK (i:=4) (rk b0) (RO.doesL (m' :=31) (sk b0) I I .plain I (DoesL.copyArr (fun z9:Ua=>(vU z9:Vc)) (olds:=([(0:Ua),0,0,0,0,0,0,(0:Ua)]:List Ua)) (ys:=a0.fj) (pre:=[.bool a0.fc]) (post:=[]) (old:=[.bool a0.fc,vW 0,vW 0,vW 0,vW 0,vW 0,vW 0,vW 0,vW 0]) (new' :=[.bool a0.fc,vW ((aO a0.fj 0 (0:Ua)).toNat:Int),vW ((aO a0.fj 1 (0:Ua)).toNat:Int),vW ((aO a0.fj 2 (0:Ua)).toNat:Int),vW ((aO a0.fj 3 (0:Ua)).toNat:Int),vW ((aO a0.fj 4 (0:Ua)).toNat:Int),vW ((aO a0.fj 5 (0:Ua)).toNat:Int),vW ((aO a0.fj 6 (0:Ua)).toNat:Int),vW ((aO a0.fj 7 (0:Ua)).toNat:Int)]) I (fun _ _ _ _ h9=>h9) j0 .hd I I I I I I I I (Src.rep (AO h0_1 j0))) (fun K0 V0 ⟨y0,k0,H0⟩=>?_))
 subst y0
 refine AN (dk b0)<|Af<|Ab (AF I (k0.memA .hd))<|bk h fun g0 z0 h=>Bo (.tuple #[.agg ((ap g0.1)).toArray,vI g0.2]) (bd 168) I (e1 I) (fun w9 hw9=>bq_c n (k0.hL0 hL hw9) (⟨a0.fc,(aO a0.fj 0 (0:Ua),aO a0.fj 1 (0:Ua),aO a0.fj 2 (0:Ua),aO a0.fj 3 (0:Ua),aO a0.fj 4 (0:Ua),aO a0.fj 5 (0:Ua),aO a0.fj 6 (0:Ua),aO a0.fj 7 (0:Ua))⟩:Te) z0) I<|Ab (Ac I I)<|Ab (Ac I I)<|AQ (ap g0.1) k0 .t1 (ak I) fun W0 q0 I0=>Ai I<|Aa<|Au I<|Aq hb0 func139 I (.cons (.many (cs:=(ap g0.1)) I I (q0.memA .t1)) (.cons (.tmp I) .nil)) I ?_
 cases h
 exact q0.gv
structure Tc where
  fh:Td
  fe:Td
  deriving DecidableEq
instance:Rep Tc:=Rep.via (β:=Td × Td) fun x=>(x.fh,x.fe)
structure Ta where
  fN:U8
  fD:U8
  deriving DecidableEq
instance:Rep Ta:=Rep.via (β:=(U8) × (U8)) fun x=>(x.fN,x.fD)
def aa (x:Ta):List Vc:=[vU x.fN.1,vU x.fN.2.1,vU x.fN.2.2.1,vU x.fN.2.2.2.1,vU x.fN.2.2.2.2.1,vU x.fN.2.2.2.2.2.1,vU x.fN.2.2.2.2.2.2.1,vU x.fN.2.2.2.2.2.2.2,vU x.fD.1,vU x.fD.2.1,vU x.fD.2.2.1,vU x.fD.2.2.2.1,vU x.fD.2.2.2.2.1,vU x.fD.2.2.2.2.2.1,vU x.fD.2.2.2.2.2.2.1,vU x.fD.2.2.2.2.2.2.2]
def ak_p (n:Nat) (a0:Tc):Oa (Ta × Int):=
  (bg_p n a0.fh).bind fun b0=>(bg_p n a0.fe).bind fun c0=>(if b0.2 = 0 then (if c0.2 = 0 then some ((⟨b0.1,c0.1⟩:Ta),(0:Int)) else some ((⟨(0,0,0,0,0,0,0,0),(0,0,0,0,0,0,0,0)⟩:Ta),(6:Int))) else some ((⟨(0,0,0,0,0,0,0,0),(0,0,0,0,0,0,0,0)⟩:Ta),(6:Int)))
theorem ak_c (n:Nat) {L w} (hL:hl L w) (a0:Tc) {v0_1:Vc} (h0_1:Rep.R w L [v0_1] a0.fh.fj) {v0_3:Vc} (h0_3:Rep.R w L [v0_3] a0.fe.fj)  {r:Ta × Int} (h:ak_p n a0 = some r) :
 Cl 77 #[.agg #[.bool a0.fh.fc,v0_1,.bool a0.fe.fc,v0_3]] w (ar w fun _ u=>u = .tuple #[.agg ((aa r.1)).toArray,vI r.2]):=by
 unfold ak_p at h
 refine AT func77 I I I fun _ cs0 hb0=>Af<|RG.bx (AS w) I I fun R0 B0 v0 F0=>RG.nl zL v0 fun U0 C0 g0 G0=>Ai I<|Aa<|Af<|BB 0 I<|Ab (AZ (cs:=[.bool a0.fh.fc,v0_1]) I I (aj (g0.memA .t1) 0 2))<|bk h fun b0 z0 h=>Bo (.tuple #[.agg ((ap b0.1)).toArray,vI b0.2]) (bd 139) I (e1 I) (fun w9 hw9=>bg_c n (g0.hL0 hL hw9) a0.fh (g0.k0 h0_1 hw9) z0) I<|Ae I<|Ab (Ac I I)<|Ab (Ac I I)<|RG.nl zP g0 fun V0 D0 x0 H0=>AQ (ap b0.1) x0 .hd (ak I) fun W0 j0 I0=>Ai I<|Aa<|Af<|BB 2 I<|Ab (AZ (cs:=[.bool a0.fe.fc,v0_3]) I I (aj (j0.memA .t2) 2 2))<|bk h fun c0 A0 h=>Bo (.tuple #[.agg ((ap c0.1)).toArray,vI c0.2]) (bd 139) I (e1 I) (fun w9 hw9=>bg_c n (j0.hL0 hL hw9) a0.fe (j0.k0 h0_3 hw9) A0) I<|Ae I<|Ab (Ac I I)<|Ab (Ac I I)<|RG.nl zP j0 fun X0 E0 y0 J0=>AQ (ap c0.1) y0 .hd (ak I) fun Y0 d0 K0=>Ai I<|Aa<|Ak<|Af<|Ae I<|Ab (BM (i:=b0.2) (j:=0) I I) ?_
 refine Ae I<|RG.ifn (s:=22) I h (fun t0 h=>?_) (fun t0 h=>?_)
 refine Ax (Aj I)<|Ax (BM (i:=c0.2) (j:=0) I I)<|Bp I I<|Aa<|MX.ifn I h (fun u0 h=>?_) (fun u0 h=>?_)
 refine Ar<|Af<|Ab (AF I (d0.memA .t1))<|Ab (AF I (d0.memA .hd))<|Ab (AI (vs:=[.agg ((ap b0.1)).toArray,.agg ((ap c0.1)).toArray]) (u:=.agg ((ap b0.1 ++ ap c0.1)).toArray) (e2 I I) (fun w9=>by kernel_rfl))<|AQ (ap b0.1 ++ ap c0.1) d0 .t2 (ak I) fun Z0 p0 M0=>Ai I<|Aa<|Au I<|Aq hb0 func77 I (.cons (.many (cs:=(ap b0.1 ++ ap c0.1)) I I (p0.memA .t2)) (.cons (.tmp I) .nil)) I ?_
 cases h
 exact p0.gv
 refine Af<|Ab (AI (vs:=[]) (u:=.agg zM) ao (fun w9=>by kernel_rfl))<|AQ zL d0 .t2 (ak I) fun b1 q0 P0=>Ai I<|Aa<|Au I<|Aq hb0 func77 I (.cons (.many (cs:=zL) I I (q0.memA .t2)) (.cons (.tmp I) .nil)) I ?_
 cases h
 exact q0.gv
 refine Av<|Av<|RG.pt I I<|Aa<|AW I<|Af<|Ab (AI (vs:=[]) (u:=.agg zM) ao (fun w9=>by kernel_rfl))<|AQ zL d0 .t2 (ak I) fun c1 s0 Q0=>Ai I<|Aa<|Au I<|Aq hb0 func77 I (.cons (.many (cs:=zL) I I (s0.memA .t2)) (.cons (.tmp I) .nil)) I ?_
 cases h
 exact s0.gv
def bP_p (n:Nat) (a0:U8):Oa Te:=
  (if (shrU a0.2.2.2.2.2.2.2 63) = (1:Ua) then (aT_p n (0,0,0,0,0,0,0,0) a0).bind fun b0=>some (⟨(decide ((shrU a0.2.2.2.2.2.2.2 63) = (1:Ua))),b0.1⟩:Te) else some (⟨(decide ((shrU a0.2.2.2.2.2.2.2 63) = (1:Ua))),a0⟩:Te))
theorem bP_c (n:Nat) {L w} (hL:hl L w) (a0:U8)  {r:Te} (h:bP_p n a0 = some r) :
 Cl 165 #[.agg ((ap a0)).toArray] w (ar w fun _ u=>u = .agg ((gK r)).toArray):=by
 unfold bP_p at h
 refine AT func165 I I I fun _ cs0 hb0=>Af<|RG.bx (AS w) I I fun F0 u0 q0 y0=>RG.nl [.bool false,vW 0,vW 0,vW 0,vW 0,vW 0,vW 0,vW 0,vW 0] q0 fun G0 v0 d0 z0=>Aa<|Af<|Ab (Bi (m:=1) (k:=7) (len:=8) I I I I (by omega))<|BH I ((d0.memA .t1) 7 _ I)<|Ab (FV.shrU (a:=a0.2.2.2.2.2.2.2) (j:=63) I I)<|Ab (FV.eqlU (a:=shrU a0.2.2.2.2.2.2.2 63) (b:=(1:Ua)) I I)<|Ab (AF I (d0.memA .t1))<|Ab (AI (vs:=[.bool (decide ((shrU a0.2.2.2.2.2.2.2 63) = (1:Ua))),.agg ((ap a0)).toArray]) (u:=.agg ((([.bool (decide ((shrU a0.2.2.2.2.2.2.2 63) = (1:Ua)))]:List Vc) ++ ap a0)).toArray) (e2 I I) (fun w9=>by kernel_rfl))<|RG.nl [.bool false,vW 0,vW 0,vW 0,vW 0,vW 0,vW 0,vW 0,vW 0] d0 fun H0 x0 s0 A0=>AQ (([.bool (decide ((shrU a0.2.2.2.2.2.2.2 63) = (1:Ua)))]:List Vc) ++ ap a0) s0 .hd (ak I) fun I0 b0 B0=>Aa<|Ak<|Af<|BB 0 I<|BH I ((b0.memA .hd) 0 _ I)<|Aa<|Bb I h (fun p0 h=>?_) (fun p0 h=>?_)
 refine Ap<|Ab (AI (vs:=[]) (u:=.agg zQ) ao (fun w9=>by kernel_rfl))<|BB 1 I<|Ab (AZ (cs:=(ap a0)) I I (aj (b0.memA .hd) 1 8))<|bk h fun c0 t0 h=>Bo (.tuple #[.agg ((ap c0.1)).toArray,vU c0.2]) (bd 189) I (e2 I I) (fun w9 hw9=>aT_c n (b0.hL0 hL hw9) (0,0,0,0,0,0,0,0) a0 t0) I<|Ae I<|Ab (Ac I I)<|Ab (Ac I I)<|BB 1 I<|RG.now .plain (BL (j:=1) (old:=(([.bool (decide ((shrU a0.2.2.2.2.2.2.2 63) = (1:Ua)))]:List Vc) ++ ap a0)) (news:=(ap c0.1)) (new' :=(([.bool (decide ((shrU a0.2.2.2.2.2.2.2 63) = (1:Ua)))]:List Vc) ++ ap c0.1)) b0 .hd I I I I I I (ak I) I) fun J0 g0 C0=>Aa<|Af<|Ab (AF I (g0.memA .hd))<|AQ (([.bool (decide ((shrU a0.2.2.2.2.2.2.2 63) = (1:Ua)))]:List Vc) ++ ap c0.1) g0 .t1 (ak I) fun K0 j0 D0=>Aa<|Au I<|Aq hb0 func165 I (.cons (.many (cs:=(([.bool (decide ((shrU a0.2.2.2.2.2.2.2 63) = (1:Ua)))]:List Vc) ++ ap c0.1)) I I (j0.memA .t1)) .nil) I ?_
 cases h
 exact j0.gv
 refine Ar<|Af<|Ab (AF I (b0.memA .hd))<|AQ (([.bool (decide ((shrU a0.2.2.2.2.2.2.2 63) = (1:Ua)))]:List Vc) ++ ap a0) b0 .t1 (ak I) fun M0 k0 E0=>Aa<|Au I<|Aq hb0 func165 I (.cons (.many (cs:=(([.bool (decide ((shrU a0.2.2.2.2.2.2.2 63) = (1:Ua)))]:List Vc) ++ ap a0)) I I (k0.memA .t1)) .nil) I ?_
 cases h
 exact k0.gv
def ay_l1 (_n:Nat) (a1:List Ua) (c0:Int -> Oa Int):Int -> Oa Int
  | b0=>(if 0 < b0 then (chk (b0 - 1)).bind fun d0=>(idx a1 d0).bind fun j0=>(if j0 = (0:Ua) then (chk (b0 - 1)).bind fun g0=>c0 g0 else some b0) else some b0)
def ay_p (n:Nat) (a0:Bool) (a1:List Ua):Oa Td:=
  jn (fun b0=>(if a0 = true then (cut a1 0 b0).bind fun d0=>some (⟨(decide (0 < b0)),d0⟩:Td) else (cut a1 0 b0).bind fun g0=>some (⟨false,g0⟩:Td))) (fun c0=>Option.bind (az (ay_l1 n a1) n ((a1.length:Nat):Int)) (c0))
theorem ay_c (n:Nat) {L w} (_hL:hl L w) {a0:Bool} {a1:List Ua} {v1_0:Vc} (h1_0:Rep.R w L [v1_0] a1)  {r:Td} (h:ay_p n a0 a1 = some r) :
 Cl 166 #[.bool a0,v1_0] w (ar w fun w' u=>∃ v0_1:Vc,u = .agg #[.bool r.fc,v0_1]/\Rep.R w' L [v0_1] r.fj):=by
 unfold ay_p at h
 refine AT func166 I I I fun _ cs0 hb0=>Af<|RG.nl [.bool false,vN] (AS w) fun C1 j0 q0 z1=>Aa<|Af<|Ae I ?_
 have A0:=AO h1_0 q0
 have A1:=Bg A0
 refine Ab (Bh (xs:=a1) underlying105 I A0)<|Ai I<|Aa<|Ak<|Aw<|MX.xo (α:=Int) 0 (fun b0=>[(0,.bool a0),(1,v1_0),(4,vP j0),(5,vI b0)]) (fun b0=>[.cells j0 [.bool false,vN] 107]) (fun b0=>b0) q0 I h ?_ ?_
 rintro b0 F1 k0 y1 h
 try dsimp only at h
 refine Af<|Ae I<|Ae I<|RG.ifb (s:=21) I h (fun C0 h=>?_) (fun C0 h=>?_)
 refine Ax (Aj I)<|Ax (FV.gtr (i:=b0) (j:=0) I I)<|RG.pt I I<|Ae I<|Ae I<|bk h fun H1 c1 h=>RG.valE .plain I (FV.cutL (α:=Ua) c1 I I (AO h1_0 k0) I ⟨_,I⟩) fun d0 v0=>?_
 obtain ⟨k1,u1,X0,_⟩:=BD v0
 refine Ab (AI (vs:=[.bool (decide (0 < b0)),d0]) (u:=.agg #[.bool (decide (0 < b0)),d0]) (e2 I I) (fun w9=>by rw [X0]; try kernel_rfl))<|AQ [.bool (decide (0 < b0)),d0] k0 .hd (o2 I (AE v0)) fun D1 s0 H0=>Aa<|Au I<|Aq hb0 func166 I (.cons (.many (cs:=[.bool (decide (0 < b0)),d0]) I I (s0.memA .hd)) .nil) I ?_
 cases h
 exact ⟨s0.ag,fun w9 hw9=>⟨d0,I,s0.kd (Ag v0 H0) hw9⟩⟩
 refine Av<|Av<|Bp I I<|Ae I<|Ae I<|bk h fun I1 d1 h=>RG.valE .plain I (FV.cutL (α:=Ua) d1 I I (AO h1_0 k0) I ⟨_,I⟩) fun g0 x0=>?_
 obtain ⟨p1,v1,Y0,_⟩:=BD x0
 refine Ab (AI (vs:=[.bool false,g0]) (u:=.agg #[.bool false,g0]) (e2 I I) (fun w9=>by rw [Y0]; try kernel_rfl))<|AQ [.bool false,g0] k0 .hd (o2 I (AE x0)) fun E1 t0 I0=>Aa<|Au I<|Aq hb0 func166 I (.cons (.many (cs:=[.bool false,g0]) I I (t0.memA .hd)) .nil) I ?_
 cases h
 exact ⟨t0.ag,fun w9 hw9=>⟨g0,I,t0.kd (Ag x0 I0) hw9⟩⟩
 intro s1 y0 h
 try dsimp only at h
 obtain ⟨B1,R0,z0⟩:=aw h
 refine MX.lo (α:=Int) (fun c0=>[(0,.bool a0),(1,v1_0),(4,vP j0),(5,vI c0)]) (fun c0=>[.cells j0 [.bool false,vN] 107]) (fun c0=>c0) ((a1.length:Nat):Int) R0 q0 ?_
 rintro t1 c0 G1 G0 p0 u0 h
 unfold ay_l1 at h
 try dsimp only at h
 refine Ak<|Af<|Ae I<|Ab (FV.gtr (i:=c0) (j:=0) I I)<|Ae I<|RG.ifd (s:=10) I h (fun D0 h=>?_) (fun D0 h=>?_)
 refine Ax (Aj I)<|Ax (Aj I)<|bk h fun g1 V0 h=>Ax (FV.subc (i:=c0) (j:=1) I I V0)<|bk h fun B0 Z0 h=>?_
 obtain ⟨M0,b1⟩:=bY Z0
 obtain ⟨q1,x1,J0,P0,F0,U0,Q0⟩:=Bv (AO h1_0 p0) b1
 have K0:F0 = [vU B0]:=U0; subst K0
 refine Ax (BJ 1 (g1.toNat) I J0 I M0 P0)<|Ax (Bx I (Q0 0 _ I))<|Ax (FV.eqlU (a:=B0) (b:=(0:Ua)) I I)<|RG.pt I I<|Aa<|Bb I h (fun E0 h=>?_) (fun E0 h=>?_)
 refine Ar<|Aw<|Ap<|Ae I<|bk h fun j1 W0 h=>Ab (FV.subc (i:=c0) (j:=1) I I W0)<|Ai I<|Aa<|Ay<|G0 j1 p0 u0 h
 refine Bd I ?_
 have h:=z0 _ h
 try dsimp only at h
 exact y0 c0 p0 u0 h
 refine Av<|Av<|Av<|Av<|Av<|Av<|Bp I I<|Aa<|BG I<|Bd I ?_
 have h:=z0 _ h
 try dsimp only at h
 exact y0 c0 p0 u0 h
theorem cW:ElT Tryz.prog 105 30 (Rep.size Ua) 8 (vW 0) [vW 0]:=⟨underlying105,by kernel_rfl,rfl,rfl,rfl,rfl⟩
def aY_p (n:Nat) (a0:U8):Oa Td:=
  (bP_p n a0).bind fun b0=>(app ([]:List Ua) ([b0.fk.1,b0.fk.2.1,b0.fk.2.2.1,b0.fk.2.2.2.1,b0.fk.2.2.2.2.1,b0.fk.2.2.2.2.2.1,b0.fk.2.2.2.2.2.2.1,b0.fk.2.2.2.2.2.2.2]:List Ua)).bind fun c0=>(ay_p n b0.fc c0).bind fun d0=>some d0
theorem aY_c (n:Nat) {L w} (hL:hl L w) (a0:U8)  {r:Td} (h:aY_p n a0 = some r) :
 Cl 135 #[.agg ((ap a0)).toArray] w (ar w fun w' u=>∃ v0_1:Vc,u = .agg #[.bool r.fc,v0_1]/\Rep.R w' L [v0_1] r.fj):=by
 unfold aY_p at h
 refine AT func135 I I I fun _ cs0 hb0=>Af<|RG.bx (AS w) I I fun D1 s1 W0 u1=>RG.nl [.bool false,vN] W0 fun G1 A0 F0 z1=>Aa<|Af<|Ab (AF I (F0.memA .t1))<|bk h fun b0 p1 h=>Bo (.agg ((gK b0)).toArray) (bd 165) I (e1 I) (fun w9 hw9=>bP_c n (F0.hL0 hL hw9) a0 p1) I<|RG.nl [.bool false,vW 0,vW 0,vW 0,vW 0,vW 0,vW 0,vW 0,vW 0] F0 fun H1 U0 c1 A1=>AQ (gK b0) c1 .hd (ak I) fun I1 u0 B1=>Aa<|Ak<|du 5 fun c0 y0=>Rv 0 c0 I y0 (fun _=>Bw 0 I)<|Rv 3 c0 I y0 (fun _=>Bw 1 I)<|Rx 4 224 c0 I y0 (FV.sliceA (len:=8) (m:=1) (p:=Addr.add ⟨U0,0,none⟩ 1) I I)<|bk h fun z0 G0 h=>RD.mf (α:=Vc × (List Vc)) (fun ⟨g0,j0⟩=>[(2,vP A0),(7,.bool b0.fc),(11,g0)]) (fun ⟨g0,j0⟩=>[rr w 30 Ua g0 z0.length j0,.cells A0 [.bool false,vN] 107]) (fun ⟨g0,j0⟩ Q0=>Cells Q0 (bl [rr w 30 Ua g0 z0.length j0,.cells A0 [.bool false,vN] 107] ++ L) j0 (z0:List Ua)) u0 2 63 ?_ ?_
 rintro ⟨g0,j0⟩ Q0 C0 v1 j1
 try dsimp only
 have D0:=Bl C0 .hd
 have x1:=Bm C0 .hd
 refine bk h fun R0 k1 h=>AU 6 127 c0 I .plain (bd 166) I (e2 I I) (fun w9 hw9=>ay_c n (D0.hL hL hw9) (Ah (Bn (α:=Ua) (v:=g0) (xs:=z0) D0 L (Ba (α:=Ua) C0 .hd j1 hL)) hw9) k1) I fun E1 C1 g1 ⟨H0,hu_,M0⟩=>?_
 subst hu_
 obtain ⟨X0,y1⟩:=D0.agr g1
 refine BF 7 255 c0 I I .plain (AJ (news:=[.bool R0.fc,H0]) X0 .hd I I I I I I (o2 I (AE M0))) fun F1 E0 d1=>AN (dk c0)<|Au I<|Aq hb0 func135 I (.cons (.many (cs:=[.bool R0.fc,H0]) I I (E0.memA .hd)) .nil) I ?_
 cases h
 exact ⟨E0.ag,fun w9 hw9=>⟨H0,I,E0.kd (Ag M0 d1) hw9⟩⟩
 intro B0
 refine BO [1,2] (rk c0) ⟨?_,?_,trivial⟩
 refine RO.val (m' :=27) (sk c0) I .plain I (Bx I ((u0.memA .hd) 0 _ I))<|RD.nu 2 31 c0 I .plain I (jB Ua u0 cW) fun q1 V0 d0 v0=>?_
 have x0:=jD Ua d0 L
 refine BK (i:=5) (rk c0) (RO.doesL (m' :=63) (sk c0) I I .plain I (Bz (α:=Ua) (ys:=([b0.fk.1,b0.fk.2.1,b0.fk.2.2.1,b0.fk.2.2.2.1,b0.fk.2.2.2.2.1,b0.fk.2.2.2.2.2.1,b0.fk.2.2.2.2.2.2.1,b0.fk.2.2.2.2.2.2.2]:List Ua)) G0 d0 (fun _ _=>.hd) cW I I x0 (Src.arr (ds:=[vU b0.fk.1,vU b0.fk.2.1,vU b0.fk.2.2.1,vU b0.fk.2.2.2.1,vU b0.fk.2.2.2.2.1,vU b0.fk.2.2.2.2.2.1,vU b0.fk.2.2.2.2.2.2.1,vU b0.fk.2.2.2.2.2.2.2]) (ys:=([b0.fk.1,b0.fk.2.1,b0.fk.2.2.1,b0.fk.2.2.2.1,b0.fk.2.2.2.2.1,b0.fk.2.2.2.2.2.1,b0.fk.2.2.2.2.2.2.1,b0.fk.2.2.2.2.2.2.2]:List Ua)) (n:=8) (aj (d0.memA .t1) 1 8) (Ao (cs:=[vU b0.fk.1]) (ds:=[vU b0.fk.2.1,vU b0.fk.2.2.1,vU b0.fk.2.2.2.1,vU b0.fk.2.2.2.2.1,vU b0.fk.2.2.2.2.2.1,vU b0.fk.2.2.2.2.2.2.1,vU b0.fk.2.2.2.2.2.2.2]) I (Ao (cs:=[vU b0.fk.2.1]) (ds:=[vU b0.fk.2.2.1,vU b0.fk.2.2.2.1,vU b0.fk.2.2.2.2.1,vU b0.fk.2.2.2.2.2.1,vU b0.fk.2.2.2.2.2.2.1,vU b0.fk.2.2.2.2.2.2.2]) I (Ao (cs:=[vU b0.fk.2.2.1]) (ds:=[vU b0.fk.2.2.2.1,vU b0.fk.2.2.2.2.1,vU b0.fk.2.2.2.2.2.1,vU b0.fk.2.2.2.2.2.2.1,vU b0.fk.2.2.2.2.2.2.2]) I (Ao (cs:=[vU b0.fk.2.2.2.1]) (ds:=[vU b0.fk.2.2.2.2.1,vU b0.fk.2.2.2.2.2.1,vU b0.fk.2.2.2.2.2.2.1,vU b0.fk.2.2.2.2.2.2.2]) I (Ao (cs:=[vU b0.fk.2.2.2.2.1]) (ds:=[vU b0.fk.2.2.2.2.2.1,vU b0.fk.2.2.2.2.2.2.1,vU b0.fk.2.2.2.2.2.2.2]) I (Ao (cs:=[vU b0.fk.2.2.2.2.2.1]) (ds:=[vU b0.fk.2.2.2.2.2.2.1,vU b0.fk.2.2.2.2.2.2.2]) I (Ao (cs:=[vU b0.fk.2.2.2.2.2.2.1]) (ds:=[vU b0.fk.2.2.2.2.2.2.2]) I (Ao (cs:=[vU b0.fk.2.2.2.2.2.2.2]) (ds:=[]) I (AH _ _))))))))) I)) (fun t0 P0 ⟨p0,k0,q0,s0⟩=>?_))
 obtain ⟨Y0,I0⟩:=AA k0 (.a0 (.a1 .done))
 exact B0 (t0,p0) Y0 (Tt v0 (Tt q0 I0)) (AK s0 I0)
 refine RO.new (m' :=29) (sk c0) I .plain I (jB Ua u0 cW) fun q1 V0 d0 v0=>?_
 have x0:=jD Ua d0 L
 refine BO [1,5] (rk c0) ⟨?_,?_,trivial⟩
 refine RO.val (m' :=31) (sk c0) I .plain I (Bx I ((d0.memA .t1) 0 _ I))<|BK (i:=5) (rk c0) (RO.doesL (m' :=63) (sk c0) I I .plain I (Bz (α:=Ua) (ys:=([b0.fk.1,b0.fk.2.1,b0.fk.2.2.1,b0.fk.2.2.2.1,b0.fk.2.2.2.2.1,b0.fk.2.2.2.2.2.1,b0.fk.2.2.2.2.2.2.1,b0.fk.2.2.2.2.2.2.2]:List Ua)) G0 d0 (fun _ _=>.hd) cW I I x0 (Src.arr (ds:=[vU b0.fk.1,vU b0.fk.2.1,vU b0.fk.2.2.1,vU b0.fk.2.2.2.1,vU b0.fk.2.2.2.2.1,vU b0.fk.2.2.2.2.2.1,vU b0.fk.2.2.2.2.2.2.1,vU b0.fk.2.2.2.2.2.2.2]) (ys:=([b0.fk.1,b0.fk.2.1,b0.fk.2.2.1,b0.fk.2.2.2.1,b0.fk.2.2.2.2.1,b0.fk.2.2.2.2.2.1,b0.fk.2.2.2.2.2.2.1,b0.fk.2.2.2.2.2.2.2]:List Ua)) (n:=8) (aj (d0.memA .t1) 1 8) (Ao (cs:=[vU b0.fk.1]) (ds:=[vU b0.fk.2.1,vU b0.fk.2.2.1,vU b0.fk.2.2.2.1,vU b0.fk.2.2.2.2.1,vU b0.fk.2.2.2.2.2.1,vU b0.fk.2.2.2.2.2.2.1,vU b0.fk.2.2.2.2.2.2.2]) I (Ao (cs:=[vU b0.fk.2.1]) (ds:=[vU b0.fk.2.2.1,vU b0.fk.2.2.2.1,vU b0.fk.2.2.2.2.1,vU b0.fk.2.2.2.2.2.1,vU b0.fk.2.2.2.2.2.2.1,vU b0.fk.2.2.2.2.2.2.2]) I (Ao (cs:=[vU b0.fk.2.2.1]) (ds:=[vU b0.fk.2.2.2.1,vU b0.fk.2.2.2.2.1,vU b0.fk.2.2.2.2.2.1,vU b0.fk.2.2.2.2.2.2.1,vU b0.fk.2.2.2.2.2.2.2]) I (Ao (cs:=[vU b0.fk.2.2.2.1]) (ds:=[vU b0.fk.2.2.2.2.1,vU b0.fk.2.2.2.2.2.1,vU b0.fk.2.2.2.2.2.2.1,vU b0.fk.2.2.2.2.2.2.2]) I (Ao (cs:=[vU b0.fk.2.2.2.2.1]) (ds:=[vU b0.fk.2.2.2.2.2.1,vU b0.fk.2.2.2.2.2.2.1,vU b0.fk.2.2.2.2.2.2.2]) I (Ao (cs:=[vU b0.fk.2.2.2.2.2.1]) (ds:=[vU b0.fk.2.2.2.2.2.2.1,vU b0.fk.2.2.2.2.2.2.2]) I (Ao (cs:=[vU b0.fk.2.2.2.2.2.2.1]) (ds:=[vU b0.fk.2.2.2.2.2.2.2]) I (Ao (cs:=[vU b0.fk.2.2.2.2.2.2.2]) (ds:=[]) I (AH _ _))))))))) I)) (fun t0 P0 ⟨p0,k0,q0,s0⟩=>?_))
 obtain ⟨Z0,J0⟩:=AA k0 (.a0 (.a1 .done))
 exact B0 (t0,p0) Z0 (Tt v0 (Tt q0 J0)) (AK s0 J0)
 refine RO.doesL (m' :=61) (sk c0) I I .plain I (Bz (α:=Ua) (ys:=([b0.fk.1,b0.fk.2.1,b0.fk.2.2.1,b0.fk.2.2.2.1,b0.fk.2.2.2.2.1,b0.fk.2.2.2.2.2.1,b0.fk.2.2.2.2.2.2.1,b0.fk.2.2.2.2.2.2.2]:List Ua)) G0 d0 (fun _ _=>.hd) cW I I x0 (Src.arr (ds:=[vU b0.fk.1,vU b0.fk.2.1,vU b0.fk.2.2.1,vU b0.fk.2.2.2.1,vU b0.fk.2.2.2.2.1,vU b0.fk.2.2.2.2.2.1,vU b0.fk.2.2.2.2.2.2.1,vU b0.fk.2.2.2.2.2.2.2]) (ys:=([b0.fk.1,b0.fk.2.1,b0.fk.2.2.1,b0.fk.2.2.2.1,b0.fk.2.2.2.2.1,b0.fk.2.2.2.2.2.1,b0.fk.2.2.2.2.2.2.1,b0.fk.2.2.2.2.2.2.2]:List Ua)) (n:=8) (aj (d0.memA .t1) 1 8) (Ao (cs:=[vU b0.fk.1]) (ds:=[vU b0.fk.2.1,vU b0.fk.2.2.1,vU b0.fk.2.2.2.1,vU b0.fk.2.2.2.2.1,vU b0.fk.2.2.2.2.2.1,vU b0.fk.2.2.2.2.2.2.1,vU b0.fk.2.2.2.2.2.2.2]) I (Ao (cs:=[vU b0.fk.2.1]) (ds:=[vU b0.fk.2.2.1,vU b0.fk.2.2.2.1,vU b0.fk.2.2.2.2.1,vU b0.fk.2.2.2.2.2.1,vU b0.fk.2.2.2.2.2.2.1,vU b0.fk.2.2.2.2.2.2.2]) I (Ao (cs:=[vU b0.fk.2.2.1]) (ds:=[vU b0.fk.2.2.2.1,vU b0.fk.2.2.2.2.1,vU b0.fk.2.2.2.2.2.1,vU b0.fk.2.2.2.2.2.2.1,vU b0.fk.2.2.2.2.2.2.2]) I (Ao (cs:=[vU b0.fk.2.2.2.1]) (ds:=[vU b0.fk.2.2.2.2.1,vU b0.fk.2.2.2.2.2.1,vU b0.fk.2.2.2.2.2.2.1,vU b0.fk.2.2.2.2.2.2.2]) I (Ao (cs:=[vU b0.fk.2.2.2.2.1]) (ds:=[vU b0.fk.2.2.2.2.2.1,vU b0.fk.2.2.2.2.2.2.1,vU b0.fk.2.2.2.2.2.2.2]) I (Ao (cs:=[vU b0.fk.2.2.2.2.2.1]) (ds:=[vU b0.fk.2.2.2.2.2.2.1,vU b0.fk.2.2.2.2.2.2.2]) I (Ao (cs:=[vU b0.fk.2.2.2.2.2.2.1]) (ds:=[vU b0.fk.2.2.2.2.2.2.2]) I (Ao (cs:=[vU b0.fk.2.2.2.2.2.2.2]) (ds:=[]) I (AH _ _))))))))) I)) fun t0 P0 ⟨p0,k0,q0,s0⟩=>Rx 1 192 c0 I y0 (Bx I ((k0.memA .t1) 0 _ I)) ?_
 obtain ⟨b1,K0⟩:=AA k0 (.a0 (.a1 .done))
 exact B0 (t0,p0) b1 (Tt v0 (Tt q0 K0)) (AK s0 K0)
def aX_l1 (_n:Nat) (a0:List Ua) (a1:List Ua) (g0:Int -> Oa (Int ⊕ Unit)):Int -> Oa (Int ⊕ Unit)
  | b0=>(if 0 <= b0 then (idx a0 b0).bind fun c0=>(idx a1 b0).bind fun d0=>(if c0 < d0 then some (.inl (-1:Int)) else (if d0 < c0 then some (.inl (1:Int)) else (chk (b0 - 1)).bind fun j0=>g0 j0)) else some (.inr ()))
def aX_p (n:Nat) (a0:List Ua) (a1:List Ua):Oa Int:=
  (if a0.length = a1.length then thn (az (aX_l1 n a0 a1) n (((a0.length:Nat):Int) - 1)) (fun _=>some (0:Int)) else some (((a0.length:Nat):Int) - ((a1.length:Nat):Int)))
theorem aX_c (n:Nat) {L w} (_hL:hl L w) {a0:List Ua} {v0_0:Vc} (h0_0:Rep.R w L [v0_0] a0) {a1:List Ua} {v1_0:Vc} (h1_0:Rep.R w L [v1_0] a1)  {r:Int} (h:aX_p n a0 a1 = some r) :
 Cl 171 #[v0_0,v1_0] w (ar w fun _ u=>u = vI r):=by
 unfold aX_p at h
 have hS0:=AS w
 refine AT func171 I I I fun _ cs0 hb0=>Af<|Ai I<|Aa<|Ak<|Af<|Ae I ?_
 have hl1:=Bg h0_0
 refine Ab (Bh (xs:=a0) underlying105 I h0_0)<|Ae I ?_
 have hl2:=Bg h1_0
 refine Ab (Bh (xs:=a1) underlying105 I h1_0)<|Ab (FV.neqN (i:=a0.length) (j:=a1.length) I I)<|Aa<|MX.ifn I h (fun c3 h=>?_) (fun c3 h=>?_)
 refine Ar<|Ak<|Af<|Ae I<|Ab (Bh (xs:=a0) underlying105 I h0_0)<|Ab (FV.subI (i:=((a0.length:Nat):Int)) (j:=1) I I (by omega))<|Ai I<|Aa<|Aw<|tn h fun j1 M0 p0=>MX.lo (α:=Int) (fun d0=>[(0,v0_0),(1,v1_0),(5,vI d0)]) (fun d0=>[]) (fun d0=>d0) (((a0.length:Nat):Int) - 1) M0 hS0 ?_
 rintro c1 d0 k1 H0 k0 I0 h
 unfold aX_l1 at h
 try dsimp only at h
 refine Ak<|Af<|Ae I<|Ab (FV.geq (i:=d0) (j:=0) I I)<|Aa<|Bb I h (fun C0 h=>?_) (fun C0 h=>?_)
 refine Ar<|Ak<|Aw<|Aw<|Ak<|du 10 fun b0 g0=>Rv 0 b0 I g0 (fun _=>Aj I)<|Rv 1 b0 I g0 (fun _=>Aj I)<|bk h fun q0 U0 h=>?_
 obtain ⟨v0,V0⟩:=bY U0
 obtain ⟨Z0,d1,t0,y0,F0,P0,A0⟩:=Bv (AO h0_0 k0) V0
 have J0:F0 = [vU q0]:=P0; subst J0
 refine Rv 2 b0 I g0 (fun _=>BJ 1 (d0.toNat) I t0 I v0 y0)<|Rx 3 768 b0 I g0 (Bx I (A0 0 _ I))<|Rv 4 b0 I g0 (fun _=>Aj I)<|Rv 5 b0 I g0 (fun _=>Aj I)<|bk h fun s0 W0 h=>?_
 obtain ⟨x0,X0⟩:=bY W0
 obtain ⟨b1,g1,u0,z0,G0,Q0,B0⟩:=Bv (AO h1_0 k0) X0
 have K0:G0 = [vU s0]:=Q0; subst K0
 refine Rv 6 b0 I g0 (fun _=>BJ 1 (d0.toNat) I u0 I x0 z0)<|Rx 7 768 b0 I g0 (Bx I (B0 0 _ I))<|Rv 8 b0 I g0 (fun _=>FV.lssU (a:=q0) (b:=s0) I I)<|Rv 9 b0 I g0 (fun _=>Bk I)<|AN (dk b0)<|Bb I h (fun D0 h=>?_) (fun D0 h=>?_)
 refine Af<|Ai I<|Aa ?_
 have h:=dy h p0
 refine Au I<|By hb0 func171 I I ?_
 cases h
 exact k0.gv
 refine Ak<|du 10 fun c0 j0=>Rv 0 c0 I j0 (fun _=>Aj I)<|Rv 1 c0 I j0 (fun _=>Aj I)<|Rv 2 c0 I j0 (fun _=>BJ 1 (d0.toNat) I t0 I v0 y0)<|Rx 3 768 c0 I j0 (Bx I (A0 0 _ I))<|Rv 4 c0 I j0 (fun _=>Aj I)<|Rv 5 c0 I j0 (fun _=>Aj I)<|Rv 6 c0 I j0 (fun _=>BJ 1 (d0.toNat) I u0 I x0 z0)<|Rx 7 768 c0 I j0 (Bx I (B0 0 _ I))<|Rv 8 c0 I j0 (fun _=>FV.gtrU (a:=q0) (b:=s0) I I)<|Rv 9 c0 I j0 (fun _=>Bk I)<|AN (dk c0)<|Bb I h (fun E0 h=>?_) (fun E0 h=>?_)
 refine Af<|Ai I<|Aa ?_
 have h:=dy h p0
 refine Au I<|By hb0 func171 I I ?_
 cases h
 exact k0.gv
 refine Ar<|Ay<|Ay<|Ap<|Ae I<|bk h fun Y0 R0 h=>Ab (FV.subc (i:=d0) (j:=1) I I R0)<|Ai I<|Aa<|H0 Y0 k0 I0 h
 refine Bd I ?_
 have h:=cx h p0
 try dsimp only at h
 refine Af<|Ai I<|Aa<|Au I<|By hb0 func171 I I ?_
 cases h
 exact k0.gv
 refine Af<|Ae I<|Ab (Bh (xs:=a0) underlying105 I h0_0)<|Ae I<|Ab (Bh (xs:=a1) underlying105 I h1_0)<|Ab (FV.subI (i:=((a0.length:Nat):Int)) (j:=((a1.length:Nat):Int)) I I (by omega))<|Ai I<|Aa<|Au I<|By hb0 func171 I I ?_
 cases h
 exact hS0.gv
def bh_l1 (_n:Nat) (a0:List Ua) (a1:List Ua) (j0:Ua × Nat × (List Ua) -> Oa (List Ua)):Ua × Nat × (List Ua) -> Oa (List Ua)
  | (k0,b0,c0)=>(if b0 < a0.length then (a0[b0]?).bind fun q0=>jn (fun p0=>(sub64 q0 p0 k0).bind fun g0=>(c0[b0]?).bind fun _x193=>(put c0 ((b0:Nat):Int) g0.1).bind fun t0=>j0 (g0.2,b0 + 1,t0)) (fun d0=>(if b0 < a1.length then (a1[b0]?).bind fun s0=>d0 s0 else d0 (0:Ua))) else some c0)
def bh_p (n:Nat) (a0:List Ua) (a1:List Ua):Oa (List Ua):=
  (mk ((a0.length:Nat):Int) (0:Ua)).bind fun b0=>Option.bind (az (bh_l1 n a0 a1) n (0,0,b0)) (fun c0=>some c0)
theorem bh_c (n:Nat) {L w} (hL:hl L w) {a0:List Ua} {v0_0:Vc} (h0_0:Rep.R w L [v0_0] a0) {a1:List Ua} {v1_0:Vc} (h1_0:Rep.R w L [v1_0] a1)  {r:List Ua} (h:bh_p n a0 a1 = some r) :
 Cl 172 #[v0_0,v1_0] w (ar w fun w' u=>∃ v0_0:Vc,u = v0_0/\Rep.R w' L [v0_0] r):=by
 unfold bh_p at h
 refine AT func172 I I I fun _ cs0 hb0=>Af<|Ai I<|Aa<|Af<|Ae I ?_
 have hl1:=Bg h0_0
 refine Ab (Bh (xs:=a0) underlying105 I h0_0)<|bk h fun H0 E0 h=>Am .plain I (Does.mk (α:=Ua) E0 (AS w) cW I) fun c2 k0 q0 W1=>Ai I<|Aa<|Af<|Ai I<|Aa<|Ak<|Af<|Ae I<|Ab (Bh (xs:=a0) underlying105 I (AO h0_0 q0))<|Ae I<|Aa<|Aw ?_
 obtain ⟨b2,v1,k1⟩:=aw h
 refine MX.lf (α:=Ua × Nat × (List Ua) × (List Vc)) (fun ⟨j0,b0,c0,d0⟩=>[(1,v1_0),(5,(.slice (some ⟨k0,0,none⟩) ((a0.length:Nat):Int).toNat ((a0.length:Nat):Int).toNat)),(6,vU j0),(13,v0_0),(14,vn a0.length),(15,vn b0)]) (fun ⟨j0,b0,c0,d0⟩=>[rr w 30 Ua (.slice (some ⟨k0,0,none⟩) ((a0.length:Nat):Int).toNat ((a0.length:Nat):Int).toNat) c0.length d0]) (fun ⟨j0,b0,c0,d0⟩ F0=>Cells F0 (bl [rr w 30 Ua (.slice (some ⟨k0,0,none⟩) ((a0.length:Nat):Int).toNat ((a0.length:Nat):Int).toNat) c0.length d0] ++ L) d0 c0) (fun ⟨j0,b0,c0,d0⟩=>(j0,b0,c0)) (0,0,H0,(List.replicate ((a0.length:Nat):Int).toNat [vW 0]).flatten) v1 q0 (AC (cs:=(List.replicate ((a0.length:Nat):Int).toNat [vW 0]).flatten) (xs:=H0) q0 L (Cells.mk E0 I)) ?_
 rintro M1 ⟨j0,b0,c0,d0⟩ F0 V0 g0 X0 A0 h
 unfold bh_l1 at h
 try dsimp only at h
 refine Af<|Ab (AY (i:=b0) (j:=a0.length) I I)<|Aa<|Ak<|Bb I h (fun K0 h=>?_) (fun K0 h=>?_)
 refine Ar<|Ak<|Aw<|Af<|Ae I<|bk h fun x0 B1 h=>?_
 obtain ⟨J1,Q1,b1,p1,P0,x1,s1⟩:=Bv (AO h0_0 g0) B1
 have c1:P0 = [vU x0]:=x1; subst c1
 refine Ab (BJ 1 b0 I b1 I I p1)<|BH I (s1 0 _ I)<|Ai I<|Ai I<|Aa<|Af<|Ai I<|Aa<|Ak<|Af<|Ae I<|Ae I ?_
 have v0:=AO h1_0 g0
 have Y1:=Bg v0
 refine Ab (Bh (xs:=a1) underlying105 I v0)<|Ab (AY (i:=b0) (j:=a1.length) I I)<|Aa<|MX.jo (α:=Ua) (fun p0=>[(1,v1_0),(5,(.slice (some ⟨k0,0,none⟩) ((a0.length:Nat):Int).toNat ((a0.length:Nat):Int).toNat)),(6,vU j0),(13,v0_0),(14,vn a0.length),(15,vn b0),(7,vn b0),(8,vU x0),(9,vU p0)]) (fun p0=>[rr w 30 Ua (.slice (some ⟨k0,0,none⟩) ((a0.length:Nat):Int).toNat ((a0.length:Nat):Int).toNat) c0.length d0]) (fun p0=>p0) g0 h ?_ ?_
 rintro p0 g2 s0 z0 h
 try dsimp only at h
 refine Ap<|Ae I<|Ae I<|Ae I<|Ae I<|Ae I<|bk h fun I1 F1 h=>Ab (FV.sub64 (a:=x0) (b:=p0) (c:=j0) func193 I I I I I I I F1)<|Ae I<|Ab (Ac I I)<|Ab (Ac I I)<|bk h fun G1 C1 h=>?_
 have D0:=AK A0 z0
 obtain ⟨I0,R1,u0,C0,Q0,y1,Z1⟩:=St.nth (α:=Ua) s0 .hd D0 C1
 obtain ⟨J0,U1,B0⟩:=St.nthOwn (α:=Ua) s0 .hd C0
 obtain rfl:I0 = ⟨J0,0,none⟩:=by rw [B0] at u0; cases u0; rfl
 have d1:Q0 = [vU G1]:=y1; subst d1
 refine Ab (BJ 1 b0 I u0 I I C0)<|bk h fun H1 E1 h=>RG.acts' .plain (Acts.set (α:=Ua) (i:=b0) E1 s0 B0 (fun _=>.hd) D0 I I I I I I) fun d2 ⟨R0,W0,Y0,Z0⟩=>Ai I<|Aa<|Ay<|Ap<|Ab (Bj (i:=b0) (j:=1) I I (by omega))<|Ae I<|Aa<|V0 (I1.2,b0 + 1,H1,R0) W0 (Tt X0 (Tt z0 Y0)) Z0 h
 intro P1 y0 h
 try dsimp only at h
 refine Bb I h (fun M0 h=>?_) (fun M0 h=>?_)
 refine Ap<|Ae I<|Ae I<|bk h fun G0 D1 h=>?_
 obtain ⟨K1,V1,g1,q1,U0,z1,u1⟩:=Bv v0 D1
 have j1:U0 = [vU G0]:=z1; subst j1
 refine Ab (BJ 1 b0 I g1 I I q1)<|BH I (u1 0 _ I)<|Ai I<|Aa<|y0 G0 g0 (Tr.refl _ _) h
 refine Ar<|y0 (0:Ua) g0 (Tr.refl _ _) h
 refine Bd I ?_
 have h:=k1 _ h
 try dsimp only at h
 refine Af<|Ae I<|Ai I<|Aa<|Au I ?_
 have t0:=Bl g0 .hd
 have X1:=Bm g0 .hd
 have A1:=Bn (α:=Ua) (v:=(.slice (some ⟨k0,0,none⟩) ((a0.length:Nat):Int).toNat ((a0.length:Nat):Int).toNat)) (xs:=c0) t0 L (Ba (α:=Ua) g0 .hd A0 hL)
 refine By hb0 func172 I I ?_
 cases h
 exact ⟨t0.ag,fun w9 hw9=>⟨(.slice (some ⟨k0,0,none⟩) ((a0.length:Nat):Int).toNat ((a0.length:Nat):Int).toNat),I,t0.kd A1 hw9⟩⟩
def dn:List UInt8:=[0,1,2,2,3,3,3,3,4,4,4,4,4,4,4,4,5,5,5,5,5,5,5,5,5,5,5,5,5,5,5,5,6,6,6,6,6,6,6,6,6,6,6,6,6,6,6,6,6,6,6,6,6,6,6,6,6,6,6,6,6,6,6,6,7,7,7,7,7,7,7,7,7,7,7,7,7,7,7,7,7,7,7,7,7,7,7,7,7,7,7,7,7,7,7,7,7,7,7,7,7,7,7,7,7,7,7,7,7,7,7,7,7,7,7,7,7,7,7,7,7,7,7,7,7,7,7,7,8,8,8,8,8,8,8,8,8,8,8,8,8,8,8,8,8,8,8,8,8,8,8,8,8,8,8,8,8,8,8,8,8,8,8,8,8,8,8,8,8,8,8,8,8,8,8,8,8,8,8,8,8,8,8,8,8,8,8,8,8,8,8,8,8,8,8,8,8,8,8,8,8,8,8,8,8,8,8,8,8,8,8,8,8,8,8,8,8,8,8,8,8,8,8,8,8,8,8,8,8,8,8,8,8,8,8,8,8,8,8,8,8,8,8,8,8,8,8,8,8,8,8,8,8,8,8,8]
def bn_p (_n:Nat) (a0:Ua):Oa Int:=
  jn (fun (u2,i3)=>jn (fun (b0,g0)=>jn (fun (q0,s0)=>(dn[(aq q0).toNat]?).bind fun t0=>(chk (s0 + ((t0.toNat:Nat):Int))).bind fun j0=>some j0) (fun d0=>(if (256:Ua) <= b0 then (chk (g0 + 8)).bind fun k0=>d0 (shrU b0 8,k0) else d0 (b0,g0)))) (fun c0=>(if (65536:Ua) <= u2 then (chk (((i3:Nat):Int) + 16)).bind fun p0=>c0 (shrU u2 16,p0) else c0 (u2,((i3:Nat):Int))))) (fun J7=>(if (4294967296:Ua) <= a0 then J7 (shrU a0 32,32) else J7 (a0,0)))
theorem bn_c (n:Nat) {L w} (_hL:hl L w) (a0:Ua)  {r:Int} (h:bn_p n a0 = some r) :
 Cl 203 #[vU a0] w (ar w fun _ u=>u = vI r):=by
 unfold bn_p at h
 have hS0:=AS w
 refine AT func203 I I I fun _ cs0 hb0=>Af<|Ai I<|Aa<|Ak<|Af<|Ae I<|Ab (FV.geqU (a:=a0) (b:=(4294967296:Ua)) I I)<|Aa<|MX.jo (α:=Ua × Nat) (fun ⟨u2,i3⟩=>[(0,vU u2),(2,vn i3)]) (fun ⟨u2,i3⟩=>[]) (fun ⟨u2,i3⟩=>(u2,i3)) hS0 h ?_ ?_
 rintro ⟨u2,i3⟩ wx3 hS4 hT5 h
 try dsimp only at h
 refine Ak<|Af<|Ae I<|Ab (FV.geqU (a:=u2) (b:=(65536:Ua)) I I)<|Aa<|MX.jo (α:=Ua × Int) (fun ⟨b0,d0⟩=>[(0,vU b0),(2,vI d0)]) (fun ⟨b0,d0⟩=>[]) (fun ⟨b0,d0⟩=>(b0,d0)) hS4 h ?_ ?_
 rintro ⟨b0,d0⟩ J0 j0 F0 h
 try dsimp only at h
 refine Ak<|Af<|Ae I<|Ab (FV.geqU (a:=b0) (b:=(256:Ua)) I I)<|Aa<|MX.jo (α:=Ua × Int) (fun ⟨c0,g0⟩=>[(0,vU c0),(2,vI g0)]) (fun ⟨c0,g0⟩=>[]) (fun ⟨c0,g0⟩=>(c0,g0)) j0 h ?_ ?_
 rintro ⟨c0,g0⟩ K0 v0 G0 h
 try dsimp only at h
 refine Af<|Ae I<|Ae I<|Ab (FV.conv8 (a:=c0) underlying30 underlying5 I)<|bk h fun k0 A0 h=>Ab (FV.strIdx (k:=(aq c0).toNat) (tab:=dn) underlying9 I I I I A0) ?_
 have H0:=k0.toNat_lt
 refine Ab (FV.convN (i:=k0.toNat) underlying5 underlying3 I (by omega))<|bk h fun I0 x0 h=>Ab (FV.addc (i:=g0) (j:=((k0.toNat:Nat):Int)) I I x0)<|Ai I<|Aa<|Au I<|By hb0 func203 I I ?_
 cases h
 exact v0.gv
 intro E0 q0 h
 try dsimp only at h
 refine Bb I h (fun s0 h=>?_) (fun s0 h=>?_)
 refine Af<|Ae I<|Ab (FV.shrU (a:=b0) (j:=8) I I)<|Ai I<|Aa<|Ap<|Ae I<|bk h fun B0 y0 h=>Ab (FV.addc (i:=d0) (j:=8) I I y0)<|Ai I<|Aa<|q0 (shrU b0 8,B0) j0 (Tr.refl _ _) h
 refine Ar<|q0 (b0,d0) j0 (Tr.refl _ _) h
 intro D0 p0 h
 try dsimp only at h
 refine Bb I h (fun t0 h=>?_) (fun t0 h=>?_)
 refine Af<|Ae I<|Ab (FV.shrU (a:=u2) (j:=16) I I)<|Ai I<|Aa<|Ap<|Ae I<|bk h fun C0 z0 h=>Ab (FV.addc (i:=((i3:Nat):Int)) (j:=16) I I z0)<|Ai I<|Aa<|p0 (shrU u2 16,C0) hS4 (Tr.refl _ _) h
 refine Ar<|p0 (u2,((i3:Nat):Int)) hS4 (Tr.refl _ _) h
 intro J7 hJ8 h
 try dsimp only at h
 refine Bb I h (fun u0 h=>?_) (fun u0 h=>?_)
 refine Af<|Ae I<|Ab (FV.shrU (a:=a0) (j:=32) I I)<|Ai I<|Aa<|Ap<|Ai I<|Aa<|hJ8 (shrU a0 32,32) hS0 (Tr.refl _ _) h
 refine Ar<|hJ8 (a0,0) hS0 (Tr.refl _ _) h
def aP_p (n:Nat) (a0:Ua):Oa Int:=
  (bn_p n a0).bind fun y1=>(chk (64 - y1)).bind fun s2=>some s2
theorem aP_c (n:Nat) {L w} (hL:hl L w) (a0:Ua)  {r:Int} (h:aP_p n a0 = some r) :
 Cl 205 #[vU a0] w (ar w fun _ u=>u = vI r):=by
 unfold aP_p at h
 have hS0:=AS w
 refine AT func205 I I I fun _ cs0 hb0=>Af<|Ai I<|Aa<|Af<|Ae I<|bk h fun y1 hy1 h=>Bo (vI y1) (bd 203) I (e1 I) (fun w9 hw9=>bn_c n (hS0.hL0 hL hw9) a0 hy1) I<|bk h fun s2 hs2 h=>Ab (FV.subc (i:=64) (j:=y1) I I hs2)<|Ai I<|Aa<|Au I<|By hb0 func205 I I ?_
 cases h
 exact hS0.gv
def aH_l1 (_n:Nat) (a2:Ua) (y8:Int) (a1:Ua) (d0:Ua × Ua -> Oa Ua):Ua × Ua -> Oa Ua
  | (b0,c0)=>(if (4294967296:Ua) <= b0 then (if (4294967296:Ua) <= (c0 + (shrU (shlU a2 (ai y8).toNat) 32)) then some (b0 - (1:Ua)) else d0 (b0 - (1:Ua),c0 + (shrU (shlU a2 (ai y8).toNat) 32))) else (if (((4294967296:Ua) * c0) + ((shlU a1 (ai y8).toNat) &&& (4294967295:Ua))) < (b0 * ((shlU a2 (ai y8).toNat) &&& (4294967295:Ua))) then (if (4294967296:Ua) <= (c0 + (shrU (shlU a2 (ai y8).toNat) 32)) then some (b0 - (1:Ua)) else d0 (b0 - (1:Ua),c0 + (shrU (shlU a2 (ai y8).toNat) 32))) else some b0))
def aH_l2 (_n:Nat) (a2:Ua) (y8:Int) (a1:Ua) (d0:Ua × Ua -> Oa Ua):Ua × Ua -> Oa Ua
  | (b0,c0)=>(if (4294967296:Ua) <= b0 then (if (4294967296:Ua) <= (c0 + (shrU (shlU a2 (ai y8).toNat) 32)) then some (b0 - (1:Ua)) else d0 (b0 - (1:Ua),c0 + (shrU (shlU a2 (ai y8).toNat) 32))) else (if (((4294967296:Ua) * c0) + (shrU (shlU a1 (ai y8).toNat) 32)) < (b0 * ((shlU a2 (ai y8).toNat) &&& (4294967295:Ua))) then (if (4294967296:Ua) <= (c0 + (shrU (shlU a2 (ai y8).toNat) 32)) then some (b0 - (1:Ua)) else d0 (b0 - (1:Ua),c0 + (shrU (shlU a2 (ai y8).toNat) 32))) else some b0))
def aH_p (n:Nat) (a0:Ua) (a1:Ua) (a2:Ua):Oa (Ua × Ua):=
  (if a2 = (0:Ua) then none else (if a2 <= a0 then none else (if a0 = (0:Ua) then (ik a1 a2).bind fun s6=>(kL a1 a2).bind fun s7=>some (s6,s7) else (aP_p n a2).bind fun y8=>(ik ((shlU a0 (ai y8).toNat) ||| (shrU a1 ((64:Ua) - (ai y8)).toNat)) (shrU (shlU a2 (ai y8).toNat) 32)).bind fun s9=>(some (((shlU a0 (ai y8).toNat) ||| (shrU a1 ((64:Ua) - (ai y8)).toNat)) - (s9 * (shrU (shlU a2 (ai y8).toNat) 32)))).bind fun p0=>jn (fun b0=>(some (((shlU a0 (ai y8).toNat) ||| (shrU a1 ((64:Ua) - (ai y8)).toNat)) * (4294967296:Ua))).bind fun c0=>(ik ((c0 + (shrU (shlU a1 (ai y8).toNat) 32)) - (b0 * (shlU a2 (ai y8).toNat))) (shrU (shlU a2 (ai y8).toNat) 32)).bind fun d0=>(some (((c0 + (shrU (shlU a1 (ai y8).toNat) 32)) - (b0 * (shlU a2 (ai y8).toNat))) - (d0 * (shrU (shlU a2 (ai y8).toNat) 32)))).bind fun q0=>jn (fun g0=>(some (((c0 + (shrU (shlU a1 (ai y8).toNat) 32)) - (b0 * (shlU a2 (ai y8).toNat))) * (4294967296:Ua))).bind fun s0=>(some ((s0 + ((shlU a1 (ai y8).toNat) &&& (4294967295:Ua))) - (g0 * (shlU a2 (ai y8).toNat)))).bind fun t0=>some ((b0 * (4294967296:Ua)) + g0,shrU t0 (ai y8).toNat)) (fun k0=>Option.bind (az (aH_l1 n a2 y8 a1) n (d0,q0)) (k0))) (fun j0=>Option.bind (az (aH_l2 n a2 y8 a1) n (s9,p0)) (j0)))))
theorem aH_c (n:Nat) {L w} (hL:hl L w) (a0:Ua) (a1:Ua) (a2:Ua)  {r:Ua × Ua} (h:aH_p n a0 a1 a2 = some r) :
 Cl 186 #[vU a0,vU a1,vU a2] w (ar w fun _ u=>u = .tuple #[vU r.1,vU r.2]):=by
 unfold aH_p at h
 have hS0:=AS w
 refine AT func186 I I I fun _ cs0 hb0=>Af<|Ai I<|Ai I<|Aa<|Ak<|Af<|Ae I<|Ab (FV.eqlU (a:=a2) (b:=(0:Ua)) I I)<|Aa<|Bb I h (fun c1 h=>?_) (fun c1 h=>?_)
 refine Ap ?_
 cases h
 refine Ar<|Ak<|Af<|Ae I<|Ae I<|Ab (FV.leqU (a:=a2) (b:=a0) I I)<|Aa<|Bb I h (fun c2 h=>?_) (fun c2 h=>?_)
 refine Ap ?_
 cases h
 refine Ar<|Ak<|Af<|Ae I<|Ab (FV.eqlU (a:=a0) (b:=(0:Ua)) I I)<|Aa<|Bb I h (fun c3 h=>?_) (fun c3 h=>?_)
 refine Ak<|du 8 fun kt4 kp5=>Rv 0 kt4 I kp5 (fun _=>Aj I)<|Rv 1 kt4 I kp5 (fun _=>Aj I)<|bk h fun s6 hs6 h=>Rv 2 kt4 I kp5 (fun _=>FV.quoV (a:=a1) (b:=a2) I I hs6)<|Rv 3 kt4 I kp5 (fun _=>Aj I)<|Rv 4 kt4 I kp5 (fun _=>Aj I)<|bk h fun s7 hs7 h=>Rv 5 kt4 I kp5 (fun _=>FV.remV (a:=a1) (b:=a2) I I hs7)<|Rv 6 kt4 I kp5 (fun _=>Bk I)<|Rv 7 kt4 I kp5 (fun _=>Bk I)<|AN (dk kt4)<|Au I<|Aq hb0 func186 I (.cons (.tmp I) (.cons (.tmp I) .nil)) I ?_
 cases h
 exact hS0.gv
 refine Ar<|Af<|Ae I<|bk h fun y8 hy8 h=>Bo (vI y8) (bd 205) I (e1 I) (fun w9 hw9=>aP_c n (hS0.hL0 hL hw9) a2 hy8) I<|Ab (FV.convU (i:=y8) underlying3 underlying193 I)<|Ai I<|Aa<|Af<|Ae I<|Ae I<|Ab (FV.shlU (a:=a2) (j:=(ai y8).toNat) I I)<|Ai I<|Aa<|Af<|Ae I<|Ab (FV.shrU (a:=shlU a2 (ai y8).toNat) (j:=32) I I)<|Ai I<|Aa<|Af<|Ae I<|Ab (FV.andU (a:=shlU a2 (ai y8).toNat) (b:=(4294967295:Ua)) I I)<|Ai I<|Aa<|Af<|Ae I<|Ae I<|Ab (FV.shlU (a:=a0) (j:=(ai y8).toNat) I I)<|Ae I<|Ae I<|Ab (FV.subU (a:=(64:Ua)) (b:=ai y8) I I)<|Ab (FV.shrU (a:=a1) (j:=((64:Ua) - (ai y8)).toNat) I I)<|Ab (FV.orU (a:=shlU a0 (ai y8).toNat) (b:=shrU a1 ((64:Ua) - (ai y8)).toNat) I I)<|Ai I<|Aa<|Af<|Ae I<|Ae I<|Ab (FV.shlU (a:=a1) (j:=(ai y8).toNat) I I)<|Ai I<|Aa<|Af<|Ae I<|Ab (FV.shrU (a:=shlU a1 (ai y8).toNat) (j:=32) I I)<|Ai I<|Aa<|Af<|Ae I<|Ab (FV.andU (a:=shlU a1 (ai y8).toNat) (b:=(4294967295:Ua)) I I)<|Ai I<|Aa<|Af<|Ae I<|Ae I<|bk h fun s9 hs9 h=>Ab (FV.quoV (a:=(shlU a0 (ai y8).toNat) ||| (shrU a1 ((64:Ua) - (ai y8)).toNat)) (b:=shrU (shlU a2 (ai y8).toNat) 32) I I hs9)<|Ai I<|Aa<|Af<|Ae I ?_
 refine Ae I<|Ae I<|Ab (FV.mulU (a:=s9) (b:=shrU (shlU a2 (ai y8).toNat) 32) I I)<|bk h fun d1 W0 h=>Ab (FV.as (FV.subU (a:=(shlU a0 (ai y8).toNat) ||| (shrU a1 ((64:Ua) - (ai y8)).toNat)) (b:=s9 * (shrU (shlU a2 (ai y8).toNat) 32)) I I) (congrArg (fun z:Ua=>Value.int .u64 (z.toNat:Int)) (Option.some.inj W0)))<|Ai I<|Aa<|Ak<|Aw<|MX.xo (α:=Ua) 0 (fun b0=>[(2,vW ((shlU a2 (ai y8).toNat).toNat:Int)),(8,vW ((ai y8).toNat:Int)),(9,vW ((shrU (shlU a2 (ai y8).toNat) 32).toNat:Int)),(10,vW (((shlU a2 (ai y8).toNat) &&& (4294967295:Ua)).toNat:Int)),(11,vW (((shlU a0 (ai y8).toNat) ||| (shrU a1 ((64:Ua) - (ai y8)).toNat)).toNat:Int)),(13,vW ((shrU (shlU a1 (ai y8).toNat) 32).toNat:Int)),(14,vW (((shlU a1 (ai y8).toNat) &&& (4294967295:Ua)).toNat:Int)),(15,vU b0)]) (fun b0=>[]) (fun b0=>b0) hS0 I h ?_ ?_
 rintro b0 A1 D0 t1 h
 try dsimp only at h
 refine Af<|Ae I<|bk h fun p0 X0 h=>Ab (FV.as (FV.mulU (a:=(shlU a0 (ai y8).toNat) ||| (shrU a1 ((64:Ua) - (ai y8)).toNat)) (b:=(4294967296:Ua)) I I) (congrArg (fun z:Ua=>Value.int .u64 (z.toNat:Int)) (Option.some.inj X0)))<|Ae I<|Ab (FV.addU (a:=p0) (b:=shrU (shlU a1 (ai y8).toNat) 32) I I)<|Ae I<|Ae I<|Ab (FV.mulU (a:=b0) (b:=shlU a2 (ai y8).toNat) I I)<|Ab (FV.subU (a:=p0 + (shrU (shlU a1 (ai y8).toNat) 32)) (b:=b0 * (shlU a2 (ai y8).toNat)) I I)<|Ai I<|Aa<|Af<|Ae I<|Ae I<|bk h fun A0 V0 h=>Ab (FV.quoV (a:=(p0 + (shrU (shlU a1 (ai y8).toNat) 32)) - (b0 * (shlU a2 (ai y8).toNat))) (b:=shrU (shlU a2 (ai y8).toNat) 32) I I V0)<|Ai I<|Aa<|Af<|Ae I<|Ae I<|Ae I<|Ab (FV.mulU (a:=A0) (b:=shrU (shlU a2 (ai y8).toNat) 32) I I)<|bk h fun g1 Y0 h=>Ab (FV.as (FV.subU (a:=(p0 + (shrU (shlU a1 (ai y8).toNat) 32)) - (b0 * (shlU a2 (ai y8).toNat))) (b:=A0 * (shrU (shlU a2 (ai y8).toNat) 32)) I I) (congrArg (fun z:Ua=>Value.int .u64 (z.toNat:Int)) (Option.some.inj Y0)))<|Ai I<|Aa<|Ak<|Aw<|MX.xo (α:=Ua) 2 (fun k0=>[(2,vW ((shlU a2 (ai y8).toNat).toNat:Int)),(8,vW ((ai y8).toNat:Int)),(14,vW (((shlU a1 (ai y8).toNat) &&& (4294967295:Ua)).toNat:Int)),(15,vU b0),(17,vW (((p0 + (shrU (shlU a1 (ai y8).toNat) 32)) - (b0 * (shlU a2 (ai y8).toNat))).toNat:Int)),(18,vU k0)]) (fun k0=>[]) (fun k0=>k0) D0 I h ?_ ?_
 rintro k0 B1 Q0 u1 h
 try dsimp only at h
 refine Af<|Ae I<|Ab (FV.mulU (a:=b0) (b:=(4294967296:Ua)) I I)<|Ae I<|Ab (FV.addU (a:=b0 * (4294967296:Ua)) (b:=k0) I I)<|Ae I<|bk h fun E0 Z0 h=>Ab (FV.as (FV.mulU (a:=(p0 + (shrU (shlU a1 (ai y8).toNat) 32)) - (b0 * (shlU a2 (ai y8).toNat))) (b:=(4294967296:Ua)) I I) (congrArg (fun z:Ua=>Value.int .u64 (z.toNat:Int)) (Option.some.inj Z0)))<|Ae I<|Ab (FV.addU (a:=E0) (b:=(shlU a1 (ai y8).toNat) &&& (4294967295:Ua)) I I)<|Ae I<|Ae I<|Ab (FV.mulU (a:=k0) (b:=shlU a2 (ai y8).toNat) I I)<|bk h fun j1 b1 h=>Ab (FV.as (FV.subU (a:=E0 + ((shlU a1 (ai y8).toNat) &&& (4294967295:Ua))) (b:=k0 * (shlU a2 (ai y8).toNat)) I I) (congrArg (fun z:Ua=>Value.int .u64 (z.toNat:Int)) (Option.some.inj b1)))<|Ae I<|Ab (FV.shrU (a:=j1) (j:=(ai y8).toNat) I I)<|Ai I<|Ai I<|Aa<|Au I<|Aq hb0 func186 I (.cons (.tmp I) (.cons (.tmp I) .nil)) I ?_
 cases h
 exact Q0.gv
 intro s1 x0 h
 try dsimp only at h
 obtain ⟨v1,R0,y0⟩:=aw h
 refine MX.lo (α:=Ua × Ua) (fun ⟨c0,g0⟩=>[(2,vW ((shlU a2 (ai y8).toNat).toNat:Int)),(8,vW ((ai y8).toNat:Int)),(9,vW ((shrU (shlU a2 (ai y8).toNat) 32).toNat:Int)),(10,vW (((shlU a2 (ai y8).toNat) &&& (4294967295:Ua)).toNat:Int)),(14,vW (((shlU a1 (ai y8).toNat) &&& (4294967295:Ua)).toNat:Int)),(15,vU b0),(17,vW (((p0 + (shrU (shlU a1 (ai y8).toNat) 32)) - (b0 * (shlU a2 (ai y8).toNat))).toNat:Int)),(18,vU c0),(16,vU g0)]) (fun ⟨c0,g0⟩=>[]) (fun ⟨c0,g0⟩=>(c0,g0)) (A0,g1) R0 D0 ?_
 rintro k1 ⟨c0,g0⟩ y1 B0 q0 t0 h
 unfold aH_l1 at h
 try dsimp only at h
 refine Ak<|Af<|Ae I<|Ab (FV.geqU (a:=c0) (b:=(4294967296:Ua)) I I)<|Ae I<|RG.ifd (s:=104) I h (fun F0 h=>?_) (fun F0 h=>?_)
 refine Av<|Av<|Av<|Av<|Av<|Av<|Av<|Av<|RG.pt I I<|Aa<|AW I<|Ar<|Aw<|Af<|Ae I<|Ab (FV.subU (a:=c0) (b:=(1:Ua)) I I)<|Ai I<|Aa<|Af<|Ae I<|Ae I<|Ab (FV.addU (a:=g0) (b:=shrU (shlU a2 (ai y8).toNat) 32) I I)<|Ai I<|Aa<|Af<|Ae I<|Ab (FV.geqU (a:=g0 + (shrU (shlU a2 (ai y8).toNat) 32)) (b:=(4294967296:Ua)) I I)<|Aa<|Bb I h (fun G0 h=>?_) (fun G0 h=>?_)
 refine Bd I ?_
 have h:=y0 _ h
 try dsimp only at h
 exact x0 (c0 - (1:Ua)) q0 t0 h
 refine Ar<|Ay<|B0 (c0 - (1:Ua),g0 + (shrU (shlU a2 (ai y8).toNat) 32)) q0 t0 h
 refine Ax (Aj I)<|Ax (Aj I)<|Ax (FV.mulU (a:=c0) (b:=(shlU a2 (ai y8).toNat) &&& (4294967295:Ua)) I I)<|Ax (Aj I)<|Ax (FV.mulU (a:=(4294967296:Ua)) (b:=g0) I I)<|Ax (Aj I)<|Ax (FV.addU (a:=(4294967296:Ua) * g0) (b:=(shlU a1 (ai y8).toNat) &&& (4294967295:Ua)) I I)<|Ax (FV.gtrU (a:=c0 * ((shlU a2 (ai y8).toNat) &&& (4294967295:Ua))) (b:=((4294967296:Ua) * g0) + ((shlU a1 (ai y8).toNat) &&& (4294967295:Ua))) I I)<|Bp I I<|Aa<|Bb I h (fun H0 h=>?_) (fun H0 h=>?_)
 refine Ar<|Aw<|Af<|Ae I<|Ab (FV.subU (a:=c0) (b:=(1:Ua)) I I)<|Ai I<|Aa<|Af<|Ae I<|Ae I<|Ab (FV.addU (a:=g0) (b:=shrU (shlU a2 (ai y8).toNat) 32) I I)<|Ai I<|Aa<|Af<|Ae I<|Ab (FV.geqU (a:=g0 + (shrU (shlU a2 (ai y8).toNat) 32)) (b:=(4294967296:Ua)) I I)<|Aa<|Bb I h (fun I0 h=>?_) (fun I0 h=>?_)
 refine Bd I ?_
 have h:=y0 _ h
 try dsimp only at h
 exact x0 (c0 - (1:Ua)) q0 t0 h
 refine Ar<|Ay<|B0 (c0 - (1:Ua),g0 + (shrU (shlU a2 (ai y8).toNat) 32)) q0 t0 h
 refine Bd I ?_
 have h:=y0 _ h
 try dsimp only at h
 exact x0 c0 q0 t0 h
 intro q1 v0 h
 try dsimp only at h
 obtain ⟨x1,U0,z0⟩:=aw h
 refine MX.lo (α:=Ua × Ua) (fun ⟨d0,j0⟩=>[(2,vW ((shlU a2 (ai y8).toNat).toNat:Int)),(8,vW ((ai y8).toNat:Int)),(9,vW ((shrU (shlU a2 (ai y8).toNat) 32).toNat:Int)),(10,vW (((shlU a2 (ai y8).toNat) &&& (4294967295:Ua)).toNat:Int)),(11,vW (((shlU a0 (ai y8).toNat) ||| (shrU a1 ((64:Ua) - (ai y8)).toNat)).toNat:Int)),(13,vW ((shrU (shlU a1 (ai y8).toNat) 32).toNat:Int)),(14,vW (((shlU a1 (ai y8).toNat) &&& (4294967295:Ua)).toNat:Int)),(15,vU d0),(16,vU j0)]) (fun ⟨d0,j0⟩=>[]) (fun ⟨d0,j0⟩=>(d0,j0)) (s9,d1) U0 hS0 ?_
 rintro p1 ⟨d0,j0⟩ z1 C0 s0 u0 h
 unfold aH_l2 at h
 try dsimp only at h
 refine Ak<|Af<|Ae I<|Ab (FV.geqU (a:=d0) (b:=(4294967296:Ua)) I I)<|Ae I<|RG.ifd (s:=69) I h (fun J0 h=>?_) (fun J0 h=>?_)
 refine Av<|Av<|Av<|Av<|Av<|Av<|Av<|Av<|RG.pt I I<|Aa<|AW I<|Ar<|Aw<|Af<|Ae I<|Ab (FV.subU (a:=d0) (b:=(1:Ua)) I I)<|Ai I<|Aa<|Af<|Ae I<|Ae I<|Ab (FV.addU (a:=j0) (b:=shrU (shlU a2 (ai y8).toNat) 32) I I)<|Ai I<|Aa<|Af<|Ae I<|Ab (FV.geqU (a:=j0 + (shrU (shlU a2 (ai y8).toNat) 32)) (b:=(4294967296:Ua)) I I)<|Aa<|Bb I h (fun K0 h=>?_) (fun K0 h=>?_)
 refine Bd I ?_
 have h:=z0 _ h
 try dsimp only at h
 exact v0 (d0 - (1:Ua)) s0 u0 h
 refine Ar<|Ay<|C0 (d0 - (1:Ua),j0 + (shrU (shlU a2 (ai y8).toNat) 32)) s0 u0 h
 refine Ax (Aj I)<|Ax (Aj I)<|Ax (FV.mulU (a:=d0) (b:=(shlU a2 (ai y8).toNat) &&& (4294967295:Ua)) I I)<|Ax (Aj I)<|Ax (FV.mulU (a:=(4294967296:Ua)) (b:=j0) I I)<|Ax (Aj I)<|Ax (FV.addU (a:=(4294967296:Ua) * j0) (b:=shrU (shlU a1 (ai y8).toNat) 32) I I)<|Ax (FV.gtrU (a:=d0 * ((shlU a2 (ai y8).toNat) &&& (4294967295:Ua))) (b:=((4294967296:Ua) * j0) + (shrU (shlU a1 (ai y8).toNat) 32)) I I)<|Bp I I<|Aa<|Bb I h (fun M0 h=>?_) (fun M0 h=>?_)
 refine Ar<|Aw<|Af<|Ae I<|Ab (FV.subU (a:=d0) (b:=(1:Ua)) I I)<|Ai I<|Aa<|Af<|Ae I<|Ae I<|Ab (FV.addU (a:=j0) (b:=shrU (shlU a2 (ai y8).toNat) 32) I I)<|Ai I<|Aa<|Af<|Ae I<|Ab (FV.geqU (a:=j0 + (shrU (shlU a2 (ai y8).toNat) 32)) (b:=(4294967296:Ua)) I I)<|Aa<|Bb I h (fun P0 h=>?_) (fun P0 h=>?_)
 refine Bd I ?_
 have h:=z0 _ h
 try dsimp only at h
 exact v0 (d0 - (1:Ua)) s0 u0 h
 refine Ar<|Ay<|C0 (d0 - (1:Ua),j0 + (shrU (shlU a2 (ai y8).toNat) 32)) s0 u0 h
 refine Bd I ?_
 have h:=z0 _ h
 try dsimp only at h
 exact v0 d0 s0 u0 h
def bK_p (n:Nat) (a0:List Ua):Oa Int:=
  (if a0.length = 0 then some (0:Int) else (chk (64 * ((a0.length:Nat):Int))).bind fun s3=>(idx a0 (((a0.length:Nat):Int) - 1)).bind fun x4=>(aP_p n x4).bind fun c0=>(chk (s3 - c0)).bind fun b0=>some b0)
theorem bK_c (n:Nat) {L w} (hL:hl L w) {a0:List Ua} {v0_0:Vc} (h0_0:Rep.R w L [v0_0] a0)  {r:Int} (h:bK_p n a0 = some r) :
 Cl 187 #[v0_0] w (ar w fun _ u=>u = vI r):=by
 unfold bK_p at h
 have hS0:=AS w
 refine AT func187 I I I fun _ cs0 hb0=>Af<|Ai I<|Aa<|Ak<|Af<|Ae I ?_
 have hl1:=Bg h0_0
 refine Ab (Bh (xs:=a0) underlying105 I h0_0)<|Ab (FV.eqlN (i:=a0.length) (j:=0) I I)<|Aa<|Bb I h (fun c2 h=>?_) (fun c2 h=>?_)
 refine Af<|Ai I<|Aa<|Au I<|By hb0 func187 I I ?_
 cases h
 exact hS0.gv
 refine Ar<|Af<|Ae I<|Ab (Bh (xs:=a0) underlying105 I h0_0)<|bk h fun s3 hs3 h=>Ab (FV.mulc (i:=64) (j:=((a0.length:Nat):Int)) I I hs3)<|Ae I<|Ae I<|Ab (Bh (xs:=a0) underlying105 I h0_0)<|Ab (FV.subI (i:=((a0.length:Nat):Int)) (j:=1) I I (by omega))<|bk h fun x4 hx4 h=>?_
 obtain ⟨hi5,hx6⟩:=bY hx4
 obtain ⟨A7,c8,he9,g0,c0,k0,j0⟩:=Bv h0_0 hx6
 have d0:c0 = [vU x4]:=k0; subst d0
 refine Ab (FV.idxAddr (m:=1) (i:=(((a0.length:Nat):Int) - 1).toNat) I I he9 I hi5 g0)<|BH I (j0 0 _ I)<|bk h fun b0 q0 h=>Bo (vI b0) (bd 205) I (e1 I) (fun w9 hw9=>aP_c n (hS0.hL0 hL hw9) x4 q0) I<|bk h fun s0 p0 h=>Ab (FV.subc (i:=s3) (j:=b0) I I p0)<|Ai I<|Aa<|Au I<|By hb0 func187 I I ?_
 cases h
 exact hS0.gv
def bB_l1 (_n:Nat) (a0:List Ua) (a1:Int) (g0:Nat × (List Ua) -> Oa (List Ua)):Nat × (List Ua) -> Oa (List Ua)
  | (b0,c0)=>(if b0 < a0.length then (a0[b0]?).bind fun p0=>(ic a1 64).bind fun t0=>(chk (((b0:Nat):Int) + t0)).bind fun j0=>(idx c0 j0).bind fun B0=>(ij a1 64).bind fun u0=>(ek u0).bind fun q0=>(put c0 ((j0.toNat:Nat):Int) (B0 ||| (shlU p0 q0))).bind fun d0=>(ij a1 64).bind fun v0=>(if 0 < v0 then (ic a1 64).bind fun x0=>(chk (((b0:Nat):Int) + x0)).bind fun y0=>(chk (y0 + 1)).bind fun k0=>(ij a1 64).bind fun z0=>(chk (64 - z0)).bind fun A0=>(ek A0).bind fun s0=>(idx d0 k0).bind fun _x218=>(put d0 ((k0.toNat:Nat):Int) (shrU p0 s0)).bind fun C0=>g0 (b0 + 1,C0) else g0 (b0 + 1,d0)) else some c0)
def bB_p (n:Nat) (a0:List Ua) (a1:Int):Oa (List Ua):=
  (ic a1 64).bind fun s2=>(chk (((a0.length:Nat):Int) + s2)).bind fun s3=>(chk (s3 + 1)).bind fun s4=>(mk s4 (0:Ua)).bind fun b0=>Option.bind (az (bB_l1 n a0 a1) n (0,b0)) (fun c0=>(ay_p n false c0).bind fun d0=>some d0.fj)
theorem bB_c (n:Nat) {L w} (hL:hl L w) {a0:List Ua} {v0_0:Vc} (h0_0:Rep.R w L [v0_0] a0) {a1:Int}  {r:List Ua} (h:bB_p n a0 a1 = some r) :
 Cl 188 #[v0_0,vI a1] w (ar w fun w' u=>∃ v0_0:Vc,u = v0_0/\Rep.R w' L [v0_0] r):=by
 unfold bB_p at h
 refine AT func188 I I I fun _ cs0 hb0=>Af<|Ai I<|Aa<|Af<|Ae I ?_
 have hl1:=Bg h0_0
 refine Ab (Bh (xs:=a0) underlying105 I h0_0)<|Ae I<|bk h fun s2 hs2 h=>Ab (FV.quoc (i:=a1) (j:=64) I I hs2)<|bk h fun s3 hs3 h=>Ab (FV.addc (i:=((a0.length:Nat):Int)) (j:=s2) I I hs3)<|bk h fun s4 hs4 h=>Ab (FV.addc (i:=s3) (j:=1) I I hs4)<|bk h fun U0 K0 h=>Am .plain I (Does.mk (α:=Ua) K0 (AS w) cW I) fun Z2 p0 u0 Q2=>Ai I<|Aa<|Ak<|Af<|Ae I<|Ab (Bh (xs:=a0) underlying105 I (AO h0_0 u0))<|Ae I<|Aa<|Aw ?_
 obtain ⟨X2,H1,A1⟩:=aw h
 refine MX.lf (α:=Nat × (List Ua) × (List Vc)) (fun ⟨c0,g0,j0⟩=>[(1,vI a1),(5,(.slice (some ⟨p0,0,none⟩) s4.toNat s4.toNat)),(15,v0_0),(16,vn a0.length),(17,vn c0)]) (fun ⟨c0,g0,j0⟩=>[rr w 30 Ua (.slice (some ⟨p0,0,none⟩) s4.toNat s4.toNat) g0.length j0]) (fun ⟨c0,g0,j0⟩ Q0=>Cells Q0 (bl [rr w 30 Ua (.slice (some ⟨p0,0,none⟩) s4.toNat s4.toNat) g0.length j0] ++ L) j0 g0) (fun ⟨c0,g0,j0⟩=>(c0,g0)) (0,U0,(List.replicate s4.toNat [vW 0]).flatten) H1 u0 (AC (cs:=(List.replicate s4.toNat [vW 0]).flatten) (xs:=U0) u0 L (Cells.mk K0 I)) ?_
 rintro H2 ⟨c0,g0,j0⟩ Q0 C0 k0 E0 x0 h
 unfold bB_l1 at h
 try dsimp only at h
 refine Af<|Ab (AY (i:=c0) (j:=a0.length) I I)<|Aa<|Ak<|Bb I h (fun Z0 h=>?_) (fun Z0 h=>?_)
 refine Ar<|Ak<|Aw<|Af<|Ae I<|bk h fun t0 b2 h=>?_
 obtain ⟨G2,I2,v1,C1,c1,I1,F1⟩:=Bv (AO h0_0 k0) b2
 have x1:c1 = [vU t0]:=I1; subst x1
 refine Ab (BJ 1 c0 I v1 I I C1)<|BH I (F1 0 _ I)<|Ai I<|Ai I<|Aa<|Ak<|du 13 fun b0 d0=>Rv 0 b0 I d0 (fun _=>Aj I)<|Rv 1 b0 I d0 (fun _=>Aj I)<|Rv 2 b0 I d0 (fun _=>Aj I)<|bk h fun u2 P1 h=>Rv 3 b0 I d0 (fun _=>FV.quoc (i:=a1) (j:=64) I I P1)<|bk h fun B0 Q1 h=>Rv 4 b0 I d0 (fun _=>FV.addc (i:=((c0:Nat):Int)) (j:=u2) I I Q1)<|bk h fun R0 c2 h=>?_
 obtain ⟨I0,d2⟩:=bY c2
 obtain ⟨V0,J2,s0,A0,d1,J1,G1⟩:=St.nth (α:=Ua) k0 .hd x0 d2
 obtain ⟨X0,K2,G0⟩:=St.nthOwn (α:=Ua) k0 .hd A0
 obtain rfl:V0 = ⟨X0,0,none⟩:=by rw [G0] at s0; cases s0; rfl
 have y1:d1 = [vU R0]:=J1; subst y1
 refine Rv 5 b0 I d0 (fun _=>BJ 1 (B0.toNat) I s0 I I0 A0)<|Rx 6 14336 b0 I d0 (Bx I (G1 0 _ I))<|Rv 7 b0 I d0 (fun _=>Aj I)<|Rv 8 b0 I d0 (fun _=>Aj I)<|bk h fun v2 R1 h=>Rv 9 b0 I d0 (fun _=>FV.remc (i:=a1) (j:=64) I I R1)<|bk h fun t2 D1 h=>Rv 10 b0 I d0 (fun _=>FV.shlI (a:=t0) (i:=v2) I I D1)<|Rv 11 b0 I d0 (fun _=>FV.orU (a:=R0) (b:=shlU t0 t2) I I)<|Rv 12 b0 I d0 (fun _=>BJ 1 (B0.toNat) I s0 I I0 A0)<|bk h fun D2 k2 h=>BK (i:=13) (rk b0) (RO.acts (m' :=16383) (sk b0) I I .plain (Acts.set (α:=Ua) (i:=B0.toNat) k2 k0 G0 (fun _=>.hd) x0 I I I I I I) (fun b3 ⟨g1,q0,F0,y0⟩=>?_))
 refine AN (dk b0)<|Af<|Ae I<|bk h fun x2 U1 h=>Ab (FV.remc (i:=a1) (j:=64) I I U1)<|Ab (FV.gtr (i:=x2) (j:=0) I I)<|Aa<|Bb I h (fun b1 h=>?_) (fun b1 h=>?_)
 refine Ap<|Ae I<|Ae I<|Ae I<|bk h fun y2 V1 h=>Ab (FV.quoc (i:=a1) (j:=64) I I V1)<|bk h fun z2 W1 h=>Ab (FV.addc (i:=((c0:Nat):Int)) (j:=y2) I I W1)<|bk h fun M0 X1 h=>Ab (FV.addc (i:=z2) (j:=1) I I X1)<|Ae I<|Ae I<|bk h fun A2 Y1 h=>Ab (FV.remc (i:=a1) (j:=64) I I Y1)<|bk h fun B2 Z1 h=>Ab (FV.subc (i:=64) (j:=A2) I I Z1)<|bk h fun W2 E1 h=>Ab (FV.shrI (a:=t0) (i:=B2) I I E1)<|bk h fun C2 g2 h=>?_
 obtain ⟨B1,j2⟩:=bY g2
 obtain ⟨W0,M2,z0,J0,j1,K1,V2⟩:=St.nth (α:=Ua) q0 .hd y0 j2
 obtain ⟨Y0,P2,H0⟩:=St.nthOwn (α:=Ua) q0 .hd J0
 obtain rfl:W0 = ⟨Y0,0,none⟩:=by rw [H0] at z0; cases z0; rfl
 have z1:j1 = [vU C2]:=K1; subst z1
 refine Ab (BJ 1 (M0.toNat) I z0 I B1 J0)<|bk h fun E2 p2 h=>RG.acts' .plain (Acts.set (α:=Ua) (i:=M0.toNat) p2 q0 H0 (fun _=>.hd) y0 I I I I I I) fun c3 ⟨k1,p1,q1,u1⟩=>Aa<|Ay<|Ap<|Ab (Bj (i:=c0) (j:=1) I I (by omega))<|Ae I<|Aa<|C0 (c0 + 1,E2,k1) p1 (Tt E0 (Tt F0 q1)) u1 h
 refine Ar<|Ay<|Ap<|Ab (Bj (i:=c0) (j:=1) I I (by omega))<|Ae I<|Aa<|C0 (c0 + 1,D2,g1) q0 (Tt E0 F0) y0 h
 refine Bd I ?_
 have h:=A1 _ h
 try dsimp only at h
 refine Af<|Ae I ?_
 have v0:=Bl k0 .hd
 have R2:=Bm k0 .hd
 refine bk h fun F2 q2 h=>jE (bd 166) I (e2 I I) (fun w9 hw9=>ay_c n (v0.hL hL hw9) (Ah (Bn (α:=Ua) (v:=(.slice (some ⟨p0,0,none⟩) s4.toNat s4.toNat)) (xs:=g0) v0 L (Ba (α:=Ua) k0 .hd x0 hL)) hw9) q2) I fun d3 Y2 s1 ⟨P0,hu_,M1⟩=>?_
 subst hu_
 obtain ⟨D0,U2⟩:=v0.agr s1
 refine Ab (FV.field1 (cs:=[.bool F2.fc,P0]) (off:=1) (m:=1) I I I I)<|Ai I<|Aa<|Au I<|By hb0 func188 I I ?_
 cases h
 exact ⟨D0.ag,fun w9 hw9=>⟨P0,I,D0.kd M1 hw9⟩⟩

def aJ_l1 (n:Nat) (a0:List Ua) (a1:List Ua) (j0:Ua × Int × (List Ua) -> Oa (Ua × (List Ua))):Ua × Int × (List Ua) -> Oa (Ua × (List Ua))
  | (d0,b0,c0)=>(if 0 <= b0 then (idx a0 b0).bind fun p0=>(a1[0]?).bind fun q0=>(aH_p n d0 p0 q0).bind fun g0=>(idx c0 b0).bind fun _x169=>(put c0 ((b0.toNat:Nat):Int) g0.1).bind fun s0=>(chk (b0 - 1)).bind fun k0=>j0 (g0.2,k0,s0) else some (d0,c0))
def aJ_l2 (n:Nat) (a1:List Ua) (p0:(List Ua) × Int × (List Ua) -> Oa ((List Ua) × (List Ua))):(List Ua) × Int × (List Ua) -> Oa ((List Ua) × (List Ua))
  | (c0,b0,d0)=>(if 0 <= b0 then (bB_p n a1 b0).bind fun k0=>(aX_p n c0 k0).bind fun z0=>jn (fun (v0,x0)=>(chk (b0 - 1)).bind fun s0=>p0 (v0,s0,x0)) (fun g0=>(if 0 <= z0 then (bh_p n c0 k0).bind fun A0=>(ay_p n false A0).bind fun B0=>(ic b0 64).bind fun j0=>(idx d0 j0).bind fun u0=>(ij b0 64).bind fun t0=>(ek t0).bind fun q0=>(put d0 ((j0.toNat:Nat):Int) (u0 ||| (shlU (1:Ua) q0))).bind fun y0=>g0 (B0.fj,y0) else g0 (c0,d0))) else some (d0,c0))
def aJ_p (n:Nat) (a0:List Ua) (a1:List Ua):Oa ((List Ua) × (List Ua)):=
  (mk ((a0.length:Nat):Int) (0:Ua)).bind fun b0=>(if a1.length = 1 then Option.bind (az (aJ_l1 n a0 a1) n (0,((a0.length:Nat):Int) - 1,b0)) (fun (d0,g0)=>(ay_p n false ([d0]:List Ua)).bind fun p0=>some (g0,p0.fj)) else (bK_p n a0).bind fun q0=>(bK_p n a1).bind fun s0=>(chk (q0 - s0)).bind fun c0=>Option.bind (az (aJ_l2 n a1) n (a0,c0,b0)) (fun (k0,j0)=>some (k0,j0)))
theorem aJ_c (n:Nat) {L w} (hL:hl L w) {a0:List Ua} {v0_0:Vc} (h0_0:Rep.R w L [v0_0] a0) {a1:List Ua} {v1_0:Vc} (h1_0:Rep.R w L [v1_0] a1)  {r:(List Ua) × (List Ua)} (h:aJ_p n a0 a1 = some r) :
 Cl 163 #[v0_0,v1_0] w (ar w fun w' u=>∃ v0_0 v1_0:Vc,u = .tuple #[v0_0,v1_0]/\Rep.R w' L [v0_0] r.1/\Rep.R w' L [v1_0] r.2):=by
 unfold aJ_p at h
 refine AT func163 I I I fun _ cs0 hb0=>Af<|Ai I<|Ai I<|Aa<|Af<|Ae I ?_
 have hl1:=Bg h0_0
 refine Ab (Bh (xs:=a0) underlying105 I h0_0)<|bk h fun g1 E1 h=>Am .plain I (Does.mk (α:=Ua) E1 (AS w) cW I) fun g5 c0 t0 Q4=>?_
 have u1:=AC (cs:=(List.replicate ((a0.length:Nat):Int).toNat [vW 0]).flatten) (xs:=g1) t0 L (Cells.mk E1 I)
 refine Ai I<|Aa<|Ak<|Af<|Ae I ?_
 have A1:=AO h1_0 t0
 have R4:=Bg A1
 refine Ab (Bh (xs:=a1) underlying105 I A1)<|Ab (FV.eqlN (i:=a1.length) (j:=1) I I)<|Aa<|Bb I h (fun b2 h=>?_) (fun b2 h=>?_)
 refine Af<|Ai I<|Aa<|Ak<|Af<|Ae I<|Ab (Bh (xs:=a0) underlying105 I (AO h0_0 t0))<|Ab (FV.subI (i:=((a0.length:Nat):Int)) (j:=1) I I (by omega))<|Ai I<|Aa<|Aw ?_
 obtain ⟨V4,u3,b3⟩:=aw h
 refine MX.lf (α:=Ua × Int × (List Ua) × (List Vc)) (fun ⟨g0,q0,z0,B0⟩=>[(0,v0_0),(1,v1_0),(4,(.slice (some ⟨c0,0,none⟩) ((a0.length:Nat):Int).toNat ((a0.length:Nat):Int).toNat)),(6,vU g0),(7,vI q0)]) (fun ⟨g0,q0,z0,B0⟩=>[rr w 30 Ua (.slice (some ⟨c0,0,none⟩) ((a0.length:Nat):Int).toNat ((a0.length:Nat):Int).toNat) z0.length B0]) (fun ⟨g0,q0,z0,B0⟩ H1=>Cells H1 (bl [rr w 30 Ua (.slice (some ⟨c0,0,none⟩) ((a0.length:Nat):Int).toNat ((a0.length:Nat):Int).toNat) z0.length B0] ++ L) B0 z0) (fun ⟨g0,q0,z0,B0⟩=>(g0,q0,z0)) (0,((a0.length:Nat):Int) - 1,g1,(List.replicate ((a0.length:Nat):Int).toNat [vW 0]).flatten) u3 t0 u1 ?_
 rintro E4 ⟨g0,q0,z0,B0⟩ H1 t2 C0 z2 V0 h
 unfold aJ_l1 at h
 try dsimp only at h
 refine Ak<|Af<|Ae I<|Ab (FV.geq (i:=q0) (j:=0) I I)<|Aa<|Bb I h (fun Z1 h=>?_) (fun Z1 h=>?_)
 refine Ar<|Ak<|Aw<|du 15 fun b0 d0=>Rv 0 b0 I d0 (fun _=>Aj I)<|Rv 1 b0 I d0 (fun _=>Aj I)<|Rv 2 b0 I d0 (fun _=>Aj I)<|Rv 3 b0 I d0 (fun _=>Aj I)<|Rv 4 b0 I d0 (fun _=>Aj I)<|bk h fun I1 P3 h=>?_
 obtain ⟨d3,Q3⟩:=bY P3
 obtain ⟨C4,H4,U2,j3,g2,x3,q3⟩:=Bv (AO h0_0 C0) Q3
 have V2:g2 = [vU I1]:=x3; subst V2
 refine Rv 5 b0 I d0 (fun _=>BJ 1 (q0.toNat) I U2 I d3 j3)<|Rx 6 130048 b0 I d0 (Bx I (q3 0 _ I))<|Rv 7 b0 I d0 (fun _=>Aj I)<|bk h fun J1 R3 h=>?_
 obtain ⟨D4,I4,W2,k3,j2,y3,s3⟩:=Bv (AO h1_0 C0) R3
 have X2:j2 = [vU J1]:=y3; subst X2
 refine Rv 8 b0 I d0 (fun _=>BJ 1 0 I W2 I I k3)<|Rx 9 130048 b0 I d0 (Bx I (s3 0 _ I))<|bk h fun j1 b4 h=>RD.cq 10 2047 129024 (.tuple #[vU j1.1,vU j1.2]) b0 I d0 (bd 186) I (e3 I I I) (fun p q=>aH_c n (C0.hL0 hL q) g0 I1 J1 b4) I<|Rv 11 b0 I d0 (fun _=>Aj I)<|Rv 12 b0 I d0 (fun _=>Ac I I)<|Rv 13 b0 I d0 (fun _=>Ac I I)<|bk h fun y4 U3 h=>?_
 obtain ⟨g3,V3⟩:=bY U3
 obtain ⟨U1,J4,X0,z1,k2,z3,U4⟩:=St.nth (α:=Ua) C0 .hd V0 V3
 obtain ⟨W1,K4,v1⟩:=St.nthOwn (α:=Ua) C0 .hd z1
 obtain rfl:U1 = ⟨W1,0,none⟩:=by rw [v1] at X0; cases X0; rfl
 have Y2:k2 = [vU y4]:=z3; subst Y2
 refine Rv 14 b0 I d0 (fun _=>BJ 1 (q0.toNat) I X0 I g3 z1)<|bk h fun z4 Y3 h=>BK (i:=15) (rk b0) (RO.acts (m' :=65535) (sk b0) I I .plain (Acts.set (α:=Ua) (i:=q0.toNat) Y3 C0 v1 (fun _=>.hd) V0 I I I I I I) (fun j5 ⟨p2,v2,A2,P2⟩=>?_))
 refine BK (i:=16) (rk b0) (RO.val (m' :=131071) (sk b0) I .plain I (Bk I) ?_)
 refine AN (dk b0)<|Ay<|Ap<|Ae I<|bk h fun t4 H3 h=>Ab (FV.subc (i:=q0) (j:=1) I I H3)<|Ai I<|Aa<|t2 (j1.2,t4,z4,p2) v2 (Tt z2 A2) P2 h
 refine Bd I ?_
 have h:=b3 _ h
 try dsimp only at h
 refine Af<|Ae I<|Ae I<|Am .plain I (jA g0 (vU g0) C0 cW (e1 I)) fun k5 X1 I0 B2=>?_
 have Q0:=Bl I0 .hd
 have C2:=Bm I0 .hd
 refine bk h fun B4 c4 h=>jE (bd 166) I (e2 I I) (fun p q=>ay_c n (Q0.hL hL q) (Ah (Bn (α:=Ua) (v:=(vS X1 1)) (xs:=([g0]:List Ua)) Q0 L (Ba (α:=Ua) I0 .hd (jC g0 (vU g0) I0 L I) hL)) q) c4) I fun p5 Z4 I2 ⟨F1,hu_,A3⟩=>?_
 subst hu_
 obtain ⟨R0,D2⟩:=Q0.agr I2
 refine Ab (FV.field1 (cs:=[.bool B4.fc,F1]) (off:=1) (m:=1) I I I I)<|Ai I<|Ai I<|Aa<|Au I ?_
 have J0:=Bl R0 .hd
 have E2:=Bm R0 .hd
 have B3:=Bn (α:=Ua) (v:=(.slice (some ⟨c0,0,none⟩) ((a0.length:Nat):Int).toNat ((a0.length:Nat):Int).toNat)) (xs:=z0) J0 L (Ba (α:=Ua) R0 .hd (AK V0 (Tt B2 (Tt C2 D2))) hL)
 refine Aq hb0 func163 I (.cons (.tmp I) (.cons (.tmp I) .nil)) I ?_
 cases h
 exact ⟨J0.ag,fun p q=>⟨(.slice (some ⟨c0,0,none⟩) ((a0.length:Nat):Int).toNat ((a0.length:Nat):Int).toNat),F1,I,J0.kd B3 q,J0.kd (Ag A3 E2) q⟩⟩
 refine Ar<|Af<|Ae I<|Ai I<|Aa<|Ak<|Af<|Ae I<|bk h fun M1 d4 h=>Bo (vI M1) (bd 187) I (e1 I) (fun p q=>bK_c n (t0.hL0 hL q) (t0.k0 h0_0 q) d4) I<|Ae I<|bk h fun P1 g4 h=>Bo (vI P1) (bd 187) I (e1 I) (fun p q=>bK_c n (t0.hL0 hL q) (t0.k0 h1_0 q) g4) I<|bk h fun u4 I3 h=>Ab (FV.subc (i:=M1) (j:=P1) I I I3)<|Ai I<|Aa<|Aw ?_
 obtain ⟨W4,v3,c3⟩:=aw h
 refine MX.lf (α:=(List Ua) × Int × (List Ua) × Vc × (List Vc)) (fun ⟨F0,s0,p0,A0,x0⟩=>[(1,v1_0),(4,(.slice (some ⟨c0,0,none⟩) ((a0.length:Nat):Int).toNat ((a0.length:Nat):Int).toNat)),(5,A0),(8,vI s0)]) (fun ⟨F0,s0,p0,A0,x0⟩=>[rr w 30 Ua (.slice (some ⟨c0,0,none⟩) ((a0.length:Nat):Int).toNat ((a0.length:Nat):Int).toNat) p0.length x0]) (fun ⟨F0,s0,p0,A0,x0⟩ c1=>Rep.R c1 (bl [rr w 30 Ua (.slice (some ⟨c0,0,none⟩) ((a0.length:Nat):Int).toNat ((a0.length:Nat):Int).toNat) p0.length x0] ++ L) [A0] F0/\Cells c1 (bl [rr w 30 Ua (.slice (some ⟨c0,0,none⟩) ((a0.length:Nat):Int).toNat ((a0.length:Nat):Int).toNat) p0.length x0] ++ L) x0 p0) (fun ⟨F0,s0,p0,A0,x0⟩=>(F0,s0,p0)) (a0,u4,g1,v0_0,(List.replicate ((a0.length:Nat):Int).toNat [vW 0]).flatten) v3 t0 ⟨(AO h0_0 t0),u1⟩ ?_
 rintro F4 ⟨F0,s0,p0,A0,x0⟩ c1 u2 H0 F2 ⟨C1,W0⟩ h
 unfold aJ_l2 at h
 try dsimp only at h
 refine Ak<|Af<|Ae I<|Ab (FV.geq (i:=s0) (j:=0) I I)<|Aa<|Bb I h (fun c2 h=>?_) (fun c2 h=>?_)
 refine Ar<|Ak<|Aw<|Af<|Ae I<|Ae I<|bk h fun v5 j4 h=>jE (bd 188) I (e2 I I) (fun p q=>bB_c n (H0.hL hL q) (H0.km h1_0 q) j4) I fun q5 b5 J2 ⟨X4,hu_,D1⟩=>?_
 subst hu_
 obtain ⟨D0,M0⟩:=H0.agr J2
 refine Ai I<|Aa<|Af<|Ae I<|Ae I<|bk h fun Q1 k4 h=>?_
 have Z0:=Ag C1 M0
 refine Bo (vI Q1) (bd 171) I (e2 I I) (fun p q=>aX_c n (D0.hL0 hL q) (D0.kd Z0 q) (D0.kd D1 q) k4) I<|Ab (FV.geq (i:=Q1) (j:=0) I I)<|Aa<|MX.jf (α:=(List Ua) × (List Ua) × Vc × (List Vc)) (fun ⟨G0,v0,E0,y0⟩=>[(1,v1_0),(4,(.slice (some ⟨c0,0,none⟩) ((a0.length:Nat):Int).toNat ((a0.length:Nat):Int).toNat)),(5,E0),(8,vI s0)]) (fun ⟨G0,v0,E0,y0⟩=>[rr w 30 Ua (.slice (some ⟨c0,0,none⟩) ((a0.length:Nat):Int).toNat ((a0.length:Nat):Int).toNat) v0.length y0]) (fun ⟨G0,v0,E0,y0⟩ d1=>Rep.R d1 (bl [rr w 30 Ua (.slice (some ⟨c0,0,none⟩) ((a0.length:Nat):Int).toNat ((a0.length:Nat):Int).toNat) v0.length y0] ++ L) [E0] G0/\Cells d1 (bl [rr w 30 Ua (.slice (some ⟨c0,0,none⟩) ((a0.length:Nat):Int).toNat ((a0.length:Nat):Int).toNat) v0.length y0] ++ L) y0 v0) (fun ⟨G0,v0,E0,y0⟩=>(G0,v0)) D0 h ?_ ?_
 rintro ⟨G0,v0,E0,y0⟩ d1 x2 G2 ⟨C3,Q2⟩ h
 try dsimp only at h
 refine Ay<|Ap<|Ae I<|bk h fun v4 J3 h=>Ab (FV.subc (i:=s0) (j:=1) I I J3)<|Ai I<|Aa<|u2 (G0,v4,v0,E0,y0) x2 (Tt F2 (Tt M0 G2)) ⟨C3,Q2⟩ h
 intro G4 k1 h
 try dsimp only at h
 refine Bb I h (fun d2 h=>?_) (fun d2 h=>?_)
 refine Af<|Ae I<|Ae I<|bk h fun x5 p4 h=>jE (bd 172) I (e2 I I) (fun p q=>bh_c n (D0.hL hL q) (Ah Z0 q) (Ah D1 q) p4) I fun s5 c5 K2 ⟨Y4,hu_,D3⟩=>?_
 subst hu_
 obtain ⟨p1,q1⟩:=D0.agr K2
 refine bk h fun R1 q4 h=>jE (bd 166) I (e2 I I) (fun p q=>ay_c n (p1.hL hL q) (Ah D3 q) q4) I fun t5 d5 M2 ⟨G1,hu_,E3⟩=>?_
 subst hu_
 obtain ⟨U0,s1⟩:=p1.agr M2
 refine Ab (FV.field1 (cs:=[.bool R1.fc,G1]) (off:=1) (m:=1) I I I I)<|Ai I<|Aa<|du 10 fun j0 u0=>Rv 0 j0 I u0 (fun _=>Aj I)<|Rv 1 j0 I u0 (fun _=>Aj I)<|bk h fun b1 K3 h=>Rv 2 j0 I u0 (fun _=>FV.quoc (i:=s0) (j:=64) I I K3)<|bk h fun K1 W3 h=>?_
 obtain ⟨y1,X3⟩:=bY W3
 have B1:=AK W0 (Tt M0 (Tt q1 s1))
 obtain ⟨V1,M4,P0,Y0,q2,F3,t3⟩:=St.nth (α:=Ua) U0 .hd B1 X3
 obtain ⟨Y1,P4,x1⟩:=St.nthOwn (α:=Ua) U0 .hd Y0
 obtain rfl:V1 = ⟨Y1,0,none⟩:=by rw [x1] at P0; cases P0; rfl
 have Z2:q2 = [vU K1]:=F3; subst Z2
 refine Rv 3 j0 I u0 (fun _=>BJ 1 (b1.toNat) I P0 I y1 Y0)<|Rx 4 1792 j0 I u0 (Bx I (t3 0 _ I))<|Rv 5 j0 I u0 (fun _=>Aj I)<|bk h fun x4 M3 h=>Rv 6 j0 I u0 (fun _=>FV.remc (i:=s0) (j:=64) I I M3)<|bk h fun s4 p3 h=>Rv 7 j0 I u0 (fun _=>FV.shlI (a:=(1:Ua)) (i:=x4) I I p3)<|Rv 8 j0 I u0 (fun _=>FV.orU (a:=K1) (b:=shlU (1:Ua) s4) I I)<|Rv 9 j0 I u0 (fun _=>BJ 1 (b1.toNat) I P0 I y1 Y0)<|bk h fun A4 Z3 h=>BK (i:=10) (rk j0) (RO.acts (m' :=2047) (sk j0) I I .plain (Acts.set (α:=Ua) (i:=b1.toNat) Z3 U0 x1 (fun _=>.hd) B1 I I I I I I) (fun u5 ⟨s2,y2,t1,R2⟩=>?_))
 refine AN (dk j0)<|k1 (R1.fj,A4,G1,s2) y2 (Tt q1 (Tt s1 t1)) ⟨(Ag E3 t1),R2⟩ h
 refine Ar<|k1 (F0,p0,A0,x0) D0 (Tr.refl _ _) ⟨Z0,(AK W0 M0)⟩ h
 refine Bd I ?_
 have h:=c3 _ h
 try dsimp only at h
 refine Af<|Ae I<|Ae I<|Ai I<|Ai I<|Aa<|Au I ?_
 have K0:=Bl H0 .hd
 have H2:=Bm H0 .hd
 have G3:=Bn (α:=Ua) (v:=(.slice (some ⟨c0,0,none⟩) ((a0.length:Nat):Int).toNat ((a0.length:Nat):Int).toNat)) (xs:=p0) K0 L (Ba (α:=Ua) H0 .hd W0 hL)
 refine Aq hb0 func163 I (.cons (.tmp I) (.cons (.tmp I) .nil)) I ?_
 cases h
 exact ⟨K0.ag,fun p q=>⟨(.slice (some ⟨c0,0,none⟩) ((a0.length:Nat):Int).toNat ((a0.length:Nat):Int).toNat),A0,I,K0.kd G3 q,K0.kd (Ag C1 H2) q⟩⟩
def aF_l1 (n:Nat) (d0:(List Ua) × (List Ua) -> Oa (List Ua)):(List Ua) × (List Ua) -> Oa (List Ua)
  | (c0,b0)=>(if 0 < b0.length then (aJ_p n c0 b0).bind fun g0=>d0 (b0,g0.2) else some c0)
def aF_p (n:Nat) (a0:Td) (a1:Td):Oa Td:=
  Option.bind (az (aF_l1 n) n (a0.fj,a1.fj)) (fun b0=>some (⟨false,b0⟩:Td))
theorem aF_c (n:Nat) {L w} (hL:hl L w) (a0:Td) {v0_1:Vc} (h0_1:Rep.R w L [v0_1] a0.fj) (a1:Td) {v1_1:Vc} (h1_1:Rep.R w L [v1_1] a1.fj)  {r:Td} (h:aF_p n a0 a1 = some r) :
 Cl 133 #[.agg #[.bool a0.fc,v0_1],.agg #[.bool a1.fc,v1_1]] w (ar w fun w' u=>∃ v0_1:Vc,u = .agg #[.bool r.fc,v0_1]/\Rep.R w' L [v0_1] r.fj):=by
 unfold aF_p at h
 refine AT func133 I I I fun _ cs0 hb0=>Af<|RG.bx (AS w) I I fun s1 W0 C0 Z0=>RG.bx C0 I I fun u1 X0 D0 b1=>RG.nl [.bool false,vN] D0 fun v1 p0 t0 c1=>Aa<|Ak<|du 6 fun d0 j0=>Rv 0 d0 I j0 (fun _=>Bw 1 I)<|Rx 1 48 d0 I j0 (Bx I ((t0.memA .t2) 1 _ I))<|Rv 2 d0 I j0 (fun _=>Bw 1 I)<|Rx 3 32 d0 I j0 (Bx I ((t0.memA .t1) 1 _ I))<|Rv 4 d0 I j0 (fun _=>Bk I)<|Rv 5 d0 I j0 (fun _=>Bk I)<|AN (dk d0)<|Ak<|Aw ?_
 obtain ⟨u0,d1⟩:=AA t0 (.a0 .done)
 obtain ⟨k1,J0,I0⟩:=aw h
 refine MX.lf (α:=(List Ua) × (List Ua) × Vc × Vc) (fun ⟨k0,c0,b0,g0⟩=>[(4,vP p0),(5,b0),(6,g0)]) (fun ⟨k0,c0,b0,g0⟩=>[.cells p0 [.bool false,vN] 107]) (fun ⟨k0,c0,b0,g0⟩ y0=>Rep.R y0 (bl [.cells p0 [.bool false,vN] 107] ++ L) [b0] k0/\Rep.R y0 (bl [.cells p0 [.bool false,vN] 107] ++ L) [g0] c0) (fun ⟨k0,c0,b0,g0⟩=>(k0,c0)) (a0.fj,a1.fj,v0_1,v1_1) J0 u0 ⟨(AO h0_1 u0),(AO h1_1 u0)⟩ ?_
 rintro V0 ⟨k0,c0,b0,g0⟩ y0 B0 v0 F0 ⟨q0,s0⟩ h
 unfold aF_l1 at h
 try dsimp only at h
 refine Ak<|Af<|Ae I ?_
 have g1:=Bg s0
 refine Ab (Bh (xs:=c0) underlying105 I s0)<|Ab (FV.gtrN (i:=c0.length) (j:=0) I I)<|Aa<|Bb I h (fun A0 h=>?_) (fun A0 h=>?_)
 refine Ar<|Aw<|Af<|Ae I<|Ae I<|bk h fun R0 P0 h=>jE (bd 163) I (e2 I I) (fun p q=>aJ_c n (v0.hL hL q) (Ah q0 q) (Ah s0 q) P0) I fun x1 q1 H0 ⟨p1,Q0,hu_,j1,K0⟩=>?_
 subst hu_
 obtain ⟨E0,z0⟩:=v0.agr H0
 refine Ae I<|Ab (Ac I I)<|Ab (Ac I I)<|Ai I<|Ai I<|Aa<|Ap<|Ae I<|Ae I<|Ai I<|Ai I<|Aa<|Ay<|B0 (c0,R0.2,g0,Q0) E0 (Tt F0 z0) ⟨(Ag s0 z0),K0⟩ h
 refine Bd I ?_
 have h:=I0 _ h
 try dsimp only at h
 refine Af<|Ae I ?_
 obtain ⟨U0,Y0,M0,_⟩:=BD q0
 refine Ab (AI (vs:=[b0]) (u:=.agg #[.bool false,b0]) (e1 I) (fun p=>by rw [M0]; try kernel_rfl))<|AQ [.bool false,b0] v0 .hd (o2 I (AE q0)) fun y1 x0 G0=>Aa<|Au I<|Aq hb0 func133 I (.cons (.many (cs:=[.bool false,b0]) I I (x0.memA .hd)) .nil) I ?_
 cases h
 exact ⟨x0.ag,fun p q=>⟨b0,I,x0.kd (Ag q0 G0) q⟩⟩
def aS_p (n:Nat) (a0:Td):Oa Td:=
  (ay_p n (!a0.fc) a0.fj).bind fun b0=>some b0
theorem aS_c (n:Nat) {L w} (hL:hl L w) (a0:Td) {v0_1:Vc} (h0_1:Rep.R w L [v0_1] a0.fj)  {r:Td} (h:aS_p n a0 = some r) :
 Cl 145 #[.agg #[.bool a0.fc,v0_1]] w (ar w fun w' u=>∃ v0_1:Vc,u = .agg #[.bool r.fc,v0_1]/\Rep.R w' L [v0_1] r.fj):=by
 unfold aS_p at h
 refine AT func145 I I I fun _ cs0 hb0=>Af<|RG.bx (AS w) I I fun B0 u0 k0 x0=>RG.nl [.bool false,vN] k0 fun C0 v0 b0 y0=>Aa<|Af<|BB 0 I<|BH I ((b0.memA .t1) 0 _ I)<|Ab (BC I)<|BB 1 I<|BH I ((b0.memA .t1) 1 _ I)<|bk h fun j0 t0 h=>jE (bd 166) I (e2 I I) (fun p q=>ay_c n (b0.hL hL q) (b0.km h0_1 q) t0) I fun D0 A0 s0 ⟨d0,hu_,g0⟩=>?_
 subst hu_
 obtain ⟨p0,z0⟩:=b0.agr s0
 refine AQ [.bool j0.fc,d0] p0 .hd (o2 I (AE g0)) fun E0 c0 q0=>Aa<|Au I<|Aq hb0 func145 I (.cons (.many (cs:=[.bool j0.fc,d0]) I I (c0.memA .hd)) .nil) I ?_
 cases h
 exact ⟨c0.ag,fun p q=>⟨d0,I,c0.kd (Ag g0 q0) q⟩⟩
def bs_l1 (_n:Nat) (xs4:List Ua) (xs7:List Ua) (k0:Ua × Nat × (List Ua) -> Oa ((List Ua) × Ua)):Ua × Nat × (List Ua) -> Oa ((List Ua) × Ua)
  | (g0,b0,c0)=>(if b0 < xs4.length then (xs4[b0]?).bind fun q0=>jn (fun p0=>(add64 q0 p0 g0).bind fun j0=>(c0[b0]?).bind fun _x199=>(put c0 ((b0:Nat):Int) j0.1).bind fun t0=>k0 (j0.2,b0 + 1,t0)) (fun d0=>(if b0 < xs7.length then (xs7[b0]?).bind fun s0=>d0 s0 else d0 (0:Ua))) else some (c0,g0))
def bs_p (n:Nat) (a0:List Ua) (a1:List Ua):Oa (List Ua):=
  jn (fun (xs4,xs7)=>(mk ((xs4.length + 1:Nat):Int) (0:Ua)).bind fun g0=>Option.bind (az (bs_l1 n xs4 xs7) n (0,0,g0)) (fun (c0,d0)=>(c0[xs4.length]?).bind fun _x229=>(put c0 ((xs4.length:Nat):Int) d0).bind fun j0=>some j0)) (fun b0=>(if a0.length < a1.length then b0 (a1,a0) else b0 (a0,a1)))
theorem bs_c (n:Nat) {L w} (hL:hl L w) {a0:List Ua} {v0_0:Vc} (h0_0:Rep.R w L [v0_0] a0) {a1:List Ua} {v1_0:Vc} (h1_0:Rep.R w L [v1_0] a1)  {r:List Ua} (h:bs_p n a0 a1 = some r) :
 Cl 170 #[v0_0,v1_0] w (ar w fun w' u=>∃ v0_0:Vc,u = v0_0/\Rep.R w' L [v0_0] r):=by
 unfold bs_p at h
 have hS0:=AS w
 refine AT func170 I I I fun _ cs0 hb0=>Af<|Ai I<|Aa<|Ak<|Af<|Ae I ?_
 have hl1:=Bg h0_0
 refine Ab (Bh (xs:=a0) underlying105 I h0_0)<|Ae I ?_
 have hl2:=Bg h1_0
 refine Ab (Bh (xs:=a1) underlying105 I h1_0)<|Ab (AY (i:=a0.length) (j:=a1.length) I I)<|Aa<|MX.jf (α:=(List Ua) × (List Ua) × Vc × Vc) (fun ⟨xs4,xs7,v5,v8⟩=>[(0,v5),(1,v8)]) (fun ⟨xs4,xs7,v5,v8⟩=>[]) (fun ⟨xs4,xs7,v5,v8⟩ wx9=>Rep.R wx9 (bl [] ++ L) [v5] xs4/\Rep.R wx9 (bl [] ++ L) [v8] xs7) (fun ⟨xs4,xs7,v5,v8⟩=>(xs4,xs7)) hS0 h ?_ ?_
 rintro ⟨xs4,xs7,v5,v8⟩ wx9 s1 E2 ⟨hr6,hr9⟩ h
 try dsimp only at h
 refine Af<|Ae I ?_
 have H2:=Bg hr6
 refine Ab (Bh (xs:=xs4) underlying105 I hr6)<|Ab (Bj (i:=xs4.length) (j:=1) I I (by omega))<|bk h fun U0 P0 h=>Am .plain I (Does.mk (α:=Ua) P0 s1 cW I) fun P2 j0 E0 G0=>Ai I<|Aa<|Af<|Ai I<|Aa<|Ak<|Af<|Ae I ?_
 have A0:=Ag hr6 G0
 refine Ab (Bh (xs:=xs4) underlying105 I A0)<|Ae I<|Aa<|Aw ?_
 obtain ⟨M2,K1,F1⟩:=aw h
 refine MX.lf (α:=Ua × Nat × (List Ua) × (List Vc)) (fun ⟨g0,b0,c0,d0⟩=>[(0,v5),(1,v8),(5,(.slice (some ⟨j0,0,none⟩) ((xs4.length + 1:Nat):Int).toNat ((xs4.length + 1:Nat):Int).toNat)),(6,vU g0),(21,v5),(22,vn xs4.length),(23,vn b0)]) (fun ⟨g0,b0,c0,d0⟩=>[rr w 30 Ua (.slice (some ⟨j0,0,none⟩) ((xs4.length + 1:Nat):Int).toNat ((xs4.length + 1:Nat):Int).toNat) c0.length d0]) (fun ⟨g0,b0,c0,d0⟩ Q0=>Cells Q0 (bl [rr w 30 Ua (.slice (some ⟨j0,0,none⟩) ((xs4.length + 1:Nat):Int).toNat ((xs4.length + 1:Nat):Int).toNat) c0.length d0] ++ L) d0 c0) (fun ⟨g0,b0,c0,d0⟩=>(g0,b0,c0)) (0,0,U0,(List.replicate ((xs4.length + 1:Nat):Int).toNat [vW 0]).flatten) K1 E0 (AC (cs:=(List.replicate ((xs4.length + 1:Nat):Int).toNat [vW 0]).flatten) (xs:=U0) E0 L (Cells.mk P0 I)) ?_
 rintro u2 ⟨g0,b0,c0,d0⟩ Q0 q1 k0 q0 v0 h
 unfold bs_l1 at h
 try dsimp only at h
 refine Af<|Ab (AY (i:=b0) (j:=xs4.length) I I)<|Aa<|Ak<|Bb I h (fun Z0 h=>?_) (fun Z0 h=>?_)
 refine Ar<|Ak<|Aw<|Af<|Ae I<|bk h fun B0 V1 h=>?_
 obtain ⟨q2,x2,z1,G1,d1,M1,I1⟩:=Bv (Ag A0 q0) V1
 have A1:d1 = [vU B0]:=M1; subst A1
 refine Ab (BJ 1 b0 I z1 I I G1)<|BH I (I1 0 _ I)<|Ai I<|Ai I<|Aa<|Af<|Ai I<|Aa<|Ak<|Af<|Ae I<|Ae I ?_
 have z0:=Ag hr9 (Tt G0 q0)
 have I2:=Bg z0
 refine Ab (Bh (xs:=xs7) underlying105 I z0)<|Ab (AY (i:=b0) (j:=xs7.length) I I)<|Aa<|MX.jo (α:=Ua) (fun p0=>[(0,v5),(1,v8),(5,(.slice (some ⟨j0,0,none⟩) ((xs4.length + 1:Nat):Int).toNat ((xs4.length + 1:Nat):Int).toNat)),(6,vU g0),(21,v5),(22,vn xs4.length),(23,vn b0),(7,vn b0),(8,vU B0),(9,vU p0)]) (fun p0=>[rr w 30 Ua (.slice (some ⟨j0,0,none⟩) ((xs4.length + 1:Nat):Int).toNat ((xs4.length + 1:Nat):Int).toNat) c0.length d0]) (fun p0=>p0) k0 h ?_ ?_
 rintro p0 U2 s0 F0 h
 try dsimp only at h
 refine Ap<|Ae I<|Ae I<|Ae I<|Ae I<|Ae I<|bk h fun p2 c2 h=>Ab (FV.add64 (a:=B0) (b:=p0) (c:=g0) func191 I I I I I I I c2)<|Ae I<|Ab (Ac I I)<|Ab (Ac I I)<|bk h fun d2 W1 h=>?_
 have M0:=AK v0 F0
 obtain ⟨V0,y2,x0,J0,g1,P1,J2⟩:=St.nth (α:=Ua) s0 .hd M0 W1
 obtain ⟨X0,z2,H0⟩:=St.nthOwn (α:=Ua) s0 .hd J0
 obtain rfl:V0 = ⟨X0,0,none⟩:=by rw [H0] at x0; cases x0; rfl
 have B1:g1 = [vU d2]:=P1; subst B1
 refine Ab (BJ 1 b0 I x0 I I J0)<|bk h fun j2 Z1 h=>RG.acts' .plain (Acts.set (α:=Ua) (i:=b0) Z1 s0 H0 (fun _=>.hd) M0 I I I I I I) fun Q2 ⟨j1,u1,v1,x1⟩=>Ai I<|Aa<|Ay<|Ap<|Ab (Bj (i:=b0) (j:=1) I I (by omega))<|Ae I<|Aa<|q1 (p2.2,b0 + 1,j2,j1) u1 (Tt q0 (Tt F0 v1)) x1 h
 intro v2 D0 h
 try dsimp only at h
 refine Bb I h (fun b1 h=>?_) (fun b1 h=>?_)
 refine Ap<|Ae I<|Ae I<|bk h fun R0 X1 h=>?_
 obtain ⟨s2,A2,C1,H1,k1,Q1,J1⟩:=Bv z0 X1
 have D1:k1 = [vU R0]:=Q1; subst D1
 refine Ab (BJ 1 b0 I C1 I I H1)<|BH I (J1 0 _ I)<|Ai I<|Aa<|D0 R0 k0 (Tr.refl _ _) h
 refine Ar<|D0 (0:Ua) k0 (Tr.refl _ _) h
 refine Bd I ?_
 have h:=F1 _ h
 try dsimp only at h
 refine Af<|Ae I<|Ae I<|Ab (Bh (xs:=xs4) underlying105 I (Ag A0 q0))<|Ae I<|bk h fun g2 Y1 h=>?_
 obtain ⟨W0,B2,y0,K0,p1,R1,K2⟩:=St.nth (α:=Ua) k0 .hd v0 Y1
 obtain ⟨Y0,C2,I0⟩:=St.nthOwn (α:=Ua) k0 .hd K0
 obtain rfl:W0 = ⟨Y0,0,none⟩:=by rw [I0] at y0; cases y0; rfl
 have E1:p1 = [vU g2]:=R1; subst E1
 refine Ab (BJ 1 (xs4.length) I y0 I I K0)<|bk h fun k2 b2 h=>RG.acts' .plain (Acts.set (α:=Ua) (i:=xs4.length) b2 k0 I0 (fun _=>.hd) v0 I I I I I I) fun R2 ⟨D2,t0,F2,y1⟩=>Aa<|Af<|Ae I<|Ai I<|Aa<|Au I ?_
 have u0:=Bl t0 .hd
 have G2:=Bm t0 .hd
 have U1:=Bn (α:=Ua) (v:=(.slice (some ⟨j0,0,none⟩) ((xs4.length + 1:Nat):Int).toNat ((xs4.length + 1:Nat):Int).toNat)) (xs:=k2) u0 L (Ba (α:=Ua) t0 .hd y1 hL)
 refine By hb0 func170 I I ?_
 cases h
 exact ⟨u0.ag,fun p q=>⟨(.slice (some ⟨j0,0,none⟩) ((xs4.length + 1:Nat):Int).toNat ((xs4.length + 1:Nat):Int).toNat),I,u0.kd U1 q⟩⟩
 intro t2 C0 h
 try dsimp only at h
 refine Bb I h (fun c1 h=>?_) (fun c1 h=>?_)
 refine Ap<|Ae I<|Ae I<|Ai I<|Ai I<|Aa<|C0 (a1,a0,v1_0,v0_0) hS0 (Tr.refl _ _) ⟨h1_0,h0_0⟩ h
 refine Ar<|C0 (a0,a1,v0_0,v1_0) hS0 (Tr.refl _ _) ⟨h0_0,h1_0⟩ h
def aV_p (n:Nat) (a0:Td) (a1:Td):Oa Td:=
  (if (a0.fc == a1.fc) = true then (bs_p n a0.fj a1.fj).bind fun j0=>(ay_p n a0.fc j0).bind fun k0=>some k0 else (aX_p n a0.fj a1.fj).bind fun p0=>jn (fun (_q58,d0,c0,g0)=>(bh_p n g0 d0).bind fun q0=>(ay_p n c0 q0).bind fun s0=>some s0) (fun b0=>(if p0 < 0 then b0 (a0.fc,a0.fj,a1.fc,a1.fj) else b0 (a1.fc,a1.fj,a0.fc,a0.fj))))
theorem aV_c (n:Nat) {L w} (hL:hl L w) (a0:Td) {v0_1:Vc} (h0_1:Rep.R w L [v0_1] a0.fj) (a1:Td) {v1_1:Vc} (h1_1:Rep.R w L [v1_1] a1.fj)  {r:Td} (h:aV_p n a0 a1 = some r) :
 Cl 141 #[.agg #[.bool a0.fc,v0_1],.agg #[.bool a1.fc,v1_1]] w (ar w fun w' u=>∃ v0_1:Vc,u = .agg #[.bool r.fc,v0_1]/\Rep.R w' L [v0_1] r.fj):=by
 unfold aV_p at h
 refine AT func141 I I I fun _ cs0 hb0=>Af<|RG.bx (AS w) I I fun Y1 y0 X0 F1=>RG.bx X0 I I fun Z1 z0 Y0 G1=>RG.nl [.bool false,vN] Y0 fun b2 A0 b0 H1=>Aa<|Ak<|Af<|BB 0 I<|BH I ((b0.memA .t2) 0 _ I)<|BB 0 I<|BH I ((b0.memA .t1) 0 _ I)<|Ab (FV.eqlB (a:=a0.fc) (b:=a1.fc) underlying4 I I)<|Aa<|MX.ifb I h (fun V0 h=>?_) (fun V0 h=>?_)
 refine Ak<|du 8 fun c0 s0=>Rv 0 c0 I s0 (fun _=>Bw 0 I)<|Rx 1 384 c0 I s0 (Bx I ((b0.memA .t2) 0 _ I))<|Rv 2 c0 I s0 (fun _=>Bw 1 I)<|Rx 3 448 c0 I s0 (Bx I ((b0.memA .t2) 1 _ I))<|Rv 4 c0 I s0 (fun _=>Bw 1 I)<|Rx 5 448 c0 I s0 (Bx I ((b0.memA .t1) 1 _ I))<|bk h fun u2 z1 h=>AU 6 127 c0 I .plain (bd 170) I (e2 I I) (fun p q=>bs_c n (b0.hL hL q) (b0.km h0_1 q) (b0.km h1_1 q) z1) I fun c2 U1 k1 ⟨Q1,hu_,u1⟩=>?_
 subst hu_
 obtain ⟨I0,I1⟩:=b0.agr k1
 refine bk h fun Q0 A1 h=>AU 7 255 c0 I .plain (bd 166) I (e2 I I) (fun p q=>ay_c n (I0.hL hL q) (Ah u1 q) A1) I fun d2 V1 p1 ⟨E0,hu_,M0⟩=>?_
 subst hu_
 obtain ⟨Z0,J1⟩:=I0.agr p1
 refine BF 8 511 c0 I I .plain (AJ (news:=[.bool Q0.fc,E0]) Z0 .hd I I I I I I (o2 I (AE M0))) fun g2 C0 d1=>AN (dk c0)<|Au I<|Aq hb0 func141 I (.cons (.many (cs:=[.bool Q0.fc,E0]) I I (C0.memA .hd)) .nil) I ?_
 cases h
 exact ⟨C0.ag,fun p q=>⟨E0,I,C0.kd (Ag M0 d1) q⟩⟩
 refine Ar<|Ak<|Af<|BB 1 I<|BH I ((b0.memA .t2) 1 _ I)<|BB 1 I<|BH I ((b0.memA .t1) 1 _ I)<|bk h fun R0 B1 h=>Bo (vI R0) (bd 171) I (e2 I I) (fun p q=>aX_c n (b0.hL0 hL q) (b0.k0 h0_1 q) (b0.k0 h1_1 q) B1) I<|Ab (FV.lss (i:=R0) (j:=0) I I)<|Aa<|MX.jf (α:=Bool × (List Ua) × Bool × (List Ua) × Vc × Vc) (fun ⟨g0,u0,j0,v0,p0,q0⟩=>[(2,vP y0),(3,vP z0),(4,vP A0)]) (fun ⟨g0,u0,j0,v0,p0,q0⟩=>[.cells A0 [.bool false,vN] 107,.cells z0 [.bool g0,p0] 107,.cells y0 [.bool j0,q0] 107]) (fun ⟨g0,u0,j0,v0,p0,q0⟩ G0=>Rep.R G0 (bl [.cells A0 [.bool false,vN] 107,.cells z0 [.bool g0,p0] 107,.cells y0 [.bool j0,q0] 107] ++ L) [p0] u0/\Rep.R G0 (bl [.cells A0 [.bool false,vN] 107,.cells z0 [.bool g0,p0] 107,.cells y0 [.bool j0,q0] 107] ++ L) [q0] v0) (fun ⟨g0,u0,j0,v0,p0,q0⟩=>(g0,u0,j0,v0)) b0 h ?_ ?_
 rintro ⟨g0,u0,j0,v0,p0,q0⟩ G0 x0 K1 ⟨v1,x1⟩ h
 try dsimp only at h
 refine Ak<|du 8 fun d0 t0=>Rv 0 d0 I t0 (fun _=>Bw 0 I)<|Rx 1 384 d0 I t0 (Bx I ((x0.memA .t2) 0 _ I))<|Rv 2 d0 I t0 (fun _=>Bw 1 I)<|Rx 3 448 d0 I t0 (Bx I ((x0.memA .t2) 1 _ I))<|Rv 4 d0 I t0 (fun _=>Bw 1 I)<|Rx 5 448 d0 I t0 (Bx I ((x0.memA .t1) 1 _ I))<|bk h fun v2 C1 h=>AU 6 127 d0 I .plain (bd 172) I (e2 I I) (fun p q=>bh_c n (x0.hL hL q) (Ah x1 q) (Ah v1 q) C1) I fun j2 W1 q1 ⟨R1,hu_,y1⟩=>?_
 subst hu_
 obtain ⟨J0,M1⟩:=x0.agr q1
 refine bk h fun U0 D1 h=>AU 7 255 d0 I .plain (bd 166) I (e2 I I) (fun p q=>ay_c n (J0.hL hL q) (Ah y1 q) D1) I fun k2 X1 s1 ⟨F0,hu_,P0⟩=>?_
 subst hu_
 obtain ⟨b1,P1⟩:=J0.agr s1
 refine BF 8 511 d0 I I .plain (AJ (news:=[.bool U0.fc,F0]) b1 .hd I I I I I I (o2 I (AE P0))) fun p2 D0 g1=>AN (dk d0)<|Au I<|Aq hb0 func141 I (.cons (.many (cs:=[.bool U0.fc,F0]) I I (D0.memA .hd)) .nil) I ?_
 cases h
 exact ⟨D0.ag,fun p q=>⟨F0,I,D0.kd (Ag P0 g1) q⟩⟩
 intro E1 H0 h
 try dsimp only at h
 refine Bb I h (fun W0 h=>?_) (fun W0 h=>?_)
 refine Ap<|Ab (AF I (b0.memA .t1))<|Ab (AF I (b0.memA .t2))<|AQ [.bool a1.fc,v1_1] b0 .t2 (o2 I (AE (AO h1_1 b0))) fun q2 K0 j1=>AQ [.bool a0.fc,v0_1] K0 .t1 (o2 I (AE (AO h0_1 K0))) fun s2 B0 c1=>Aa<|H0 (a0.fc,a0.fj,a1.fc,a1.fj,v0_1,v1_1) B0 (Tt j1 c1) ⟨(AO h0_1 B0),(AO h1_1 B0)⟩ h
 refine Ar<|H0 (a1.fc,a1.fj,a0.fc,a0.fj,v1_1,v0_1) b0 (Tr.refl _ _) ⟨(AO h1_1 b0),(AO h0_1 b0)⟩ h
def bb_p (n:Nat) (a0:Td) (a1:Td):Oa (Td × Td):=
  (aJ_p n a0.fj a1.fj).bind fun c0=>(ay_p n (!(a0.fc == a1.fc)) c0.1).bind fun d0=>(ay_p n a0.fc c0.2).bind fun b0=>(if b0.fc = true then (aV_p n b0 (⟨false,a1.fj⟩:Td)).bind fun j0=>(aV_p n d0 (⟨(!a1.fc),([(1:Ua)]:List Ua)⟩:Td)).bind fun g0=>some (g0,j0) else some (d0,b0))
theorem bb_c (n:Nat) {L w} (hL:hl L w) (a0:Td) {v0_1:Vc} (h0_1:Rep.R w L [v0_1] a0.fj) (a1:Td) {v1_1:Vc} (h1_1:Rep.R w L [v1_1] a1.fj)  {r:Td × Td} (h:bb_p n a0 a1 = some r) :
 Cl 169 #[.agg #[.bool a0.fc,v0_1],.agg #[.bool a1.fc,v1_1]] w (ar w fun w' u=>∃ v0_1 v1_1:Vc,u = .tuple #[.agg #[.bool r.1.fc,v0_1],.agg #[.bool r.2.fc,v1_1]]/\Rep.R w' L [v0_1] r.1.fj/\Rep.R w' L [v1_1] r.2.fj):=by
 unfold bb_p at h
 refine AT func169 I I I fun _ cs0 hb0=>Af<|RG.bx (AS w) I I fun y3 U2 J1 Y2=>RG.bx J1 I I fun C3 V2 Q1 Z2=>RG.nl [.bool false,vN] Q1 fun D3 I0 R1 b3=>RG.nl [.bool false,vN] R1 fun F3 J0 k0 c3=>Aa<|Af<|BB 1 I<|BH I ((k0.memA .t3) 1 _ I)<|BB 1 I<|BH I ((k0.memA .t2) 1 _ I)<|bk h fun X3 H2 h=>jE (bd 163) I (e2 I I) (fun p q=>aJ_c n (k0.hL hL q) (k0.km h0_1 q) (k0.km h1_1 q) H2) I fun G3 p3 u2 ⟨g3,j3,hu_,B2,C2⟩=>?_
 subst hu_
 obtain ⟨C0,d3⟩:=k0.agr u2
 refine Ae I<|Ab (Ac I I)<|Ab (Ac I I)<|Ai I<|Ai I<|Aa<|Ak<|du 11 fun b0 d0=>Rv 0 b0 I d0 (fun _=>Bw 0 I)<|Rx 1 7248 b0 I d0 (Bx I ((C0.memA .t3) 0 _ I))<|Rv 2 b0 I d0 (fun _=>Bw 0 I)<|Rx 3 7248 b0 I d0 (Bx I ((C0.memA .t2) 0 _ I))<|Rv 4 b0 I d0 (fun _=>FV.neqB (a:=a0.fc) (b:=a1.fc) underlying4 I I)<|Rv 5 b0 I d0 (fun _=>Aj I)<|Rv 7 b0 I d0 (fun _=>Bw 0 I)<|Rx 8 7168 b0 I d0 (Bx I ((C0.memA .t3) 0 _ I))<|Rv 9 b0 I d0 (fun _=>Aj I)<|bk h fun v0 I2 h=>AU 6 1023 b0 I .plain (bd 166) I (e2 I I) (fun p q=>ay_c n (C0.hL hL q) (Ah B2 q) I2) I fun H3 q3 v2 ⟨s0,hu_,D2⟩=>?_
 subst hu_
 obtain ⟨g1,k2⟩:=C0.agr v2
 refine bk h fun x0 J2 h=>AU 10 2047 b0 I .plain (bd 166) I (e2 I I) (fun p q=>ay_c n (g1.hL hL q) (Ah (Ag C2 k2) q) J2) I fun I3 s3 x2 ⟨t0,hu_,E2⟩=>?_
 subst hu_
 obtain ⟨X1,p2⟩:=g1.agr x2
 have F0:=Ag D2 p2
 refine BF 11 4095 b0 I I .plain (AJ (news:=[.bool v0.fc,s0]) X1 .t1 I I I I I I (o2 I (AE F0))) fun J3 Y1 E0=>?_
 have Z0:=Ag E2 E0
 refine BF 12 8191 b0 I I .plain (AJ (news:=[.bool x0.fc,t0]) Y1 .hd I I I I I I (o2 I (AE Z0))) fun K3 c0 p0=>AN (dk b0)<|Ak<|Af<|BB 0 I<|BH I ((c0.memA .hd) 0 _ I)<|Aa<|MX.ifb I h (fun H1 h=>?_) (fun H1 h=>?_)
 refine Af<|BB 1 I<|BH I ((c0.memA .t2) 1 _ I) ?_
 obtain ⟨Q2,X2,F2,_⟩:=BD (AO h1_1 c0)
 refine Ab (AI (vs:=[v1_1]) (u:=.agg #[.bool false,v1_1]) (e1 I) (fun p=>by rw [F2]; try kernel_rfl))<|RG.nl [.bool false,vN] c0 fun M3 W2 j1 y1=>AQ [.bool false,v1_1] j1 .hd (o2 I (AE (AO h1_1 j1))) fun P3 D0 z1=>Aa<|Af<|Ab (AF I (D0.memA .t1))<|Ab (AF I (D0.memA .hd))<|bk h fun H0 K2 h=>jE (bd 141) I (e2 I I) (fun p q=>aV_c n (D0.hL hL q) x0 (Ah (Ag Z0 (Tt p0 (Tt y1 z1))) q) (⟨false,a1.fj⟩:Td) (D0.km h1_1 q) K2) I fun Q3 u3 y2 ⟨u0,hu_,E1⟩=>?_
 subst hu_
 obtain ⟨Z1,q2⟩:=D0.agr y2
 refine AQ [.bool H0.fc,u0] Z1 .t1 (o2 I (AE E1)) fun R3 k1 A1=>Aa<|Af<|BB 0 I<|BH I ((k1.memA .t3) 0 _ I)<|Ab (BC I)<|Am .plain I (jA ((1:Ua)) (vW 1) k1 cW (e1 I)) fun U3 K0 p1 B1=>Ab (AI (vs:=[.bool (!a1.fc),(vS K0 1)]) (u:=.agg #[.bool (!a1.fc),(vS K0 1)]) (e2 I I) (fun p=>by kernel_rfl))<|RG.nl [.bool false,vN] p1 fun v3 R2 d1 V0=>AQ [.bool (!a1.fc),(vS K0 1)] d1 .hd (o2 I (St.o1 (α:=Ua) d1 .t1)) fun x3 y0 W0=>Aa<|Ap<|Ab (AF I (y0.memA .t4))<|Ab (AF I (y0.memA .hd)) ?_
 have U0:=Bl y0 .t1
 have q1:=Bm y0 .t1
 refine bk h fun G0 G2 h=>jE (bd 141) I (e2 I I) (fun p q=>aV_c n (U0.hL hL q) v0 (Ah (Ag F0 (Tt E0 (Tt p0 (Tt y1 (Tt z1 (Tt q2 (Tt A1 (Tt B1 (Tt V0 (Tt W0 q1)))))))))) q) (⟨(!a1.fc),([(1:Ua)]:List Ua)⟩:Td) (Ah (Bn (α:=Ua) (v:=(vS K0 1)) (xs:=([(1:Ua)]:List Ua)) U0 L (Ba (α:=Ua) y0 .t1 (AK (jC ((1:Ua)) (vW 1) p1 L I) (Tt V0 W0)) hL)) q) G2) I fun z3 k3 s2 ⟨q0,hu_,R0⟩=>?_
 subst hu_
 obtain ⟨I1,b2⟩:=U0.agr s2
 refine AQ [.bool G0.fc,q0] I1 .t3 (o2 I (AE R0)) fun A3 z0 Q0=>Aa<|Ak<|du 2 fun g0 F1=>Rx 0 12 g0 I F1 (AF I (z0.memA .t3))<|RD.mo (α:=Unit) (fun ()=>[(4,vP I0),(5,vP J0),(46,.agg #[.bool H0.fc,u0])]) (fun ()=>[.cells J0 [.bool H0.fc,u0] 107,.cells I0 [.bool G0.fc,q0] 107]) z0 1 7 ?_ ?_
 rintro ⟨⟩ V3 K1 s1
 try dsimp only
 have C1:=Ag E1 (Tt A1 (Tt B1 (Tt V0 (Tt W0 (Tt q1 (Tt b2 (Tt Q0 s1)))))))
 refine BF 3 15 g0 I I .plain (AJ (news:=[.bool H0.fc,u0]) K1 .hd I I I I I I (o2 I (AE C1))) fun B3 A0 u1=>AN (dk g0)<|Au I<|Aq hb0 func169 I (.cons (.many (cs:=[.bool G0.fc,q0]) I I (A0.memA .t1)) (.cons (.many (cs:=[.bool H0.fc,u0]) I I (A0.memA .hd)) .nil)) I ?_
 cases h
 exact ⟨A0.ag,fun p q=>⟨q0,u0,I,A0.kd (Ag R0 (Tt Q0 (Tt s1 u1))) q,A0.kd (Ag C1 u1) q⟩⟩
 intro b1
 refine BO [1,2] (rk g0) ⟨?_,?_,trivial⟩
 refine RO.val (m' :=3) (sk g0) I .plain I (AF I (z0.memA .t2)) ?_
 have A2:=Ag R0 Q0
 refine BF 2 7 g0 I I .plain (AJ (news:=[.bool G0.fc,q0]) z0 .t3 I I I I I I (o2 I (AE A2))) fun P2 P0 Y0=>?_
 obtain ⟨M1,c2⟩:=AA P0 (.a2 (.a2 .done))
 exact b1 () M1 (Tt Y0 c2)
 refine RO.now (m' :=5) (sk g0) I I .plain (AJ (news:=[.bool G0.fc,q0]) z0 .t3 I I I I I I (o2 I (AE (Ag R0 Q0)))) fun P2 P0 Y0=>Rx 1 8 g0 I F1 (AF I (P0.memA .t2)) ?_
 obtain ⟨P1,d2⟩:=AA P0 (.a2 (.a2 .done))
 exact b1 () P1 (Tt Y0 d2)
 refine Ar<|Ak<|du 2 fun j0 G1=>Rx 0 12 j0 I G1 (AF I (c0.memA .t1))<|RD.mo (α:=Unit) (fun ()=>[(4,vP I0),(5,vP J0),(46,.agg #[.bool x0.fc,t0])]) (fun ()=>[.cells J0 [.bool x0.fc,t0] 107,.cells I0 [.bool v0.fc,s0] 107]) c0 1 7 ?_ ?_
 rintro ⟨⟩ W3 U1 v1
 try dsimp only
 have D1:=Ag Z0 (Tt p0 v1)
 refine BF 3 15 j0 I I .plain (AJ (news:=[.bool x0.fc,t0]) U1 .hd I I I I I I (o2 I (AE D1))) fun E3 B0 x1=>AN (dk j0)<|Au I<|Aq hb0 func169 I (.cons (.many (cs:=[.bool v0.fc,s0]) I I (B0.memA .t1)) (.cons (.many (cs:=[.bool x0.fc,t0]) I I (B0.memA .hd)) .nil)) I ?_
 cases h
 exact ⟨B0.ag,fun p q=>⟨s0,t0,I,B0.kd (Ag F0 (Tt E0 (Tt p0 (Tt v1 x1)))) q,B0.kd (Ag D1 x1) q⟩⟩
 intro c1
 refine BO [1,2] (rk j0) ⟨?_,?_,trivial⟩
 refine RO.val (m' :=3) (sk j0) I .plain I (AF I (c0.memA .hd)) ?_
 have z2:=Ag F0 (Tt E0 p0)
 refine BF 2 7 j0 I I .plain (AJ (news:=[.bool v0.fc,s0]) c0 .t1 I I I I I I (o2 I (AE z2))) fun M2 M0 X0=>?_
 obtain ⟨V1,g2⟩:=AA M0 (.a0 (.a0 .done))
 exact c1 () V1 (Tt X0 g2)
 refine RO.now (m' :=5) (sk j0) I I .plain (AJ (news:=[.bool v0.fc,s0]) c0 .t1 I I I I I I (o2 I (AE (Ag F0 (Tt E0 p0))))) fun M2 M0 X0=>Rx 1 8 j0 I G1 (AF I (M0.memA .hd)) ?_
 obtain ⟨W1,j2⟩:=AA M0 (.a0 (.a0 .done))
 exact c1 () W1 (Tt X0 j2)
def aZ_p (n:Nat) (a0:Td) (a1:Td):Oa Tc:=
  (aF_p n a0 a1).bind fun c0=>(bb_p n a0 c0).bind fun d0=>(bb_p n a1 c0).bind fun b0=>(if b0.1.fc = true then (aS_p n d0.1).bind fun g0=>(aS_p n b0.1).bind fun j0=>some (⟨g0,j0⟩:Tc) else some (⟨d0.1,b0.1⟩:Tc))
theorem aZ_c (n:Nat) {L w} (hL:hl L w) (a0:Td) {v0_1:Vc} (h0_1:Rep.R w L [v0_1] a0.fj) (a1:Td) {v1_1:Vc} (h1_1:Rep.R w L [v1_1] a1.fj)  {r:Tc} (h:aZ_p n a0 a1 = some r) :
 Cl 140 #[.agg #[.bool a0.fc,v0_1],.agg #[.bool a1.fc,v1_1]] w (ar w fun w' u=>∃ v0_1 v0_3:Vc,u = .agg #[.bool r.fh.fc,v0_1,.bool r.fe.fc,v0_3]/\Rep.R w' L [v0_1] r.fh.fj/\Rep.R w' L [v0_3] r.fe.fj):=by
 unfold aZ_p at h
 refine AT func140 I I I fun _ cs0 hb0=>Af<|RG.bx (AS w) I I fun q3 F2 q1 W2=>RG.bx q1 I I fun z3 G2 v1 X2=>RG.nl [.bool false,vN,.bool false,vN] v1 fun A3 H2 j0 Y2=>Aa<|Af<|Ab (AF I (j0.memA .t2))<|Ab (AF I (j0.memA .t1))<|bk h fun U0 u2 h=>jE (bd 133) I (e2 I I) (fun p q=>aF_c n (j0.hL hL q) a0 (j0.km h0_1 q) a1 (j0.km h1_1 q) u2) I fun B3 d3 R1 ⟨y2,hu_,Y1⟩=>?_
 subst hu_
 obtain ⟨x1,Z2⟩:=j0.agr R1
 refine RG.nl [.bool false,vN] x1 fun C3 I2 y1 J1=>?_
 have g1:=Ag Y1 J1
 refine AQ [.bool U0.fc,y2] y1 .hd (o2 I (AE g1)) fun D3 t0 K1=>Aa<|Af<|Ab (AF I (t0.memA .t3))<|Ab (AF I (t0.memA .hd))<|bk h fun d0 v2 h=>?_
 have j1:=Ag g1 K1
 refine jE (bd 169) I (e2 I I) (fun p q=>bb_c n (t0.hL hL q) a0 (t0.km h0_1 q) U0 (Ah j1 q) v2) I fun E3 g3 U1 ⟨q0,z2,hu_,Z1,b2⟩=>?_
 subst hu_
 obtain ⟨z1,M1⟩:=t0.agr U1
 refine Ae I<|Ab (Ac I I)<|Ab (Ac I I)<|RG.nl [.bool false,vN] z1 fun F3 J2 A1 G0=>RG.nl [.bool false,vN] A1 fun G3 K2 B1 H0=>?_
 have Q0:=Ag Z1 (Tt G0 H0)
 refine AQ [.bool d0.1.fc,q0] B1 .t1 (o2 I (AE Q0)) fun H3 C1 C0=>AQ [.bool d0.2.fc,z2] C1 .hd (o2 I (AE (Ag b2 (Tt G0 (Tt H0 C0))))) fun I3 u0 I0=>Aa<|Af<|Ab (AF I (u0.memA .t4))<|Ab (AF I (u0.memA .t2))<|bk h fun g0 x2 h=>jE (bd 169) I (e2 I I) (fun p q=>bb_c n (u0.hL hL q) a1 (u0.km h1_1 q) U0 (Ah (Ag j1 (Tt M1 (Tt G0 (Tt H0 (Tt C0 I0))))) q) x2) I fun J3 j3 V1 ⟨s0,A2,hu_,c2,d2⟩=>?_
 subst hu_
 obtain ⟨D1,b1⟩:=u0.agr V1
 refine Ae I<|Ab (Ac I I)<|Ab (Ac I I)<|RG.nl [.bool false,vN] D1 fun K3 M2 E1 D0=>RG.nl [.bool false,vN] E1 fun M3 P2 F1 E0=>?_
 have R0:=Ag c2 (Tt D0 E0)
 refine AQ [.bool g0.1.fc,s0] F1 .t1 (o2 I (AE R0)) fun P3 G1 v0=>AQ [.bool g0.2.fc,A2] G1 .hd (o2 I (AE (Ag d2 (Tt D0 (Tt E0 v0))))) fun k3 b0 B0=>Aa<|Ak<|Af<|BB 0 I<|BH I ((b0.memA .t1) 0 _ I)<|Aa<|MX.ifb I h (fun p1 h=>?_) (fun p1 h=>?_)
 refine du 4 fun c0 k1=>Rx 0 58 c0 I k1 (AF I (b0.memA .t3))<|Rx 2 56 c0 I k1 (AF I (b0.memA .t1))<|bk h fun x0 q2 h=>AU 1 7 c0 I .plain (bd 145) I (e1 I) (fun p q=>aS_c n (b0.hL hL q) d0.1 (Ah (Ag Q0 (Tt C0 (Tt I0 (Tt b1 (Tt D0 (Tt E0 (Tt v0 B0))))))) q) q2) I fun p3 b3 P1 ⟨k0,hu_,W1⟩=>?_
 subst hu_
 obtain ⟨V0,H1⟩:=b0.agr P1
 refine bk h fun y0 s2 h=>AU 3 15 c0 I .plain (bd 145) I (e1 I) (fun p q=>aS_c n (V0.hL hL q) g0.1 (Ah (Ag R0 (Tt v0 (Tt B0 H1))) q) s2) I fun s3 c3 Q1 ⟨p0,hu_,X1⟩=>?_
 subst hu_
 obtain ⟨s1,I1⟩:=V0.agr Q1
 have c1:=Ag W1 I1
 refine BF 4 31 c0 I I .plain (AJ (news:=[.bool x0.fc,k0]) s1 .t3 I I I I I I (o2 I (AE c1))) fun u3 u1 W0=>?_
 have d1:=Ag X1 W0
 refine BF 5 63 c0 I I .plain (AJ (news:=[.bool y0.fc,p0]) u1 .t1 I I I I I I (o2 I (AE d1))) fun v3 F0 X0=>AN (dk c0)<|Af<|Ab (AF I (F0.memA .t3))<|Ab (AF I (F0.memA .t1)) ?_
 have J0:=Ag c1 (Tt W0 X0)
 obtain ⟨B2,Q2,g2,_⟩:=BD J0
 have K0:=Ag d1 X0
 obtain ⟨C2,R2,j2,_⟩:=BD K0
 refine Ab (AI (vs:=[.agg #[.bool x0.fc,k0],.agg #[.bool y0.fc,p0]]) (u:=.agg #[.bool x0.fc,k0,.bool y0.fc,p0]) (e2 I I) (fun p=>by rw [g2,j2]; try kernel_rfl))<|AQ [.bool x0.fc,k0,.bool y0.fc,p0] F0 .t5 (o4 I (AE J0) I (AE K0)) fun x3 z0 Y0=>Aa<|Au I<|Aq hb0 func140 I (.cons (.many (cs:=[.bool x0.fc,k0,.bool y0.fc,p0]) I I (z0.memA .t5)) .nil) I ?_
 cases h
 exact ⟨z0.ag,fun p q=>⟨k0,p0,I,z0.kd (Ag J0 Y0) q,z0.kd (Ag K0 Y0) q⟩⟩
 refine Ar<|Af<|Ab (AF I (b0.memA .t3))<|Ab (AF I (b0.memA .t1)) ?_
 have M0:=Ag Q0 (Tt C0 (Tt I0 (Tt b1 (Tt D0 (Tt E0 (Tt v0 B0))))))
 obtain ⟨D2,U2,k2,_⟩:=BD M0
 have P0:=Ag R0 (Tt v0 B0)
 obtain ⟨E2,V2,p2,_⟩:=BD P0
 refine Ab (AI (vs:=[.agg #[.bool d0.1.fc,q0],.agg #[.bool g0.1.fc,s0]]) (u:=.agg #[.bool d0.1.fc,q0,.bool g0.1.fc,s0]) (e2 I I) (fun p=>by rw [k2,p2]; try kernel_rfl))<|AQ [.bool d0.1.fc,q0,.bool g0.1.fc,s0] b0 .t5 (o4 I (AE M0) I (AE P0)) fun y3 A0 Z0=>Aa<|Au I<|Aq hb0 func140 I (.cons (.many (cs:=[.bool d0.1.fc,q0,.bool g0.1.fc,s0]) I I (A0.memA .t5)) .nil) I ?_
 cases h
 exact ⟨A0.ag,fun p q=>⟨q0,s0,I,A0.kd (Ag M0 Z0) q,A0.kd (Ag P0 Z0) q⟩⟩
theorem kQ {w:World} {L:List Nat} {cs:List Vc} {x:U8} (h:Rep.R w L cs x):cs = [vU x.1,vU x.2.1,vU x.2.2.1,vU x.2.2.2.1,vU x.2.2.2.2.1,vU x.2.2.2.2.2.1,vU x.2.2.2.2.2.2.1,vU x.2.2.2.2.2.2.2]:=by
  obtain ⟨c0,r0,rfl,h0,h⟩:=h
  have e0:c0 = [vU x.1]:=h0; subst e0
  obtain ⟨c1,r1,rfl,h1,h⟩:=h
  have e1:c1 = [vU x.2.1]:=h1; subst e1
  obtain ⟨c2,r2,rfl,h2,h⟩:=h
  have e2:c2 = [vU x.2.2.1]:=h2; subst e2
  obtain ⟨c3,r3,rfl,h3,h⟩:=h
  have e3:c3 = [vU x.2.2.2.1]:=h3; subst e3
  obtain ⟨c4,r4,rfl,h4,h⟩:=h
  have e4:c4 = [vU x.2.2.2.2.1]:=h4; subst e4
  obtain ⟨c5,r5,rfl,h5,h⟩:=h
  have e5:c5 = [vU x.2.2.2.2.2.1]:=h5; subst e5
  obtain ⟨c6,r6,rfl,h6,h⟩:=h
  have e6:c6 = [vU x.2.2.2.2.2.2.1]:=h6; subst e6
  have e7:r6 = [vU x.2.2.2.2.2.2.2]:=h; subst e7
  rfl
theorem lX {w:World} {L:List Nat} (a0:Ua) (a1:Ua) (a2:Ua) (a3:Ua) (a4:Ua) (a5:Ua) (a6:Ua) (a7:Ua):Rep.R w L [vU a0,vU a1,vU a2,vU a3,vU a4,vU a5,vU a6,vU a7] ((a0,a1,a2,a3,a4,a5,a6,a7):U8):=⟨[vU a0],[vU a1,vU a2,vU a3,vU a4,vU a5,vU a6,vU a7],rfl,rfl,⟨[vU a1],[vU a2,vU a3,vU a4,vU a5,vU a6,vU a7],rfl,rfl,⟨[vU a2],[vU a3,vU a4,vU a5,vU a6,vU a7],rfl,rfl,⟨[vU a3],[vU a4,vU a5,vU a6,vU a7],rfl,rfl,⟨[vU a4],[vU a5,vU a6,vU a7],rfl,rfl,⟨[vU a5],[vU a6,vU a7],rfl,rfl,⟨[vU a6],[vU a7],rfl,rfl,rfl⟩⟩⟩⟩⟩⟩⟩
theorem jr {a b:U8} (h0:a.1 = b.1) (h1:a.2.1 = b.2.1) (h2:a.2.2.1 = b.2.2.1) (h3:a.2.2.2.1 = b.2.2.2.1) (h4:a.2.2.2.2.1 = b.2.2.2.2.1) (h5:a.2.2.2.2.2.1 = b.2.2.2.2.2.1) (h6:a.2.2.2.2.2.2.1 = b.2.2.2.2.2.2.1) (h7:a.2.2.2.2.2.2.2 = b.2.2.2.2.2.2.2):a = b:=Prod.ext h0 (Prod.ext h1 (Prod.ext h2 (Prod.ext h3 (Prod.ext h4 (Prod.ext h5 (Prod.ext h6 (h7)))))))
theorem eqlD_32 (a b:U8) (p:World):(do eqGuard .eql 32 (.tmp 0) (.tmp 0) (.agg #[vU a.1,vU a.2.1,vU a.2.2.1,vU a.2.2.2.1,vU a.2.2.2.2.1,vU a.2.2.2.2.2.1,vU a.2.2.2.2.2.2.1,vU a.2.2.2.2.2.2.2]) (.agg #[vU b.1,vU b.2.1,vU b.2.2.1,vU b.2.2.2.1,vU b.2.2.2.2.1,vU b.2.2.2.2.2.1,vU b.2.2.2.2.2.2.1,vU b.2.2.2.2.2.2.2]); binOp .eql 32 (.agg #[vU a.1,vU a.2.1,vU a.2.2.1,vU a.2.2.2.1,vU a.2.2.2.2.1,vU a.2.2.2.2.2.1,vU a.2.2.2.2.2.2.1,vU a.2.2.2.2.2.2.2]) (.agg #[vU b.1,vU b.2.1,vU b.2.2.1,vU b.2.2.2.1,vU b.2.2.2.2.1,vU b.2.2.2.2.2.1,vU b.2.2.2.2.2.2.1,vU b.2.2.2.2.2.2.2]):Sem Vc).run Tryz.prog p = .ok (.bool (decide (a = b))) p:=
  lh (ks:=[.int .u64,.int .u64,.int .u64,.int .u64,.int .u64,.int .u64,.int .u64,.int .u64]) (xs:=[vU a.1,vU a.2.1,vU a.2.2.1,vU a.2.2.2.1,vU a.2.2.2.2.1,vU a.2.2.2.2.2.1,vU a.2.2.2.2.2.2.1,vU a.2.2.2.2.2.2.2]) (ys:=[vU b.1,vU b.2.1,vU b.2.2.1,vU b.2.2.2.1,vU b.2.2.2.2.1,vU b.2.2.2.2.2.1,vU b.2.2.2.2.2.2.1,vU b.2.2.2.2.2.2.2]) (by kernel_rfl) (by kernel_rfl) (by kernel_rfl) I I ⟨fun h=>by
    simp only [aW,veq,Bool.and_eq_true,beq_iff_eq,and_true] at h
    obtain ⟨h0,h1,h2,h3,h4,h5,h6,h7⟩:=h
    exact jr (ac h0) (ac h1) (ac h2) (ac h3) (ac h4) (ac h5) (ac h6) (ac h7),fun h=>by subst h; simp [aW,veq]⟩ _ _ p
def bS_p (n:Nat) (a0:U8) (a1:U8):Oa (Ta × Int):=
  (if a1 = (0,0,0,0,0,0,0,0) then some ((⟨(0,0,0,0,0,0,0,0),(0,0,0,0,0,0,0,0)⟩:Ta),(7:Int)) else (aY_p n a0).bind fun c0=>(aY_p n a1).bind fun d0=>(aZ_p n c0 d0).bind fun g0=>(ak_p n g0).bind fun b0=>some (b0.1,b0.2))
theorem bS_c (n:Nat) {L w} (hL:hl L w) (a0:U8) (a1:U8)  {r:Ta × Int} (h:bS_p n a0 a1 = some r) :
 Cl 131 #[.agg ((ap a0)).toArray,.agg ((ap a1)).toArray] w (ar w fun _ u=>u = .tuple #[.agg ((aa r.1)).toArray,vI r.2]):=by
 unfold bS_p at h
 refine AT func131 I I I fun _ cs0 hb0=>Af<|RG.bx (AS w) I I fun s1 P0 u0 U0=>RG.bx u0 I I fun u1 Q0 v0 V0=>RG.nl zL v0 fun v1 R0 c0 W0=>Ai I<|Aa<|Ak<|Af<|Ab (AF I (c0.memA .t1))<|Ab (AI (vs:=[]) (u:=.agg zQ) ao (fun p=>by kernel_rfl))<|Ab (FV.eqlV (v:=.agg ((ap a1)).toArray) (u:=.agg zQ) I I (eqlD_32 a1 (0,0,0,0,0,0,0,0)))<|Aa<|Bb I h (fun t0 h=>?_) (fun t0 h=>?_)
 refine Af<|Ab (AI (vs:=[]) (u:=.agg zM) ao (fun p=>by kernel_rfl))<|AQ zL c0 .hd (ak I) fun x1 k0 X0=>Ai I<|Aa<|Au I<|Aq hb0 func131 I (.cons (.many (cs:=zL) I I (k0.memA .hd)) (.cons (.tmp I) .nil)) I ?_
 cases h
 exact k0.gv
 refine Ar<|Ak<|du 8 fun b0 d0=>Rx 0 1018 b0 I d0 (AF I (c0.memA .t2))<|Rx 2 1016 b0 I d0 (AF I (c0.memA .t1))<|bk h fun J0 F0 h=>AU 1 7 b0 I .plain (bd 135) I (e1 I) (fun p q=>aY_c n (c0.hL hL q) a0 F0) I fun w32 k1 y0 ⟨c1,hu_,B0⟩=>?_
 subst hu_
 obtain ⟨p0,Y0⟩:=c0.agr y0
 refine bk h fun K0 G0 h=>AU 3 15 b0 I .plain (bd 135) I (e1 I) (fun p q=>aY_c n (p0.hL hL q) a1 G0) I fun y1 p1 z0 ⟨d1,hu_,C0⟩=>?_
 subst hu_
 obtain ⟨q0,x0⟩:=p0.agr z0
 refine bk h fun M0 H0 h=>AU 4 31 b0 I .plain (bd 140) I (e2 I I) (fun p q=>aZ_c n (q0.hL hL q) J0 (Ah (Ag B0 x0) q) K0 (Ah C0 q) H0) I fun z1 q1 A0 ⟨g1,j1,hu_,D0,E0⟩=>?_
 subst hu_
 obtain ⟨g0,Z0⟩:=q0.agr A0
 refine bk h fun j0 I0 h=>RD.cq 5 63 960 (.tuple #[.agg ((aa j0.1)).toArray,vI j0.2]) b0 I d0 (bd 77) I (e1 I) (fun p q=>ak_c n (g0.hL0 hL q) M0 (g0.kd D0 q) (g0.kd E0 q) I0) I<|Rv 6 b0 I d0 (fun _=>Ac I I)<|Rv 7 b0 I d0 (fun _=>Ac I I)<|BF 8 511 b0 I I .plain (AJ (news:=(aa j0.1)) g0 .hd I I I I I I (ak I)) fun A1 s0 b1=>BK (i:=9) (rk b0) (RO.val (m' :=1023) (sk b0) I .plain I (Bk I) ?_)
 refine AN (dk b0)<|Au I<|Aq hb0 func131 I (.cons (.many (cs:=(aa j0.1)) I I (s0.memA .hd)) (.cons (.tmp I) .nil)) I ?_
 cases h
 exact s0.gv
def bO_p (n:Nat) (a0:Int) (a1:Int):Oa (Ta × Int):=
  (bD_p n a0).bind fun c0=>(bD_p n a1).bind fun d0=>(bS_p n c0 d0).bind fun b0=>some (b0.1,b0.2)
theorem bO_c (n:Nat) {L w} (hL:hl L w) {a0:Int} {a1:Int}  {r:Ta × Int} (h:bO_p n a0 a1 = some r) :
 Cl 64 #[vI a0,vI a1] w (ar w fun _ u=>u = .tuple #[.agg ((aa r.1)).toArray,vI r.2]):=by
 unfold bO_p at h
 refine AT func64 I I I fun _ cs0 hb0=>Af<|RG.nl zL (AS w) fun v0 s0 b0 t0=>Ai I<|Aa<|Af<|Ae I<|bk h fun g0 k0 h=>Bo (.agg ((ap g0)).toArray) (bd 32) I (e1 I) (fun p q=>bD_c n (b0.hL0 hL q)  k0) I<|Ae I<|bk h fun j0 p0 h=>Bo (.agg ((ap j0)).toArray) (bd 32) I (e1 I) (fun p q=>bD_c n (b0.hL0 hL q)  p0) I<|bk h fun c0 q0 h=>Bo (.tuple #[.agg ((aa c0.1)).toArray,vI c0.2]) (bd 131) I (e2 I I) (fun p q=>bS_c n (b0.hL0 hL q) g0 j0 q0) I<|Ab (Ac I I)<|Ab (Ac I I)<|AQ (aa c0.1) b0 .hd (ak I) fun x0 d0 u0=>Ai I<|Aa<|Au I<|Aq hb0 func64 I (.cons (.many (cs:=(aa c0.1)) I I (d0.memA .hd)) (.cons (.tmp I) .nil)) I ?_
 cases h
 exact d0.gv
def ac_p (n:Nat) (a0:Int) (a1:Int):Oa Ta:=
  (bO_p n a0 a1).bind fun b0=>some b0.1
theorem ac_c (n:Nat) {L w} (hL:hl L w) {a0:Int} {a1:Int}  {r:Ta} (h:ac_p n a0 a1 = some r) :
 Cl 15 #[vI a0,vI a1] w (ar w fun _ u=>u = .agg ((aa r)).toArray):=by
 unfold ac_p at h
 refine AT func15 I I I fun _ cs0 hb0=>Af<|RG.nl zL (AS w) fun x0 p0 c0 s0=>Aa<|Af<|Ae I<|Ae I<|bk h fun b0 k0 h=>Bo (.tuple #[.agg ((aa b0.1)).toArray,vI b0.2]) (bd 64) I (e2 I I) (fun p q=>bO_c n (c0.hL0 hL q)  k0) I<|Ae I<|Ab (Ac I I)<|Ab (Ac I I)<|RG.nl zL c0 fun y0 q0 j0 t0=>AQ (aa b0.1) j0 .hd (ak I) fun z0 d0 u0=>Ai I<|Aa<|Af<|Ab (AF I (d0.memA .hd))<|AQ (aa b0.1) d0 .t1 (ak I) fun A0 g0 v0=>Aa<|Au I<|Aq hb0 func15 I (.cons (.many (cs:=(aa b0.1)) I I (g0.memA .t1)) .nil) I ?_
 cases h
 exact g0.gv
structure Tb where
  fm:Ta
  fP:Ta
  deriving DecidableEq
instance:Rep Tb:=Rep.via (β:=Ta × Ta) fun x=>(x.fm,x.fP)
theorem op_A26 {w:World} {L:List Nat} {cs:List Vc} {x:Int × Int} (h:Rep.R w L cs x):cs = [vI x.1,vI x.2]:=by
  obtain ⟨c0,r0,rfl,h0,h⟩:=h
  have e0:c0 = [vI x.1]:=h0; subst e0
  have e1:r0 = [vI x.2]:=h; subst e1
  rfl
theorem aK {w:World} {L:List Nat} (a0:Int) (a1:Int):Rep.R w L [vI a0,vI a1] ((a0,a1):Int × Int):=⟨[vI a0],[vI a1],rfl,rfl,rfl⟩
theorem dH {w:World} {L:List Nat} {cs:List Vc} {x:Ta} (h:Rep.R w L cs x):cs = [vU x.fN.1,vU x.fN.2.1,vU x.fN.2.2.1,vU x.fN.2.2.2.1,vU x.fN.2.2.2.2.1,vU x.fN.2.2.2.2.2.1,vU x.fN.2.2.2.2.2.2.1,vU x.fN.2.2.2.2.2.2.2,vU x.fD.1,vU x.fD.2.1,vU x.fD.2.2.1,vU x.fD.2.2.2.1,vU x.fD.2.2.2.2.1,vU x.fD.2.2.2.2.2.1,vU x.fD.2.2.2.2.2.2.1,vU x.fD.2.2.2.2.2.2.2]:=by
  obtain ⟨c0,r0,rfl,h0,h⟩:=h
  obtain rfl:=kQ (x:=x.fN) h0
  obtain rfl:=kQ (x:=x.fD) h
  rfl
theorem aG {w:World} {L:List Nat} (a0:U8) (a1:U8):Rep.R w L [vU a0.1,vU a0.2.1,vU a0.2.2.1,vU a0.2.2.2.1,vU a0.2.2.2.2.1,vU a0.2.2.2.2.2.1,vU a0.2.2.2.2.2.2.1,vU a0.2.2.2.2.2.2.2,vU a1.1,vU a1.2.1,vU a1.2.2.1,vU a1.2.2.2.1,vU a1.2.2.2.2.1,vU a1.2.2.2.2.2.1,vU a1.2.2.2.2.2.2.1,vU a1.2.2.2.2.2.2.2] (⟨a0,a1⟩:Ta):=⟨[vU a0.1,vU a0.2.1,vU a0.2.2.1,vU a0.2.2.2.1,vU a0.2.2.2.2.1,vU a0.2.2.2.2.2.1,vU a0.2.2.2.2.2.2.1,vU a0.2.2.2.2.2.2.2],[vU a1.1,vU a1.2.1,vU a1.2.2.1,vU a1.2.2.2.1,vU a1.2.2.2.2.1,vU a1.2.2.2.2.2.1,vU a1.2.2.2.2.2.2.1,vU a1.2.2.2.2.2.2.2],rfl,lX a0.1 a0.2.1 a0.2.2.1 a0.2.2.2.1 a0.2.2.2.2.1 a0.2.2.2.2.2.1 a0.2.2.2.2.2.2.1 a0.2.2.2.2.2.2.2,lX a1.1 a1.2.1 a1.2.2.1 a1.2.2.2.1 a1.2.2.2.2.1 a1.2.2.2.2.2.1 a1.2.2.2.2.2.2.1 a1.2.2.2.2.2.2.2⟩
theorem aY {w:World} {L:List Nat} {cs:List Vc} {x:Tb} (h:Rep.R w L cs x):cs = [vU x.fm.fN.1,vU x.fm.fN.2.1,vU x.fm.fN.2.2.1,vU x.fm.fN.2.2.2.1,vU x.fm.fN.2.2.2.2.1,vU x.fm.fN.2.2.2.2.2.1,vU x.fm.fN.2.2.2.2.2.2.1,vU x.fm.fN.2.2.2.2.2.2.2,vU x.fm.fD.1,vU x.fm.fD.2.1,vU x.fm.fD.2.2.1,vU x.fm.fD.2.2.2.1,vU x.fm.fD.2.2.2.2.1,vU x.fm.fD.2.2.2.2.2.1,vU x.fm.fD.2.2.2.2.2.2.1,vU x.fm.fD.2.2.2.2.2.2.2,vU x.fP.fN.1,vU x.fP.fN.2.1,vU x.fP.fN.2.2.1,vU x.fP.fN.2.2.2.1,vU x.fP.fN.2.2.2.2.1,vU x.fP.fN.2.2.2.2.2.1,vU x.fP.fN.2.2.2.2.2.2.1,vU x.fP.fN.2.2.2.2.2.2.2,vU x.fP.fD.1,vU x.fP.fD.2.1,vU x.fP.fD.2.2.1,vU x.fP.fD.2.2.2.1,vU x.fP.fD.2.2.2.2.1,vU x.fP.fD.2.2.2.2.2.1,vU x.fP.fD.2.2.2.2.2.2.1,vU x.fP.fD.2.2.2.2.2.2.2]:=by
  obtain ⟨c0,r0,rfl,h0,h⟩:=h
  obtain rfl:=dH (x:=x.fm) h0
  obtain rfl:=dH (x:=x.fP) h
  rfl
theorem bg {w:World} {L:List Nat} (a0:Ta) (a1:Ta):Rep.R w L [vU a0.fN.1,vU a0.fN.2.1,vU a0.fN.2.2.1,vU a0.fN.2.2.2.1,vU a0.fN.2.2.2.2.1,vU a0.fN.2.2.2.2.2.1,vU a0.fN.2.2.2.2.2.2.1,vU a0.fN.2.2.2.2.2.2.2,vU a0.fD.1,vU a0.fD.2.1,vU a0.fD.2.2.1,vU a0.fD.2.2.2.1,vU a0.fD.2.2.2.2.1,vU a0.fD.2.2.2.2.2.1,vU a0.fD.2.2.2.2.2.2.1,vU a0.fD.2.2.2.2.2.2.2,vU a1.fN.1,vU a1.fN.2.1,vU a1.fN.2.2.1,vU a1.fN.2.2.2.1,vU a1.fN.2.2.2.2.1,vU a1.fN.2.2.2.2.2.1,vU a1.fN.2.2.2.2.2.2.1,vU a1.fN.2.2.2.2.2.2.2,vU a1.fD.1,vU a1.fD.2.1,vU a1.fD.2.2.1,vU a1.fD.2.2.2.1,vU a1.fD.2.2.2.2.1,vU a1.fD.2.2.2.2.2.1,vU a1.fD.2.2.2.2.2.2.1,vU a1.fD.2.2.2.2.2.2.2] (⟨a0,a1⟩:Tb):=⟨[vU a0.fN.1,vU a0.fN.2.1,vU a0.fN.2.2.1,vU a0.fN.2.2.2.1,vU a0.fN.2.2.2.2.1,vU a0.fN.2.2.2.2.2.1,vU a0.fN.2.2.2.2.2.2.1,vU a0.fN.2.2.2.2.2.2.2,vU a0.fD.1,vU a0.fD.2.1,vU a0.fD.2.2.1,vU a0.fD.2.2.2.1,vU a0.fD.2.2.2.2.1,vU a0.fD.2.2.2.2.2.1,vU a0.fD.2.2.2.2.2.2.1,vU a0.fD.2.2.2.2.2.2.2],[vU a1.fN.1,vU a1.fN.2.1,vU a1.fN.2.2.1,vU a1.fN.2.2.2.1,vU a1.fN.2.2.2.2.1,vU a1.fN.2.2.2.2.2.1,vU a1.fN.2.2.2.2.2.2.1,vU a1.fN.2.2.2.2.2.2.2,vU a1.fD.1,vU a1.fD.2.1,vU a1.fD.2.2.1,vU a1.fD.2.2.2.1,vU a1.fD.2.2.2.2.1,vU a1.fD.2.2.2.2.2.1,vU a1.fD.2.2.2.2.2.2.1,vU a1.fD.2.2.2.2.2.2.2],rfl,aG a0.fN a0.fD,aG a1.fN a1.fD⟩
theorem dq:ElT Tryz.prog 24 37 (Rep.size Tb) 256 (.agg #[vW 0,vW 0,vW 0,vW 0,vW 0,vW 0,vW 0,vW 0,vW 0,vW 0,vW 0,vW 0,vW 0,vW 0,vW 0,vW 0,vW 0,vW 0,vW 0,vW 0,vW 0,vW 0,vW 0,vW 0,vW 0,vW 0,vW 0,vW 0,vW 0,vW 0,vW 0,vW 0]) [vW 0,vW 0,vW 0,vW 0,vW 0,vW 0,vW 0,vW 0,vW 0,vW 0,vW 0,vW 0,vW 0,vW 0,vW 0,vW 0,vW 0,vW 0,vW 0,vW 0,vW 0,vW 0,vW 0,vW 0,vW 0,vW 0,vW 0,vW 0,vW 0,vW 0,vW 0,vW 0]:=⟨underlying24,by kernel_rfl,rfl,rfl,rfl,rfl⟩
def ah_l1 (n:Nat) (a1:List (Int × Int)) (a0:Int) (g0:Nat × (List Tb) -> Oa (List Tb)):Nat × (List Tb) -> Oa (List Tb)
  | (b0,d0)=>(if b0 < a1.length then (a1[b0]?).bind fun c0=>(ac_p n c0.1 (2:Int)).bind fun k0=>(ac_p n c0.2 a0).bind fun p0=>(app d0 ([(⟨k0,p0⟩:Tb)]:List Tb)).bind fun j0=>g0 (b0 + 1,j0) else some d0)
def ah_p (n:Nat) (a0:Int) (a1:List (Int × Int)):Oa (List Tb):=
  Option.bind (az (ah_l1 n a1 a0) n (0,([]:List Tb))) (fun b0=>some b0)
theorem ah_c (n:Nat) {L w} (hL:hl L w) {a0:Int} {a1:List (Int × Int)} {v1_0:Vc} (h1_0:Rep.R w L [v1_0] a1)  {r:List Tb} (h:ah_p n a0 a1 = some r) :
 Cl 13 #[vI a0,v1_0] w (ar w fun w' u=>∃ v0_0:Vc,u = v0_0/\Rep.R w' L [v0_0] r):=by
 unfold ah_p at h
 have hS0:=AS w
 refine AT func13 I I I fun _ cs0 hb0=>Af<|Ai I<|Aa<|Af<|Ai I<|Aa<|Ak<|Af<|Ae I ?_
 have hl1:=Bg h1_0
 refine Ab (Bh (xs:=a1) underlying102 I h1_0)<|Ae I<|Aa<|Aw ?_
 have x0:=hS0.nilRow 37 (Rep.size Tb)
 have z1:=St.nilRowT hS0 37 (Rep.size Tb)
 obtain ⟨B1,Y0,V0⟩:=aw h
 refine MX.lf (α:=Nat × (List Tb) × Vc × (List Vc)) (fun ⟨g0,p0,k0,q0⟩=>[(0,vI a0),(5,k0),(8,v1_0),(9,vn a1.length),(10,vn g0)]) (fun ⟨g0,p0,k0,q0⟩=>[rr w 37 Tb k0 p0.length q0]) (fun ⟨g0,p0,k0,q0⟩ B0=>Cells B0 (bl [rr w 37 Tb k0 p0.length q0] ++ L) q0 p0) (fun ⟨g0,p0,k0,q0⟩=>(g0,p0)) (0,([]:List Tb),vN,[]) Y0 x0 (AC (cs:=[]) (xs:=([]:List Tb)) x0 L (AH _ _)) ?_
 rintro s1 ⟨g0,p0,k0,q0⟩ B0 F0 s0 J0 z0 h
 unfold ah_l1 at h
 try dsimp only at h
 refine Af<|Ab (AY (i:=g0) (j:=a1.length) I I)<|Aa<|Ak<|Bb I h (fun D0 h=>?_) (fun D0 h=>?_)
 refine Ar<|Ak<|Aw<|Af<|bk h fun C0 c1 h=>?_
 obtain ⟨q1,x1,U0,W0,y1,Z0,X0⟩:=Bv (AO h1_0 s0) c1
 obtain rfl:=op_A26 Z0
 refine Ab (BJ 2 g0 I U0 I I W0)<|Ab (AF I X0)<|RG.nl [vI 0,vI 0] s0 fun C1 u1 G0 K0=>AQ [vI C0.1,vI C0.2] G0 .hd (ak I) fun D1 t0 M0=>Aa<|du 10 fun b0 j0=>Rv 0 b0 I j0 (fun _=>Aj I)<|Rv 1 b0 I j0 (fun _=>Bi (m:=1) (k:=0) (len:=2) I I I I (by omega))<|Rx 2 3976 b0 I j0 (Bx I ((t0.memA .hd) 0 _ I))<|bk h fun c0 g1 h=>RD.cq 3 15 3968 (.agg ((aa c0)).toArray) b0 I j0 (bd 15) I (e2 I I) (fun p q=>ac_c n (t0.hL0 hL q)  g1) I<|Rv 4 b0 I j0 (fun _=>Bi (m:=1) (k:=1) (len:=2) I I I I (by omega))<|Rx 5 3968 b0 I j0 (Bx I ((t0.memA .hd) 1 _ I))<|Rv 6 b0 I j0 (fun _=>Aj I)<|bk h fun d0 j1 h=>RD.cq 7 255 3840 (.agg ((aa d0)).toArray) b0 I j0 (bd 15) I (e2 I I) (fun p q=>ac_c n (t0.hL0 hL q)  j1) I<|Rv 8 b0 I j0 (fun _=>AI (vs:=[.agg ((aa c0)).toArray,.agg ((aa d0)).toArray]) (u:=.agg ((aa c0 ++ aa d0)).toArray) (e2 I I) (fun p=>by kernel_rfl))<|RD.nu 9 1023 b0 I .plain I (AG (α:=Tb) (xs:=([(⟨c0,d0⟩:Tb)]:List Tb)) (vs:=[.agg ((aa c0 ++ aa d0)).toArray]) (ds' :=(aa c0 ++ aa d0)) I t0 dq I (e1 I) (by kernel_rfl) I) fun E1 v1 u0 P0=>bk h fun p1 d1 h=>?_
 have A0:=Tt K0 (Tt M0 P0)
 refine BK (i:=10) (rk b0) (RO.doesL (m' :=2047) (sk b0) I I .plain I (Bz (α:=Tb) (ys:=([(⟨c0,d0⟩:Tb)]:List Tb)) d1 u0 (fun _ _=>.t2) dq I I (AK z0 A0) (Src.row (α:=Tb) u0 .hd (AC (cs:=(aa c0 ++ aa d0)) (xs:=(([(⟨c0,d0⟩:Tb)]:List Tb):List Tb)) u0 L (Ao (cs:=(aa c0 ++ aa d0)) (ds:=[]) (bg c0 d0) (AH _ _))))) (fun k1 F1 ⟨E0,H0,Q0,R0⟩=>?_))
 refine BK (i:=11) (rk b0) (RO.val (m' :=4095) (sk b0) I .plain I (Bk I) ?_)
 refine AN (dk b0)<|Ay<|Ap<|Ab (Bj (i:=g0) (j:=1) I I (by omega))<|Ae I<|Aa ?_
 obtain ⟨I0,y0⟩:=AA H0 .d2
 exact F0 (g0 + 1,p1,k1,E0) I0 (Tt J0 (Tt A0 (Tt Q0 y0))) (AK R0 y0) h
 refine Bd I ?_
 have h:=V0 _ h
 try dsimp only at h
 refine Af<|Ae I<|Ai I<|Aa<|Au I ?_
 have v0:=Bl s0 .hd
 have A1:=Bm s0 .hd
 have b1:=Bn (α:=Tb) (v:=k0) (xs:=p0) v0 L (Ba (α:=Tb) s0 .hd z0 hL)
 refine By hb0 func13 I I ?_
 cases h
 exact ⟨v0.ag,fun p q=>⟨k0,I,v0.kd b1 q⟩⟩
def aI_p (_n:Nat) (a0:Td):Oa Int:=
  (if a0.fc = true then some (-1:Int) else (if a0.fj.length = 0 then some (0:Int) else some (1:Int)))
theorem aI_c (n:Nat) {L w} (_hL:hl L w) (a0:Td) {v0_1:Vc} (h0_1:Rep.R w L [v0_1] a0.fj)  {r:Int} (h:aI_p n a0 = some r) :
 Cl 67 #[.agg #[.bool a0.fc,v0_1]] w (ar w fun _ u=>u = vI r):=by
 unfold aI_p at h
 refine AT func67 I I I fun _ cs0 hb0=>Af<|RG.bx (AS w) I I fun q0 j0 b0 k0=>Ai I<|Aa<|Ak<|Aw<|Af<|BB 0 I<|BH I ((b0.memA .hd) 0 _ I)<|Ai I<|Aa<|MX.ifb I h (fun d0 h=>?_) (fun d0 h=>?_)
 refine Af<|Ai I<|Aa<|Au I<|By hb0 func67 I I ?_
 cases h
 exact b0.gv
 refine Af<|BB 1 I<|BH I ((b0.memA .hd) 1 _ I) ?_
 have c0:=AO h0_1 b0
 have p0:=Bg c0
 refine Ab (Bh (xs:=a0.fj) underlying105 I c0)<|Ab (FV.eqlN (i:=a0.fj.length) (j:=0) I I)<|Ai I<|Aa<|Bb I h (fun g0 h=>?_) (fun g0 h=>?_)
 refine Af<|Ai I<|Aa<|Au I<|By hb0 func67 I I ?_
 cases h
 exact b0.gv
 refine Ar<|Ay<|Af<|Ai I<|Aa<|Au I<|By hb0 func67 I I ?_
 cases h
 exact b0.gv
def am_p (n:Nat) (a0:Ta):Oa Tc:=
  (aY_p n a0.fN).bind fun b0=>(aY_p n a0.fD).bind fun c0=>some (⟨b0,c0⟩:Tc)
theorem am_c (n:Nat) {L w} (hL:hl L w) (a0:Ta)  {r:Tc} (h:am_p n a0 = some r) :
 Cl 68 #[.agg ((aa a0)).toArray] w (ar w fun w' u=>∃ v0_1 v0_3:Vc,u = .agg #[.bool r.fh.fc,v0_1,.bool r.fe.fc,v0_3]/\Rep.R w' L [v0_1] r.fh.fj/\Rep.R w' L [v0_3] r.fe.fj):=by
 unfold am_p at h
 refine AT func68 I I I fun _ cs0 hb0=>Af<|RG.bx (AS w) I I fun X0 J0 x0 Q0=>RG.nl [.bool false,vN,.bool false,vN] x0 fun Y0 K0 j0 R0=>Aa<|Ak<|du 7 fun b0 c0=>Rv 0 b0 I c0 (fun _=>Bw 0 I)<|Rx 1 228 b0 I c0 (AZ (cs:=(ap a0.fN)) I I (aj (j0.memA .t1) 0 8))<|Rv 3 b0 I c0 (fun _=>Bw 8 I)<|Rx 4 224 b0 I c0 (AZ (cs:=(ap a0.fD)) I I (aj (j0.memA .t1) 8 8))<|bk h fun p0 F0 h=>AU 2 31 b0 I .plain (bd 135) I (e1 I) (fun p q=>aY_c n (j0.hL hL q) a0.fN F0) I fun Z0 V0 A0 ⟨d0,hu_,C0⟩=>?_
 subst hu_
 obtain ⟨u0,U0⟩:=j0.agr A0
 refine bk h fun q0 G0 h=>AU 5 63 b0 I .plain (bd 135) I (e1 I) (fun p q=>aY_c n (u0.hL hL q) a0.fD G0) I fun b1 W0 B0 ⟨g0,hu_,t0⟩=>?_
 subst hu_
 obtain ⟨y0,z0⟩:=u0.agr B0
 have s0:=Ag C0 z0
 obtain ⟨H0,M0,D0,_⟩:=BD s0
 obtain ⟨I0,P0,E0,_⟩:=BD t0
 refine Rv 6 b0 I c0 (fun _=>AI (vs:=[.agg #[.bool p0.fc,d0],.agg #[.bool q0.fc,g0]]) (u:=.agg #[.bool p0.fc,d0,.bool q0.fc,g0]) (e2 I I) (fun p=>by rw [D0,E0]; try kernel_rfl))<|BF 7 255 b0 I I .plain (AJ (news:=[.bool p0.fc,d0,.bool q0.fc,g0]) y0 .hd I I I I I I (o4 I (AE s0) I (AE t0))) fun c1 k0 v0=>AN (dk b0)<|Au I<|Aq hb0 func68 I (.cons (.many (cs:=[.bool p0.fc,d0,.bool q0.fc,g0]) I I (k0.memA .hd)) .nil) I ?_
 cases h
 exact ⟨k0.ag,fun p q=>⟨d0,g0,I,k0.kd (Ag s0 v0) q,k0.kd (Ag t0 v0) q⟩⟩
def bM_p (n:Nat) (a0:Int):Oa Td:=
  (bD_p n a0).bind fun b0=>(aY_p n b0).bind fun c0=>some c0
theorem bM_c (n:Nat) {L w} (hL:hl L w) {a0:Int}  {r:Td} (h:bM_p n a0 = some r) :
 Cl 132 #[vI a0] w (ar w fun w' u=>∃ v0_1:Vc,u = .agg #[.bool r.fc,v0_1]/\Rep.R w' L [v0_1] r.fj):=by
 unfold bM_p at h
 refine AT func132 I I I fun _ cs0 hb0=>Af<|RG.nl [.bool false,vN] (AS w) fun A0 v0 b0 x0=>Aa<|Af<|Ae I<|bk h fun j0 t0 h=>Bo (.agg ((ap j0)).toArray) (bd 32) I (e1 I) (fun p q=>bD_c n (b0.hL0 hL q)  t0) I<|bk h fun k0 u0 h=>jE (bd 135) I (e1 I) (fun p q=>aY_c n (b0.hL hL q) j0 u0) I fun B0 z0 s0 ⟨d0,hu_,g0⟩=>?_
 subst hu_
 obtain ⟨p0,y0⟩:=b0.agr s0
 refine AQ [.bool k0.fc,d0] p0 .hd (o2 I (AE g0)) fun C0 c0 q0=>Aa<|Au I<|Aq hb0 func132 I (.cons (.many (cs:=[.bool k0.fc,d0]) I I (c0.memA .hd)) .nil) I ?_
 cases h
 exact ⟨c0.ag,fun p q=>⟨d0,I,c0.kd (Ag g0 q0) q⟩⟩
def bC_p (n:Nat) (a0:Td) (a1:Td):Oa Td:=
  (aS_p n a1).bind fun b0=>(aV_p n a0 b0).bind fun c0=>some c0
theorem bC_c (n:Nat) {L w} (hL:hl L w) (a0:Td) {v0_1:Vc} (h0_1:Rep.R w L [v0_1] a0.fj) (a1:Td) {v1_1:Vc} (h1_1:Rep.R w L [v1_1] a1.fj)  {r:Td} (h:bC_p n a0 a1 = some r) :
 Cl 164 #[.agg #[.bool a0.fc,v0_1],.agg #[.bool a1.fc,v1_1]] w (ar w fun w' u=>∃ v0_1:Vc,u = .agg #[.bool r.fc,v0_1]/\Rep.R w' L [v0_1] r.fj):=by
 unfold bC_p at h
 refine AT func164 I I I fun _ cs0 hb0=>Af<|RG.bx (AS w) I I fun R0 D0 s0 G0=>RG.bx s0 I I fun U0 E0 t0 H0=>RG.nl [.bool false,vN] t0 fun V0 F0 c0 I0=>Aa<|Ak<|du 4 fun b0 p0=>Rx 0 24 b0 I p0 (AF I (c0.memA .t2))<|Rx 1 28 b0 I p0 (AF I (c0.memA .t1))<|bk h fun C0 A0 h=>AU 2 7 b0 I .plain (bd 145) I (e1 I) (fun p q=>aS_c n (c0.hL hL q) a1 (c0.km h1_1 q) A0) I fun W0 P0 x0 ⟨M0,hu_,z0⟩=>?_
 subst hu_
 obtain ⟨d0,J0⟩:=c0.agr x0
 refine bk h fun q0 B0 h=>AU 3 15 b0 I .plain (bd 141) I (e2 I I) (fun p q=>aV_c n (d0.hL hL q) a0 (d0.km h0_1 q) C0 (Ah z0 q) B0) I fun X0 Q0 y0 ⟨j0,hu_,k0⟩=>?_
 subst hu_
 obtain ⟨u0,K0⟩:=d0.agr y0
 refine BF 4 31 b0 I I .plain (AJ (news:=[.bool q0.fc,j0]) u0 .hd I I I I I I (o2 I (AE k0))) fun Y0 g0 v0=>AN (dk b0)<|Au I<|Aq hb0 func164 I (.cons (.many (cs:=[.bool q0.fc,j0]) I I (g0.memA .hd)) .nil) I ?_
 cases h
 exact ⟨g0.ag,fun p q=>⟨j0,I,g0.kd (Ag k0 v0) q⟩⟩
def bt_p (n:Nat) (a0:Td) (a1:Td):Oa Int:=
  (bC_p n a0 a1).bind fun b0=>(aI_p n b0).bind fun c0=>some c0
theorem bt_c (n:Nat) {L w} (hL:hl L w) (a0:Td) {v0_1:Vc} (h0_1:Rep.R w L [v0_1] a0.fj) (a1:Td) {v1_1:Vc} (h1_1:Rep.R w L [v1_1] a1.fj)  {r:Int} (h:bt_p n a0 a1 = some r) :
 Cl 134 #[.agg #[.bool a0.fc,v0_1],.agg #[.bool a1.fc,v1_1]] w (ar w fun _ u=>u = vI r):=by
 unfold bt_p at h
 refine AT func134 I I I fun _ cs0 hb0=>Af<|RG.bx (AS w) I I fun B0 t0 d0 v0=>RG.bx d0 I I fun C0 u0 b0 x0=>Ai I<|Aa<|Af<|Ab (AF I (b0.memA .t1))<|Ab (AF I (b0.memA .hd))<|bk h fun q0 k0 h=>jE (bd 164) I (e2 I I) (fun p q=>bC_c n (b0.hL hL q) a0 (b0.km h0_1 q) a1 (b0.km h1_1 q) k0) I fun D0 A0 g0 ⟨z0,hu_,j0⟩=>?_
 subst hu_
 obtain ⟨c0,y0⟩:=b0.agr g0
 refine bk h fun s0 p0 h=>Bo (vI s0) (bd 67) I (e1 I) (fun p q=>aI_c n (c0.hL0 hL q) q0 (c0.kd j0 q) p0) I<|Ai I<|Aa<|Au I<|By hb0 func134 I I ?_
 cases h
 exact c0.gv
def bw_p (n:Nat) (a0:Ta):Oa Int:=
  (bM_p n (1:Int)).bind fun c0=>(am_p n a0).bind fun b0=>(aI_p n b0.fe).bind fun d0=>(if d0 <= 0 then some (20:Int) else (aF_p n b0.fh b0.fe).bind fun g0=>(bt_p n g0 c0).bind fun j0=>(if j0 = 0 then some (0:Int) else some (20:Int)))
theorem bw_c (n:Nat) {L w} (hL:hl L w) (a0:Ta)  {r:Int} (h:bw_p n a0 = some r) :
 Cl 65 #[.agg ((aa a0)).toArray] w (ar w fun _ u=>u = vI r):=by
 unfold bw_p at h
 refine AT func65 I I I fun _ cs0 hb0=>Af<|RG.bx (AS w) I I fun B1 p1 t0 u1=>Ai I<|Aa<|Af<|bk h fun A0 Z0 h=>jE (bd 132) I (e1 I) (fun p q=>bM_c n (t0.hL hL q)  Z0) I fun C1 y1 Q0 ⟨j1,hu_,V0⟩=>?_
 subst hu_
 obtain ⟨F0,v1⟩:=t0.agr Q0
 refine RG.nl [.bool false,vN] F0 fun D1 q1 G0 J0=>?_
 have u0:=Ag V0 J0
 refine AQ [.bool A0.fc,j1] G0 .hd (o2 I (AE u0)) fun E1 k0 K0=>Aa<|Af<|Ab (AF I (k0.memA .t1))<|bk h fun g0 b1 h=>jE (bd 68) I (e1 I) (fun p q=>am_c n (k0.hL hL q) a0 b1) I fun F1 z1 R0 ⟨z0,s0,hu_,W0,X0⟩=>?_
 subst hu_
 obtain ⟨H0,M0⟩:=k0.agr R0
 refine RG.nl [.bool false,vN,.bool false,vN] H0 fun G1 s1 I0 p0=>?_
 have v0:=Ag W0 p0
 have x0:=Ag X0 p0
 refine AQ [.bool g0.fh.fc,z0,.bool g0.fe.fc,s0] I0 .hd (o4 I (AE v0) I (AE x0)) fun H1 d0 q0=>Aa<|Ak<|Ak<|du 14 fun b0 c0=>Rv 0 b0 I c0 (fun _=>Bw 2 I)<|Rx 1 16380 b0 I c0 (AZ (cs:=[.bool g0.fe.fc,s0]) I I (aj (d0.memA .hd) 2 2))<|bk h fun B0 c1 h=>?_
 have y0:=Ag x0 q0
 refine RD.cq 2 7 16376 (vI B0) b0 I c0 (bd 67) I (e1 I) (fun p q=>aI_c n (d0.hL0 hL q) g0.fe (d0.kd y0 q) c1) I<|Rv 3 b0 I c0 (fun _=>FV.leq (i:=B0) (j:=0) I I)<|Rv 4 b0 I c0 (fun _=>Aj I)<|RD.ifd (s:=12) I h (fun D0 h=>?_) (fun D0 h=>?_)
 refine Bu 8191 1 [(5,13),(6,14),(7,15),(8,16),(9,17),(10,18),(11,19),(12,20)] (F:=[(12,true)]) (U:=[]) b0 c0 (.cons I .nil) .nil ?_
 dsimp only [aQ,List.map]
 refine Rv 13 b0 I c0 (fun _=>Bc I I)<|AN (dk b0)<|AW I<|Af<|Ai I<|Aa<|Au I<|By hb0 func65 I I ?_
 cases h
 exact d0.gv
 refine AX 5 63 b0 I c0 (.yes I I) (fun _=>Bw 0 I) I<|RD.val (i:=6) (m' :=127) (W:=14848) (tk b0) I c0 (.yes I I) (AZ (cs:=[.bool g0.fh.fc,z0]) I I (aj (d0.memA .hd) 0 2)) I<|AX 7 255 b0 I c0 (.yes I I) (fun _=>Bw 2 I) I<|RD.val (i:=8) (m' :=511) (W:=14848) (tk b0) I c0 (.yes I I) (AZ (cs:=[.bool g0.fe.fc,s0]) I I (aj (d0.memA .hd) 2 2)) I<|RD.val (i:=10) (m' :=1535) (W:=14336) (tk b0) I c0 (.yes I I) (AF I (d0.memA .t1)) I<|bk h fun k1 d1 h=>AU 9 2047 b0 I (.yes I I) (bd 133) I (e2 I I) (fun p q=>aF_c n (d0.hL hL q) g0.fh (Ah (Ag v0 q0) q) g0.fe (Ah y0 q) d1) I fun I1 A1 U0 ⟨x1,hu_,Y0⟩=>?_
 subst hu_
 obtain ⟨j0,P0⟩:=d0.agr U0
 refine bk h fun C0 g1 h=>AV (i:=11) (m' :=4095) (W:=12288) (tk b0) I c0 (v:=vI C0) (fst:=[]) (cap:=[]) (.yes I I) (bd 134) I (e2 I I) (fun p q=>bt_c n (j0.hL0 hL q) k1 (j0.kd Y0 q) A0 (j0.kd (Ag u0 (Tt K0 (Tt M0 (Tt p0 (Tt q0 P0))))) q) g1) I<|AX 12 8191 b0 I c0 (.yes I I) (fun _=>BM (i:=C0) (j:=0) I I) I<|Rv 13 b0 I c0 (fun _=>Be I I)<|AN (dk b0)<|MX.ifn I h (fun E0 h=>?_) (fun E0 h=>?_)
 refine Ar<|Af<|Ai I<|Aa<|Au I<|By hb0 func65 I I ?_
 cases h
 exact j0.gv
 refine Af<|Ai I<|Aa<|Au I<|By hb0 func65 I I ?_
 cases h
 exact j0.gv
def aA (x:Tb):List Vc:=[vU x.fm.fN.1,vU x.fm.fN.2.1,vU x.fm.fN.2.2.1,vU x.fm.fN.2.2.2.1,vU x.fm.fN.2.2.2.2.1,vU x.fm.fN.2.2.2.2.2.1,vU x.fm.fN.2.2.2.2.2.2.1,vU x.fm.fN.2.2.2.2.2.2.2,vU x.fm.fD.1,vU x.fm.fD.2.1,vU x.fm.fD.2.2.1,vU x.fm.fD.2.2.2.1,vU x.fm.fD.2.2.2.2.1,vU x.fm.fD.2.2.2.2.2.1,vU x.fm.fD.2.2.2.2.2.2.1,vU x.fm.fD.2.2.2.2.2.2.2,vU x.fP.fN.1,vU x.fP.fN.2.1,vU x.fP.fN.2.2.1,vU x.fP.fN.2.2.2.1,vU x.fP.fN.2.2.2.2.1,vU x.fP.fN.2.2.2.2.2.1,vU x.fP.fN.2.2.2.2.2.2.1,vU x.fP.fN.2.2.2.2.2.2.2,vU x.fP.fD.1,vU x.fP.fD.2.1,vU x.fP.fD.2.2.1,vU x.fP.fD.2.2.2.1,vU x.fP.fD.2.2.2.2.1,vU x.fP.fD.2.2.2.2.2.1,vU x.fP.fD.2.2.2.2.2.2.1,vU x.fP.fD.2.2.2.2.2.2.2]
def aK_p (n:Nat) (a0:Tb):Oa Tc:=
  (am_p n a0.fP).bind fun b0=>some b0
theorem aK_c (n:Nat) {L w} (hL:hl L w) (a0:Tb)  {r:Tc} (h:aK_p n a0 = some r) :
 Cl 66 #[.agg ((aA a0)).toArray] w (ar w fun w' u=>∃ v0_1 v0_3:Vc,u = .agg #[.bool r.fh.fc,v0_1,.bool r.fe.fc,v0_3]/\Rep.R w' L [v0_1] r.fh.fj/\Rep.R w' L [v0_3] r.fe.fj):=by
 unfold aK_p at h
 refine AT func66 I I I fun _ cs0 hb0=>Af<|RG.bx (AS w) I I fun D0 x0 s0 z0=>RG.nl [.bool false,vN,.bool false,vN] s0 fun E0 y0 d0 A0=>Aa<|Af<|BB 16 I<|Ab (AZ (cs:=(aa a0.fP)) I I (aj (d0.memA .t1) 16 16))<|bk h fun c0 v0 h=>jE (bd 68) I (e1 I) (fun p q=>am_c n (d0.hL hL q) a0.fP v0) I fun F0 C0 u0 ⟨g0,j0,hu_,p0,q0⟩=>?_
 subst hu_
 obtain ⟨t0,B0⟩:=d0.agr u0
 refine AQ [.bool c0.fh.fc,g0,.bool c0.fe.fc,j0] t0 .hd (o4 I (AE p0) I (AE q0)) fun G0 b0 k0=>Aa<|Au I<|Aq hb0 func66 I (.cons (.many (cs:=[.bool c0.fh.fc,g0,.bool c0.fe.fc,j0]) I I (b0.memA .hd)) .nil) I ?_
 cases h
 exact ⟨b0.ag,fun p q=>⟨g0,j0,I,b0.kd (Ag p0 k0) q,b0.kd (Ag q0 k0) q⟩⟩
def bJ_p (_n:Nat) (a0:Ua) (a1:Ua):Oa (Ua × Ua):=
  (some (((shrU a0 32) * (a1 &&& (4294967295:Ua))) + (shrU ((a0 &&& (4294967295:Ua)) * (a1 &&& (4294967295:Ua))) 32))).bind fun u1=>(some (shrU ((u1 &&& (4294967295:Ua)) + ((a0 &&& (4294967295:Ua)) * (shrU a1 32))) 32)).bind fun u2=>some ((((shrU a0 32) * (shrU a1 32)) + (shrU u1 32)) + u2,a0 * a1)
theorem bJ_c (n:Nat) {L w} (_hL:hl L w) (a0:Ua) (a1:Ua)  {r:Ua × Ua} (h:bJ_p n a0 a1 = some r) :
 Cl 190 #[vU a0,vU a1] w (ar w fun _ u=>u = .tuple #[vU r.1,vU r.2]):=by
 unfold bJ_p at h
 have hS0:=AS w
 refine AT func190 I I I fun _ cs0 hb0=>Af<|Ai I<|Ai I<|Aa<|Af<|Ae I<|Ab (FV.andU (a:=a0) (b:=(4294967295:Ua)) I I)<|Ai I<|Aa<|Af<|Ae I<|Ab (FV.shrU (a:=a0) (j:=32) I I)<|Ai I<|Aa<|Af<|Ae I<|Ab (FV.andU (a:=a1) (b:=(4294967295:Ua)) I I)<|Ai I<|Aa<|Af<|Ae I<|Ab (FV.shrU (a:=a1) (j:=32) I I)<|Ai I<|Aa<|Af<|Ae I<|Ae I<|Ab (FV.mulU (a:=a0 &&& (4294967295:Ua)) (b:=a1 &&& (4294967295:Ua)) I I)<|Ai I<|Aa<|Af<|Ae I<|Ae I<|Ab (FV.mulU (a:=shrU a0 32) (b:=a1 &&& (4294967295:Ua)) I I)<|Ae I<|Ab (FV.shrU (a:=(a0 &&& (4294967295:Ua)) * (a1 &&& (4294967295:Ua))) (j:=32) I I)<|bk h fun u1 hu1 h=>Ab (FV.as (FV.addU (a:=(shrU a0 32) * (a1 &&& (4294967295:Ua))) (b:=shrU ((a0 &&& (4294967295:Ua)) * (a1 &&& (4294967295:Ua))) 32) I I) (congrArg (fun z:Ua=>Value.int .u64 (z.toNat:Int)) (Option.some.inj hu1)))<|Ai I<|Aa<|Af<|Ae I<|Ab (FV.andU (a:=u1) (b:=(4294967295:Ua)) I I)<|Ai I<|Aa<|Af<|Ae I<|Ab (FV.shrU (a:=u1) (j:=32) I I)<|Ai I<|Aa<|Af<|Ae I<|Ae I<|Ae I ?_
 refine Ab (FV.mulU (a:=a0 &&& (4294967295:Ua)) (b:=shrU a1 32) I I)<|Ab (FV.addU (a:=u1 &&& (4294967295:Ua)) (b:=(a0 &&& (4294967295:Ua)) * (shrU a1 32)) I I)<|Ai I<|Aa<|Af<|Ae I<|Ae I<|Ab (FV.mulU (a:=shrU a0 32) (b:=shrU a1 32) I I)<|Ae I<|Ab (FV.addU (a:=(shrU a0 32) * (shrU a1 32)) (b:=shrU u1 32) I I)<|Ae I<|bk h fun u2 hu2 h=>Ab (FV.as (FV.shrU (a:=(u1 &&& (4294967295:Ua)) + ((a0 &&& (4294967295:Ua)) * (shrU a1 32))) (j:=32) I I) (congrArg (fun z:Ua=>Value.int .u64 (z.toNat:Int)) (Option.some.inj hu2)))<|Ab (FV.addU (a:=((shrU a0 32) * (shrU a1 32)) + (shrU u1 32)) (b:=u2) I I)<|Ai I<|Aa<|Af<|Ae I<|Ae I<|Ab (FV.mulU (a:=a0) (b:=a1) I I)<|Ai I<|Aa<|Au I<|Aq hb0 func190 I (.cons (.tmp I) (.cons (.tmp I) .nil)) I ?_
 cases h
 exact hS0.gv
def aN_l1 (n:Nat) (a1:List Ua) (s0:Ua) (d0:Nat) (q0:Ua × Nat × (List Ua) -> Oa ((List Ua) × Ua)):Ua × Nat × (List Ua) -> Oa ((List Ua) × Ua)
  | (g0,b0,c0)=>(if b0 < a1.length then (a1[b0]?).bind fun t0=>(bJ_p n s0 t0).bind fun j0=>(c0[d0 + b0]?).bind fun u0=>(add64 u0 j0.2 (0:Ua)).bind fun k0=>(add64 k0.1 g0 (0:Ua)).bind fun p0=>(put c0 ((d0 + b0:Nat):Int) p0.1).bind fun v0=>q0 ((j0.1 + k0.2) + p0.2,b0 + 1,v0) else some (c0,g0))
def aN_l2 (n:Nat) (a0:List Ua) (a1:List Ua) (g0:Nat × (List Ua) -> Oa (List Ua)):Nat × (List Ua) -> Oa (List Ua)
  | (b0,c0)=>(if b0 < a0.length then (a0[b0]?).bind fun k0=>Option.bind (az (aN_l1 n a1 k0 b0) n (0,0,c0)) (fun (d0,j0)=>(d0[b0 + a1.length]?).bind fun _x490=>(put d0 ((b0 + a1.length:Nat):Int) j0).bind fun p0=>g0 (b0 + 1,p0)) else some c0)
def aN_p (n:Nat) (a0:List Ua) (a1:List Ua):Oa (List Ua):=
  (mk ((a0.length + a1.length:Nat):Int) (0:Ua)).bind fun b0=>Option.bind (az (aN_l2 n a0 a1) n (0,b0)) (fun c0=>some c0)
theorem aN_c (n:Nat) {L w} (hL:hl L w) {a0:List Ua} {v0_0:Vc} (h0_0:Rep.R w L [v0_0] a0) {a1:List Ua} {v1_0:Vc} (h1_0:Rep.R w L [v1_0] a1)  {r:List Ua} (h:aN_p n a0 a1 = some r) :
 Cl 167 #[v0_0,v1_0] w (ar w fun w' u=>∃ v0_0:Vc,u = v0_0/\Rep.R w' L [v0_0] r):=by
 unfold aN_p at h
 refine AT func167 I I I fun _ cs0 hb0=>Af<|Ai I<|Aa<|Af<|Ae I ?_
 have hl1:=Bg h0_0
 refine Ab (Bh (xs:=a0) underlying105 I h0_0)<|Ae I ?_
 have hl2:=Bg h1_0
 refine Ab (Bh (xs:=a1) underlying105 I h1_0)<|Ab (Bj (i:=a0.length) (j:=a1.length) I I (by omega))<|bk h fun R0 J0 h=>Am .plain I (Does.mk (α:=Ua) J0 (AS w) cW I) fun Q2 j0 z0 I2=>Ai I<|Aa<|Ak<|Af<|Ae I<|Ab (Bh (xs:=a0) underlying105 I (AO h0_0 z0))<|Ae I<|Aa<|Aw ?_
 obtain ⟨M2,U1,I1⟩:=aw h
 refine MX.lf (α:=Nat × (List Ua) × (List Vc)) (fun ⟨b0,d0,k0⟩=>[(1,v1_0),(5,(.slice (some ⟨j0,0,none⟩) ((a0.length + a1.length:Nat):Int).toNat ((a0.length + a1.length:Nat):Int).toNat)),(22,v0_0),(23,vn a0.length),(24,vn b0)]) (fun ⟨b0,d0,k0⟩=>[rr w 30 Ua (.slice (some ⟨j0,0,none⟩) ((a0.length + a1.length:Nat):Int).toNat ((a0.length + a1.length:Nat):Int).toNat) d0.length k0]) (fun ⟨b0,d0,k0⟩ K0=>Cells K0 (bl [rr w 30 Ua (.slice (some ⟨j0,0,none⟩) ((a0.length + a1.length:Nat):Int).toNat ((a0.length + a1.length:Nat):Int).toNat) d0.length k0] ++ L) k0 d0) (fun ⟨b0,d0,k0⟩=>(b0,d0)) (0,R0,(List.replicate ((a0.length + a1.length:Nat):Int).toNat [vW 0]).flatten) U1 z0 (AC (cs:=(List.replicate ((a0.length + a1.length:Nat):Int).toNat [vW 0]).flatten) (xs:=R0) z0 L (Cells.mk J0 I)) ?_
 rintro A2 ⟨b0,d0,k0⟩ K0 q1 t0 x1 F0 h
 unfold aN_l2 at h
 try dsimp only at h
 refine Af<|Ab (AY (i:=b0) (j:=a0.length) I I)<|Aa<|Ak<|Bb I h (fun Z0 h=>?_) (fun Z0 h=>?_)
 refine Ar<|Ak<|Aw<|Af<|Ae I<|bk h fun D0 c2 h=>?_
 obtain ⟨y2,C2,C1,K1,c1,W1,P1⟩:=Bv (AO h0_0 t0) c2
 have D1:c1 = [vU D0]:=W1; subst D1
 refine Ab (BJ 1 b0 I C1 I I K1)<|BH I (P1 0 _ I)<|Ai I<|Ai I<|Aa<|Af<|Ai I<|Aa<|Ak<|Af<|Ae I<|Ab (Bh (xs:=a1) underlying105 I (AO h1_0 t0))<|Ae I<|Aa<|Aw ?_
 obtain ⟨P2,V1,J1⟩:=aw h
 refine MX.lf (α:=Ua × Nat × (List Ua) × (List Vc)) (fun ⟨s0,c0,p0,q0⟩=>[(1,v1_0),(5,(.slice (some ⟨j0,0,none⟩) ((a0.length + a1.length:Nat):Int).toNat ((a0.length + a1.length:Nat):Int).toNat)),(22,v0_0),(23,vn a0.length),(24,vn b0),(6,vn b0),(7,vU D0),(8,vU s0),(29,v1_0),(30,vn a1.length),(31,vn c0)]) (fun ⟨s0,c0,p0,q0⟩=>[rr w 30 Ua (.slice (some ⟨j0,0,none⟩) ((a0.length + a1.length:Nat):Int).toNat ((a0.length + a1.length:Nat):Int).toNat) p0.length q0]) (fun ⟨s0,c0,p0,q0⟩ M0=>Cells M0 (bl [rr w 30 Ua (.slice (some ⟨j0,0,none⟩) ((a0.length + a1.length:Nat):Int).toNat ((a0.length + a1.length:Nat):Int).toNat) p0.length q0] ++ L) q0 p0) (fun ⟨s0,c0,p0,q0⟩=>(s0,c0,p0)) (0,0,d0,k0) V1 t0 F0 ?_
 rintro B2 ⟨s0,c0,p0,q0⟩ M0 s1 g0 E0 v0 h
 unfold aN_l1 at h
 try dsimp only at h
 refine Af<|Ab (AY (i:=c0) (j:=a1.length) I I)<|Aa<|Ak<|Bb I h (fun b1 h=>?_) (fun b1 h=>?_)
 refine Ar<|Ak<|Aw<|Af<|Ae I<|bk h fun P0 d2 h=>?_
 obtain ⟨z2,D2,E1,M1,d1,X1,Q1⟩:=Bv (AO h1_0 g0) d2
 have F1:d1 = [vU P0]:=X1; subst F1
 refine Ab (BJ 1 c0 I E1 I I M1)<|BH I (Q1 0 _ I)<|Ai I<|Ai I<|Aa<|Af<|Ae I<|Ae I<|bk h fun u0 q2 h=>Bo (.tuple #[vU u0.1,vU u0.2]) (bd 190) I (e2 I I) (fun p q=>bJ_c n (g0.hL0 hL q) D0 P0 q2) I<|Ae I<|Ab (Ac I I)<|Ab (Ac I I)<|Ai I<|Ai I<|Aa<|Af<|Ae I<|Ae I<|Ae I<|Ab (Bj (i:=b0) (j:=c0) I I (by omega))<|bk h fun Q0 g2 h=>?_
 obtain ⟨V0,E2,x0,C0,g1,Y1,R1⟩:=St.nth (α:=Ua) g0 .hd v0 g2
 obtain ⟨X0,F2,G0⟩:=St.nthOwn (α:=Ua) g0 .hd C0
 obtain rfl:V0 = ⟨X0,0,none⟩:=by rw [G0] at x0; cases x0; rfl
 have G1:g1 = [vU Q0]:=Y1; subst G1
 refine Ab (BJ 1 (b0 + c0) I x0 I I C0)<|BH I (R1 0 _ I)<|Ae I<|bk h fun y0 s2 h=>Ab (FV.add64 (a:=Q0) (b:=u0.2) (c:=(0:Ua)) func191 I I I I I I I s2)<|Ae I<|Ab (Ac I I)<|Ab (Ac I I)<|Ai I<|Ai I<|Aa<|Af<|Ae I<|Ae I<|bk h fun U0 t2 h=>Ab (FV.add64 (a:=y0.1) (b:=s0) (c:=(0:Ua)) func191 I I I I I I I t2)<|Ae I<|Ab (Ac I I)<|Ab (Ac I I)<|Ai I<|Ai I<|Aa<|Ap<|Ae I<|Ae I<|Ae I<|Ab (Bj (i:=b0) (j:=c0) I I (by omega))<|Ae I<|Ae I<|Ae I<|Ab (FV.addU (a:=u0.1) (b:=y0.2) I I)<|Ae I<|Ab (FV.addU (a:=u0.1 + y0.2) (b:=U0.2) I I)<|Ab (BJ 1 (b0 + c0) I x0 I I C0)<|bk h fun v2 k2 h=>RG.acts' .plain (Acts.set (α:=Ua) (i:=b0 + c0) k2 g0 G0 (fun _=>.hd) v0 I I I I I I) fun R2 ⟨j1,u1,y1,A1⟩=>Ai I<|Aa<|Ay<|Ap<|Ab (Bj (i:=c0) (j:=1) I I (by omega))<|Ae I<|Aa<|s1 ((u0.1 + y0.2) + U0.2,c0 + 1,v2,j1) u1 (Tt E0 y1) A1 h
 refine Bd I ?_
 have h:=J1 _ h
 try dsimp only at h
 refine Ap<|Ae I<|Ae I<|Ae I<|Ab (Bh (xs:=a1) underlying105 I (AO h1_0 g0))<|Ab (Bj (i:=b0) (j:=a1.length) I I (by omega))<|Ae I<|bk h fun u2 j2 h=>?_
 obtain ⟨W0,G2,B0,I0,k1,Z1,K2⟩:=St.nth (α:=Ua) g0 .hd v0 j2
 obtain ⟨Y0,H2,H0⟩:=St.nthOwn (α:=Ua) g0 .hd I0
 obtain rfl:W0 = ⟨Y0,0,none⟩:=by rw [H0] at B0; cases B0; rfl
 have H1:k1 = [vU u2]:=Z1; subst H1
 refine Ab (BJ 1 (b0 + a1.length) I B0 I I I0)<|bk h fun x2 p2 h=>RG.acts' .plain (Acts.set (α:=Ua) (i:=b0 + a1.length) p2 g0 H0 (fun _=>.hd) v0 I I I I I I) fun U2 ⟨p1,v1,z1,B1⟩=>Aa<|Ay<|Ap<|Ab (Bj (i:=b0) (j:=1) I I (by omega))<|Ae I<|Aa<|q1 (b0 + 1,x2,p1) v1 (Tt x1 (Tt E0 z1)) B1 h
 refine Bd I ?_
 have h:=I1 _ h
 try dsimp only at h
 refine Af<|Ae I<|Ai I<|Aa<|Au I ?_
 have A0:=Bl t0 .hd
 have J2:=Bm t0 .hd
 have b2:=Bn (α:=Ua) (v:=(.slice (some ⟨j0,0,none⟩) ((a0.length + a1.length:Nat):Int).toNat ((a0.length + a1.length:Nat):Int).toNat)) (xs:=d0) A0 L (Ba (α:=Ua) t0 .hd F0 hL)
 refine By hb0 func167 I I ?_
 cases h
 exact ⟨A0.ag,fun p q=>⟨(.slice (some ⟨j0,0,none⟩) ((a0.length + a1.length:Nat):Int).toNat ((a0.length + a1.length:Nat):Int).toNat),I,A0.kd b2 q⟩⟩
def aD_p (n:Nat) (a0:Td) (a1:Td):Oa Td:=
  (aN_p n a0.fj a1.fj).bind fun b0=>(ay_p n (!(a0.fc == a1.fc)) b0).bind fun c0=>some c0
theorem aD_c (n:Nat) {L w} (hL:hl L w) (a0:Td) {v0_1:Vc} (h0_1:Rep.R w L [v0_1] a0.fj) (a1:Td) {v1_1:Vc} (h1_1:Rep.R w L [v1_1] a1.fj)  {r:Td} (h:aD_p n a0 a1 = some r) :
 Cl 136 #[.agg #[.bool a0.fc,v0_1],.agg #[.bool a1.fc,v1_1]] w (ar w fun w' u=>∃ v0_1:Vc,u = .agg #[.bool r.fc,v0_1]/\Rep.R w' L [v0_1] r.fj):=by
 unfold aD_p at h
 refine AT func136 I I I fun _ cs0 hb0=>Af<|RG.bx (AS w) I I fun Q0 C0 s0 F0=>RG.bx s0 I I fun R0 D0 t0 G0=>RG.nl [.bool false,vN] t0 fun U0 E0 d0 H0=>Aa<|Ak<|du 11 fun b0 c0=>Rv 0 b0 I c0 (fun _=>Bw 0 I)<|Rx 1 3088 b0 I c0 (Bx I ((d0.memA .t2) 0 _ I))<|Rv 2 b0 I c0 (fun _=>Bw 0 I)<|Rx 3 3088 b0 I c0 (Bx I ((d0.memA .t1) 0 _ I))<|Rv 4 b0 I c0 (fun _=>FV.neqB (a:=a0.fc) (b:=a1.fc) underlying4 I I)<|Rv 5 b0 I c0 (fun _=>Bw 1 I)<|Rx 6 3584 b0 I c0 (Bx I ((d0.memA .t2) 1 _ I))<|Rv 7 b0 I c0 (fun _=>Bw 1 I)<|Rx 8 3584 b0 I c0 (Bx I ((d0.memA .t1) 1 _ I))<|bk h fun Y0 A0 h=>AU 9 1023 b0 I .plain (bd 167) I (e2 I I) (fun p q=>aN_c n (d0.hL hL q) (d0.km h0_1 q) (d0.km h1_1 q) A0) I fun V0 M0 x0 ⟨K0,hu_,z0⟩=>?_
 subst hu_
 obtain ⟨k0,I0⟩:=d0.agr x0
 refine bk h fun q0 B0 h=>AU 10 2047 b0 I .plain (bd 166) I (e2 I I) (fun p q=>ay_c n (k0.hL hL q) (Ah z0 q) B0) I fun W0 P0 y0 ⟨j0,hu_,p0⟩=>?_
 subst hu_
 obtain ⟨u0,J0⟩:=k0.agr y0
 refine BF 11 4095 b0 I I .plain (AJ (news:=[.bool q0.fc,j0]) u0 .hd I I I I I I (o2 I (AE p0))) fun X0 g0 v0=>AN (dk b0)<|Au I<|Aq hb0 func136 I (.cons (.many (cs:=[.bool q0.fc,j0]) I I (g0.memA .hd)) .nil) I ?_
 cases h
 exact ⟨g0.ag,fun p q=>⟨j0,I,g0.kd (Ag p0 v0) q⟩⟩
def aG_p (n:Nat) (a0:Tc) (a1:Tc):Oa Int:=
  (aD_p n a0.fh a1.fe).bind fun b0=>(aD_p n a1.fh a0.fe).bind fun c0=>(bt_p n b0 c0).bind fun d0=>some d0
theorem aG_c (n:Nat) {L w} (hL:hl L w) (a0:Tc) {v0_1:Vc} (h0_1:Rep.R w L [v0_1] a0.fh.fj) {v0_3:Vc} (h0_3:Rep.R w L [v0_3] a0.fe.fj) (a1:Tc) {v1_1:Vc} (h1_1:Rep.R w L [v1_1] a1.fh.fj) {v1_3:Vc} (h1_3:Rep.R w L [v1_3] a1.fe.fj)  {r:Int} (h:aG_p n a0 a1 = some r) :
 Cl 69 #[.agg #[.bool a0.fh.fc,v0_1,.bool a0.fe.fc,v0_3],.agg #[.bool a1.fh.fc,v1_1,.bool a1.fe.fc,v1_3]] w (ar w fun _ u=>u = vI r):=by
 unfold aG_p at h
 refine AT func69 I I I fun _ cs0 hb0=>Af<|RG.bx (AS w) I I fun M0 C0 k0 E0=>RG.bx k0 I I fun P0 D0 d0 F0=>Ai I<|Aa<|Ak<|du 12 fun b0 c0=>Rv 0 b0 I c0 (fun _=>Bw 0 I)<|Rx 1 3600 b0 I c0 (AZ (cs:=[.bool a0.fh.fc,v0_1]) I I (aj (d0.memA .t1) 0 2))<|Rv 2 b0 I c0 (fun _=>Bw 2 I)<|Rx 3 3600 b0 I c0 (AZ (cs:=[.bool a1.fe.fc,v1_3]) I I (aj (d0.memA .hd) 2 2))<|Rv 5 b0 I c0 (fun _=>Bw 0 I)<|Rx 6 3584 b0 I c0 (AZ (cs:=[.bool a1.fh.fc,v1_1]) I I (aj (d0.memA .hd) 0 2))<|Rv 7 b0 I c0 (fun _=>Bw 2 I)<|Rx 8 3584 b0 I c0 (AZ (cs:=[.bool a0.fe.fc,v0_3]) I I (aj (d0.memA .t1) 2 2))<|bk h fun z0 v0 h=>AU 4 511 b0 I .plain (bd 136) I (e2 I I) (fun p q=>aD_c n (d0.hL hL q) a0.fh (d0.km h0_1 q) a1.fe (d0.km h1_3 q) v0) I fun Q0 J0 q0 ⟨H0,hu_,t0⟩=>?_
 subst hu_
 obtain ⟨g0,G0⟩:=d0.agr q0
 refine bk h fun A0 x0 h=>AU 9 1023 b0 I .plain (bd 136) I (e2 I I) (fun p q=>aD_c n (g0.hL hL q) a1.fh (g0.km h1_1 q) a0.fe (g0.km h0_3 q) x0) I fun R0 K0 s0 ⟨I0,hu_,u0⟩=>?_
 subst hu_
 obtain ⟨j0,p0⟩:=g0.agr s0
 refine bk h fun B0 y0 h=>RD.cq 10 2047 2048 (vI B0) b0 I c0 (bd 134) I (e2 I I) (fun p q=>bt_c n (j0.hL0 hL q) z0 (j0.kd (Ag t0 p0) q) A0 (j0.kd u0 q) y0) I<|Rv 11 b0 I c0 (fun _=>Bk I)<|AN (dk b0)<|Au I<|By hb0 func69 I I ?_
 cases h
 exact j0.gv
def bQ_p (n:Nat) (a0:Td):Oa Tc:=
  (bM_p n (1:Int)).bind fun b0=>some (⟨a0,b0⟩:Tc)
theorem bQ_c (n:Nat) {L w} (hL:hl L w) (a0:Td) {v0_1:Vc} (h0_1:Rep.R w L [v0_1] a0.fj)  {r:Tc} (h:bQ_p n a0 = some r) :
 Cl 137 #[.agg #[.bool a0.fc,v0_1]] w (ar w fun w' u=>∃ v0_1 v0_3:Vc,u = .agg #[.bool r.fh.fc,v0_1,.bool r.fe.fc,v0_3]/\Rep.R w' L [v0_1] r.fh.fj/\Rep.R w' L [v0_3] r.fe.fj):=by
 unfold bQ_p at h
 refine AT func137 I I I fun _ cs0 hb0=>Af<|RG.bx (AS w) I I fun M0 D0 u0 H0=>RG.nl [.bool false,vN,.bool false,vN] u0 fun P0 E0 j0 I0=>Aa<|Ak<|du 3 fun b0 t0=>Rx 0 12 b0 I t0 (AF I (j0.memA .t1))<|bk h fun g0 A0 h=>AU 1 3 b0 I .plain (bd 132) I (e1 I) (fun p q=>bM_c n (j0.hL hL q)  A0) I fun Q0 K0 x0 ⟨c0,hu_,p0⟩=>?_
 subst hu_
 obtain ⟨q0,J0⟩:=j0.agr x0
 have s0:=AO h0_1 q0
 obtain ⟨B0,F0,y0,_⟩:=BD s0
 obtain ⟨C0,G0,z0,_⟩:=BD p0
 refine Rv 2 b0 I t0 (fun _=>AI (vs:=[.agg #[.bool a0.fc,v0_1],.agg #[.bool g0.fc,c0]]) (u:=.agg #[.bool a0.fc,v0_1,.bool g0.fc,c0]) (e2 I I) (fun p=>by rw [y0,z0]; try kernel_rfl))<|BF 3 15 b0 I I .plain (AJ (news:=[.bool a0.fc,v0_1,.bool g0.fc,c0]) q0 .hd I I I I I I (o4 I (AE s0) I (AE p0))) fun R0 d0 v0=>AN (dk b0)<|Au I<|Aq hb0 func137 I (.cons (.many (cs:=[.bool a0.fc,v0_1,.bool g0.fc,c0]) I I (d0.memA .hd)) .nil) I ?_
 cases h
 exact ⟨d0.ag,fun p q=>⟨v0_1,c0,I,d0.k0 h0_1 q,d0.kd (Ag p0 v0) q⟩⟩
def aB_p (n:Nat) (a0:Int):Oa Tc:=
  (bM_p n a0).bind fun b0=>(bQ_p n b0).bind fun c0=>some c0
theorem aB_c (n:Nat) {L w} (hL:hl L w) {a0:Int}  {r:Tc} (h:aB_p n a0 = some r) :
 Cl 71 #[vI a0] w (ar w fun w' u=>∃ v0_1 v0_3:Vc,u = .agg #[.bool r.fh.fc,v0_1,.bool r.fe.fc,v0_3]/\Rep.R w' L [v0_1] r.fh.fj/\Rep.R w' L [v0_3] r.fe.fj):=by
 unfold aB_p at h
 refine AT func71 I I I fun _ cs0 hb0=>Af<|RG.nl [.bool false,vN,.bool false,vN] (AS w) fun I0 B0 j0 C0=>Aa<|Af<|Ae I<|bk h fun A0 y0 h=>jE (bd 132) I (e1 I) (fun p q=>bM_c n (j0.hL hL q)  y0) I fun J0 G0 u0 ⟨F0,hu_,x0⟩=>?_
 subst hu_
 obtain ⟨k0,D0⟩:=j0.agr u0
 refine bk h fun c0 z0 h=>jE (bd 137) I (e1 I) (fun p q=>bQ_c n (k0.hL hL q) A0 (Ah x0 q) z0) I fun K0 H0 v0 ⟨d0,g0,hu_,q0,s0⟩=>?_
 subst hu_
 obtain ⟨t0,E0⟩:=k0.agr v0
 refine AQ [.bool c0.fh.fc,d0,.bool c0.fe.fc,g0] t0 .hd (o4 I (AE q0) I (AE s0)) fun M0 b0 p0=>Aa<|Au I<|Aq hb0 func71 I (.cons (.many (cs:=[.bool c0.fh.fc,d0,.bool c0.fe.fc,g0]) I I (b0.memA .hd)) .nil) I ?_
 cases h
 exact ⟨b0.ag,fun p q=>⟨d0,g0,I,b0.kd (Ag q0 p0) q,b0.kd (Ag s0 p0) q⟩⟩
def ae_p (n:Nat) (a0:Tc) (a1:Tc):Oa Tc:=
  (aD_p n a0.fh a1.fe).bind fun b0=>(aD_p n a1.fh a0.fe).bind fun c0=>(aV_p n b0 c0).bind fun d0=>(aD_p n a0.fe a1.fe).bind fun g0=>(aZ_p n d0 g0).bind fun j0=>some j0
theorem ae_c (n:Nat) {L w} (hL:hl L w) (a0:Tc) {v0_1:Vc} (h0_1:Rep.R w L [v0_1] a0.fh.fj) {v0_3:Vc} (h0_3:Rep.R w L [v0_3] a0.fe.fj) (a1:Tc) {v1_1:Vc} (h1_1:Rep.R w L [v1_1] a1.fh.fj) {v1_3:Vc} (h1_3:Rep.R w L [v1_3] a1.fe.fj)  {r:Tc} (h:ae_p n a0 a1 = some r) :
 Cl 81 #[.agg #[.bool a0.fh.fc,v0_1,.bool a0.fe.fc,v0_3],.agg #[.bool a1.fh.fc,v1_1,.bool a1.fe.fc,v1_3]] w (ar w fun w' u=>∃ v0_1 v0_3:Vc,u = .agg #[.bool r.fh.fc,v0_1,.bool r.fe.fc,v0_3]/\Rep.R w' L [v0_1] r.fh.fj/\Rep.R w' L [v0_3] r.fe.fj):=by
 unfold ae_p at h
 refine AT func81 I I I fun _ cs0 hb0=>Af<|RG.bx (AS w) I I fun F1 c1 z0 j1=>RG.bx z0 I I fun G1 d1 A0 k1=>RG.nl [.bool false,vN,.bool false,vN] A0 fun H1 g1 d0 p1=>Aa<|Ak<|du 17 fun b0 c0=>Rv 0 b0 I c0 (fun _=>Bw 0 I)<|Rx 1 230928 b0 I c0 (AZ (cs:=[.bool a0.fh.fc,v0_1]) I I (aj (d0.memA .t2) 0 2))<|Rv 2 b0 I c0 (fun _=>Bw 2 I)<|Rx 3 230928 b0 I c0 (AZ (cs:=[.bool a1.fe.fc,v1_3]) I I (aj (d0.memA .t1) 2 2))<|Rv 5 b0 I c0 (fun _=>Bw 0 I)<|Rx 6 230912 b0 I c0 (AZ (cs:=[.bool a1.fh.fc,v1_1]) I I (aj (d0.memA .t1) 0 2))<|Rv 7 b0 I c0 (fun _=>Bw 2 I)<|Rx 8 230912 b0 I c0 (AZ (cs:=[.bool a0.fe.fc,v0_3]) I I (aj (d0.memA .t2) 2 2))<|Rv 11 b0 I c0 (fun _=>Bw 2 I)<|Rx 12 229376 b0 I c0 (AZ (cs:=[.bool a0.fe.fc,v0_3]) I I (aj (d0.memA .t2) 2 2))<|Rv 13 b0 I c0 (fun _=>Bw 2 I)<|Rx 14 229376 b0 I c0 (AZ (cs:=[.bool a1.fe.fc,v1_3]) I I (aj (d0.memA .t1) 2 2))<|bk h fun X0 Q0 h=>AU 4 31231 b0 I .plain (bd 136) I (e2 I I) (fun p q=>aD_c n (d0.hL hL q) a0.fh (d0.km h0_1 q) a1.fe (d0.km h1_3 q) Q0) I fun I1 A1 E0 ⟨v1,hu_,J0⟩=>?_
 subst hu_
 obtain ⟨g0,q1⟩:=d0.agr E0
 refine bk h fun Y0 R0 h=>AU 9 31743 b0 I .plain (bd 136) I (e2 I I) (fun p q=>aD_c n (g0.hL hL q) a1.fh (g0.km h1_1 q) a0.fe (g0.km h0_3 q) R0) I fun J1 B1 F0 ⟨x1,hu_,K0⟩=>?_
 subst hu_
 obtain ⟨t0,C0⟩:=g0.agr F0
 refine bk h fun Z0 U0 h=>AU 10 32767 b0 I .plain (bd 141) I (e2 I I) (fun p q=>aV_c n (t0.hL hL q) X0 (Ah (Ag J0 C0) q) Y0 (Ah K0 q) U0) I fun K1 C1 G0 ⟨y1,hu_,M0⟩=>?_
 subst hu_
 obtain ⟨j0,s1⟩:=t0.agr G0
 refine bk h fun b1 V0 h=>AU 15 65535 b0 I .plain (bd 136) I (e2 I I) (fun p q=>aD_c n (j0.hL hL q) a0.fe (j0.km h0_3 q) a1.fe (j0.km h1_3 q) V0) I fun M1 D1 H0 ⟨z1,hu_,P0⟩=>?_
 subst hu_
 obtain ⟨u0,D0⟩:=j0.agr H0
 refine bk h fun p0 W0 h=>AU 16 131071 b0 I .plain (bd 140) I (e2 I I) (fun p q=>aZ_c n (u0.hL hL q) Z0 (Ah (Ag M0 D0) q) b1 (Ah P0 q) W0) I fun P1 E1 I0 ⟨q0,s0,hu_,x0,y0⟩=>?_
 subst hu_
 obtain ⟨B0,u1⟩:=u0.agr I0
 refine BF 17 262143 b0 I I .plain (AJ (news:=[.bool p0.fh.fc,q0,.bool p0.fe.fc,s0]) B0 .hd I I I I I I (o4 I (AE x0) I (AE y0))) fun Q1 k0 v0=>AN (dk b0)<|Au I<|Aq hb0 func81 I (.cons (.many (cs:=[.bool p0.fh.fc,q0,.bool p0.fe.fc,s0]) I I (k0.memA .hd)) .nil) I ?_
 cases h
 exact ⟨k0.ag,fun p q=>⟨q0,s0,I,k0.kd (Ag x0 v0) q,k0.kd (Ag y0 v0) q⟩⟩
end Go.Proofs.YtkommhmbkbhmlaaGreat
