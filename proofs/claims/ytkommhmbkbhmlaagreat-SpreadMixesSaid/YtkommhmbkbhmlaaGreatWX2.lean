import Derived.Test.YtkommhmbkbhmlaaGreatProg
import Derived.Test.YtkommhmbkbhmlaaGreatWRs
namespace Go.Proofs.YtkommhmbkbhmlaaGreat
open Go Go.RowKit Tryz
set_option maxRecDepth 4000
set_option maxHeartbeats 4000000
abbrev Cl := Calls Tryz.prog
theorem bd (k:Nat) (h:bQ Tryz.prog k = true:=by kernel_rfl):bQ Tryz.prog k = true:=h

def aj (x:U8):List Value:=[vU x.1,vU x.2.1,vU x.2.2.1,vU x.2.2.2.1,vU x.2.2.2.2.1,vU x.2.2.2.2.2.1,vU x.2.2.2.2.2.2.1,vU x.2.2.2.2.2.2.2]
def cS_l1 (_n:Nat) (t0:Nat × U8 -> Option (U8)):Nat × U8 -> Option (U8)
  | (b0,c0,d0,g0,j0,k0,p0,q0,s0)=>(if b0 < 8 then (([c0,d0,g0,j0,k0,p0,q0,s0]:List UInt64)[b0]?).bind fun _z71=>t0 (b0 + 1,ax b0 0 (18446744073709551615:UInt64) c0,ax b0 1 (18446744073709551615:UInt64) d0,ax b0 2 (18446744073709551615:UInt64) g0,ax b0 3 (18446744073709551615:UInt64) j0,ax b0 4 (18446744073709551615:UInt64) k0,ax b0 5 (18446744073709551615:UInt64) p0,ax b0 6 (18446744073709551615:UInt64) q0,ax b0 7 (18446744073709551615:UInt64) s0) else some (c0,d0,g0,j0,k0,p0,q0,s0))
def cS_p (n:Nat) (a0:Int):Option (U8):=
  (if a0 < 0 then Option.bind (am (cS_l1 n) n (1,ac a0,0,0,0,0,0,0,0)) (fun (b0,c0,d0,g0,j0,k0,p0,q0)=>some (b0,c0,d0,g0,j0,k0,p0,q0)) else some (ac a0,0,0,0,0,0,0,0))
theorem cS_c (n:Nat) {L w} (_hL:hl L w) {a0:Int}  {r:U8} (h:cS_p n a0 = some r) :
 Cl 32 #[vI a0] w (ai w fun _ u=>u = .agg ((aj r)).toArray):=by
 unfold cS_p at h
 refine AL func32 rfl rfl rfl fun _ cs0 hb0=>Ae<|RG.nl zP (AK w) fun Y0 y0 E0 P0=>Aa<|Ae<|Ac rfl<|Ab (FV.convU (i:=a0) underlying3 underlying30 rfl)<|Ab (AS (vs:=[vW ((ac a0).toNat:Int)]) (u:=.agg #[vW ((ac a0).toNat:Int),vW 0,vW 0,vW 0,vW 0,vW 0,vW 0,vW 0]) (e1 rfl) (fun w9=>by kernel_rfl))<|RG.nl zP E0 fun Z0 u0 F0 Q0=>AT [vW ((ac a0).toNat:Int),vW 0,vW 0,vW 0,vW 0,vW 0,vW 0,vW 0] F0 .hd (ak rfl) fun b1 v0 R0=>Aa<|Aj<|Ae<|Ac rfl<|Ab (FV.lss (i:=a0) (j:=0) rfl rfl)<|Aa<|AW rfl h (fun B0 h=>?_) (fun B0 h=>?_)
 refine Ae<|Ag rfl<|Aa<|Av ?_
 obtain ⟨X0,K0,J0⟩:=ao h
 refine MX.lo (α:=Nat × U8) (fun ⟨b0,c0,d0,g0,j0,k0,p0,q0,s0⟩=>[(2,vP y0),(3,vP u0),(4,vI ((b0:Nat):Int))]) (fun ⟨b0,c0,d0,g0,j0,k0,p0,q0,s0⟩=>[.cells u0 [vU c0,vU d0,vU g0,vU j0,vU k0,vU p0,vU q0,vU s0] 32,.cells y0 zP 32]) (fun ⟨b0,c0,d0,g0,j0,k0,p0,q0,s0⟩=>(b0,c0,d0,g0,j0,k0,p0,q0,s0)) (1,ac a0,0,0,0,0,0,0,0) K0 v0 ?_
 rintro M0 ⟨b0,c0,d0,g0,j0,k0,p0,q0,s0⟩ j1 D0 t0 H0 h
 unfold cS_l1 at h
 try dsimp only at h
 refine Aj<|Ae<|Ac rfl<|Ab (AU (i:=b0) (j:=8) rfl rfl)<|Aa<|AW rfl h (fun C0 h=>?_) (fun C0 h=>?_)
 refine Aq<|Aj<|Av<|Am<|Ac rfl<|bk h fun k1 x0 h=>?_
 have W0:=aZ (p:=⟨u0,0,none⟩) (cs:=([c0,d0,g0,j0,k0,p0,q0,s0]:List UInt64).map (fun z9:UInt64=>(vU z9:Value)) ++ []) (i:=b0) (t0.memA .hd) (bJ (fun z9:UInt64=>(vU z9:Value)) x0)
 refine Ab (AI (m:=1) (k:=b0) (len:=8) rfl rfl rfl rfl (bO x0 rfl))<|RG.now .plain (Acts.storeArr (fun z9:UInt64=>(vU z9:Value)) (xs:=([c0,d0,g0,j0,k0,p0,q0,s0]:List UInt64)) (pre:=[]) (post:=[]) (i:=b0) (m:=8) (x:=(18446744073709551615:UInt64)) (old:=[vU c0,vU d0,vU g0,vU j0,vU k0,vU p0,vU q0,vU s0]) (new' :=[vW ((ax b0 0 (18446744073709551615:UInt64) c0).toNat:Int),vW ((ax b0 1 (18446744073709551615:UInt64) d0).toNat:Int),vW ((ax b0 2 (18446744073709551615:UInt64) g0).toNat:Int),vW ((ax b0 3 (18446744073709551615:UInt64) j0).toNat:Int),vW ((ax b0 4 (18446744073709551615:UInt64) k0).toNat:Int),vW ((ax b0 5 (18446744073709551615:UInt64) p0).toNat:Int),vW ((ax b0 6 (18446744073709551615:UInt64) q0).toNat:Int),vW ((ax b0 7 (18446744073709551615:UInt64) s0).toNat:Int)]) rfl rfl (bO x0 rfl) t0 .hd rfl (kj _ _ _) rfl rfl (fun _=>⟨rfl,rfl⟩) rfl rfl) fun c1 G0 I0=>Aa<|Aw<|Am<|Ac rfl<|Ab (Bc (i:=b0) (j:=1) rfl rfl (by omega))<|Ag rfl<|Aa<|D0 (b0 + 1,ax b0 0 (18446744073709551615:UInt64) c0,ax b0 1 (18446744073709551615:UInt64) d0,ax b0 2 (18446744073709551615:UInt64) g0,ax b0 3 (18446744073709551615:UInt64) j0,ax b0 4 (18446744073709551615:UInt64) k0,ax b0 5 (18446744073709551615:UInt64) p0,ax b0 6 (18446744073709551615:UInt64) q0,ax b0 7 (18446744073709551615:UInt64) s0) G0 (Tt H0 I0) h
 refine Ba rfl ?_
 have h:=J0 _ h
 try dsimp only at h
 refine Ae<|Ab (AA rfl (t0.memA .hd))<|AT [vU c0,vU d0,vU g0,vU j0,vU k0,vU p0,vU q0,vU s0] t0 .t1 (ak rfl) fun d1 z0 U0=>Aa<|Ar rfl<|Au hb0 func32 rfl (.cons (.many (cs:=[vU c0,vU d0,vU g0,vU j0,vU k0,vU p0,vU q0,vU s0]) rfl rfl (z0.memA .t1)) .nil) rfl ?_
 cases h
 exact z0.gv
 refine Aq<|Ae<|Ab (AA rfl (v0.memA .hd))<|AT [vW ((ac a0).toNat:Int),vW 0,vW 0,vW 0,vW 0,vW 0,vW 0,vW 0] v0 .t1 (ak rfl) fun g1 A0 V0=>Aa<|Ar rfl<|Au hb0 func32 rfl (.cons (.many (cs:=[vW ((ac a0).toNat:Int),vW 0,vW 0,vW 0,vW 0,vW 0,vW 0,vW 0]) rfl rfl (A0.memA .t1)) .nil) rfl ?_
 cases h
 exact A0.gv
def bG_p (_n:Nat) (a0:U8) (a1:U8):Option ((U8) × UInt64):=
  (sub64 a0.1 a1.1 (0:UInt64)).bind fun b0=>(sub64 a0.2.1 a1.2.1 b0.2).bind fun c0=>(sub64 a0.2.2.1 a1.2.2.1 c0.2).bind fun d0=>(sub64 a0.2.2.2.1 a1.2.2.2.1 d0.2).bind fun g0=>(sub64 a0.2.2.2.2.1 a1.2.2.2.2.1 g0.2).bind fun j0=>(sub64 a0.2.2.2.2.2.1 a1.2.2.2.2.2.1 j0.2).bind fun k0=>(sub64 a0.2.2.2.2.2.2.1 a1.2.2.2.2.2.2.1 k0.2).bind fun p0=>(sub64 a0.2.2.2.2.2.2.2 a1.2.2.2.2.2.2.2 p0.2).bind fun q0=>some ((b0.1,c0.1,d0.1,g0.1,j0.1,k0.1,p0.1,q0.1),q0.2)
theorem bG_c (n:Nat) {L w} (_hL:hl L w) (a0:U8) (a1:U8)  {r:(U8) × UInt64} (h:bG_p n a0 a1 = some r) :
 Cl 189 #[.agg ((aj a0)).toArray,.agg ((aj a1)).toArray] w (ai w fun _ u=>u = .tuple #[.agg ((aj r.1)).toArray,vU r.2]):=by
 unfold bG_p at h
 refine AL func189 rfl rfl rfl fun _ cs0 hb0=>Ae<|RG.bx (AK w) rfl rfl fun J1 s1 Y0 x1=>RG.bx Y0 rfl rfl fun K1 u1 Z0 y1=>RG.nl zP Z0 fun M1 v1 J0 z1=>Ag rfl<|Aa<|Ae<|Ag rfl<|Aa<|Aj<|Ae<|Ac rfl<|Aa<|Av<|MX.loop1<|Ae<|Ab (AU (i:=0) (j:=8) rfl rfl)<|Aa<|Aj<|AE rfl<|Aq<|Aj<|Av<|Ae<|Ac rfl<|Ag rfl<|Aa<|du 13 fun c0 v0=>Rv 0 c0 rfl v0 (fun _=>Al rfl)<|Rv 1 c0 rfl v0 (fun _=>Al rfl)<|Rv 2 c0 rfl v0 (fun _=>AI (m:=1) (k:=0) (len:=8) rfl rfl rfl rfl (by omega))<|Rx 3 32512 c0 rfl v0 (Bn rfl ((J0.memA .t2) 0 _ rfl))<|Rv 4 c0 rfl v0 (fun _=>Al rfl)<|Rv 5 c0 rfl v0 (fun _=>AI (m:=1) (k:=0) (len:=8) rfl rfl rfl rfl (by omega))<|Rx 6 32512 c0 rfl v0 (Bn rfl ((J0.memA .t1) 0 _ rfl))<|Rv 7 c0 rfl v0 (fun _=>Al rfl)<|bk h fun b0 b1 h=>Rv 8 c0 rfl v0 (fun _=>FV.sub64 (a:=a0.1) (b:=a1.1) (c:=(0:UInt64)) func193 rfl rfl rfl rfl rfl rfl rfl b1)<|Rv 9 c0 rfl v0 (fun _=>Al rfl)<|Rv 10 c0 rfl v0 (fun _=>Ai rfl rfl) ?_
 refine Rv 11 c0 rfl v0 (fun _=>Ai rfl rfl)<|Rv 12 c0 rfl v0 (fun _=>AI (m:=1) (k:=0) (len:=8) rfl rfl rfl rfl (by omega))<|BC 13 16383 c0 rfl rfl .plain (BS (j:=0) (old:=(aj a0)) (news:=[vU b0.1]) (new' :=[vU b0.1,vU a0.2.1,vU a0.2.2.1,vU a0.2.2.2.1,vU a0.2.2.2.2.1,vU a0.2.2.2.2.2.1,vU a0.2.2.2.2.2.2.1,vU a0.2.2.2.2.2.2.2]) J0 .t2 rfl rfl rfl rfl rfl rfl (o1 rfl) rfl) fun P1 K0 A1=>BJ (i:=14) (rk c0) (RO.val (m' :=32767) (sk c0) rfl .plain rfl (Bo rfl) ?_)
 refine AN (dk c0)<|Aw<|Am<|Ab (BL (i:=0) (j:=1) (r:=1) rfl rfl (by decide))<|Ac rfl<|Aa<|Bp<|Ae<|Ab (AU (i:=1) (j:=8) rfl rfl)<|Aa<|Aj<|AE rfl<|Aq<|Aj<|Av<|Ae<|Ac rfl<|Ag rfl<|Aa<|du 13 fun d0 x0=>Rv 0 d0 rfl x0 (fun _=>Al rfl)<|Rv 1 d0 rfl x0 (fun _=>Al rfl)<|Rv 2 d0 rfl x0 (fun _=>AI (m:=1) (k:=1) (len:=8) rfl rfl rfl rfl (by omega))<|Rx 3 32512 d0 rfl x0 (Bn rfl ((K0.memA .t2) 1 _ rfl))<|Rv 4 d0 rfl x0 (fun _=>Al rfl)<|Rv 5 d0 rfl x0 (fun _=>AI (m:=1) (k:=1) (len:=8) rfl rfl rfl rfl (by omega))<|Rx 6 32512 d0 rfl x0 (Bn rfl ((K0.memA .t1) 1 _ rfl))<|Rv 7 d0 rfl x0 (fun _=>Al rfl)<|bk h fun t0 c1 h=>Rv 8 d0 rfl x0 (fun _=>FV.sub64 (a:=a0.2.1) (b:=a1.2.1) (c:=b0.2) func193 rfl rfl rfl rfl rfl rfl rfl c1)<|Rv 9 d0 rfl x0 (fun _=>Al rfl)<|Rv 10 d0 rfl x0 (fun _=>Ai rfl rfl)<|Rv 11 d0 rfl x0 (fun _=>Ai rfl rfl)<|Rv 12 d0 rfl x0 (fun _=>AI (m:=1) (k:=1) (len:=8) rfl rfl rfl rfl (by omega))<|BC 13 16383 d0 rfl rfl .plain (BS (j:=1) (old:=[vU b0.1,vU a0.2.1,vU a0.2.2.1,vU a0.2.2.2.1,vU a0.2.2.2.2.1,vU a0.2.2.2.2.2.1,vU a0.2.2.2.2.2.2.1,vU a0.2.2.2.2.2.2.2]) (news:=[vU t0.1]) (new' :=[vU b0.1,vU t0.1,vU a0.2.2.1,vU a0.2.2.2.1,vU a0.2.2.2.2.1,vU a0.2.2.2.2.2.1,vU a0.2.2.2.2.2.2.1,vU a0.2.2.2.2.2.2.2]) K0 .t2 rfl rfl rfl rfl rfl rfl (o1 rfl) rfl) fun Q1 M0 B1=>BJ (i:=14) (rk d0) (RO.val (m' :=32767) (sk d0) rfl .plain rfl (Bo rfl) ?_)
 refine AN (dk d0)<|Aw<|Am<|Ab (BL (i:=1) (j:=1) (r:=2) rfl rfl (by decide))<|Ac rfl<|Aa<|Bp<|Ae<|Ab (AU (i:=2) (j:=8) rfl rfl)<|Aa<|Aj<|AE rfl<|Aq<|Aj<|Av<|Ae<|Ac rfl<|Ag rfl<|Aa<|du 13 fun g0 y0=>Rv 0 g0 rfl y0 (fun _=>Al rfl)<|Rv 1 g0 rfl y0 (fun _=>Al rfl)<|Rv 2 g0 rfl y0 (fun _=>AI (m:=1) (k:=2) (len:=8) rfl rfl rfl rfl (by omega))<|Rx 3 32512 g0 rfl y0 (Bn rfl ((M0.memA .t2) 2 _ rfl))<|Rv 4 g0 rfl y0 (fun _=>Al rfl)<|Rv 5 g0 rfl y0 (fun _=>AI (m:=1) (k:=2) (len:=8) rfl rfl rfl rfl (by omega))<|Rx 6 32512 g0 rfl y0 (Bn rfl ((M0.memA .t1) 2 _ rfl))<|Rv 7 g0 rfl y0 (fun _=>Al rfl)<|bk h fun u0 d1 h=>Rv 8 g0 rfl y0 (fun _=>FV.sub64 (a:=a0.2.2.1) (b:=a1.2.2.1) (c:=t0.2) func193 rfl rfl rfl rfl rfl rfl rfl d1)<|Rv 9 g0 rfl y0 (fun _=>Al rfl)<|Rv 10 g0 rfl y0 (fun _=>Ai rfl rfl)<|Rv 11 g0 rfl y0 (fun _=>Ai rfl rfl)<|Rv 12 g0 rfl y0 (fun _=>AI (m:=1) (k:=2) (len:=8) rfl rfl rfl rfl (by omega))<|BC 13 16383 g0 rfl rfl .plain (BS (j:=2) (old:=[vU b0.1,vU t0.1,vU a0.2.2.1,vU a0.2.2.2.1,vU a0.2.2.2.2.1,vU a0.2.2.2.2.2.1,vU a0.2.2.2.2.2.2.1,vU a0.2.2.2.2.2.2.2]) (news:=[vU u0.1]) (new' :=[vU b0.1,vU t0.1,vU u0.1,vU a0.2.2.2.1,vU a0.2.2.2.2.1,vU a0.2.2.2.2.2.1,vU a0.2.2.2.2.2.2.1,vU a0.2.2.2.2.2.2.2]) M0 .t2 rfl rfl rfl rfl rfl rfl (o1 rfl) rfl) fun R1 P0 C1=>BJ (i:=14) (rk g0) (RO.val (m' :=32767) (sk g0) rfl .plain rfl (Bo rfl) ?_)
 refine AN (dk g0)<|Aw<|Am<|Ab (BL (i:=2) (j:=1) (r:=3) rfl rfl (by decide))<|Ac rfl<|Aa<|Bp<|Ae<|Ab (AU (i:=3) (j:=8) rfl rfl)<|Aa<|Aj<|AE rfl<|Aq<|Aj<|Av<|Ae<|Ac rfl<|Ag rfl<|Aa<|du 13 fun j0 z0=>Rv 0 j0 rfl z0 (fun _=>Al rfl)<|Rv 1 j0 rfl z0 (fun _=>Al rfl)<|Rv 2 j0 rfl z0 (fun _=>AI (m:=1) (k:=3) (len:=8) rfl rfl rfl rfl (by omega))<|Rx 3 32512 j0 rfl z0 (Bn rfl ((P0.memA .t2) 3 _ rfl))<|Rv 4 j0 rfl z0 (fun _=>Al rfl)<|Rv 5 j0 rfl z0 (fun _=>AI (m:=1) (k:=3) (len:=8) rfl rfl rfl rfl (by omega))<|Rx 6 32512 j0 rfl z0 (Bn rfl ((P0.memA .t1) 3 _ rfl))<|Rv 7 j0 rfl z0 (fun _=>Al rfl)<|bk h fun E0 g1 h=>Rv 8 j0 rfl z0 (fun _=>FV.sub64 (a:=a0.2.2.2.1) (b:=a1.2.2.2.1) (c:=u0.2) func193 rfl rfl rfl rfl rfl rfl rfl g1)<|Rv 9 j0 rfl z0 (fun _=>Al rfl)<|Rv 10 j0 rfl z0 (fun _=>Ai rfl rfl)<|Rv 11 j0 rfl z0 (fun _=>Ai rfl rfl)<|Rv 12 j0 rfl z0 (fun _=>AI (m:=1) (k:=3) (len:=8) rfl rfl rfl rfl (by omega))<|BC 13 16383 j0 rfl rfl .plain (BS (j:=3) (old:=[vU b0.1,vU t0.1,vU u0.1,vU a0.2.2.2.1,vU a0.2.2.2.2.1,vU a0.2.2.2.2.2.1,vU a0.2.2.2.2.2.2.1,vU a0.2.2.2.2.2.2.2]) (news:=[vU E0.1]) (new' :=[vU b0.1,vU t0.1,vU u0.1,vU E0.1,vU a0.2.2.2.2.1,vU a0.2.2.2.2.2.1,vU a0.2.2.2.2.2.2.1,vU a0.2.2.2.2.2.2.2]) P0 .t2 rfl rfl rfl rfl rfl rfl (o1 rfl) rfl) fun U1 Q0 D1=>BJ (i:=14) (rk j0) (RO.val (m' :=32767) (sk j0) rfl .plain rfl (Bo rfl) ?_)
 refine AN (dk j0)<|Aw<|Am<|Ab (BL (i:=3) (j:=1) (r:=4) rfl rfl (by decide))<|Ac rfl<|Aa<|Bp<|Ae<|Ab (AU (i:=4) (j:=8) rfl rfl)<|Aa<|Aj<|AE rfl<|Aq<|Aj<|Av<|Ae<|Ac rfl<|Ag rfl<|Aa<|du 13 fun k0 A0=>Rv 0 k0 rfl A0 (fun _=>Al rfl)<|Rv 1 k0 rfl A0 (fun _=>Al rfl)<|Rv 2 k0 rfl A0 (fun _=>AI (m:=1) (k:=4) (len:=8) rfl rfl rfl rfl (by omega))<|Rx 3 32512 k0 rfl A0 (Bn rfl ((Q0.memA .t2) 4 _ rfl))<|Rv 4 k0 rfl A0 (fun _=>Al rfl)<|Rv 5 k0 rfl A0 (fun _=>AI (m:=1) (k:=4) (len:=8) rfl rfl rfl rfl (by omega))<|Rx 6 32512 k0 rfl A0 (Bn rfl ((Q0.memA .t1) 4 _ rfl))<|Rv 7 k0 rfl A0 (fun _=>Al rfl)<|bk h fun F0 j1 h=>Rv 8 k0 rfl A0 (fun _=>FV.sub64 (a:=a0.2.2.2.2.1) (b:=a1.2.2.2.2.1) (c:=E0.2) func193 rfl rfl rfl rfl rfl rfl rfl j1)<|Rv 9 k0 rfl A0 (fun _=>Al rfl)<|Rv 10 k0 rfl A0 (fun _=>Ai rfl rfl)<|Rv 11 k0 rfl A0 (fun _=>Ai rfl rfl)<|Rv 12 k0 rfl A0 (fun _=>AI (m:=1) (k:=4) (len:=8) rfl rfl rfl rfl (by omega))<|BC 13 16383 k0 rfl rfl .plain (BS (j:=4) (old:=[vU b0.1,vU t0.1,vU u0.1,vU E0.1,vU a0.2.2.2.2.1,vU a0.2.2.2.2.2.1,vU a0.2.2.2.2.2.2.1,vU a0.2.2.2.2.2.2.2]) (news:=[vU F0.1]) (new' :=[vU b0.1,vU t0.1,vU u0.1,vU E0.1,vU F0.1,vU a0.2.2.2.2.2.1,vU a0.2.2.2.2.2.2.1,vU a0.2.2.2.2.2.2.2]) Q0 .t2 rfl rfl rfl rfl rfl rfl (o1 rfl) rfl) fun V1 R0 E1=>BJ (i:=14) (rk k0) (RO.val (m' :=32767) (sk k0) rfl .plain rfl (Bo rfl) ?_)
 refine AN (dk k0)<|Aw<|Am<|Ab (BL (i:=4) (j:=1) (r:=5) rfl rfl (by decide))<|Ac rfl<|Aa<|Bp<|Ae<|Ab (AU (i:=5) (j:=8) rfl rfl)<|Aa<|Aj<|AE rfl<|Aq<|Aj<|Av<|Ae<|Ac rfl<|Ag rfl<|Aa<|du 13 fun p0 B0=>Rv 0 p0 rfl B0 (fun _=>Al rfl)<|Rv 1 p0 rfl B0 (fun _=>Al rfl)<|Rv 2 p0 rfl B0 (fun _=>AI (m:=1) (k:=5) (len:=8) rfl rfl rfl rfl (by omega))<|Rx 3 32512 p0 rfl B0 (Bn rfl ((R0.memA .t2) 5 _ rfl))<|Rv 4 p0 rfl B0 (fun _=>Al rfl)<|Rv 5 p0 rfl B0 (fun _=>AI (m:=1) (k:=5) (len:=8) rfl rfl rfl rfl (by omega))<|Rx 6 32512 p0 rfl B0 (Bn rfl ((R0.memA .t1) 5 _ rfl))<|Rv 7 p0 rfl B0 (fun _=>Al rfl)<|bk h fun G0 k1 h=>Rv 8 p0 rfl B0 (fun _=>FV.sub64 (a:=a0.2.2.2.2.2.1) (b:=a1.2.2.2.2.2.1) (c:=F0.2) func193 rfl rfl rfl rfl rfl rfl rfl k1)<|Rv 9 p0 rfl B0 (fun _=>Al rfl)<|Rv 10 p0 rfl B0 (fun _=>Ai rfl rfl)<|Rv 11 p0 rfl B0 (fun _=>Ai rfl rfl)<|Rv 12 p0 rfl B0 (fun _=>AI (m:=1) (k:=5) (len:=8) rfl rfl rfl rfl (by omega))<|BC 13 16383 p0 rfl rfl .plain (BS (j:=5) (old:=[vU b0.1,vU t0.1,vU u0.1,vU E0.1,vU F0.1,vU a0.2.2.2.2.2.1,vU a0.2.2.2.2.2.2.1,vU a0.2.2.2.2.2.2.2]) (news:=[vU G0.1]) (new' :=[vU b0.1,vU t0.1,vU u0.1,vU E0.1,vU F0.1,vU G0.1,vU a0.2.2.2.2.2.2.1,vU a0.2.2.2.2.2.2.2]) R0 .t2 rfl rfl rfl rfl rfl rfl (o1 rfl) rfl) fun W1 U0 F1=>BJ (i:=14) (rk p0) (RO.val (m' :=32767) (sk p0) rfl .plain rfl (Bo rfl) ?_)
 refine AN (dk p0)<|Aw<|Am<|Ab (BL (i:=5) (j:=1) (r:=6) rfl rfl (by decide))<|Ac rfl<|Aa<|Bp<|Ae<|Ab (AU (i:=6) (j:=8) rfl rfl)<|Aa<|Aj<|AE rfl<|Aq<|Aj<|Av<|Ae<|Ac rfl<|Ag rfl<|Aa<|du 13 fun q0 C0=>Rv 0 q0 rfl C0 (fun _=>Al rfl)<|Rv 1 q0 rfl C0 (fun _=>Al rfl)<|Rv 2 q0 rfl C0 (fun _=>AI (m:=1) (k:=6) (len:=8) rfl rfl rfl rfl (by omega))<|Rx 3 32512 q0 rfl C0 (Bn rfl ((U0.memA .t2) 6 _ rfl))<|Rv 4 q0 rfl C0 (fun _=>Al rfl)<|Rv 5 q0 rfl C0 (fun _=>AI (m:=1) (k:=6) (len:=8) rfl rfl rfl rfl (by omega))<|Rx 6 32512 q0 rfl C0 (Bn rfl ((U0.memA .t1) 6 _ rfl))<|Rv 7 q0 rfl C0 (fun _=>Al rfl)<|bk h fun H0 p1 h=>Rv 8 q0 rfl C0 (fun _=>FV.sub64 (a:=a0.2.2.2.2.2.2.1) (b:=a1.2.2.2.2.2.2.1) (c:=G0.2) func193 rfl rfl rfl rfl rfl rfl rfl p1)<|Rv 9 q0 rfl C0 (fun _=>Al rfl)<|Rv 10 q0 rfl C0 (fun _=>Ai rfl rfl)<|Rv 11 q0 rfl C0 (fun _=>Ai rfl rfl)<|Rv 12 q0 rfl C0 (fun _=>AI (m:=1) (k:=6) (len:=8) rfl rfl rfl rfl (by omega))<|BC 13 16383 q0 rfl rfl .plain (BS (j:=6) (old:=[vU b0.1,vU t0.1,vU u0.1,vU E0.1,vU F0.1,vU G0.1,vU a0.2.2.2.2.2.2.1,vU a0.2.2.2.2.2.2.2]) (news:=[vU H0.1]) (new' :=[vU b0.1,vU t0.1,vU u0.1,vU E0.1,vU F0.1,vU G0.1,vU H0.1,vU a0.2.2.2.2.2.2.2]) U0 .t2 rfl rfl rfl rfl rfl rfl (o1 rfl) rfl) fun X1 V0 G1=>BJ (i:=14) (rk q0) (RO.val (m' :=32767) (sk q0) rfl .plain rfl (Bo rfl) ?_)
 refine AN (dk q0)<|Aw<|Am<|Ab (BL (i:=6) (j:=1) (r:=7) rfl rfl (by decide))<|Ac rfl<|Aa<|Bp<|Ae<|Ab (AU (i:=7) (j:=8) rfl rfl)<|Aa<|Aj<|AE rfl<|Aq<|Aj<|Av<|Ae<|Ac rfl<|Ag rfl<|Aa<|du 13 fun s0 D0=>Rv 0 s0 rfl D0 (fun _=>Al rfl)<|Rv 1 s0 rfl D0 (fun _=>Al rfl)<|Rv 2 s0 rfl D0 (fun _=>AI (m:=1) (k:=7) (len:=8) rfl rfl rfl rfl (by omega))<|Rx 3 32512 s0 rfl D0 (Bn rfl ((V0.memA .t2) 7 _ rfl))<|Rv 4 s0 rfl D0 (fun _=>Al rfl)<|Rv 5 s0 rfl D0 (fun _=>AI (m:=1) (k:=7) (len:=8) rfl rfl rfl rfl (by omega))<|Rx 6 32512 s0 rfl D0 (Bn rfl ((V0.memA .t1) 7 _ rfl))<|Rv 7 s0 rfl D0 (fun _=>Al rfl)<|bk h fun I0 q1 h=>Rv 8 s0 rfl D0 (fun _=>FV.sub64 (a:=a0.2.2.2.2.2.2.2) (b:=a1.2.2.2.2.2.2.2) (c:=H0.2) func193 rfl rfl rfl rfl rfl rfl rfl q1)<|Rv 9 s0 rfl D0 (fun _=>Al rfl)<|Rv 10 s0 rfl D0 (fun _=>Ai rfl rfl)<|Rv 11 s0 rfl D0 (fun _=>Ai rfl rfl)<|Rv 12 s0 rfl D0 (fun _=>AI (m:=1) (k:=7) (len:=8) rfl rfl rfl rfl (by omega))<|BC 13 16383 s0 rfl rfl .plain (BS (j:=7) (old:=[vU b0.1,vU t0.1,vU u0.1,vU E0.1,vU F0.1,vU G0.1,vU H0.1,vU a0.2.2.2.2.2.2.2]) (news:=[vU I0.1]) (new' :=[vU b0.1,vU t0.1,vU u0.1,vU E0.1,vU F0.1,vU G0.1,vU H0.1,vU I0.1]) V0 .t2 rfl rfl rfl rfl rfl rfl (o1 rfl) rfl) fun Y1 W0 H1=>BJ (i:=14) (rk s0) (RO.val (m' :=32767) (sk s0) rfl .plain rfl (Bo rfl) ?_)
 refine AN (dk s0)<|Aw<|Am<|Ab (BL (i:=7) (j:=1) (r:=8) rfl rfl (by decide))<|Ac rfl<|Aa<|Bp<|Ae<|Ab (AU (i:=8) (j:=8) rfl rfl)<|Aa<|Aj<|Bv rfl<|Ba rfl<|Ae<|Ab (AA rfl (W0.memA .t2))<|Ac rfl<|AT [vU b0.1,vU t0.1,vU u0.1,vU E0.1,vU F0.1,vU G0.1,vU H0.1,vU I0.1] W0 .hd (ak rfl) fun Z1 X0 I1=>Ag rfl<|Aa<|Ar rfl<|Au hb0 func189 rfl (.cons (.many (cs:=[vU b0.1,vU t0.1,vU u0.1,vU E0.1,vU F0.1,vU G0.1,vU H0.1,vU I0.1]) rfl rfl (X0.memA .hd)) (.cons (.tmp rfl) .nil)) rfl ?_
 cases h
 exact X0.gv
def bC_l1 (_n:Nat) (a0:U8) (a1:U8) (g0:Int -> Option (Int ⊕ Unit)):Int -> Option (Int ⊕ Unit)
  | b0=>(if 0 <= b0 then (idx ([a0.1,a0.2.1,a0.2.2.1,a0.2.2.2.1,a0.2.2.2.2.1,a0.2.2.2.2.2.1,a0.2.2.2.2.2.2.1,a0.2.2.2.2.2.2.2]:List UInt64) b0).bind fun c0=>(idx ([a1.1,a1.2.1,a1.2.2.1,a1.2.2.2.1,a1.2.2.2.2.1,a1.2.2.2.2.2.1,a1.2.2.2.2.2.2.1,a1.2.2.2.2.2.2.2]:List UInt64) b0).bind fun d0=>(if c0 = d0 then (chk (b0 - 1)).bind fun j0=>g0 j0 else (if c0 < d0 then some (.inl (-1:Int)) else some (.inl (1:Int)))) else some (.inr ()))
def bC_p (n:Nat) (a0:U8) (a1:U8):Option Int:=
  thn (am (bC_l1 n a0 a1) n 7) (fun _=>some (0:Int))
theorem bC_c (n:Nat) {L w} (_hL:hl L w) (a0:U8) (a1:U8)  {r:Int} (h:bC_p n a0 a1 = some r) :
 Cl 192 #[.agg ((aj a0)).toArray,.agg ((aj a1)).toArray] w (ai w fun _ u=>u = vI r):=by
 unfold bC_p at h
 refine AL func192 rfl rfl rfl fun _ cs0 hb0=>Ae<|RG.bx (AK w) rfl rfl fun V0 p0 E0 Q0=>RG.bx E0 rfl rfl fun W0 q0 F0 R0=>Ag rfl<|Aa<|Aj<|Ae<|Ag rfl<|Aa<|Av<|tn h fun U0 H0 u0=>MX.lo (α:=Int) (fun b0=>[(2,vP p0),(3,vP q0),(5,vI b0)]) (fun b0=>[.cells q0 (aj a1) 205,.cells p0 (aj a0) 205]) (fun b0=>b0) 7 H0 F0 ?_
 rintro P0 b0 X0 D0 c0 G0 h
 unfold bC_l1 at h
 try dsimp only at h
 refine Aj<|Ae<|Ac rfl<|Ab (FV.geq (i:=b0) (j:=0) rfl rfl)<|Aa<|AW rfl h (fun A0 h=>?_) (fun A0 h=>?_)
 refine Aq<|Aj<|Av<|Aj<|du 7 fun d0 j0=>Rv 0 d0 rfl j0 (fun _=>Al rfl)<|bk h fun y0 J0 h=>?_
 obtain ⟨v0,s0⟩:=aV J0
 refine Rv 1 d0 rfl j0 (fun _=>AI (m:=1) (k:=b0.toNat) (len:=8) rfl rfl rfl v0 (bO s0 rfl))<|Rx 2 64 d0 rfl j0 (Bn rfl ((aZ (p:=⟨p0,0,none⟩) (cs:=([a0.1,a0.2.1,a0.2.2.1,a0.2.2.2.1,a0.2.2.2.2.1,a0.2.2.2.2.2.1,a0.2.2.2.2.2.2.1,a0.2.2.2.2.2.2.2]:List UInt64).map (fun z9:UInt64=>(vU z9:Value)) ++ []) (i:=b0.toNat) (c0.memA .t1) (bJ (fun z9:UInt64=>(vU z9:Value)) s0)) 0 _ rfl))<|Rv 3 d0 rfl j0 (fun _=>Al rfl)<|bk h fun z0 K0 h=>?_
 obtain ⟨x0,t0⟩:=aV K0
 refine Rv 4 d0 rfl j0 (fun _=>AI (m:=1) (k:=b0.toNat) (len:=8) rfl rfl rfl x0 (bO t0 rfl))<|Rx 5 64 d0 rfl j0 (Bn rfl ((aZ (p:=⟨q0,0,none⟩) (cs:=([a1.1,a1.2.1,a1.2.2.1,a1.2.2.2.1,a1.2.2.2.2.1,a1.2.2.2.2.2.1,a1.2.2.2.2.2.2.1,a1.2.2.2.2.2.2.2]:List UInt64).map (fun z9:UInt64=>(vU z9:Value)) ++ []) (i:=b0.toNat) (c0.memA .hd) (bJ (fun z9:UInt64=>(vU z9:Value)) t0)) 0 _ rfl))<|Rv 6 d0 rfl j0 (fun _=>FV.neqU (a:=y0) (b:=z0) rfl rfl)<|AN (dk d0)<|BI rfl h (fun B0 h=>?_) (fun B0 h=>?_)
 refine Aq<|Aw<|Am<|Ac rfl<|bk h fun M0 I0 h=>Ab (FV.subc (i:=b0) (j:=1) rfl rfl I0)<|Ag rfl<|Aa<|D0 M0 c0 G0 h
 refine Aj<|Aj<|du 7 fun g0 k0=>Rv 0 g0 rfl k0 (fun _=>Al rfl)<|Rv 1 g0 rfl k0 (fun _=>AI (m:=1) (k:=b0.toNat) (len:=8) rfl rfl rfl v0 (bO s0 rfl))<|Rx 2 64 g0 rfl k0 (Bn rfl ((aZ (p:=⟨p0,0,none⟩) (cs:=([a0.1,a0.2.1,a0.2.2.1,a0.2.2.2.1,a0.2.2.2.2.1,a0.2.2.2.2.2.1,a0.2.2.2.2.2.2.1,a0.2.2.2.2.2.2.2]:List UInt64).map (fun z9:UInt64=>(vU z9:Value)) ++ []) (i:=b0.toNat) (c0.memA .t1) (bJ (fun z9:UInt64=>(vU z9:Value)) s0)) 0 _ rfl))<|Rv 3 g0 rfl k0 (fun _=>Al rfl)<|Rv 4 g0 rfl k0 (fun _=>AI (m:=1) (k:=b0.toNat) (len:=8) rfl rfl rfl x0 (bO t0 rfl))<|Rx 5 64 g0 rfl k0 (Bn rfl ((aZ (p:=⟨q0,0,none⟩) (cs:=([a1.1,a1.2.1,a1.2.2.1,a1.2.2.2.1,a1.2.2.2.2.1,a1.2.2.2.2.2.1,a1.2.2.2.2.2.2.1,a1.2.2.2.2.2.2.2]:List UInt64).map (fun z9:UInt64=>(vU z9:Value)) ++ []) (i:=b0.toNat) (c0.memA .hd) (bJ (fun z9:UInt64=>(vU z9:Value)) t0)) 0 _ rfl))<|Rv 6 g0 rfl k0 (fun _=>FV.lssU (a:=y0) (b:=z0) rfl rfl)<|AN (dk g0)<|AW rfl h (fun C0 h=>?_) (fun C0 h=>?_)
 refine Ae<|Ag rfl<|Aa ?_
 have h:=aS h u0
 refine Ar rfl<|Bb hb0 func192 rfl rfl ?_
 cases h
 exact c0.gv
 refine Aq<|Ae<|Ag rfl<|Aa ?_
 have h:=aS h u0
 refine Ar rfl<|Bb hb0 func192 rfl rfl ?_
 cases h
 exact c0.gv
 refine Ba rfl ?_
 have h:=aY h u0
 try dsimp only at h
 refine Ae<|Ag rfl<|Aa<|Ar rfl<|Bb hb0 func192 rfl rfl ?_
 cases h
 exact c0.gv
structure Tj where
  fc:Bool
  fl:U8
  deriving DecidableEq
instance:Rep Tj:=Rep.via (β:=Bool × (U8)) fun x=>(x.fc,x.fl)
def jG (x:Tj):List Value:=[.bool x.fc,vU x.fl.1,vU x.fl.2.1,vU x.fl.2.2.1,vU x.fl.2.2.2.1,vU x.fl.2.2.2.2.1,vU x.fl.2.2.2.2.2.1,vU x.fl.2.2.2.2.2.2.1,vU x.fl.2.2.2.2.2.2.2]
def cu_p (n:Nat) (a0:Tj):Option ((U8) × Int):=
  (bC_p n a0.fl (0,0,0,0,0,0,0,9223372036854775808)).bind fun b0=>(if 0 < b0 then some ((0,0,0,0,0,0,0,0),(6:Int)) else (if b0 = 0 then (if a0.fc = true then (bG_p n (0,0,0,0,0,0,0,0) a0.fl).bind fun c0=>some (c0.1,(0:Int)) else some ((0,0,0,0,0,0,0,0),(6:Int))) else (if a0.fc = true then (bG_p n (0,0,0,0,0,0,0,0) a0.fl).bind fun d0=>some (d0.1,(0:Int)) else some (a0.fl,(0:Int)))))
theorem cu_c (n:Nat) {L w} (hL:hl L w) (a0:Tj)  {r:(U8) × Int} (h:cu_p n a0 = some r) :
 Cl 168 #[.agg ((jG a0)).toArray] w (ai w fun _ u=>u = .tuple #[.agg ((aj r.1)).toArray,vI r.2]):=by
 unfold cu_p at h
 refine AL func168 rfl rfl rfl fun _ cs0 hb0=>Ae<|RG.bx (AK w) rfl rfl fun Z0 G0 A0 J0=>RG.nl zP A0 fun b1 H0 B0 K0=>Ag rfl<|Aa<|Ae<|Ab (AS (vs:=[vW 9223372036854775808]) (u:=.agg #[vW 0,vW 0,vW 0,vW 0,vW 0,vW 0,vW 0,vW 9223372036854775808]) (e1 rfl) (fun w9=>by kernel_rfl))<|RG.nl zP B0 fun c1 I0 C0 M0=>RG.now .plain (AD (news:=[vW 0,vW 0,vW 0,vW 0,vW 0,vW 0,vW 0,vW 9223372036854775808]) C0 .hd rfl rfl rfl rfl rfl (.refl 8) (ak rfl)) fun d1 b0 P0=>Aa<|Aj<|Ae<|Bk 1 rfl<|Ab (AQ (cs:=(aj a0.fl)) rfl rfl (ae (b0.memA .t2) 1 8))<|Ab (AA rfl (b0.memA .hd))<|bk h fun g0 D0 h=>Bj (vI g0) (bd 192) rfl (e2 rfl rfl) (fun w9 hw9=>bC_c n (b0.hL0 hL hw9) a0.fl (0,0,0,0,0,0,0,9223372036854775808) D0) rfl<|Ag rfl<|Aa<|Ae<|Ac rfl<|Ab (FV.gtr (i:=g0) (j:=0) rfl rfl)<|Ac rfl<|RG.ifd (s:=13) rfl h (fun x0 h=>?_) (fun x0 h=>?_)
 refine Ap<|Ap<|Ap<|RG.un<|RG.un<|RG.un<|Ap<|Br rfl rfl<|Aa<|AE rfl<|Ae<|Ab (AS (vs:=[]) (u:=.agg zQ) ap (fun w9=>by kernel_rfl))<|AT zP b0 .t1 (ak rfl) fun g1 k0 Q0=>Ag rfl<|Aa<|Ar rfl<|Au hb0 func168 rfl (.cons (.many (cs:=zP) rfl rfl (k0.memA .t1)) (.cons (.tmp rfl) .nil)) rfl ?_
 cases h
 exact k0.gv
 refine AM (Al rfl)<|AM (FV.eql (i:=g0) (j:=0) rfl rfl)<|AM (Al rfl)<|RG.ifd (s:=16) rfl h (fun y0 h=>?_) (fun y0 h=>?_)
 refine RG.fg 0 rfl<|AM (Bn rfl ((b0.memA .t2) 0 _ rfl))<|AM (Bz rfl)<|AM (BU rfl rfl)<|Bs rfl rfl<|Aa<|MX.ifnb rfl h (fun j0 h=>?_) (fun j0 h=>?_)
 refine Aq<|Aj<|Ae<|Bk 0 rfl<|Bd rfl ((b0.memA .t2) 0 _ rfl)<|Aa<|MX.cond_kt rfl j0<|Am<|Ab (AS (vs:=[]) (u:=.agg zQ) ap (fun w9=>by kernel_rfl))<|Bk 1 rfl<|Ab (AQ (cs:=(aj a0.fl)) rfl rfl (ae (b0.memA .t2) 1 8))<|bk h fun c0 E0 h=>Bj (.tuple #[.agg ((aj c0.1)).toArray,vU c0.2]) (bd 189) rfl (e2 rfl rfl) (fun w9 hw9=>bG_c n (b0.hL0 hL hw9) (0,0,0,0,0,0,0,0) a0.fl E0) rfl<|Ac rfl<|Ab (Ai rfl rfl)<|Ab (Ai rfl rfl)<|Bk 1 rfl<|RG.now .plain (BS (j:=1) (old:=(jG a0)) (news:=(aj c0.1)) (new' :=(([.bool a0.fc]:List Value) ++ aj c0.1)) b0 .t2 rfl rfl rfl rfl rfl rfl (ak rfl) rfl) fun j1 p0 R0=>Aa<|Ae<|Bk 1 rfl<|Ab (AQ (cs:=(aj c0.1)) rfl rfl (ae (p0.memA .t2) 1 8))<|AT (aj c0.1) p0 .t1 (ak rfl) fun k1 q0 U0=>Ag rfl<|Aa<|Ar rfl<|Au hb0 func168 rfl (.cons (.many (cs:=(aj c0.1)) rfl rfl (q0.memA .t1)) (.cons (.tmp rfl) .nil)) rfl ?_
 cases h
 exact q0.gv
 refine Ae<|Ab (AS (vs:=[]) (u:=.agg zQ) ap (fun w9=>by kernel_rfl))<|AT zP b0 .t1 (ak rfl) fun p1 s0 V0=>Ag rfl<|Aa<|Ar rfl<|Au hb0 func168 rfl (.cons (.many (cs:=zP) rfl rfl (s0.memA .t1)) (.cons (.tmp rfl) .nil)) rfl ?_
 cases h
 exact s0.gv
 refine Ap<|Ap<|Ap<|AM (Bq rfl rfl)<|Bs rfl rfl<|Aa<|Bv rfl<|Aq<|Aj<|Ae<|Bk 0 rfl<|Bd rfl ((b0.memA .t2) 0 _ rfl)<|Aa<|MX.ifb rfl h (fun z0 h=>?_) (fun z0 h=>?_)
 refine Am<|Ab (AS (vs:=[]) (u:=.agg zQ) ap (fun w9=>by kernel_rfl))<|Bk 1 rfl<|Ab (AQ (cs:=(aj a0.fl)) rfl rfl (ae (b0.memA .t2) 1 8))<|bk h fun d0 F0 h=>Bj (.tuple #[.agg ((aj d0.1)).toArray,vU d0.2]) (bd 189) rfl (e2 rfl rfl) (fun w9 hw9=>bG_c n (b0.hL0 hL hw9) (0,0,0,0,0,0,0,0) a0.fl F0) rfl<|Ac rfl<|Ab (Ai rfl rfl)<|Ab (Ai rfl rfl)<|Bk 1 rfl<|RG.now .plain (BS (j:=1) (old:=(jG a0)) (news:=(aj d0.1)) (new' :=(([.bool a0.fc]:List Value) ++ aj d0.1)) b0 .t2 rfl rfl rfl rfl rfl rfl (ak rfl) rfl) fun q1 t0 W0=>Aa<|Ae<|Bk 1 rfl<|Ab (AQ (cs:=(aj d0.1)) rfl rfl (ae (t0.memA .t2) 1 8))<|AT (aj d0.1) t0 .t1 (ak rfl) fun s1 u0 X0=>Ag rfl<|Aa<|Ar rfl<|Au hb0 func168 rfl (.cons (.many (cs:=(aj d0.1)) rfl rfl (u0.memA .t1)) (.cons (.tmp rfl) .nil)) rfl ?_
 cases h
 exact u0.gv
 refine Aq<|Ae<|Bk 1 rfl<|Ab (AQ (cs:=(aj a0.fl)) rfl rfl (ae (b0.memA .t2) 1 8))<|AT (aj a0.fl) b0 .t1 (ak rfl) fun u1 v0 Y0=>Ag rfl<|Aa<|Ar rfl<|Au hb0 func168 rfl (.cons (.many (cs:=(aj a0.fl)) rfl rfl (v0.memA .t1)) (.cons (.tmp rfl) .nil)) rfl ?_
 cases h
 exact v0.gv
structure Tf where
  fc:Bool
  fk:List UInt64
  deriving DecidableEq
instance:Rep Tf:=Rep.via (β:=Bool × (List UInt64)) fun x=>(x.fc,x.fk)
def cj_p (n:Nat) (a0:Tf):Option ((U8) × Int):=
  (if 8 < a0.fk.length then some ((0,0,0,0,0,0,0,0),(6:Int)) else (cu_p n (⟨a0.fc,(aO a0.fk 0 (0:UInt64),aO a0.fk 1 (0:UInt64),aO a0.fk 2 (0:UInt64),aO a0.fk 3 (0:UInt64),aO a0.fk 4 (0:UInt64),aO a0.fk 5 (0:UInt64),aO a0.fk 6 (0:UInt64),aO a0.fk 7 (0:UInt64))⟩:Tj)).bind fun b0=>some (b0.1,b0.2))
theorem cj_c (n:Nat) {L w} (hL:hl L w) (a0:Tf) {v0_1:Value} (h0_1:Rep.R w L [v0_1] a0.fk)  {r:(U8) × Int} (h:cj_p n a0 = some r) :
 Cl 139 #[.agg #[.bool a0.fc,v0_1]] w (ai w fun _ u=>u = .tuple #[.agg ((aj r.1)).toArray,vI r.2]):=by
 unfold cj_p at h
 refine AL func139 rfl rfl rfl fun _ cs0 hb0=>Ae<|RG.bx (AK w) rfl rfl fun M0 A0 v0 C0=>RG.nl zP v0 fun P0 B0 c0 D0=>Ag rfl<|Aa<|Aj<|Ae<|Bk 1 rfl<|Bd rfl ((c0.memA .t1) 1 _ rfl) ?_
 have s0:=AG h0_1 c0
 have J0:a0.fk.length <= 281474976710656:=AX s0
 refine Ab (AY (xs:=a0.fk) underlying105 rfl s0)<|Ab (FV.gtrN (i:=a0.fk.length) (j:=8) rfl rfl)<|Aa<|AW rfl h (fun u0 h=>?_) (fun u0 h=>?_)
 refine Ae<|Ab (AS (vs:=[]) (u:=.agg zQ) ap (fun w9=>by kernel_rfl))<|AT zP c0 .hd (ak rfl) fun Q0 p0 E0=>Ag rfl<|Aa<|Ar rfl<|Au hb0 func139 rfl (.cons (.many (cs:=zP) rfl rfl (p0.memA .hd)) (.cons (.tmp rfl) .nil)) rfl ?_
 cases h
 exact p0.gv
 refine Aq<|Ae<|Bk 0 rfl<|Bd rfl ((c0.memA .t1) 0 _ rfl)<|Ab (AS (vs:=[.bool a0.fc]) (u:=.agg #[.bool a0.fc,vW 0,vW 0,vW 0,vW 0,vW 0,vW 0,vW 0,vW 0]) (e1 rfl) (fun w9=>by kernel_rfl))<|RG.nl [.bool false,vW 0,vW 0,vW 0,vW 0,vW 0,vW 0,vW 0,vW 0] c0 fun R0 t0 x0 F0=>AT [.bool a0.fc,vW 0,vW 0,vW 0,vW 0,vW 0,vW 0,vW 0,vW 0] x0 .hd (ak rfl) fun U0 j0 G0=>Aa<|Aj<|du 4 fun b0 d0=>Rv 0 b0 rfl d0 (fun _=>Bh 1 rfl)<|Rx 1 16 b0 rfl d0 (FV.sliceA (len:=8) (m:=1) (p:=Addr.add ⟨t0,0,none⟩ 1) rfl rfl)<|Rv 2 b0 rfl d0 (fun _=>Bh 1 rfl)<|Rx 3 16 b0 rfl d0 (Bn rfl ((j0.memA .t2) 1 _ rfl))<|BJ (i:=4) (rk b0) (RO.doesL (m' :=31) (sk b0) rfl rfl .plain rfl (DoesL.copyArr (fun z9:UInt64=>(vU z9:Value)) (olds:=([(0:UInt64),0,0,0,0,0,0,(0:UInt64)]:List UInt64)) (ys:=a0.fk) (pre:=[.bool a0.fc]) (post:=[]) (old:=[.bool a0.fc,vW 0,vW 0,vW 0,vW 0,vW 0,vW 0,vW 0,vW 0]) (new' :=[.bool a0.fc,vW ((aO a0.fk 0 (0:UInt64)).toNat:Int),vW ((aO a0.fk 1 (0:UInt64)).toNat:Int),vW ((aO a0.fk 2 (0:UInt64)).toNat:Int),vW ((aO a0.fk 3 (0:UInt64)).toNat:Int),vW ((aO a0.fk 4 (0:UInt64)).toNat:Int),vW ((aO a0.fk 5 (0:UInt64)).toNat:Int),vW ((aO a0.fk 6 (0:UInt64)).toNat:Int),vW ((aO a0.fk 7 (0:UInt64)).toNat:Int)]) rfl (fun _ _ _ _ h9=>h9) j0 .hd rfl rfl rfl rfl rfl rfl rfl rfl (Src.rep (AG h0_1 j0))) (fun K0 V0 ⟨y0,k0,H0⟩=>?_))
 subst y0
 refine AN (dk b0)<|Ae<|Ab (AA rfl (k0.memA .hd))<|bk h fun g0 z0 h=>Bj (.tuple #[.agg ((aj g0.1)).toArray,vI g0.2]) (bd 168) rfl (e1 rfl) (fun w9 hw9=>cu_c n (k0.hL0 hL hw9) (⟨a0.fc,(aO a0.fk 0 (0:UInt64),aO a0.fk 1 (0:UInt64),aO a0.fk 2 (0:UInt64),aO a0.fk 3 (0:UInt64),aO a0.fk 4 (0:UInt64),aO a0.fk 5 (0:UInt64),aO a0.fk 6 (0:UInt64),aO a0.fk 7 (0:UInt64))⟩:Tj) z0) rfl<|Ab (Ai rfl rfl)<|Ab (Ai rfl rfl)<|AT (aj g0.1) k0 .t1 (ak rfl) fun W0 q0 I0=>Ag rfl<|Aa<|Ar rfl<|Au hb0 func139 rfl (.cons (.many (cs:=(aj g0.1)) rfl rfl (q0.memA .t1)) (.cons (.tmp rfl) .nil)) rfl ?_
 cases h
 exact q0.gv
structure Tc where
  fj:Tf
  fh:Tf
  deriving DecidableEq
instance:Rep Tc:=Rep.via (β:=Tf × Tf) fun x=>(x.fj,x.fh)
structure Tb where
  fN:U8
  fD:U8
  deriving DecidableEq
instance:Rep Tb:=Rep.via (β:=(U8) × (U8)) fun x=>(x.fN,x.fD)
def ab (x:Tb):List Value:=[vU x.fN.1,vU x.fN.2.1,vU x.fN.2.2.1,vU x.fN.2.2.2.1,vU x.fN.2.2.2.2.1,vU x.fN.2.2.2.2.2.1,vU x.fN.2.2.2.2.2.2.1,vU x.fN.2.2.2.2.2.2.2,vU x.fD.1,vU x.fD.2.1,vU x.fD.2.2.1,vU x.fD.2.2.2.1,vU x.fD.2.2.2.2.1,vU x.fD.2.2.2.2.2.1,vU x.fD.2.2.2.2.2.2.1,vU x.fD.2.2.2.2.2.2.2]
def ae_p (n:Nat) (a0:Tc):Option (Tb × Int):=
  (cj_p n a0.fj).bind fun b0=>(cj_p n a0.fh).bind fun c0=>(if b0.2 = 0 then (if c0.2 = 0 then some ((⟨b0.1,c0.1⟩:Tb),(0:Int)) else some ((⟨(0,0,0,0,0,0,0,0),(0,0,0,0,0,0,0,0)⟩:Tb),(6:Int))) else some ((⟨(0,0,0,0,0,0,0,0),(0,0,0,0,0,0,0,0)⟩:Tb),(6:Int)))
theorem ae_c (n:Nat) {L w} (hL:hl L w) (a0:Tc) {v0_1:Value} (h0_1:Rep.R w L [v0_1] a0.fj.fk) {v0_3:Value} (h0_3:Rep.R w L [v0_3] a0.fh.fk)  {r:Tb × Int} (h:ae_p n a0 = some r) :
 Cl 77 #[.agg #[.bool a0.fj.fc,v0_1,.bool a0.fh.fc,v0_3]] w (ai w fun _ u=>u = .tuple #[.agg ((ab r.1)).toArray,vI r.2]):=by
 unfold ae_p at h
 refine AL func77 rfl rfl rfl fun _ cs0 hb0=>Ae<|RG.bx (AK w) rfl rfl fun R0 B0 v0 F0=>RG.nl zL v0 fun U0 C0 g0 G0=>Ag rfl<|Aa<|Ae<|Bk 0 rfl<|Ab (AQ (cs:=[.bool a0.fj.fc,v0_1]) rfl rfl (ae (g0.memA .t1) 0 2))<|bk h fun b0 z0 h=>Bj (.tuple #[.agg ((aj b0.1)).toArray,vI b0.2]) (bd 139) rfl (e1 rfl) (fun w9 hw9=>cj_c n (g0.hL0 hL hw9) a0.fj (g0.k0 h0_1 hw9) z0) rfl<|Ac rfl<|Ab (Ai rfl rfl)<|Ab (Ai rfl rfl)<|RG.nl zP g0 fun V0 D0 x0 H0=>AT (aj b0.1) x0 .hd (ak rfl) fun W0 j0 I0=>Ag rfl<|Aa<|Ae<|Bk 2 rfl<|Ab (AQ (cs:=[.bool a0.fh.fc,v0_3]) rfl rfl (ae (j0.memA .t2) 2 2))<|bk h fun c0 A0 h=>Bj (.tuple #[.agg ((aj c0.1)).toArray,vI c0.2]) (bd 139) rfl (e1 rfl) (fun w9 hw9=>cj_c n (j0.hL0 hL hw9) a0.fh (j0.k0 h0_3 hw9) A0) rfl<|Ac rfl<|Ab (Ai rfl rfl)<|Ab (Ai rfl rfl)<|RG.nl zP j0 fun X0 E0 y0 J0=>AT (aj c0.1) y0 .hd (ak rfl) fun Y0 d0 K0=>Ag rfl<|Aa<|Aj<|Ae<|Ac rfl<|Ab (BB (i:=b0.2) (j:=0) rfl rfl) ?_
 refine Ac rfl<|RG.ifn (s:=22) rfl h (fun t0 h=>?_) (fun t0 h=>?_)
 refine AM (Al rfl)<|AM (BB (i:=c0.2) (j:=0) rfl rfl)<|Bs rfl rfl<|Aa<|BI rfl h (fun u0 h=>?_) (fun u0 h=>?_)
 refine Aq<|Ae<|Ab (AA rfl (d0.memA .t1))<|Ab (AA rfl (d0.memA .hd))<|Ab (AS (vs:=[.agg ((aj b0.1)).toArray,.agg ((aj c0.1)).toArray]) (u:=.agg ((aj b0.1 ++ aj c0.1)).toArray) (e2 rfl rfl) (fun w9=>by kernel_rfl))<|AT (aj b0.1 ++ aj c0.1) d0 .t2 (ak rfl) fun Z0 p0 M0=>Ag rfl<|Aa<|Ar rfl<|Au hb0 func77 rfl (.cons (.many (cs:=(aj b0.1 ++ aj c0.1)) rfl rfl (p0.memA .t2)) (.cons (.tmp rfl) .nil)) rfl ?_
 cases h
 exact p0.gv
 refine Ae<|Ab (AS (vs:=[]) (u:=.agg zM) ap (fun w9=>by kernel_rfl))<|AT zL d0 .t2 (ak rfl) fun b1 q0 P0=>Ag rfl<|Aa<|Ar rfl<|Au hb0 func77 rfl (.cons (.many (cs:=zL) rfl rfl (q0.memA .t2)) (.cons (.tmp rfl) .nil)) rfl ?_
 cases h
 exact q0.gv
 refine Ap<|Ap<|Br rfl rfl<|Aa<|AE rfl<|Ae<|Ab (AS (vs:=[]) (u:=.agg zM) ap (fun w9=>by kernel_rfl))<|AT zL d0 .t2 (ak rfl) fun c1 s0 Q0=>Ag rfl<|Aa<|Ar rfl<|Au hb0 func77 rfl (.cons (.many (cs:=zL) rfl rfl (s0.memA .t2)) (.cons (.tmp rfl) .nil)) rfl ?_
 cases h
 exact s0.gv
def cV_p (n:Nat) (a0:U8):Option Tj:=
  (if (shrU a0.2.2.2.2.2.2.2 63) = (1:UInt64) then (bG_p n (0,0,0,0,0,0,0,0) a0).bind fun b0=>some (⟨(decide ((shrU a0.2.2.2.2.2.2.2 63) = (1:UInt64))),b0.1⟩:Tj) else some (⟨(decide ((shrU a0.2.2.2.2.2.2.2 63) = (1:UInt64))),a0⟩:Tj))
theorem cV_c (n:Nat) {L w} (hL:hl L w) (a0:U8)  {r:Tj} (h:cV_p n a0 = some r) :
 Cl 165 #[.agg ((aj a0)).toArray] w (ai w fun _ u=>u = .agg ((jG r)).toArray):=by
 unfold cV_p at h
 refine AL func165 rfl rfl rfl fun _ cs0 hb0=>Ae<|RG.bx (AK w) rfl rfl fun F0 u0 q0 y0=>RG.nl [.bool false,vW 0,vW 0,vW 0,vW 0,vW 0,vW 0,vW 0,vW 0] q0 fun G0 v0 d0 z0=>Aa<|Ae<|Ab (AI (m:=1) (k:=7) (len:=8) rfl rfl rfl rfl (by omega))<|Bd rfl ((d0.memA .t1) 7 _ rfl)<|Ab (FV.shrU (a:=a0.2.2.2.2.2.2.2) (j:=63) rfl rfl)<|Ab (FV.eqlU (a:=shrU a0.2.2.2.2.2.2.2 63) (b:=(1:UInt64)) rfl rfl)<|Ab (AA rfl (d0.memA .t1))<|Ab (AS (vs:=[.bool (decide ((shrU a0.2.2.2.2.2.2.2 63) = (1:UInt64))),.agg ((aj a0)).toArray]) (u:=.agg ((([.bool (decide ((shrU a0.2.2.2.2.2.2.2 63) = (1:UInt64)))]:List Value) ++ aj a0)).toArray) (e2 rfl rfl) (fun w9=>by kernel_rfl))<|RG.nl [.bool false,vW 0,vW 0,vW 0,vW 0,vW 0,vW 0,vW 0,vW 0] d0 fun H0 x0 s0 A0=>AT (([.bool (decide ((shrU a0.2.2.2.2.2.2.2 63) = (1:UInt64)))]:List Value) ++ aj a0) s0 .hd (ak rfl) fun I0 b0 B0=>Aa<|Aj<|Ae<|Bk 0 rfl<|Bd rfl ((b0.memA .hd) 0 _ rfl)<|Aa<|AW rfl h (fun p0 h=>?_) (fun p0 h=>?_)
 refine Am<|Ab (AS (vs:=[]) (u:=.agg zQ) ap (fun w9=>by kernel_rfl))<|Bk 1 rfl<|Ab (AQ (cs:=(aj a0)) rfl rfl (ae (b0.memA .hd) 1 8))<|bk h fun c0 t0 h=>Bj (.tuple #[.agg ((aj c0.1)).toArray,vU c0.2]) (bd 189) rfl (e2 rfl rfl) (fun w9 hw9=>bG_c n (b0.hL0 hL hw9) (0,0,0,0,0,0,0,0) a0 t0) rfl<|Ac rfl<|Ab (Ai rfl rfl)<|Ab (Ai rfl rfl)<|Bk 1 rfl<|RG.now .plain (BS (j:=1) (old:=(([.bool (decide ((shrU a0.2.2.2.2.2.2.2 63) = (1:UInt64)))]:List Value) ++ aj a0)) (news:=(aj c0.1)) (new' :=(([.bool (decide ((shrU a0.2.2.2.2.2.2.2 63) = (1:UInt64)))]:List Value) ++ aj c0.1)) b0 .hd rfl rfl rfl rfl rfl rfl (ak rfl) rfl) fun J0 g0 C0=>Aa<|Ae<|Ab (AA rfl (g0.memA .hd))<|AT (([.bool (decide ((shrU a0.2.2.2.2.2.2.2 63) = (1:UInt64)))]:List Value) ++ aj c0.1) g0 .t1 (ak rfl) fun K0 j0 D0=>Aa<|Ar rfl<|Au hb0 func165 rfl (.cons (.many (cs:=(([.bool (decide ((shrU a0.2.2.2.2.2.2.2 63) = (1:UInt64)))]:List Value) ++ aj c0.1)) rfl rfl (j0.memA .t1)) .nil) rfl ?_
 cases h
 exact j0.gv
 refine Aq<|Ae<|Ab (AA rfl (b0.memA .hd))<|AT (([.bool (decide ((shrU a0.2.2.2.2.2.2.2 63) = (1:UInt64)))]:List Value) ++ aj a0) b0 .t1 (ak rfl) fun M0 k0 E0=>Aa<|Ar rfl<|Au hb0 func165 rfl (.cons (.many (cs:=(([.bool (decide ((shrU a0.2.2.2.2.2.2.2 63) = (1:UInt64)))]:List Value) ++ aj a0)) rfl rfl (k0.memA .t1)) .nil) rfl ?_
 cases h
 exact k0.gv
def ay_l1 (_n:Nat) (a1:List UInt64) (c0:Int -> Option Int):Int -> Option Int
  | b0=>(if 0 < b0 then (chk (b0 - 1)).bind fun d0=>(idx a1 d0).bind fun j0=>(if j0 = (0:UInt64) then (chk (b0 - 1)).bind fun g0=>c0 g0 else some b0) else some b0)
def ay_p (n:Nat) (a0:Bool) (a1:List UInt64):Option Tf:=
  jn (fun b0=>(if a0 = true then (cut a1 0 b0).bind fun d0=>some (⟨(decide (0 < b0)),d0⟩:Tf) else (cut a1 0 b0).bind fun g0=>some (⟨false,g0⟩:Tf))) (fun c0=>Option.bind (am (ay_l1 n a1) n ((a1.length:Nat):Int)) (c0))
theorem ay_c (n:Nat) {L w} (_hL:hl L w) {a0:Bool} {a1:List UInt64} {v1_0:Value} (h1_0:Rep.R w L [v1_0] a1)  {r:Tf} (h:ay_p n a0 a1 = some r) :
 Cl 166 #[.bool a0,v1_0] w (ai w fun w' u=>∃ v0_1:Value,u = .agg #[.bool r.fc,v0_1]/\Rep.R w' L [v0_1] r.fk):=by
 unfold ay_p at h
 refine AL func166 rfl rfl rfl fun _ cs0 hb0=>Ae<|RG.nl [.bool false,vN] (AK w) fun C1 j0 q0 z1=>Aa<|Ae<|Ac rfl ?_
 have A0:=AG h1_0 q0
 have A1:a1.length <= 281474976710656:=AX A0
 refine Ab (AY (xs:=a1) underlying105 rfl A0)<|Ag rfl<|Aa<|Aj<|Av<|MX.xo (α:=Int) 0 (fun b0=>[(0,.bool a0),(1,v1_0),(4,vP j0),(5,vI b0)]) (fun b0=>[.cells j0 [.bool false,vN] 107]) (fun b0=>b0) q0 rfl h ?_ ?_
 rintro b0 F1 k0 y1 h
 try dsimp only at h
 refine Ae<|Ac rfl<|Ac rfl<|RG.ifb (s:=21) rfl h (fun C0 h=>?_) (fun C0 h=>?_)
 refine AM (Al rfl)<|AM (FV.gtr (i:=b0) (j:=0) rfl rfl)<|Br rfl rfl<|Ac rfl<|Ac rfl<|bk h fun H1 c1 h=>RG.valE .plain rfl (FV.cutL (α:=UInt64) c1 rfl rfl (AG h1_0 k0) rfl ⟨_,rfl⟩) fun d0 v0=>?_
 obtain ⟨k1,u1,X0,_⟩:=Bi v0
 refine Ab (AS (vs:=[.bool (decide (0 < b0)),d0]) (u:=.agg #[.bool (decide (0 < b0)),d0]) (e2 rfl rfl) (fun w9=>by rw [X0]; try kernel_rfl))<|AT [.bool (decide (0 < b0)),d0] k0 .hd (o2 rfl (Az v0)) fun D1 s0 H0=>Aa<|Ar rfl<|Au hb0 func166 rfl (.cons (.many (cs:=[.bool (decide (0 < b0)),d0]) rfl rfl (s0.memA .hd)) .nil) rfl ?_
 cases h
 exact ⟨s0.ag,fun w9 hw9=>⟨d0,rfl,s0.kd (Af v0 H0) hw9⟩⟩
 refine Ap<|Ap<|Bs rfl rfl<|Ac rfl<|Ac rfl<|bk h fun I1 d1 h=>RG.valE .plain rfl (FV.cutL (α:=UInt64) d1 rfl rfl (AG h1_0 k0) rfl ⟨_,rfl⟩) fun g0 x0=>?_
 obtain ⟨p1,v1,Y0,_⟩:=Bi x0
 refine Ab (AS (vs:=[.bool false,g0]) (u:=.agg #[.bool false,g0]) (e2 rfl rfl) (fun w9=>by rw [Y0]; try kernel_rfl))<|AT [.bool false,g0] k0 .hd (o2 rfl (Az x0)) fun E1 t0 I0=>Aa<|Ar rfl<|Au hb0 func166 rfl (.cons (.many (cs:=[.bool false,g0]) rfl rfl (t0.memA .hd)) .nil) rfl ?_
 cases h
 exact ⟨t0.ag,fun w9 hw9=>⟨g0,rfl,t0.kd (Af x0 I0) hw9⟩⟩
 intro s1 y0 h
 try dsimp only at h
 obtain ⟨B1,R0,z0⟩:=ao h
 refine MX.lo (α:=Int) (fun c0=>[(0,.bool a0),(1,v1_0),(4,vP j0),(5,vI c0)]) (fun c0=>[.cells j0 [.bool false,vN] 107]) (fun c0=>c0) ((a1.length:Nat):Int) R0 q0 ?_
 rintro t1 c0 G1 G0 p0 u0 h
 unfold ay_l1 at h
 try dsimp only at h
 refine Aj<|Ae<|Ac rfl<|Ab (FV.gtr (i:=c0) (j:=0) rfl rfl)<|Ac rfl<|RG.ifd (s:=10) rfl h (fun D0 h=>?_) (fun D0 h=>?_)
 refine AM (Al rfl)<|AM (Al rfl)<|bk h fun g1 V0 h=>AM (FV.subc (i:=c0) (j:=1) rfl rfl V0)<|bk h fun B0 Z0 h=>?_
 obtain ⟨M0,b1⟩:=aV Z0
 obtain ⟨q1,x1,J0,P0,F0,U0,Q0⟩:=Be (AG h1_0 p0) b1
 have K0:F0 = [vU B0]:=U0; subst K0
 refine AM (Bf 1 (g1.toNat) rfl J0 rfl M0 P0)<|AM (Bn rfl (Q0 0 _ rfl))<|AM (FV.eqlU (a:=B0) (b:=(0:UInt64)) rfl rfl)<|Br rfl rfl<|Aa<|AW rfl h (fun E0 h=>?_) (fun E0 h=>?_)
 refine Aq<|Av<|Am<|Ac rfl<|bk h fun j1 W0 h=>Ab (FV.subc (i:=c0) (j:=1) rfl rfl W0)<|Ag rfl<|Aa<|Aw<|G0 j1 p0 u0 h
 refine Ba rfl ?_
 have h:=z0 _ h
 try dsimp only at h
 exact y0 c0 p0 u0 h
 refine Ap<|Ap<|Ap<|Ap<|Ap<|Ap<|Bs rfl rfl<|Aa<|Bv rfl<|Ba rfl ?_
 have h:=z0 _ h
 try dsimp only at h
 exact y0 c0 p0 u0 h
theorem dH:ElT Tryz.prog 105 30 (Rep.size UInt64) 8 (vW 0) [vW 0]:=⟨underlying105,by kernel_rfl,rfl,rfl,rfl,rfl⟩
def bK_p (n:Nat) (a0:U8):Option Tf:=
  (cV_p n a0).bind fun b0=>(app ([]:List UInt64) ([b0.fl.1,b0.fl.2.1,b0.fl.2.2.1,b0.fl.2.2.2.1,b0.fl.2.2.2.2.1,b0.fl.2.2.2.2.2.1,b0.fl.2.2.2.2.2.2.1,b0.fl.2.2.2.2.2.2.2]:List UInt64)).bind fun c0=>(ay_p n b0.fc c0).bind fun d0=>some d0
theorem bK_c (n:Nat) {L w} (hL:hl L w) (a0:U8)  {r:Tf} (h:bK_p n a0 = some r) :
 Cl 135 #[.agg ((aj a0)).toArray] w (ai w fun w' u=>∃ v0_1:Value,u = .agg #[.bool r.fc,v0_1]/\Rep.R w' L [v0_1] r.fk):=by
 unfold bK_p at h
 refine AL func135 rfl rfl rfl fun _ cs0 hb0=>Ae<|RG.bx (AK w) rfl rfl fun D1 s1 W0 u1=>RG.nl [.bool false,vN] W0 fun G1 A0 F0 z1=>Aa<|Ae<|Ab (AA rfl (F0.memA .t1))<|bk h fun b0 p1 h=>Bj (.agg ((jG b0)).toArray) (bd 165) rfl (e1 rfl) (fun w9 hw9=>cV_c n (F0.hL0 hL hw9) a0 p1) rfl<|RG.nl [.bool false,vW 0,vW 0,vW 0,vW 0,vW 0,vW 0,vW 0,vW 0] F0 fun H1 U0 c1 A1=>AT (jG b0) c1 .hd (ak rfl) fun I1 u0 B1=>Aa<|Aj<|du 5 fun c0 y0=>Rv 0 c0 rfl y0 (fun _=>Bh 0 rfl)<|Rv 3 c0 rfl y0 (fun _=>Bh 1 rfl)<|Rx 4 224 c0 rfl y0 (FV.sliceA (len:=8) (m:=1) (p:=Addr.add ⟨U0,0,none⟩ 1) rfl rfl)<|bk h fun z0 G0 h=>RD.mf (α:=Value × (List Value)) (fun ⟨g0,j0⟩=>[(2,vP A0),(7,.bool b0.fc),(11,g0)]) (fun ⟨g0,j0⟩=>[rr w 30 UInt64 g0 z0.length j0,.cells A0 [.bool false,vN] 107]) (fun ⟨g0,j0⟩ Q0=>Cells Q0 (bl [rr w 30 UInt64 g0 z0.length j0,.cells A0 [.bool false,vN] 107] ++ L) j0 (z0:List UInt64)) u0 2 63 ?_ ?_
 rintro ⟨g0,j0⟩ Q0 C0 v1 j1
 try dsimp only
 have D0:=Bw C0 .hd
 have x1:=Bx C0 .hd
 refine bk h fun R0 k1 h=>AZ 6 127 c0 rfl .plain (bd 166) rfl (e2 rfl rfl) (fun w9 hw9=>ay_c n (D0.hL hL hw9) (Ah (By (α:=UInt64) (v:=g0) (xs:=z0) D0 L (Bg (α:=UInt64) C0 .hd j1 hL)) hw9) k1) rfl fun E1 C1 g1 ⟨H0,hu_,M0⟩=>?_
 subst hu_
 obtain ⟨X0,y1⟩:=D0.agr g1
 refine BC 7 255 c0 rfl rfl .plain (AD (news:=[.bool R0.fc,H0]) X0 .hd rfl rfl rfl rfl rfl rfl (o2 rfl (Az M0))) fun F1 E0 d1=>AN (dk c0)<|Ar rfl<|Au hb0 func135 rfl (.cons (.many (cs:=[.bool R0.fc,H0]) rfl rfl (E0.memA .hd)) .nil) rfl ?_
 cases h
 exact ⟨E0.ag,fun w9 hw9=>⟨H0,rfl,E0.kd (Af M0 d1) hw9⟩⟩
 intro B0
 refine BN [1,2] (rk c0) ⟨?_,?_,trivial⟩
 refine RO.val (m' :=27) (sk c0) rfl .plain rfl (Bn rfl ((u0.memA .hd) 0 _ rfl))<|RD.nu 2 31 c0 rfl .plain rfl (jB UInt64 u0 dH) fun q1 V0 d0 v0=>?_
 have x0:=jD UInt64 d0 L
 refine BJ (i:=5) (rk c0) (RO.doesL (m' :=63) (sk c0) rfl rfl .plain rfl (Bl (α:=UInt64) (ys:=([b0.fl.1,b0.fl.2.1,b0.fl.2.2.1,b0.fl.2.2.2.1,b0.fl.2.2.2.2.1,b0.fl.2.2.2.2.2.1,b0.fl.2.2.2.2.2.2.1,b0.fl.2.2.2.2.2.2.2]:List UInt64)) G0 d0 (fun _ _=>.hd) dH rfl rfl x0 (Src.arr (ds:=[vU b0.fl.1,vU b0.fl.2.1,vU b0.fl.2.2.1,vU b0.fl.2.2.2.1,vU b0.fl.2.2.2.2.1,vU b0.fl.2.2.2.2.2.1,vU b0.fl.2.2.2.2.2.2.1,vU b0.fl.2.2.2.2.2.2.2]) (ys:=([b0.fl.1,b0.fl.2.1,b0.fl.2.2.1,b0.fl.2.2.2.1,b0.fl.2.2.2.2.1,b0.fl.2.2.2.2.2.1,b0.fl.2.2.2.2.2.2.1,b0.fl.2.2.2.2.2.2.2]:List UInt64)) (n:=8) (ae (d0.memA .t1) 1 8) (AC (cs:=[vU b0.fl.1]) (ds:=[vU b0.fl.2.1,vU b0.fl.2.2.1,vU b0.fl.2.2.2.1,vU b0.fl.2.2.2.2.1,vU b0.fl.2.2.2.2.2.1,vU b0.fl.2.2.2.2.2.2.1,vU b0.fl.2.2.2.2.2.2.2]) rfl (AC (cs:=[vU b0.fl.2.1]) (ds:=[vU b0.fl.2.2.1,vU b0.fl.2.2.2.1,vU b0.fl.2.2.2.2.1,vU b0.fl.2.2.2.2.2.1,vU b0.fl.2.2.2.2.2.2.1,vU b0.fl.2.2.2.2.2.2.2]) rfl (AC (cs:=[vU b0.fl.2.2.1]) (ds:=[vU b0.fl.2.2.2.1,vU b0.fl.2.2.2.2.1,vU b0.fl.2.2.2.2.2.1,vU b0.fl.2.2.2.2.2.2.1,vU b0.fl.2.2.2.2.2.2.2]) rfl (AC (cs:=[vU b0.fl.2.2.2.1]) (ds:=[vU b0.fl.2.2.2.2.1,vU b0.fl.2.2.2.2.2.1,vU b0.fl.2.2.2.2.2.2.1,vU b0.fl.2.2.2.2.2.2.2]) rfl (AC (cs:=[vU b0.fl.2.2.2.2.1]) (ds:=[vU b0.fl.2.2.2.2.2.1,vU b0.fl.2.2.2.2.2.2.1,vU b0.fl.2.2.2.2.2.2.2]) rfl (AC (cs:=[vU b0.fl.2.2.2.2.2.1]) (ds:=[vU b0.fl.2.2.2.2.2.2.1,vU b0.fl.2.2.2.2.2.2.2]) rfl (AC (cs:=[vU b0.fl.2.2.2.2.2.2.1]) (ds:=[vU b0.fl.2.2.2.2.2.2.2]) rfl (AC (cs:=[vU b0.fl.2.2.2.2.2.2.2]) (ds:=[]) rfl (AR _ _))))))))) rfl)) (fun t0 P0 ⟨p0,k0,q0,s0⟩=>?_))
 obtain ⟨Y0,I0⟩:=AB k0 (.a0 (.a1 .done))
 exact B0 (t0,p0) Y0 (Tt v0 (Tt q0 I0)) (AO s0 I0)
 refine RO.new (m' :=29) (sk c0) rfl .plain rfl (jB UInt64 u0 dH) fun q1 V0 d0 v0=>?_
 have x0:=jD UInt64 d0 L
 refine BN [1,5] (rk c0) ⟨?_,?_,trivial⟩
 refine RO.val (m' :=31) (sk c0) rfl .plain rfl (Bn rfl ((d0.memA .t1) 0 _ rfl))<|BJ (i:=5) (rk c0) (RO.doesL (m' :=63) (sk c0) rfl rfl .plain rfl (Bl (α:=UInt64) (ys:=([b0.fl.1,b0.fl.2.1,b0.fl.2.2.1,b0.fl.2.2.2.1,b0.fl.2.2.2.2.1,b0.fl.2.2.2.2.2.1,b0.fl.2.2.2.2.2.2.1,b0.fl.2.2.2.2.2.2.2]:List UInt64)) G0 d0 (fun _ _=>.hd) dH rfl rfl x0 (Src.arr (ds:=[vU b0.fl.1,vU b0.fl.2.1,vU b0.fl.2.2.1,vU b0.fl.2.2.2.1,vU b0.fl.2.2.2.2.1,vU b0.fl.2.2.2.2.2.1,vU b0.fl.2.2.2.2.2.2.1,vU b0.fl.2.2.2.2.2.2.2]) (ys:=([b0.fl.1,b0.fl.2.1,b0.fl.2.2.1,b0.fl.2.2.2.1,b0.fl.2.2.2.2.1,b0.fl.2.2.2.2.2.1,b0.fl.2.2.2.2.2.2.1,b0.fl.2.2.2.2.2.2.2]:List UInt64)) (n:=8) (ae (d0.memA .t1) 1 8) (AC (cs:=[vU b0.fl.1]) (ds:=[vU b0.fl.2.1,vU b0.fl.2.2.1,vU b0.fl.2.2.2.1,vU b0.fl.2.2.2.2.1,vU b0.fl.2.2.2.2.2.1,vU b0.fl.2.2.2.2.2.2.1,vU b0.fl.2.2.2.2.2.2.2]) rfl (AC (cs:=[vU b0.fl.2.1]) (ds:=[vU b0.fl.2.2.1,vU b0.fl.2.2.2.1,vU b0.fl.2.2.2.2.1,vU b0.fl.2.2.2.2.2.1,vU b0.fl.2.2.2.2.2.2.1,vU b0.fl.2.2.2.2.2.2.2]) rfl (AC (cs:=[vU b0.fl.2.2.1]) (ds:=[vU b0.fl.2.2.2.1,vU b0.fl.2.2.2.2.1,vU b0.fl.2.2.2.2.2.1,vU b0.fl.2.2.2.2.2.2.1,vU b0.fl.2.2.2.2.2.2.2]) rfl (AC (cs:=[vU b0.fl.2.2.2.1]) (ds:=[vU b0.fl.2.2.2.2.1,vU b0.fl.2.2.2.2.2.1,vU b0.fl.2.2.2.2.2.2.1,vU b0.fl.2.2.2.2.2.2.2]) rfl (AC (cs:=[vU b0.fl.2.2.2.2.1]) (ds:=[vU b0.fl.2.2.2.2.2.1,vU b0.fl.2.2.2.2.2.2.1,vU b0.fl.2.2.2.2.2.2.2]) rfl (AC (cs:=[vU b0.fl.2.2.2.2.2.1]) (ds:=[vU b0.fl.2.2.2.2.2.2.1,vU b0.fl.2.2.2.2.2.2.2]) rfl (AC (cs:=[vU b0.fl.2.2.2.2.2.2.1]) (ds:=[vU b0.fl.2.2.2.2.2.2.2]) rfl (AC (cs:=[vU b0.fl.2.2.2.2.2.2.2]) (ds:=[]) rfl (AR _ _))))))))) rfl)) (fun t0 P0 ⟨p0,k0,q0,s0⟩=>?_))
 obtain ⟨Z0,J0⟩:=AB k0 (.a0 (.a1 .done))
 exact B0 (t0,p0) Z0 (Tt v0 (Tt q0 J0)) (AO s0 J0)
 refine RO.doesL (m' :=61) (sk c0) rfl rfl .plain rfl (Bl (α:=UInt64) (ys:=([b0.fl.1,b0.fl.2.1,b0.fl.2.2.1,b0.fl.2.2.2.1,b0.fl.2.2.2.2.1,b0.fl.2.2.2.2.2.1,b0.fl.2.2.2.2.2.2.1,b0.fl.2.2.2.2.2.2.2]:List UInt64)) G0 d0 (fun _ _=>.hd) dH rfl rfl x0 (Src.arr (ds:=[vU b0.fl.1,vU b0.fl.2.1,vU b0.fl.2.2.1,vU b0.fl.2.2.2.1,vU b0.fl.2.2.2.2.1,vU b0.fl.2.2.2.2.2.1,vU b0.fl.2.2.2.2.2.2.1,vU b0.fl.2.2.2.2.2.2.2]) (ys:=([b0.fl.1,b0.fl.2.1,b0.fl.2.2.1,b0.fl.2.2.2.1,b0.fl.2.2.2.2.1,b0.fl.2.2.2.2.2.1,b0.fl.2.2.2.2.2.2.1,b0.fl.2.2.2.2.2.2.2]:List UInt64)) (n:=8) (ae (d0.memA .t1) 1 8) (AC (cs:=[vU b0.fl.1]) (ds:=[vU b0.fl.2.1,vU b0.fl.2.2.1,vU b0.fl.2.2.2.1,vU b0.fl.2.2.2.2.1,vU b0.fl.2.2.2.2.2.1,vU b0.fl.2.2.2.2.2.2.1,vU b0.fl.2.2.2.2.2.2.2]) rfl (AC (cs:=[vU b0.fl.2.1]) (ds:=[vU b0.fl.2.2.1,vU b0.fl.2.2.2.1,vU b0.fl.2.2.2.2.1,vU b0.fl.2.2.2.2.2.1,vU b0.fl.2.2.2.2.2.2.1,vU b0.fl.2.2.2.2.2.2.2]) rfl (AC (cs:=[vU b0.fl.2.2.1]) (ds:=[vU b0.fl.2.2.2.1,vU b0.fl.2.2.2.2.1,vU b0.fl.2.2.2.2.2.1,vU b0.fl.2.2.2.2.2.2.1,vU b0.fl.2.2.2.2.2.2.2]) rfl (AC (cs:=[vU b0.fl.2.2.2.1]) (ds:=[vU b0.fl.2.2.2.2.1,vU b0.fl.2.2.2.2.2.1,vU b0.fl.2.2.2.2.2.2.1,vU b0.fl.2.2.2.2.2.2.2]) rfl (AC (cs:=[vU b0.fl.2.2.2.2.1]) (ds:=[vU b0.fl.2.2.2.2.2.1,vU b0.fl.2.2.2.2.2.2.1,vU b0.fl.2.2.2.2.2.2.2]) rfl (AC (cs:=[vU b0.fl.2.2.2.2.2.1]) (ds:=[vU b0.fl.2.2.2.2.2.2.1,vU b0.fl.2.2.2.2.2.2.2]) rfl (AC (cs:=[vU b0.fl.2.2.2.2.2.2.1]) (ds:=[vU b0.fl.2.2.2.2.2.2.2]) rfl (AC (cs:=[vU b0.fl.2.2.2.2.2.2.2]) (ds:=[]) rfl (AR _ _))))))))) rfl)) fun t0 P0 ⟨p0,k0,q0,s0⟩=>Rx 1 192 c0 rfl y0 (Bn rfl ((k0.memA .t1) 0 _ rfl)) ?_
 obtain ⟨b1,K0⟩:=AB k0 (.a0 (.a1 .done))
 exact B0 (t0,p0) b1 (Tt v0 (Tt q0 K0)) (AO s0 K0)
def bJ_l1 (_n:Nat) (a0:List UInt64) (a1:List UInt64) (g0:Int -> Option (Int ⊕ Unit)):Int -> Option (Int ⊕ Unit)
  | b0=>(if 0 <= b0 then (idx a0 b0).bind fun c0=>(idx a1 b0).bind fun d0=>(if c0 < d0 then some (.inl (-1:Int)) else (if d0 < c0 then some (.inl (1:Int)) else (chk (b0 - 1)).bind fun j0=>g0 j0)) else some (.inr ()))
def bJ_p (n:Nat) (a0:List UInt64) (a1:List UInt64):Option Int:=
  (if a0.length = a1.length then thn (am (bJ_l1 n a0 a1) n (((a0.length:Nat):Int) - 1)) (fun _=>some (0:Int)) else some (((a0.length:Nat):Int) - ((a1.length:Nat):Int)))
theorem bJ_c (n:Nat) {L w} (_hL:hl L w) {a0:List UInt64} {v0_0:Value} (h0_0:Rep.R w L [v0_0] a0) {a1:List UInt64} {v1_0:Value} (h1_0:Rep.R w L [v1_0] a1)  {r:Int} (h:bJ_p n a0 a1 = some r) :
 Cl 171 #[v0_0,v1_0] w (ai w fun _ u=>u = vI r):=by
 unfold bJ_p at h
 have hS0:=AK w
 refine AL func171 rfl rfl rfl fun _ cs0 hb0=>Ae<|Ag rfl<|Aa<|Aj<|Ae<|Ac rfl ?_
 have hl1:a0.length <= 281474976710656:=AX h0_0
 refine Ab (AY (xs:=a0) underlying105 rfl h0_0)<|Ac rfl ?_
 have hl2:a1.length <= 281474976710656:=AX h1_0
 refine Ab (AY (xs:=a1) underlying105 rfl h1_0)<|Ab (FV.neqN (i:=a0.length) (j:=a1.length) rfl rfl)<|Aa<|BI rfl h (fun c3 h=>?_) (fun c3 h=>?_)
 refine Aq<|Aj<|Ae<|Ac rfl<|Ab (AY (xs:=a0) underlying105 rfl h0_0)<|Ab (FV.subI (i:=((a0.length:Nat):Int)) (j:=1) rfl rfl (by omega))<|Ag rfl<|Aa<|Av<|tn h fun j1 M0 p0=>MX.lo (α:=Int) (fun d0=>[(0,v0_0),(1,v1_0),(5,vI d0)]) (fun d0=>[]) (fun d0=>d0) (((a0.length:Nat):Int) - 1) M0 hS0 ?_
 rintro c1 d0 k1 H0 k0 I0 h
 unfold bJ_l1 at h
 try dsimp only at h
 refine Aj<|Ae<|Ac rfl<|Ab (FV.geq (i:=d0) (j:=0) rfl rfl)<|Aa<|AW rfl h (fun C0 h=>?_) (fun C0 h=>?_)
 refine Aq<|Aj<|Av<|Av<|Aj<|du 10 fun b0 g0=>Rv 0 b0 rfl g0 (fun _=>Al rfl)<|Rv 1 b0 rfl g0 (fun _=>Al rfl)<|bk h fun q0 U0 h=>?_
 obtain ⟨v0,V0⟩:=aV U0
 obtain ⟨Z0,d1,t0,y0,F0,P0,A0⟩:=Be (AG h0_0 k0) V0
 have J0:F0 = [vU q0]:=P0; subst J0
 refine Rv 2 b0 rfl g0 (fun _=>Bf 1 (d0.toNat) rfl t0 rfl v0 y0)<|Rx 3 768 b0 rfl g0 (Bn rfl (A0 0 _ rfl))<|Rv 4 b0 rfl g0 (fun _=>Al rfl)<|Rv 5 b0 rfl g0 (fun _=>Al rfl)<|bk h fun s0 W0 h=>?_
 obtain ⟨x0,X0⟩:=aV W0
 obtain ⟨b1,g1,u0,z0,G0,Q0,B0⟩:=Be (AG h1_0 k0) X0
 have K0:G0 = [vU s0]:=Q0; subst K0
 refine Rv 6 b0 rfl g0 (fun _=>Bf 1 (d0.toNat) rfl u0 rfl x0 z0)<|Rx 7 768 b0 rfl g0 (Bn rfl (B0 0 _ rfl))<|Rv 8 b0 rfl g0 (fun _=>FV.lssU (a:=q0) (b:=s0) rfl rfl)<|Rv 9 b0 rfl g0 (fun _=>Bo rfl)<|AN (dk b0)<|AW rfl h (fun D0 h=>?_) (fun D0 h=>?_)
 refine Ae<|Ag rfl<|Aa ?_
 have h:=aS h p0
 refine Ar rfl<|Bb hb0 func171 rfl rfl ?_
 cases h
 exact k0.gv
 refine Aj<|du 10 fun c0 j0=>Rv 0 c0 rfl j0 (fun _=>Al rfl)<|Rv 1 c0 rfl j0 (fun _=>Al rfl)<|Rv 2 c0 rfl j0 (fun _=>Bf 1 (d0.toNat) rfl t0 rfl v0 y0)<|Rx 3 768 c0 rfl j0 (Bn rfl (A0 0 _ rfl))<|Rv 4 c0 rfl j0 (fun _=>Al rfl)<|Rv 5 c0 rfl j0 (fun _=>Al rfl)<|Rv 6 c0 rfl j0 (fun _=>Bf 1 (d0.toNat) rfl u0 rfl x0 z0)<|Rx 7 768 c0 rfl j0 (Bn rfl (B0 0 _ rfl))<|Rv 8 c0 rfl j0 (fun _=>FV.gtrU (a:=q0) (b:=s0) rfl rfl)<|Rv 9 c0 rfl j0 (fun _=>Bo rfl)<|AN (dk c0)<|AW rfl h (fun E0 h=>?_) (fun E0 h=>?_)
 refine Ae<|Ag rfl<|Aa ?_
 have h:=aS h p0
 refine Ar rfl<|Bb hb0 func171 rfl rfl ?_
 cases h
 exact k0.gv
 refine Aq<|Aw<|Aw<|Am<|Ac rfl<|bk h fun Y0 R0 h=>Ab (FV.subc (i:=d0) (j:=1) rfl rfl R0)<|Ag rfl<|Aa<|H0 Y0 k0 I0 h
 refine Ba rfl ?_
 have h:=aY h p0
 try dsimp only at h
 refine Ae<|Ag rfl<|Aa<|Ar rfl<|Bb hb0 func171 rfl rfl ?_
 cases h
 exact k0.gv
 refine Ae<|Ac rfl<|Ab (AY (xs:=a0) underlying105 rfl h0_0)<|Ac rfl<|Ab (AY (xs:=a1) underlying105 rfl h1_0)<|Ab (FV.subI (i:=((a0.length:Nat):Int)) (j:=((a1.length:Nat):Int)) rfl rfl (by omega))<|Ag rfl<|Aa<|Ar rfl<|Bb hb0 func171 rfl rfl ?_
 cases h
 exact hS0.gv
def bT_l1 (_n:Nat) (a0:List UInt64) (a1:List UInt64) (j0:UInt64 × Nat × (List UInt64) -> Option (List UInt64)):UInt64 × Nat × (List UInt64) -> Option (List UInt64)
  | (k0,b0,c0)=>(if b0 < a0.length then (a0[b0]?).bind fun q0=>jn (fun p0=>(sub64 q0 p0 k0).bind fun g0=>(c0[b0]?).bind fun _x193=>(put c0 ((b0:Nat):Int) g0.1).bind fun t0=>j0 (g0.2,b0 + 1,t0)) (fun d0=>(if b0 < a1.length then (a1[b0]?).bind fun s0=>d0 s0 else d0 (0:UInt64))) else some c0)
def bT_p (n:Nat) (a0:List UInt64) (a1:List UInt64):Option (List UInt64):=
  (mk ((a0.length:Nat):Int) (0:UInt64)).bind fun b0=>Option.bind (am (bT_l1 n a0 a1) n (0,0,b0)) (fun c0=>some c0)
theorem bT_c (n:Nat) {L w} (hL:hl L w) {a0:List UInt64} {v0_0:Value} (h0_0:Rep.R w L [v0_0] a0) {a1:List UInt64} {v1_0:Value} (h1_0:Rep.R w L [v1_0] a1)  {r:List UInt64} (h:bT_p n a0 a1 = some r) :
 Cl 172 #[v0_0,v1_0] w (ai w fun w' u=>∃ v0_0:Value,u = v0_0/\Rep.R w' L [v0_0] r):=by
 unfold bT_p at h
 refine AL func172 rfl rfl rfl fun _ cs0 hb0=>Ae<|Ag rfl<|Aa<|Ae<|Ac rfl ?_
 have hl1:a0.length <= 281474976710656:=AX h0_0
 refine Ab (AY (xs:=a0) underlying105 rfl h0_0)<|bk h fun H0 E0 h=>Ao .plain rfl (Does.mk (α:=UInt64) E0 (AK w) dH rfl) fun c2 k0 q0 W1=>Ag rfl<|Aa<|Ae<|Ag rfl<|Aa<|Aj<|Ae<|Ac rfl<|Ab (AY (xs:=a0) underlying105 rfl (AG h0_0 q0))<|Ac rfl<|Aa<|Av ?_
 obtain ⟨b2,v1,k1⟩:=ao h
 refine BR (α:=UInt64 × Nat × (List UInt64) × (List Value)) (fun ⟨j0,b0,c0,d0⟩=>[(1,v1_0),(5,(.slice (some ⟨k0,0,none⟩) ((a0.length:Nat):Int).toNat ((a0.length:Nat):Int).toNat)),(6,vU j0),(13,v0_0),(14,vI ((a0.length:Nat):Int)),(15,vI ((b0:Nat):Int))]) (fun ⟨j0,b0,c0,d0⟩=>[rr w 30 UInt64 (.slice (some ⟨k0,0,none⟩) ((a0.length:Nat):Int).toNat ((a0.length:Nat):Int).toNat) c0.length d0]) (fun ⟨j0,b0,c0,d0⟩ F0=>Cells F0 (bl [rr w 30 UInt64 (.slice (some ⟨k0,0,none⟩) ((a0.length:Nat):Int).toNat ((a0.length:Nat):Int).toNat) c0.length d0] ++ L) d0 c0) (fun ⟨j0,b0,c0,d0⟩=>(j0,b0,c0)) (0,0,H0,(List.replicate ((a0.length:Nat):Int).toNat [vW 0]).flatten) v1 q0 (AJ (cs:=(List.replicate ((a0.length:Nat):Int).toNat [vW 0]).flatten) (xs:=H0) q0 L (Cells.mk E0 rfl)) ?_
 rintro M1 ⟨j0,b0,c0,d0⟩ F0 V0 g0 X0 A0 h
 unfold bT_l1 at h
 try dsimp only at h
 refine Ae<|Ab (AU (i:=b0) (j:=a0.length) rfl rfl)<|Aa<|Aj<|AW rfl h (fun K0 h=>?_) (fun K0 h=>?_)
 refine Aq<|Aj<|Av<|Ae<|Ac rfl<|bk h fun x0 B1 h=>?_
 obtain ⟨J1,Q1,b1,p1,P0,x1,s1⟩:=Be (AG h0_0 g0) B1
 have c1:P0 = [vU x0]:=x1; subst c1
 refine Ab (Bf 1 b0 rfl b1 rfl rfl p1)<|Bd rfl (s1 0 _ rfl)<|Ag rfl<|Ag rfl<|Aa<|Ae<|Ag rfl<|Aa<|Aj<|Ae<|Ac rfl<|Ac rfl ?_
 have v0:=AG h1_0 g0
 have Y1:a1.length <= 281474976710656:=AX v0
 refine Ab (AY (xs:=a1) underlying105 rfl v0)<|Ab (AU (i:=b0) (j:=a1.length) rfl rfl)<|Aa<|MX.jo (α:=UInt64) (fun p0=>[(1,v1_0),(5,(.slice (some ⟨k0,0,none⟩) ((a0.length:Nat):Int).toNat ((a0.length:Nat):Int).toNat)),(6,vU j0),(13,v0_0),(14,vI ((a0.length:Nat):Int)),(15,vI ((b0:Nat):Int)),(7,vI ((b0:Nat):Int)),(8,vU x0),(9,vU p0)]) (fun p0=>[rr w 30 UInt64 (.slice (some ⟨k0,0,none⟩) ((a0.length:Nat):Int).toNat ((a0.length:Nat):Int).toNat) c0.length d0]) (fun p0=>p0) g0 h ?_ ?_
 rintro p0 g2 s0 z0 h
 try dsimp only at h
 refine Am<|Ac rfl<|Ac rfl<|Ac rfl<|Ac rfl<|Ac rfl<|bk h fun I1 F1 h=>Ab (FV.sub64 (a:=x0) (b:=p0) (c:=j0) func193 rfl rfl rfl rfl rfl rfl rfl F1)<|Ac rfl<|Ab (Ai rfl rfl)<|Ab (Ai rfl rfl)<|bk h fun G1 C1 h=>?_
 have D0:=AO A0 z0
 obtain ⟨I0,R1,u0,C0,Q0,y1,Z1⟩:=St.nth (α:=UInt64) s0 .hd D0 C1
 obtain ⟨J0,U1,B0⟩:=BE (α:=UInt64) s0 .hd C0
 obtain rfl:I0 = ⟨J0,0,none⟩:=by rw [B0] at u0; cases u0; rfl
 have d1:Q0 = [vU G1]:=y1; subst d1
 refine Ab (Bf 1 b0 rfl u0 rfl rfl C0)<|bk h fun H1 E1 h=>RG.acts' .plain (Acts.set (α:=UInt64) (i:=b0) E1 s0 B0 (fun _=>.hd) D0 rfl rfl rfl rfl rfl rfl) fun d2 ⟨R0,W0,Y0,Z0⟩=>Ag rfl<|Aa<|Aw<|Am<|Ab (Bc (i:=b0) (j:=1) rfl rfl (by omega))<|Ac rfl<|Aa<|V0 (I1.2,b0 + 1,H1,R0) W0 (Tt X0 (Tt z0 Y0)) Z0 h
 intro P1 y0 h
 try dsimp only at h
 refine AW rfl h (fun M0 h=>?_) (fun M0 h=>?_)
 refine Am<|Ac rfl<|Ac rfl<|bk h fun G0 D1 h=>?_
 obtain ⟨K1,V1,g1,q1,U0,z1,u1⟩:=Be v0 D1
 have j1:U0 = [vU G0]:=z1; subst j1
 refine Ab (Bf 1 b0 rfl g1 rfl rfl q1)<|Bd rfl (u1 0 _ rfl)<|Ag rfl<|Aa<|y0 G0 g0 (BO _ _) h
 refine Aq<|y0 (0:UInt64) g0 (BO _ _) h
 refine Ba rfl ?_
 have h:=k1 _ h
 try dsimp only at h
 refine Ae<|Ac rfl<|Ag rfl<|Aa<|Ar rfl ?_
 have t0:=Bw g0 .hd
 have X1:=Bx g0 .hd
 have A1:=By (α:=UInt64) (v:=(.slice (some ⟨k0,0,none⟩) ((a0.length:Nat):Int).toNat ((a0.length:Nat):Int).toNat)) (xs:=c0) t0 L (Bg (α:=UInt64) g0 .hd A0 hL)
 refine Bb hb0 func172 rfl rfl ?_
 cases h
 exact ⟨t0.ag,fun w9 hw9=>⟨(.slice (some ⟨k0,0,none⟩) ((a0.length:Nat):Int).toNat ((a0.length:Nat):Int).toNat),rfl,t0.kd A1 hw9⟩⟩
def dN:List UInt8:=[0,1,2,2,3,3,3,3,4,4,4,4,4,4,4,4,5,5,5,5,5,5,5,5,5,5,5,5,5,5,5,5,6,6,6,6,6,6,6,6,6,6,6,6,6,6,6,6,6,6,6,6,6,6,6,6,6,6,6,6,6,6,6,6,7,7,7,7,7,7,7,7,7,7,7,7,7,7,7,7,7,7,7,7,7,7,7,7,7,7,7,7,7,7,7,7,7,7,7,7,7,7,7,7,7,7,7,7,7,7,7,7,7,7,7,7,7,7,7,7,7,7,7,7,7,7,7,7,8,8,8,8,8,8,8,8,8,8,8,8,8,8,8,8,8,8,8,8,8,8,8,8,8,8,8,8,8,8,8,8,8,8,8,8,8,8,8,8,8,8,8,8,8,8,8,8,8,8,8,8,8,8,8,8,8,8,8,8,8,8,8,8,8,8,8,8,8,8,8,8,8,8,8,8,8,8,8,8,8,8,8,8,8,8,8,8,8,8,8,8,8,8,8,8,8,8,8,8,8,8,8,8,8,8,8,8,8,8,8,8,8,8,8,8,8,8,8,8,8,8,8,8,8,8,8,8]
def cb_p (_n:Nat) (a0:UInt64):Option Int:=
  jn (fun (u2,i3)=>jn (fun (b0,g0)=>jn (fun (q0,s0)=>(dN[(aq q0).toNat]?).bind fun t0=>(chk (s0 + ((t0.toNat:Nat):Int))).bind fun j0=>some j0) (fun d0=>(if (256:UInt64) <= b0 then (chk (g0 + 8)).bind fun k0=>d0 (shrU b0 8,k0) else d0 (b0,g0)))) (fun c0=>(if (65536:UInt64) <= u2 then (chk (((i3:Nat):Int) + 16)).bind fun p0=>c0 (shrU u2 16,p0) else c0 (u2,((i3:Nat):Int))))) (fun J7=>(if (4294967296:UInt64) <= a0 then J7 (shrU a0 32,32) else J7 (a0,0)))
theorem cb_c (n:Nat) {L w} (_hL:hl L w) (a0:UInt64)  {r:Int} (h:cb_p n a0 = some r) :
 Cl 203 #[vU a0] w (ai w fun _ u=>u = vI r):=by
 unfold cb_p at h
 have hS0:=AK w
 refine AL func203 rfl rfl rfl fun _ cs0 hb0=>Ae<|Ag rfl<|Aa<|Aj<|Ae<|Ac rfl<|Ab (FV.geqU (a:=a0) (b:=(4294967296:UInt64)) rfl rfl)<|Aa<|MX.jo (α:=UInt64 × Nat) (fun ⟨u2,i3⟩=>[(0,vU u2),(2,vI ((i3:Nat):Int))]) (fun ⟨u2,i3⟩=>[]) (fun ⟨u2,i3⟩=>(u2,i3)) hS0 h ?_ ?_
 rintro ⟨u2,i3⟩ wx3 hS4 hT5 h
 try dsimp only at h
 refine Aj<|Ae<|Ac rfl<|Ab (FV.geqU (a:=u2) (b:=(65536:UInt64)) rfl rfl)<|Aa<|MX.jo (α:=UInt64 × Int) (fun ⟨b0,d0⟩=>[(0,vU b0),(2,vI d0)]) (fun ⟨b0,d0⟩=>[]) (fun ⟨b0,d0⟩=>(b0,d0)) hS4 h ?_ ?_
 rintro ⟨b0,d0⟩ J0 j0 F0 h
 try dsimp only at h
 refine Aj<|Ae<|Ac rfl<|Ab (FV.geqU (a:=b0) (b:=(256:UInt64)) rfl rfl)<|Aa<|MX.jo (α:=UInt64 × Int) (fun ⟨c0,g0⟩=>[(0,vU c0),(2,vI g0)]) (fun ⟨c0,g0⟩=>[]) (fun ⟨c0,g0⟩=>(c0,g0)) j0 h ?_ ?_
 rintro ⟨c0,g0⟩ K0 v0 G0 h
 try dsimp only at h
 refine Ae<|Ac rfl<|Ac rfl<|Ab (FV.conv8 (a:=c0) underlying30 underlying5 rfl)<|bk h fun k0 A0 h=>Ab (FV.strIdx (k:=(aq c0).toNat) (tab:=dN) underlying9 rfl rfl rfl rfl A0) ?_
 have H0:=k0.toNat_lt
 refine Ab (FV.convN (i:=k0.toNat) underlying5 underlying3 rfl (by omega))<|bk h fun I0 x0 h=>Ab (FV.addc (i:=g0) (j:=((k0.toNat:Nat):Int)) rfl rfl x0)<|Ag rfl<|Aa<|Ar rfl<|Bb hb0 func203 rfl rfl ?_
 cases h
 exact v0.gv
 intro E0 q0 h
 try dsimp only at h
 refine AW rfl h (fun s0 h=>?_) (fun s0 h=>?_)
 refine Ae<|Ac rfl<|Ab (FV.shrU (a:=b0) (j:=8) rfl rfl)<|Ag rfl<|Aa<|Am<|Ac rfl<|bk h fun B0 y0 h=>Ab (FV.addc (i:=d0) (j:=8) rfl rfl y0)<|Ag rfl<|Aa<|q0 (shrU b0 8,B0) j0 (BO _ _) h
 refine Aq<|q0 (b0,d0) j0 (BO _ _) h
 intro D0 p0 h
 try dsimp only at h
 refine AW rfl h (fun t0 h=>?_) (fun t0 h=>?_)
 refine Ae<|Ac rfl<|Ab (FV.shrU (a:=u2) (j:=16) rfl rfl)<|Ag rfl<|Aa<|Am<|Ac rfl<|bk h fun C0 z0 h=>Ab (FV.addc (i:=((i3:Nat):Int)) (j:=16) rfl rfl z0)<|Ag rfl<|Aa<|p0 (shrU u2 16,C0) hS4 (BO _ _) h
 refine Aq<|p0 (u2,((i3:Nat):Int)) hS4 (BO _ _) h
 intro J7 hJ8 h
 try dsimp only at h
 refine AW rfl h (fun u0 h=>?_) (fun u0 h=>?_)
 refine Ae<|Ac rfl<|Ab (FV.shrU (a:=a0) (j:=32) rfl rfl)<|Ag rfl<|Aa<|Am<|Ag rfl<|Aa<|hJ8 (shrU a0 32,32) hS0 (BO _ _) h
 refine Aq<|hJ8 (a0,0) hS0 (BO _ _) h
def bs_p (n:Nat) (a0:UInt64):Option Int:=
  (cb_p n a0).bind fun y1=>(chk (64 - y1)).bind fun s2=>some s2
theorem bs_c (n:Nat) {L w} (hL:hl L w) (a0:UInt64)  {r:Int} (h:bs_p n a0 = some r) :
 Cl 205 #[vU a0] w (ai w fun _ u=>u = vI r):=by
 unfold bs_p at h
 have hS0:=AK w
 refine AL func205 rfl rfl rfl fun _ cs0 hb0=>Ae<|Ag rfl<|Aa<|Ae<|Ac rfl<|bk h fun y1 hy1 h=>Bj (vI y1) (bd 203) rfl (e1 rfl) (fun w9 hw9=>cb_c n (hS0.hL0 hL hw9) a0 hy1) rfl<|bk h fun s2 hs2 h=>Ab (FV.subc (i:=64) (j:=y1) rfl rfl hs2)<|Ag rfl<|Aa<|Ar rfl<|Bb hb0 func205 rfl rfl ?_
 cases h
 exact hS0.gv
def bg_l1 (_n:Nat) (a2:UInt64) (y8:Int) (a1:UInt64) (d0:UInt64 × UInt64 -> Option UInt64):UInt64 × UInt64 -> Option UInt64
  | (b0,c0)=>(if (4294967296:UInt64) <= b0 then (if (4294967296:UInt64) <= (c0 + (shrU (shlU a2 (ac y8).toNat) 32)) then some (b0 - (1:UInt64)) else d0 (b0 - (1:UInt64),c0 + (shrU (shlU a2 (ac y8).toNat) 32))) else (if (((4294967296:UInt64) * c0) + ((shlU a1 (ac y8).toNat) &&& (4294967295:UInt64))) < (b0 * ((shlU a2 (ac y8).toNat) &&& (4294967295:UInt64))) then (if (4294967296:UInt64) <= (c0 + (shrU (shlU a2 (ac y8).toNat) 32)) then some (b0 - (1:UInt64)) else d0 (b0 - (1:UInt64),c0 + (shrU (shlU a2 (ac y8).toNat) 32))) else some b0))
def bg_l2 (_n:Nat) (a2:UInt64) (y8:Int) (a1:UInt64) (d0:UInt64 × UInt64 -> Option UInt64):UInt64 × UInt64 -> Option UInt64
  | (b0,c0)=>(if (4294967296:UInt64) <= b0 then (if (4294967296:UInt64) <= (c0 + (shrU (shlU a2 (ac y8).toNat) 32)) then some (b0 - (1:UInt64)) else d0 (b0 - (1:UInt64),c0 + (shrU (shlU a2 (ac y8).toNat) 32))) else (if (((4294967296:UInt64) * c0) + (shrU (shlU a1 (ac y8).toNat) 32)) < (b0 * ((shlU a2 (ac y8).toNat) &&& (4294967295:UInt64))) then (if (4294967296:UInt64) <= (c0 + (shrU (shlU a2 (ac y8).toNat) 32)) then some (b0 - (1:UInt64)) else d0 (b0 - (1:UInt64),c0 + (shrU (shlU a2 (ac y8).toNat) 32))) else some b0))
def bg_p (n:Nat) (a0:UInt64) (a1:UInt64) (a2:UInt64):Option (UInt64 × UInt64):=
  (if a2 = (0:UInt64) then none else (if a2 <= a0 then none else (if a0 = (0:UInt64) then (kX a1 a2).bind fun s6=>(oH a1 a2).bind fun s7=>some (s6,s7) else (bs_p n a2).bind fun y8=>(kX ((shlU a0 (ac y8).toNat) ||| (shrU a1 ((64:UInt64) - (ac y8)).toNat)) (shrU (shlU a2 (ac y8).toNat) 32)).bind fun s9=>(some (((shlU a0 (ac y8).toNat) ||| (shrU a1 ((64:UInt64) - (ac y8)).toNat)) - (s9 * (shrU (shlU a2 (ac y8).toNat) 32)))).bind fun p0=>jn (fun b0=>(some (((shlU a0 (ac y8).toNat) ||| (shrU a1 ((64:UInt64) - (ac y8)).toNat)) * (4294967296:UInt64))).bind fun c0=>(kX ((c0 + (shrU (shlU a1 (ac y8).toNat) 32)) - (b0 * (shlU a2 (ac y8).toNat))) (shrU (shlU a2 (ac y8).toNat) 32)).bind fun d0=>(some (((c0 + (shrU (shlU a1 (ac y8).toNat) 32)) - (b0 * (shlU a2 (ac y8).toNat))) - (d0 * (shrU (shlU a2 (ac y8).toNat) 32)))).bind fun q0=>jn (fun g0=>(some (((c0 + (shrU (shlU a1 (ac y8).toNat) 32)) - (b0 * (shlU a2 (ac y8).toNat))) * (4294967296:UInt64))).bind fun s0=>(some ((s0 + ((shlU a1 (ac y8).toNat) &&& (4294967295:UInt64))) - (g0 * (shlU a2 (ac y8).toNat)))).bind fun t0=>some ((b0 * (4294967296:UInt64)) + g0,shrU t0 (ac y8).toNat)) (fun k0=>Option.bind (am (bg_l1 n a2 y8 a1) n (d0,q0)) (k0))) (fun j0=>Option.bind (am (bg_l2 n a2 y8 a1) n (s9,p0)) (j0)))))
theorem bg_c (n:Nat) {L w} (hL:hl L w) (a0:UInt64) (a1:UInt64) (a2:UInt64)  {r:UInt64 × UInt64} (h:bg_p n a0 a1 a2 = some r) :
 Cl 186 #[vU a0,vU a1,vU a2] w (ai w fun _ u=>u = .tuple #[vU r.1,vU r.2]):=by
 unfold bg_p at h
 have hS0:=AK w
 refine AL func186 rfl rfl rfl fun _ cs0 hb0=>Ae<|Ag rfl<|Ag rfl<|Aa<|Aj<|Ae<|Ac rfl<|Ab (FV.eqlU (a:=a2) (b:=(0:UInt64)) rfl rfl)<|Aa<|AW rfl h (fun c1 h=>?_) (fun c1 h=>?_)
 refine Am ?_
 cases h
 refine Aq<|Aj<|Ae<|Ac rfl<|Ac rfl<|Ab (FV.leqU (a:=a2) (b:=a0) rfl rfl)<|Aa<|AW rfl h (fun c2 h=>?_) (fun c2 h=>?_)
 refine Am ?_
 cases h
 refine Aq<|Aj<|Ae<|Ac rfl<|Ab (FV.eqlU (a:=a0) (b:=(0:UInt64)) rfl rfl)<|Aa<|AW rfl h (fun c3 h=>?_) (fun c3 h=>?_)
 refine Aj<|du 8 fun kt4 kp5=>Rv 0 kt4 rfl kp5 (fun _=>Al rfl)<|Rv 1 kt4 rfl kp5 (fun _=>Al rfl)<|bk h fun s6 hs6 h=>Rv 2 kt4 rfl kp5 (fun _=>FV.quoV (a:=a1) (b:=a2) rfl rfl hs6)<|Rv 3 kt4 rfl kp5 (fun _=>Al rfl)<|Rv 4 kt4 rfl kp5 (fun _=>Al rfl)<|bk h fun s7 hs7 h=>Rv 5 kt4 rfl kp5 (fun _=>FV.remV (a:=a1) (b:=a2) rfl rfl hs7)<|Rv 6 kt4 rfl kp5 (fun _=>Bo rfl)<|Rv 7 kt4 rfl kp5 (fun _=>Bo rfl)<|AN (dk kt4)<|Ar rfl<|Au hb0 func186 rfl (.cons (.tmp rfl) (.cons (.tmp rfl) .nil)) rfl ?_
 cases h
 exact hS0.gv
 refine Aq<|Ae<|Ac rfl<|bk h fun y8 hy8 h=>Bj (vI y8) (bd 205) rfl (e1 rfl) (fun w9 hw9=>bs_c n (hS0.hL0 hL hw9) a2 hy8) rfl<|Ab (FV.convU (i:=y8) underlying3 underlying193 rfl)<|Ag rfl<|Aa<|Ae<|Ac rfl<|Ac rfl<|Ab (FV.shlU (a:=a2) (j:=(ac y8).toNat) rfl rfl)<|Ag rfl<|Aa<|Ae<|Ac rfl<|Ab (FV.shrU (a:=shlU a2 (ac y8).toNat) (j:=32) rfl rfl)<|Ag rfl<|Aa<|Ae<|Ac rfl<|Ab (FV.andU (a:=shlU a2 (ac y8).toNat) (b:=(4294967295:UInt64)) rfl rfl)<|Ag rfl<|Aa<|Ae<|Ac rfl<|Ac rfl<|Ab (FV.shlU (a:=a0) (j:=(ac y8).toNat) rfl rfl)<|Ac rfl<|Ac rfl<|Ab (FV.subU (a:=(64:UInt64)) (b:=ac y8) rfl rfl)<|Ab (FV.shrU (a:=a1) (j:=((64:UInt64) - (ac y8)).toNat) rfl rfl)<|Ab (FV.orU (a:=shlU a0 (ac y8).toNat) (b:=shrU a1 ((64:UInt64) - (ac y8)).toNat) rfl rfl)<|Ag rfl<|Aa<|Ae<|Ac rfl<|Ac rfl<|Ab (FV.shlU (a:=a1) (j:=(ac y8).toNat) rfl rfl)<|Ag rfl<|Aa<|Ae<|Ac rfl<|Ab (FV.shrU (a:=shlU a1 (ac y8).toNat) (j:=32) rfl rfl)<|Ag rfl<|Aa<|Ae<|Ac rfl<|Ab (FV.andU (a:=shlU a1 (ac y8).toNat) (b:=(4294967295:UInt64)) rfl rfl)<|Ag rfl<|Aa<|Ae<|Ac rfl<|Ac rfl<|bk h fun s9 hs9 h=>Ab (FV.quoV (a:=(shlU a0 (ac y8).toNat) ||| (shrU a1 ((64:UInt64) - (ac y8)).toNat)) (b:=shrU (shlU a2 (ac y8).toNat) 32) rfl rfl hs9)<|Ag rfl<|Aa<|Ae<|Ac rfl ?_
 refine Ac rfl<|Ac rfl<|Ab (FV.mulU (a:=s9) (b:=shrU (shlU a2 (ac y8).toNat) 32) rfl rfl)<|bk h fun d1 W0 h=>Ab (FV.as (FV.subU (a:=(shlU a0 (ac y8).toNat) ||| (shrU a1 ((64:UInt64) - (ac y8)).toNat)) (b:=s9 * (shrU (shlU a2 (ac y8).toNat) 32)) rfl rfl) (congrArg (fun z:UInt64=>Value.int .u64 (z.toNat:Int)) (Option.some.inj W0)))<|Ag rfl<|Aa<|Aj<|Av<|MX.xo (α:=UInt64) 0 (fun b0=>[(2,vW ((shlU a2 (ac y8).toNat).toNat:Int)),(8,vW ((ac y8).toNat:Int)),(9,vW ((shrU (shlU a2 (ac y8).toNat) 32).toNat:Int)),(10,vW (((shlU a2 (ac y8).toNat) &&& (4294967295:UInt64)).toNat:Int)),(11,vW (((shlU a0 (ac y8).toNat) ||| (shrU a1 ((64:UInt64) - (ac y8)).toNat)).toNat:Int)),(13,vW ((shrU (shlU a1 (ac y8).toNat) 32).toNat:Int)),(14,vW (((shlU a1 (ac y8).toNat) &&& (4294967295:UInt64)).toNat:Int)),(15,vU b0)]) (fun b0=>[]) (fun b0=>b0) hS0 rfl h ?_ ?_
 rintro b0 A1 D0 t1 h
 try dsimp only at h
 refine Ae<|Ac rfl<|bk h fun p0 X0 h=>Ab (FV.as (FV.mulU (a:=(shlU a0 (ac y8).toNat) ||| (shrU a1 ((64:UInt64) - (ac y8)).toNat)) (b:=(4294967296:UInt64)) rfl rfl) (congrArg (fun z:UInt64=>Value.int .u64 (z.toNat:Int)) (Option.some.inj X0)))<|Ac rfl<|Ab (FV.addU (a:=p0) (b:=shrU (shlU a1 (ac y8).toNat) 32) rfl rfl)<|Ac rfl<|Ac rfl<|Ab (FV.mulU (a:=b0) (b:=shlU a2 (ac y8).toNat) rfl rfl)<|Ab (FV.subU (a:=p0 + (shrU (shlU a1 (ac y8).toNat) 32)) (b:=b0 * (shlU a2 (ac y8).toNat)) rfl rfl)<|Ag rfl<|Aa<|Ae<|Ac rfl<|Ac rfl<|bk h fun A0 V0 h=>Ab (FV.quoV (a:=(p0 + (shrU (shlU a1 (ac y8).toNat) 32)) - (b0 * (shlU a2 (ac y8).toNat))) (b:=shrU (shlU a2 (ac y8).toNat) 32) rfl rfl V0)<|Ag rfl<|Aa<|Ae<|Ac rfl<|Ac rfl<|Ac rfl<|Ab (FV.mulU (a:=A0) (b:=shrU (shlU a2 (ac y8).toNat) 32) rfl rfl)<|bk h fun g1 Y0 h=>Ab (FV.as (FV.subU (a:=(p0 + (shrU (shlU a1 (ac y8).toNat) 32)) - (b0 * (shlU a2 (ac y8).toNat))) (b:=A0 * (shrU (shlU a2 (ac y8).toNat) 32)) rfl rfl) (congrArg (fun z:UInt64=>Value.int .u64 (z.toNat:Int)) (Option.some.inj Y0)))<|Ag rfl<|Aa<|Aj<|Av<|MX.xo (α:=UInt64) 2 (fun k0=>[(2,vW ((shlU a2 (ac y8).toNat).toNat:Int)),(8,vW ((ac y8).toNat:Int)),(14,vW (((shlU a1 (ac y8).toNat) &&& (4294967295:UInt64)).toNat:Int)),(15,vU b0),(17,vW (((p0 + (shrU (shlU a1 (ac y8).toNat) 32)) - (b0 * (shlU a2 (ac y8).toNat))).toNat:Int)),(18,vU k0)]) (fun k0=>[]) (fun k0=>k0) D0 rfl h ?_ ?_
 rintro k0 B1 Q0 u1 h
 try dsimp only at h
 refine Ae<|Ac rfl<|Ab (FV.mulU (a:=b0) (b:=(4294967296:UInt64)) rfl rfl)<|Ac rfl<|Ab (FV.addU (a:=b0 * (4294967296:UInt64)) (b:=k0) rfl rfl)<|Ac rfl<|bk h fun E0 Z0 h=>Ab (FV.as (FV.mulU (a:=(p0 + (shrU (shlU a1 (ac y8).toNat) 32)) - (b0 * (shlU a2 (ac y8).toNat))) (b:=(4294967296:UInt64)) rfl rfl) (congrArg (fun z:UInt64=>Value.int .u64 (z.toNat:Int)) (Option.some.inj Z0)))<|Ac rfl<|Ab (FV.addU (a:=E0) (b:=(shlU a1 (ac y8).toNat) &&& (4294967295:UInt64)) rfl rfl)<|Ac rfl<|Ac rfl<|Ab (FV.mulU (a:=k0) (b:=shlU a2 (ac y8).toNat) rfl rfl)<|bk h fun j1 b1 h=>Ab (FV.as (FV.subU (a:=E0 + ((shlU a1 (ac y8).toNat) &&& (4294967295:UInt64))) (b:=k0 * (shlU a2 (ac y8).toNat)) rfl rfl) (congrArg (fun z:UInt64=>Value.int .u64 (z.toNat:Int)) (Option.some.inj b1)))<|Ac rfl<|Ab (FV.shrU (a:=j1) (j:=(ac y8).toNat) rfl rfl)<|Ag rfl<|Ag rfl<|Aa<|Ar rfl<|Au hb0 func186 rfl (.cons (.tmp rfl) (.cons (.tmp rfl) .nil)) rfl ?_
 cases h
 exact Q0.gv
 intro s1 x0 h
 try dsimp only at h
 obtain ⟨v1,R0,y0⟩:=ao h
 refine MX.lo (α:=UInt64 × UInt64) (fun ⟨c0,g0⟩=>[(2,vW ((shlU a2 (ac y8).toNat).toNat:Int)),(8,vW ((ac y8).toNat:Int)),(9,vW ((shrU (shlU a2 (ac y8).toNat) 32).toNat:Int)),(10,vW (((shlU a2 (ac y8).toNat) &&& (4294967295:UInt64)).toNat:Int)),(14,vW (((shlU a1 (ac y8).toNat) &&& (4294967295:UInt64)).toNat:Int)),(15,vU b0),(17,vW (((p0 + (shrU (shlU a1 (ac y8).toNat) 32)) - (b0 * (shlU a2 (ac y8).toNat))).toNat:Int)),(18,vU c0),(16,vU g0)]) (fun ⟨c0,g0⟩=>[]) (fun ⟨c0,g0⟩=>(c0,g0)) (A0,g1) R0 D0 ?_
 rintro k1 ⟨c0,g0⟩ y1 B0 q0 t0 h
 unfold bg_l1 at h
 try dsimp only at h
 refine Aj<|Ae<|Ac rfl<|Ab (FV.geqU (a:=c0) (b:=(4294967296:UInt64)) rfl rfl)<|Ac rfl<|RG.ifd (s:=104) rfl h (fun F0 h=>?_) (fun F0 h=>?_)
 refine Ap<|Ap<|Ap<|Ap<|Ap<|Ap<|Ap<|Ap<|Br rfl rfl<|Aa<|AE rfl<|Aq<|Av<|Ae<|Ac rfl<|Ab (FV.subU (a:=c0) (b:=(1:UInt64)) rfl rfl)<|Ag rfl<|Aa<|Ae<|Ac rfl<|Ac rfl<|Ab (FV.addU (a:=g0) (b:=shrU (shlU a2 (ac y8).toNat) 32) rfl rfl)<|Ag rfl<|Aa<|Ae<|Ac rfl<|Ab (FV.geqU (a:=g0 + (shrU (shlU a2 (ac y8).toNat) 32)) (b:=(4294967296:UInt64)) rfl rfl)<|Aa<|AW rfl h (fun G0 h=>?_) (fun G0 h=>?_)
 refine Ba rfl ?_
 have h:=y0 _ h
 try dsimp only at h
 exact x0 (c0 - (1:UInt64)) q0 t0 h
 refine Aq<|Aw<|B0 (c0 - (1:UInt64),g0 + (shrU (shlU a2 (ac y8).toNat) 32)) q0 t0 h
 refine AM (Al rfl)<|AM (Al rfl)<|AM (FV.mulU (a:=c0) (b:=(shlU a2 (ac y8).toNat) &&& (4294967295:UInt64)) rfl rfl)<|AM (Al rfl)<|AM (FV.mulU (a:=(4294967296:UInt64)) (b:=g0) rfl rfl)<|AM (Al rfl)<|AM (FV.addU (a:=(4294967296:UInt64) * g0) (b:=(shlU a1 (ac y8).toNat) &&& (4294967295:UInt64)) rfl rfl)<|AM (FV.gtrU (a:=c0 * ((shlU a2 (ac y8).toNat) &&& (4294967295:UInt64))) (b:=((4294967296:UInt64) * g0) + ((shlU a1 (ac y8).toNat) &&& (4294967295:UInt64))) rfl rfl)<|Bs rfl rfl<|Aa<|AW rfl h (fun H0 h=>?_) (fun H0 h=>?_)
 refine Aq<|Av<|Ae<|Ac rfl<|Ab (FV.subU (a:=c0) (b:=(1:UInt64)) rfl rfl)<|Ag rfl<|Aa<|Ae<|Ac rfl<|Ac rfl<|Ab (FV.addU (a:=g0) (b:=shrU (shlU a2 (ac y8).toNat) 32) rfl rfl)<|Ag rfl<|Aa<|Ae<|Ac rfl<|Ab (FV.geqU (a:=g0 + (shrU (shlU a2 (ac y8).toNat) 32)) (b:=(4294967296:UInt64)) rfl rfl)<|Aa<|AW rfl h (fun I0 h=>?_) (fun I0 h=>?_)
 refine Ba rfl ?_
 have h:=y0 _ h
 try dsimp only at h
 exact x0 (c0 - (1:UInt64)) q0 t0 h
 refine Aq<|Aw<|B0 (c0 - (1:UInt64),g0 + (shrU (shlU a2 (ac y8).toNat) 32)) q0 t0 h
 refine Ba rfl ?_
 have h:=y0 _ h
 try dsimp only at h
 exact x0 c0 q0 t0 h
 intro q1 v0 h
 try dsimp only at h
 obtain ⟨x1,U0,z0⟩:=ao h
 refine MX.lo (α:=UInt64 × UInt64) (fun ⟨d0,j0⟩=>[(2,vW ((shlU a2 (ac y8).toNat).toNat:Int)),(8,vW ((ac y8).toNat:Int)),(9,vW ((shrU (shlU a2 (ac y8).toNat) 32).toNat:Int)),(10,vW (((shlU a2 (ac y8).toNat) &&& (4294967295:UInt64)).toNat:Int)),(11,vW (((shlU a0 (ac y8).toNat) ||| (shrU a1 ((64:UInt64) - (ac y8)).toNat)).toNat:Int)),(13,vW ((shrU (shlU a1 (ac y8).toNat) 32).toNat:Int)),(14,vW (((shlU a1 (ac y8).toNat) &&& (4294967295:UInt64)).toNat:Int)),(15,vU d0),(16,vU j0)]) (fun ⟨d0,j0⟩=>[]) (fun ⟨d0,j0⟩=>(d0,j0)) (s9,d1) U0 hS0 ?_
 rintro p1 ⟨d0,j0⟩ z1 C0 s0 u0 h
 unfold bg_l2 at h
 try dsimp only at h
 refine Aj<|Ae<|Ac rfl<|Ab (FV.geqU (a:=d0) (b:=(4294967296:UInt64)) rfl rfl)<|Ac rfl<|RG.ifd (s:=69) rfl h (fun J0 h=>?_) (fun J0 h=>?_)
 refine Ap<|Ap<|Ap<|Ap<|Ap<|Ap<|Ap<|Ap<|Br rfl rfl<|Aa<|AE rfl<|Aq<|Av<|Ae<|Ac rfl<|Ab (FV.subU (a:=d0) (b:=(1:UInt64)) rfl rfl)<|Ag rfl<|Aa<|Ae<|Ac rfl<|Ac rfl<|Ab (FV.addU (a:=j0) (b:=shrU (shlU a2 (ac y8).toNat) 32) rfl rfl)<|Ag rfl<|Aa<|Ae<|Ac rfl<|Ab (FV.geqU (a:=j0 + (shrU (shlU a2 (ac y8).toNat) 32)) (b:=(4294967296:UInt64)) rfl rfl)<|Aa<|AW rfl h (fun K0 h=>?_) (fun K0 h=>?_)
 refine Ba rfl ?_
 have h:=z0 _ h
 try dsimp only at h
 exact v0 (d0 - (1:UInt64)) s0 u0 h
 refine Aq<|Aw<|C0 (d0 - (1:UInt64),j0 + (shrU (shlU a2 (ac y8).toNat) 32)) s0 u0 h
 refine AM (Al rfl)<|AM (Al rfl)<|AM (FV.mulU (a:=d0) (b:=(shlU a2 (ac y8).toNat) &&& (4294967295:UInt64)) rfl rfl)<|AM (Al rfl)<|AM (FV.mulU (a:=(4294967296:UInt64)) (b:=j0) rfl rfl)<|AM (Al rfl)<|AM (FV.addU (a:=(4294967296:UInt64) * j0) (b:=shrU (shlU a1 (ac y8).toNat) 32) rfl rfl)<|AM (FV.gtrU (a:=d0 * ((shlU a2 (ac y8).toNat) &&& (4294967295:UInt64))) (b:=((4294967296:UInt64) * j0) + (shrU (shlU a1 (ac y8).toNat) 32)) rfl rfl)<|Bs rfl rfl<|Aa<|AW rfl h (fun M0 h=>?_) (fun M0 h=>?_)
 refine Aq<|Av<|Ae<|Ac rfl<|Ab (FV.subU (a:=d0) (b:=(1:UInt64)) rfl rfl)<|Ag rfl<|Aa<|Ae<|Ac rfl<|Ac rfl<|Ab (FV.addU (a:=j0) (b:=shrU (shlU a2 (ac y8).toNat) 32) rfl rfl)<|Ag rfl<|Aa<|Ae<|Ac rfl<|Ab (FV.geqU (a:=j0 + (shrU (shlU a2 (ac y8).toNat) 32)) (b:=(4294967296:UInt64)) rfl rfl)<|Aa<|AW rfl h (fun P0 h=>?_) (fun P0 h=>?_)
 refine Ba rfl ?_
 have h:=z0 _ h
 try dsimp only at h
 exact v0 (d0 - (1:UInt64)) s0 u0 h
 refine Aq<|Aw<|C0 (d0 - (1:UInt64),j0 + (shrU (shlU a2 (ac y8).toNat) 32)) s0 u0 h
 refine Ba rfl ?_
 have h:=z0 _ h
 try dsimp only at h
 exact v0 d0 s0 u0 h
def cK_p (n:Nat) (a0:List UInt64):Option Int:=
  (if a0.length = 0 then some (0:Int) else (chk (64 * ((a0.length:Nat):Int))).bind fun s3=>(idx a0 (((a0.length:Nat):Int) - 1)).bind fun x4=>(bs_p n x4).bind fun c0=>(chk (s3 - c0)).bind fun b0=>some b0)
theorem cK_c (n:Nat) {L w} (hL:hl L w) {a0:List UInt64} {v0_0:Value} (h0_0:Rep.R w L [v0_0] a0)  {r:Int} (h:cK_p n a0 = some r) :
 Cl 187 #[v0_0] w (ai w fun _ u=>u = vI r):=by
 unfold cK_p at h
 have hS0:=AK w
 refine AL func187 rfl rfl rfl fun _ cs0 hb0=>Ae<|Ag rfl<|Aa<|Aj<|Ae<|Ac rfl ?_
 have hl1:a0.length <= 281474976710656:=AX h0_0
 refine Ab (AY (xs:=a0) underlying105 rfl h0_0)<|Ab (FV.eqlN (i:=a0.length) (j:=0) rfl rfl)<|Aa<|AW rfl h (fun c2 h=>?_) (fun c2 h=>?_)
 refine Ae<|Ag rfl<|Aa<|Ar rfl<|Bb hb0 func187 rfl rfl ?_
 cases h
 exact hS0.gv
 refine Aq<|Ae<|Ac rfl<|Ab (AY (xs:=a0) underlying105 rfl h0_0)<|bk h fun s3 hs3 h=>Ab (FV.mulc (i:=64) (j:=((a0.length:Nat):Int)) rfl rfl hs3)<|Ac rfl<|Ac rfl<|Ab (AY (xs:=a0) underlying105 rfl h0_0)<|Ab (FV.subI (i:=((a0.length:Nat):Int)) (j:=1) rfl rfl (by omega))<|bk h fun x4 hx4 h=>?_
 obtain ⟨hi5,hx6⟩:=aV hx4
 obtain ⟨A7,c8,he9,g0,c0,k0,j0⟩:=Be h0_0 hx6
 have d0:c0 = [vU x4]:=k0; subst d0
 refine Ab (FV.idxAddr (m:=1) (i:=(((a0.length:Nat):Int) - 1).toNat) rfl rfl he9 rfl hi5 g0)<|Bd rfl (j0 0 _ rfl)<|bk h fun b0 q0 h=>Bj (vI b0) (bd 205) rfl (e1 rfl) (fun w9 hw9=>bs_c n (hS0.hL0 hL hw9) x4 q0) rfl<|bk h fun s0 p0 h=>Ab (FV.subc (i:=s3) (j:=b0) rfl rfl p0)<|Ag rfl<|Aa<|Ar rfl<|Bb hb0 func187 rfl rfl ?_
 cases h
 exact hS0.gv
def cB_l1 (_n:Nat) (a0:List UInt64) (a1:Int) (g0:Nat × (List UInt64) -> Option (List UInt64)):Nat × (List UInt64) -> Option (List UInt64)
  | (b0,c0)=>(if b0 < a0.length then (a0[b0]?).bind fun p0=>(dL a1 64).bind fun t0=>(chk (((b0:Nat):Int) + t0)).bind fun j0=>(idx c0 j0).bind fun B0=>(cL a1 64).bind fun u0=>(bF u0).bind fun q0=>(put c0 ((j0.toNat:Nat):Int) (B0 ||| (shlU p0 q0))).bind fun d0=>(cL a1 64).bind fun v0=>(if 0 < v0 then (dL a1 64).bind fun x0=>(chk (((b0:Nat):Int) + x0)).bind fun y0=>(chk (y0 + 1)).bind fun k0=>(cL a1 64).bind fun z0=>(chk (64 - z0)).bind fun A0=>(bF A0).bind fun s0=>(idx d0 k0).bind fun _x218=>(put d0 ((k0.toNat:Nat):Int) (shrU p0 s0)).bind fun C0=>g0 (b0 + 1,C0) else g0 (b0 + 1,d0)) else some c0)
def cB_p (n:Nat) (a0:List UInt64) (a1:Int):Option (List UInt64):=
  (dL a1 64).bind fun s2=>(chk (((a0.length:Nat):Int) + s2)).bind fun s3=>(chk (s3 + 1)).bind fun s4=>(mk s4 (0:UInt64)).bind fun b0=>Option.bind (am (cB_l1 n a0 a1) n (0,b0)) (fun c0=>(ay_p n false c0).bind fun d0=>some d0.fk)
theorem cB_c (n:Nat) {L w} (hL:hl L w) {a0:List UInt64} {v0_0:Value} (h0_0:Rep.R w L [v0_0] a0) {a1:Int}  {r:List UInt64} (h:cB_p n a0 a1 = some r) :
 Cl 188 #[v0_0,vI a1] w (ai w fun w' u=>∃ v0_0:Value,u = v0_0/\Rep.R w' L [v0_0] r):=by
 unfold cB_p at h
 refine AL func188 rfl rfl rfl fun _ cs0 hb0=>Ae<|Ag rfl<|Aa<|Ae<|Ac rfl ?_
 have hl1:a0.length <= 281474976710656:=AX h0_0
 refine Ab (AY (xs:=a0) underlying105 rfl h0_0)<|Ac rfl<|bk h fun s2 hs2 h=>Ab (FV.quoc (i:=a1) (j:=64) rfl rfl hs2)<|bk h fun s3 hs3 h=>Ab (FV.addc (i:=((a0.length:Nat):Int)) (j:=s2) rfl rfl hs3)<|bk h fun s4 hs4 h=>Ab (FV.addc (i:=s3) (j:=1) rfl rfl hs4)<|bk h fun U0 K0 h=>Ao .plain rfl (Does.mk (α:=UInt64) K0 (AK w) dH rfl) fun Z2 p0 u0 Q2=>Ag rfl<|Aa<|Aj<|Ae<|Ac rfl<|Ab (AY (xs:=a0) underlying105 rfl (AG h0_0 u0))<|Ac rfl<|Aa<|Av ?_
 obtain ⟨X2,H1,A1⟩:=ao h
 refine BR (α:=Nat × (List UInt64) × (List Value)) (fun ⟨c0,g0,j0⟩=>[(1,vI a1),(5,(.slice (some ⟨p0,0,none⟩) s4.toNat s4.toNat)),(15,v0_0),(16,vI ((a0.length:Nat):Int)),(17,vI ((c0:Nat):Int))]) (fun ⟨c0,g0,j0⟩=>[rr w 30 UInt64 (.slice (some ⟨p0,0,none⟩) s4.toNat s4.toNat) g0.length j0]) (fun ⟨c0,g0,j0⟩ Q0=>Cells Q0 (bl [rr w 30 UInt64 (.slice (some ⟨p0,0,none⟩) s4.toNat s4.toNat) g0.length j0] ++ L) j0 g0) (fun ⟨c0,g0,j0⟩=>(c0,g0)) (0,U0,(List.replicate s4.toNat [vW 0]).flatten) H1 u0 (AJ (cs:=(List.replicate s4.toNat [vW 0]).flatten) (xs:=U0) u0 L (Cells.mk K0 rfl)) ?_
 rintro H2 ⟨c0,g0,j0⟩ Q0 C0 k0 E0 x0 h
 unfold cB_l1 at h
 try dsimp only at h
 refine Ae<|Ab (AU (i:=c0) (j:=a0.length) rfl rfl)<|Aa<|Aj<|AW rfl h (fun Z0 h=>?_) (fun Z0 h=>?_)
 refine Aq<|Aj<|Av<|Ae<|Ac rfl<|bk h fun t0 b2 h=>?_
 obtain ⟨G2,I2,v1,C1,c1,I1,F1⟩:=Be (AG h0_0 k0) b2
 have x1:c1 = [vU t0]:=I1; subst x1
 refine Ab (Bf 1 c0 rfl v1 rfl rfl C1)<|Bd rfl (F1 0 _ rfl)<|Ag rfl<|Ag rfl<|Aa<|Aj<|du 13 fun b0 d0=>Rv 0 b0 rfl d0 (fun _=>Al rfl)<|Rv 1 b0 rfl d0 (fun _=>Al rfl)<|Rv 2 b0 rfl d0 (fun _=>Al rfl)<|bk h fun u2 P1 h=>Rv 3 b0 rfl d0 (fun _=>FV.quoc (i:=a1) (j:=64) rfl rfl P1)<|bk h fun B0 Q1 h=>Rv 4 b0 rfl d0 (fun _=>FV.addc (i:=((c0:Nat):Int)) (j:=u2) rfl rfl Q1)<|bk h fun R0 c2 h=>?_
 obtain ⟨I0,d2⟩:=aV c2
 obtain ⟨V0,J2,s0,A0,d1,J1,G1⟩:=St.nth (α:=UInt64) k0 .hd x0 d2
 obtain ⟨X0,K2,G0⟩:=BE (α:=UInt64) k0 .hd A0
 obtain rfl:V0 = ⟨X0,0,none⟩:=by rw [G0] at s0; cases s0; rfl
 have y1:d1 = [vU R0]:=J1; subst y1
 refine Rv 5 b0 rfl d0 (fun _=>Bf 1 (B0.toNat) rfl s0 rfl I0 A0)<|Rx 6 14336 b0 rfl d0 (Bn rfl (G1 0 _ rfl))<|Rv 7 b0 rfl d0 (fun _=>Al rfl)<|Rv 8 b0 rfl d0 (fun _=>Al rfl)<|bk h fun v2 R1 h=>Rv 9 b0 rfl d0 (fun _=>FV.remc (i:=a1) (j:=64) rfl rfl R1)<|bk h fun t2 D1 h=>Rv 10 b0 rfl d0 (fun _=>FV.shlI (a:=t0) (i:=v2) rfl rfl D1)<|Rv 11 b0 rfl d0 (fun _=>FV.orU (a:=R0) (b:=shlU t0 t2) rfl rfl)<|Rv 12 b0 rfl d0 (fun _=>Bf 1 (B0.toNat) rfl s0 rfl I0 A0)<|bk h fun D2 k2 h=>BJ (i:=13) (rk b0) (RO.acts (m' :=16383) (sk b0) rfl rfl .plain (Acts.set (α:=UInt64) (i:=B0.toNat) k2 k0 G0 (fun _=>.hd) x0 rfl rfl rfl rfl rfl rfl) (fun b3 ⟨g1,q0,F0,y0⟩=>?_))
 refine AN (dk b0)<|Ae<|Ac rfl<|bk h fun x2 U1 h=>Ab (FV.remc (i:=a1) (j:=64) rfl rfl U1)<|Ab (FV.gtr (i:=x2) (j:=0) rfl rfl)<|Aa<|AW rfl h (fun b1 h=>?_) (fun b1 h=>?_)
 refine Am<|Ac rfl<|Ac rfl<|Ac rfl<|bk h fun y2 V1 h=>Ab (FV.quoc (i:=a1) (j:=64) rfl rfl V1)<|bk h fun z2 W1 h=>Ab (FV.addc (i:=((c0:Nat):Int)) (j:=y2) rfl rfl W1)<|bk h fun M0 X1 h=>Ab (FV.addc (i:=z2) (j:=1) rfl rfl X1)<|Ac rfl<|Ac rfl<|bk h fun A2 Y1 h=>Ab (FV.remc (i:=a1) (j:=64) rfl rfl Y1)<|bk h fun B2 Z1 h=>Ab (FV.subc (i:=64) (j:=A2) rfl rfl Z1)<|bk h fun W2 E1 h=>Ab (FV.shrI (a:=t0) (i:=B2) rfl rfl E1)<|bk h fun C2 g2 h=>?_
 obtain ⟨B1,j2⟩:=aV g2
 obtain ⟨W0,M2,z0,J0,j1,K1,V2⟩:=St.nth (α:=UInt64) q0 .hd y0 j2
 obtain ⟨Y0,P2,H0⟩:=BE (α:=UInt64) q0 .hd J0
 obtain rfl:W0 = ⟨Y0,0,none⟩:=by rw [H0] at z0; cases z0; rfl
 have z1:j1 = [vU C2]:=K1; subst z1
 refine Ab (Bf 1 (M0.toNat) rfl z0 rfl B1 J0)<|bk h fun E2 p2 h=>RG.acts' .plain (Acts.set (α:=UInt64) (i:=M0.toNat) p2 q0 H0 (fun _=>.hd) y0 rfl rfl rfl rfl rfl rfl) fun c3 ⟨k1,p1,q1,u1⟩=>Aa<|Aw<|Am<|Ab (Bc (i:=c0) (j:=1) rfl rfl (by omega))<|Ac rfl<|Aa<|C0 (c0 + 1,E2,k1) p1 (Tt E0 (Tt F0 q1)) u1 h
 refine Aq<|Aw<|Am<|Ab (Bc (i:=c0) (j:=1) rfl rfl (by omega))<|Ac rfl<|Aa<|C0 (c0 + 1,D2,g1) q0 (Tt E0 F0) y0 h
 refine Ba rfl ?_
 have h:=A1 _ h
 try dsimp only at h
 refine Ae<|Ac rfl ?_
 have v0:=Bw k0 .hd
 have R2:=Bx k0 .hd
 refine bk h fun F2 q2 h=>jE (bd 166) rfl (e2 rfl rfl) (fun w9 hw9=>ay_c n (v0.hL hL hw9) (Ah (By (α:=UInt64) (v:=(.slice (some ⟨p0,0,none⟩) s4.toNat s4.toNat)) (xs:=g0) v0 L (Bg (α:=UInt64) k0 .hd x0 hL)) hw9) q2) rfl fun d3 Y2 s1 ⟨P0,hu_,M1⟩=>?_
 subst hu_
 obtain ⟨D0,U2⟩:=v0.agr s1
 refine Ab (FV.field1 (cs:=[.bool F2.fc,P0]) (off:=1) (m:=1) rfl rfl rfl rfl)<|Ag rfl<|Aa<|Ar rfl<|Bb hb0 func188 rfl rfl ?_
 cases h
 exact ⟨D0.ag,fun w9 hw9=>⟨P0,rfl,D0.kd M1 hw9⟩⟩

def bt_l1 (n:Nat) (a0:List UInt64) (a1:List UInt64) (j0:UInt64 × Int × (List UInt64) -> Option (UInt64 × (List UInt64))):UInt64 × Int × (List UInt64) -> Option (UInt64 × (List UInt64))
  | (d0,b0,c0)=>(if 0 <= b0 then (idx a0 b0).bind fun p0=>(a1[0]?).bind fun q0=>(bg_p n d0 p0 q0).bind fun g0=>(idx c0 b0).bind fun _x169=>(put c0 ((b0.toNat:Nat):Int) g0.1).bind fun s0=>(chk (b0 - 1)).bind fun k0=>j0 (g0.2,k0,s0) else some (d0,c0))
def bt_l2 (n:Nat) (a1:List UInt64) (p0:(List UInt64) × Int × (List UInt64) -> Option ((List UInt64) × (List UInt64))):(List UInt64) × Int × (List UInt64) -> Option ((List UInt64) × (List UInt64))
  | (c0,b0,d0)=>(if 0 <= b0 then (cB_p n a1 b0).bind fun k0=>(bJ_p n c0 k0).bind fun z0=>jn (fun (v0,x0)=>(chk (b0 - 1)).bind fun s0=>p0 (v0,s0,x0)) (fun g0=>(if 0 <= z0 then (bT_p n c0 k0).bind fun A0=>(ay_p n false A0).bind fun B0=>(dL b0 64).bind fun j0=>(idx d0 j0).bind fun u0=>(cL b0 64).bind fun t0=>(bF t0).bind fun q0=>(put d0 ((j0.toNat:Nat):Int) (u0 ||| (shlU (1:UInt64) q0))).bind fun y0=>g0 (B0.fk,y0) else g0 (c0,d0))) else some (d0,c0))
def bt_p (n:Nat) (a0:List UInt64) (a1:List UInt64):Option ((List UInt64) × (List UInt64)):=
  (mk ((a0.length:Nat):Int) (0:UInt64)).bind fun b0=>(if a1.length = 1 then Option.bind (am (bt_l1 n a0 a1) n (0,((a0.length:Nat):Int) - 1,b0)) (fun (d0,g0)=>(ay_p n false ([d0]:List UInt64)).bind fun p0=>some (g0,p0.fk)) else (cK_p n a0).bind fun q0=>(cK_p n a1).bind fun s0=>(chk (q0 - s0)).bind fun c0=>Option.bind (am (bt_l2 n a1) n (a0,c0,b0)) (fun (k0,j0)=>some (k0,j0)))
theorem bt_c (n:Nat) {L w} (hL:hl L w) {a0:List UInt64} {v0_0:Value} (h0_0:Rep.R w L [v0_0] a0) {a1:List UInt64} {v1_0:Value} (h1_0:Rep.R w L [v1_0] a1)  {r:(List UInt64) × (List UInt64)} (h:bt_p n a0 a1 = some r) :
 Cl 163 #[v0_0,v1_0] w (ai w fun w' u=>∃ v0_0 v1_0:Value,u = .tuple #[v0_0,v1_0]/\Rep.R w' L [v0_0] r.1/\Rep.R w' L [v1_0] r.2):=by
 unfold bt_p at h
 refine AL func163 rfl rfl rfl fun _ cs0 hb0=>Ae<|Ag rfl<|Ag rfl<|Aa<|Ae<|Ac rfl ?_
 have hl1:a0.length <= 281474976710656:=AX h0_0
 refine Ab (AY (xs:=a0) underlying105 rfl h0_0)<|bk h fun g1 E1 h=>Ao .plain rfl (Does.mk (α:=UInt64) E1 (AK w) dH rfl) fun g5 c0 t0 Q4=>?_
 have u1:=AJ (cs:=(List.replicate ((a0.length:Nat):Int).toNat [vW 0]).flatten) (xs:=g1) t0 L (Cells.mk E1 rfl)
 refine Ag rfl<|Aa<|Aj<|Ae<|Ac rfl ?_
 have A1:=AG h1_0 t0
 have R4:a1.length <= 281474976710656:=AX A1
 refine Ab (AY (xs:=a1) underlying105 rfl A1)<|Ab (FV.eqlN (i:=a1.length) (j:=1) rfl rfl)<|Aa<|AW rfl h (fun b2 h=>?_) (fun b2 h=>?_)
 refine Ae<|Ag rfl<|Aa<|Aj<|Ae<|Ac rfl<|Ab (AY (xs:=a0) underlying105 rfl (AG h0_0 t0))<|Ab (FV.subI (i:=((a0.length:Nat):Int)) (j:=1) rfl rfl (by omega))<|Ag rfl<|Aa<|Av ?_
 obtain ⟨V4,u3,b3⟩:=ao h
 refine BR (α:=UInt64 × Int × (List UInt64) × (List Value)) (fun ⟨g0,q0,z0,B0⟩=>[(0,v0_0),(1,v1_0),(4,(.slice (some ⟨c0,0,none⟩) ((a0.length:Nat):Int).toNat ((a0.length:Nat):Int).toNat)),(6,vU g0),(7,vI q0)]) (fun ⟨g0,q0,z0,B0⟩=>[rr w 30 UInt64 (.slice (some ⟨c0,0,none⟩) ((a0.length:Nat):Int).toNat ((a0.length:Nat):Int).toNat) z0.length B0]) (fun ⟨g0,q0,z0,B0⟩ H1=>Cells H1 (bl [rr w 30 UInt64 (.slice (some ⟨c0,0,none⟩) ((a0.length:Nat):Int).toNat ((a0.length:Nat):Int).toNat) z0.length B0] ++ L) B0 z0) (fun ⟨g0,q0,z0,B0⟩=>(g0,q0,z0)) (0,((a0.length:Nat):Int) - 1,g1,(List.replicate ((a0.length:Nat):Int).toNat [vW 0]).flatten) u3 t0 u1 ?_
 rintro E4 ⟨g0,q0,z0,B0⟩ H1 t2 C0 z2 V0 h
 unfold bt_l1 at h
 try dsimp only at h
 refine Aj<|Ae<|Ac rfl<|Ab (FV.geq (i:=q0) (j:=0) rfl rfl)<|Aa<|AW rfl h (fun Z1 h=>?_) (fun Z1 h=>?_)
 refine Aq<|Aj<|Av<|du 15 fun b0 d0=>Rv 0 b0 rfl d0 (fun _=>Al rfl)<|Rv 1 b0 rfl d0 (fun _=>Al rfl)<|Rv 2 b0 rfl d0 (fun _=>Al rfl)<|Rv 3 b0 rfl d0 (fun _=>Al rfl)<|Rv 4 b0 rfl d0 (fun _=>Al rfl)<|bk h fun I1 P3 h=>?_
 obtain ⟨d3,Q3⟩:=aV P3
 obtain ⟨C4,H4,U2,j3,g2,x3,q3⟩:=Be (AG h0_0 C0) Q3
 have V2:g2 = [vU I1]:=x3; subst V2
 refine Rv 5 b0 rfl d0 (fun _=>Bf 1 (q0.toNat) rfl U2 rfl d3 j3)<|Rx 6 130048 b0 rfl d0 (Bn rfl (q3 0 _ rfl))<|Rv 7 b0 rfl d0 (fun _=>Al rfl)<|bk h fun J1 R3 h=>?_
 obtain ⟨D4,I4,W2,k3,j2,y3,s3⟩:=Be (AG h1_0 C0) R3
 have X2:j2 = [vU J1]:=y3; subst X2
 refine Rv 8 b0 rfl d0 (fun _=>Bf 1 0 rfl W2 rfl rfl k3)<|Rx 9 130048 b0 rfl d0 (Bn rfl (s3 0 _ rfl))<|bk h fun j1 b4 h=>RD.cq 10 2047 129024 (.tuple #[vU j1.1,vU j1.2]) b0 rfl d0 (bd 186) rfl (e3 rfl rfl rfl) (fun p q=>bg_c n (C0.hL0 hL q) g0 I1 J1 b4) rfl<|Rv 11 b0 rfl d0 (fun _=>Al rfl)<|Rv 12 b0 rfl d0 (fun _=>Ai rfl rfl)<|Rv 13 b0 rfl d0 (fun _=>Ai rfl rfl)<|bk h fun y4 U3 h=>?_
 obtain ⟨g3,V3⟩:=aV U3
 obtain ⟨U1,J4,X0,z1,k2,z3,U4⟩:=St.nth (α:=UInt64) C0 .hd V0 V3
 obtain ⟨W1,K4,v1⟩:=BE (α:=UInt64) C0 .hd z1
 obtain rfl:U1 = ⟨W1,0,none⟩:=by rw [v1] at X0; cases X0; rfl
 have Y2:k2 = [vU y4]:=z3; subst Y2
 refine Rv 14 b0 rfl d0 (fun _=>Bf 1 (q0.toNat) rfl X0 rfl g3 z1)<|bk h fun z4 Y3 h=>BJ (i:=15) (rk b0) (RO.acts (m' :=65535) (sk b0) rfl rfl .plain (Acts.set (α:=UInt64) (i:=q0.toNat) Y3 C0 v1 (fun _=>.hd) V0 rfl rfl rfl rfl rfl rfl) (fun j5 ⟨p2,v2,A2,P2⟩=>?_))
 refine BJ (i:=16) (rk b0) (RO.val (m' :=131071) (sk b0) rfl .plain rfl (Bo rfl) ?_)
 refine AN (dk b0)<|Aw<|Am<|Ac rfl<|bk h fun t4 H3 h=>Ab (FV.subc (i:=q0) (j:=1) rfl rfl H3)<|Ag rfl<|Aa<|t2 (j1.2,t4,z4,p2) v2 (Tt z2 A2) P2 h
 refine Ba rfl ?_
 have h:=b3 _ h
 try dsimp only at h
 refine Ae<|Ac rfl<|Ac rfl<|Ao .plain rfl (jA g0 (vU g0) C0 dH (e1 rfl)) fun k5 X1 I0 B2=>?_
 have Q0:=Bw I0 .hd
 have C2:=Bx I0 .hd
 refine bk h fun B4 c4 h=>jE (bd 166) rfl (e2 rfl rfl) (fun p q=>ay_c n (Q0.hL hL q) (Ah (By (α:=UInt64) (v:=(vS X1 1)) (xs:=([g0]:List UInt64)) Q0 L (Bg (α:=UInt64) I0 .hd (jC g0 (vU g0) I0 L rfl) hL)) q) c4) rfl fun p5 Z4 I2 ⟨F1,hu_,A3⟩=>?_
 subst hu_
 obtain ⟨R0,D2⟩:=Q0.agr I2
 refine Ab (FV.field1 (cs:=[.bool B4.fc,F1]) (off:=1) (m:=1) rfl rfl rfl rfl)<|Ag rfl<|Ag rfl<|Aa<|Ar rfl ?_
 have J0:=Bw R0 .hd
 have E2:=Bx R0 .hd
 have B3:=By (α:=UInt64) (v:=(.slice (some ⟨c0,0,none⟩) ((a0.length:Nat):Int).toNat ((a0.length:Nat):Int).toNat)) (xs:=z0) J0 L (Bg (α:=UInt64) R0 .hd (AO V0 (Tt B2 (Tt C2 D2))) hL)
 refine Au hb0 func163 rfl (.cons (.tmp rfl) (.cons (.tmp rfl) .nil)) rfl ?_
 cases h
 exact ⟨J0.ag,fun p q=>⟨(.slice (some ⟨c0,0,none⟩) ((a0.length:Nat):Int).toNat ((a0.length:Nat):Int).toNat),F1,rfl,J0.kd B3 q,J0.kd (Af A3 E2) q⟩⟩
 refine Aq<|Ae<|Ac rfl<|Ag rfl<|Aa<|Aj<|Ae<|Ac rfl<|bk h fun M1 d4 h=>Bj (vI M1) (bd 187) rfl (e1 rfl) (fun p q=>cK_c n (t0.hL0 hL q) (t0.k0 h0_0 q) d4) rfl<|Ac rfl<|bk h fun P1 g4 h=>Bj (vI P1) (bd 187) rfl (e1 rfl) (fun p q=>cK_c n (t0.hL0 hL q) (t0.k0 h1_0 q) g4) rfl<|bk h fun u4 I3 h=>Ab (FV.subc (i:=M1) (j:=P1) rfl rfl I3)<|Ag rfl<|Aa<|Av ?_
 obtain ⟨W4,v3,c3⟩:=ao h
 refine BR (α:=(List UInt64) × Int × (List UInt64) × Value × (List Value)) (fun ⟨F0,s0,p0,A0,x0⟩=>[(1,v1_0),(4,(.slice (some ⟨c0,0,none⟩) ((a0.length:Nat):Int).toNat ((a0.length:Nat):Int).toNat)),(5,A0),(8,vI s0)]) (fun ⟨F0,s0,p0,A0,x0⟩=>[rr w 30 UInt64 (.slice (some ⟨c0,0,none⟩) ((a0.length:Nat):Int).toNat ((a0.length:Nat):Int).toNat) p0.length x0]) (fun ⟨F0,s0,p0,A0,x0⟩ c1=>Rep.R c1 (bl [rr w 30 UInt64 (.slice (some ⟨c0,0,none⟩) ((a0.length:Nat):Int).toNat ((a0.length:Nat):Int).toNat) p0.length x0] ++ L) [A0] F0/\Cells c1 (bl [rr w 30 UInt64 (.slice (some ⟨c0,0,none⟩) ((a0.length:Nat):Int).toNat ((a0.length:Nat):Int).toNat) p0.length x0] ++ L) x0 p0) (fun ⟨F0,s0,p0,A0,x0⟩=>(F0,s0,p0)) (a0,u4,g1,v0_0,(List.replicate ((a0.length:Nat):Int).toNat [vW 0]).flatten) v3 t0 ⟨(AG h0_0 t0),u1⟩ ?_
 rintro F4 ⟨F0,s0,p0,A0,x0⟩ c1 u2 H0 F2 ⟨C1,W0⟩ h
 unfold bt_l2 at h
 try dsimp only at h
 refine Aj<|Ae<|Ac rfl<|Ab (FV.geq (i:=s0) (j:=0) rfl rfl)<|Aa<|AW rfl h (fun c2 h=>?_) (fun c2 h=>?_)
 refine Aq<|Aj<|Av<|Ae<|Ac rfl<|Ac rfl<|bk h fun v5 j4 h=>jE (bd 188) rfl (e2 rfl rfl) (fun p q=>cB_c n (H0.hL hL q) (H0.km h1_0 q) j4) rfl fun q5 b5 J2 ⟨X4,hu_,D1⟩=>?_
 subst hu_
 obtain ⟨D0,M0⟩:=H0.agr J2
 refine Ag rfl<|Aa<|Ae<|Ac rfl<|Ac rfl<|bk h fun Q1 k4 h=>?_
 have Z0:=Af C1 M0
 refine Bj (vI Q1) (bd 171) rfl (e2 rfl rfl) (fun p q=>bJ_c n (D0.hL0 hL q) (D0.kd Z0 q) (D0.kd D1 q) k4) rfl<|Ab (FV.geq (i:=Q1) (j:=0) rfl rfl)<|Aa<|MX.jf (α:=(List UInt64) × (List UInt64) × Value × (List Value)) (fun ⟨G0,v0,E0,y0⟩=>[(1,v1_0),(4,(.slice (some ⟨c0,0,none⟩) ((a0.length:Nat):Int).toNat ((a0.length:Nat):Int).toNat)),(5,E0),(8,vI s0)]) (fun ⟨G0,v0,E0,y0⟩=>[rr w 30 UInt64 (.slice (some ⟨c0,0,none⟩) ((a0.length:Nat):Int).toNat ((a0.length:Nat):Int).toNat) v0.length y0]) (fun ⟨G0,v0,E0,y0⟩ d1=>Rep.R d1 (bl [rr w 30 UInt64 (.slice (some ⟨c0,0,none⟩) ((a0.length:Nat):Int).toNat ((a0.length:Nat):Int).toNat) v0.length y0] ++ L) [E0] G0/\Cells d1 (bl [rr w 30 UInt64 (.slice (some ⟨c0,0,none⟩) ((a0.length:Nat):Int).toNat ((a0.length:Nat):Int).toNat) v0.length y0] ++ L) y0 v0) (fun ⟨G0,v0,E0,y0⟩=>(G0,v0)) D0 h ?_ ?_
 rintro ⟨G0,v0,E0,y0⟩ d1 x2 G2 ⟨C3,Q2⟩ h
 try dsimp only at h
 refine Aw<|Am<|Ac rfl<|bk h fun v4 J3 h=>Ab (FV.subc (i:=s0) (j:=1) rfl rfl J3)<|Ag rfl<|Aa<|u2 (G0,v4,v0,E0,y0) x2 (Tt F2 (Tt M0 G2)) ⟨C3,Q2⟩ h
 intro G4 k1 h
 try dsimp only at h
 refine AW rfl h (fun d2 h=>?_) (fun d2 h=>?_)
 refine Ae<|Ac rfl<|Ac rfl<|bk h fun x5 p4 h=>jE (bd 172) rfl (e2 rfl rfl) (fun p q=>bT_c n (D0.hL hL q) (Ah Z0 q) (Ah D1 q) p4) rfl fun s5 c5 K2 ⟨Y4,hu_,D3⟩=>?_
 subst hu_
 obtain ⟨p1,q1⟩:=D0.agr K2
 refine bk h fun R1 q4 h=>jE (bd 166) rfl (e2 rfl rfl) (fun p q=>ay_c n (p1.hL hL q) (Ah D3 q) q4) rfl fun t5 d5 M2 ⟨G1,hu_,E3⟩=>?_
 subst hu_
 obtain ⟨U0,s1⟩:=p1.agr M2
 refine Ab (FV.field1 (cs:=[.bool R1.fc,G1]) (off:=1) (m:=1) rfl rfl rfl rfl)<|Ag rfl<|Aa<|du 10 fun j0 u0=>Rv 0 j0 rfl u0 (fun _=>Al rfl)<|Rv 1 j0 rfl u0 (fun _=>Al rfl)<|bk h fun b1 K3 h=>Rv 2 j0 rfl u0 (fun _=>FV.quoc (i:=s0) (j:=64) rfl rfl K3)<|bk h fun K1 W3 h=>?_
 obtain ⟨y1,X3⟩:=aV W3
 have B1:=AO W0 (Tt M0 (Tt q1 s1))
 obtain ⟨V1,M4,P0,Y0,q2,F3,t3⟩:=St.nth (α:=UInt64) U0 .hd B1 X3
 obtain ⟨Y1,P4,x1⟩:=BE (α:=UInt64) U0 .hd Y0
 obtain rfl:V1 = ⟨Y1,0,none⟩:=by rw [x1] at P0; cases P0; rfl
 have Z2:q2 = [vU K1]:=F3; subst Z2
 refine Rv 3 j0 rfl u0 (fun _=>Bf 1 (b1.toNat) rfl P0 rfl y1 Y0)<|Rx 4 1792 j0 rfl u0 (Bn rfl (t3 0 _ rfl))<|Rv 5 j0 rfl u0 (fun _=>Al rfl)<|bk h fun x4 M3 h=>Rv 6 j0 rfl u0 (fun _=>FV.remc (i:=s0) (j:=64) rfl rfl M3)<|bk h fun s4 p3 h=>Rv 7 j0 rfl u0 (fun _=>FV.shlI (a:=(1:UInt64)) (i:=x4) rfl rfl p3)<|Rv 8 j0 rfl u0 (fun _=>FV.orU (a:=K1) (b:=shlU (1:UInt64) s4) rfl rfl)<|Rv 9 j0 rfl u0 (fun _=>Bf 1 (b1.toNat) rfl P0 rfl y1 Y0)<|bk h fun A4 Z3 h=>BJ (i:=10) (rk j0) (RO.acts (m' :=2047) (sk j0) rfl rfl .plain (Acts.set (α:=UInt64) (i:=b1.toNat) Z3 U0 x1 (fun _=>.hd) B1 rfl rfl rfl rfl rfl rfl) (fun u5 ⟨s2,y2,t1,R2⟩=>?_))
 refine AN (dk j0)<|k1 (R1.fk,A4,G1,s2) y2 (Tt q1 (Tt s1 t1)) ⟨(Af E3 t1),R2⟩ h
 refine Aq<|k1 (F0,p0,A0,x0) D0 (BO _ _) ⟨Z0,(AO W0 M0)⟩ h
 refine Ba rfl ?_
 have h:=c3 _ h
 try dsimp only at h
 refine Ae<|Ac rfl<|Ac rfl<|Ag rfl<|Ag rfl<|Aa<|Ar rfl ?_
 have K0:=Bw H0 .hd
 have H2:=Bx H0 .hd
 have G3:=By (α:=UInt64) (v:=(.slice (some ⟨c0,0,none⟩) ((a0.length:Nat):Int).toNat ((a0.length:Nat):Int).toNat)) (xs:=p0) K0 L (Bg (α:=UInt64) H0 .hd W0 hL)
 refine Au hb0 func163 rfl (.cons (.tmp rfl) (.cons (.tmp rfl) .nil)) rfl ?_
 cases h
 exact ⟨K0.ag,fun p q=>⟨(.slice (some ⟨c0,0,none⟩) ((a0.length:Nat):Int).toNat ((a0.length:Nat):Int).toNat),A0,rfl,K0.kd G3 q,K0.kd (Af C1 H2) q⟩⟩
def bn_l1 (n:Nat) (d0:(List UInt64) × (List UInt64) -> Option (List UInt64)):(List UInt64) × (List UInt64) -> Option (List UInt64)
  | (c0,b0)=>(if 0 < b0.length then (bt_p n c0 b0).bind fun g0=>d0 (b0,g0.2) else some c0)
def bn_p (n:Nat) (a0:Tf) (a1:Tf):Option Tf:=
  Option.bind (am (bn_l1 n) n (a0.fk,a1.fk)) (fun b0=>some (⟨false,b0⟩:Tf))
theorem bn_c (n:Nat) {L w} (hL:hl L w) (a0:Tf) {v0_1:Value} (h0_1:Rep.R w L [v0_1] a0.fk) (a1:Tf) {v1_1:Value} (h1_1:Rep.R w L [v1_1] a1.fk)  {r:Tf} (h:bn_p n a0 a1 = some r) :
 Cl 133 #[.agg #[.bool a0.fc,v0_1],.agg #[.bool a1.fc,v1_1]] w (ai w fun w' u=>∃ v0_1:Value,u = .agg #[.bool r.fc,v0_1]/\Rep.R w' L [v0_1] r.fk):=by
 unfold bn_p at h
 refine AL func133 rfl rfl rfl fun _ cs0 hb0=>Ae<|RG.bx (AK w) rfl rfl fun s1 W0 C0 Z0=>RG.bx C0 rfl rfl fun u1 X0 D0 b1=>RG.nl [.bool false,vN] D0 fun v1 p0 t0 c1=>Aa<|Aj<|du 6 fun d0 j0=>Rv 0 d0 rfl j0 (fun _=>Bh 1 rfl)<|Rx 1 48 d0 rfl j0 (Bn rfl ((t0.memA .t2) 1 _ rfl))<|Rv 2 d0 rfl j0 (fun _=>Bh 1 rfl)<|Rx 3 32 d0 rfl j0 (Bn rfl ((t0.memA .t1) 1 _ rfl))<|Rv 4 d0 rfl j0 (fun _=>Bo rfl)<|Rv 5 d0 rfl j0 (fun _=>Bo rfl)<|AN (dk d0)<|Aj<|Av ?_
 obtain ⟨u0,d1⟩:=AB t0 (.a0 .done)
 obtain ⟨k1,J0,I0⟩:=ao h
 refine BR (α:=(List UInt64) × (List UInt64) × Value × Value) (fun ⟨k0,c0,b0,g0⟩=>[(4,vP p0),(5,b0),(6,g0)]) (fun ⟨k0,c0,b0,g0⟩=>[.cells p0 [.bool false,vN] 107]) (fun ⟨k0,c0,b0,g0⟩ y0=>Rep.R y0 (bl [.cells p0 [.bool false,vN] 107] ++ L) [b0] k0/\Rep.R y0 (bl [.cells p0 [.bool false,vN] 107] ++ L) [g0] c0) (fun ⟨k0,c0,b0,g0⟩=>(k0,c0)) (a0.fk,a1.fk,v0_1,v1_1) J0 u0 ⟨(AG h0_1 u0),(AG h1_1 u0)⟩ ?_
 rintro V0 ⟨k0,c0,b0,g0⟩ y0 B0 v0 F0 ⟨q0,s0⟩ h
 unfold bn_l1 at h
 try dsimp only at h
 refine Aj<|Ae<|Ac rfl ?_
 have g1:c0.length <= 281474976710656:=AX s0
 refine Ab (AY (xs:=c0) underlying105 rfl s0)<|Ab (FV.gtrN (i:=c0.length) (j:=0) rfl rfl)<|Aa<|AW rfl h (fun A0 h=>?_) (fun A0 h=>?_)
 refine Aq<|Av<|Ae<|Ac rfl<|Ac rfl<|bk h fun R0 P0 h=>jE (bd 163) rfl (e2 rfl rfl) (fun p q=>bt_c n (v0.hL hL q) (Ah q0 q) (Ah s0 q) P0) rfl fun x1 q1 H0 ⟨p1,Q0,hu_,j1,K0⟩=>?_
 subst hu_
 obtain ⟨E0,z0⟩:=v0.agr H0
 refine Ac rfl<|Ab (Ai rfl rfl)<|Ab (Ai rfl rfl)<|Ag rfl<|Ag rfl<|Aa<|Am<|Ac rfl<|Ac rfl<|Ag rfl<|Ag rfl<|Aa<|Aw<|B0 (c0,R0.2,g0,Q0) E0 (Tt F0 z0) ⟨(Af s0 z0),K0⟩ h
 refine Ba rfl ?_
 have h:=I0 _ h
 try dsimp only at h
 refine Ae<|Ac rfl ?_
 obtain ⟨U0,Y0,M0,_⟩:=Bi q0
 refine Ab (AS (vs:=[b0]) (u:=.agg #[.bool false,b0]) (e1 rfl) (fun p=>by rw [M0]; try kernel_rfl))<|AT [.bool false,b0] v0 .hd (o2 rfl (Az q0)) fun y1 x0 G0=>Aa<|Ar rfl<|Au hb0 func133 rfl (.cons (.many (cs:=[.bool false,b0]) rfl rfl (x0.memA .hd)) .nil) rfl ?_
 cases h
 exact ⟨x0.ag,fun p q=>⟨b0,rfl,x0.kd (Af q0 G0) q⟩⟩
def bA_p (n:Nat) (a0:Tf):Option Tf:=
  (ay_p n (!a0.fc) a0.fk).bind fun b0=>some b0
theorem bA_c (n:Nat) {L w} (hL:hl L w) (a0:Tf) {v0_1:Value} (h0_1:Rep.R w L [v0_1] a0.fk)  {r:Tf} (h:bA_p n a0 = some r) :
 Cl 145 #[.agg #[.bool a0.fc,v0_1]] w (ai w fun w' u=>∃ v0_1:Value,u = .agg #[.bool r.fc,v0_1]/\Rep.R w' L [v0_1] r.fk):=by
 unfold bA_p at h
 refine AL func145 rfl rfl rfl fun _ cs0 hb0=>Ae<|RG.bx (AK w) rfl rfl fun B0 u0 k0 x0=>RG.nl [.bool false,vN] k0 fun C0 v0 b0 y0=>Aa<|Ae<|Bk 0 rfl<|Bd rfl ((b0.memA .t1) 0 _ rfl)<|Ab (Bz rfl)<|Bk 1 rfl<|Bd rfl ((b0.memA .t1) 1 _ rfl)<|bk h fun j0 t0 h=>jE (bd 166) rfl (e2 rfl rfl) (fun p q=>ay_c n (b0.hL hL q) (b0.km h0_1 q) t0) rfl fun D0 A0 s0 ⟨d0,hu_,g0⟩=>?_
 subst hu_
 obtain ⟨p0,z0⟩:=b0.agr s0
 refine AT [.bool j0.fc,d0] p0 .hd (o2 rfl (Az g0)) fun E0 c0 q0=>Aa<|Ar rfl<|Au hb0 func145 rfl (.cons (.many (cs:=[.bool j0.fc,d0]) rfl rfl (c0.memA .hd)) .nil) rfl ?_
 cases h
 exact ⟨c0.ag,fun p q=>⟨d0,rfl,c0.kd (Af g0 q0) q⟩⟩
def ck_l1 (_n:Nat) (xs4:List UInt64) (xs7:List UInt64) (k0:UInt64 × Nat × (List UInt64) -> Option ((List UInt64) × UInt64)):UInt64 × Nat × (List UInt64) -> Option ((List UInt64) × UInt64)
  | (g0,b0,c0)=>(if b0 < xs4.length then (xs4[b0]?).bind fun q0=>jn (fun p0=>(add64 q0 p0 g0).bind fun j0=>(c0[b0]?).bind fun _x199=>(put c0 ((b0:Nat):Int) j0.1).bind fun t0=>k0 (j0.2,b0 + 1,t0)) (fun d0=>(if b0 < xs7.length then (xs7[b0]?).bind fun s0=>d0 s0 else d0 (0:UInt64))) else some (c0,g0))
def ck_p (n:Nat) (a0:List UInt64) (a1:List UInt64):Option (List UInt64):=
  jn (fun (xs4,xs7)=>(mk ((xs4.length + 1:Nat):Int) (0:UInt64)).bind fun g0=>Option.bind (am (ck_l1 n xs4 xs7) n (0,0,g0)) (fun (c0,d0)=>(c0[xs4.length]?).bind fun _x229=>(put c0 ((xs4.length:Nat):Int) d0).bind fun j0=>some j0)) (fun b0=>(if a0.length < a1.length then b0 (a1,a0) else b0 (a0,a1)))
theorem ck_c (n:Nat) {L w} (hL:hl L w) {a0:List UInt64} {v0_0:Value} (h0_0:Rep.R w L [v0_0] a0) {a1:List UInt64} {v1_0:Value} (h1_0:Rep.R w L [v1_0] a1)  {r:List UInt64} (h:ck_p n a0 a1 = some r) :
 Cl 170 #[v0_0,v1_0] w (ai w fun w' u=>∃ v0_0:Value,u = v0_0/\Rep.R w' L [v0_0] r):=by
 unfold ck_p at h
 have hS0:=AK w
 refine AL func170 rfl rfl rfl fun _ cs0 hb0=>Ae<|Ag rfl<|Aa<|Aj<|Ae<|Ac rfl ?_
 have hl1:a0.length <= 281474976710656:=AX h0_0
 refine Ab (AY (xs:=a0) underlying105 rfl h0_0)<|Ac rfl ?_
 have hl2:a1.length <= 281474976710656:=AX h1_0
 refine Ab (AY (xs:=a1) underlying105 rfl h1_0)<|Ab (AU (i:=a0.length) (j:=a1.length) rfl rfl)<|Aa<|MX.jf (α:=(List UInt64) × (List UInt64) × Value × Value) (fun ⟨xs4,xs7,v5,v8⟩=>[(0,v5),(1,v8)]) (fun ⟨xs4,xs7,v5,v8⟩=>[]) (fun ⟨xs4,xs7,v5,v8⟩ wx9=>Rep.R wx9 (bl [] ++ L) [v5] xs4/\Rep.R wx9 (bl [] ++ L) [v8] xs7) (fun ⟨xs4,xs7,v5,v8⟩=>(xs4,xs7)) hS0 h ?_ ?_
 rintro ⟨xs4,xs7,v5,v8⟩ wx9 q1 D2 ⟨hr6,hr9⟩ h
 try dsimp only at h
 refine Ae<|Ac rfl ?_
 have G2:xs4.length <= 281474976710656:=AX hr6
 refine Ab (AY (xs:=xs4) underlying105 rfl hr6)<|Ab (Bc (i:=xs4.length) (j:=1) rfl rfl (by omega))<|bk h fun R0 M0 h=>Ao .plain rfl (Does.mk (α:=UInt64) M0 q1 dH rfl) fun M2 j0 E0 s0=>Ag rfl<|Aa<|Ae<|Ag rfl<|Aa<|Aj<|Ae<|Ac rfl<|Ab (AY (xs:=xs4) underlying105 rfl (Af hr6 s0))<|Ac rfl<|Aa<|Av ?_
 obtain ⟨K2,J1,E1⟩:=ao h
 refine BR (α:=UInt64 × Nat × (List UInt64) × (List Value)) (fun ⟨g0,b0,c0,d0⟩=>[(0,v5),(1,v8),(5,(.slice (some ⟨j0,0,none⟩) ((xs4.length + 1:Nat):Int).toNat ((xs4.length + 1:Nat):Int).toNat)),(6,vU g0),(21,v5),(22,vI ((xs4.length:Nat):Int)),(23,vI ((b0:Nat):Int))]) (fun ⟨g0,b0,c0,d0⟩=>[rr w 30 UInt64 (.slice (some ⟨j0,0,none⟩) ((xs4.length + 1:Nat):Int).toNat ((xs4.length + 1:Nat):Int).toNat) c0.length d0]) (fun ⟨g0,b0,c0,d0⟩ P0=>Cells P0 (bl [rr w 30 UInt64 (.slice (some ⟨j0,0,none⟩) ((xs4.length + 1:Nat):Int).toNat ((xs4.length + 1:Nat):Int).toNat) c0.length d0] ++ L) d0 c0) (fun ⟨g0,b0,c0,d0⟩=>(g0,b0,c0)) (0,0,R0,(List.replicate ((xs4.length + 1:Nat):Int).toNat [vW 0]).flatten) J1 E0 (AJ (cs:=(List.replicate ((xs4.length + 1:Nat):Int).toNat [vW 0]).flatten) (xs:=R0) E0 L (Cells.mk M0 rfl)) ?_
 rintro t2 ⟨g0,b0,c0,d0⟩ P0 p1 k0 q0 x0 h
 unfold ck_l1 at h
 try dsimp only at h
 refine Ae<|Ab (AU (i:=b0) (j:=xs4.length) rfl rfl)<|Aa<|Aj<|AW rfl h (fun Y0 h=>?_) (fun Y0 h=>?_)
 refine Aq<|Aj<|Av<|Ae<|Ac rfl<|bk h fun B0 U1 h=>?_
 obtain ⟨p2,v2,y1,F1,c1,K1,H1⟩:=Be (Af hr6 (Tt s0 q0)) U1
 have z1:c1 = [vU B0]:=K1; subst z1
 refine Ab (Bf 1 b0 rfl y1 rfl rfl F1)<|Bd rfl (H1 0 _ rfl)<|Ag rfl<|Ag rfl<|Aa<|Ae<|Ag rfl<|Aa<|Aj<|Ae<|Ac rfl<|Ac rfl ?_
 have A0:=Af hr9 (Tt s0 q0)
 have H2:xs7.length <= 281474976710656:=AX A0
 refine Ab (AY (xs:=xs7) underlying105 rfl A0)<|Ab (AU (i:=b0) (j:=xs7.length) rfl rfl)<|Aa<|MX.jo (α:=UInt64) (fun p0=>[(0,v5),(1,v8),(5,(.slice (some ⟨j0,0,none⟩) ((xs4.length + 1:Nat):Int).toNat ((xs4.length + 1:Nat):Int).toNat)),(6,vU g0),(21,v5),(22,vI ((xs4.length:Nat):Int)),(23,vI ((b0:Nat):Int)),(7,vI ((b0:Nat):Int)),(8,vU B0),(9,vU p0)]) (fun p0=>[rr w 30 UInt64 (.slice (some ⟨j0,0,none⟩) ((xs4.length + 1:Nat):Int).toNat ((xs4.length + 1:Nat):Int).toNat) c0.length d0]) (fun p0=>p0) k0 h ?_ ?_
 rintro p0 R2 t0 F0 h
 try dsimp only at h
 refine Am<|Ac rfl<|Ac rfl<|Ac rfl<|Ac rfl<|Ac rfl<|bk h fun k2 b2 h=>Ab (FV.add64 (a:=B0) (b:=p0) (c:=g0) func191 rfl rfl rfl rfl rfl rfl rfl b2)<|Ac rfl<|Ab (Ai rfl rfl)<|Ab (Ai rfl rfl)<|bk h fun c2 V1 h=>?_
 have K0:=AO x0 F0
 obtain ⟨U0,x2,y0,I0,d1,M1,I2⟩:=St.nth (α:=UInt64) t0 .hd K0 V1
 obtain ⟨W0,y2,G0⟩:=BE (α:=UInt64) t0 .hd I0
 obtain rfl:U0 = ⟨W0,0,none⟩:=by rw [G0] at y0; cases y0; rfl
 have A1:d1 = [vU c2]:=M1; subst A1
 refine Ab (Bf 1 b0 rfl y0 rfl rfl I0)<|bk h fun g2 Y1 h=>RG.acts' .plain (Acts.set (α:=UInt64) (i:=b0) Y1 t0 G0 (fun _=>.hd) K0 rfl rfl rfl rfl rfl rfl) fun P2 ⟨g1,s1,u1,v1⟩=>Ag rfl<|Aa<|Aw<|Am<|Ab (Bc (i:=b0) (j:=1) rfl rfl (by omega))<|Ac rfl<|Aa<|p1 (k2.2,b0 + 1,g2,g1) s1 (Tt q0 (Tt F0 u1)) v1 h
 intro u2 D0 h
 try dsimp only at h
 refine AW rfl h (fun Z0 h=>?_) (fun Z0 h=>?_)
 refine Am<|Ac rfl<|Ac rfl<|bk h fun Q0 W1 h=>?_
 obtain ⟨q2,z2,B1,G1,j1,P1,I1⟩:=Be A0 W1
 have C1:j1 = [vU Q0]:=P1; subst C1
 refine Ab (Bf 1 b0 rfl B1 rfl rfl G1)<|Bd rfl (I1 0 _ rfl)<|Ag rfl<|Aa<|D0 Q0 k0 (BO _ _) h
 refine Aq<|D0 (0:UInt64) k0 (BO _ _) h
 refine Ba rfl ?_
 have h:=E1 _ h
 try dsimp only at h
 refine Ae<|Ac rfl<|Ac rfl<|Ab (AY (xs:=xs4) underlying105 rfl (Af hr6 (Tt s0 q0)))<|Ac rfl<|bk h fun d2 X1 h=>?_
 obtain ⟨V0,A2,z0,J0,k1,Q1,J2⟩:=St.nth (α:=UInt64) k0 .hd x0 X1
 obtain ⟨X0,B2,H0⟩:=BE (α:=UInt64) k0 .hd J0
 obtain rfl:V0 = ⟨X0,0,none⟩:=by rw [H0] at z0; cases z0; rfl
 have D1:k1 = [vU d2]:=Q1; subst D1
 refine Ab (Bf 1 (xs4.length) rfl z0 rfl rfl J0)<|bk h fun j2 Z1 h=>RG.acts' .plain (Acts.set (α:=UInt64) (i:=xs4.length) Z1 k0 H0 (fun _=>.hd) x0 rfl rfl rfl rfl rfl rfl) fun Q2 ⟨C2,u0,E2,x1⟩=>Aa<|Ae<|Ac rfl<|Ag rfl<|Aa<|Ar rfl ?_
 have v0:=Bw u0 .hd
 have F2:=Bx u0 .hd
 have R1:=By (α:=UInt64) (v:=(.slice (some ⟨j0,0,none⟩) ((xs4.length + 1:Nat):Int).toNat ((xs4.length + 1:Nat):Int).toNat)) (xs:=j2) v0 L (Bg (α:=UInt64) u0 .hd x1 hL)
 refine Bb hb0 func170 rfl rfl ?_
 cases h
 exact ⟨v0.ag,fun p q=>⟨(.slice (some ⟨j0,0,none⟩) ((xs4.length + 1:Nat):Int).toNat ((xs4.length + 1:Nat):Int).toNat),rfl,v0.kd R1 q⟩⟩
 intro s2 C0 h
 try dsimp only at h
 refine AW rfl h (fun b1 h=>?_) (fun b1 h=>?_)
 refine Am<|Ac rfl<|Ac rfl<|Ag rfl<|Ag rfl<|Aa<|C0 (a1,a0,v1_0,v0_0) hS0 (BO _ _) ⟨h1_0,h0_0⟩ h
 refine Aq<|C0 (a0,a1,v0_0,v1_0) hS0 (BO _ _) ⟨h0_0,h1_0⟩ h
def bI_p (n:Nat) (a0:Tf) (a1:Tf):Option Tf:=
  (if (a0.fc == a1.fc) = true then (ck_p n a0.fk a1.fk).bind fun j0=>(ay_p n a0.fc j0).bind fun k0=>some k0 else (bJ_p n a0.fk a1.fk).bind fun p0=>jn (fun (_q58,d0,c0,g0)=>(bT_p n g0 d0).bind fun q0=>(ay_p n c0 q0).bind fun s0=>some s0) (fun b0=>(if p0 < 0 then b0 (a0.fc,a0.fk,a1.fc,a1.fk) else b0 (a1.fc,a1.fk,a0.fc,a0.fk))))
theorem bI_c (n:Nat) {L w} (hL:hl L w) (a0:Tf) {v0_1:Value} (h0_1:Rep.R w L [v0_1] a0.fk) (a1:Tf) {v1_1:Value} (h1_1:Rep.R w L [v1_1] a1.fk)  {r:Tf} (h:bI_p n a0 a1 = some r) :
 Cl 141 #[.agg #[.bool a0.fc,v0_1],.agg #[.bool a1.fc,v1_1]] w (ai w fun w' u=>∃ v0_1:Value,u = .agg #[.bool r.fc,v0_1]/\Rep.R w' L [v0_1] r.fk):=by
 unfold bI_p at h
 refine AL func141 rfl rfl rfl fun _ cs0 hb0=>Ae<|RG.bx (AK w) rfl rfl fun Y1 y0 X0 F1=>RG.bx X0 rfl rfl fun Z1 z0 Y0 G1=>RG.nl [.bool false,vN] Y0 fun b2 A0 b0 H1=>Aa<|Aj<|Ae<|Bk 0 rfl<|Bd rfl ((b0.memA .t2) 0 _ rfl)<|Bk 0 rfl<|Bd rfl ((b0.memA .t1) 0 _ rfl)<|Ab (FV.eqlB (a:=a0.fc) (b:=a1.fc) underlying4 rfl rfl)<|Aa<|MX.ifb rfl h (fun V0 h=>?_) (fun V0 h=>?_)
 refine Aj<|du 8 fun c0 s0=>Rv 0 c0 rfl s0 (fun _=>Bh 0 rfl)<|Rx 1 384 c0 rfl s0 (Bn rfl ((b0.memA .t2) 0 _ rfl))<|Rv 2 c0 rfl s0 (fun _=>Bh 1 rfl)<|Rx 3 448 c0 rfl s0 (Bn rfl ((b0.memA .t2) 1 _ rfl))<|Rv 4 c0 rfl s0 (fun _=>Bh 1 rfl)<|Rx 5 448 c0 rfl s0 (Bn rfl ((b0.memA .t1) 1 _ rfl))<|bk h fun u2 z1 h=>AZ 6 127 c0 rfl .plain (bd 170) rfl (e2 rfl rfl) (fun p q=>ck_c n (b0.hL hL q) (b0.km h0_1 q) (b0.km h1_1 q) z1) rfl fun c2 U1 k1 ⟨Q1,hu_,u1⟩=>?_
 subst hu_
 obtain ⟨I0,I1⟩:=b0.agr k1
 refine bk h fun Q0 A1 h=>AZ 7 255 c0 rfl .plain (bd 166) rfl (e2 rfl rfl) (fun p q=>ay_c n (I0.hL hL q) (Ah u1 q) A1) rfl fun d2 V1 p1 ⟨E0,hu_,M0⟩=>?_
 subst hu_
 obtain ⟨Z0,J1⟩:=I0.agr p1
 refine BC 8 511 c0 rfl rfl .plain (AD (news:=[.bool Q0.fc,E0]) Z0 .hd rfl rfl rfl rfl rfl rfl (o2 rfl (Az M0))) fun g2 C0 d1=>AN (dk c0)<|Ar rfl<|Au hb0 func141 rfl (.cons (.many (cs:=[.bool Q0.fc,E0]) rfl rfl (C0.memA .hd)) .nil) rfl ?_
 cases h
 exact ⟨C0.ag,fun p q=>⟨E0,rfl,C0.kd (Af M0 d1) q⟩⟩
 refine Aq<|Aj<|Ae<|Bk 1 rfl<|Bd rfl ((b0.memA .t2) 1 _ rfl)<|Bk 1 rfl<|Bd rfl ((b0.memA .t1) 1 _ rfl)<|bk h fun R0 B1 h=>Bj (vI R0) (bd 171) rfl (e2 rfl rfl) (fun p q=>bJ_c n (b0.hL0 hL q) (b0.k0 h0_1 q) (b0.k0 h1_1 q) B1) rfl<|Ab (FV.lss (i:=R0) (j:=0) rfl rfl)<|Aa<|MX.jf (α:=Bool × (List UInt64) × Bool × (List UInt64) × Value × Value) (fun ⟨g0,u0,j0,v0,p0,q0⟩=>[(2,vP y0),(3,vP z0),(4,vP A0)]) (fun ⟨g0,u0,j0,v0,p0,q0⟩=>[.cells A0 [.bool false,vN] 107,.cells z0 [.bool g0,p0] 107,.cells y0 [.bool j0,q0] 107]) (fun ⟨g0,u0,j0,v0,p0,q0⟩ G0=>Rep.R G0 (bl [.cells A0 [.bool false,vN] 107,.cells z0 [.bool g0,p0] 107,.cells y0 [.bool j0,q0] 107] ++ L) [p0] u0/\Rep.R G0 (bl [.cells A0 [.bool false,vN] 107,.cells z0 [.bool g0,p0] 107,.cells y0 [.bool j0,q0] 107] ++ L) [q0] v0) (fun ⟨g0,u0,j0,v0,p0,q0⟩=>(g0,u0,j0,v0)) b0 h ?_ ?_
 rintro ⟨g0,u0,j0,v0,p0,q0⟩ G0 x0 K1 ⟨v1,x1⟩ h
 try dsimp only at h
 refine Aj<|du 8 fun d0 t0=>Rv 0 d0 rfl t0 (fun _=>Bh 0 rfl)<|Rx 1 384 d0 rfl t0 (Bn rfl ((x0.memA .t2) 0 _ rfl))<|Rv 2 d0 rfl t0 (fun _=>Bh 1 rfl)<|Rx 3 448 d0 rfl t0 (Bn rfl ((x0.memA .t2) 1 _ rfl))<|Rv 4 d0 rfl t0 (fun _=>Bh 1 rfl)<|Rx 5 448 d0 rfl t0 (Bn rfl ((x0.memA .t1) 1 _ rfl))<|bk h fun v2 C1 h=>AZ 6 127 d0 rfl .plain (bd 172) rfl (e2 rfl rfl) (fun p q=>bT_c n (x0.hL hL q) (Ah x1 q) (Ah v1 q) C1) rfl fun j2 W1 q1 ⟨R1,hu_,y1⟩=>?_
 subst hu_
 obtain ⟨J0,M1⟩:=x0.agr q1
 refine bk h fun U0 D1 h=>AZ 7 255 d0 rfl .plain (bd 166) rfl (e2 rfl rfl) (fun p q=>ay_c n (J0.hL hL q) (Ah y1 q) D1) rfl fun k2 X1 s1 ⟨F0,hu_,P0⟩=>?_
 subst hu_
 obtain ⟨b1,P1⟩:=J0.agr s1
 refine BC 8 511 d0 rfl rfl .plain (AD (news:=[.bool U0.fc,F0]) b1 .hd rfl rfl rfl rfl rfl rfl (o2 rfl (Az P0))) fun p2 D0 g1=>AN (dk d0)<|Ar rfl<|Au hb0 func141 rfl (.cons (.many (cs:=[.bool U0.fc,F0]) rfl rfl (D0.memA .hd)) .nil) rfl ?_
 cases h
 exact ⟨D0.ag,fun p q=>⟨F0,rfl,D0.kd (Af P0 g1) q⟩⟩
 intro E1 H0 h
 try dsimp only at h
 refine AW rfl h (fun W0 h=>?_) (fun W0 h=>?_)
 refine Am<|Ab (AA rfl (b0.memA .t1))<|Ab (AA rfl (b0.memA .t2))<|AT [.bool a1.fc,v1_1] b0 .t2 (o2 rfl (Az (AG h1_1 b0))) fun q2 K0 j1=>AT [.bool a0.fc,v0_1] K0 .t1 (o2 rfl (Az (AG h0_1 K0))) fun s2 B0 c1=>Aa<|H0 (a0.fc,a0.fk,a1.fc,a1.fk,v0_1,v1_1) B0 (Tt j1 c1) ⟨(AG h0_1 B0),(AG h1_1 B0)⟩ h
 refine Aq<|H0 (a1.fc,a1.fk,a0.fc,a0.fk,v1_1,v0_1) b0 (BO _ _) ⟨(AG h1_1 b0),(AG h0_1 b0)⟩ h
def ce_p (n:Nat) (a0:Tf) (a1:Tf):Option (Tf × Tf):=
  (bt_p n a0.fk a1.fk).bind fun c0=>(ay_p n (!(a0.fc == a1.fc)) c0.1).bind fun d0=>(ay_p n a0.fc c0.2).bind fun b0=>(if b0.fc = true then (bI_p n b0 (⟨false,a1.fk⟩:Tf)).bind fun j0=>(bI_p n d0 (⟨(!a1.fc),([(1:UInt64)]:List UInt64)⟩:Tf)).bind fun g0=>some (g0,j0) else some (d0,b0))
theorem ce_c (n:Nat) {L w} (hL:hl L w) (a0:Tf) {v0_1:Value} (h0_1:Rep.R w L [v0_1] a0.fk) (a1:Tf) {v1_1:Value} (h1_1:Rep.R w L [v1_1] a1.fk)  {r:Tf × Tf} (h:ce_p n a0 a1 = some r) :
 Cl 169 #[.agg #[.bool a0.fc,v0_1],.agg #[.bool a1.fc,v1_1]] w (ai w fun w' u=>∃ v0_1 v1_1:Value,u = .tuple #[.agg #[.bool r.1.fc,v0_1],.agg #[.bool r.2.fc,v1_1]]/\Rep.R w' L [v0_1] r.1.fk/\Rep.R w' L [v1_1] r.2.fk):=by
 unfold ce_p at h
 refine AL func169 rfl rfl rfl fun _ cs0 hb0=>Ae<|RG.bx (AK w) rfl rfl fun x3 R2 K1 X2=>RG.bx K1 rfl rfl fun B3 U2 R1 Y2=>RG.nl [.bool false,vN] R1 fun C3 J0 U1 Z2=>RG.nl [.bool false,vN] U1 fun E3 K0 p0 b3=>Aa<|Ae<|Bk 1 rfl<|Bd rfl ((p0.memA .t3) 1 _ rfl)<|Bk 1 rfl<|Bd rfl ((p0.memA .t2) 1 _ rfl)<|bk h fun W3 G2 h=>jE (bd 163) rfl (e2 rfl rfl) (fun p q=>bt_c n (p0.hL hL q) (p0.km h0_1 q) (p0.km h1_1 q) G2) rfl fun F3 k3 u2 ⟨d3,g3,hu_,C2,D2⟩=>?_
 subst hu_
 obtain ⟨D0,c3⟩:=p0.agr u2
 refine Ac rfl<|Ab (Ai rfl rfl)<|Ab (Ai rfl rfl)<|Ag rfl<|Ag rfl<|Aa<|Aj<|du 11 fun b0 d0=>Rv 0 b0 rfl d0 (fun _=>Bh 0 rfl)<|Rx 1 7248 b0 rfl d0 (Bn rfl ((D0.memA .t3) 0 _ rfl))<|Rv 2 b0 rfl d0 (fun _=>Bh 0 rfl)<|Rx 3 7248 b0 rfl d0 (Bn rfl ((D0.memA .t2) 0 _ rfl))<|Rv 4 b0 rfl d0 (fun _=>FV.neqB (a:=a0.fc) (b:=a1.fc) underlying4 rfl rfl)<|Rv 5 b0 rfl d0 (fun _=>Al rfl)<|Rv 7 b0 rfl d0 (fun _=>Bh 0 rfl)<|Rx 8 7168 b0 rfl d0 (Bn rfl ((D0.memA .t3) 0 _ rfl))<|Rv 9 b0 rfl d0 (fun _=>Al rfl)<|bk h fun x0 H2 h=>AZ 6 1023 b0 rfl .plain (bd 166) rfl (e2 rfl rfl) (fun p q=>ay_c n (D0.hL hL q) (Ah C2 q) H2) rfl fun G3 p3 v2 ⟨t0,hu_,G0⟩=>?_
 subst hu_
 obtain ⟨s1,p2⟩:=D0.agr v2
 refine bk h fun y0 I2 h=>AZ 10 2047 b0 rfl .plain (bd 166) rfl (e2 rfl rfl) (fun p q=>ay_c n (s1.hL hL q) (Ah (Af D2 p2) q) I2) rfl fun H3 q3 x2 ⟨u0,hu_,X0⟩=>?_
 subst hu_
 obtain ⟨Y1,F0⟩:=s1.agr x2
 refine BC 11 4095 b0 rfl rfl .plain (AD (news:=[.bool x0.fc,t0]) Y1 .t1 rfl rfl rfl rfl rfl rfl (o2 rfl (Az (Af G0 F0)))) fun I3 Z1 k0=>BC 12 8191 b0 rfl rfl .plain (AD (news:=[.bool y0.fc,u0]) Z1 .hd rfl rfl rfl rfl rfl rfl (o2 rfl (Az (Af X0 k0)))) fun J3 c0 q0=>AN (dk b0)<|Aj<|Ae<|Bk 0 rfl<|Bd rfl ((c0.memA .hd) 0 _ rfl)<|Aa<|MX.ifb rfl h (fun I1 h=>?_) (fun I1 h=>?_)
 refine Ae<|Bk 1 rfl<|Bd rfl ((c0.memA .t2) 1 _ rfl) ?_
 obtain ⟨P2,W2,E2,_⟩:=Bi (AG h1_1 c0)
 refine Ab (AS (vs:=[v1_1]) (u:=.agg #[.bool false,v1_1]) (e1 rfl) (fun p=>by rw [E2]; try kernel_rfl))<|RG.nl [.bool false,vN] c0 fun K3 V2 u1 C1=>AT [.bool false,v1_1] u1 .hd (o2 rfl (Az (AG h1_1 u1))) fun M3 E0 D1=>Aa<|Ae<|Ab (AA rfl (E0.memA .t1))<|Ab (AA rfl (E0.memA .hd))<|bk h fun I0 J2 h=>jE (bd 141) rfl (e2 rfl rfl) (fun p q=>bI_c n (E0.hL hL q) y0 (Ah (Af X0 (Tt k0 (Tt q0 (Tt C1 D1)))) q) (⟨false,a1.fk⟩:Tf) (E0.km h1_1 q) J2) rfl fun P3 s3 y2 ⟨v0,hu_,j1⟩=>?_
 subst hu_
 obtain ⟨b2,q2⟩:=E0.agr y2
 refine AT [.bool I0.fc,v0] b2 .t1 (o2 rfl (Az j1)) fun Q3 v1 d1=>Aa<|Ae<|Bk 0 rfl<|Bd rfl ((v1.memA .t3) 0 _ rfl)<|Ab (Bz rfl)<|Ao .plain rfl (jA ((1:UInt64)) (vW 1) v1 dH (e1 rfl)) fun R3 M0 x1 g1=>Ab (AS (vs:=[.bool (!a1.fc),(vS M0 1)]) (u:=.agg #[.bool (!a1.fc),(vS M0 1)]) (e2 rfl rfl) (fun p=>by kernel_rfl))<|RG.nl [.bool false,vN] x1 fun u3 Q2 q1 R0=>AT [.bool (!a1.fc),(vS M0 1)] q1 .hd (o2 rfl (St.o1 (α:=UInt64) q1 .t1)) fun v3 z0 U0=>Aa<|Am<|Ab (AA rfl (z0.memA .t4))<|Ab (AA rfl (z0.memA .hd)) ?_
 have Y0:=Bw z0 .t1
 have Z0:=Bx z0 .t1
 refine bk h fun H0 F2 h=>jE (bd 141) rfl (e2 rfl rfl) (fun p q=>bI_c n (Y0.hL hL q) x0 (Ah (Af G0 (Tt F0 (Tt k0 (Tt q0 (Tt C1 (Tt D1 (Tt q2 (Tt d1 (Tt g1 (Tt R0 (Tt U0 Z0))))))))))) q) (⟨(!a1.fc),([(1:UInt64)]:List UInt64)⟩:Tf) (Ah (By (α:=UInt64) (v:=(vS M0 1)) (xs:=([(1:UInt64)]:List UInt64)) Y0 L (Bg (α:=UInt64) z0 .t1 (AO (jC ((1:UInt64)) (vW 1) x1 L rfl) (Tt R0 U0)) hL)) q) F2) rfl fun y3 j3 s2 ⟨s0,hu_,W0⟩=>?_
 subst hu_
 obtain ⟨J1,y1⟩:=Y0.agr s2
 refine AT [.bool H0.fc,s0] J1 .t3 (o2 rfl (Az W0)) fun z3 A0 V0=>Aa<|Aj<|du 2 fun g0 G1=>Rx 0 12 g0 rfl G1 (AA rfl (A0.memA .t3))<|RD.mo (α:=Unit) (fun ()=>[(4,vP J0),(5,vP K0),(46,.agg #[.bool I0.fc,v0])]) (fun ()=>[.cells K0 [.bool I0.fc,v0] 107,.cells J0 [.bool H0.fc,s0] 107]) A0 1 7 ?_ ?_
 rintro ⟨⟩ U3 M1 z1
 try dsimp only
 refine BC 3 15 g0 rfl rfl .plain (AD (news:=[.bool I0.fc,v0]) M1 .hd rfl rfl rfl rfl rfl rfl (o2 rfl (Az (Af j1 (Tt d1 (Tt g1 (Tt R0 (Tt U0 (Tt Z0 (Tt y1 (Tt V0 z1))))))))))) fun A3 B0 c2=>AN (dk g0)<|Ar rfl<|Au hb0 func169 rfl (.cons (.many (cs:=[.bool H0.fc,s0]) rfl rfl (B0.memA .t1)) (.cons (.many (cs:=[.bool I0.fc,v0]) rfl rfl (B0.memA .hd)) .nil)) rfl ?_
 cases h
 have E1:=Tt V0 (Tt z1 c2)
 exact ⟨B0.ag,fun p q=>⟨s0,v0,rfl,B0.kd (Af W0 E1) q,B0.kd (Af j1 (Tt d1 (Tt g1 (Tt R0 (Tt U0 (Tt Z0 (Tt y1 E1))))))) q⟩⟩
 intro k1
 refine BN [1,2] (rk g0) ⟨?_,?_,trivial⟩
 refine RO.val (m' :=3) (sk g0) rfl .plain rfl (AA rfl (A0.memA .t2)) ?_
 have A2:=Af W0 V0
 refine BC 2 7 g0 rfl rfl .plain (AD (news:=[.bool H0.fc,s0]) A0 .t3 rfl rfl rfl rfl rfl rfl (o2 rfl (Az A2))) fun M2 Q0 c1=>?_
 obtain ⟨P1,d2⟩:=AB Q0 (.a2 (.a2 .done))
 exact k1 () P1 (Tt c1 d2)
 refine RO.now (m' :=5) (sk g0) rfl rfl .plain (AD (news:=[.bool H0.fc,s0]) A0 .t3 rfl rfl rfl rfl rfl rfl (o2 rfl (Az (Af W0 V0)))) fun M2 Q0 c1=>Rx 1 8 g0 rfl G1 (AA rfl (Q0.memA .t2)) ?_
 obtain ⟨Q1,g2⟩:=AB Q0 (.a2 (.a2 .done))
 exact k1 () Q1 (Tt c1 g2)
 refine Aq<|Aj<|du 2 fun j0 H1=>Rx 0 12 j0 rfl H1 (AA rfl (c0.memA .t1))<|RD.mo (α:=Unit) (fun ()=>[(4,vP J0),(5,vP K0),(46,.agg #[.bool y0.fc,u0])]) (fun ()=>[.cells K0 [.bool y0.fc,u0] 107,.cells J0 [.bool x0.fc,t0] 107]) c0 1 7 ?_ ?_
 rintro ⟨⟩ V3 V1 A1
 try dsimp only
 have F1:=Tt k0 (Tt q0 A1)
 refine BC 3 15 j0 rfl rfl .plain (AD (news:=[.bool y0.fc,u0]) V1 .hd rfl rfl rfl rfl rfl rfl (o2 rfl (Az (Af X0 F1)))) fun D3 C0 B1=>AN (dk j0)<|Ar rfl<|Au hb0 func169 rfl (.cons (.many (cs:=[.bool x0.fc,t0]) rfl rfl (C0.memA .t1)) (.cons (.many (cs:=[.bool y0.fc,u0]) rfl rfl (C0.memA .hd)) .nil)) rfl ?_
 cases h
 exact ⟨C0.ag,fun p q=>⟨t0,u0,rfl,C0.kd (Af G0 (Tt F0 (Tt k0 (Tt q0 (Tt A1 B1))))) q,C0.kd (Af X0 (Tt F1 B1)) q⟩⟩
 intro p1
 refine BN [1,2] (rk j0) ⟨?_,?_,trivial⟩
 refine RO.val (m' :=3) (sk j0) rfl .plain rfl (AA rfl (c0.memA .hd)) ?_
 have B2:=Tt F0 (Tt k0 q0)
 have z2:=Af G0 B2
 refine BC 2 7 j0 rfl rfl .plain (AD (news:=[.bool x0.fc,t0]) c0 .t1 rfl rfl rfl rfl rfl rfl (o2 rfl (Az z2))) fun K2 P0 b1=>?_
 obtain ⟨W1,j2⟩:=AB P0 (.a0 (.a0 .done))
 exact p1 () W1 (Tt b1 j2)
 refine RO.now (m' :=5) (sk j0) rfl rfl .plain (AD (news:=[.bool x0.fc,t0]) c0 .t1 rfl rfl rfl rfl rfl rfl (o2 rfl (Az (Af G0 (Tt F0 (Tt k0 q0)))))) fun K2 P0 b1=>Rx 1 8 j0 rfl H1 (AA rfl (P0.memA .hd)) ?_
 obtain ⟨X1,k2⟩:=AB P0 (.a0 (.a0 .done))
 exact p1 () X1 (Tt b1 k2)
def bW_p (n:Nat) (a0:Tf) (a1:Tf):Option Tc:=
  (bn_p n a0 a1).bind fun c0=>(ce_p n a0 c0).bind fun d0=>(ce_p n a1 c0).bind fun b0=>(if b0.1.fc = true then (bA_p n d0.1).bind fun g0=>(bA_p n b0.1).bind fun j0=>some (⟨g0,j0⟩:Tc) else some (⟨d0.1,b0.1⟩:Tc))
theorem bW_c (n:Nat) {L w} (hL:hl L w) (a0:Tf) {v0_1:Value} (h0_1:Rep.R w L [v0_1] a0.fk) (a1:Tf) {v1_1:Value} (h1_1:Rep.R w L [v1_1] a1.fk)  {r:Tc} (h:bW_p n a0 a1 = some r) :
 Cl 140 #[.agg #[.bool a0.fc,v0_1],.agg #[.bool a1.fc,v1_1]] w (ai w fun w' u=>∃ v0_1 v0_3:Value,u = .agg #[.bool r.fj.fc,v0_1,.bool r.fh.fc,v0_3]/\Rep.R w' L [v0_1] r.fj.fk/\Rep.R w' L [v0_3] r.fh.fk):=by
 unfold bW_p at h
 refine AL func140 rfl rfl rfl fun _ cs0 hb0=>Ae<|RG.bx (AK w) rfl rfl fun k3 D2 z1 U2=>RG.bx z1 rfl rfl fun x3 E2 C1 V2=>RG.nl [.bool false,vN,.bool false,vN] C1 fun y3 F2 j0 W2=>Aa<|Ae<|Ab (AA rfl (j0.memA .t2))<|Ab (AA rfl (j0.memA .t1))<|bk h fun X0 q2 h=>jE (bd 133) rfl (e2 rfl rfl) (fun p q=>bn_c n (j0.hL hL q) a0 (j0.km h0_1 q) a1 (j0.km h1_1 q) q2) rfl fun z3 b3 W1 ⟨v2,hu_,W0⟩=>?_
 subst hu_
 obtain ⟨D1,X2⟩:=j0.agr W1
 refine RG.nl [.bool false,vN] D1 fun A3 G2 E1 J0=>AT [.bool X0.fc,v2] E1 .hd (o2 rfl (Az (Af W0 J0))) fun B3 t0 d1=>Aa<|Ae<|Ab (AA rfl (t0.memA .t3))<|Ab (AA rfl (t0.memA .hd))<|bk h fun d0 s2 h=>jE (bd 169) rfl (e2 rfl rfl) (fun p q=>ce_c n (t0.hL hL q) a0 (t0.km h0_1 q) X0 (Ah (Af W0 (Tt J0 d1)) q) s2) rfl fun C3 c3 X1 ⟨q0,x2,hu_,F0,Z1⟩=>?_
 subst hu_
 obtain ⟨F1,R1⟩:=t0.agr X1
 refine Ac rfl<|Ab (Ai rfl rfl)<|Ab (Ai rfl rfl)<|RG.nl [.bool false,vN] F1 fun D3 H2 G1 K0=>RG.nl [.bool false,vN] G1 fun E3 I2 H1 M0=>AT [.bool d0.1.fc,q0] H1 .t1 (o2 rfl (Az (Af F0 (Tt K0 M0)))) fun F3 I1 g1=>?_
 have R0:=Tt K0 (Tt M0 g1)
 refine AT [.bool d0.2.fc,x2] I1 .hd (o2 rfl (Az (Af Z1 R0))) fun G3 u0 P0=>Aa<|Ae<|Ab (AA rfl (u0.memA .t4))<|Ab (AA rfl (u0.memA .t2))<|bk h fun g0 u2 h=>jE (bd 169) rfl (e2 rfl rfl) (fun p q=>ce_c n (u0.hL hL q) a1 (u0.km h1_1 q) X0 (Ah (Af W0 (Tt J0 (Tt d1 (Tt R1 (Tt K0 (Tt M0 (Tt g1 P0))))))) q) u2) rfl fun H3 d3 Y1 ⟨s0,y2,hu_,G0,b2⟩=>?_
 subst hu_
 obtain ⟨J1,j1⟩:=u0.agr Y1
 refine Ac rfl<|Ab (Ai rfl rfl)<|Ab (Ai rfl rfl)<|RG.nl [.bool false,vN] J1 fun I3 J2 K1 C0=>RG.nl [.bool false,vN] K1 fun J3 K2 M1 D0=>AT [.bool g0.1.fc,s0] M1 .t1 (o2 rfl (Az (Af G0 (Tt C0 D0)))) fun K3 P1 Q0=>?_
 have E0:=Tt C0 (Tt D0 Q0)
 refine AT [.bool g0.2.fc,y2] P1 .hd (o2 rfl (Az (Af b2 E0))) fun g3 b0 v0=>Aa<|Aj<|Ae<|Bk 0 rfl<|Bd rfl ((b0.memA .t1) 0 _ rfl)<|Aa<|MX.ifb rfl h (fun y1 h=>?_) (fun y1 h=>?_)
 refine du 4 fun c0 x1=>Rx 0 58 c0 rfl x1 (AA rfl (b0.memA .t3))<|Rx 2 56 c0 rfl x1 (AA rfl (b0.memA .t1))<|bk h fun x0 k2 h=>AZ 1 7 c0 rfl .plain (bd 145) rfl (e1 rfl) (fun p q=>bA_c n (b0.hL hL q) d0.1 (Ah (Af F0 (Tt R0 (Tt P0 (Tt j1 (Tt C0 (Tt D0 (Tt Q0 v0))))))) q) k2) rfl fun j3 Y2 U1 ⟨k0,hu_,U0⟩=>?_
 subst hu_
 obtain ⟨Y0,Q1⟩:=b0.agr U1
 refine bk h fun y0 p2 h=>AZ 3 15 c0 rfl .plain (bd 145) rfl (e1 rfl) (fun p q=>bA_c n (Y0.hL hL q) g0.1 (Ah (Af G0 (Tt E0 (Tt v0 Q1))) q) p2) rfl fun p3 Z2 V1 ⟨p0,hu_,V0⟩=>?_
 subst hu_
 obtain ⟨A1,Z0⟩:=Y0.agr V1
 refine BC 4 31 c0 rfl rfl .plain (AD (news:=[.bool x0.fc,k0]) A1 .t3 rfl rfl rfl rfl rfl rfl (o2 rfl (Az (Af U0 Z0)))) fun q3 B1 B0=>BC 5 63 c0 rfl rfl .plain (AD (news:=[.bool y0.fc,p0]) B1 .t1 rfl rfl rfl rfl rfl rfl (o2 rfl (Az (Af V0 B0)))) fun s3 H0 I0=>AN (dk c0)<|Ae<|Ab (AA rfl (H0.memA .t3))<|Ab (AA rfl (H0.memA .t1)) ?_
 have u1:=Tt Z0 (Tt B0 I0)
 have k1:=Af U0 u1
 obtain ⟨z2,M2,c2,_⟩:=Bi k1
 have p1:=Af V0 (Tt B0 I0)
 obtain ⟨A2,P2,d2,_⟩:=Bi p1
 refine Ab (AS (vs:=[.agg #[.bool x0.fc,k0],.agg #[.bool y0.fc,p0]]) (u:=.agg #[.bool x0.fc,k0,.bool y0.fc,p0]) (e2 rfl rfl) (fun p=>by rw [c2,d2]; try kernel_rfl))<|AT [.bool x0.fc,k0,.bool y0.fc,p0] H0 .t5 (o4 rfl (Az k1) rfl (Az p1)) fun u3 z0 b1=>Aa<|Ar rfl<|Au hb0 func140 rfl (.cons (.many (cs:=[.bool x0.fc,k0,.bool y0.fc,p0]) rfl rfl (z0.memA .t5)) .nil) rfl ?_
 cases h
 exact ⟨z0.ag,fun p q=>⟨k0,p0,rfl,z0.kd (Af U0 (Tt u1 b1)) q,z0.kd (Af V0 (Tt B0 (Tt I0 b1))) q⟩⟩
 refine Aq<|Ae<|Ab (AA rfl (b0.memA .t3))<|Ab (AA rfl (b0.memA .t1)) ?_
 have v1:=Tt R0 (Tt P0 (Tt j1 (Tt C0 (Tt D0 (Tt Q0 v0)))))
 have q1:=Af F0 v1
 obtain ⟨B2,Q2,g2,_⟩:=Bi q1
 have s1:=Af G0 (Tt E0 v0)
 obtain ⟨C2,R2,j2,_⟩:=Bi s1
 refine Ab (AS (vs:=[.agg #[.bool d0.1.fc,q0],.agg #[.bool g0.1.fc,s0]]) (u:=.agg #[.bool d0.1.fc,q0,.bool g0.1.fc,s0]) (e2 rfl rfl) (fun p=>by rw [g2,j2]; try kernel_rfl))<|AT [.bool d0.1.fc,q0,.bool g0.1.fc,s0] b0 .t5 (o4 rfl (Az q1) rfl (Az s1)) fun v3 A0 c1=>Aa<|Ar rfl<|Au hb0 func140 rfl (.cons (.many (cs:=[.bool d0.1.fc,q0,.bool g0.1.fc,s0]) rfl rfl (A0.memA .t5)) .nil) rfl ?_
 cases h
 exact ⟨A0.ag,fun p q=>⟨q0,s0,rfl,A0.kd (Af F0 (Tt v1 c1)) q,A0.kd (Af G0 (Tt E0 (Tt v0 c1))) q⟩⟩
theorem oN {w:World} {L:List Nat} {cs:List Value} {x:U8} (h:Rep.R w L cs x):cs = [vU x.1,vU x.2.1,vU x.2.2.1,vU x.2.2.2.1,vU x.2.2.2.2.1,vU x.2.2.2.2.2.1,vU x.2.2.2.2.2.2.1,vU x.2.2.2.2.2.2.2]:=by
  obtain ⟨c0,r0,rfl,h0,h⟩:=h
  have e0:c0 = [vU x.1]:=h0; subst e0
  obtain ⟨c1,r1,rfl,h1,h⟩:=h
  have e1:c1 = [vU x.2.1]:=h1; subst e1
  obtain ⟨c2,r2,rfl,h2,h⟩:=h
  have e2:c2 = [vU x.2.2.1]:=h2; subst e2
  obtain ⟨c3,r3,rfl,h3,h⟩:=h
  have e3:c3 = [vU x.2.2.2.1]:=h3; subst e3
  obtain ⟨c4,r4,rfl,h4,h⟩:=h
  have e4:c4 = [vU x.2.2.2.2.1]:=h4; subst e4
  obtain ⟨c5,r5,rfl,h5,h⟩:=h
  have e5:c5 = [vU x.2.2.2.2.2.1]:=h5; subst e5
  obtain ⟨c6,r6,rfl,h6,h⟩:=h
  have e6:c6 = [vU x.2.2.2.2.2.2.1]:=h6; subst e6
  have e7:r6 = [vU x.2.2.2.2.2.2.2]:=h; subst e7
  rfl
theorem oG {w:World} {L:List Nat} (a0:UInt64) (a1:UInt64) (a2:UInt64) (a3:UInt64) (a4:UInt64) (a5:UInt64) (a6:UInt64) (a7:UInt64):Rep.R w L [vU a0,vU a1,vU a2,vU a3,vU a4,vU a5,vU a6,vU a7] ((a0,a1,a2,a3,a4,a5,a6,a7):U8):=⟨[vU a0],[vU a1,vU a2,vU a3,vU a4,vU a5,vU a6,vU a7],rfl,rfl,⟨[vU a1],[vU a2,vU a3,vU a4,vU a5,vU a6,vU a7],rfl,rfl,⟨[vU a2],[vU a3,vU a4,vU a5,vU a6,vU a7],rfl,rfl,⟨[vU a3],[vU a4,vU a5,vU a6,vU a7],rfl,rfl,⟨[vU a4],[vU a5,vU a6,vU a7],rfl,rfl,⟨[vU a5],[vU a6,vU a7],rfl,rfl,⟨[vU a6],[vU a7],rfl,rfl,rfl⟩⟩⟩⟩⟩⟩⟩
theorem lF {a b:U8} (h0:a.1 = b.1) (h1:a.2.1 = b.2.1) (h2:a.2.2.1 = b.2.2.1) (h3:a.2.2.2.1 = b.2.2.2.1) (h4:a.2.2.2.2.1 = b.2.2.2.2.1) (h5:a.2.2.2.2.2.1 = b.2.2.2.2.2.1) (h6:a.2.2.2.2.2.2.1 = b.2.2.2.2.2.2.1) (h7:a.2.2.2.2.2.2.2 = b.2.2.2.2.2.2.2):a = b:=Prod.ext h0 (Prod.ext h1 (Prod.ext h2 (Prod.ext h3 (Prod.ext h4 (Prod.ext h5 (Prod.ext h6 (h7)))))))
theorem mV (a b:U8) (p:World):(do eqGuard .eql 32 (.tmp 0) (.tmp 0) (.agg #[vU a.1,vU a.2.1,vU a.2.2.1,vU a.2.2.2.1,vU a.2.2.2.2.1,vU a.2.2.2.2.2.1,vU a.2.2.2.2.2.2.1,vU a.2.2.2.2.2.2.2]) (.agg #[vU b.1,vU b.2.1,vU b.2.2.1,vU b.2.2.2.1,vU b.2.2.2.2.1,vU b.2.2.2.2.2.1,vU b.2.2.2.2.2.2.1,vU b.2.2.2.2.2.2.2]); binOp .eql 32 (.agg #[vU a.1,vU a.2.1,vU a.2.2.1,vU a.2.2.2.1,vU a.2.2.2.2.1,vU a.2.2.2.2.2.1,vU a.2.2.2.2.2.2.1,vU a.2.2.2.2.2.2.2]) (.agg #[vU b.1,vU b.2.1,vU b.2.2.1,vU b.2.2.2.1,vU b.2.2.2.2.1,vU b.2.2.2.2.2.1,vU b.2.2.2.2.2.2.1,vU b.2.2.2.2.2.2.2]):Sem Value).run Tryz.prog p = .ok (.bool (decide (a = b))) p:=
  oO (ks:=[.int .u64,.int .u64,.int .u64,.int .u64,.int .u64,.int .u64,.int .u64,.int .u64]) (xs:=[vU a.1,vU a.2.1,vU a.2.2.1,vU a.2.2.2.1,vU a.2.2.2.2.1,vU a.2.2.2.2.2.1,vU a.2.2.2.2.2.2.1,vU a.2.2.2.2.2.2.2]) (ys:=[vU b.1,vU b.2.1,vU b.2.2.1,vU b.2.2.2.1,vU b.2.2.2.2.1,vU b.2.2.2.2.2.1,vU b.2.2.2.2.2.2.1,vU b.2.2.2.2.2.2.2]) (by kernel_rfl) (by kernel_rfl) (by kernel_rfl) rfl rfl ⟨fun h=>by
    simp only [bg,veq,Bool.and_eq_true,beq_iff_eq,and_true] at h
    obtain ⟨h0,h1,h2,h3,h4,h5,h6,h7⟩:=h
    exact lF (ah h0) (ah h1) (ah h2) (ah h3) (ah h4) (ah h5) (ah h6) (ah h7),fun h=>by subst h; simp [bg,veq]⟩ _ _ p
def cX_p (n:Nat) (a0:U8) (a1:U8):Option (Tb × Int):=
  (if a1 = (0,0,0,0,0,0,0,0) then some ((⟨(0,0,0,0,0,0,0,0),(0,0,0,0,0,0,0,0)⟩:Tb),(7:Int)) else (bK_p n a0).bind fun c0=>(bK_p n a1).bind fun d0=>(bW_p n c0 d0).bind fun g0=>(ae_p n g0).bind fun b0=>some (b0.1,b0.2))
theorem cX_c (n:Nat) {L w} (hL:hl L w) (a0:U8) (a1:U8)  {r:Tb × Int} (h:cX_p n a0 a1 = some r) :
 Cl 131 #[.agg ((aj a0)).toArray,.agg ((aj a1)).toArray] w (ai w fun _ u=>u = .tuple #[.agg ((ab r.1)).toArray,vI r.2]):=by
 unfold cX_p at h
 refine AL func131 rfl rfl rfl fun _ cs0 hb0=>Ae<|RG.bx (AK w) rfl rfl fun s1 P0 u0 U0=>RG.bx u0 rfl rfl fun u1 Q0 v0 V0=>RG.nl zL v0 fun v1 R0 c0 W0=>Ag rfl<|Aa<|Aj<|Ae<|Ab (AA rfl (c0.memA .t1))<|Ab (AS (vs:=[]) (u:=.agg zQ) ap (fun p=>by kernel_rfl))<|Ab (FV.eqlV (v:=.agg ((aj a1)).toArray) (u:=.agg zQ) rfl rfl (mV a1 (0,0,0,0,0,0,0,0)))<|Aa<|AW rfl h (fun t0 h=>?_) (fun t0 h=>?_)
 refine Ae<|Ab (AS (vs:=[]) (u:=.agg zM) ap (fun p=>by kernel_rfl))<|AT zL c0 .hd (ak rfl) fun x1 k0 X0=>Ag rfl<|Aa<|Ar rfl<|Au hb0 func131 rfl (.cons (.many (cs:=zL) rfl rfl (k0.memA .hd)) (.cons (.tmp rfl) .nil)) rfl ?_
 cases h
 exact k0.gv
 refine Aq<|Aj<|du 8 fun b0 d0=>Rx 0 1018 b0 rfl d0 (AA rfl (c0.memA .t2))<|Rx 2 1016 b0 rfl d0 (AA rfl (c0.memA .t1))<|bk h fun J0 F0 h=>AZ 1 7 b0 rfl .plain (bd 135) rfl (e1 rfl) (fun p q=>bK_c n (c0.hL hL q) a0 F0) rfl fun w32 k1 y0 ⟨c1,hu_,B0⟩=>?_
 subst hu_
 obtain ⟨p0,Y0⟩:=c0.agr y0
 refine bk h fun K0 G0 h=>AZ 3 15 b0 rfl .plain (bd 135) rfl (e1 rfl) (fun p q=>bK_c n (p0.hL hL q) a1 G0) rfl fun y1 p1 z0 ⟨d1,hu_,C0⟩=>?_
 subst hu_
 obtain ⟨q0,x0⟩:=p0.agr z0
 refine bk h fun M0 H0 h=>AZ 4 31 b0 rfl .plain (bd 140) rfl (e2 rfl rfl) (fun p q=>bW_c n (q0.hL hL q) J0 (Ah (Af B0 x0) q) K0 (Ah C0 q) H0) rfl fun z1 q1 A0 ⟨g1,j1,hu_,D0,E0⟩=>?_
 subst hu_
 obtain ⟨g0,Z0⟩:=q0.agr A0
 refine bk h fun j0 I0 h=>RD.cq 5 63 960 (.tuple #[.agg ((ab j0.1)).toArray,vI j0.2]) b0 rfl d0 (bd 77) rfl (e1 rfl) (fun p q=>ae_c n (g0.hL0 hL q) M0 (g0.kd D0 q) (g0.kd E0 q) I0) rfl<|Rv 6 b0 rfl d0 (fun _=>Ai rfl rfl)<|Rv 7 b0 rfl d0 (fun _=>Ai rfl rfl)<|BC 8 511 b0 rfl rfl .plain (AD (news:=(ab j0.1)) g0 .hd rfl rfl rfl rfl rfl rfl (ak rfl)) fun A1 s0 b1=>BJ (i:=9) (rk b0) (RO.val (m' :=1023) (sk b0) rfl .plain rfl (Bo rfl) ?_)
 refine AN (dk b0)<|Ar rfl<|Au hb0 func131 rfl (.cons (.many (cs:=(ab j0.1)) rfl rfl (s0.memA .hd)) (.cons (.tmp rfl) .nil)) rfl ?_
 cases h
 exact s0.gv
def cY_p (n:Nat) (a0:Int) (a1:Int):Option (Tb × Int):=
  (cS_p n a0).bind fun c0=>(cS_p n a1).bind fun d0=>(cX_p n c0 d0).bind fun b0=>some (b0.1,b0.2)
theorem cY_c (n:Nat) {L w} (hL:hl L w) {a0:Int} {a1:Int}  {r:Tb × Int} (h:cY_p n a0 a1 = some r) :
 Cl 64 #[vI a0,vI a1] w (ai w fun _ u=>u = .tuple #[.agg ((ab r.1)).toArray,vI r.2]):=by
 unfold cY_p at h
 refine AL func64 rfl rfl rfl fun _ cs0 hb0=>Ae<|RG.nl zL (AK w) fun v0 s0 b0 t0=>Ag rfl<|Aa<|Ae<|Ac rfl<|bk h fun g0 k0 h=>Bj (.agg ((aj g0)).toArray) (bd 32) rfl (e1 rfl) (fun p q=>cS_c n (b0.hL0 hL q)  k0) rfl<|Ac rfl<|bk h fun j0 p0 h=>Bj (.agg ((aj j0)).toArray) (bd 32) rfl (e1 rfl) (fun p q=>cS_c n (b0.hL0 hL q)  p0) rfl<|bk h fun c0 q0 h=>Bj (.tuple #[.agg ((ab c0.1)).toArray,vI c0.2]) (bd 131) rfl (e2 rfl rfl) (fun p q=>cX_c n (b0.hL0 hL q) g0 j0 q0) rfl<|Ab (Ai rfl rfl)<|Ab (Ai rfl rfl)<|AT (ab c0.1) b0 .hd (ak rfl) fun x0 d0 u0=>Ag rfl<|Aa<|Ar rfl<|Au hb0 func64 rfl (.cons (.many (cs:=(ab c0.1)) rfl rfl (d0.memA .hd)) (.cons (.tmp rfl) .nil)) rfl ?_
 cases h
 exact d0.gv
def ak_p (n:Nat) (a0:Int) (a1:Int):Option Tb:=
  (cY_p n a0 a1).bind fun b0=>some b0.1
theorem ak_c (n:Nat) {L w} (hL:hl L w) {a0:Int} {a1:Int}  {r:Tb} (h:ak_p n a0 a1 = some r) :
 Cl 15 #[vI a0,vI a1] w (ai w fun _ u=>u = .agg ((ab r)).toArray):=by
 unfold ak_p at h
 refine AL func15 rfl rfl rfl fun _ cs0 hb0=>Ae<|RG.nl zL (AK w) fun x0 p0 c0 s0=>Aa<|Ae<|Ac rfl<|Ac rfl<|bk h fun b0 k0 h=>Bj (.tuple #[.agg ((ab b0.1)).toArray,vI b0.2]) (bd 64) rfl (e2 rfl rfl) (fun p q=>cY_c n (c0.hL0 hL q)  k0) rfl<|Ac rfl<|Ab (Ai rfl rfl)<|Ab (Ai rfl rfl)<|RG.nl zL c0 fun y0 q0 j0 t0=>AT (ab b0.1) j0 .hd (ak rfl) fun z0 d0 u0=>Ag rfl<|Aa<|Ae<|Ab (AA rfl (d0.memA .hd))<|AT (ab b0.1) d0 .t1 (ak rfl) fun A0 g0 v0=>Aa<|Ar rfl<|Au hb0 func15 rfl (.cons (.many (cs:=(ab b0.1)) rfl rfl (g0.memA .t1)) .nil) rfl ?_
 cases h
 exact g0.gv
structure Ta where
  fm:Tb
  fP:Tb
  deriving DecidableEq
instance:Rep Ta:=Rep.via (β:=Tb × Tb) fun x=>(x.fm,x.fP)
theorem op_A26 {w:World} {L:List Nat} {cs:List Value} {x:Int × Int} (h:Rep.R w L cs x):cs = [vI x.1,vI x.2]:=by
  obtain ⟨c0,r0,rfl,h0,h⟩:=h
  have e0:c0 = [vI x.1]:=h0; subst e0
  have e1:r0 = [vI x.2]:=h; subst e1
  rfl
theorem bD {w:World} {L:List Nat} (a0:Int) (a1:Int):Rep.R w L [vI a0,vI a1] ((a0,a1):Int × Int):=⟨[vI a0],[vI a1],rfl,rfl,rfl⟩
theorem cD {w:World} {L:List Nat} {cs:List Value} {x:Tb} (h:Rep.R w L cs x):cs = [vU x.fN.1,vU x.fN.2.1,vU x.fN.2.2.1,vU x.fN.2.2.2.1,vU x.fN.2.2.2.2.1,vU x.fN.2.2.2.2.2.1,vU x.fN.2.2.2.2.2.2.1,vU x.fN.2.2.2.2.2.2.2,vU x.fD.1,vU x.fD.2.1,vU x.fD.2.2.1,vU x.fD.2.2.2.1,vU x.fD.2.2.2.2.1,vU x.fD.2.2.2.2.2.1,vU x.fD.2.2.2.2.2.2.1,vU x.fD.2.2.2.2.2.2.2]:=by
  obtain ⟨c0,r0,rfl,h0,h⟩:=h
  obtain rfl:=oN (x:=x.fN) h0
  obtain rfl:=oN (x:=x.fD) h
  rfl
theorem cb {w:World} {L:List Nat} (a0:U8) (a1:U8):Rep.R w L [vU a0.1,vU a0.2.1,vU a0.2.2.1,vU a0.2.2.2.1,vU a0.2.2.2.2.1,vU a0.2.2.2.2.2.1,vU a0.2.2.2.2.2.2.1,vU a0.2.2.2.2.2.2.2,vU a1.1,vU a1.2.1,vU a1.2.2.1,vU a1.2.2.2.1,vU a1.2.2.2.2.1,vU a1.2.2.2.2.2.1,vU a1.2.2.2.2.2.2.1,vU a1.2.2.2.2.2.2.2] (⟨a0,a1⟩:Tb):=⟨[vU a0.1,vU a0.2.1,vU a0.2.2.1,vU a0.2.2.2.1,vU a0.2.2.2.2.1,vU a0.2.2.2.2.2.1,vU a0.2.2.2.2.2.2.1,vU a0.2.2.2.2.2.2.2],[vU a1.1,vU a1.2.1,vU a1.2.2.1,vU a1.2.2.2.1,vU a1.2.2.2.2.1,vU a1.2.2.2.2.2.1,vU a1.2.2.2.2.2.2.1,vU a1.2.2.2.2.2.2.2],rfl,oG a0.1 a0.2.1 a0.2.2.1 a0.2.2.2.1 a0.2.2.2.2.1 a0.2.2.2.2.2.1 a0.2.2.2.2.2.2.1 a0.2.2.2.2.2.2.2,oG a1.1 a1.2.1 a1.2.2.1 a1.2.2.2.1 a1.2.2.2.2.1 a1.2.2.2.2.2.1 a1.2.2.2.2.2.2.1 a1.2.2.2.2.2.2.2⟩
theorem aF {w:World} {L:List Nat} {cs:List Value} {x:Ta} (h:Rep.R w L cs x):cs = [vU x.fm.fN.1,vU x.fm.fN.2.1,vU x.fm.fN.2.2.1,vU x.fm.fN.2.2.2.1,vU x.fm.fN.2.2.2.2.1,vU x.fm.fN.2.2.2.2.2.1,vU x.fm.fN.2.2.2.2.2.2.1,vU x.fm.fN.2.2.2.2.2.2.2,vU x.fm.fD.1,vU x.fm.fD.2.1,vU x.fm.fD.2.2.1,vU x.fm.fD.2.2.2.1,vU x.fm.fD.2.2.2.2.1,vU x.fm.fD.2.2.2.2.2.1,vU x.fm.fD.2.2.2.2.2.2.1,vU x.fm.fD.2.2.2.2.2.2.2,vU x.fP.fN.1,vU x.fP.fN.2.1,vU x.fP.fN.2.2.1,vU x.fP.fN.2.2.2.1,vU x.fP.fN.2.2.2.2.1,vU x.fP.fN.2.2.2.2.2.1,vU x.fP.fN.2.2.2.2.2.2.1,vU x.fP.fN.2.2.2.2.2.2.2,vU x.fP.fD.1,vU x.fP.fD.2.1,vU x.fP.fD.2.2.1,vU x.fP.fD.2.2.2.1,vU x.fP.fD.2.2.2.2.1,vU x.fP.fD.2.2.2.2.2.1,vU x.fP.fD.2.2.2.2.2.2.1,vU x.fP.fD.2.2.2.2.2.2.2]:=by
  obtain ⟨c0,r0,rfl,h0,h⟩:=h
  obtain rfl:=cD (x:=x.fm) h0
  obtain rfl:=cD (x:=x.fP) h
  rfl
theorem aT {w:World} {L:List Nat} (a0:Tb) (a1:Tb):Rep.R w L [vU a0.fN.1,vU a0.fN.2.1,vU a0.fN.2.2.1,vU a0.fN.2.2.2.1,vU a0.fN.2.2.2.2.1,vU a0.fN.2.2.2.2.2.1,vU a0.fN.2.2.2.2.2.2.1,vU a0.fN.2.2.2.2.2.2.2,vU a0.fD.1,vU a0.fD.2.1,vU a0.fD.2.2.1,vU a0.fD.2.2.2.1,vU a0.fD.2.2.2.2.1,vU a0.fD.2.2.2.2.2.1,vU a0.fD.2.2.2.2.2.2.1,vU a0.fD.2.2.2.2.2.2.2,vU a1.fN.1,vU a1.fN.2.1,vU a1.fN.2.2.1,vU a1.fN.2.2.2.1,vU a1.fN.2.2.2.2.1,vU a1.fN.2.2.2.2.2.1,vU a1.fN.2.2.2.2.2.2.1,vU a1.fN.2.2.2.2.2.2.2,vU a1.fD.1,vU a1.fD.2.1,vU a1.fD.2.2.1,vU a1.fD.2.2.2.1,vU a1.fD.2.2.2.2.1,vU a1.fD.2.2.2.2.2.1,vU a1.fD.2.2.2.2.2.2.1,vU a1.fD.2.2.2.2.2.2.2] (⟨a0,a1⟩:Ta):=⟨[vU a0.fN.1,vU a0.fN.2.1,vU a0.fN.2.2.1,vU a0.fN.2.2.2.1,vU a0.fN.2.2.2.2.1,vU a0.fN.2.2.2.2.2.1,vU a0.fN.2.2.2.2.2.2.1,vU a0.fN.2.2.2.2.2.2.2,vU a0.fD.1,vU a0.fD.2.1,vU a0.fD.2.2.1,vU a0.fD.2.2.2.1,vU a0.fD.2.2.2.2.1,vU a0.fD.2.2.2.2.2.1,vU a0.fD.2.2.2.2.2.2.1,vU a0.fD.2.2.2.2.2.2.2],[vU a1.fN.1,vU a1.fN.2.1,vU a1.fN.2.2.1,vU a1.fN.2.2.2.1,vU a1.fN.2.2.2.2.1,vU a1.fN.2.2.2.2.2.1,vU a1.fN.2.2.2.2.2.2.1,vU a1.fN.2.2.2.2.2.2.2,vU a1.fD.1,vU a1.fD.2.1,vU a1.fD.2.2.1,vU a1.fD.2.2.2.1,vU a1.fD.2.2.2.2.1,vU a1.fD.2.2.2.2.2.1,vU a1.fD.2.2.2.2.2.2.1,vU a1.fD.2.2.2.2.2.2.2],rfl,cb a0.fN a0.fD,cb a1.fN a1.fD⟩
theorem cK:ElT Tryz.prog 24 37 (Rep.size Ta) 256 (.agg #[vW 0,vW 0,vW 0,vW 0,vW 0,vW 0,vW 0,vW 0,vW 0,vW 0,vW 0,vW 0,vW 0,vW 0,vW 0,vW 0,vW 0,vW 0,vW 0,vW 0,vW 0,vW 0,vW 0,vW 0,vW 0,vW 0,vW 0,vW 0,vW 0,vW 0,vW 0,vW 0]) [vW 0,vW 0,vW 0,vW 0,vW 0,vW 0,vW 0,vW 0,vW 0,vW 0,vW 0,vW 0,vW 0,vW 0,vW 0,vW 0,vW 0,vW 0,vW 0,vW 0,vW 0,vW 0,vW 0,vW 0,vW 0,vW 0,vW 0,vW 0,vW 0,vW 0,vW 0,vW 0]:=⟨underlying24,by kernel_rfl,rfl,rfl,rfl,rfl⟩
def aw_l1 (n:Nat) (a1:List (Int × Int)) (a0:Int) (g0:Nat × (List Ta) -> Option (List Ta)):Nat × (List Ta) -> Option (List Ta)
  | (b0,d0)=>(if b0 < a1.length then (a1[b0]?).bind fun c0=>(ak_p n c0.1 (2:Int)).bind fun k0=>(ak_p n c0.2 a0).bind fun p0=>(app d0 ([(⟨k0,p0⟩:Ta)]:List Ta)).bind fun j0=>g0 (b0 + 1,j0) else some d0)
def aw_p (n:Nat) (a0:Int) (a1:List (Int × Int)):Option (List Ta):=
  Option.bind (am (aw_l1 n a1 a0) n (0,([]:List Ta))) (fun b0=>some b0)
theorem aw_c (n:Nat) {L w} (hL:hl L w) {a0:Int} {a1:List (Int × Int)} {v1_0:Value} (h1_0:Rep.R w L [v1_0] a1)  {r:List Ta} (h:aw_p n a0 a1 = some r) :
 Cl 13 #[vI a0,v1_0] w (ai w fun w' u=>∃ v0_0:Value,u = v0_0/\Rep.R w' L [v0_0] r):=by
 unfold aw_p at h
 have hS0:=AK w
 refine AL func13 rfl rfl rfl fun _ cs0 hb0=>Ae<|Ag rfl<|Aa<|Ae<|Ag rfl<|Aa<|Aj<|Ae<|Ac rfl ?_
 have hl1:a1.length <= 281474976710656:=AX h1_0
 refine Ab (AY (xs:=a1) underlying102 rfl h1_0)<|Ac rfl<|Aa<|Av ?_
 have x0:=hS0.nilRow 37 (Rep.size Ta)
 have z1:=BT hS0 37 (Rep.size Ta)
 obtain ⟨B1,Y0,V0⟩:=ao h
 refine BR (α:=Nat × (List Ta) × Value × (List Value)) (fun ⟨g0,p0,k0,q0⟩=>[(0,vI a0),(5,k0),(8,v1_0),(9,vI ((a1.length:Nat):Int)),(10,vI ((g0:Nat):Int))]) (fun ⟨g0,p0,k0,q0⟩=>[rr w 37 Ta k0 p0.length q0]) (fun ⟨g0,p0,k0,q0⟩ B0=>Cells B0 (bl [rr w 37 Ta k0 p0.length q0] ++ L) q0 p0) (fun ⟨g0,p0,k0,q0⟩=>(g0,p0)) (0,([]:List Ta),vN,[]) Y0 x0 (AJ (cs:=[]) (xs:=([]:List Ta)) x0 L (AR _ _)) ?_
 rintro s1 ⟨g0,p0,k0,q0⟩ B0 F0 s0 J0 z0 h
 unfold aw_l1 at h
 try dsimp only at h
 refine Ae<|Ab (AU (i:=g0) (j:=a1.length) rfl rfl)<|Aa<|Aj<|AW rfl h (fun D0 h=>?_) (fun D0 h=>?_)
 refine Aq<|Aj<|Av<|Ae<|bk h fun C0 c1 h=>?_
 obtain ⟨q1,x1,U0,W0,y1,Z0,X0⟩:=Be (AG h1_0 s0) c1
 obtain rfl:=op_A26 Z0
 refine Ab (Bf 2 g0 rfl U0 rfl rfl W0)<|Ab (AA rfl X0)<|RG.nl [vI 0,vI 0] s0 fun C1 u1 G0 K0=>AT [vI C0.1,vI C0.2] G0 .hd (ak rfl) fun D1 t0 M0=>Aa<|du 10 fun b0 j0=>Rv 0 b0 rfl j0 (fun _=>Al rfl)<|Rv 1 b0 rfl j0 (fun _=>AI (m:=1) (k:=0) (len:=2) rfl rfl rfl rfl (by omega))<|Rx 2 3976 b0 rfl j0 (Bn rfl ((t0.memA .hd) 0 _ rfl))<|bk h fun c0 g1 h=>RD.cq 3 15 3968 (.agg ((ab c0)).toArray) b0 rfl j0 (bd 15) rfl (e2 rfl rfl) (fun p q=>ak_c n (t0.hL0 hL q)  g1) rfl<|Rv 4 b0 rfl j0 (fun _=>AI (m:=1) (k:=1) (len:=2) rfl rfl rfl rfl (by omega))<|Rx 5 3968 b0 rfl j0 (Bn rfl ((t0.memA .hd) 1 _ rfl))<|Rv 6 b0 rfl j0 (fun _=>Al rfl)<|bk h fun d0 j1 h=>RD.cq 7 255 3840 (.agg ((ab d0)).toArray) b0 rfl j0 (bd 15) rfl (e2 rfl rfl) (fun p q=>ak_c n (t0.hL0 hL q)  j1) rfl<|Rv 8 b0 rfl j0 (fun _=>AS (vs:=[.agg ((ab c0)).toArray,.agg ((ab d0)).toArray]) (u:=.agg ((ab c0 ++ ab d0)).toArray) (e2 rfl rfl) (fun p=>by kernel_rfl))<|RD.nu 9 1023 b0 rfl .plain rfl (AV (α:=Ta) (xs:=([(⟨c0,d0⟩:Ta)]:List Ta)) (vs:=[.agg ((ab c0 ++ ab d0)).toArray]) (ds' :=(ab c0 ++ ab d0)) rfl t0 cK rfl (e1 rfl) (by kernel_rfl) rfl) fun E1 v1 u0 P0=>bk h fun p1 d1 h=>?_
 have A0:=Tt K0 (Tt M0 P0)
 refine BJ (i:=10) (rk b0) (RO.doesL (m' :=2047) (sk b0) rfl rfl .plain rfl (Bl (α:=Ta) (ys:=([(⟨c0,d0⟩:Ta)]:List Ta)) d1 u0 (fun _ _=>.t2) cK rfl rfl (AO z0 A0) (BH (α:=Ta) u0 .hd (AJ (cs:=(ab c0 ++ ab d0)) (xs:=(([(⟨c0,d0⟩:Ta)]:List Ta):List Ta)) u0 L (AC (cs:=(ab c0 ++ ab d0)) (ds:=[]) (aT c0 d0) (AR _ _))))) (fun k1 F1 ⟨E0,H0,Q0,R0⟩=>?_))
 refine BJ (i:=11) (rk b0) (RO.val (m' :=4095) (sk b0) rfl .plain rfl (Bo rfl) ?_)
 refine AN (dk b0)<|Aw<|Am<|Ab (Bc (i:=g0) (j:=1) rfl rfl (by omega))<|Ac rfl<|Aa ?_
 obtain ⟨I0,y0⟩:=AB H0 .d2
 exact F0 (g0 + 1,p1,k1,E0) I0 (Tt J0 (Tt A0 (Tt Q0 y0))) (AO R0 y0) h
 refine Ba rfl ?_
 have h:=V0 _ h
 try dsimp only at h
 refine Ae<|Ac rfl<|Ag rfl<|Aa<|Ar rfl ?_
 have v0:=Bw s0 .hd
 have A1:=Bx s0 .hd
 have b1:=By (α:=Ta) (v:=k0) (xs:=p0) v0 L (Bg (α:=Ta) s0 .hd z0 hL)
 refine Bb hb0 func13 rfl rfl ?_
 cases h
 exact ⟨v0.ag,fun p q=>⟨k0,rfl,v0.kd b1 q⟩⟩
def aV_p (_n:Nat) (a0:Tf):Option Int:=
  (if a0.fc = true then some (-1:Int) else (if a0.fk.length = 0 then some (0:Int) else some (1:Int)))
theorem aV_c (n:Nat) {L w} (_hL:hl L w) (a0:Tf) {v0_1:Value} (h0_1:Rep.R w L [v0_1] a0.fk)  {r:Int} (h:aV_p n a0 = some r) :
 Cl 67 #[.agg #[.bool a0.fc,v0_1]] w (ai w fun _ u=>u = vI r):=by
 unfold aV_p at h
 refine AL func67 rfl rfl rfl fun _ cs0 hb0=>Ae<|RG.bx (AK w) rfl rfl fun q0 j0 b0 k0=>Ag rfl<|Aa<|Aj<|Av<|Ae<|Bk 0 rfl<|Bd rfl ((b0.memA .hd) 0 _ rfl)<|Ag rfl<|Aa<|MX.ifb rfl h (fun d0 h=>?_) (fun d0 h=>?_)
 refine Ae<|Ag rfl<|Aa<|Ar rfl<|Bb hb0 func67 rfl rfl ?_
 cases h
 exact b0.gv
 refine Ae<|Bk 1 rfl<|Bd rfl ((b0.memA .hd) 1 _ rfl) ?_
 have c0:=AG h0_1 b0
 have p0:a0.fk.length <= 281474976710656:=AX c0
 refine Ab (AY (xs:=a0.fk) underlying105 rfl c0)<|Ab (FV.eqlN (i:=a0.fk.length) (j:=0) rfl rfl)<|Ag rfl<|Aa<|AW rfl h (fun g0 h=>?_) (fun g0 h=>?_)
 refine Ae<|Ag rfl<|Aa<|Ar rfl<|Bb hb0 func67 rfl rfl ?_
 cases h
 exact b0.gv
 refine Aq<|Aw<|Ae<|Ag rfl<|Aa<|Ar rfl<|Bb hb0 func67 rfl rfl ?_
 cases h
 exact b0.gv
def al_p (n:Nat) (a0:Tb):Option Tc:=
  (bK_p n a0.fN).bind fun b0=>(bK_p n a0.fD).bind fun c0=>some (⟨b0,c0⟩:Tc)
theorem al_c (n:Nat) {L w} (hL:hl L w) (a0:Tb)  {r:Tc} (h:al_p n a0 = some r) :
 Cl 68 #[.agg ((ab a0)).toArray] w (ai w fun w' u=>∃ v0_1 v0_3:Value,u = .agg #[.bool r.fj.fc,v0_1,.bool r.fh.fc,v0_3]/\Rep.R w' L [v0_1] r.fj.fk/\Rep.R w' L [v0_3] r.fh.fk):=by
 unfold al_p at h
 refine AL func68 rfl rfl rfl fun _ cs0 hb0=>Ae<|RG.bx (AK w) rfl rfl fun X0 J0 z0 Q0=>RG.nl [.bool false,vN,.bool false,vN] z0 fun Y0 K0 j0 R0=>Aa<|Aj<|du 7 fun b0 c0=>Rv 0 b0 rfl c0 (fun _=>Bh 0 rfl)<|Rx 1 228 b0 rfl c0 (AQ (cs:=(aj a0.fN)) rfl rfl (ae (j0.memA .t1) 0 8))<|Rv 3 b0 rfl c0 (fun _=>Bh 8 rfl)<|Rx 4 224 b0 rfl c0 (AQ (cs:=(aj a0.fD)) rfl rfl (ae (j0.memA .t1) 8 8))<|bk h fun p0 F0 h=>AZ 2 31 b0 rfl .plain (bd 135) rfl (e1 rfl) (fun p q=>bK_c n (j0.hL hL q) a0.fN F0) rfl fun Z0 V0 B0 ⟨d0,hu_,y0⟩=>?_
 subst hu_
 obtain ⟨t0,U0⟩:=j0.agr B0
 refine bk h fun q0 G0 h=>AZ 5 63 b0 rfl .plain (bd 135) rfl (e1 rfl) (fun p q=>bK_c n (t0.hL hL q) a0.fD G0) rfl fun b1 W0 C0 ⟨g0,hu_,s0⟩=>?_
 subst hu_
 obtain ⟨A0,u0⟩:=t0.agr C0
 have x0:=Af y0 u0
 obtain ⟨H0,M0,D0,_⟩:=Bi x0
 obtain ⟨I0,P0,E0,_⟩:=Bi s0
 refine Rv 6 b0 rfl c0 (fun _=>AS (vs:=[.agg #[.bool p0.fc,d0],.agg #[.bool q0.fc,g0]]) (u:=.agg #[.bool p0.fc,d0,.bool q0.fc,g0]) (e2 rfl rfl) (fun p=>by rw [D0,E0]; try kernel_rfl))<|BC 7 255 b0 rfl rfl .plain (AD (news:=[.bool p0.fc,d0,.bool q0.fc,g0]) A0 .hd rfl rfl rfl rfl rfl rfl (o4 rfl (Az x0) rfl (Az s0))) fun c1 k0 v0=>AN (dk b0)<|Ar rfl<|Au hb0 func68 rfl (.cons (.many (cs:=[.bool p0.fc,d0,.bool q0.fc,g0]) rfl rfl (k0.memA .hd)) .nil) rfl ?_
 cases h
 exact ⟨k0.ag,fun p q=>⟨d0,g0,rfl,k0.kd (Af y0 (Tt u0 v0)) q,k0.kd (Af s0 v0) q⟩⟩
def cO_p (n:Nat) (a0:Int):Option Tf:=
  (cS_p n a0).bind fun b0=>(bK_p n b0).bind fun c0=>some c0
theorem cO_c (n:Nat) {L w} (hL:hl L w) {a0:Int}  {r:Tf} (h:cO_p n a0 = some r) :
 Cl 132 #[vI a0] w (ai w fun w' u=>∃ v0_1:Value,u = .agg #[.bool r.fc,v0_1]/\Rep.R w' L [v0_1] r.fk):=by
 unfold cO_p at h
 refine AL func132 rfl rfl rfl fun _ cs0 hb0=>Ae<|RG.nl [.bool false,vN] (AK w) fun A0 v0 b0 x0=>Aa<|Ae<|Ac rfl<|bk h fun j0 t0 h=>Bj (.agg ((aj j0)).toArray) (bd 32) rfl (e1 rfl) (fun p q=>cS_c n (b0.hL0 hL q)  t0) rfl<|bk h fun k0 u0 h=>jE (bd 135) rfl (e1 rfl) (fun p q=>bK_c n (b0.hL hL q) j0 u0) rfl fun B0 z0 s0 ⟨d0,hu_,g0⟩=>?_
 subst hu_
 obtain ⟨p0,y0⟩:=b0.agr s0
 refine AT [.bool k0.fc,d0] p0 .hd (o2 rfl (Az g0)) fun C0 c0 q0=>Aa<|Ar rfl<|Au hb0 func132 rfl (.cons (.many (cs:=[.bool k0.fc,d0]) rfl rfl (c0.memA .hd)) .nil) rfl ?_
 cases h
 exact ⟨c0.ag,fun p q=>⟨d0,rfl,c0.kd (Af g0 q0) q⟩⟩
def cC_p (n:Nat) (a0:Tf) (a1:Tf):Option Tf:=
  (bA_p n a1).bind fun b0=>(bI_p n a0 b0).bind fun c0=>some c0
theorem cC_c (n:Nat) {L w} (hL:hl L w) (a0:Tf) {v0_1:Value} (h0_1:Rep.R w L [v0_1] a0.fk) (a1:Tf) {v1_1:Value} (h1_1:Rep.R w L [v1_1] a1.fk)  {r:Tf} (h:cC_p n a0 a1 = some r) :
 Cl 164 #[.agg #[.bool a0.fc,v0_1],.agg #[.bool a1.fc,v1_1]] w (ai w fun w' u=>∃ v0_1:Value,u = .agg #[.bool r.fc,v0_1]/\Rep.R w' L [v0_1] r.fk):=by
 unfold cC_p at h
 refine AL func164 rfl rfl rfl fun _ cs0 hb0=>Ae<|RG.bx (AK w) rfl rfl fun R0 D0 s0 G0=>RG.bx s0 rfl rfl fun U0 E0 t0 H0=>RG.nl [.bool false,vN] t0 fun V0 F0 c0 I0=>Aa<|Aj<|du 4 fun b0 p0=>Rx 0 24 b0 rfl p0 (AA rfl (c0.memA .t2))<|Rx 1 28 b0 rfl p0 (AA rfl (c0.memA .t1))<|bk h fun C0 A0 h=>AZ 2 7 b0 rfl .plain (bd 145) rfl (e1 rfl) (fun p q=>bA_c n (c0.hL hL q) a1 (c0.km h1_1 q) A0) rfl fun W0 P0 x0 ⟨M0,hu_,z0⟩=>?_
 subst hu_
 obtain ⟨d0,J0⟩:=c0.agr x0
 refine bk h fun q0 B0 h=>AZ 3 15 b0 rfl .plain (bd 141) rfl (e2 rfl rfl) (fun p q=>bI_c n (d0.hL hL q) a0 (d0.km h0_1 q) C0 (Ah z0 q) B0) rfl fun X0 Q0 y0 ⟨j0,hu_,k0⟩=>?_
 subst hu_
 obtain ⟨u0,K0⟩:=d0.agr y0
 refine BC 4 31 b0 rfl rfl .plain (AD (news:=[.bool q0.fc,j0]) u0 .hd rfl rfl rfl rfl rfl rfl (o2 rfl (Az k0))) fun Y0 g0 v0=>AN (dk b0)<|Ar rfl<|Au hb0 func164 rfl (.cons (.many (cs:=[.bool q0.fc,j0]) rfl rfl (g0.memA .hd)) .nil) rfl ?_
 cases h
 exact ⟨g0.ag,fun p q=>⟨j0,rfl,g0.kd (Af k0 v0) q⟩⟩
def ca_p (n:Nat) (a0:Tf) (a1:Tf):Option Int:=
  (cC_p n a0 a1).bind fun b0=>(aV_p n b0).bind fun c0=>some c0
theorem ca_c (n:Nat) {L w} (hL:hl L w) (a0:Tf) {v0_1:Value} (h0_1:Rep.R w L [v0_1] a0.fk) (a1:Tf) {v1_1:Value} (h1_1:Rep.R w L [v1_1] a1.fk)  {r:Int} (h:ca_p n a0 a1 = some r) :
 Cl 134 #[.agg #[.bool a0.fc,v0_1],.agg #[.bool a1.fc,v1_1]] w (ai w fun _ u=>u = vI r):=by
 unfold ca_p at h
 refine AL func134 rfl rfl rfl fun _ cs0 hb0=>Ae<|RG.bx (AK w) rfl rfl fun B0 t0 d0 v0=>RG.bx d0 rfl rfl fun C0 u0 b0 x0=>Ag rfl<|Aa<|Ae<|Ab (AA rfl (b0.memA .t1))<|Ab (AA rfl (b0.memA .hd))<|bk h fun q0 k0 h=>jE (bd 164) rfl (e2 rfl rfl) (fun p q=>cC_c n (b0.hL hL q) a0 (b0.km h0_1 q) a1 (b0.km h1_1 q) k0) rfl fun D0 A0 g0 ⟨z0,hu_,j0⟩=>?_
 subst hu_
 obtain ⟨c0,y0⟩:=b0.agr g0
 refine bk h fun s0 p0 h=>Bj (vI s0) (bd 67) rfl (e1 rfl) (fun p q=>aV_c n (c0.hL0 hL q) q0 (c0.kd j0 q) p0) rfl<|Ag rfl<|Aa<|Ar rfl<|Bb hb0 func134 rfl rfl ?_
 cases h
 exact c0.gv
def bP_p (n:Nat) (a0:Tb):Option Int:=
  (cO_p n (1:Int)).bind fun c0=>(al_p n a0).bind fun b0=>(aV_p n b0.fh).bind fun d0=>(if d0 <= 0 then some (20:Int) else (bn_p n b0.fj b0.fh).bind fun g0=>(ca_p n g0 c0).bind fun j0=>(if j0 = 0 then some (0:Int) else some (20:Int)))
theorem bP_c (n:Nat) {L w} (hL:hl L w) (a0:Tb)  {r:Int} (h:bP_p n a0 = some r) :
 Cl 65 #[.agg ((ab a0)).toArray] w (ai w fun _ u=>u = vI r):=by
 unfold bP_p at h
 refine AL func65 rfl rfl rfl fun _ cs0 hb0=>Ae<|RG.bx (AK w) rfl rfl fun y1 g1 t0 p1=>Ag rfl<|Aa<|Ae<|bk h fun B0 W0 h=>jE (bd 132) rfl (e1 rfl) (fun p q=>cO_c n (t0.hL hL q)  W0) rfl fun z1 u1 Q0 ⟨c1,hu_,x0⟩=>?_
 subst hu_
 obtain ⟨G0,q1⟩:=t0.agr Q0
 refine RG.nl [.bool false,vN] G0 fun A1 j1 H0 u0=>AT [.bool B0.fc,c1] H0 .hd (o2 rfl (Az (Af x0 u0))) fun B1 p0 K0=>Aa<|Ae<|Ab (AA rfl (p0.memA .t1))<|bk h fun g0 X0 h=>jE (bd 68) rfl (e1 rfl) (fun p q=>al_c n (p0.hL hL q) a0 X0) rfl fun C1 v1 R0 ⟨A0,s0,hu_,y0,z0⟩=>?_
 subst hu_
 obtain ⟨I0,M0⟩:=p0.agr R0
 refine RG.nl [.bool false,vN,.bool false,vN] I0 fun D1 k1 J0 k0=>AT [.bool g0.fj.fc,A0,.bool g0.fh.fc,s0] J0 .hd (o4 rfl (Az (Af y0 k0)) rfl (Az (Af z0 k0))) fun E1 d0 q0=>Aa<|Aj<|Aj<|du 14 fun b0 c0=>Rv 0 b0 rfl c0 (fun _=>Bh 2 rfl)<|Rx 1 16380 b0 rfl c0 (AQ (cs:=[.bool g0.fh.fc,s0]) rfl rfl (ae (d0.memA .hd) 2 2))<|bk h fun C0 Y0 h=>?_
 have v0:=Af z0 (Tt k0 q0)
 refine RD.cq 2 7 16376 (vI C0) b0 rfl c0 (bd 67) rfl (e1 rfl) (fun p q=>aV_c n (d0.hL0 hL q) g0.fh (d0.kd v0 q) Y0) rfl<|Rv 3 b0 rfl c0 (fun _=>FV.leq (i:=C0) (j:=0) rfl rfl)<|Rv 4 b0 rfl c0 (fun _=>Al rfl)<|RD.ifd (s:=12) rfl h (fun E0 h=>?_) (fun E0 h=>?_)
 refine BF 8191 1 [(5,13),(6,14),(7,15),(8,16),(9,17),(10,18),(11,19),(12,20)] (F:=[(12,true)]) (U:=[]) b0 c0 (.cons rfl .nil) .nil ?_
 dsimp only [aN,List.map]
 refine Rv 13 b0 rfl c0 (fun _=>BU rfl rfl)<|AN (dk b0)<|AE rfl<|Ae<|Ag rfl<|Aa<|Ar rfl<|Bb hb0 func65 rfl rfl ?_
 cases h
 exact d0.gv
 refine BQ 5 63 b0 rfl c0 (.yes rfl rfl) (fun _=>Bh 0 rfl) rfl<|RD.val (i:=6) (m' :=127) (W:=14848) (tk b0) rfl c0 (.yes rfl rfl) (AQ (cs:=[.bool g0.fj.fc,A0]) rfl rfl (ae (d0.memA .hd) 0 2)) rfl<|BQ 7 255 b0 rfl c0 (.yes rfl rfl) (fun _=>Bh 2 rfl) rfl<|RD.val (i:=8) (m' :=511) (W:=14848) (tk b0) rfl c0 (.yes rfl rfl) (AQ (cs:=[.bool g0.fh.fc,s0]) rfl rfl (ae (d0.memA .hd) 2 2)) rfl<|RD.val (i:=10) (m' :=1535) (W:=14336) (tk b0) rfl c0 (.yes rfl rfl) (AA rfl (d0.memA .t1)) rfl<|bk h fun d1 Z0 h=>AZ 9 2047 b0 rfl (.yes rfl rfl) (bd 133) rfl (e2 rfl rfl) (fun p q=>bn_c n (d0.hL hL q) g0.fj (Ah (Af y0 (Tt k0 q0)) q) g0.fh (Ah v0 q) Z0) rfl fun F1 x1 U0 ⟨s1,hu_,V0⟩=>?_
 subst hu_
 obtain ⟨j0,P0⟩:=d0.agr U0
 refine bk h fun D0 b1 h=>RD.callq (i:=11) (m' :=4095) (W:=12288) (tk b0) rfl c0 (v:=vI D0) (fst:=[]) (cap:=[]) (.yes rfl rfl) (bd 134) rfl (e2 rfl rfl) (fun p q=>ca_c n (j0.hL0 hL q) d1 (j0.kd V0 q) B0 (j0.kd (Af x0 (Tt u0 (Tt K0 (Tt M0 (Tt k0 (Tt q0 P0)))))) q) b1) rfl<|BQ 12 8191 b0 rfl c0 (.yes rfl rfl) (fun _=>BB (i:=D0) (j:=0) rfl rfl) rfl<|Rv 13 b0 rfl c0 (fun _=>Bq rfl rfl)<|AN (dk b0)<|BI rfl h (fun F0 h=>?_) (fun F0 h=>?_)
 refine Aq<|Ae<|Ag rfl<|Aa<|Ar rfl<|Bb hb0 func65 rfl rfl ?_
 cases h
 exact j0.gv
 refine Ae<|Ag rfl<|Aa<|Ar rfl<|Bb hb0 func65 rfl rfl ?_
 cases h
 exact j0.gv
def au (x:Ta):List Value:=[vU x.fm.fN.1,vU x.fm.fN.2.1,vU x.fm.fN.2.2.1,vU x.fm.fN.2.2.2.1,vU x.fm.fN.2.2.2.2.1,vU x.fm.fN.2.2.2.2.2.1,vU x.fm.fN.2.2.2.2.2.2.1,vU x.fm.fN.2.2.2.2.2.2.2,vU x.fm.fD.1,vU x.fm.fD.2.1,vU x.fm.fD.2.2.1,vU x.fm.fD.2.2.2.1,vU x.fm.fD.2.2.2.2.1,vU x.fm.fD.2.2.2.2.2.1,vU x.fm.fD.2.2.2.2.2.2.1,vU x.fm.fD.2.2.2.2.2.2.2,vU x.fP.fN.1,vU x.fP.fN.2.1,vU x.fP.fN.2.2.1,vU x.fP.fN.2.2.2.1,vU x.fP.fN.2.2.2.2.1,vU x.fP.fN.2.2.2.2.2.1,vU x.fP.fN.2.2.2.2.2.2.1,vU x.fP.fN.2.2.2.2.2.2.2,vU x.fP.fD.1,vU x.fP.fD.2.1,vU x.fP.fD.2.2.1,vU x.fP.fD.2.2.2.1,vU x.fP.fD.2.2.2.2.1,vU x.fP.fD.2.2.2.2.2.1,vU x.fP.fD.2.2.2.2.2.2.1,vU x.fP.fD.2.2.2.2.2.2.2]
def ba_p (n:Nat) (a0:Ta):Option Tc:=
  (al_p n a0.fP).bind fun b0=>some b0
theorem ba_c (n:Nat) {L w} (hL:hl L w) (a0:Ta)  {r:Tc} (h:ba_p n a0 = some r) :
 Cl 66 #[.agg ((au a0)).toArray] w (ai w fun w' u=>∃ v0_1 v0_3:Value,u = .agg #[.bool r.fj.fc,v0_1,.bool r.fh.fc,v0_3]/\Rep.R w' L [v0_1] r.fj.fk/\Rep.R w' L [v0_3] r.fh.fk):=by
 unfold ba_p at h
 refine AL func66 rfl rfl rfl fun _ cs0 hb0=>Ae<|RG.bx (AK w) rfl rfl fun D0 x0 s0 z0=>RG.nl [.bool false,vN,.bool false,vN] s0 fun E0 y0 d0 A0=>Aa<|Ae<|Bk 16 rfl<|Ab (AQ (cs:=(ab a0.fP)) rfl rfl (ae (d0.memA .t1) 16 16))<|bk h fun c0 v0 h=>jE (bd 68) rfl (e1 rfl) (fun p q=>al_c n (d0.hL hL q) a0.fP v0) rfl fun F0 C0 u0 ⟨g0,j0,hu_,p0,q0⟩=>?_
 subst hu_
 obtain ⟨t0,B0⟩:=d0.agr u0
 refine AT [.bool c0.fj.fc,g0,.bool c0.fh.fc,j0] t0 .hd (o4 rfl (Az p0) rfl (Az q0)) fun G0 b0 k0=>Aa<|Ar rfl<|Au hb0 func66 rfl (.cons (.many (cs:=[.bool c0.fj.fc,g0,.bool c0.fh.fc,j0]) rfl rfl (b0.memA .hd)) .nil) rfl ?_
 cases h
 exact ⟨b0.ag,fun p q=>⟨g0,j0,rfl,b0.kd (Af p0 k0) q,b0.kd (Af q0 k0) q⟩⟩
def cJ_p (_n:Nat) (a0:UInt64) (a1:UInt64):Option (UInt64 × UInt64):=
  (some (((shrU a0 32) * (a1 &&& (4294967295:UInt64))) + (shrU ((a0 &&& (4294967295:UInt64)) * (a1 &&& (4294967295:UInt64))) 32))).bind fun u1=>(some (shrU ((u1 &&& (4294967295:UInt64)) + ((a0 &&& (4294967295:UInt64)) * (shrU a1 32))) 32)).bind fun u2=>some ((((shrU a0 32) * (shrU a1 32)) + (shrU u1 32)) + u2,a0 * a1)
theorem cJ_c (n:Nat) {L w} (_hL:hl L w) (a0:UInt64) (a1:UInt64)  {r:UInt64 × UInt64} (h:cJ_p n a0 a1 = some r) :
 Cl 190 #[vU a0,vU a1] w (ai w fun _ u=>u = .tuple #[vU r.1,vU r.2]):=by
 unfold cJ_p at h
 have hS0:=AK w
 refine AL func190 rfl rfl rfl fun _ cs0 hb0=>Ae<|Ag rfl<|Ag rfl<|Aa<|Ae<|Ac rfl<|Ab (FV.andU (a:=a0) (b:=(4294967295:UInt64)) rfl rfl)<|Ag rfl<|Aa<|Ae<|Ac rfl<|Ab (FV.shrU (a:=a0) (j:=32) rfl rfl)<|Ag rfl<|Aa<|Ae<|Ac rfl<|Ab (FV.andU (a:=a1) (b:=(4294967295:UInt64)) rfl rfl)<|Ag rfl<|Aa<|Ae<|Ac rfl<|Ab (FV.shrU (a:=a1) (j:=32) rfl rfl)<|Ag rfl<|Aa<|Ae<|Ac rfl<|Ac rfl<|Ab (FV.mulU (a:=a0 &&& (4294967295:UInt64)) (b:=a1 &&& (4294967295:UInt64)) rfl rfl)<|Ag rfl<|Aa<|Ae<|Ac rfl<|Ac rfl<|Ab (FV.mulU (a:=shrU a0 32) (b:=a1 &&& (4294967295:UInt64)) rfl rfl)<|Ac rfl<|Ab (FV.shrU (a:=(a0 &&& (4294967295:UInt64)) * (a1 &&& (4294967295:UInt64))) (j:=32) rfl rfl)<|bk h fun u1 hu1 h=>Ab (FV.as (FV.addU (a:=(shrU a0 32) * (a1 &&& (4294967295:UInt64))) (b:=shrU ((a0 &&& (4294967295:UInt64)) * (a1 &&& (4294967295:UInt64))) 32) rfl rfl) (congrArg (fun z:UInt64=>Value.int .u64 (z.toNat:Int)) (Option.some.inj hu1)))<|Ag rfl<|Aa<|Ae<|Ac rfl<|Ab (FV.andU (a:=u1) (b:=(4294967295:UInt64)) rfl rfl)<|Ag rfl<|Aa<|Ae<|Ac rfl<|Ab (FV.shrU (a:=u1) (j:=32) rfl rfl)<|Ag rfl<|Aa<|Ae<|Ac rfl<|Ac rfl<|Ac rfl ?_
 refine Ab (FV.mulU (a:=a0 &&& (4294967295:UInt64)) (b:=shrU a1 32) rfl rfl)<|Ab (FV.addU (a:=u1 &&& (4294967295:UInt64)) (b:=(a0 &&& (4294967295:UInt64)) * (shrU a1 32)) rfl rfl)<|Ag rfl<|Aa<|Ae<|Ac rfl<|Ac rfl<|Ab (FV.mulU (a:=shrU a0 32) (b:=shrU a1 32) rfl rfl)<|Ac rfl<|Ab (FV.addU (a:=(shrU a0 32) * (shrU a1 32)) (b:=shrU u1 32) rfl rfl)<|Ac rfl<|bk h fun u2 hu2 h=>Ab (FV.as (FV.shrU (a:=(u1 &&& (4294967295:UInt64)) + ((a0 &&& (4294967295:UInt64)) * (shrU a1 32))) (j:=32) rfl rfl) (congrArg (fun z:UInt64=>Value.int .u64 (z.toNat:Int)) (Option.some.inj hu2)))<|Ab (FV.addU (a:=((shrU a0 32) * (shrU a1 32)) + (shrU u1 32)) (b:=u2) rfl rfl)<|Ag rfl<|Aa<|Ae<|Ac rfl<|Ac rfl<|Ab (FV.mulU (a:=a0) (b:=a1) rfl rfl)<|Ag rfl<|Aa<|Ar rfl<|Au hb0 func190 rfl (.cons (.tmp rfl) (.cons (.tmp rfl) .nil)) rfl ?_
 cases h
 exact hS0.gv
def bc_l1 (n:Nat) (a1:List UInt64) (s0:UInt64) (d0:Nat) (q0:UInt64 × Nat × (List UInt64) -> Option ((List UInt64) × UInt64)):UInt64 × Nat × (List UInt64) -> Option ((List UInt64) × UInt64)
  | (g0,b0,c0)=>(if b0 < a1.length then (a1[b0]?).bind fun t0=>(cJ_p n s0 t0).bind fun j0=>(c0[d0 + b0]?).bind fun u0=>(add64 u0 j0.2 (0:UInt64)).bind fun k0=>(add64 k0.1 g0 (0:UInt64)).bind fun p0=>(put c0 ((d0 + b0:Nat):Int) p0.1).bind fun v0=>q0 ((j0.1 + k0.2) + p0.2,b0 + 1,v0) else some (c0,g0))
def bc_l2 (n:Nat) (a0:List UInt64) (a1:List UInt64) (g0:Nat × (List UInt64) -> Option (List UInt64)):Nat × (List UInt64) -> Option (List UInt64)
  | (b0,c0)=>(if b0 < a0.length then (a0[b0]?).bind fun k0=>Option.bind (am (bc_l1 n a1 k0 b0) n (0,0,c0)) (fun (d0,j0)=>(d0[b0 + a1.length]?).bind fun _x490=>(put d0 ((b0 + a1.length:Nat):Int) j0).bind fun p0=>g0 (b0 + 1,p0)) else some c0)
def bc_p (n:Nat) (a0:List UInt64) (a1:List UInt64):Option (List UInt64):=
  (mk ((a0.length + a1.length:Nat):Int) (0:UInt64)).bind fun b0=>Option.bind (am (bc_l2 n a0 a1) n (0,b0)) (fun c0=>some c0)
theorem bc_c (n:Nat) {L w} (hL:hl L w) {a0:List UInt64} {v0_0:Value} (h0_0:Rep.R w L [v0_0] a0) {a1:List UInt64} {v1_0:Value} (h1_0:Rep.R w L [v1_0] a1)  {r:List UInt64} (h:bc_p n a0 a1 = some r) :
 Cl 167 #[v0_0,v1_0] w (ai w fun w' u=>∃ v0_0:Value,u = v0_0/\Rep.R w' L [v0_0] r):=by
 unfold bc_p at h
 refine AL func167 rfl rfl rfl fun _ cs0 hb0=>Ae<|Ag rfl<|Aa<|Ae<|Ac rfl ?_
 have hl1:a0.length <= 281474976710656:=AX h0_0
 refine Ab (AY (xs:=a0) underlying105 rfl h0_0)<|Ac rfl ?_
 have hl2:a1.length <= 281474976710656:=AX h1_0
 refine Ab (AY (xs:=a1) underlying105 rfl h1_0)<|Ab (Bc (i:=a0.length) (j:=a1.length) rfl rfl (by omega))<|bk h fun R0 J0 h=>Ao .plain rfl (Does.mk (α:=UInt64) J0 (AK w) dH rfl) fun Q2 j0 z0 I2=>Ag rfl<|Aa<|Aj<|Ae<|Ac rfl<|Ab (AY (xs:=a0) underlying105 rfl (AG h0_0 z0))<|Ac rfl<|Aa<|Av ?_
 obtain ⟨M2,U1,I1⟩:=ao h
 refine BR (α:=Nat × (List UInt64) × (List Value)) (fun ⟨b0,d0,k0⟩=>[(1,v1_0),(5,(.slice (some ⟨j0,0,none⟩) ((a0.length + a1.length:Nat):Int).toNat ((a0.length + a1.length:Nat):Int).toNat)),(22,v0_0),(23,vI ((a0.length:Nat):Int)),(24,vI ((b0:Nat):Int))]) (fun ⟨b0,d0,k0⟩=>[rr w 30 UInt64 (.slice (some ⟨j0,0,none⟩) ((a0.length + a1.length:Nat):Int).toNat ((a0.length + a1.length:Nat):Int).toNat) d0.length k0]) (fun ⟨b0,d0,k0⟩ K0=>Cells K0 (bl [rr w 30 UInt64 (.slice (some ⟨j0,0,none⟩) ((a0.length + a1.length:Nat):Int).toNat ((a0.length + a1.length:Nat):Int).toNat) d0.length k0] ++ L) k0 d0) (fun ⟨b0,d0,k0⟩=>(b0,d0)) (0,R0,(List.replicate ((a0.length + a1.length:Nat):Int).toNat [vW 0]).flatten) U1 z0 (AJ (cs:=(List.replicate ((a0.length + a1.length:Nat):Int).toNat [vW 0]).flatten) (xs:=R0) z0 L (Cells.mk J0 rfl)) ?_
 rintro A2 ⟨b0,d0,k0⟩ K0 q1 t0 x1 F0 h
 unfold bc_l2 at h
 try dsimp only at h
 refine Ae<|Ab (AU (i:=b0) (j:=a0.length) rfl rfl)<|Aa<|Aj<|AW rfl h (fun Z0 h=>?_) (fun Z0 h=>?_)
 refine Aq<|Aj<|Av<|Ae<|Ac rfl<|bk h fun D0 c2 h=>?_
 obtain ⟨y2,C2,C1,K1,c1,W1,P1⟩:=Be (AG h0_0 t0) c2
 have D1:c1 = [vU D0]:=W1; subst D1
 refine Ab (Bf 1 b0 rfl C1 rfl rfl K1)<|Bd rfl (P1 0 _ rfl)<|Ag rfl<|Ag rfl<|Aa<|Ae<|Ag rfl<|Aa<|Aj<|Ae<|Ac rfl<|Ab (AY (xs:=a1) underlying105 rfl (AG h1_0 t0))<|Ac rfl<|Aa<|Av ?_
 obtain ⟨P2,V1,J1⟩:=ao h
 refine BR (α:=UInt64 × Nat × (List UInt64) × (List Value)) (fun ⟨s0,c0,p0,q0⟩=>[(1,v1_0),(5,(.slice (some ⟨j0,0,none⟩) ((a0.length + a1.length:Nat):Int).toNat ((a0.length + a1.length:Nat):Int).toNat)),(22,v0_0),(23,vI ((a0.length:Nat):Int)),(24,vI ((b0:Nat):Int)),(6,vI ((b0:Nat):Int)),(7,vU D0),(8,vU s0),(29,v1_0),(30,vI ((a1.length:Nat):Int)),(31,vI ((c0:Nat):Int))]) (fun ⟨s0,c0,p0,q0⟩=>[rr w 30 UInt64 (.slice (some ⟨j0,0,none⟩) ((a0.length + a1.length:Nat):Int).toNat ((a0.length + a1.length:Nat):Int).toNat) p0.length q0]) (fun ⟨s0,c0,p0,q0⟩ M0=>Cells M0 (bl [rr w 30 UInt64 (.slice (some ⟨j0,0,none⟩) ((a0.length + a1.length:Nat):Int).toNat ((a0.length + a1.length:Nat):Int).toNat) p0.length q0] ++ L) q0 p0) (fun ⟨s0,c0,p0,q0⟩=>(s0,c0,p0)) (0,0,d0,k0) V1 t0 F0 ?_
 rintro B2 ⟨s0,c0,p0,q0⟩ M0 s1 g0 E0 v0 h
 unfold bc_l1 at h
 try dsimp only at h
 refine Ae<|Ab (AU (i:=c0) (j:=a1.length) rfl rfl)<|Aa<|Aj<|AW rfl h (fun b1 h=>?_) (fun b1 h=>?_)
 refine Aq<|Aj<|Av<|Ae<|Ac rfl<|bk h fun P0 d2 h=>?_
 obtain ⟨z2,D2,E1,M1,d1,X1,Q1⟩:=Be (AG h1_0 g0) d2
 have F1:d1 = [vU P0]:=X1; subst F1
 refine Ab (Bf 1 c0 rfl E1 rfl rfl M1)<|Bd rfl (Q1 0 _ rfl)<|Ag rfl<|Ag rfl<|Aa<|Ae<|Ac rfl<|Ac rfl<|bk h fun u0 q2 h=>Bj (.tuple #[vU u0.1,vU u0.2]) (bd 190) rfl (e2 rfl rfl) (fun p q=>cJ_c n (g0.hL0 hL q) D0 P0 q2) rfl<|Ac rfl<|Ab (Ai rfl rfl)<|Ab (Ai rfl rfl)<|Ag rfl<|Ag rfl<|Aa<|Ae<|Ac rfl<|Ac rfl<|Ac rfl<|Ab (Bc (i:=b0) (j:=c0) rfl rfl (by omega))<|bk h fun Q0 g2 h=>?_
 obtain ⟨V0,E2,x0,C0,g1,Y1,R1⟩:=St.nth (α:=UInt64) g0 .hd v0 g2
 obtain ⟨X0,F2,G0⟩:=BE (α:=UInt64) g0 .hd C0
 obtain rfl:V0 = ⟨X0,0,none⟩:=by rw [G0] at x0; cases x0; rfl
 have G1:g1 = [vU Q0]:=Y1; subst G1
 refine Ab (Bf 1 (b0 + c0) rfl x0 rfl rfl C0)<|Bd rfl (R1 0 _ rfl)<|Ac rfl<|bk h fun y0 s2 h=>Ab (FV.add64 (a:=Q0) (b:=u0.2) (c:=(0:UInt64)) func191 rfl rfl rfl rfl rfl rfl rfl s2)<|Ac rfl<|Ab (Ai rfl rfl)<|Ab (Ai rfl rfl)<|Ag rfl<|Ag rfl<|Aa<|Ae<|Ac rfl<|Ac rfl<|bk h fun U0 t2 h=>Ab (FV.add64 (a:=y0.1) (b:=s0) (c:=(0:UInt64)) func191 rfl rfl rfl rfl rfl rfl rfl t2)<|Ac rfl<|Ab (Ai rfl rfl)<|Ab (Ai rfl rfl)<|Ag rfl<|Ag rfl<|Aa<|Am<|Ac rfl<|Ac rfl<|Ac rfl<|Ab (Bc (i:=b0) (j:=c0) rfl rfl (by omega))<|Ac rfl<|Ac rfl<|Ac rfl<|Ab (FV.addU (a:=u0.1) (b:=y0.2) rfl rfl)<|Ac rfl<|Ab (FV.addU (a:=u0.1 + y0.2) (b:=U0.2) rfl rfl)<|Ab (Bf 1 (b0 + c0) rfl x0 rfl rfl C0)<|bk h fun v2 k2 h=>RG.acts' .plain (Acts.set (α:=UInt64) (i:=b0 + c0) k2 g0 G0 (fun _=>.hd) v0 rfl rfl rfl rfl rfl rfl) fun R2 ⟨j1,u1,y1,A1⟩=>Ag rfl<|Aa<|Aw<|Am<|Ab (Bc (i:=c0) (j:=1) rfl rfl (by omega))<|Ac rfl<|Aa<|s1 ((u0.1 + y0.2) + U0.2,c0 + 1,v2,j1) u1 (Tt E0 y1) A1 h
 refine Ba rfl ?_
 have h:=J1 _ h
 try dsimp only at h
 refine Am<|Ac rfl<|Ac rfl<|Ac rfl<|Ab (AY (xs:=a1) underlying105 rfl (AG h1_0 g0))<|Ab (Bc (i:=b0) (j:=a1.length) rfl rfl (by omega))<|Ac rfl<|bk h fun u2 j2 h=>?_
 obtain ⟨W0,G2,B0,I0,k1,Z1,K2⟩:=St.nth (α:=UInt64) g0 .hd v0 j2
 obtain ⟨Y0,H2,H0⟩:=BE (α:=UInt64) g0 .hd I0
 obtain rfl:W0 = ⟨Y0,0,none⟩:=by rw [H0] at B0; cases B0; rfl
 have H1:k1 = [vU u2]:=Z1; subst H1
 refine Ab (Bf 1 (b0 + a1.length) rfl B0 rfl rfl I0)<|bk h fun x2 p2 h=>RG.acts' .plain (Acts.set (α:=UInt64) (i:=b0 + a1.length) p2 g0 H0 (fun _=>.hd) v0 rfl rfl rfl rfl rfl rfl) fun U2 ⟨p1,v1,z1,B1⟩=>Aa<|Aw<|Am<|Ab (Bc (i:=b0) (j:=1) rfl rfl (by omega))<|Ac rfl<|Aa<|q1 (b0 + 1,x2,p1) v1 (Tt x1 (Tt E0 z1)) B1 h
 refine Ba rfl ?_
 have h:=I1 _ h
 try dsimp only at h
 refine Ae<|Ac rfl<|Ag rfl<|Aa<|Ar rfl ?_
 have A0:=Bw t0 .hd
 have J2:=Bx t0 .hd
 have b2:=By (α:=UInt64) (v:=(.slice (some ⟨j0,0,none⟩) ((a0.length + a1.length:Nat):Int).toNat ((a0.length + a1.length:Nat):Int).toNat)) (xs:=d0) A0 L (Bg (α:=UInt64) t0 .hd F0 hL)
 refine Bb hb0 func167 rfl rfl ?_
 cases h
 exact ⟨A0.ag,fun p q=>⟨(.slice (some ⟨j0,0,none⟩) ((a0.length + a1.length:Nat):Int).toNat ((a0.length + a1.length:Nat):Int).toNat),rfl,A0.kd b2 q⟩⟩
def aH_p (n:Nat) (a0:Tf) (a1:Tf):Option Tf:=
  (bc_p n a0.fk a1.fk).bind fun b0=>(ay_p n (!(a0.fc == a1.fc)) b0).bind fun c0=>some c0
theorem aH_c (n:Nat) {L w} (hL:hl L w) (a0:Tf) {v0_1:Value} (h0_1:Rep.R w L [v0_1] a0.fk) (a1:Tf) {v1_1:Value} (h1_1:Rep.R w L [v1_1] a1.fk)  {r:Tf} (h:aH_p n a0 a1 = some r) :
 Cl 136 #[.agg #[.bool a0.fc,v0_1],.agg #[.bool a1.fc,v1_1]] w (ai w fun w' u=>∃ v0_1:Value,u = .agg #[.bool r.fc,v0_1]/\Rep.R w' L [v0_1] r.fk):=by
 unfold aH_p at h
 refine AL func136 rfl rfl rfl fun _ cs0 hb0=>Ae<|RG.bx (AK w) rfl rfl fun Q0 C0 s0 F0=>RG.bx s0 rfl rfl fun R0 D0 t0 G0=>RG.nl [.bool false,vN] t0 fun U0 E0 d0 H0=>Aa<|Aj<|du 11 fun b0 c0=>Rv 0 b0 rfl c0 (fun _=>Bh 0 rfl)<|Rx 1 3088 b0 rfl c0 (Bn rfl ((d0.memA .t2) 0 _ rfl))<|Rv 2 b0 rfl c0 (fun _=>Bh 0 rfl)<|Rx 3 3088 b0 rfl c0 (Bn rfl ((d0.memA .t1) 0 _ rfl))<|Rv 4 b0 rfl c0 (fun _=>FV.neqB (a:=a0.fc) (b:=a1.fc) underlying4 rfl rfl)<|Rv 5 b0 rfl c0 (fun _=>Bh 1 rfl)<|Rx 6 3584 b0 rfl c0 (Bn rfl ((d0.memA .t2) 1 _ rfl))<|Rv 7 b0 rfl c0 (fun _=>Bh 1 rfl)<|Rx 8 3584 b0 rfl c0 (Bn rfl ((d0.memA .t1) 1 _ rfl))<|bk h fun Y0 A0 h=>AZ 9 1023 b0 rfl .plain (bd 167) rfl (e2 rfl rfl) (fun p q=>bc_c n (d0.hL hL q) (d0.km h0_1 q) (d0.km h1_1 q) A0) rfl fun V0 M0 x0 ⟨K0,hu_,z0⟩=>?_
 subst hu_
 obtain ⟨k0,I0⟩:=d0.agr x0
 refine bk h fun q0 B0 h=>AZ 10 2047 b0 rfl .plain (bd 166) rfl (e2 rfl rfl) (fun p q=>ay_c n (k0.hL hL q) (Ah z0 q) B0) rfl fun W0 P0 y0 ⟨j0,hu_,p0⟩=>?_
 subst hu_
 obtain ⟨u0,J0⟩:=k0.agr y0
 refine BC 11 4095 b0 rfl rfl .plain (AD (news:=[.bool q0.fc,j0]) u0 .hd rfl rfl rfl rfl rfl rfl (o2 rfl (Az p0))) fun X0 g0 v0=>AN (dk b0)<|Ar rfl<|Au hb0 func136 rfl (.cons (.many (cs:=[.bool q0.fc,j0]) rfl rfl (g0.memA .hd)) .nil) rfl ?_
 cases h
 exact ⟨g0.ag,fun p q=>⟨j0,rfl,g0.kd (Af p0 v0) q⟩⟩
def aF_p (n:Nat) (a0:Tc) (a1:Tc):Option Int:=
  (aH_p n a0.fj a1.fh).bind fun b0=>(aH_p n a1.fj a0.fh).bind fun c0=>(ca_p n b0 c0).bind fun d0=>some d0
theorem aF_c (n:Nat) {L w} (hL:hl L w) (a0:Tc) {v0_1:Value} (h0_1:Rep.R w L [v0_1] a0.fj.fk) {v0_3:Value} (h0_3:Rep.R w L [v0_3] a0.fh.fk) (a1:Tc) {v1_1:Value} (h1_1:Rep.R w L [v1_1] a1.fj.fk) {v1_3:Value} (h1_3:Rep.R w L [v1_3] a1.fh.fk)  {r:Int} (h:aF_p n a0 a1 = some r) :
 Cl 69 #[.agg #[.bool a0.fj.fc,v0_1,.bool a0.fh.fc,v0_3],.agg #[.bool a1.fj.fc,v1_1,.bool a1.fh.fc,v1_3]] w (ai w fun _ u=>u = vI r):=by
 unfold aF_p at h
 refine AL func69 rfl rfl rfl fun _ cs0 hb0=>Ae<|RG.bx (AK w) rfl rfl fun M0 C0 k0 E0=>RG.bx k0 rfl rfl fun P0 D0 d0 F0=>Ag rfl<|Aa<|Aj<|du 12 fun b0 c0=>Rv 0 b0 rfl c0 (fun _=>Bh 0 rfl)<|Rx 1 3600 b0 rfl c0 (AQ (cs:=[.bool a0.fj.fc,v0_1]) rfl rfl (ae (d0.memA .t1) 0 2))<|Rv 2 b0 rfl c0 (fun _=>Bh 2 rfl)<|Rx 3 3600 b0 rfl c0 (AQ (cs:=[.bool a1.fh.fc,v1_3]) rfl rfl (ae (d0.memA .hd) 2 2))<|Rv 5 b0 rfl c0 (fun _=>Bh 0 rfl)<|Rx 6 3584 b0 rfl c0 (AQ (cs:=[.bool a1.fj.fc,v1_1]) rfl rfl (ae (d0.memA .hd) 0 2))<|Rv 7 b0 rfl c0 (fun _=>Bh 2 rfl)<|Rx 8 3584 b0 rfl c0 (AQ (cs:=[.bool a0.fh.fc,v0_3]) rfl rfl (ae (d0.memA .t1) 2 2))<|bk h fun z0 v0 h=>AZ 4 511 b0 rfl .plain (bd 136) rfl (e2 rfl rfl) (fun p q=>aH_c n (d0.hL hL q) a0.fj (d0.km h0_1 q) a1.fh (d0.km h1_3 q) v0) rfl fun Q0 J0 q0 ⟨H0,hu_,t0⟩=>?_
 subst hu_
 obtain ⟨g0,G0⟩:=d0.agr q0
 refine bk h fun A0 x0 h=>AZ 9 1023 b0 rfl .plain (bd 136) rfl (e2 rfl rfl) (fun p q=>aH_c n (g0.hL hL q) a1.fj (g0.km h1_1 q) a0.fh (g0.km h0_3 q) x0) rfl fun R0 K0 s0 ⟨I0,hu_,u0⟩=>?_
 subst hu_
 obtain ⟨j0,p0⟩:=g0.agr s0
 refine bk h fun B0 y0 h=>RD.cq 10 2047 2048 (vI B0) b0 rfl c0 (bd 134) rfl (e2 rfl rfl) (fun p q=>ca_c n (j0.hL0 hL q) z0 (j0.kd (Af t0 p0) q) A0 (j0.kd u0 q) y0) rfl<|Rv 11 b0 rfl c0 (fun _=>Bo rfl)<|AN (dk b0)<|Ar rfl<|Bb hb0 func69 rfl rfl ?_
 cases h
 exact j0.gv
def cW_p (n:Nat) (a0:Tf):Option Tc:=
  (cO_p n (1:Int)).bind fun b0=>some (⟨a0,b0⟩:Tc)
theorem cW_c (n:Nat) {L w} (hL:hl L w) (a0:Tf) {v0_1:Value} (h0_1:Rep.R w L [v0_1] a0.fk)  {r:Tc} (h:cW_p n a0 = some r) :
 Cl 137 #[.agg #[.bool a0.fc,v0_1]] w (ai w fun w' u=>∃ v0_1 v0_3:Value,u = .agg #[.bool r.fj.fc,v0_1,.bool r.fh.fc,v0_3]/\Rep.R w' L [v0_1] r.fj.fk/\Rep.R w' L [v0_3] r.fh.fk):=by
 unfold cW_p at h
 refine AL func137 rfl rfl rfl fun _ cs0 hb0=>Ae<|RG.bx (AK w) rfl rfl fun M0 D0 u0 H0=>RG.nl [.bool false,vN,.bool false,vN] u0 fun P0 E0 j0 I0=>Aa<|Aj<|du 3 fun b0 t0=>Rx 0 12 b0 rfl t0 (AA rfl (j0.memA .t1))<|bk h fun g0 A0 h=>AZ 1 3 b0 rfl .plain (bd 132) rfl (e1 rfl) (fun p q=>cO_c n (j0.hL hL q)  A0) rfl fun Q0 K0 x0 ⟨c0,hu_,p0⟩=>?_
 subst hu_
 obtain ⟨q0,J0⟩:=j0.agr x0
 have s0:=AG h0_1 q0
 obtain ⟨B0,F0,y0,_⟩:=Bi s0
 obtain ⟨C0,G0,z0,_⟩:=Bi p0
 refine Rv 2 b0 rfl t0 (fun _=>AS (vs:=[.agg #[.bool a0.fc,v0_1],.agg #[.bool g0.fc,c0]]) (u:=.agg #[.bool a0.fc,v0_1,.bool g0.fc,c0]) (e2 rfl rfl) (fun p=>by rw [y0,z0]; try kernel_rfl))<|BC 3 15 b0 rfl rfl .plain (AD (news:=[.bool a0.fc,v0_1,.bool g0.fc,c0]) q0 .hd rfl rfl rfl rfl rfl rfl (o4 rfl (Az s0) rfl (Az p0))) fun R0 d0 v0=>AN (dk b0)<|Ar rfl<|Au hb0 func137 rfl (.cons (.many (cs:=[.bool a0.fc,v0_1,.bool g0.fc,c0]) rfl rfl (d0.memA .hd)) .nil) rfl ?_
 cases h
 exact ⟨d0.ag,fun p q=>⟨v0_1,c0,rfl,d0.k0 h0_1 q,d0.kd (Af p0 v0) q⟩⟩
def aD_p (n:Nat) (a0:Int):Option Tc:=
  (cO_p n a0).bind fun b0=>(cW_p n b0).bind fun c0=>some c0
theorem aD_c (n:Nat) {L w} (hL:hl L w) {a0:Int}  {r:Tc} (h:aD_p n a0 = some r) :
 Cl 71 #[vI a0] w (ai w fun w' u=>∃ v0_1 v0_3:Value,u = .agg #[.bool r.fj.fc,v0_1,.bool r.fh.fc,v0_3]/\Rep.R w' L [v0_1] r.fj.fk/\Rep.R w' L [v0_3] r.fh.fk):=by
 unfold aD_p at h
 refine AL func71 rfl rfl rfl fun _ cs0 hb0=>Ae<|RG.nl [.bool false,vN,.bool false,vN] (AK w) fun I0 B0 j0 C0=>Aa<|Ae<|Ac rfl<|bk h fun A0 y0 h=>jE (bd 132) rfl (e1 rfl) (fun p q=>cO_c n (j0.hL hL q)  y0) rfl fun J0 G0 u0 ⟨F0,hu_,x0⟩=>?_
 subst hu_
 obtain ⟨k0,D0⟩:=j0.agr u0
 refine bk h fun c0 z0 h=>jE (bd 137) rfl (e1 rfl) (fun p q=>cW_c n (k0.hL hL q) A0 (Ah x0 q) z0) rfl fun K0 H0 v0 ⟨d0,g0,hu_,q0,s0⟩=>?_
 subst hu_
 obtain ⟨t0,E0⟩:=k0.agr v0
 refine AT [.bool c0.fj.fc,d0,.bool c0.fh.fc,g0] t0 .hd (o4 rfl (Az q0) rfl (Az s0)) fun M0 b0 p0=>Aa<|Ar rfl<|Au hb0 func71 rfl (.cons (.many (cs:=[.bool c0.fj.fc,d0,.bool c0.fh.fc,g0]) rfl rfl (b0.memA .hd)) .nil) rfl ?_
 cases h
 exact ⟨b0.ag,fun p q=>⟨d0,g0,rfl,b0.kd (Af q0 p0) q,b0.kd (Af s0 p0) q⟩⟩
def aa_p (n:Nat) (a0:Tc) (a1:Tc):Option Tc:=
  (aH_p n a0.fj a1.fh).bind fun b0=>(aH_p n a1.fj a0.fh).bind fun c0=>(bI_p n b0 c0).bind fun d0=>(aH_p n a0.fh a1.fh).bind fun g0=>(bW_p n d0 g0).bind fun j0=>some j0
theorem aa_c (n:Nat) {L w} (hL:hl L w) (a0:Tc) {v0_1:Value} (h0_1:Rep.R w L [v0_1] a0.fj.fk) {v0_3:Value} (h0_3:Rep.R w L [v0_3] a0.fh.fk) (a1:Tc) {v1_1:Value} (h1_1:Rep.R w L [v1_1] a1.fj.fk) {v1_3:Value} (h1_3:Rep.R w L [v1_3] a1.fh.fk)  {r:Tc} (h:aa_p n a0 a1 = some r) :
 Cl 81 #[.agg #[.bool a0.fj.fc,v0_1,.bool a0.fh.fc,v0_3],.agg #[.bool a1.fj.fc,v1_1,.bool a1.fh.fc,v1_3]] w (ai w fun w' u=>∃ v0_1 v0_3:Value,u = .agg #[.bool r.fj.fc,v0_1,.bool r.fh.fc,v0_3]/\Rep.R w' L [v0_1] r.fj.fk/\Rep.R w' L [v0_3] r.fh.fk):=by
 unfold aa_p at h
 refine AL func81 rfl rfl rfl fun _ cs0 hb0=>Ae<|RG.bx (AK w) rfl rfl fun F1 c1 z0 j1=>RG.bx z0 rfl rfl fun G1 d1 A0 k1=>RG.nl [.bool false,vN,.bool false,vN] A0 fun H1 g1 d0 p1=>Aa<|Aj<|du 17 fun b0 c0=>Rv 0 b0 rfl c0 (fun _=>Bh 0 rfl)<|Rx 1 230928 b0 rfl c0 (AQ (cs:=[.bool a0.fj.fc,v0_1]) rfl rfl (ae (d0.memA .t2) 0 2))<|Rv 2 b0 rfl c0 (fun _=>Bh 2 rfl)<|Rx 3 230928 b0 rfl c0 (AQ (cs:=[.bool a1.fh.fc,v1_3]) rfl rfl (ae (d0.memA .t1) 2 2))<|Rv 5 b0 rfl c0 (fun _=>Bh 0 rfl)<|Rx 6 230912 b0 rfl c0 (AQ (cs:=[.bool a1.fj.fc,v1_1]) rfl rfl (ae (d0.memA .t1) 0 2))<|Rv 7 b0 rfl c0 (fun _=>Bh 2 rfl)<|Rx 8 230912 b0 rfl c0 (AQ (cs:=[.bool a0.fh.fc,v0_3]) rfl rfl (ae (d0.memA .t2) 2 2))<|Rv 11 b0 rfl c0 (fun _=>Bh 2 rfl)<|Rx 12 229376 b0 rfl c0 (AQ (cs:=[.bool a0.fh.fc,v0_3]) rfl rfl (ae (d0.memA .t2) 2 2))<|Rv 13 b0 rfl c0 (fun _=>Bh 2 rfl)<|Rx 14 229376 b0 rfl c0 (AQ (cs:=[.bool a1.fh.fc,v1_3]) rfl rfl (ae (d0.memA .t1) 2 2))<|bk h fun X0 Q0 h=>AZ 4 31231 b0 rfl .plain (bd 136) rfl (e2 rfl rfl) (fun p q=>aH_c n (d0.hL hL q) a0.fj (d0.km h0_1 q) a1.fh (d0.km h1_3 q) Q0) rfl fun I1 A1 E0 ⟨v1,hu_,J0⟩=>?_
 subst hu_
 obtain ⟨g0,q1⟩:=d0.agr E0
 refine bk h fun Y0 R0 h=>AZ 9 31743 b0 rfl .plain (bd 136) rfl (e2 rfl rfl) (fun p q=>aH_c n (g0.hL hL q) a1.fj (g0.km h1_1 q) a0.fh (g0.km h0_3 q) R0) rfl fun J1 B1 F0 ⟨x1,hu_,K0⟩=>?_
 subst hu_
 obtain ⟨t0,C0⟩:=g0.agr F0
 refine bk h fun Z0 U0 h=>AZ 10 32767 b0 rfl .plain (bd 141) rfl (e2 rfl rfl) (fun p q=>bI_c n (t0.hL hL q) X0 (Ah (Af J0 C0) q) Y0 (Ah K0 q) U0) rfl fun K1 C1 G0 ⟨y1,hu_,M0⟩=>?_
 subst hu_
 obtain ⟨j0,s1⟩:=t0.agr G0
 refine bk h fun b1 V0 h=>AZ 15 65535 b0 rfl .plain (bd 136) rfl (e2 rfl rfl) (fun p q=>aH_c n (j0.hL hL q) a0.fh (j0.km h0_3 q) a1.fh (j0.km h1_3 q) V0) rfl fun M1 D1 H0 ⟨z1,hu_,P0⟩=>?_
 subst hu_
 obtain ⟨u0,D0⟩:=j0.agr H0
 refine bk h fun p0 W0 h=>AZ 16 131071 b0 rfl .plain (bd 140) rfl (e2 rfl rfl) (fun p q=>bW_c n (u0.hL hL q) Z0 (Ah (Af M0 D0) q) b1 (Ah P0 q) W0) rfl fun P1 E1 I0 ⟨q0,s0,hu_,x0,y0⟩=>?_
 subst hu_
 obtain ⟨B0,u1⟩:=u0.agr I0
 refine BC 17 262143 b0 rfl rfl .plain (AD (news:=[.bool p0.fj.fc,q0,.bool p0.fh.fc,s0]) B0 .hd rfl rfl rfl rfl rfl rfl (o4 rfl (Az x0) rfl (Az y0))) fun Q1 k0 v0=>AN (dk b0)<|Ar rfl<|Au hb0 func81 rfl (.cons (.many (cs:=[.bool p0.fj.fc,q0,.bool p0.fh.fc,s0]) rfl rfl (k0.memA .hd)) .nil) rfl ?_
 cases h
 exact ⟨k0.ag,fun p q=>⟨q0,s0,rfl,k0.kd (Af x0 v0) q,k0.kd (Af y0 v0) q⟩⟩
end Go.Proofs.YtkommhmbkbhmlaaGreat
