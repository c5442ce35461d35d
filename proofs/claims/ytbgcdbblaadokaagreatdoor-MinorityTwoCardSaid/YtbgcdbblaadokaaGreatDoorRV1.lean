/- Functions of the program, and what they give: part 1. -/
import Derived.Test.YtbgcdbblaadokaaGreatDoorProg
import Derived.Test.YtbgcdbblaadokaaGreatDoorRMk
namespace Go.Proofs.YtbgcdbblaadokaaGreatDoor
open Go Go.RowKit
set_option maxRecDepth 4000
set_option maxHeartbeats 4000000

structure TShare where
  fN:UInt64 × UInt64 × UInt64 × UInt64 × UInt64 × UInt64 × UInt64 × UInt64
  fD:UInt64 × UInt64 × UInt64 × UInt64 × UInt64 × UInt64 × UInt64 × UInt64
  deriving DecidableEq
instance:Rep TShare:=Rep.via (β:=(UInt64 × UInt64 × UInt64 × UInt64 × UInt64 × UInt64 × UInt64 × UInt64) × (UInt64 × UInt64 × UInt64 × UInt64 × UInt64 × UInt64 × UInt64 × UInt64)) fun x=>(x.fN,x.fD)
structure Ttold where
  fM:TShare
  fO:TShare
  deriving DecidableEq
instance:Rep Ttold:=Rep.via (β:=TShare × TShare) fun x=>(x.fM,x.fO)
def cs_A31 (x:UInt64 × UInt64 × UInt64 × UInt64 × UInt64 × UInt64 × UInt64 × UInt64):List Value:=[vU x.1,vU x.2.1,vU x.2.2.1,vU x.2.2.2.1,vU x.2.2.2.2.1,vU x.2.2.2.2.2.1,vU x.2.2.2.2.2.2.1,vU x.2.2.2.2.2.2.2]
def cs_Ttold (x:Ttold):List Value:=[vU x.fM.fN.1,vU x.fM.fN.2.1,vU x.fM.fN.2.2.1,vU x.fM.fN.2.2.2.1,vU x.fM.fN.2.2.2.2.1,vU x.fM.fN.2.2.2.2.2.1,vU x.fM.fN.2.2.2.2.2.2.1,vU x.fM.fN.2.2.2.2.2.2.2,vU x.fM.fD.1,vU x.fM.fD.2.1,vU x.fM.fD.2.2.1,vU x.fM.fD.2.2.2.1,vU x.fM.fD.2.2.2.2.1,vU x.fM.fD.2.2.2.2.2.1,vU x.fM.fD.2.2.2.2.2.2.1,vU x.fM.fD.2.2.2.2.2.2.2,vU x.fO.fN.1,vU x.fO.fN.2.1,vU x.fO.fN.2.2.1,vU x.fO.fN.2.2.2.1,vU x.fO.fN.2.2.2.2.1,vU x.fO.fN.2.2.2.2.2.1,vU x.fO.fN.2.2.2.2.2.2.1,vU x.fO.fN.2.2.2.2.2.2.2,vU x.fO.fD.1,vU x.fO.fD.2.1,vU x.fO.fD.2.2.1,vU x.fO.fD.2.2.2.1,vU x.fO.fD.2.2.2.2.1,vU x.fO.fD.2.2.2.2.2.1,vU x.fO.fD.2.2.2.2.2.2.1,vU x.fO.fD.2.2.2.2.2.2.2]
def tb139_5:List (Nat × Nat × Nat):=[(0,4096,128),(0,8192,128),(2,16384,8196),(4,32768,16384),(0,65536,128),(16,131072,65544),(32,262144,131072),(0,524288,64),(200,1048576,819200),(256,2048,1048576),(512,2097152,2048),(512,4194304,2048),(2047,8388608,4100),(6143,0,10485760),(16383,64,4194304)]
def wide_Size_minus_p (_n:Nat) (a0:UInt64 × UInt64 × UInt64 × UInt64 × UInt64 × UInt64 × UInt64 × UInt64) (a1:UInt64 × UInt64 × UInt64 × UInt64 × UInt64 × UInt64 × UInt64 × UInt64):Option ((UInt64 × UInt64 × UInt64 × UInt64 × UInt64 × UInt64 × UInt64 × UInt64) × UInt64):=
  (sub64 a0.1 a1.1 (0:UInt64)).bind fun b0=>(sub64 a0.2.1 a1.2.1 b0.2).bind fun c0=>(sub64 a0.2.2.1 a1.2.2.1 c0.2).bind fun d0=>(sub64 a0.2.2.2.1 a1.2.2.2.1 d0.2).bind fun g0=>(sub64 a0.2.2.2.2.1 a1.2.2.2.2.1 g0.2).bind fun j0=>(sub64 a0.2.2.2.2.2.1 a1.2.2.2.2.2.1 j0.2).bind fun k0=>(sub64 a0.2.2.2.2.2.2.1 a1.2.2.2.2.2.2.1 k0.2).bind fun p0=>(sub64 a0.2.2.2.2.2.2.2 a1.2.2.2.2.2.2.2 p0.2).bind fun q0=>some ((b0.1,c0.1,d0.1,g0.1,j0.1,k0.1,p0.1,q0.1),q0.2)
theorem wide_Size_minus_c (n:Nat) (L:List Nat) (w:World) (_hL:∀ b ∈ L,b < w.heap.size) (a0:UInt64 × UInt64 × UInt64 × UInt64 × UInt64 × UInt64 × UInt64 × UInt64) (a1:UInt64 × UInt64 × UInt64 × UInt64 × UInt64 × UInt64 × UInt64 × UInt64)  {r:(UInt64 × UInt64 × UInt64 × UInt64 × UInt64 × UInt64 × UInt64 × UInt64) × UInt64} (h:wide_Size_minus_p n a0 a1 = some r) :
    Calls Tryz.prog 139 #[.agg ((cs_A31 a0)).toArray,.agg ((cs_A31 a1)).toArray] w (Gives w fun _ u=>u = .tuple #[.agg ((cs_A31 r.1)).toArray,vU r.2]):=by
 unfold wide_Size_minus_p at h
 have hS0:=Ax w
 refine AE Tryz.func139 rfl rfl rfl (fun _ cs0 hb0=>?_)
 refine Ac<|Ai .plain rfl (Ar hS0 rfl rfl) (fun I1 s1 Y0 v1=>?_)
 refine Ai .plain rfl (Ar Y0 rfl rfl) (fun J1 t1 Z0 x1=>?_)
 refine Ai .plain rfl (Au zP Z0) (fun K1 u1 J0 y1=>?_)
 refine Ah rfl<|Aa<|Ac<|Ah rfl<|Aa<|Ak<|Ac<|Ae rfl<|Aa<|AB<|MX.loop1<|Ac<|Ab (Bm (i:=0) (j:=8) rfl rfl)<|Aa<|Ak<|AV rfl<|Av<|Ak<|AB<|Ac<|Ae rfl<|Ah rfl<|Aa<|dt 13 tb139_5 (fun c0 v0=>?_)
 refine Af 0 1 c0 rfl v0 (fun _=>Aj rfl) rfl<|Af 1 3 c0 rfl v0 (fun _=>Aj rfl) rfl<|Af 2 7 c0 rfl v0 (fun _=>AI (m:=1) (k:=0) (len:=8) (by kernel_rfl) rfl rfl rfl (by omega)) rfl<|AA 3 15 32512 c0 rfl v0 (AJ rfl ((J0.memA (.tl (.tl .hd))) 0 _ rfl)) rfl<|Af 4 31 c0 rfl v0 (fun _=>Aj rfl) rfl<|Af 5 63 c0 rfl v0 (fun _=>AI (m:=1) (k:=0) (len:=8) (by kernel_rfl) rfl rfl rfl (by omega)) rfl<|AA 6 127 32512 c0 rfl v0 (AJ rfl ((J0.memA (.tl .hd)) 0 _ rfl)) rfl<|Af 7 255 c0 rfl v0 (fun _=>Aj rfl) rfl ?_
 obtain ⟨b0,b1,h⟩:=bi h
 refine Af 8 511 c0 rfl v0 (fun _=>FV.sub64 (a:=a0.1) (b:=a1.1) (c:=(0:UInt64)) Tryz.func143 rfl (by kernel_rfl) (by kernel_rfl) (by kernel_rfl) rfl rfl rfl b1) rfl<|Af 9 1023 c0 rfl v0 (fun _=>Aj rfl) rfl<|Af 10 2047 c0 rfl v0 (fun _=>Ag rfl rfl) rfl<|Af 11 4095 c0 rfl v0 (fun _=>Ag rfl rfl) rfl<|Af 12 8191 c0 rfl v0 (fun _=>AI (m:=1) (k:=0) (len:=8) (by kernel_rfl) rfl rfl rfl (by omega)) rfl<|Bq 13 16383 c0 rfl rfl .plain (Bv (j:=0) (old:=(cs_A31 a0)) (news:=[vU b0.1]) (new' :=[vU b0.1,vU a0.2.1,vU a0.2.2.1,vU a0.2.2.2.1,vU a0.2.2.2.2.1,vU a0.2.2.2.2.2.1,vU a0.2.2.2.2.2.2.1,vU a0.2.2.2.2.2.2.2]) J0 (.tl (.tl .hd)) rfl rfl rfl rfl rfl rfl (o1 rfl) rfl) (fun M1 K0 z1=>?_)
 refine BC (i:=14) (rk c0) (RO.val (m' :=32767) (sk c0) rfl .plain rfl (AY rfl) ?_)
 refine AH (dk c0)<|AC<|Ao<|Ab (FV.add (i:=0) (j:=1) (r:=1) rfl rfl (by decide))<|Ae rfl<|Aa<|MX.again1<|Ac<|Ab (Bm (i:=1) (j:=8) rfl rfl)<|Aa<|Ak<|AV rfl<|Av<|Ak<|AB<|Ac<|Ae rfl<|Ah rfl<|Aa<|dt 13 tb139_5 (fun d0 x0=>?_)
 refine Af 0 1 d0 rfl x0 (fun _=>Aj rfl) rfl<|Af 1 3 d0 rfl x0 (fun _=>Aj rfl) rfl<|Af 2 7 d0 rfl x0 (fun _=>AI (m:=1) (k:=1) (len:=8) (by kernel_rfl) rfl rfl rfl (by omega)) rfl<|AA 3 15 32512 d0 rfl x0 (AJ rfl ((K0.memA (.tl (.tl .hd))) 1 _ rfl)) rfl<|Af 4 31 d0 rfl x0 (fun _=>Aj rfl) rfl<|Af 5 63 d0 rfl x0 (fun _=>AI (m:=1) (k:=1) (len:=8) (by kernel_rfl) rfl rfl rfl (by omega)) rfl<|AA 6 127 32512 d0 rfl x0 (AJ rfl ((K0.memA (.tl .hd)) 1 _ rfl)) rfl<|Af 7 255 d0 rfl x0 (fun _=>Aj rfl) rfl ?_
 obtain ⟨t0,c1,h⟩:=bi h
 refine Af 8 511 d0 rfl x0 (fun _=>FV.sub64 (a:=a0.2.1) (b:=a1.2.1) (c:=b0.2) Tryz.func143 rfl (by kernel_rfl) (by kernel_rfl) (by kernel_rfl) rfl rfl rfl c1) rfl<|Af 9 1023 d0 rfl x0 (fun _=>Aj rfl) rfl<|Af 10 2047 d0 rfl x0 (fun _=>Ag rfl rfl) rfl<|Af 11 4095 d0 rfl x0 (fun _=>Ag rfl rfl) rfl<|Af 12 8191 d0 rfl x0 (fun _=>AI (m:=1) (k:=1) (len:=8) (by kernel_rfl) rfl rfl rfl (by omega)) rfl<|Bq 13 16383 d0 rfl rfl .plain (Bv (j:=1) (old:=[vU b0.1,vU a0.2.1,vU a0.2.2.1,vU a0.2.2.2.1,vU a0.2.2.2.2.1,vU a0.2.2.2.2.2.1,vU a0.2.2.2.2.2.2.1,vU a0.2.2.2.2.2.2.2]) (news:=[vU t0.1]) (new' :=[vU b0.1,vU t0.1,vU a0.2.2.1,vU a0.2.2.2.1,vU a0.2.2.2.2.1,vU a0.2.2.2.2.2.1,vU a0.2.2.2.2.2.2.1,vU a0.2.2.2.2.2.2.2]) K0 (.tl (.tl .hd)) rfl rfl rfl rfl rfl rfl (o1 rfl) rfl) (fun P1 M0 A1=>?_)
 refine BC (i:=14) (rk d0) (RO.val (m' :=32767) (sk d0) rfl .plain rfl (AY rfl) ?_)
 refine AH (dk d0)<|AC<|Ao<|Ab (FV.add (i:=1) (j:=1) (r:=2) rfl rfl (by decide))<|Ae rfl<|Aa<|MX.again1<|Ac<|Ab (Bm (i:=2) (j:=8) rfl rfl)<|Aa<|Ak<|AV rfl<|Av<|Ak<|AB<|Ac<|Ae rfl<|Ah rfl<|Aa<|dt 13 tb139_5 (fun g0 y0=>?_)
 refine Af 0 1 g0 rfl y0 (fun _=>Aj rfl) rfl<|Af 1 3 g0 rfl y0 (fun _=>Aj rfl) rfl<|Af 2 7 g0 rfl y0 (fun _=>AI (m:=1) (k:=2) (len:=8) (by kernel_rfl) rfl rfl rfl (by omega)) rfl<|AA 3 15 32512 g0 rfl y0 (AJ rfl ((M0.memA (.tl (.tl .hd))) 2 _ rfl)) rfl<|Af 4 31 g0 rfl y0 (fun _=>Aj rfl) rfl<|Af 5 63 g0 rfl y0 (fun _=>AI (m:=1) (k:=2) (len:=8) (by kernel_rfl) rfl rfl rfl (by omega)) rfl<|AA 6 127 32512 g0 rfl y0 (AJ rfl ((M0.memA (.tl .hd)) 2 _ rfl)) rfl<|Af 7 255 g0 rfl y0 (fun _=>Aj rfl) rfl ?_
 obtain ⟨u0,d1,h⟩:=bi h
 refine Af 8 511 g0 rfl y0 (fun _=>FV.sub64 (a:=a0.2.2.1) (b:=a1.2.2.1) (c:=t0.2) Tryz.func143 rfl (by kernel_rfl) (by kernel_rfl) (by kernel_rfl) rfl rfl rfl d1) rfl<|Af 9 1023 g0 rfl y0 (fun _=>Aj rfl) rfl<|Af 10 2047 g0 rfl y0 (fun _=>Ag rfl rfl) rfl<|Af 11 4095 g0 rfl y0 (fun _=>Ag rfl rfl) rfl<|Af 12 8191 g0 rfl y0 (fun _=>AI (m:=1) (k:=2) (len:=8) (by kernel_rfl) rfl rfl rfl (by omega)) rfl<|Bq 13 16383 g0 rfl rfl .plain (Bv (j:=2) (old:=[vU b0.1,vU t0.1,vU a0.2.2.1,vU a0.2.2.2.1,vU a0.2.2.2.2.1,vU a0.2.2.2.2.2.1,vU a0.2.2.2.2.2.2.1,vU a0.2.2.2.2.2.2.2]) (news:=[vU u0.1]) (new' :=[vU b0.1,vU t0.1,vU u0.1,vU a0.2.2.2.1,vU a0.2.2.2.2.1,vU a0.2.2.2.2.2.1,vU a0.2.2.2.2.2.2.1,vU a0.2.2.2.2.2.2.2]) M0 (.tl (.tl .hd)) rfl rfl rfl rfl rfl rfl (o1 rfl) rfl) (fun Q1 P0 B1=>?_)
 refine BC (i:=14) (rk g0) (RO.val (m' :=32767) (sk g0) rfl .plain rfl (AY rfl) ?_)
 refine AH (dk g0)<|AC<|Ao<|Ab (FV.add (i:=2) (j:=1) (r:=3) rfl rfl (by decide))<|Ae rfl<|Aa<|MX.again1<|Ac<|Ab (Bm (i:=3) (j:=8) rfl rfl)<|Aa<|Ak<|AV rfl<|Av<|Ak<|AB<|Ac<|Ae rfl<|Ah rfl<|Aa<|dt 13 tb139_5 (fun j0 z0=>?_)
 refine Af 0 1 j0 rfl z0 (fun _=>Aj rfl) rfl<|Af 1 3 j0 rfl z0 (fun _=>Aj rfl) rfl<|Af 2 7 j0 rfl z0 (fun _=>AI (m:=1) (k:=3) (len:=8) (by kernel_rfl) rfl rfl rfl (by omega)) rfl<|AA 3 15 32512 j0 rfl z0 (AJ rfl ((P0.memA (.tl (.tl .hd))) 3 _ rfl)) rfl<|Af 4 31 j0 rfl z0 (fun _=>Aj rfl) rfl<|Af 5 63 j0 rfl z0 (fun _=>AI (m:=1) (k:=3) (len:=8) (by kernel_rfl) rfl rfl rfl (by omega)) rfl<|AA 6 127 32512 j0 rfl z0 (AJ rfl ((P0.memA (.tl .hd)) 3 _ rfl)) rfl<|Af 7 255 j0 rfl z0 (fun _=>Aj rfl) rfl ?_
 obtain ⟨E0,g1,h⟩:=bi h
 refine Af 8 511 j0 rfl z0 (fun _=>FV.sub64 (a:=a0.2.2.2.1) (b:=a1.2.2.2.1) (c:=u0.2) Tryz.func143 rfl (by kernel_rfl) (by kernel_rfl) (by kernel_rfl) rfl rfl rfl g1) rfl<|Af 9 1023 j0 rfl z0 (fun _=>Aj rfl) rfl<|Af 10 2047 j0 rfl z0 (fun _=>Ag rfl rfl) rfl<|Af 11 4095 j0 rfl z0 (fun _=>Ag rfl rfl) rfl<|Af 12 8191 j0 rfl z0 (fun _=>AI (m:=1) (k:=3) (len:=8) (by kernel_rfl) rfl rfl rfl (by omega)) rfl<|Bq 13 16383 j0 rfl rfl .plain (Bv (j:=3) (old:=[vU b0.1,vU t0.1,vU u0.1,vU a0.2.2.2.1,vU a0.2.2.2.2.1,vU a0.2.2.2.2.2.1,vU a0.2.2.2.2.2.2.1,vU a0.2.2.2.2.2.2.2]) (news:=[vU E0.1]) (new' :=[vU b0.1,vU t0.1,vU u0.1,vU E0.1,vU a0.2.2.2.2.1,vU a0.2.2.2.2.2.1,vU a0.2.2.2.2.2.2.1,vU a0.2.2.2.2.2.2.2]) P0 (.tl (.tl .hd)) rfl rfl rfl rfl rfl rfl (o1 rfl) rfl) (fun R1 Q0 C1=>?_)
 refine BC (i:=14) (rk j0) (RO.val (m' :=32767) (sk j0) rfl .plain rfl (AY rfl) ?_)
 refine AH (dk j0)<|AC<|Ao<|Ab (FV.add (i:=3) (j:=1) (r:=4) rfl rfl (by decide))<|Ae rfl<|Aa<|MX.again1<|Ac<|Ab (Bm (i:=4) (j:=8) rfl rfl)<|Aa<|Ak<|AV rfl<|Av<|Ak<|AB<|Ac<|Ae rfl<|Ah rfl<|Aa<|dt 13 tb139_5 (fun k0 A0=>?_)
 refine Af 0 1 k0 rfl A0 (fun _=>Aj rfl) rfl<|Af 1 3 k0 rfl A0 (fun _=>Aj rfl) rfl<|Af 2 7 k0 rfl A0 (fun _=>AI (m:=1) (k:=4) (len:=8) (by kernel_rfl) rfl rfl rfl (by omega)) rfl<|AA 3 15 32512 k0 rfl A0 (AJ rfl ((Q0.memA (.tl (.tl .hd))) 4 _ rfl)) rfl<|Af 4 31 k0 rfl A0 (fun _=>Aj rfl) rfl<|Af 5 63 k0 rfl A0 (fun _=>AI (m:=1) (k:=4) (len:=8) (by kernel_rfl) rfl rfl rfl (by omega)) rfl<|AA 6 127 32512 k0 rfl A0 (AJ rfl ((Q0.memA (.tl .hd)) 4 _ rfl)) rfl<|Af 7 255 k0 rfl A0 (fun _=>Aj rfl) rfl ?_
 obtain ⟨F0,j1,h⟩:=bi h
 refine Af 8 511 k0 rfl A0 (fun _=>FV.sub64 (a:=a0.2.2.2.2.1) (b:=a1.2.2.2.2.1) (c:=E0.2) Tryz.func143 rfl (by kernel_rfl) (by kernel_rfl) (by kernel_rfl) rfl rfl rfl j1) rfl<|Af 9 1023 k0 rfl A0 (fun _=>Aj rfl) rfl<|Af 10 2047 k0 rfl A0 (fun _=>Ag rfl rfl) rfl<|Af 11 4095 k0 rfl A0 (fun _=>Ag rfl rfl) rfl<|Af 12 8191 k0 rfl A0 (fun _=>AI (m:=1) (k:=4) (len:=8) (by kernel_rfl) rfl rfl rfl (by omega)) rfl<|Bq 13 16383 k0 rfl rfl .plain (Bv (j:=4) (old:=[vU b0.1,vU t0.1,vU u0.1,vU E0.1,vU a0.2.2.2.2.1,vU a0.2.2.2.2.2.1,vU a0.2.2.2.2.2.2.1,vU a0.2.2.2.2.2.2.2]) (news:=[vU F0.1]) (new' :=[vU b0.1,vU t0.1,vU u0.1,vU E0.1,vU F0.1,vU a0.2.2.2.2.2.1,vU a0.2.2.2.2.2.2.1,vU a0.2.2.2.2.2.2.2]) Q0 (.tl (.tl .hd)) rfl rfl rfl rfl rfl rfl (o1 rfl) rfl) (fun U1 R0 D1=>?_)
 refine BC (i:=14) (rk k0) (RO.val (m' :=32767) (sk k0) rfl .plain rfl (AY rfl) ?_)
 refine AH (dk k0)<|AC<|Ao<|Ab (FV.add (i:=4) (j:=1) (r:=5) rfl rfl (by decide))<|Ae rfl<|Aa<|MX.again1<|Ac<|Ab (Bm (i:=5) (j:=8) rfl rfl)<|Aa<|Ak<|AV rfl<|Av<|Ak<|AB<|Ac<|Ae rfl<|Ah rfl<|Aa<|dt 13 tb139_5 (fun p0 B0=>?_)
 refine Af 0 1 p0 rfl B0 (fun _=>Aj rfl) rfl<|Af 1 3 p0 rfl B0 (fun _=>Aj rfl) rfl<|Af 2 7 p0 rfl B0 (fun _=>AI (m:=1) (k:=5) (len:=8) (by kernel_rfl) rfl rfl rfl (by omega)) rfl<|AA 3 15 32512 p0 rfl B0 (AJ rfl ((R0.memA (.tl (.tl .hd))) 5 _ rfl)) rfl<|Af 4 31 p0 rfl B0 (fun _=>Aj rfl) rfl<|Af 5 63 p0 rfl B0 (fun _=>AI (m:=1) (k:=5) (len:=8) (by kernel_rfl) rfl rfl rfl (by omega)) rfl<|AA 6 127 32512 p0 rfl B0 (AJ rfl ((R0.memA (.tl .hd)) 5 _ rfl)) rfl<|Af 7 255 p0 rfl B0 (fun _=>Aj rfl) rfl ?_
 obtain ⟨G0,k1,h⟩:=bi h
 refine Af 8 511 p0 rfl B0 (fun _=>FV.sub64 (a:=a0.2.2.2.2.2.1) (b:=a1.2.2.2.2.2.1) (c:=F0.2) Tryz.func143 rfl (by kernel_rfl) (by kernel_rfl) (by kernel_rfl) rfl rfl rfl k1) rfl<|Af 9 1023 p0 rfl B0 (fun _=>Aj rfl) rfl<|Af 10 2047 p0 rfl B0 (fun _=>Ag rfl rfl) rfl<|Af 11 4095 p0 rfl B0 (fun _=>Ag rfl rfl) rfl<|Af 12 8191 p0 rfl B0 (fun _=>AI (m:=1) (k:=5) (len:=8) (by kernel_rfl) rfl rfl rfl (by omega)) rfl<|Bq 13 16383 p0 rfl rfl .plain (Bv (j:=5) (old:=[vU b0.1,vU t0.1,vU u0.1,vU E0.1,vU F0.1,vU a0.2.2.2.2.2.1,vU a0.2.2.2.2.2.2.1,vU a0.2.2.2.2.2.2.2]) (news:=[vU G0.1]) (new' :=[vU b0.1,vU t0.1,vU u0.1,vU E0.1,vU F0.1,vU G0.1,vU a0.2.2.2.2.2.2.1,vU a0.2.2.2.2.2.2.2]) R0 (.tl (.tl .hd)) rfl rfl rfl rfl rfl rfl (o1 rfl) rfl) (fun V1 U0 E1=>?_)
 refine BC (i:=14) (rk p0) (RO.val (m' :=32767) (sk p0) rfl .plain rfl (AY rfl) ?_)
 refine AH (dk p0)<|AC<|Ao<|Ab (FV.add (i:=5) (j:=1) (r:=6) rfl rfl (by decide))<|Ae rfl<|Aa<|MX.again1<|Ac<|Ab (Bm (i:=6) (j:=8) rfl rfl)<|Aa<|Ak<|AV rfl<|Av<|Ak<|AB<|Ac<|Ae rfl<|Ah rfl<|Aa<|dt 13 tb139_5 (fun q0 C0=>?_)
 refine Af 0 1 q0 rfl C0 (fun _=>Aj rfl) rfl<|Af 1 3 q0 rfl C0 (fun _=>Aj rfl) rfl<|Af 2 7 q0 rfl C0 (fun _=>AI (m:=1) (k:=6) (len:=8) (by kernel_rfl) rfl rfl rfl (by omega)) rfl<|AA 3 15 32512 q0 rfl C0 (AJ rfl ((U0.memA (.tl (.tl .hd))) 6 _ rfl)) rfl<|Af 4 31 q0 rfl C0 (fun _=>Aj rfl) rfl<|Af 5 63 q0 rfl C0 (fun _=>AI (m:=1) (k:=6) (len:=8) (by kernel_rfl) rfl rfl rfl (by omega)) rfl<|AA 6 127 32512 q0 rfl C0 (AJ rfl ((U0.memA (.tl .hd)) 6 _ rfl)) rfl<|Af 7 255 q0 rfl C0 (fun _=>Aj rfl) rfl ?_
 obtain ⟨H0,p1,h⟩:=bi h
 refine Af 8 511 q0 rfl C0 (fun _=>FV.sub64 (a:=a0.2.2.2.2.2.2.1) (b:=a1.2.2.2.2.2.2.1) (c:=G0.2) Tryz.func143 rfl (by kernel_rfl) (by kernel_rfl) (by kernel_rfl) rfl rfl rfl p1) rfl<|Af 9 1023 q0 rfl C0 (fun _=>Aj rfl) rfl<|Af 10 2047 q0 rfl C0 (fun _=>Ag rfl rfl) rfl<|Af 11 4095 q0 rfl C0 (fun _=>Ag rfl rfl) rfl<|Af 12 8191 q0 rfl C0 (fun _=>AI (m:=1) (k:=6) (len:=8) (by kernel_rfl) rfl rfl rfl (by omega)) rfl<|Bq 13 16383 q0 rfl rfl .plain (Bv (j:=6) (old:=[vU b0.1,vU t0.1,vU u0.1,vU E0.1,vU F0.1,vU G0.1,vU a0.2.2.2.2.2.2.1,vU a0.2.2.2.2.2.2.2]) (news:=[vU H0.1]) (new' :=[vU b0.1,vU t0.1,vU u0.1,vU E0.1,vU F0.1,vU G0.1,vU H0.1,vU a0.2.2.2.2.2.2.2]) U0 (.tl (.tl .hd)) rfl rfl rfl rfl rfl rfl (o1 rfl) rfl) (fun W1 V0 F1=>?_)
 refine BC (i:=14) (rk q0) (RO.val (m' :=32767) (sk q0) rfl .plain rfl (AY rfl) ?_)
 refine AH (dk q0)<|AC<|Ao<|Ab (FV.add (i:=6) (j:=1) (r:=7) rfl rfl (by decide))<|Ae rfl<|Aa<|MX.again1<|Ac<|Ab (Bm (i:=7) (j:=8) rfl rfl)<|Aa<|Ak<|AV rfl<|Av<|Ak<|AB<|Ac<|Ae rfl<|Ah rfl<|Aa<|dt 13 tb139_5 (fun s0 D0=>?_)
 refine Af 0 1 s0 rfl D0 (fun _=>Aj rfl) rfl<|Af 1 3 s0 rfl D0 (fun _=>Aj rfl) rfl<|Af 2 7 s0 rfl D0 (fun _=>AI (m:=1) (k:=7) (len:=8) (by kernel_rfl) rfl rfl rfl (by omega)) rfl<|AA 3 15 32512 s0 rfl D0 (AJ rfl ((V0.memA (.tl (.tl .hd))) 7 _ rfl)) rfl<|Af 4 31 s0 rfl D0 (fun _=>Aj rfl) rfl<|Af 5 63 s0 rfl D0 (fun _=>AI (m:=1) (k:=7) (len:=8) (by kernel_rfl) rfl rfl rfl (by omega)) rfl<|AA 6 127 32512 s0 rfl D0 (AJ rfl ((V0.memA (.tl .hd)) 7 _ rfl)) rfl<|Af 7 255 s0 rfl D0 (fun _=>Aj rfl) rfl ?_
 obtain ⟨I0,q1,h⟩:=bi h
 refine Af 8 511 s0 rfl D0 (fun _=>FV.sub64 (a:=a0.2.2.2.2.2.2.2) (b:=a1.2.2.2.2.2.2.2) (c:=H0.2) Tryz.func143 rfl (by kernel_rfl) (by kernel_rfl) (by kernel_rfl) rfl rfl rfl q1) rfl<|Af 9 1023 s0 rfl D0 (fun _=>Aj rfl) rfl<|Af 10 2047 s0 rfl D0 (fun _=>Ag rfl rfl) rfl<|Af 11 4095 s0 rfl D0 (fun _=>Ag rfl rfl) rfl<|Af 12 8191 s0 rfl D0 (fun _=>AI (m:=1) (k:=7) (len:=8) (by kernel_rfl) rfl rfl rfl (by omega)) rfl<|Bq 13 16383 s0 rfl rfl .plain (Bv (j:=7) (old:=[vU b0.1,vU t0.1,vU u0.1,vU E0.1,vU F0.1,vU G0.1,vU H0.1,vU a0.2.2.2.2.2.2.2]) (news:=[vU I0.1]) (new' :=[vU b0.1,vU t0.1,vU u0.1,vU E0.1,vU F0.1,vU G0.1,vU H0.1,vU I0.1]) V0 (.tl (.tl .hd)) rfl rfl rfl rfl rfl rfl (o1 rfl) rfl) (fun X1 W0 G1=>?_)
 refine BC (i:=14) (rk s0) (RO.val (m' :=32767) (sk s0) rfl .plain rfl (AY rfl) ?_)
 refine AH (dk s0)<|AC<|Ao<|Ab (FV.add (i:=7) (j:=1) (r:=8) rfl rfl (by decide))<|Ae rfl<|Aa<|MX.again1<|Ac<|Ab (Bm (i:=8) (j:=8) rfl rfl)<|Aa<|Ak<|Bu rfl<|Bj rfl<|Ac<|Ab (Az rfl (W0.memA (.tl (.tl .hd))))<|Ae rfl<|AL [vU b0.1,vU t0.1,vU u0.1,vU E0.1,vU F0.1,vU G0.1,vU H0.1,vU I0.1] W0 .hd (onesB rfl) (fun Y1 X0 H1=>?_)
 refine Ah rfl<|Aa<|Am rfl<|Al hb0 Tryz.func139 rfl (.cons (.many (cs:=[vU b0.1,vU t0.1,vU u0.1,vU E0.1,vU F0.1,vU G0.1,vU H0.1,vU I0.1]) (by kernel_rfl) rfl (X0.memA .hd)) (.cons (.tmp rfl) .nil)) rfl ?_
 cases h
 exact X0.gv
def tb151_4:List (Nat × Nat × Nat):=[(0,1024,32),(1,2048,1028),(2,4096,2048),(0,8192,32),(8,16384,8200),(16,32768,16384),(36,65536,36864)]
def tb151_5:List (Nat × Nat × Nat):=[(0,131072,32),(1,262144,131076),(2,524288,262144),(0,1048576,32),(8,2097152,1048584),(16,4194304,2097152),(36,8388608,4718592)]
def wide_Size_order_l1 (_n:Nat) (a0:UInt64 × UInt64 × UInt64 × UInt64 × UInt64 × UInt64 × UInt64 × UInt64) (a1:UInt64 × UInt64 × UInt64 × UInt64 × UInt64 × UInt64 × UInt64 × UInt64) (g0:Int → Option (Int ⊕ Unit)):Int → Option (Int ⊕ Unit)
  | b0=>(if 0 ≤ b0 then (idx ([a0.1,a0.2.1,a0.2.2.1,a0.2.2.2.1,a0.2.2.2.2.1,a0.2.2.2.2.2.1,a0.2.2.2.2.2.2.1,a0.2.2.2.2.2.2.2]:List UInt64) b0).bind fun c0=>(idx ([a1.1,a1.2.1,a1.2.2.1,a1.2.2.2.1,a1.2.2.2.2.1,a1.2.2.2.2.2.1,a1.2.2.2.2.2.2.1,a1.2.2.2.2.2.2.2]:List UInt64) b0).bind fun d0=>(if c0 = d0 then (chk (b0 - 1)).bind fun j0=>g0 j0 else (if c0 < d0 then some (.inl (-1:Int)) else some (.inl (1:Int)))) else some (.inr ()))
def wide_Size_order_p (n:Nat) (a0:UInt64 × UInt64 × UInt64 × UInt64 × UInt64 × UInt64 × UInt64 × UInt64) (a1:UInt64 × UInt64 × UInt64 × UInt64 × UInt64 × UInt64 × UInt64 × UInt64):Option Int:=
  thn (loopF (wide_Size_order_l1 n a0 a1) n 7) (fun _=>some (0:Int))
theorem wide_Size_order_c (n:Nat) (L:List Nat) (w:World) (_hL:∀ b ∈ L,b < w.heap.size) (a0:UInt64 × UInt64 × UInt64 × UInt64 × UInt64 × UInt64 × UInt64 × UInt64) (a1:UInt64 × UInt64 × UInt64 × UInt64 × UInt64 × UInt64 × UInt64 × UInt64)  {r:Int} (h:wide_Size_order_p n a0 a1 = some r) :
    Calls Tryz.prog 151 #[.agg ((cs_A31 a0)).toArray,.agg ((cs_A31 a1)).toArray] w (Gives w fun _ u=>u = vI r):=by
 unfold wide_Size_order_p at h
 have hS0:=Ax w
 refine AE Tryz.func151 rfl rfl rfl (fun _ cs0 hb0=>?_)
 refine Ac<|Ai .plain rfl (Ar hS0 rfl rfl) (fun c1 p0 F0 Y0=>?_)
 refine Ai .plain rfl (Ar F0 rfl rfl) (fun W0 q0 G0 Z0=>?_)
 refine Ah rfl<|Aa<|Ak<|Ac<|Ah rfl<|Aa<|AB ?_
 obtain ⟨b1,P0,u0⟩:=thn_in h
 refine Bw (α:=Int) (fun b0=>[(2,vP p0),(3,vP q0),(5,vI b0)]) (fun b0 v0=>St w v0 [.cells q0 (cs_A31 a1) 166,.cells p0 (cs_A31 a0) 166]∧Tr W0 [.cells q0 (cs_A31 a1) 166,.cells p0 (cs_A31 a0) 166] v0 [.cells q0 (cs_A31 a1) 166,.cells p0 (cs_A31 a0) 166]) (fun b0=>b0) 7 P0 ⟨rfl,rfl,rfl,trivial⟩ ⟨G0,Bd _ _⟩ ?_
 rintro X0 b0 v0 E0 ⟨c0,H0⟩ h
 unfold wide_Size_order_l1 at h
 try dsimp only at h
 refine Ak<|Ac<|Ae rfl<|Ab (FV.geq (i:=b0) (j:=0) rfl rfl)<|Aa<|AX rfl h (fun B0 h=>?_) (fun B0 h=>?_)
 refine Av<|Ak<|AB<|Ak<|dt 7 tb151_4 (fun d0 j0=>?_)
 refine Af 0 1 d0 rfl j0 (fun _=>Aj rfl) rfl ?_
 obtain ⟨z0,R0,h⟩:=bi h
 obtain ⟨x0,s0⟩:=idx_in R0
 have I0:=mem_elem1 (p:=⟨p0,0,none⟩) (cs:=([a0.1,a0.2.1,a0.2.2.1,a0.2.2.2.1,a0.2.2.2.2.1,a0.2.2.2.2.2.1,a0.2.2.2.2.2.2.1,a0.2.2.2.2.2.2.2]:List UInt64).map (fun z9:UInt64=>(vU z9:Value)) ++ []) (i:=b0.toNat) (c0.memA (.tl .hd)) (arr_get (fun z9:UInt64=>(vU z9:Value)) s0)
 refine Af 1 3 d0 rfl j0 (fun _=>AI (m:=1) (k:=b0.toNat) (len:=8) (by kernel_rfl) rfl rfl x0 (arr_lt s0 rfl)) rfl<|AA 2 7 64 d0 rfl j0 (AJ rfl (I0 0 _ rfl)) rfl<|Af 3 15 d0 rfl j0 (fun _=>Aj rfl) rfl ?_
 obtain ⟨A0,U0,h⟩:=bi h
 obtain ⟨y0,t0⟩:=idx_in U0
 have J0:=mem_elem1 (p:=⟨q0,0,none⟩) (cs:=([a1.1,a1.2.1,a1.2.2.1,a1.2.2.2.1,a1.2.2.2.2.1,a1.2.2.2.2.2.1,a1.2.2.2.2.2.2.1,a1.2.2.2.2.2.2.2]:List UInt64).map (fun z9:UInt64=>(vU z9:Value)) ++ []) (i:=b0.toNat) (c0.memA .hd) (arr_get (fun z9:UInt64=>(vU z9:Value)) t0)
 refine Af 4 31 d0 rfl j0 (fun _=>AI (m:=1) (k:=b0.toNat) (len:=8) (by kernel_rfl) rfl rfl y0 (arr_lt t0 rfl)) rfl<|AA 5 63 64 d0 rfl j0 (AJ rfl (J0 0 _ rfl)) rfl<|Af 6 127 d0 rfl j0 (fun _=>FV.neqU (a:=z0) (b:=A0) rfl rfl) rfl<|AH (dk d0)<|MX.ifn rfl h (fun C0 h=>?_) (fun C0 h=>?_)
 refine Av<|AC<|Ao<|Ae rfl ?_
 obtain ⟨V0,Q0,h⟩:=bi h
 refine Ab (FV.subc (i:=b0) (j:=1) rfl rfl Q0)<|Ah rfl<|Aa ?_
 exact E0 V0 _ _ ⟨rfl,rfl,rfl,trivial⟩ ⟨c0,H0⟩ h
 refine Ak<|Ak<|dt 7 tb151_5 (fun g0 k0=>?_)
 refine Af 0 1 g0 rfl k0 (fun _=>Aj rfl) rfl ?_
 have K0:=mem_elem1 (p:=⟨p0,0,none⟩) (cs:=([a0.1,a0.2.1,a0.2.2.1,a0.2.2.2.1,a0.2.2.2.2.1,a0.2.2.2.2.2.1,a0.2.2.2.2.2.2.1,a0.2.2.2.2.2.2.2]:List UInt64).map (fun z9:UInt64=>(vU z9:Value)) ++ []) (i:=b0.toNat) (c0.memA (.tl .hd)) (arr_get (fun z9:UInt64=>(vU z9:Value)) s0)
 refine Af 1 3 g0 rfl k0 (fun _=>AI (m:=1) (k:=b0.toNat) (len:=8) (by kernel_rfl) rfl rfl x0 (arr_lt s0 rfl)) rfl<|AA 2 7 64 g0 rfl k0 (AJ rfl (K0 0 _ rfl)) rfl<|Af 3 15 g0 rfl k0 (fun _=>Aj rfl) rfl ?_
 have M0:=mem_elem1 (p:=⟨q0,0,none⟩) (cs:=([a1.1,a1.2.1,a1.2.2.1,a1.2.2.2.1,a1.2.2.2.2.1,a1.2.2.2.2.2.1,a1.2.2.2.2.2.2.1,a1.2.2.2.2.2.2.2]:List UInt64).map (fun z9:UInt64=>(vU z9:Value)) ++ []) (i:=b0.toNat) (c0.memA .hd) (arr_get (fun z9:UInt64=>(vU z9:Value)) t0)
 refine Af 4 31 g0 rfl k0 (fun _=>AI (m:=1) (k:=b0.toNat) (len:=8) (by kernel_rfl) rfl rfl y0 (arr_lt t0 rfl)) rfl<|AA 5 63 64 g0 rfl k0 (AJ rfl (M0 0 _ rfl)) rfl<|Af 6 127 g0 rfl k0 (fun _=>FV.lssU (a:=z0) (b:=A0) rfl rfl) rfl<|AH (dk g0)<|AX rfl h (fun D0 h=>?_) (fun D0 h=>?_)
 refine Ac<|Ah rfl<|Aa ?_
 have h:=thn_inl h u0
 refine Am rfl<|Be hb0 Tryz.func151 rfl rfl ?_
 cases h
 exact c0.gv
 refine Av<|Ac<|Ah rfl<|Aa ?_
 have h:=thn_inl h u0
 refine Am rfl<|Be hb0 Tryz.func151 rfl rfl ?_
 cases h
 exact c0.gv
 refine Bj rfl ?_
 have h:=thn_inr h u0
 try dsimp only at h
 refine Ac<|Ah rfl<|Aa<|Am rfl<|Be hb0 Tryz.func151 rfl rfl ?_
 cases h
 exact c0.gv
structure TNumber where
  fe:Bool
  fm:UInt64 × UInt64 × UInt64 × UInt64 × UInt64 × UInt64 × UInt64 × UInt64
  deriving DecidableEq
instance:Rep TNumber:=Rep.via (β:=Bool × (UInt64 × UInt64 × UInt64 × UInt64 × UInt64 × UInt64 × UInt64 × UInt64)) fun x=>(x.fe,x.fm)
def cs_TNumber (x:TNumber):List Value:=[.bool x.fe,vU x.fm.1,vU x.fm.2.1,vU x.fm.2.2.1,vU x.fm.2.2.2.1,vU x.fm.2.2.2.2.1,vU x.fm.2.2.2.2.2.1,vU x.fm.2.2.2.2.2.2.1,vU x.fm.2.2.2.2.2.2.2]
theorem body139:bodyB Tryz.prog 139 = true:=by kernel_rfl
theorem body151:bodyB Tryz.prog 151 = true:=by kernel_rfl
def wide_Number_Told_p (n:Nat) (a0:TNumber):Option ((UInt64 × UInt64 × UInt64 × UInt64 × UInt64 × UInt64 × UInt64 × UInt64) × Int):=
  (wide_Size_order_p n a0.fm ((0:UInt64),(0:UInt64),(0:UInt64),(0:UInt64),(0:UInt64),(0:UInt64),(0:UInt64),(9223372036854775808:UInt64))).bind fun b0=>(if 0 < b0 then some (((0:UInt64),(0:UInt64),(0:UInt64),(0:UInt64),(0:UInt64),(0:UInt64),(0:UInt64),(0:UInt64)),(6:Int)) else (if b0 = 0 then (if a0.fe = true then (wide_Size_minus_p n ((0:UInt64),(0:UInt64),(0:UInt64),(0:UInt64),(0:UInt64),(0:UInt64),(0:UInt64),(0:UInt64)) a0.fm).bind fun c0=>some (c0.1,(0:Int)) else some (((0:UInt64),(0:UInt64),(0:UInt64),(0:UInt64),(0:UInt64),(0:UInt64),(0:UInt64),(0:UInt64)),(6:Int))) else (if a0.fe = true then (wide_Size_minus_p n ((0:UInt64),(0:UInt64),(0:UInt64),(0:UInt64),(0:UInt64),(0:UInt64),(0:UInt64),(0:UInt64)) a0.fm).bind fun d0=>some (d0.1,(0:Int)) else some (a0.fm,(0:Int)))))
theorem wide_Number_Told_c (n:Nat) (L:List Nat) (w:World) (hL:∀ b ∈ L,b < w.heap.size) (a0:TNumber)  {r:(UInt64 × UInt64 × UInt64 × UInt64 × UInt64 × UInt64 × UInt64 × UInt64) × Int} (h:wide_Number_Told_p n a0 = some r) :
    Calls Tryz.prog 140 #[.agg ((cs_TNumber a0)).toArray] w (Gives w fun _ u=>u = .tuple #[.agg ((cs_A31 r.1)).toArray,vI r.2]):=by
 unfold wide_Number_Told_p at h
 have hS0:=Ax w
 refine AE Tryz.func140 rfl rfl rfl (fun _ cs0 hb0=>?_)
 refine Ac<|Ai .plain rfl (Ar hS0 rfl rfl) (fun Z0 G0 A0 J0=>?_)
 refine Ai .plain rfl (Au zP A0) (fun b1 H0 B0 K0=>?_)
 refine Ah rfl<|Aa<|Ac<|Ab (AK (vs:=[vW 9223372036854775808]) (u:=.agg #[vW 0,vW 0,vW 0,vW 0,vW 0,vW 0,vW 0,vW 9223372036854775808]) (e1 rfl) (fun w9=>by kernel_rfl))<|Ai .plain rfl (Au zP B0) (fun c1 I0 C0 M0=>?_)
 refine AL [vW 0,vW 0,vW 0,vW 0,vW 0,vW 0,vW 0,vW 9223372036854775808] C0 .hd (onesB rfl) (fun d1 b0 P0=>?_)
 refine Aa<|Ak<|Ac<|Bf 1 rfl<|Ab (AR (cs:=(cs_A31 a0.fm)) (by kernel_rfl) rfl (mem_part (b0.memA (.tl (.tl .hd))) 1 8))<|Ab (Az rfl (b0.memA .hd)) ?_
 obtain ⟨g0,D0,h⟩:=bi h
 refine Ba (vI g0) body151 rfl (e2 rfl rfl) (fun w9 hw9=>wide_Size_order_c n _ w9 (b0.hL0 hL hw9) a0.fm ((0:UInt64),(0:UInt64),(0:UInt64),(0:UInt64),(0:UInt64),(0:UInt64),(0:UInt64),(9223372036854775808:UInt64)) D0) rfl<|Ah rfl<|Aa<|Ac<|Ae rfl<|Ab (FV.gtr (i:=g0) (j:=0) rfl rfl)<|Ae rfl<|RG.ifd (s:=13) rfl h (fun x0 h=>?_) (fun x0 h=>?_)
 refine AO<|AO<|AO<|RG.un<|RG.un<|RG.un<|AO<|RG.pt rfl rfl<|Aa<|AV rfl<|Ac<|Ab (AK (vs:=[]) (u:=.agg zQ) evs_nil (fun w9=>by kernel_rfl))<|AL zP b0 (.tl .hd) (onesB rfl) (fun g1 k0 Q0=>?_)
 refine Ah rfl<|Aa<|Am rfl<|Al hb0 Tryz.func140 rfl (.cons (.many (cs:=zP) (by kernel_rfl) rfl (k0.memA (.tl .hd))) (.cons (.tmp rfl) .nil)) rfl ?_
 cases h
 exact k0.gv
 refine AW (Aj rfl)<|AW (FV.eql (i:=g0) (j:=0) rfl rfl)<|AW (Aj rfl)<|RG.ifd (s:=16) rfl h (fun y0 h=>?_) (fun y0 h=>?_)
 refine RG.fg 0 rfl<|AW (AJ rfl ((b0.memA (.tl (.tl .hd))) 0 _ rfl))<|AW (FV.not rfl)<|AW (FV.pick_t rfl rfl)<|RG.pf rfl rfl<|Aa<|MX.ifnb rfl h (fun j0 h=>?_) (fun j0 h=>?_)
 refine Av<|Ak<|Ac<|Bf 0 rfl<|AZ rfl ((b0.memA (.tl (.tl .hd))) 0 _ rfl)<|Aa<|MX.cond_kt rfl j0<|Ao<|Ab (AK (vs:=[]) (u:=.agg zQ) evs_nil (fun w9=>by kernel_rfl))<|Bf 1 rfl<|Ab (AR (cs:=(cs_A31 a0.fm)) (by kernel_rfl) rfl (mem_part (b0.memA (.tl (.tl .hd))) 1 8)) ?_
 obtain ⟨c0,E0,h⟩:=bi h
 refine Ba (.tuple #[.agg ((cs_A31 c0.1)).toArray,vU c0.2]) body139 rfl (e2 rfl rfl) (fun w9 hw9=>wide_Size_minus_c n _ w9 (b0.hL0 hL hw9) ((0:UInt64),(0:UInt64),(0:UInt64),(0:UInt64),(0:UInt64),(0:UInt64),(0:UInt64),(0:UInt64)) a0.fm E0) rfl<|Ae rfl<|Ab (Ag rfl rfl)<|Ab (Ag rfl rfl)<|Bf 1 rfl<|RG.now .plain (Bv (j:=1) (old:=(cs_TNumber a0)) (news:=(cs_A31 c0.1)) (new' :=(([.bool a0.fe]:List Value) ++ cs_A31 c0.1)) b0 (.tl (.tl .hd)) rfl rfl rfl rfl rfl rfl (onesB rfl) rfl) (fun j1 p0 R0=>?_)
 refine Aa<|Ac<|Bf 1 rfl<|Ab (AR (cs:=(cs_A31 c0.1)) (by kernel_rfl) rfl (mem_part (p0.memA (.tl (.tl .hd))) 1 8))<|AL (cs_A31 c0.1) p0 (.tl .hd) (onesB rfl) (fun k1 q0 U0=>?_)
 refine Ah rfl<|Aa<|Am rfl<|Al hb0 Tryz.func140 rfl (.cons (.many (cs:=(cs_A31 c0.1)) (by kernel_rfl) rfl (q0.memA (.tl .hd))) (.cons (.tmp rfl) .nil)) rfl ?_
 cases h
 exact q0.gv
 refine Ac<|Ab (AK (vs:=[]) (u:=.agg zQ) evs_nil (fun w9=>by kernel_rfl))<|AL zP b0 (.tl .hd) (onesB rfl) (fun p1 s0 V0=>?_)
 refine Ah rfl<|Aa<|Am rfl<|Al hb0 Tryz.func140 rfl (.cons (.many (cs:=zP) (by kernel_rfl) rfl (s0.memA (.tl .hd))) (.cons (.tmp rfl) .nil)) rfl ?_
 cases h
 exact s0.gv
 refine AO<|AO<|AO<|AW (Bh rfl rfl)<|RG.pf rfl rfl<|Aa<|Bu rfl<|Av<|Ak<|Ac<|Bf 0 rfl<|AZ rfl ((b0.memA (.tl (.tl .hd))) 0 _ rfl)<|Aa<|MX.ifb rfl h (fun z0 h=>?_) (fun z0 h=>?_)
 refine Ao<|Ab (AK (vs:=[]) (u:=.agg zQ) evs_nil (fun w9=>by kernel_rfl))<|Bf 1 rfl<|Ab (AR (cs:=(cs_A31 a0.fm)) (by kernel_rfl) rfl (mem_part (b0.memA (.tl (.tl .hd))) 1 8)) ?_
 obtain ⟨d0,F0,h⟩:=bi h
 refine Ba (.tuple #[.agg ((cs_A31 d0.1)).toArray,vU d0.2]) body139 rfl (e2 rfl rfl) (fun w9 hw9=>wide_Size_minus_c n _ w9 (b0.hL0 hL hw9) ((0:UInt64),(0:UInt64),(0:UInt64),(0:UInt64),(0:UInt64),(0:UInt64),(0:UInt64),(0:UInt64)) a0.fm F0) rfl<|Ae rfl<|Ab (Ag rfl rfl)<|Ab (Ag rfl rfl)<|Bf 1 rfl<|RG.now .plain (Bv (j:=1) (old:=(cs_TNumber a0)) (news:=(cs_A31 d0.1)) (new' :=(([.bool a0.fe]:List Value) ++ cs_A31 d0.1)) b0 (.tl (.tl .hd)) rfl rfl rfl rfl rfl rfl (onesB rfl) rfl) (fun q1 t0 W0=>?_)
 refine Aa<|Ac<|Bf 1 rfl<|Ab (AR (cs:=(cs_A31 d0.1)) (by kernel_rfl) rfl (mem_part (t0.memA (.tl (.tl .hd))) 1 8))<|AL (cs_A31 d0.1) t0 (.tl .hd) (onesB rfl) (fun s1 u0 X0=>?_)
 refine Ah rfl<|Aa<|Am rfl<|Al hb0 Tryz.func140 rfl (.cons (.many (cs:=(cs_A31 d0.1)) (by kernel_rfl) rfl (u0.memA (.tl .hd))) (.cons (.tmp rfl) .nil)) rfl ?_
 cases h
 exact u0.gv
 refine Av<|Ac<|Bf 1 rfl<|Ab (AR (cs:=(cs_A31 a0.fm)) (by kernel_rfl) rfl (mem_part (b0.memA (.tl (.tl .hd))) 1 8))<|AL (cs_A31 a0.fm) b0 (.tl .hd) (onesB rfl) (fun t1 v0 Y0=>?_)
 refine Ah rfl<|Aa<|Am rfl<|Al hb0 Tryz.func140 rfl (.cons (.many (cs:=(cs_A31 a0.fm)) (by kernel_rfl) rfl (v0.memA (.tl .hd))) (.cons (.tmp rfl) .nil)) rfl ?_
 cases h
 exact v0.gv
structure TLong where
  fe:Bool
  fo:List UInt64
  deriving DecidableEq
instance:Rep TLong:=Rep.via (β:=Bool × (List UInt64)) fun x=>(x.fe,x.fo)
def tb116_4:List (Nat × Nat × Nat):=[(0,8192,16),(1,16384,8192),(0,32768,2),(4,65536,32768),(10,131072,81920)]
theorem body140:bodyB Tryz.prog 140 = true:=by kernel_rfl
def wide_Long_Told_p (n:Nat) (a0:TLong):Option ((UInt64 × UInt64 × UInt64 × UInt64 × UInt64 × UInt64 × UInt64 × UInt64) × Int):=
  (if 8 < a0.fo.length then some (((0:UInt64),(0:UInt64),(0:UInt64),(0:UInt64),(0:UInt64),(0:UInt64),(0:UInt64),(0:UInt64)),(6:Int)) else (wide_Number_Told_p n (⟨a0.fe,(getA a0.fo 0 (0:UInt64),getA a0.fo 1 (0:UInt64),getA a0.fo 2 (0:UInt64),getA a0.fo 3 (0:UInt64),getA a0.fo 4 (0:UInt64),getA a0.fo 5 (0:UInt64),getA a0.fo 6 (0:UInt64),getA a0.fo 7 (0:UInt64))⟩:TNumber)).bind fun b0=>some (b0.1,b0.2))
theorem wide_Long_Told_c (n:Nat) (L:List Nat) (w:World) (hL:∀ b ∈ L,b < w.heap.size) (a0:TLong) {v0_1:Value} (h0_1:Rep.R w L [v0_1] a0.fo)  {r:(UInt64 × UInt64 × UInt64 × UInt64 × UInt64 × UInt64 × UInt64 × UInt64) × Int} (h:wide_Long_Told_p n a0 = some r) :
    Calls Tryz.prog 116 #[.agg #[.bool a0.fe,v0_1]] w (Gives w fun _ u=>u = .tuple #[.agg ((cs_A31 r.1)).toArray,vI r.2]):=by
 unfold wide_Long_Told_p at h
 have hS0:=Ax w
 refine AE Tryz.func116 rfl rfl rfl (fun _ cs0 hb0=>?_)
 refine Ac<|Ai .plain rfl (Ar hS0 rfl rfl) (fun P0 B0 v0 D0=>?_)
 refine Ai .plain rfl (Au zP v0) (fun Q0 C0 c0 E0=>?_)
 refine Ah rfl<|Aa<|Ak<|Ac<|Bf 1 rfl<|AZ rfl ((c0.memA (.tl .hd)) 1 _ rfl) ?_
 have s0:=AP h0_1 c0
 have K0:a0.fo.length ≤ 281474976710656:=Bi s0
 refine Ab (Bk (xs:=a0.fo) Tryz.underlying123 rfl s0)<|Ab (FV.gtrN (i:=a0.fo.length) (j:=8) rfl rfl)<|Aa<|AX rfl h (fun u0 h=>?_) (fun u0 h=>?_)
 refine Ac<|Ab (AK (vs:=[]) (u:=.agg zQ) evs_nil (fun w9=>by kernel_rfl))<|AL zP c0 .hd (onesB rfl) (fun R0 p0 F0=>?_)
 refine Ah rfl<|Aa<|Am rfl<|Al hb0 Tryz.func116 rfl (.cons (.many (cs:=zP) (by kernel_rfl) rfl (p0.memA .hd)) (.cons (.tmp rfl) .nil)) rfl ?_
 cases h
 exact p0.gv
 refine Av<|Ac<|Bf 0 rfl<|AZ rfl ((c0.memA (.tl .hd)) 0 _ rfl)<|Ab (AK (vs:=[.bool a0.fe]) (u:=.agg #[.bool a0.fe,vW 0,vW 0,vW 0,vW 0,vW 0,vW 0,vW 0,vW 0]) (e1 rfl) (fun w9=>by kernel_rfl))<|Ai .plain rfl (Au [.bool false,vW 0,vW 0,vW 0,vW 0,vW 0,vW 0,vW 0,vW 0] c0) (fun U0 t0 x0 G0=>?_)
 refine AL [.bool a0.fe,vW 0,vW 0,vW 0,vW 0,vW 0,vW 0,vW 0,vW 0] x0 .hd (onesB rfl) (fun V0 j0 H0=>?_)
 refine Aa<|Ak<|dt 4 tb116_4 (fun b0 d0=>?_)
 refine Af 0 1 b0 rfl d0 (fun _=>AQ 1 rfl) rfl<|AA 1 3 16 b0 rfl d0 (FV.sliceA (len:=8) (m:=1) (p:=Addr.add ⟨t0,0,none⟩ 1) (by kernel_rfl) rfl) rfl<|Af 2 7 b0 rfl d0 (fun _=>AQ 1 rfl) rfl<|AA 3 15 16 b0 rfl d0 (AJ rfl ((j0.memA (.tl (.tl .hd))) 1 _ rfl)) rfl ?_
 have y0:=AP h0_1 j0
 refine BC (i:=4) (rk b0) (RO.doesL (m' :=31) (sk b0) rfl rfl .plain rfl (DoesL.copyArr (fun z9:UInt64=>(vU z9:Value)) (olds:=([(0:UInt64),(0:UInt64),(0:UInt64),(0:UInt64),(0:UInt64),(0:UInt64),(0:UInt64),(0:UInt64)]:List UInt64)) (ys:=a0.fo) (pre:=[.bool a0.fe]) (post:=[]) (old:=[.bool a0.fe,vW 0,vW 0,vW 0,vW 0,vW 0,vW 0,vW 0,vW 0]) (new' :=[.bool a0.fe,vW ((getA a0.fo 0 (0:UInt64)).toNat:Int),vW ((getA a0.fo 1 (0:UInt64)).toNat:Int),vW ((getA a0.fo 2 (0:UInt64)).toNat:Int),vW ((getA a0.fo 3 (0:UInt64)).toNat:Int),vW ((getA a0.fo 4 (0:UInt64)).toNat:Int),vW ((getA a0.fo 5 (0:UInt64)).toNat:Int),vW ((getA a0.fo 6 (0:UInt64)).toNat:Int),vW ((getA a0.fo 7 (0:UInt64)).toNat:Int)]) rfl (fun _ _ _ _ h9=>h9) j0 .hd (by kernel_rfl) rfl rfl rfl rfl rfl rfl rfl (Src.rep y0)) (fun M0 W0 ⟨z0,k0,I0⟩=>?_))
 subst z0
 refine AH (dk b0)<|Ac<|Ab (Az rfl (k0.memA .hd)) ?_
 obtain ⟨g0,A0,h⟩:=bi h
 refine Ba (.tuple #[.agg ((cs_A31 g0.1)).toArray,vI g0.2]) body140 rfl (e1 rfl) (fun w9 hw9=>wide_Number_Told_c n _ w9 (k0.hL0 hL hw9) (⟨a0.fe,(getA a0.fo 0 (0:UInt64),getA a0.fo 1 (0:UInt64),getA a0.fo 2 (0:UInt64),getA a0.fo 3 (0:UInt64),getA a0.fo 4 (0:UInt64),getA a0.fo 5 (0:UInt64),getA a0.fo 6 (0:UInt64),getA a0.fo 7 (0:UInt64))⟩:TNumber) A0) rfl<|Ab (Ag rfl rfl)<|Ab (Ag rfl rfl)<|AL (cs_A31 g0.1) k0 (.tl .hd) (onesB rfl) (fun X0 q0 J0=>?_)
 refine Ah rfl<|Aa<|Am rfl<|Al hb0 Tryz.func116 rfl (.cons (.many (cs:=(cs_A31 g0.1)) (by kernel_rfl) rfl (q0.memA (.tl .hd))) (.cons (.tmp rfl) .nil)) rfl ?_
 cases h
 exact q0.gv
structure TRatio where
  ft:TLong
  fp:TLong
  deriving DecidableEq
instance:Rep TRatio:=Rep.via (β:=TLong × TLong) fun x=>(x.ft,x.fp)
def cs_TShare (x:TShare):List Value:=[vU x.fN.1,vU x.fN.2.1,vU x.fN.2.2.1,vU x.fN.2.2.2.1,vU x.fN.2.2.2.2.1,vU x.fN.2.2.2.2.2.1,vU x.fN.2.2.2.2.2.2.1,vU x.fN.2.2.2.2.2.2.2,vU x.fD.1,vU x.fD.2.1,vU x.fD.2.2.1,vU x.fD.2.2.2.1,vU x.fD.2.2.2.2.1,vU x.fD.2.2.2.2.2.1,vU x.fD.2.2.2.2.2.2.1,vU x.fD.2.2.2.2.2.2.2]
theorem body116:bodyB Tryz.prog 116 = true:=by kernel_rfl
def share_Ratio_Told_p (n:Nat) (a0:TRatio):Option (TShare × Int):=
  (wide_Long_Told_p n a0.ft).bind fun b0=>(wide_Long_Told_p n a0.fp).bind fun c0=>(if b0.2 = 0 then (if c0.2 = 0 then some ((⟨b0.1,c0.1⟩:TShare),(0:Int)) else some ((⟨((0:UInt64),(0:UInt64),(0:UInt64),(0:UInt64),(0:UInt64),(0:UInt64),(0:UInt64),(0:UInt64)),((0:UInt64),(0:UInt64),(0:UInt64),(0:UInt64),(0:UInt64),(0:UInt64),(0:UInt64),(0:UInt64))⟩:TShare),(6:Int))) else some ((⟨((0:UInt64),(0:UInt64),(0:UInt64),(0:UInt64),(0:UInt64),(0:UInt64),(0:UInt64),(0:UInt64)),((0:UInt64),(0:UInt64),(0:UInt64),(0:UInt64),(0:UInt64),(0:UInt64),(0:UInt64),(0:UInt64))⟩:TShare),(6:Int)))
theorem share_Ratio_Told_c (n:Nat) (L:List Nat) (w:World) (hL:∀ b ∈ L,b < w.heap.size) (a0:TRatio) {v0_1:Value} (h0_1:Rep.R w L [v0_1] a0.ft.fo) {v0_3:Value} (h0_3:Rep.R w L [v0_3] a0.fp.fo)  {r:TShare × Int} (h:share_Ratio_Told_p n a0 = some r) :
    Calls Tryz.prog 97 #[.agg #[.bool a0.ft.fe,v0_1,.bool a0.fp.fe,v0_3]] w (Gives w fun _ u=>u = .tuple #[.agg ((cs_TShare r.1)).toArray,vI r.2]):=by
 unfold share_Ratio_Told_p at h
 have hS0:=Ax w
 refine AE Tryz.func97 rfl rfl rfl (fun _ cs0 hb0=>?_)
 refine Ac<|Ai .plain rfl (Ar hS0 rfl rfl) (fun R0 B0 v0 F0=>?_)
 refine Ai .plain rfl (Au zL v0) (fun U0 C0 g0 G0=>?_)
 refine Ah rfl<|Aa<|Ac<|Bf 0 rfl<|Ab (AR (cs:=[.bool a0.ft.fe,v0_1]) (by kernel_rfl) rfl (mem_part (g0.memA (.tl .hd)) 0 2)) ?_
 obtain ⟨b0,z0,h⟩:=bi h
 refine Ba (.tuple #[.agg ((cs_A31 b0.1)).toArray,vI b0.2]) body116 rfl (e1 rfl) (fun w9 hw9=>wide_Long_Told_c n _ w9 (g0.hL0 hL hw9) a0.ft (g0.k0 h0_1 hw9) z0) rfl<|Ae rfl<|Ab (Ag rfl rfl)<|Ab (Ag rfl rfl)<|Ai .plain rfl (Au zP g0) (fun V0 D0 x0 H0=>?_)
 refine AL (cs_A31 b0.1) x0 .hd (onesB rfl) (fun W0 j0 I0=>?_)
 refine Ah rfl<|Aa<|Ac<|Bf 2 rfl<|Ab (AR (cs:=[.bool a0.fp.fe,v0_3]) (by kernel_rfl) rfl (mem_part (j0.memA (.tl (.tl .hd))) 2 2)) ?_
 obtain ⟨c0,A0,h⟩:=bi h
 refine Ba (.tuple #[.agg ((cs_A31 c0.1)).toArray,vI c0.2]) body116 rfl (e1 rfl) (fun w9 hw9=>wide_Long_Told_c n _ w9 (j0.hL0 hL hw9) a0.fp (j0.k0 h0_3 hw9) A0) rfl<|Ae rfl<|Ab (Ag rfl rfl)<|Ab (Ag rfl rfl)<|Ai .plain rfl (Au zP j0) (fun X0 E0 y0 J0=>?_)
 refine AL (cs_A31 c0.1) y0 .hd (onesB rfl) (fun Y0 d0 K0=>?_)
 refine Ah rfl<|Aa<|Ak<|Ac<|Ae rfl<|Ab (FV.neq (i:=b0.2) (j:=0) rfl rfl)<|Ae rfl<|RG.ifn (s:=22) rfl h (fun t0 h=>?_) (fun t0 h=>?_)
 refine AW (Aj rfl)<|AW (FV.neq (i:=c0.2) (j:=0) rfl rfl)<|RG.pf rfl rfl<|Aa<|MX.ifn rfl h (fun u0 h=>?_) (fun u0 h=>?_)
 refine Av<|Ac<|Ab (Az rfl (d0.memA (.tl .hd)))<|Ab (Az rfl (d0.memA .hd))<|Ab (AK (vs:=[.agg ((cs_A31 b0.1)).toArray,.agg ((cs_A31 c0.1)).toArray]) (u:=.agg ((cs_A31 b0.1 ++ cs_A31 c0.1)).toArray) (e2 rfl rfl) (fun w9=>by kernel_rfl))<|AL (cs_A31 b0.1 ++ cs_A31 c0.1) d0 (.tl (.tl .hd)) (onesB rfl) (fun Z0 p0 M0=>?_)
 refine Ah rfl<|Aa<|Am rfl<|Al hb0 Tryz.func97 rfl (.cons (.many (cs:=(cs_A31 b0.1 ++ cs_A31 c0.1)) (by kernel_rfl) rfl (p0.memA (.tl (.tl .hd)))) (.cons (.tmp rfl) .nil)) rfl ?_
 cases h
 exact p0.gv
 refine Ac<|Ab (AK (vs:=[]) (u:=.agg zM) evs_nil (fun w9=>by kernel_rfl))<|AL zL d0 (.tl (.tl .hd)) (onesB rfl) (fun b1 q0 P0=>?_)
 refine Ah rfl<|Aa<|Am rfl<|Al hb0 Tryz.func97 rfl (.cons (.many (cs:=zL) (by kernel_rfl) rfl (q0.memA (.tl (.tl .hd)))) (.cons (.tmp rfl) .nil)) rfl ?_
 cases h
 exact q0.gv
 refine AO<|AO<|RG.pt rfl rfl<|Aa<|AV rfl<|Ac<|Ab (AK (vs:=[]) (u:=.agg zM) evs_nil (fun w9=>by kernel_rfl))<|AL zL d0 (.tl (.tl .hd)) (onesB rfl) (fun c1 s0 Q0=>?_)
 refine Ah rfl<|Aa<|Am rfl<|Al hb0 Tryz.func97 rfl (.cons (.many (cs:=zL) (by kernel_rfl) rfl (s0.memA (.tl (.tl .hd)))) (.cons (.tmp rfl) .nil)) rfl ?_
 cases h
 exact s0.gv
theorem body97:bodyB Tryz.prog 97 = true:=by kernel_rfl
def share_told_p (n:Nat) (a0:TRatio) (a1:Int):Option (TShare × Int):=
  (if a1 = 0 then (share_Ratio_Told_p n a0).bind fun b0=>some (b0.1,b0.2) else some ((⟨((0:UInt64),(0:UInt64),(0:UInt64),(0:UInt64),(0:UInt64),(0:UInt64),(0:UInt64),(0:UInt64)),((0:UInt64),(0:UInt64),(0:UInt64),(0:UInt64),(0:UInt64),(0:UInt64),(0:UInt64),(0:UInt64))⟩:TShare),a1))
theorem share_told_c (n:Nat) (L:List Nat) (w:World) (hL:∀ b ∈ L,b < w.heap.size) (a0:TRatio) {v0_1:Value} (h0_1:Rep.R w L [v0_1] a0.ft.fo) {v0_3:Value} (h0_3:Rep.R w L [v0_3] a0.fp.fo) (a1:Int)  {r:TShare × Int} (h:share_told_p n a0 a1 = some r) :
    Calls Tryz.prog 70 #[.agg #[.bool a0.ft.fe,v0_1,.bool a0.fp.fe,v0_3],vI a1] w (Gives w fun _ u=>u = .tuple #[.agg ((cs_TShare r.1)).toArray,vI r.2]):=by
 unfold share_told_p at h
 have hS0:=Ax w
 refine AE Tryz.func70 rfl rfl rfl (fun _ cs0 hb0=>?_)
 refine Ac<|Ai .plain rfl (Ar hS0 rfl rfl) (fun z0 s0 p0 u0=>?_)
 refine Ai .plain rfl (Au zL p0) (fun A0 t0 b0 v0=>?_)
 refine Ah rfl<|Aa<|Ak<|Ac<|Ae rfl<|Ab (FV.neq (i:=a1) (j:=0) rfl rfl)<|Aa<|MX.ifn rfl h (fun j0 h=>?_) (fun j0 h=>?_)
 refine Av<|Ac<|Ab (Az rfl (b0.memA (.tl .hd))) ?_
 obtain ⟨c0,q0,h⟩:=bi h
 refine Ba (.tuple #[.agg ((cs_TShare c0.1)).toArray,vI c0.2]) body97 rfl (e1 rfl) (fun w9 hw9=>share_Ratio_Told_c n _ w9 (b0.hL0 hL hw9) a0 (b0.k0 h0_1 hw9) (b0.k0 h0_3 hw9) q0) rfl<|Ab (Ag rfl rfl)<|Ab (Ag rfl rfl)<|AL (cs_TShare c0.1) b0 .hd (onesB rfl) (fun B0 d0 x0=>?_)
 refine Ah rfl<|Aa<|Am rfl<|Al hb0 Tryz.func70 rfl (.cons (.many (cs:=(cs_TShare c0.1)) (by kernel_rfl) rfl (d0.memA .hd)) (.cons (.tmp rfl) .nil)) rfl ?_
 cases h
 exact d0.gv
 refine Ac<|Ab (AK (vs:=[]) (u:=.agg zM) evs_nil (fun w9=>by kernel_rfl))<|Ae rfl<|AL zL b0 .hd (onesB rfl) (fun C0 g0 y0=>?_)
 refine Ah rfl<|Aa<|Am rfl<|Al hb0 Tryz.func70 rfl (.cons (.many (cs:=zL) (by kernel_rfl) rfl (g0.memA .hd)) (.cons (.tmp rfl) .nil)) rfl ?_
 cases h
 exact g0.gv
def wide_Read_p (n:Nat) (a0:UInt64 × UInt64 × UInt64 × UInt64 × UInt64 × UInt64 × UInt64 × UInt64):Option TNumber:=
  (if (shrU a0.2.2.2.2.2.2.2 63) = (1:UInt64) then (wide_Size_minus_p n ((0:UInt64),(0:UInt64),(0:UInt64),(0:UInt64),(0:UInt64),(0:UInt64),(0:UInt64),(0:UInt64)) a0).bind fun b0=>some (⟨(decide ((shrU a0.2.2.2.2.2.2.2 63) = (1:UInt64))),b0.1⟩:TNumber) else some (⟨(decide ((shrU a0.2.2.2.2.2.2.2 63) = (1:UInt64))),a0⟩:TNumber))
theorem wide_Read_c (n:Nat) (L:List Nat) (w:World) (hL:∀ b ∈ L,b < w.heap.size) (a0:UInt64 × UInt64 × UInt64 × UInt64 × UInt64 × UInt64 × UInt64 × UInt64)  {r:TNumber} (h:wide_Read_p n a0 = some r) :
    Calls Tryz.prog 114 #[.agg ((cs_A31 a0)).toArray] w (Gives w fun _ u=>u = .agg ((cs_TNumber r)).toArray):=by
 unfold wide_Read_p at h
 have hS0:=Ax w
 refine AE Tryz.func114 rfl rfl rfl (fun _ cs0 hb0=>?_)
 refine Ac<|Ai .plain rfl (Ar hS0 rfl rfl) (fun F0 u0 q0 y0=>?_)
 refine Ai .plain rfl (Au [.bool false,vW 0,vW 0,vW 0,vW 0,vW 0,vW 0,vW 0,vW 0] q0) (fun G0 v0 d0 z0=>?_)
 refine Aa<|Ac<|Ab (AI (m:=1) (k:=7) (len:=8) (by kernel_rfl) rfl rfl rfl (by omega))<|AZ rfl ((d0.memA (.tl .hd)) 7 _ rfl)<|Ab (FV.shrU (a:=a0.2.2.2.2.2.2.2) (j:=63) rfl rfl)<|Ab (FV.eqlU (a:=shrU a0.2.2.2.2.2.2.2 63) (b:=(1:UInt64)) rfl rfl)<|Ab (Az rfl (d0.memA (.tl .hd)))<|Ab (AK (vs:=[.bool (decide ((shrU a0.2.2.2.2.2.2.2 63) = (1:UInt64))),.agg ((cs_A31 a0)).toArray]) (u:=.agg ((([.bool (decide ((shrU a0.2.2.2.2.2.2.2 63) = (1:UInt64)))]:List Value) ++ cs_A31 a0)).toArray) (e2 rfl rfl) (fun w9=>by kernel_rfl))<|Ai .plain rfl (Au [.bool false,vW 0,vW 0,vW 0,vW 0,vW 0,vW 0,vW 0,vW 0] d0) (fun H0 x0 s0 A0=>?_)
 refine AL (([.bool (decide ((shrU a0.2.2.2.2.2.2.2 63) = (1:UInt64)))]:List Value) ++ cs_A31 a0) s0 .hd (onesB rfl) (fun I0 b0 B0=>?_)
 refine Aa<|Ak<|Ac<|Bf 0 rfl<|AZ rfl ((b0.memA .hd) 0 _ rfl)<|Aa<|AX rfl h (fun p0 h=>?_) (fun p0 h=>?_)
 refine Ao<|Ab (AK (vs:=[]) (u:=.agg zQ) evs_nil (fun w9=>by kernel_rfl))<|Bf 1 rfl<|Ab (AR (cs:=(cs_A31 a0)) (by kernel_rfl) rfl (mem_part (b0.memA .hd) 1 8)) ?_
 obtain ⟨c0,t0,h⟩:=bi h
 refine Ba (.tuple #[.agg ((cs_A31 c0.1)).toArray,vU c0.2]) body139 rfl (e2 rfl rfl) (fun w9 hw9=>wide_Size_minus_c n _ w9 (b0.hL0 hL hw9) ((0:UInt64),(0:UInt64),(0:UInt64),(0:UInt64),(0:UInt64),(0:UInt64),(0:UInt64),(0:UInt64)) a0 t0) rfl<|Ae rfl<|Ab (Ag rfl rfl)<|Ab (Ag rfl rfl)<|Bf 1 rfl<|RG.now .plain (Bv (j:=1) (old:=(([.bool (decide ((shrU a0.2.2.2.2.2.2.2 63) = (1:UInt64)))]:List Value) ++ cs_A31 a0)) (news:=(cs_A31 c0.1)) (new' :=(([.bool (decide ((shrU a0.2.2.2.2.2.2.2 63) = (1:UInt64)))]:List Value) ++ cs_A31 c0.1)) b0 .hd rfl rfl rfl rfl rfl rfl (onesB rfl) rfl) (fun J0 g0 C0=>?_)
 refine Aa<|Ac<|Ab (Az rfl (g0.memA .hd))<|AL (([.bool (decide ((shrU a0.2.2.2.2.2.2.2 63) = (1:UInt64)))]:List Value) ++ cs_A31 c0.1) g0 (.tl .hd) (onesB rfl) (fun K0 j0 D0=>?_)
 refine Aa<|Am rfl<|Al hb0 Tryz.func114 rfl (.cons (.many (cs:=(([.bool (decide ((shrU a0.2.2.2.2.2.2.2 63) = (1:UInt64)))]:List Value) ++ cs_A31 c0.1)) (by kernel_rfl) rfl (j0.memA (.tl .hd))) .nil) rfl ?_
 cases h
 exact j0.gv
 refine Av<|Ac<|Ab (Az rfl (b0.memA .hd))<|AL (([.bool (decide ((shrU a0.2.2.2.2.2.2.2 63) = (1:UInt64)))]:List Value) ++ cs_A31 a0) b0 (.tl .hd) (onesB rfl) (fun M0 k0 E0=>?_)
 refine Aa<|Am rfl<|Al hb0 Tryz.func114 rfl (.cons (.many (cs:=(([.bool (decide ((shrU a0.2.2.2.2.2.2.2 63) = (1:UInt64)))]:List Value) ++ cs_A31 a0)) (by kernel_rfl) rfl (k0.memA (.tl .hd))) .nil) rfl ?_
 cases h
 exact k0.gv
def wide_trimmed_l1 (_n:Nat) (a1:List UInt64) (c0:Int → Option Int):Int → Option Int
  | b0=>(if 0 < b0 then (chk (b0 - 1)).bind fun d0=>(idx a1 d0).bind fun j0=>(if j0 = (0:UInt64) then (chk (b0 - 1)).bind fun g0=>c0 g0 else some b0) else some b0)
def wide_trimmed_p (n:Nat) (a0:Bool) (a1:List UInt64):Option TLong:=
  jn (fun b0=>(if a0 = true then (cut a1 0 b0).bind fun d0=>some (⟨(decide (0 < b0)),d0⟩:TLong) else (cut a1 0 b0).bind fun g0=>some (⟨false,g0⟩:TLong))) (fun c0=>Option.bind (loopF (wide_trimmed_l1 n a1) n ((a1.length:Nat):Int)) (c0))
theorem wide_trimmed_c (n:Nat) (L:List Nat) (w:World) (_hL:∀ b ∈ L,b < w.heap.size) (a0:Bool) (a1:List UInt64) {v1_0:Value} (h1_0:Rep.R w L [v1_0] a1)  {r:TLong} (h:wide_trimmed_p n a0 a1 = some r) :
    Calls Tryz.prog 115 #[.bool a0,v1_0] w (Gives w fun w' u=>∃ v0_1:Value,u = .agg #[.bool r.fe,v0_1]∧Rep.R w' L [v0_1] r.fo):=by
 unfold wide_trimmed_p at h
 have hS0:=Ax w
 refine AE Tryz.func115 rfl rfl rfl (fun _ cs0 hb0=>?_)
 refine Ac<|Ai .plain rfl (Au [.bool false,vN] hS0) (fun D0 d0 A0 H1=>?_)
 refine Aa<|Ac<|Ae rfl ?_
 have C0:=AP h1_0 A0
 have I1:a1.length ≤ 281474976710656:=Bi C0
 refine Ab (Bk (xs:=a1) Tryz.underlying123 rfl C0)<|Ah rfl<|Aa<|Ak<|AB<|MX.joinx (α:=Int) (fun b0=>[(0,.bool a0),(1,v1_0),(4,vP d0),(5,vI b0)]) (fun b0 x0=>St w x0 [.cells d0 [.bool false,vN] 125]∧Tr D0 [.cells d0 [.bool false,vN] 125] x0 [.cells d0 [.bool false,vN] 125]) (fun b0=>b0) (id:=0) rfl h ?_ ?_
 rintro b0 x0 ⟨k0,G1⟩ h
 try dsimp only at h
 refine Ac<|Ae rfl<|Ae rfl<|RG.ifb (s:=21) rfl h (fun F0 h=>?_) (fun F0 h=>?_)
 refine AW (Aj rfl)<|AW (FV.gtr (i:=b0) (j:=0) rfl rfl)<|RG.pt rfl rfl<|Ae rfl<|Ae rfl ?_
 obtain ⟨P1,t1,h⟩:=bi h
 have V0:=AP h1_0 k0
 refine RG.valE .plain rfl (FV.cutL (α:=UInt64) t1 (by kernel_rfl) rfl V0 rfl ⟨_,rfl⟩) (fun g0 u0=>?_)
 obtain ⟨y1,D1,k1,_⟩:=Rep.sl u0
 refine Ab (AK (vs:=[.bool (decide (0 < b0)),g0]) (u:=.agg #[.bool (decide (0 < b0)),g0]) (e2 rfl rfl) (fun w9=>by rw [k1]; try kernel_rfl))<|AL [.bool (decide (0 < b0)),g0] k0 .hd (o2 rfl (AU u0)) (fun K1 q0 K0=>?_)
 refine Aa<|Am rfl<|Al hb0 Tryz.func115 rfl (.cons (.many (cs:=[.bool (decide (0 < b0)),g0]) (by kernel_rfl) rfl (q0.memA .hd)) .nil) rfl ?_
 cases h
 have W0:=Ay u0 K0
 exact ⟨q0.ag,fun w9 hw9=>⟨g0,rfl,q0.kd W0 hw9⟩⟩
 refine AO<|AO<|RG.pf rfl rfl<|Ae rfl<|Ae rfl ?_
 obtain ⟨Q1,u1,h⟩:=bi h
 have X0:=AP h1_0 k0
 refine RG.valE .plain rfl (FV.cutL (α:=UInt64) u1 (by kernel_rfl) rfl X0 rfl ⟨_,rfl⟩) (fun j0 v0=>?_)
 obtain ⟨z1,E1,p1,_⟩:=Rep.sl v0
 refine Ab (AK (vs:=[.bool false,j0]) (u:=.agg #[.bool false,j0]) (e2 rfl rfl) (fun w9=>by rw [p1]; try kernel_rfl))<|AL [.bool false,j0] k0 .hd (o2 rfl (AU v0)) (fun M1 s0 M0=>?_)
 refine Aa<|Am rfl<|Al hb0 Tryz.func115 rfl (.cons (.many (cs:=[.bool false,j0]) (by kernel_rfl) rfl (s0.memA .hd)) .nil) rfl ?_
 cases h
 have Y0:=Ay v0 M0
 exact ⟨s0.ag,fun w9 hw9=>⟨j0,rfl,s0.kd Y0 hw9⟩⟩
 intro B1 z0 h
 try dsimp only at h
 obtain ⟨J1,c1,B0⟩:=bind_in2 h
 refine Bw (α:=Int) (fun c0=>[(0,.bool a0),(1,v1_0),(4,vP d0),(5,vI c0)]) (fun c0 y0=>St w y0 [.cells d0 [.bool false,vN] 125]∧Tr D0 [.cells d0 [.bool false,vN] 125] y0 [.cells d0 [.bool false,vN] 125]) (fun c0=>c0) ((a1.length:Nat):Int) c1 ⟨rfl,rfl,rfl,rfl,trivial⟩ ⟨A0,Bd _ _⟩ ?_
 rintro C1 c0 y0 J0 ⟨p0,t0⟩ h
 unfold wide_trimmed_l1 at h
 try dsimp only at h
 refine Ak<|Ac<|Ae rfl<|Ab (FV.gtr (i:=c0) (j:=0) rfl rfl)<|Ae rfl<|RG.ifd (s:=10) rfl h (fun G0 h=>?_) (fun G0 h=>?_)
 refine AW (Aj rfl)<|AW (Aj rfl) ?_
 obtain ⟨v1,g1,h⟩:=bi h
 refine AW (FV.subc (i:=c0) (j:=1) rfl rfl g1) ?_
 obtain ⟨E0,q1,h⟩:=bi h
 obtain ⟨R0,s1⟩:=idx_in q1
 have b1:=AP h1_0 p0
 obtain ⟨A1,F1,P0,U0,I0,d1,Z0⟩:=Bo b1 s1
 have Q0:I0 = [vU E0]:=d1; subst Q0
 refine AW (Bx 1 (v1.toNat) rfl P0 rfl R0 U0)<|AW (AJ rfl (Z0 0 _ rfl))<|AW (FV.eqlU (a:=E0) (b:=(0:UInt64)) rfl rfl)<|RG.pt rfl rfl<|Aa<|AX rfl h (fun H0 h=>?_) (fun H0 h=>?_)
 refine Av<|AB<|Ao<|Ae rfl ?_
 obtain ⟨x1,j1,h⟩:=bi h
 refine Ab (FV.subc (i:=c0) (j:=1) rfl rfl j1)<|Ah rfl<|Aa<|AC ?_
 exact J0 x1 _ _ ⟨rfl,rfl,rfl,rfl,trivial⟩ ⟨p0,t0⟩ h
 refine Bj rfl ?_
 have h:=B0 _ h
 try dsimp only at h
 exact z0 c0 _ _ ⟨rfl,rfl,rfl,rfl,trivial⟩ ⟨p0,t0⟩ h
 refine AO<|AO<|AO<|AO<|AO<|AO<|RG.pf rfl rfl<|Aa<|Bu rfl<|Bj rfl ?_
 have h:=B0 _ h
 try dsimp only at h
 exact z0 c0 _ _ ⟨rfl,rfl,rfl,rfl,trivial⟩ ⟨p0,t0⟩ h
def tb96_2:List (Nat × Nat × Nat):=[(0,64,8),(1,128,64),(0,256,0),(0,512,8),(8,1024,512),(20,2048,1280),(34,4096,2176),(127,0,4100)]
theorem el123:ElT Tryz.prog 123 30 (Rep.size UInt64) 8 (vW 0) [vW 0]:=⟨Tryz.underlying123,by kernel_rfl,rfl,rfl,rfl,rfl⟩
theorem body114:bodyB Tryz.prog 114 = true:=by kernel_rfl
theorem body115:bodyB Tryz.prog 115 = true:=by kernel_rfl
def wide_Longer_p (n:Nat) (a0:UInt64 × UInt64 × UInt64 × UInt64 × UInt64 × UInt64 × UInt64 × UInt64):Option TLong:=
  (wide_Read_p n a0).bind fun b0=>(app ([]:List UInt64) ([b0.fm.1,b0.fm.2.1,b0.fm.2.2.1,b0.fm.2.2.2.1,b0.fm.2.2.2.2.1,b0.fm.2.2.2.2.2.1,b0.fm.2.2.2.2.2.2.1,b0.fm.2.2.2.2.2.2.2]:List UInt64)).bind fun c0=>(wide_trimmed_p n b0.fe c0).bind fun d0=>some d0
theorem wide_Longer_c (n:Nat) (L:List Nat) (w:World) (hL:∀ b ∈ L,b < w.heap.size) (a0:UInt64 × UInt64 × UInt64 × UInt64 × UInt64 × UInt64 × UInt64 × UInt64)  {r:TLong} (h:wide_Longer_p n a0 = some r) :
    Calls Tryz.prog 96 #[.agg ((cs_A31 a0)).toArray] w (Gives w fun w' u=>∃ v0_1:Value,u = .agg #[.bool r.fe,v0_1]∧Rep.R w' L [v0_1] r.fo):=by
 unfold wide_Longer_p at h
 have hS0:=Ax w
 refine AE Tryz.func96 rfl rfl rfl (fun _ cs0 hb0=>?_)
 refine Ac<|Ai .plain rfl (Ar hS0 rfl rfl) (fun P1 V0 X0 E1=>?_)
 refine Ai .plain rfl (Au [.bool false,vN] X0) (fun U1 q0 F0 I1=>?_)
 refine Aa<|Ac<|Ab (Az rfl (F0.memA (.tl .hd))) ?_
 obtain ⟨b0,B1,h⟩:=bi h
 refine Ba (.agg ((cs_TNumber b0)).toArray) body114 rfl (e1 rfl) (fun w9 hw9=>wide_Read_c n _ w9 (F0.hL0 hL hw9) a0 B1) rfl<|Ai .plain rfl (Au [.bool false,vW 0,vW 0,vW 0,vW 0,vW 0,vW 0,vW 0,vW 0] F0) (fun V1 J0 d1 J1=>?_)
 refine AL (cs_TNumber b0) d1 .hd (onesB rfl) (fun C1 G0 K1=>?_)
 refine Aa<|Ak<|dt 5 tb96_2 (fun c0 z0=>?_)
 refine Af 0 1 c0 rfl z0 (fun _=>AQ 0 rfl) rfl<|Af 3 9 c0 rfl z0 (fun _=>AQ 1 rfl) rfl<|AA 4 25 224 c0 rfl z0 (FV.sliceA (len:=8) (m:=1) (p:=Addr.add ⟨J0,0,none⟩ 1) (by kernel_rfl) rfl) rfl ?_
 obtain ⟨p0,H0,h⟩:=bi h
 refine RD.meet (α:=Value × (List Value)) (fun ⟨g0,j0⟩=>[(2,vP q0),(7,.bool b0.fe),(11,g0)]) (fun ⟨g0,j0⟩ A0=>St w A0 [.row w.heap.size 30 (Rep.size UInt64) g0 p0.length j0,.cells q0 [.bool false,vN] 125]∧Tr C1 [.cells J0 (cs_TNumber b0) 168,.cells q0 [.bool false,vN] 125,.cells V0 (cs_A31 a0) 32] A0 [.row w.heap.size 30 (Rep.size UInt64) g0 p0.length j0,.cells q0 [.bool false,vN] 125]∧Cells A0 (bl [.row w.heap.size 30 (Rep.size UInt64) g0 p0.length j0,.cells q0 [.bool false,vN] 125] ++ L) j0 (p0:List UInt64)) 2 63 ?_ ?_
 rintro ⟨g0,j0⟩ A0 ⟨C0,F1,k1⟩
 try dsimp only
 have y1:=Br (α:=UInt64) C0 .hd k1 hL
 have D0:=St.delS C0 .hd
 have G1:=St.delT C0 .hd
 have z1:=Rep.at_ (α:=UInt64) (v:=g0) (xs:=p0) D0 L y1
 obtain ⟨U0,A1,h⟩:=bi h
 refine Bp 6 127 c0 rfl .plain body115 rfl (e2 rfl rfl) (fun w9 hw9=>wide_trimmed_c n _ w9 (D0.hL hL hw9) b0.fe p0 (Aq z1 hw9) A1) rfl (fun Q1 M1 j1 ⟨I0,hu_,Q0⟩=>?_)
 subst hu_
 obtain ⟨Y0,H1⟩:=D0.agr j1
 refine Bq 7 255 c0 rfl rfl .plain (Aw (news:=[.bool U0.fe,I0]) Y0 .hd rfl rfl rfl rfl rfl rfl (o2 rfl (AU Q0))) (fun R1 E0 g1=>?_)
 refine AH (dk c0)<|Am rfl<|Al hb0 Tryz.func96 rfl (.cons (.many (cs:=[.bool U0.fe,I0]) (by kernel_rfl) rfl (E0.memA .hd)) .nil) rfl ?_
 cases h
 have p1:=Ay Q0 g1
 exact ⟨E0.ag,fun w9 hw9=>⟨I0,rfl,E0.kd p1 hw9⟩⟩
 intro B0
 refine RD.each [1,2] (rk c0) ⟨?_,?_,trivial⟩
 refine RO.val (m' :=27) (sk c0) rfl .plain rfl (AJ rfl ((G0.memA .hd) 0 _ rfl))<|RD.nu 2 31 c0 rfl .plain rfl (AT (α:=UInt64) (xs:=([]:List UInt64)) (vs:=[]) (ds' :=[]) rfl G0 el123 rfl evs_nil (by kernel_rfl) rfl) (fun D1 W0 d0 x0=>?_)
 have y0:=AM (cs:=[]) (xs:=(([]:List UInt64):List UInt64)) d0 L (AS _ _)
 refine BC (i:=5) (rk c0) (RO.doesL (m' :=63) (sk c0) rfl rfl .plain rfl (DoesL.app (α:=UInt64) (ys:=([b0.fm.1,b0.fm.2.1,b0.fm.2.2.1,b0.fm.2.2.2.1,b0.fm.2.2.2.2.1,b0.fm.2.2.2.2.2.1,b0.fm.2.2.2.2.2.2.1,b0.fm.2.2.2.2.2.2.2]:List UInt64)) H0 d0 (fun _ _=>.hd) el123 rfl rfl y0 (Src.arr (ds:=[vU b0.fm.1,vU b0.fm.2.1,vU b0.fm.2.2.1,vU b0.fm.2.2.2.1,vU b0.fm.2.2.2.2.1,vU b0.fm.2.2.2.2.2.1,vU b0.fm.2.2.2.2.2.2.1,vU b0.fm.2.2.2.2.2.2.2]) (ys:=([b0.fm.1,b0.fm.2.1,b0.fm.2.2.1,b0.fm.2.2.2.1,b0.fm.2.2.2.2.1,b0.fm.2.2.2.2.2.1,b0.fm.2.2.2.2.2.2.1,b0.fm.2.2.2.2.2.2.2]:List UInt64)) (n:=8) (mem_part (d0.memA (.tl .hd)) 1 8) (Ap (cs:=[vU b0.fm.1]) (ds:=[vU b0.fm.2.1,vU b0.fm.2.2.1,vU b0.fm.2.2.2.1,vU b0.fm.2.2.2.2.1,vU b0.fm.2.2.2.2.2.1,vU b0.fm.2.2.2.2.2.2.1,vU b0.fm.2.2.2.2.2.2.2]) rfl (Ap (cs:=[vU b0.fm.2.1]) (ds:=[vU b0.fm.2.2.1,vU b0.fm.2.2.2.1,vU b0.fm.2.2.2.2.1,vU b0.fm.2.2.2.2.2.1,vU b0.fm.2.2.2.2.2.2.1,vU b0.fm.2.2.2.2.2.2.2]) rfl (Ap (cs:=[vU b0.fm.2.2.1]) (ds:=[vU b0.fm.2.2.2.1,vU b0.fm.2.2.2.2.1,vU b0.fm.2.2.2.2.2.1,vU b0.fm.2.2.2.2.2.2.1,vU b0.fm.2.2.2.2.2.2.2]) rfl (Ap (cs:=[vU b0.fm.2.2.2.1]) (ds:=[vU b0.fm.2.2.2.2.1,vU b0.fm.2.2.2.2.2.1,vU b0.fm.2.2.2.2.2.2.1,vU b0.fm.2.2.2.2.2.2.2]) rfl (Ap (cs:=[vU b0.fm.2.2.2.2.1]) (ds:=[vU b0.fm.2.2.2.2.2.1,vU b0.fm.2.2.2.2.2.2.1,vU b0.fm.2.2.2.2.2.2.2]) rfl (Ap (cs:=[vU b0.fm.2.2.2.2.2.1]) (ds:=[vU b0.fm.2.2.2.2.2.2.1,vU b0.fm.2.2.2.2.2.2.2]) rfl (Ap (cs:=[vU b0.fm.2.2.2.2.2.2.1]) (ds:=[vU b0.fm.2.2.2.2.2.2.2]) rfl (Ap (cs:=[vU b0.fm.2.2.2.2.2.2.2]) (ds:=[]) rfl (AS _ _))))))))) rfl)) (fun v0 R0 ⟨s0,k0,t0,u0⟩=>?_))
 obtain ⟨Z0,K0⟩:=AN k0 (.one .hd (.one (.tl .hd) .done))
 have q1:=Bb u0 K0
 have u1:=Tt x0 (Tt t0 K0)
 exact B0 (v0,s0) _ _ ⟨rfl,rfl,rfl,trivial⟩ ⟨Z0,u1,q1⟩
 refine RO.new (m' :=29) (sk c0) rfl .plain rfl (AT (α:=UInt64) (xs:=([]:List UInt64)) (vs:=[]) (ds' :=[]) rfl G0 el123 rfl evs_nil (by kernel_rfl) rfl) (fun D1 W0 d0 x0=>?_)
 have y0:=AM (cs:=[]) (xs:=(([]:List UInt64):List UInt64)) d0 L (AS _ _)
 refine RD.each [1,5] (rk c0) ⟨?_,?_,trivial⟩
 refine RO.val (m' :=31) (sk c0) rfl .plain rfl (AJ rfl ((d0.memA (.tl .hd)) 0 _ rfl))<|BC (i:=5) (rk c0) (RO.doesL (m' :=63) (sk c0) rfl rfl .plain rfl (DoesL.app (α:=UInt64) (ys:=([b0.fm.1,b0.fm.2.1,b0.fm.2.2.1,b0.fm.2.2.2.1,b0.fm.2.2.2.2.1,b0.fm.2.2.2.2.2.1,b0.fm.2.2.2.2.2.2.1,b0.fm.2.2.2.2.2.2.2]:List UInt64)) H0 d0 (fun _ _=>.hd) el123 rfl rfl y0 (Src.arr (ds:=[vU b0.fm.1,vU b0.fm.2.1,vU b0.fm.2.2.1,vU b0.fm.2.2.2.1,vU b0.fm.2.2.2.2.1,vU b0.fm.2.2.2.2.2.1,vU b0.fm.2.2.2.2.2.2.1,vU b0.fm.2.2.2.2.2.2.2]) (ys:=([b0.fm.1,b0.fm.2.1,b0.fm.2.2.1,b0.fm.2.2.2.1,b0.fm.2.2.2.2.1,b0.fm.2.2.2.2.2.1,b0.fm.2.2.2.2.2.2.1,b0.fm.2.2.2.2.2.2.2]:List UInt64)) (n:=8) (mem_part (d0.memA (.tl .hd)) 1 8) (Ap (cs:=[vU b0.fm.1]) (ds:=[vU b0.fm.2.1,vU b0.fm.2.2.1,vU b0.fm.2.2.2.1,vU b0.fm.2.2.2.2.1,vU b0.fm.2.2.2.2.2.1,vU b0.fm.2.2.2.2.2.2.1,vU b0.fm.2.2.2.2.2.2.2]) rfl (Ap (cs:=[vU b0.fm.2.1]) (ds:=[vU b0.fm.2.2.1,vU b0.fm.2.2.2.1,vU b0.fm.2.2.2.2.1,vU b0.fm.2.2.2.2.2.1,vU b0.fm.2.2.2.2.2.2.1,vU b0.fm.2.2.2.2.2.2.2]) rfl (Ap (cs:=[vU b0.fm.2.2.1]) (ds:=[vU b0.fm.2.2.2.1,vU b0.fm.2.2.2.2.1,vU b0.fm.2.2.2.2.2.1,vU b0.fm.2.2.2.2.2.2.1,vU b0.fm.2.2.2.2.2.2.2]) rfl (Ap (cs:=[vU b0.fm.2.2.2.1]) (ds:=[vU b0.fm.2.2.2.2.1,vU b0.fm.2.2.2.2.2.1,vU b0.fm.2.2.2.2.2.2.1,vU b0.fm.2.2.2.2.2.2.2]) rfl (Ap (cs:=[vU b0.fm.2.2.2.2.1]) (ds:=[vU b0.fm.2.2.2.2.2.1,vU b0.fm.2.2.2.2.2.2.1,vU b0.fm.2.2.2.2.2.2.2]) rfl (Ap (cs:=[vU b0.fm.2.2.2.2.2.1]) (ds:=[vU b0.fm.2.2.2.2.2.2.1,vU b0.fm.2.2.2.2.2.2.2]) rfl (Ap (cs:=[vU b0.fm.2.2.2.2.2.2.1]) (ds:=[vU b0.fm.2.2.2.2.2.2.2]) rfl (Ap (cs:=[vU b0.fm.2.2.2.2.2.2.2]) (ds:=[]) rfl (AS _ _))))))))) rfl)) (fun v0 R0 ⟨s0,k0,t0,u0⟩=>?_))
 obtain ⟨b1,M0⟩:=AN k0 (.one .hd (.one (.tl .hd) .done))
 have s1:=Bb u0 M0
 have v1:=Tt x0 (Tt t0 M0)
 exact B0 (v0,s0) _ _ ⟨rfl,rfl,rfl,trivial⟩ ⟨b1,v1,s1⟩
 refine RO.doesL (m' :=61) (sk c0) rfl rfl .plain rfl (DoesL.app (α:=UInt64) (ys:=([b0.fm.1,b0.fm.2.1,b0.fm.2.2.1,b0.fm.2.2.2.1,b0.fm.2.2.2.2.1,b0.fm.2.2.2.2.2.1,b0.fm.2.2.2.2.2.2.1,b0.fm.2.2.2.2.2.2.2]:List UInt64)) H0 d0 (fun _ _=>.hd) el123 rfl rfl y0 (Src.arr (ds:=[vU b0.fm.1,vU b0.fm.2.1,vU b0.fm.2.2.1,vU b0.fm.2.2.2.1,vU b0.fm.2.2.2.2.1,vU b0.fm.2.2.2.2.2.1,vU b0.fm.2.2.2.2.2.2.1,vU b0.fm.2.2.2.2.2.2.2]) (ys:=([b0.fm.1,b0.fm.2.1,b0.fm.2.2.1,b0.fm.2.2.2.1,b0.fm.2.2.2.2.1,b0.fm.2.2.2.2.2.1,b0.fm.2.2.2.2.2.2.1,b0.fm.2.2.2.2.2.2.2]:List UInt64)) (n:=8) (mem_part (d0.memA (.tl .hd)) 1 8) (Ap (cs:=[vU b0.fm.1]) (ds:=[vU b0.fm.2.1,vU b0.fm.2.2.1,vU b0.fm.2.2.2.1,vU b0.fm.2.2.2.2.1,vU b0.fm.2.2.2.2.2.1,vU b0.fm.2.2.2.2.2.2.1,vU b0.fm.2.2.2.2.2.2.2]) rfl (Ap (cs:=[vU b0.fm.2.1]) (ds:=[vU b0.fm.2.2.1,vU b0.fm.2.2.2.1,vU b0.fm.2.2.2.2.1,vU b0.fm.2.2.2.2.2.1,vU b0.fm.2.2.2.2.2.2.1,vU b0.fm.2.2.2.2.2.2.2]) rfl (Ap (cs:=[vU b0.fm.2.2.1]) (ds:=[vU b0.fm.2.2.2.1,vU b0.fm.2.2.2.2.1,vU b0.fm.2.2.2.2.2.1,vU b0.fm.2.2.2.2.2.2.1,vU b0.fm.2.2.2.2.2.2.2]) rfl (Ap (cs:=[vU b0.fm.2.2.2.1]) (ds:=[vU b0.fm.2.2.2.2.1,vU b0.fm.2.2.2.2.2.1,vU b0.fm.2.2.2.2.2.2.1,vU b0.fm.2.2.2.2.2.2.2]) rfl (Ap (cs:=[vU b0.fm.2.2.2.2.1]) (ds:=[vU b0.fm.2.2.2.2.2.1,vU b0.fm.2.2.2.2.2.2.1,vU b0.fm.2.2.2.2.2.2.2]) rfl (Ap (cs:=[vU b0.fm.2.2.2.2.2.1]) (ds:=[vU b0.fm.2.2.2.2.2.2.1,vU b0.fm.2.2.2.2.2.2.2]) rfl (Ap (cs:=[vU b0.fm.2.2.2.2.2.2.1]) (ds:=[vU b0.fm.2.2.2.2.2.2.2]) rfl (Ap (cs:=[vU b0.fm.2.2.2.2.2.2.2]) (ds:=[]) rfl (AS _ _))))))))) rfl)) (fun v0 R0 ⟨s0,k0,t0,u0⟩=>?_)
 refine AA 1 63 192 c0 rfl z0 (AJ rfl ((k0.memA (.tl .hd)) 0 _ rfl)) rfl ?_
 obtain ⟨c1,P0⟩:=AN k0 (.one .hd (.one (.tl .hd) .done))
 have t1:=Bb u0 P0
 have x1:=Tt x0 (Tt t0 P0)
 exact B0 (v0,s0) _ _ ⟨rfl,rfl,rfl,trivial⟩ ⟨c1,x1,t1⟩
def tb83_1:List (Nat × Nat × Nat):=[(0,8,2),(1,16,8),(2,32,16),(0,64,2),(8,128,64),(20,256,128),(36,512,288),(127,0,516)]
theorem body96:bodyB Tryz.prog 96 = true:=by kernel_rfl
def share_Read_p (n:Nat) (a0:TShare):Option TRatio:=
  (wide_Longer_p n a0.fN).bind fun b0=>(wide_Longer_p n a0.fD).bind fun c0=>some (⟨b0,c0⟩:TRatio)
theorem share_Read_c (n:Nat) (L:List Nat) (w:World) (hL:∀ b ∈ L,b < w.heap.size) (a0:TShare)  {r:TRatio} (h:share_Read_p n a0 = some r) :
    Calls Tryz.prog 83 #[.agg ((cs_TShare a0)).toArray] w (Gives w fun w' u=>∃ v0_1 v0_3:Value,u = .agg #[.bool r.ft.fe,v0_1,.bool r.fp.fe,v0_3]∧Rep.R w' L [v0_1] r.ft.fo∧Rep.R w' L [v0_3] r.fp.fo):=by
 unfold share_Read_p at h
 have hS0:=Ax w
 refine AE Tryz.func83 rfl rfl rfl (fun _ cs0 hb0=>?_)
 refine Ac<|Ai .plain rfl (Ar hS0 rfl rfl) (fun Z0 M0 z0 U0=>?_)
 refine Ai .plain rfl (Au [.bool false,vN,.bool false,vN] z0) (fun b1 P0 j0 V0=>?_)
 refine Aa<|Ak<|dt 7 tb83_1 (fun b0 c0=>?_)
 refine Af 0 1 b0 rfl c0 (fun _=>AQ 0 rfl) rfl<|AA 1 3 228 b0 rfl c0 (AR (cs:=(cs_A31 a0.fN)) (by kernel_rfl) rfl (mem_part (j0.memA (.tl .hd)) 0 8)) rfl<|Af 3 11 b0 rfl c0 (fun _=>AQ 8 rfl) rfl<|AA 4 27 224 b0 rfl c0 (AR (cs:=(cs_A31 a0.fD)) (by kernel_rfl) rfl (mem_part (j0.memA (.tl .hd)) 8 8)) rfl ?_
 obtain ⟨p0,H0,h⟩:=bi h
 refine Bp 2 31 b0 rfl .plain body96 rfl (e1 rfl) (fun w9 hw9=>wide_Longer_c n _ w9 (j0.hL hL hw9) a0.fN H0) rfl (fun c1 X0 B0 ⟨d0,hu_,y0⟩=>?_)
 subst hu_
 obtain ⟨t0,W0⟩:=j0.agr B0
 obtain ⟨q0,I0,h⟩:=bi h
 refine Bp 5 63 b0 rfl .plain body96 rfl (e1 rfl) (fun w9 hw9=>wide_Longer_c n _ w9 (t0.hL hL hw9) a0.fD I0) rfl (fun d1 Y0 C0 ⟨g0,hu_,s0⟩=>?_)
 subst hu_
 obtain ⟨A0,u0⟩:=t0.agr C0
 have x0:=Ay y0 u0
 obtain ⟨J0,Q0,F0,_⟩:=Rep.sl x0
 obtain ⟨K0,R0,G0,_⟩:=Rep.sl s0
 refine Af 6 127 b0 rfl c0 (fun _=>AK (vs:=[.agg #[.bool p0.fe,d0],.agg #[.bool q0.fe,g0]]) (u:=.agg #[.bool p0.fe,d0,.bool q0.fe,g0]) (e2 rfl rfl) (fun w9=>by rw [F0,G0]; try kernel_rfl)) rfl<|Bq 7 255 b0 rfl rfl .plain (Aw (news:=[.bool p0.fe,d0,.bool q0.fe,g0]) A0 .hd rfl rfl rfl rfl rfl rfl (o4 rfl (AU x0) rfl (AU s0))) (fun g1 k0 v0=>?_)
 refine AH (dk b0)<|Am rfl<|Al hb0 Tryz.func83 rfl (.cons (.many (cs:=[.bool p0.fe,d0,.bool q0.fe,g0]) (by kernel_rfl) rfl (k0.memA .hd)) .nil) rfl ?_
 cases h
 have D0:=Ay y0 (Tt u0 v0)
 have E0:=Ay s0 v0
 exact ⟨k0.ag,fun w9 hw9=>⟨d0,g0,rfl,k0.kd D0 hw9,k0.kd E0 hw9⟩⟩
def wide_Of_l1 (_n:Nat) (t0:Nat × UInt64 × UInt64 × UInt64 × UInt64 × UInt64 × UInt64 × UInt64 × UInt64 → Option (UInt64 × UInt64 × UInt64 × UInt64 × UInt64 × UInt64 × UInt64 × UInt64)):Nat × UInt64 × UInt64 × UInt64 × UInt64 × UInt64 × UInt64 × UInt64 × UInt64 → Option (UInt64 × UInt64 × UInt64 × UInt64 × UInt64 × UInt64 × UInt64 × UInt64)
  | (b0,c0,d0,g0,j0,k0,p0,q0,s0)=>(if b0 < 8 then (([c0,d0,g0,j0,k0,p0,q0,s0]:List UInt64)[b0]?).bind fun u0=>t0 (b0 + 1,setA b0 0 (18446744073709551615:UInt64) c0,setA b0 1 (18446744073709551615:UInt64) d0,setA b0 2 (18446744073709551615:UInt64) g0,setA b0 3 (18446744073709551615:UInt64) j0,setA b0 4 (18446744073709551615:UInt64) k0,setA b0 5 (18446744073709551615:UInt64) p0,setA b0 6 (18446744073709551615:UInt64) q0,setA b0 7 (18446744073709551615:UInt64) s0) else some (c0,d0,g0,j0,k0,p0,q0,s0))
def wide_Of_p (n:Nat) (a0:Int):Option (UInt64 × UInt64 × UInt64 × UInt64 × UInt64 × UInt64 × UInt64 × UInt64):=
  (if a0 < 0 then Option.bind (loopF (wide_Of_l1 n) n (1,u64of a0,(0:UInt64),(0:UInt64),(0:UInt64),(0:UInt64),(0:UInt64),(0:UInt64),(0:UInt64))) (fun (b0,c0,d0,g0,j0,k0,p0,q0)=>some (b0,c0,d0,g0,j0,k0,p0,q0)) else some (u64of a0,(0:UInt64),(0:UInt64),(0:UInt64),(0:UInt64),(0:UInt64),(0:UInt64),(0:UInt64)))
theorem wide_Of_c (n:Nat) (L:List Nat) (w:World) (_hL:∀ b ∈ L,b < w.heap.size) (a0:Int)  {r:UInt64 × UInt64 × UInt64 × UInt64 × UInt64 × UInt64 × UInt64 × UInt64} (h:wide_Of_p n a0 = some r) :
    Calls Tryz.prog 69 #[vI a0] w (Gives w fun _ u=>u = .agg ((cs_A31 r)).toArray):=by
 unfold wide_Of_p at h
 have hS0:=Ax w
 refine AE Tryz.func69 rfl rfl rfl (fun _ cs0 hb0=>?_)
 refine Ac<|Ai .plain rfl (Au zP hS0) (fun b1 u0 F0 R0=>?_)
 refine Aa<|Ac<|Ae rfl<|Ab (FV.convU (i:=a0) Tryz.underlying3 Tryz.underlying30 rfl)<|Ab (AK (vs:=[vW ((u64of a0).toNat:Int)]) (u:=.agg #[vW ((u64of a0).toNat:Int),vW 0,vW 0,vW 0,vW 0,vW 0,vW 0,vW 0]) (e1 rfl) (fun w9=>by kernel_rfl))<|Ai .plain rfl (Au zP F0) (fun c1 t0 G0 U0=>?_)
 refine AL [vW ((u64of a0).toNat:Int),vW 0,vW 0,vW 0,vW 0,vW 0,vW 0,vW 0] G0 .hd (onesB rfl) (fun P0 x0 V0=>?_)
 refine Aa<|Ak<|Ac<|Ae rfl<|Ab (FV.lss (i:=a0) (j:=0) rfl rfl)<|Aa<|AX rfl h (fun C0 h=>?_) (fun C0 h=>?_)
 refine Ac<|Ah rfl<|Aa<|AB ?_
 obtain ⟨Z0,M0,K0⟩:=bind_in2 h
 refine Bw (α:=Nat × UInt64 × UInt64 × UInt64 × UInt64 × UInt64 × UInt64 × UInt64 × UInt64) (fun ⟨b0,c0,d0,g0,j0,k0,p0,q0,s0⟩=>[(2,vP u0),(3,vP t0),(4,vI ((b0:Nat):Int))]) (fun ⟨b0,c0,d0,g0,j0,k0,p0,q0,s0⟩ z0=>St w z0 [.cells t0 [vU c0,vU d0,vU g0,vU j0,vU k0,vU p0,vU q0,vU s0] 32,.cells u0 zP 32]∧Tr P0 [.cells t0 [vW ((u64of a0).toNat:Int),vW 0,vW 0,vW 0,vW 0,vW 0,vW 0,vW 0] 32,.cells u0 zP 32] z0 [.cells t0 [vU c0,vU d0,vU g0,vU j0,vU k0,vU p0,vU q0,vU s0] 32,.cells u0 zP 32]) (fun ⟨b0,c0,d0,g0,j0,k0,p0,q0,s0⟩=>(b0,c0,d0,g0,j0,k0,p0,q0,s0)) (1,u64of a0,(0:UInt64),(0:UInt64),(0:UInt64),(0:UInt64),(0:UInt64),(0:UInt64),(0:UInt64)) M0 ⟨rfl,rfl,rfl,trivial⟩ ⟨x0,Bd _ _⟩ ?_
 rintro Q0 ⟨b0,c0,d0,g0,j0,k0,p0,q0,s0⟩ z0 E0 ⟨v0,I0⟩ h
 unfold wide_Of_l1 at h
 try dsimp only at h
 refine Ak<|Ac<|Ae rfl<|Ab (Bm (i:=b0) (j:=8) rfl rfl)<|Aa<|AX rfl h (fun D0 h=>?_) (fun D0 h=>?_)
 refine Av<|Ak<|AB<|Ao<|Ae rfl ?_
 obtain ⟨k1,y0,h⟩:=bi h
 have Y0:=mem_elem1 (p:=⟨t0,0,none⟩) (cs:=([c0,d0,g0,j0,k0,p0,q0,s0]:List UInt64).map (fun z9:UInt64=>(vU z9:Value)) ++ []) (i:=b0) (v0.memA .hd) (arr_get (fun z9:UInt64=>(vU z9:Value)) y0)
 refine Ab (AI (m:=1) (k:=b0) (len:=8) (by kernel_rfl) rfl rfl rfl (arr_lt y0 rfl))<|RG.now .plain (Acts.storeArr (fun z9:UInt64=>(vU z9:Value)) (xs:=([c0,d0,g0,j0,k0,p0,q0,s0]:List UInt64)) (pre:=[]) (post:=[]) (i:=b0) (m:=8) (x:=(18446744073709551615:UInt64)) (old:=[vU c0,vU d0,vU g0,vU j0,vU k0,vU p0,vU q0,vU s0]) (new' :=[vW ((setA b0 0 (18446744073709551615:UInt64) c0).toNat:Int),vW ((setA b0 1 (18446744073709551615:UInt64) d0).toNat:Int),vW ((setA b0 2 (18446744073709551615:UInt64) g0).toNat:Int),vW ((setA b0 3 (18446744073709551615:UInt64) j0).toNat:Int),vW ((setA b0 4 (18446744073709551615:UInt64) k0).toNat:Int),vW ((setA b0 5 (18446744073709551615:UInt64) p0).toNat:Int),vW ((setA b0 6 (18446744073709551615:UInt64) q0).toNat:Int),vW ((setA b0 7 (18446744073709551615:UInt64) s0).toNat:Int)]) rfl rfl (arr_lt y0 rfl) v0 .hd rfl (addr_at _ _ _) rfl (by kernel_rfl) (fun _=>⟨rfl,rfl⟩) rfl rfl) (fun d1 H0 J0=>?_)
 refine Aa<|AC<|Ao<|Ae rfl<|Ab (Bl (i:=b0) (j:=1) rfl rfl (by omega))<|Ah rfl<|Aa ?_
 exact E0 (b0 + 1,setA b0 0 (18446744073709551615:UInt64) c0,setA b0 1 (18446744073709551615:UInt64) d0,setA b0 2 (18446744073709551615:UInt64) g0,setA b0 3 (18446744073709551615:UInt64) j0,setA b0 4 (18446744073709551615:UInt64) k0,setA b0 5 (18446744073709551615:UInt64) p0,setA b0 6 (18446744073709551615:UInt64) q0,setA b0 7 (18446744073709551615:UInt64) s0) _ _ ⟨rfl,rfl,rfl,trivial⟩ ⟨H0,(Tt I0 J0)⟩ h
 refine Bj rfl ?_
 have h:=K0 _ h
 try dsimp only at h
 refine Ac<|Ab (Az rfl (v0.memA .hd))<|AL [vU c0,vU d0,vU g0,vU j0,vU k0,vU p0,vU q0,vU s0] v0 (.tl .hd) (onesB rfl) (fun g1 A0 W0=>?_)
 refine Aa<|Am rfl<|Al hb0 Tryz.func69 rfl (.cons (.many (cs:=[vU c0,vU d0,vU g0,vU j0,vU k0,vU p0,vU q0,vU s0]) (by kernel_rfl) rfl (A0.memA (.tl .hd))) .nil) rfl ?_
 cases h
 exact A0.gv
 refine Av<|Ac<|Ab (Az rfl (x0.memA .hd))<|AL [vW ((u64of a0).toNat:Int),vW 0,vW 0,vW 0,vW 0,vW 0,vW 0,vW 0] x0 (.tl .hd) (onesB rfl) (fun j1 B0 X0=>?_)
 refine Aa<|Am rfl<|Al hb0 Tryz.func69 rfl (.cons (.many (cs:=[vW ((u64of a0).toNat:Int),vW 0,vW 0,vW 0,vW 0,vW 0,vW 0,vW 0]) (by kernel_rfl) rfl (B0.memA (.tl .hd))) .nil) rfl ?_
 cases h
 exact B0.gv
theorem body69:bodyB Tryz.prog 69 = true:=by kernel_rfl
def wide_From_p (n:Nat) (a0:Int):Option TLong:=
  (wide_Of_p n a0).bind fun b0=>(wide_Longer_p n b0).bind fun c0=>some c0
theorem wide_From_c (n:Nat) (L:List Nat) (w:World) (hL:∀ b ∈ L,b < w.heap.size) (a0:Int)  {r:TLong} (h:wide_From_p n a0 = some r) :
    Calls Tryz.prog 82 #[vI a0] w (Gives w fun w' u=>∃ v0_1:Value,u = .agg #[.bool r.fe,v0_1]∧Rep.R w' L [v0_1] r.fo):=by
 unfold wide_From_p at h
 have hS0:=Ax w
 refine AE Tryz.func82 rfl rfl rfl (fun _ cs0 hb0=>?_)
 refine Ac<|Ai .plain rfl (Au [.bool false,vN] hS0) (fun B0 x0 b0 y0=>?_)
 refine Aa<|Ac<|Ae rfl ?_
 obtain ⟨j0,u0,h⟩:=bi h
 refine Ba (.agg ((cs_A31 j0)).toArray) body69 rfl (e1 rfl) (fun w9 hw9=>wide_Of_c n _ w9 (b0.hL0 hL hw9) a0 u0) rfl ?_
 obtain ⟨k0,v0,h⟩:=bi h
 refine By (fst:=[]) (cap:=[]) .plain body96 rfl (e1 rfl) (fun w9 hw9=>wide_Longer_c n _ w9 (b0.hL hL hw9) j0 v0) rfl (fun C0 A0 s0 ⟨d0,hu_,g0⟩=>?_)
 subst hu_
 obtain ⟨p0,z0⟩:=b0.agr s0
 refine AL [.bool k0.fe,d0] p0 .hd (o2 rfl (AU g0)) (fun D0 c0 q0=>?_)
 refine Aa<|Am rfl<|Al hb0 Tryz.func82 rfl (.cons (.many (cs:=[.bool k0.fe,d0]) (by kernel_rfl) rfl (c0.memA .hd)) .nil) rfl ?_
 cases h
 have t0:=Ay g0 q0
 exact ⟨c0.ag,fun w9 hw9=>⟨d0,rfl,c0.kd t0 hw9⟩⟩
def wide_Long_Side_p (_n:Nat) (a0:TLong):Option Int:=
  (if a0.fe = true then some (-1:Int) else (if a0.fo.length = 0 then some (0:Int) else some (1:Int)))
theorem wide_Long_Side_c (n:Nat) (L:List Nat) (w:World) (_hL:∀ b ∈ L,b < w.heap.size) (a0:TLong) {v0_1:Value} (h0_1:Rep.R w L [v0_1] a0.fo)  {r:Int} (h:wide_Long_Side_p n a0 = some r) :
    Calls Tryz.prog 84 #[.agg #[.bool a0.fe,v0_1]] w (Gives w fun _ u=>u = vI r):=by
 unfold wide_Long_Side_p at h
 have hS0:=Ax w
 refine AE Tryz.func84 rfl rfl rfl (fun _ cs0 hb0=>?_)
 refine Ac<|Ai .plain rfl (Ar hS0 rfl rfl) (fun q0 j0 b0 k0=>?_)
 refine Ah rfl<|Aa<|Ak<|AB<|Ac<|Bf 0 rfl<|AZ rfl ((b0.memA .hd) 0 _ rfl)<|Ah rfl<|Aa<|MX.ifb rfl h (fun d0 h=>?_) (fun d0 h=>?_)
 refine Ac<|Ah rfl<|Aa<|Am rfl<|Be hb0 Tryz.func84 rfl rfl ?_
 cases h
 exact b0.gv
 refine Ac<|Bf 1 rfl<|AZ rfl ((b0.memA .hd) 1 _ rfl) ?_
 have c0:=AP h0_1 b0
 have p0:a0.fo.length ≤ 281474976710656:=Bi c0
 refine Ab (Bk (xs:=a0.fo) Tryz.underlying123 rfl c0)<|Ab (FV.eqlN (i:=a0.fo.length) (j:=0) rfl rfl)<|Ah rfl<|Aa<|AX rfl h (fun g0 h=>?_) (fun g0 h=>?_)
 refine Ac<|Ah rfl<|Aa<|Am rfl<|Be hb0 Tryz.func84 rfl rfl ?_
 cases h
 exact b0.gv
 refine Av<|AC<|Ac<|Ah rfl<|Aa<|Am rfl<|Be hb0 Tryz.func84 rfl rfl ?_
 cases h
 exact b0.gv
def tb119_6:List (Nat × Nat × Nat):=[(0,16777216,1),(0,33554432,32),(3,67108864,50331648),(4,134217728,67108864),(0,268435456,2),(0,536870912,32),(48,1073741824,805306368),(64,2147483648,1073741824),(136,4294967296,2281701376),(256,8388608,4294967296)]
def tb119_8:List (Nat × Nat × Nat):=[(0,17179869184,1),(0,34359738368,32),(3,68719476736,51539607552),(4,137438953472,68719476736),(0,274877906944,2),(0,549755813888,32),(48,1099511627776,824633720832),(64,2199023255552,1099511627776),(136,4398046511104,2336462209024),(256,8589934592,4398046511104)]
def wide_compared_l1 (_n:Nat) (a0:List UInt64) (a1:List UInt64) (g0:Int → Option (Int ⊕ Unit)):Int → Option (Int ⊕ Unit)
  | b0=>(if 0 ≤ b0 then (idx a0 b0).bind fun c0=>(idx a1 b0).bind fun d0=>(if c0 < d0 then some (.inl (-1:Int)) else (if d0 < c0 then some (.inl (1:Int)) else (chk (b0 - 1)).bind fun j0=>g0 j0)) else some (.inr ()))
def wide_compared_p (n:Nat) (a0:List UInt64) (a1:List UInt64):Option Int:=
  (if a0.length = a1.length then thn (loopF (wide_compared_l1 n a0 a1) n (((a0.length:Nat):Int) - 1)) (fun _=>some (0:Int)) else some (((a0.length:Nat):Int) - ((a1.length:Nat):Int)))
theorem wide_compared_c (n:Nat) (L:List Nat) (w:World) (_hL:∀ b ∈ L,b < w.heap.size) (a0:List UInt64) {v0_0:Value} (h0_0:Rep.R w L [v0_0] a0) (a1:List UInt64) {v1_0:Value} (h1_0:Rep.R w L [v1_0] a1)  {r:Int} (h:wide_compared_p n a0 a1 = some r) :
    Calls Tryz.prog 119 #[v0_0,v1_0] w (Gives w fun _ u=>u = vI r):=by
 unfold wide_compared_p at h
 have hS0:=Ax w
 refine AE Tryz.func119 rfl rfl rfl (fun _ cs0 hb0=>?_)
 refine Ac<|Ah rfl<|Aa<|Ak<|Ac<|Ae rfl ?_
 have hl1:a0.length ≤ 281474976710656:=Bi h0_0
 refine Ab (Bk (xs:=a0) Tryz.underlying123 rfl h0_0)<|Ae rfl ?_
 have hl2:a1.length ≤ 281474976710656:=Bi h1_0
 refine Ab (Bk (xs:=a1) Tryz.underlying123 rfl h1_0)<|Ab (FV.neqN (i:=a0.length) (j:=a1.length) rfl rfl)<|Aa<|MX.ifn rfl h (fun c3 h=>?_) (fun c3 h=>?_)
 refine Av<|Ak<|Ac<|Ae rfl<|Ab (Bk (xs:=a0) Tryz.underlying123 rfl h0_0)<|Ab (FV.subI (i:=((a0.length:Nat):Int)) (j:=1) rfl rfl (by omega))<|Ah rfl<|Aa<|AB ?_
 obtain ⟨q1,R0,p0⟩:=thn_in h
 refine Bw (α:=Int) (fun d0=>[(0,v0_0),(1,v1_0),(5,vI d0)]) (fun d0 q0=>St w q0 []∧Tr w [] q0 []) (fun d0=>d0) (((a0.length:Nat):Int) - 1) R0 ⟨rfl,rfl,rfl,trivial⟩ ⟨hS0,Bd _ _⟩ ?_
 rintro j1 d0 q0 I0 ⟨k0,J0⟩ h
 unfold wide_compared_l1 at h
 try dsimp only at h
 refine Ak<|Ac<|Ae rfl<|Ab (FV.geq (i:=d0) (j:=0) rfl rfl)<|Aa<|AX rfl h (fun D0 h=>?_) (fun D0 h=>?_)
 refine Av<|Ak<|AB<|AB<|Ak<|dt 10 tb119_6 (fun b0 g0=>?_)
 refine Af 0 1 b0 rfl g0 (fun _=>Aj rfl) rfl<|Af 1 3 b0 rfl g0 (fun _=>Aj rfl) rfl ?_
 obtain ⟨s0,X0,h⟩:=bi h
 obtain ⟨x0,Y0⟩:=idx_in X0
 have P0:=AP h0_0 k0
 obtain ⟨d1,k1,u0,z0,G0,U0,B0⟩:=Bo P0 Y0
 have K0:G0 = [vU s0]:=U0; subst K0
 refine Af 2 7 b0 rfl g0 (fun _=>Bx 1 (d0.toNat) rfl u0 rfl x0 z0) rfl<|AA 3 15 768 b0 rfl g0 (AJ rfl (B0 0 _ rfl)) rfl<|Af 4 31 b0 rfl g0 (fun _=>Aj rfl) rfl<|Af 5 63 b0 rfl g0 (fun _=>Aj rfl) rfl ?_
 obtain ⟨t0,Z0,h⟩:=bi h
 obtain ⟨y0,b1⟩:=idx_in Z0
 have Q0:=AP h1_0 k0
 obtain ⟨g1,p1,v0,A0,H0,V0,C0⟩:=Bo Q0 b1
 have M0:H0 = [vU t0]:=V0; subst M0
 refine Af 6 127 b0 rfl g0 (fun _=>Bx 1 (d0.toNat) rfl v0 rfl y0 A0) rfl<|AA 7 255 768 b0 rfl g0 (AJ rfl (C0 0 _ rfl)) rfl<|Af 8 511 b0 rfl g0 (fun _=>FV.lssU (a:=s0) (b:=t0) rfl rfl) rfl<|Af 9 1023 b0 rfl g0 (fun _=>AY rfl) rfl<|AH (dk b0)<|AX rfl h (fun E0 h=>?_) (fun E0 h=>?_)
 refine Ac<|Ah rfl<|Aa ?_
 have h:=thn_inl h p0
 refine Am rfl<|Be hb0 Tryz.func119 rfl rfl ?_
 cases h
 exact k0.gv
 refine Ak<|dt 10 tb119_8 (fun c0 j0=>?_)
 refine Af 0 1 c0 rfl j0 (fun _=>Aj rfl) rfl<|Af 1 3 c0 rfl j0 (fun _=>Aj rfl) rfl<|Af 2 7 c0 rfl j0 (fun _=>Bx 1 (d0.toNat) rfl u0 rfl x0 z0) rfl<|AA 3 15 768 c0 rfl j0 (AJ rfl (B0 0 _ rfl)) rfl<|Af 4 31 c0 rfl j0 (fun _=>Aj rfl) rfl<|Af 5 63 c0 rfl j0 (fun _=>Aj rfl) rfl<|Af 6 127 c0 rfl j0 (fun _=>Bx 1 (d0.toNat) rfl v0 rfl y0 A0) rfl<|AA 7 255 768 c0 rfl j0 (AJ rfl (C0 0 _ rfl)) rfl<|Af 8 511 c0 rfl j0 (fun _=>FV.gtrU (a:=s0) (b:=t0) rfl rfl) rfl<|Af 9 1023 c0 rfl j0 (fun _=>AY rfl) rfl<|AH (dk c0)<|AX rfl h (fun F0 h=>?_) (fun F0 h=>?_)
 refine Ac<|Ah rfl<|Aa ?_
 have h:=thn_inl h p0
 refine Am rfl<|Be hb0 Tryz.func119 rfl rfl ?_
 cases h
 exact k0.gv
 refine Av<|AC<|AC<|Ao<|Ae rfl ?_
 obtain ⟨c1,W0,h⟩:=bi h
 refine Ab (FV.subc (i:=d0) (j:=1) rfl rfl W0)<|Ah rfl<|Aa ?_
 exact I0 c1 _ _ ⟨rfl,rfl,rfl,trivial⟩ ⟨k0,J0⟩ h
 refine Bj rfl ?_
 have h:=thn_inr h p0
 try dsimp only at h
 refine Ac<|Ah rfl<|Aa<|Am rfl<|Be hb0 Tryz.func119 rfl rfl ?_
 cases h
 exact k0.gv
 refine Ac<|Ae rfl<|Ab (Bk (xs:=a0) Tryz.underlying123 rfl h0_0)<|Ae rfl<|Ab (Bk (xs:=a1) Tryz.underlying123 rfl h1_0)<|Ab (FV.subI (i:=((a0.length:Nat):Int)) (j:=((a1.length:Nat):Int)) rfl rfl (by omega))<|Ah rfl<|Aa<|Am rfl<|Be hb0 Tryz.func119 rfl rfl ?_
 cases h
 exact hS0.gv
def wide_taken_l1 (_n:Nat) (a0:List UInt64) (a1:List UInt64) (j0:UInt64 × Nat × (List UInt64) → Option (List UInt64)):UInt64 × Nat × (List UInt64) → Option (List UInt64)
  | (k0,b0,c0)=>(if b0 < a0.length then (a0[b0]?).bind fun q0=>jn (fun p0=>(sub64 q0 p0 k0).bind fun g0=>(c0[b0]?).bind fun u0=>(put c0 ((b0:Nat):Int) g0.1).bind fun t0=>j0 (g0.2,b0 + 1,t0)) (fun d0=>(if b0 < a1.length then (a1[b0]?).bind fun s0=>d0 s0 else d0 (0:UInt64))) else some c0)
def wide_taken_p (n:Nat) (a0:List UInt64) (a1:List UInt64):Option (List UInt64):=
  (mk ((a0.length:Nat):Int) (0:UInt64)).bind fun b0=>Option.bind (loopF (wide_taken_l1 n a0 a1) n ((0:UInt64),0,b0)) (fun c0=>some c0)
theorem wide_taken_c (n:Nat) (L:List Nat) (w:World) (hL:∀ b ∈ L,b < w.heap.size) (a0:List UInt64) {v0_0:Value} (h0_0:Rep.R w L [v0_0] a0) (a1:List UInt64) {v1_0:Value} (h1_0:Rep.R w L [v1_0] a1)  {r:List UInt64} (h:wide_taken_p n a0 a1 = some r) :
    Calls Tryz.prog 120 #[v0_0,v1_0] w (Gives w fun w' u=>∃ v0_0:Value,u = v0_0∧Rep.R w' L [v0_0] r):=by
 unfold wide_taken_p at h
 have hS0:=Ax w
 refine AE Tryz.func120 rfl rfl rfl (fun _ cs0 hb0=>?_)
 refine Ac<|Ah rfl<|Aa<|Ac<|Ae rfl ?_
 have hl1:a0.length ≤ 281474976710656:=Bi h0_0
 refine Ab (Bk (xs:=a0) Tryz.underlying123 rfl h0_0) ?_
 obtain ⟨A0,H0,h⟩:=bi h
 refine Ai .plain rfl (Does.mk (α:=UInt64) H0 hS0 el123 rfl) (fun M1 d0 s0 d2=>?_)
 have b1:=AM (cs:=(List.replicate ((a0.length:Nat):Int).toNat [vW 0]).flatten) (xs:=A0) s0 L (Cells.mk H0 rfl)
 refine Ah rfl<|Aa<|Ac<|Ah rfl<|Aa<|Ak<|Ac<|Ae rfl ?_
 have v1:=AP h0_0 s0
 refine Ab (Bk (xs:=a0) Tryz.underlying123 rfl v1)<|Ae rfl<|Aa<|AB ?_
 obtain ⟨p2,A1,q1⟩:=bind_in2 h
 refine Bw (α:=UInt64 × Nat × (List UInt64) × (List Value)) (fun ⟨k0,b0,c0,g0⟩=>[(1,v1_0),(5,(.slice (some ⟨d0,0,none⟩) ((a0.length:Nat):Int).toNat ((a0.length:Nat):Int).toNat)),(6,vU k0),(13,v0_0),(14,vI ((a0.length:Nat):Int)),(15,vI ((b0:Nat):Int))]) (fun ⟨k0,b0,c0,g0⟩ q0=>St w q0 [.row w.heap.size 30 (Rep.size UInt64) (.slice (some ⟨d0,0,none⟩) ((a0.length:Nat):Int).toNat ((a0.length:Nat):Int).toNat) c0.length g0]∧Tr M1 [.row w.heap.size 30 (Rep.size UInt64) (.slice (some ⟨d0,0,none⟩) ((a0.length:Nat):Int).toNat ((a0.length:Nat):Int).toNat) A0.length ((List.replicate ((a0.length:Nat):Int).toNat [vW 0]).flatten)] q0 [.row w.heap.size 30 (Rep.size UInt64) (.slice (some ⟨d0,0,none⟩) ((a0.length:Nat):Int).toNat ((a0.length:Nat):Int).toNat) c0.length g0]∧Cells q0 (bl [.row w.heap.size 30 (Rep.size UInt64) (.slice (some ⟨d0,0,none⟩) ((a0.length:Nat):Int).toNat ((a0.length:Nat):Int).toNat) c0.length g0] ++ L) g0 c0) (fun ⟨k0,b0,c0,g0⟩=>(k0,b0,c0)) ((0:UInt64),0,A0,(List.replicate ((a0.length:Nat):Int).toNat [vW 0]).flatten) A1 ⟨rfl,rfl,rfl,rfl,rfl,rfl,trivial⟩ ⟨s0,Bd _ _,b1⟩ ?_
 rintro W1 ⟨k0,b0,c0,g0⟩ q0 W0 ⟨j0,Y0,D0⟩ h
 unfold wide_taken_l1 at h
 try dsimp only at h
 refine Ac<|Ab (Bm (i:=b0) (j:=a0.length) rfl rfl)<|Aa<|Ak<|AX rfl h (fun M0 h=>?_) (fun M0 h=>?_)
 refine Av<|Ak<|AB<|Ac<|Ae rfl ?_
 obtain ⟨z0,G1,h⟩:=bi h
 have y1:=AP h0_0 j0
 obtain ⟨U1,Y1,d1,s1,Q0,B1,x1⟩:=Bo y1 G1
 have g1:Q0 = [vU z0]:=B1; subst g1
 refine Ab (Bx 1 b0 rfl d1 rfl rfl s1)<|AZ rfl (x1 0 _ rfl)<|Ah rfl<|Ah rfl<|Aa<|Ac<|Ah rfl<|Aa<|Ak<|Ac<|Ae rfl<|Ae rfl ?_
 have x0:=AP h1_0 j0
 have j2:a1.length ≤ 281474976710656:=Bi x0
 refine Ab (Bk (xs:=a1) Tryz.underlying123 rfl x0)<|Ab (Bm (i:=b0) (j:=a1.length) rfl rfl)<|Aa<|MX.join (α:=UInt64) (fun p0=>[(1,v1_0),(5,(.slice (some ⟨d0,0,none⟩) ((a0.length:Nat):Int).toNat ((a0.length:Nat):Int).toNat)),(6,vU k0),(13,v0_0),(14,vI ((a0.length:Nat):Int)),(15,vI ((b0:Nat):Int)),(7,vI ((b0:Nat):Int)),(8,vU z0),(9,vU p0)]) (fun p0 y0=>St w y0 [.row w.heap.size 30 (Rep.size UInt64) (.slice (some ⟨d0,0,none⟩) ((a0.length:Nat):Int).toNat ((a0.length:Nat):Int).toNat) c0.length g0]∧Tr q0 [.row w.heap.size 30 (Rep.size UInt64) (.slice (some ⟨d0,0,none⟩) ((a0.length:Nat):Int).toNat ((a0.length:Nat):Int).toNat) c0.length g0] y0 [.row w.heap.size 30 (Rep.size UInt64) (.slice (some ⟨d0,0,none⟩) ((a0.length:Nat):Int).toNat ((a0.length:Nat):Int).toNat) c0.length g0]) (fun p0=>p0) h ?_ ?_
 rintro p0 y0 ⟨t0,C0⟩ h
 try dsimp only at h
 refine Ao<|Ae rfl<|Ae rfl<|Ae rfl<|Ae rfl<|Ae rfl ?_
 obtain ⟨R1,K1,h⟩:=bi h
 refine Ab (FV.sub64 (a:=z0) (b:=p0) (c:=k0) Tryz.func143 rfl (by kernel_rfl) (by kernel_rfl) (by kernel_rfl) rfl rfl rfl K1)<|Ae rfl<|Ab (Ag rfl rfl)<|Ab (Ag rfl rfl) ?_
 obtain ⟨P1,H1,h⟩:=bi h
 have G0:=Bb D0 C0
 obtain ⟨J0,Z1,v0,F0,R0,C1,k2⟩:=St.nth (α:=UInt64) t0 .hd G0 H1
 obtain ⟨K0,b2,E0⟩:=St.nthOwn (α:=UInt64) t0 .hd F0
 obtain rfl:J0 = ⟨K0,0,none⟩:=by rw [E0] at v0; cases v0; rfl
 have j1:R0 = [vU P1]:=C1; subst j1
 refine Ab (Bx 1 b0 rfl v0 rfl rfl F0) ?_
 obtain ⟨Q1,J1,h⟩:=bi h
 refine RG.acts' .plain (Acts.set (α:=UInt64) (i:=b0) J1 t0 E0 (fun _=>.hd) G0 rfl rfl rfl rfl rfl (by kernel_rfl)) (fun q2 ⟨U0,X0,Z0,c1⟩=>?_)
 refine Ah rfl<|Aa<|AC<|Ao<|Ab (Bl (i:=b0) (j:=1) rfl rfl (by omega))<|Ae rfl<|Aa ?_
 exact W0 (R1.2,b0 + 1,Q1,U0) _ _ ⟨rfl,rfl,rfl,rfl,rfl,rfl,trivial⟩ ⟨X0,(Tt Y0 (Tt C0 Z0)),c1⟩ h
 intro X1 B0 h
 try dsimp only at h
 refine AX rfl h (fun P0 h=>?_) (fun P0 h=>?_)
 refine Ao<|Ae rfl<|Ae rfl ?_
 obtain ⟨I0,I1,h⟩:=bi h
 obtain ⟨V1,c2,k1,u1,V0,D1,z1⟩:=Bo x0 I1
 have p1:V0 = [vU I0]:=D1; subst p1
 refine Ab (Bx 1 b0 rfl k1 rfl rfl u1)<|AZ rfl (z1 0 _ rfl)<|Ah rfl<|Aa ?_
 exact B0 I0 _ _ ⟨rfl,rfl,rfl,rfl,rfl,rfl,rfl,rfl,rfl,trivial⟩ ⟨j0,Bd _ _⟩ h
 refine Av ?_
 exact B0 (0:UInt64) _ _ ⟨rfl,rfl,rfl,rfl,rfl,rfl,rfl,rfl,rfl,trivial⟩ ⟨j0,Bd _ _⟩ h
 refine Bj rfl ?_
 have h:=q1 _ h
 try dsimp only at h
 refine Ac<|Ae rfl<|Ah rfl<|Aa<|Am rfl ?_
 have E1:=Br (α:=UInt64) j0 .hd D0 hL
 have u0:=St.delS j0 .hd
 have g2:=St.delT j0 .hd
 have F1:=Rep.at_ (α:=UInt64) (v:=(.slice (some ⟨d0,0,none⟩) ((a0.length:Nat):Int).toNat ((a0.length:Nat):Int).toNat)) (xs:=c0) u0 L E1
 refine Be hb0 Tryz.func120 rfl rfl ?_
 cases h
 exact ⟨u0.ag,fun w9 hw9=>⟨(.slice (some ⟨d0,0,none⟩) ((a0.length:Nat):Int).toNat ((a0.length:Nat):Int).toNat),rfl,u0.kd F1 hw9⟩⟩
def stab0:List UInt8:=[0,1,2,2,3,3,3,3,4,4,4,4,4,4,4,4,5,5,5,5,5,5,5,5,5,5,5,5,5,5,5,5,6,6,6,6,6,6,6,6,6,6,6,6,6,6,6,6,6,6,6,6,6,6,6,6,6,6,6,6,6,6,6,6,7,7,7,7,7,7,7,7,7,7,7,7,7,7,7,7,7,7,7,7,7,7,7,7,7,7,7,7,7,7,7,7,7,7,7,7,7,7,7,7,7,7,7,7,7,7,7,7,7,7,7,7,7,7,7,7,7,7,7,7,7,7,7,7,8,8,8,8,8,8,8,8,8,8,8,8,8,8,8,8,8,8,8,8,8,8,8,8,8,8,8,8,8,8,8,8,8,8,8,8,8,8,8,8,8,8,8,8,8,8,8,8,8,8,8,8,8,8,8,8,8,8,8,8,8,8,8,8,8,8,8,8,8,8,8,8,8,8,8,8,8,8,8,8,8,8,8,8,8,8,8,8,8,8,8,8,8,8,8,8,8,8,8,8,8,8,8,8,8,8,8,8,8,8,8,8,8,8,8,8,8,8,8,8,8,8,8,8,8,8,8,8]
def math_bits_Len64_p (_n:Nat) (a0:UInt64):Option Int:=
  jn (fun (u2,i3)=>jn (fun (b0,g0)=>jn (fun (q0,s0)=>(stab0[(u8of q0).toNat]?).bind fun t0=>(chk (s0 + ((t0.toNat:Nat):Int))).bind fun j0=>some j0) (fun d0=>(if (256:UInt64) ≤ b0 then (chk (g0 + 8)).bind fun k0=>d0 (shrU b0 8,k0) else d0 (b0,g0)))) (fun c0=>(if (65536:UInt64) ≤ u2 then (chk (((i3:Nat):Int) + 16)).bind fun p0=>c0 (shrU u2 16,p0) else c0 (u2,((i3:Nat):Int))))) (fun J7=>(if (4294967296:UInt64) ≤ a0 then J7 (shrU a0 32,32) else J7 (a0,0)))
theorem math_bits_Len64_c (n:Nat) (L:List Nat) (w:World) (_hL:∀ b ∈ L,b < w.heap.size) (a0:UInt64)  {r:Int} (h:math_bits_Len64_p n a0 = some r) :
    Calls Tryz.prog 152 #[vU a0] w (Gives w fun _ u=>u = vI r):=by
 unfold math_bits_Len64_p at h
 have hS0:=Ax w
 refine AE Tryz.func152 rfl rfl rfl (fun _ cs0 hb0=>?_)
 refine Ac<|Ah rfl<|Aa<|Ak<|Ac<|Ae rfl<|Ab (FV.geqU (a:=a0) (b:=(4294967296:UInt64)) rfl rfl)<|Aa<|MX.join (α:=UInt64 × Nat) (fun ⟨u2,i3⟩=>[(0,vU u2),(2,vI ((i3:Nat):Int))]) (fun ⟨u2,i3⟩ wx3=>St w wx3 []∧Tr w [] wx3 []) (fun ⟨u2,i3⟩=>(u2,i3)) h ?_ ?_
 rintro ⟨u2,i3⟩ wx3 ⟨hS4,hT5⟩ h
 try dsimp only at h
 refine Ak<|Ac<|Ae rfl<|Ab (FV.geqU (a:=u2) (b:=(65536:UInt64)) rfl rfl)<|Aa<|MX.join (α:=UInt64 × Int) (fun ⟨b0,d0⟩=>[(0,vU b0),(2,vI d0)]) (fun ⟨b0,d0⟩ j0=>St w j0 []∧Tr wx3 [] j0 []) (fun ⟨b0,d0⟩=>(b0,d0)) h ?_ ?_
 rintro ⟨b0,d0⟩ j0 ⟨t0,H0⟩ h
 try dsimp only at h
 refine Ak<|Ac<|Ae rfl<|Ab (FV.geqU (a:=b0) (b:=(256:UInt64)) rfl rfl)<|Aa<|MX.join (α:=UInt64 × Int) (fun ⟨c0,g0⟩=>[(0,vU c0),(2,vI g0)]) (fun ⟨c0,g0⟩ k0=>St w k0 []∧Tr j0 [] k0 []) (fun ⟨c0,g0⟩=>(c0,g0)) h ?_ ?_
 rintro ⟨c0,g0⟩ k0 ⟨y0,I0⟩ h
 try dsimp only at h
 refine Ac<|Ae rfl<|Ae rfl<|Ab (FV.conv8 (a:=c0) Tryz.underlying30 Tryz.underlying5 rfl) ?_
 obtain ⟨p0,C0,h⟩:=bi h
 refine Ab (FV.strIdx (k:=(u8of c0).toNat) (tab:=stab0) Tryz.underlying9 rfl rfl rfl rfl C0) ?_
 have J0:=p0.toNat_lt
 refine Ab (FV.convN (i:=p0.toNat) Tryz.underlying5 Tryz.underlying3 rfl (by omega)) ?_
 obtain ⟨K0,z0,h⟩:=bi h
 refine Ab (FV.addc (i:=g0) (j:=((p0.toNat:Nat):Int)) rfl rfl z0)<|Ah rfl<|Aa<|Am rfl<|Be hb0 Tryz.func152 rfl rfl ?_
 cases h
 exact y0.gv
 intro G0 s0 h
 try dsimp only at h
 refine AX rfl h (fun u0 h=>?_) (fun u0 h=>?_)
 refine Ac<|Ae rfl<|Ab (FV.shrU (a:=b0) (j:=8) rfl rfl)<|Ah rfl<|Aa<|Ao<|Ae rfl ?_
 obtain ⟨D0,A0,h⟩:=bi h
 refine Ab (FV.addc (i:=d0) (j:=8) rfl rfl A0)<|Ah rfl<|Aa ?_
 exact s0 (shrU b0 8,D0) _ _ ⟨rfl,rfl,trivial⟩ ⟨t0,Bd _ _⟩ h
 refine Av ?_
 exact s0 (b0,d0) _ _ ⟨rfl,rfl,trivial⟩ ⟨t0,Bd _ _⟩ h
 intro F0 q0 h
 try dsimp only at h
 refine AX rfl h (fun v0 h=>?_) (fun v0 h=>?_)
 refine Ac<|Ae rfl<|Ab (FV.shrU (a:=u2) (j:=16) rfl rfl)<|Ah rfl<|Aa<|Ao<|Ae rfl ?_
 obtain ⟨E0,B0,h⟩:=bi h
 refine Ab (FV.addc (i:=((i3:Nat):Int)) (j:=16) rfl rfl B0)<|Ah rfl<|Aa ?_
 exact q0 (shrU u2 16,E0) _ _ ⟨rfl,rfl,trivial⟩ ⟨hS4,Bd _ _⟩ h
 refine Av ?_
 exact q0 (u2,((i3:Nat):Int)) _ _ ⟨rfl,rfl,trivial⟩ ⟨hS4,Bd _ _⟩ h
 intro J7 hJ8 h
 try dsimp only at h
 refine AX rfl h (fun x0 h=>?_) (fun x0 h=>?_)
 refine Ac<|Ae rfl<|Ab (FV.shrU (a:=a0) (j:=32) rfl rfl)<|Ah rfl<|Aa<|Ao<|Ah rfl<|Aa ?_
 exact hJ8 (shrU a0 32,32) _ _ ⟨rfl,rfl,trivial⟩ ⟨hS0,Bd _ _⟩ h
 refine Av ?_
 exact hJ8 (a0,0) _ _ ⟨rfl,rfl,trivial⟩ ⟨hS0,Bd _ _⟩ h
theorem body152:bodyB Tryz.prog 152 = true:=by kernel_rfl
def math_bits_LeadingZeros64_p (n:Nat) (a0:UInt64):Option Int:=
  (math_bits_Len64_p n a0).bind fun y1=>(chk (64 - y1)).bind fun s2=>some s2
theorem math_bits_LeadingZeros64_c (n:Nat) (L:List Nat) (w:World) (hL:∀ b ∈ L,b < w.heap.size) (a0:UInt64)  {r:Int} (h:math_bits_LeadingZeros64_p n a0 = some r) :
    Calls Tryz.prog 145 #[vU a0] w (Gives w fun _ u=>u = vI r):=by
 unfold math_bits_LeadingZeros64_p at h
 have hS0:=Ax w
 refine AE Tryz.func145 rfl rfl rfl (fun _ cs0 hb0=>?_)
 refine Ac<|Ah rfl<|Aa<|Ac<|Ae rfl ?_
 obtain ⟨y1,hy1,h⟩:=bi h
 refine Ba (vI y1) body152 rfl (e1 rfl) (fun w9 hw9=>math_bits_Len64_c n _ w9 (hS0.hL0 hL hw9) a0 hy1) rfl ?_
 obtain ⟨s2,hs2,h⟩:=bi h
 refine Ab (FV.subc (i:=64) (j:=y1) rfl rfl hs2)<|Ah rfl<|Aa<|Am rfl<|Be hb0 Tryz.func145 rfl rfl ?_
 cases h
 exact hS0.gv
def tb126_6:List (Nat × Nat × Nat):=[(0,268435456,2),(0,536870912,4),(3,1073741824,805306368),(0,2147483648,2),(0,4294967296,4),(24,8589934592,6442450944),(7,64,1073741824),(127,128,8589934592)]
theorem body145:bodyB Tryz.prog 145 = true:=by kernel_rfl
def math_bits_Div64_l1 (_n:Nat) (a2:UInt64) (y8:Int) (a1:UInt64) (d0:UInt64 × UInt64 → Option UInt64):UInt64 × UInt64 → Option UInt64
  | (b0,c0)=>(if (4294967296:UInt64) ≤ b0 then (if (4294967296:UInt64) ≤ (c0 + (shrU (shlU a2 (u64of y8).toNat) 32)) then some (b0 - (1:UInt64)) else d0 (b0 - (1:UInt64),c0 + (shrU (shlU a2 (u64of y8).toNat) 32))) else (if (((4294967296:UInt64) * c0) + ((shlU a1 (u64of y8).toNat) &&& (4294967295:UInt64))) < (b0 * ((shlU a2 (u64of y8).toNat) &&& (4294967295:UInt64))) then (if (4294967296:UInt64) ≤ (c0 + (shrU (shlU a2 (u64of y8).toNat) 32)) then some (b0 - (1:UInt64)) else d0 (b0 - (1:UInt64),c0 + (shrU (shlU a2 (u64of y8).toNat) 32))) else some b0))
def math_bits_Div64_l2 (_n:Nat) (a2:UInt64) (y8:Int) (a1:UInt64) (d0:UInt64 × UInt64 → Option UInt64):UInt64 × UInt64 → Option UInt64
  | (b0,c0)=>(if (4294967296:UInt64) ≤ b0 then (if (4294967296:UInt64) ≤ (c0 + (shrU (shlU a2 (u64of y8).toNat) 32)) then some (b0 - (1:UInt64)) else d0 (b0 - (1:UInt64),c0 + (shrU (shlU a2 (u64of y8).toNat) 32))) else (if (((4294967296:UInt64) * c0) + (shrU (shlU a1 (u64of y8).toNat) 32)) < (b0 * ((shlU a2 (u64of y8).toNat) &&& (4294967295:UInt64))) then (if (4294967296:UInt64) ≤ (c0 + (shrU (shlU a2 (u64of y8).toNat) 32)) then some (b0 - (1:UInt64)) else d0 (b0 - (1:UInt64),c0 + (shrU (shlU a2 (u64of y8).toNat) 32))) else some b0))
def math_bits_Div64_p (n:Nat) (a0:UInt64) (a1:UInt64) (a2:UInt64):Option (UInt64 × UInt64):=
  (if a2 = (0:UInt64) then none else (if a2 ≤ a0 then none else (if a0 = (0:UInt64) then (quoW a1 a2).bind fun s6=>(remW a1 a2).bind fun s7=>some (s6,s7) else (math_bits_LeadingZeros64_p n a2).bind fun y8=>(quoW ((shlU a0 (u64of y8).toNat) ||| (shrU a1 ((64:UInt64) - (u64of y8)).toNat)) (shrU (shlU a2 (u64of y8).toNat) 32)).bind fun s9=>(some (((shlU a0 (u64of y8).toNat) ||| (shrU a1 ((64:UInt64) - (u64of y8)).toNat)) - (s9 * (shrU (shlU a2 (u64of y8).toNat) 32)))).bind fun p0=>jn (fun b0=>(some (((shlU a0 (u64of y8).toNat) ||| (shrU a1 ((64:UInt64) - (u64of y8)).toNat)) * (4294967296:UInt64))).bind fun c0=>(quoW ((c0 + (shrU (shlU a1 (u64of y8).toNat) 32)) - (b0 * (shlU a2 (u64of y8).toNat))) (shrU (shlU a2 (u64of y8).toNat) 32)).bind fun d0=>(some (((c0 + (shrU (shlU a1 (u64of y8).toNat) 32)) - (b0 * (shlU a2 (u64of y8).toNat))) - (d0 * (shrU (shlU a2 (u64of y8).toNat) 32)))).bind fun q0=>jn (fun g0=>(some (((c0 + (shrU (shlU a1 (u64of y8).toNat) 32)) - (b0 * (shlU a2 (u64of y8).toNat))) * (4294967296:UInt64))).bind fun s0=>(some ((s0 + ((shlU a1 (u64of y8).toNat) &&& (4294967295:UInt64))) - (g0 * (shlU a2 (u64of y8).toNat)))).bind fun t0=>some ((b0 * (4294967296:UInt64)) + g0,shrU t0 (u64of y8).toNat)) (fun k0=>Option.bind (loopF (math_bits_Div64_l1 n a2 y8 a1) n (d0,q0)) (k0))) (fun j0=>Option.bind (loopF (math_bits_Div64_l2 n a2 y8 a1) n (s9,p0)) (j0)))))
theorem math_bits_Div64_c (n:Nat) (L:List Nat) (w:World) (hL:∀ b ∈ L,b < w.heap.size) (a0:UInt64) (a1:UInt64) (a2:UInt64)  {r:UInt64 × UInt64} (h:math_bits_Div64_p n a0 a1 a2 = some r) :
    Calls Tryz.prog 126 #[vU a0,vU a1,vU a2] w (Gives w fun _ u=>u = .tuple #[vU r.1,vU r.2]):=by
 unfold math_bits_Div64_p at h
 have hS0:=Ax w
 refine AE Tryz.func126 rfl rfl rfl (fun _ cs0 hb0=>?_)
 refine Ac<|Ah rfl<|Ah rfl<|Aa<|Ak<|Ac<|Ae rfl<|Ab (FV.eqlU (a:=a2) (b:=(0:UInt64)) rfl rfl)<|Aa<|AX rfl h (fun c1 h=>?_) (fun c1 h=>?_)
 refine Ao ?_
 cases h
 refine Av<|Ak<|Ac<|Ae rfl<|Ae rfl<|Ab (FV.leqU (a:=a2) (b:=a0) rfl rfl)<|Aa<|AX rfl h (fun c2 h=>?_) (fun c2 h=>?_)
 refine Ao ?_
 cases h
 refine Av<|Ak<|Ac<|Ae rfl<|Ab (FV.eqlU (a:=a0) (b:=(0:UInt64)) rfl rfl)<|Aa<|AX rfl h (fun c3 h=>?_) (fun c3 h=>?_)
 refine Ak<|dt 8 tb126_6 (fun kt4 kp5=>?_)
 refine Af 0 1 kt4 rfl kp5 (fun _=>Aj rfl) rfl<|Af 1 3 kt4 rfl kp5 (fun _=>Aj rfl) rfl ?_
 obtain ⟨s6,hs6,h⟩:=bi h
 refine Af 2 7 kt4 rfl kp5 (fun _=>FV.quoV (a:=a1) (b:=a2) rfl rfl hs6) rfl<|Af 3 15 kt4 rfl kp5 (fun _=>Aj rfl) rfl<|Af 4 31 kt4 rfl kp5 (fun _=>Aj rfl) rfl ?_
 obtain ⟨s7,hs7,h⟩:=bi h
 refine Af 5 63 kt4 rfl kp5 (fun _=>FV.remV (a:=a1) (b:=a2) rfl rfl hs7) rfl<|Af 6 127 kt4 rfl kp5 (fun _=>AY rfl) rfl<|Af 7 255 kt4 rfl kp5 (fun _=>AY rfl) rfl<|AH (dk kt4)<|Am rfl<|Al hb0 Tryz.func126 rfl (.cons (.tmp rfl) (.cons (.tmp rfl) .nil)) rfl ?_
 cases h
 exact hS0.gv
 refine Av<|Ac<|Ae rfl ?_
 obtain ⟨y8,hy8,h⟩:=bi h
 refine Ba (vI y8) body145 rfl (e1 rfl) (fun w9 hw9=>math_bits_LeadingZeros64_c n _ w9 (hS0.hL0 hL hw9) a2 hy8) rfl<|Ab (FV.convU (i:=y8) Tryz.underlying3 Tryz.underlying194 rfl)<|Ah rfl<|Aa<|Ac<|Ae rfl<|Ae rfl<|Ab (FV.shlU (a:=a2) (j:=(u64of y8).toNat) rfl rfl)<|Ah rfl<|Aa<|Ac<|Ae rfl<|Ab (FV.shrU (a:=shlU a2 (u64of y8).toNat) (j:=32) rfl rfl)<|Ah rfl<|Aa<|Ac<|Ae rfl<|Ab (FV.andU (a:=shlU a2 (u64of y8).toNat) (b:=(4294967295:UInt64)) rfl rfl)<|Ah rfl<|Aa<|Ac<|Ae rfl<|Ae rfl<|Ab (FV.shlU (a:=a0) (j:=(u64of y8).toNat) rfl rfl) ?_
 refine Ae rfl<|Ae rfl<|Ab (FV.subU (a:=(64:UInt64)) (b:=u64of y8) rfl rfl)<|Ab (FV.shrU (a:=a1) (j:=((64:UInt64) - (u64of y8)).toNat) rfl rfl)<|Ab (FV.orU (a:=shlU a0 (u64of y8).toNat) (b:=shrU a1 ((64:UInt64) - (u64of y8)).toNat) rfl rfl)<|Ah rfl<|Aa<|Ac<|Ae rfl<|Ae rfl<|Ab (FV.shlU (a:=a1) (j:=(u64of y8).toNat) rfl rfl)<|Ah rfl<|Aa<|Ac<|Ae rfl<|Ab (FV.shrU (a:=shlU a1 (u64of y8).toNat) (j:=32) rfl rfl)<|Ah rfl<|Aa<|Ac<|Ae rfl<|Ab (FV.andU (a:=shlU a1 (u64of y8).toNat) (b:=(4294967295:UInt64)) rfl rfl)<|Ah rfl<|Aa<|Ac ?_
 refine Ae rfl<|Ae rfl ?_
 obtain ⟨s9,hs9,h⟩:=bi h
 refine Ab (FV.quoV (a:=(shlU a0 (u64of y8).toNat) ||| (shrU a1 ((64:UInt64) - (u64of y8)).toNat)) (b:=shrU (shlU a2 (u64of y8).toNat) 32) rfl rfl hs9)<|Ah rfl<|Aa<|Ac<|Ae rfl<|Ae rfl<|Ae rfl<|Ab (FV.mulU (a:=s9) (b:=shrU (shlU a2 (u64of y8).toNat) 32) rfl rfl) ?_
 obtain ⟨p1,b1,h⟩:=bi h
 refine Ab (FV.as (FV.subU (a:=(shlU a0 (u64of y8).toNat) ||| (shrU a1 ((64:UInt64) - (u64of y8)).toNat)) (b:=s9 * (shrU (shlU a2 (u64of y8).toNat) 32)) rfl rfl) (congrArg (fun z:UInt64=>Value.int .u64 (z.toNat:Int)) (Option.some.inj b1)))<|Ah rfl<|Aa<|Ak<|AB<|MX.joinx (α:=UInt64) (fun b0=>[(2,vW ((shlU a2 (u64of y8).toNat).toNat:Int)),(8,vW ((u64of y8).toNat:Int)),(9,vW ((shrU (shlU a2 (u64of y8).toNat) 32).toNat:Int)),(10,vW (((shlU a2 (u64of y8).toNat) &&& (4294967295:UInt64)).toNat:Int)),(11,vW (((shlU a0 (u64of y8).toNat) ||| (shrU a1 ((64:UInt64) - (u64of y8)).toNat)).toNat:Int)),(13,vW ((shrU (shlU a1 (u64of y8).toNat) 32).toNat:Int)),(14,vW (((shlU a1 (u64of y8).toNat) &&& (4294967295:UInt64)).toNat:Int)),(15,vU b0)]) (fun b0 v0=>St w v0 []∧Tr w [] v0 []) (fun b0=>b0) (id:=0) rfl h ?_ ?_
 rintro b0 v0 ⟨V0,y1⟩ h
 try dsimp only at h
 refine Ac<|Ae rfl ?_
 obtain ⟨p0,d1,h⟩:=bi h
 refine Ab (FV.as (FV.mulU (a:=(shlU a0 (u64of y8).toNat) ||| (shrU a1 ((64:UInt64) - (u64of y8)).toNat)) (b:=(4294967296:UInt64)) rfl rfl) (congrArg (fun z:UInt64=>Value.int .u64 (z.toNat:Int)) (Option.some.inj d1)))<|Ae rfl<|Ab (FV.addU (a:=p0) (b:=shrU (shlU a1 (u64of y8).toNat) 32) rfl rfl)<|Ae rfl<|Ae rfl<|Ab (FV.mulU (a:=b0) (b:=shlU a2 (u64of y8).toNat) rfl rfl)<|Ab (FV.subU (a:=p0 + (shrU (shlU a1 (u64of y8).toNat) 32)) (b:=b0 * (shlU a2 (u64of y8).toNat)) rfl rfl)<|Ah rfl<|Aa<|Ac<|Ae rfl<|Ae rfl ?_
 obtain ⟨B0,Z0,h⟩:=bi h
 refine Ab (FV.quoV (a:=(p0 + (shrU (shlU a1 (u64of y8).toNat) 32)) - (b0 * (shlU a2 (u64of y8).toNat))) (b:=shrU (shlU a2 (u64of y8).toNat) 32) rfl rfl Z0)<|Ah rfl<|Aa<|Ac<|Ae rfl<|Ae rfl<|Ae rfl<|Ab (FV.mulU (a:=B0) (b:=shrU (shlU a2 (u64of y8).toNat) 32) rfl rfl) ?_
 obtain ⟨q1,g1,h⟩:=bi h
 refine Ab (FV.as (FV.subU (a:=(p0 + (shrU (shlU a1 (u64of y8).toNat) 32)) - (b0 * (shlU a2 (u64of y8).toNat))) (b:=B0 * (shrU (shlU a2 (u64of y8).toNat) 32)) rfl rfl) (congrArg (fun z:UInt64=>Value.int .u64 (z.toNat:Int)) (Option.some.inj g1)))<|Ah rfl<|Aa<|Ak<|AB<|MX.joinx (α:=UInt64) (fun k0=>[(2,vW ((shlU a2 (u64of y8).toNat).toNat:Int)),(8,vW ((u64of y8).toNat:Int)),(14,vW (((shlU a1 (u64of y8).toNat) &&& (4294967295:UInt64)).toNat:Int)),(15,vU b0),(17,vW (((p0 + (shrU (shlU a1 (u64of y8).toNat) 32)) - (b0 * (shlU a2 (u64of y8).toNat))).toNat:Int)),(18,vU k0)]) (fun k0 E0=>St w E0 []∧Tr v0 [] E0 []) (fun k0=>k0) (id:=2) rfl h ?_ ?_
 rintro k0 E0 ⟨W0,z1⟩ h
 try dsimp only at h
 refine Ac<|Ae rfl<|Ab (FV.mulU (a:=b0) (b:=(4294967296:UInt64)) rfl rfl)<|Ae rfl<|Ab (FV.addU (a:=b0 * (4294967296:UInt64)) (b:=k0) rfl rfl)<|Ae rfl ?_
 obtain ⟨H0,j1,h⟩:=bi h
 refine Ab (FV.as (FV.mulU (a:=(p0 + (shrU (shlU a1 (u64of y8).toNat) 32)) - (b0 * (shlU a2 (u64of y8).toNat))) (b:=(4294967296:UInt64)) rfl rfl) (congrArg (fun z:UInt64=>Value.int .u64 (z.toNat:Int)) (Option.some.inj j1)))<|Ae rfl<|Ab (FV.addU (a:=H0) (b:=(shlU a1 (u64of y8).toNat) &&& (4294967295:UInt64)) rfl rfl)<|Ae rfl<|Ae rfl<|Ab (FV.mulU (a:=k0) (b:=shlU a2 (u64of y8).toNat) rfl rfl) ?_
 obtain ⟨s1,k1,h⟩:=bi h
 refine Ab (FV.as (FV.subU (a:=H0 + ((shlU a1 (u64of y8).toNat) &&& (4294967295:UInt64))) (b:=k0 * (shlU a2 (u64of y8).toNat)) rfl rfl) (congrArg (fun z:UInt64=>Value.int .u64 (z.toNat:Int)) (Option.some.inj k1)))<|Ae rfl<|Ab (FV.shrU (a:=s1) (j:=(u64of y8).toNat) rfl rfl)<|Ah rfl<|Ah rfl<|Aa<|Am rfl<|Al hb0 Tryz.func126 rfl (.cons (.tmp rfl) (.cons (.tmp rfl) .nil)) rfl ?_
 cases h
 exact W0.gv
 intro x1 y0 h
 try dsimp only at h
 obtain ⟨A1,X0,z0⟩:=bind_in2 h
 refine Bw (α:=UInt64 × UInt64) (fun ⟨c0,g0⟩=>[(2,vW ((shlU a2 (u64of y8).toNat).toNat:Int)),(8,vW ((u64of y8).toNat:Int)),(9,vW ((shrU (shlU a2 (u64of y8).toNat) 32).toNat:Int)),(10,vW (((shlU a2 (u64of y8).toNat) &&& (4294967295:UInt64)).toNat:Int)),(14,vW (((shlU a1 (u64of y8).toNat) &&& (4294967295:UInt64)).toNat:Int)),(15,vU b0),(17,vW (((p0 + (shrU (shlU a1 (u64of y8).toNat) 32)) - (b0 * (shlU a2 (u64of y8).toNat))).toNat:Int)),(18,vU c0),(16,vU g0)]) (fun ⟨c0,g0⟩ C0=>St w C0 []∧Tr v0 [] C0 []) (fun ⟨c0,g0⟩=>(c0,g0)) (B0,q1) X0 ⟨rfl,rfl,rfl,rfl,rfl,rfl,rfl,rfl,rfl,trivial⟩ ⟨V0,Bd _ _⟩ ?_
 rintro t1 ⟨c0,g0⟩ C0 F0 ⟨q0,t0⟩ h
 unfold math_bits_Div64_l1 at h
 try dsimp only at h
 refine Ak<|Ac<|Ae rfl<|Ab (FV.geqU (a:=c0) (b:=(4294967296:UInt64)) rfl rfl)<|Ae rfl<|RG.ifd (s:=104) rfl h (fun I0 h=>?_) (fun I0 h=>?_)
 refine AO<|AO<|AO<|AO<|AO<|AO<|AO<|AO<|RG.pt rfl rfl<|Aa<|AV rfl<|Av<|AB<|Ac<|Ae rfl<|Ab (FV.subU (a:=c0) (b:=(1:UInt64)) rfl rfl)<|Ah rfl<|Aa<|Ac<|Ae rfl<|Ae rfl<|Ab (FV.addU (a:=g0) (b:=shrU (shlU a2 (u64of y8).toNat) 32) rfl rfl)<|Ah rfl<|Aa ?_
 refine Ac<|Ae rfl<|Ab (FV.geqU (a:=g0 + (shrU (shlU a2 (u64of y8).toNat) 32)) (b:=(4294967296:UInt64)) rfl rfl)<|Aa<|AX rfl h (fun J0 h=>?_) (fun J0 h=>?_)
 refine Bj rfl ?_
 have h:=z0 _ h
 try dsimp only at h
 exact y0 (c0 - (1:UInt64)) _ _ ⟨rfl,rfl,rfl,rfl,rfl,rfl,trivial⟩ ⟨q0,t0⟩ h
 refine Av<|AC ?_
 exact F0 (c0 - (1:UInt64),g0 + (shrU (shlU a2 (u64of y8).toNat) 32)) _ _ ⟨rfl,rfl,rfl,rfl,rfl,rfl,rfl,rfl,rfl,trivial⟩ ⟨q0,t0⟩ h
 refine AW (Aj rfl)<|AW (Aj rfl)<|AW (FV.mulU (a:=c0) (b:=(shlU a2 (u64of y8).toNat) &&& (4294967295:UInt64)) rfl rfl)<|AW (Aj rfl)<|AW (FV.mulU (a:=(4294967296:UInt64)) (b:=g0) rfl rfl)<|AW (Aj rfl)<|AW (FV.addU (a:=(4294967296:UInt64) * g0) (b:=(shlU a1 (u64of y8).toNat) &&& (4294967295:UInt64)) rfl rfl)<|AW (FV.gtrU (a:=c0 * ((shlU a2 (u64of y8).toNat) &&& (4294967295:UInt64))) (b:=((4294967296:UInt64) * g0) + ((shlU a1 (u64of y8).toNat) &&& (4294967295:UInt64))) rfl rfl)<|RG.pf rfl rfl<|Aa<|AX rfl h (fun K0 h=>?_) (fun K0 h=>?_)
 refine Av<|AB<|Ac<|Ae rfl<|Ab (FV.subU (a:=c0) (b:=(1:UInt64)) rfl rfl)<|Ah rfl<|Aa<|Ac<|Ae rfl<|Ae rfl<|Ab (FV.addU (a:=g0) (b:=shrU (shlU a2 (u64of y8).toNat) 32) rfl rfl)<|Ah rfl<|Aa<|Ac<|Ae rfl<|Ab (FV.geqU (a:=g0 + (shrU (shlU a2 (u64of y8).toNat) 32)) (b:=(4294967296:UInt64)) rfl rfl)<|Aa<|AX rfl h (fun M0 h=>?_) (fun M0 h=>?_)
 refine Bj rfl ?_
 have h:=z0 _ h
 try dsimp only at h
 exact y0 (c0 - (1:UInt64)) _ _ ⟨rfl,rfl,rfl,rfl,rfl,rfl,trivial⟩ ⟨q0,t0⟩ h
 refine Av<|AC ?_
 exact F0 (c0 - (1:UInt64),g0 + (shrU (shlU a2 (u64of y8).toNat) 32)) _ _ ⟨rfl,rfl,rfl,rfl,rfl,rfl,rfl,rfl,rfl,trivial⟩ ⟨q0,t0⟩ h
 refine Bj rfl ?_
 have h:=z0 _ h
 try dsimp only at h
 exact y0 c0 _ _ ⟨rfl,rfl,rfl,rfl,rfl,rfl,trivial⟩ ⟨q0,t0⟩ h
 intro v1 x0 h
 try dsimp only at h
 obtain ⟨B1,Y0,A0⟩:=bind_in2 h
 refine Bw (α:=UInt64 × UInt64) (fun ⟨d0,j0⟩=>[(2,vW ((shlU a2 (u64of y8).toNat).toNat:Int)),(8,vW ((u64of y8).toNat:Int)),(9,vW ((shrU (shlU a2 (u64of y8).toNat) 32).toNat:Int)),(10,vW (((shlU a2 (u64of y8).toNat) &&& (4294967295:UInt64)).toNat:Int)),(11,vW (((shlU a0 (u64of y8).toNat) ||| (shrU a1 ((64:UInt64) - (u64of y8)).toNat)).toNat:Int)),(13,vW ((shrU (shlU a1 (u64of y8).toNat) 32).toNat:Int)),(14,vW (((shlU a1 (u64of y8).toNat) &&& (4294967295:UInt64)).toNat:Int)),(15,vU d0),(16,vU j0)]) (fun ⟨d0,j0⟩ D0=>St w D0 []∧Tr w [] D0 []) (fun ⟨d0,j0⟩=>(d0,j0)) (s9,p1) Y0 ⟨rfl,rfl,rfl,rfl,rfl,rfl,rfl,rfl,rfl,trivial⟩ ⟨hS0,Bd _ _⟩ ?_
 rintro u1 ⟨d0,j0⟩ D0 G0 ⟨s0,u0⟩ h
 unfold math_bits_Div64_l2 at h
 try dsimp only at h
 refine Ak<|Ac<|Ae rfl<|Ab (FV.geqU (a:=d0) (b:=(4294967296:UInt64)) rfl rfl)<|Ae rfl<|RG.ifd (s:=69) rfl h (fun P0 h=>?_) (fun P0 h=>?_)
 refine AO<|AO<|AO<|AO<|AO<|AO<|AO<|AO<|RG.pt rfl rfl<|Aa<|AV rfl<|Av<|AB<|Ac<|Ae rfl<|Ab (FV.subU (a:=d0) (b:=(1:UInt64)) rfl rfl)<|Ah rfl<|Aa<|Ac<|Ae rfl<|Ae rfl<|Ab (FV.addU (a:=j0) (b:=shrU (shlU a2 (u64of y8).toNat) 32) rfl rfl)<|Ah rfl<|Aa ?_
 refine Ac<|Ae rfl<|Ab (FV.geqU (a:=j0 + (shrU (shlU a2 (u64of y8).toNat) 32)) (b:=(4294967296:UInt64)) rfl rfl)<|Aa<|AX rfl h (fun Q0 h=>?_) (fun Q0 h=>?_)
 refine Bj rfl ?_
 have h:=A0 _ h
 try dsimp only at h
 exact x0 (d0 - (1:UInt64)) _ _ ⟨rfl,rfl,rfl,rfl,rfl,rfl,rfl,rfl,trivial⟩ ⟨s0,u0⟩ h
 refine Av<|AC ?_
 exact G0 (d0 - (1:UInt64),j0 + (shrU (shlU a2 (u64of y8).toNat) 32)) _ _ ⟨rfl,rfl,rfl,rfl,rfl,rfl,rfl,rfl,rfl,trivial⟩ ⟨s0,u0⟩ h
 refine AW (Aj rfl)<|AW (Aj rfl)<|AW (FV.mulU (a:=d0) (b:=(shlU a2 (u64of y8).toNat) &&& (4294967295:UInt64)) rfl rfl)<|AW (Aj rfl)<|AW (FV.mulU (a:=(4294967296:UInt64)) (b:=j0) rfl rfl)<|AW (Aj rfl)<|AW (FV.addU (a:=(4294967296:UInt64) * j0) (b:=shrU (shlU a1 (u64of y8).toNat) 32) rfl rfl)<|AW (FV.gtrU (a:=d0 * ((shlU a2 (u64of y8).toNat) &&& (4294967295:UInt64))) (b:=((4294967296:UInt64) * j0) + (shrU (shlU a1 (u64of y8).toNat) 32)) rfl rfl)<|RG.pf rfl rfl<|Aa<|AX rfl h (fun R0 h=>?_) (fun R0 h=>?_)
 refine Av<|AB<|Ac<|Ae rfl<|Ab (FV.subU (a:=d0) (b:=(1:UInt64)) rfl rfl)<|Ah rfl<|Aa<|Ac<|Ae rfl<|Ae rfl<|Ab (FV.addU (a:=j0) (b:=shrU (shlU a2 (u64of y8).toNat) 32) rfl rfl)<|Ah rfl<|Aa<|Ac<|Ae rfl<|Ab (FV.geqU (a:=j0 + (shrU (shlU a2 (u64of y8).toNat) 32)) (b:=(4294967296:UInt64)) rfl rfl)<|Aa<|AX rfl h (fun U0 h=>?_) (fun U0 h=>?_)
 refine Bj rfl ?_
 have h:=A0 _ h
 try dsimp only at h
 exact x0 (d0 - (1:UInt64)) _ _ ⟨rfl,rfl,rfl,rfl,rfl,rfl,rfl,rfl,trivial⟩ ⟨s0,u0⟩ h
 refine Av<|AC ?_
 exact G0 (d0 - (1:UInt64),j0 + (shrU (shlU a2 (u64of y8).toNat) 32)) _ _ ⟨rfl,rfl,rfl,rfl,rfl,rfl,rfl,rfl,rfl,trivial⟩ ⟨s0,u0⟩ h
 refine Bj rfl ?_
 have h:=A0 _ h
 try dsimp only at h
 exact x0 d0 _ _ ⟨rfl,rfl,rfl,rfl,rfl,rfl,rfl,rfl,trivial⟩ ⟨s0,u0⟩ h
def wide_length_p (n:Nat) (a0:List UInt64):Option Int:=
  (if a0.length = 0 then some (0:Int) else (chk (64 * ((a0.length:Nat):Int))).bind fun s3=>(idx a0 (((a0.length:Nat):Int) - 1)).bind fun x4=>(math_bits_LeadingZeros64_p n x4).bind fun c0=>(chk (s3 - c0)).bind fun b0=>some b0)
theorem wide_length_c (n:Nat) (L:List Nat) (w:World) (hL:∀ b ∈ L,b < w.heap.size) (a0:List UInt64) {v0_0:Value} (h0_0:Rep.R w L [v0_0] a0)  {r:Int} (h:wide_length_p n a0 = some r) :
    Calls Tryz.prog 127 #[v0_0] w (Gives w fun _ u=>u = vI r):=by
 unfold wide_length_p at h
 have hS0:=Ax w
 refine AE Tryz.func127 rfl rfl rfl (fun _ cs0 hb0=>?_)
 refine Ac<|Ah rfl<|Aa<|Ak<|Ac<|Ae rfl ?_
 have hl1:a0.length ≤ 281474976710656:=Bi h0_0
 refine Ab (Bk (xs:=a0) Tryz.underlying123 rfl h0_0)<|Ab (FV.eqlN (i:=a0.length) (j:=0) rfl rfl)<|Aa<|AX rfl h (fun c2 h=>?_) (fun c2 h=>?_)
 refine Ac<|Ah rfl<|Aa<|Am rfl<|Be hb0 Tryz.func127 rfl rfl ?_
 cases h
 exact hS0.gv
 refine Av<|Ac<|Ae rfl<|Ab (Bk (xs:=a0) Tryz.underlying123 rfl h0_0) ?_
 obtain ⟨s3,hs3,h⟩:=bi h
 refine Ab (FV.mulc (i:=64) (j:=((a0.length:Nat):Int)) rfl rfl hs3)<|Ae rfl<|Ae rfl<|Ab (Bk (xs:=a0) Tryz.underlying123 rfl h0_0)<|Ab (FV.subI (i:=((a0.length:Nat):Int)) (j:=1) rfl rfl (by omega)) ?_
 obtain ⟨x4,hx4,h⟩:=bi h
 obtain ⟨hi5,hx6⟩:=idx_in hx4
 obtain ⟨A7,c8,he9,g0,c0,k0,j0⟩:=Bo h0_0 hx6
 have d0:c0 = [vU x4]:=k0; subst d0
 refine Ab (FV.idxAddr (m:=1) (i:=(((a0.length:Nat):Int) - 1).toNat) (by kernel_rfl) rfl he9 rfl hi5 g0)<|AZ rfl (j0 0 _ rfl) ?_
 obtain ⟨b0,q0,h⟩:=bi h
 refine Ba (vI b0) body145 rfl (e1 rfl) (fun w9 hw9=>math_bits_LeadingZeros64_c n _ w9 (hS0.hL0 hL hw9) x4 q0) rfl ?_
 obtain ⟨s0,p0,h⟩:=bi h
 refine Ab (FV.subc (i:=s3) (j:=b0) rfl rfl p0)<|Ah rfl<|Aa<|Am rfl<|Be hb0 Tryz.func127 rfl rfl ?_
 cases h
 exact hS0.gv
end Go.Proofs.YtbgcdbblaadokaaGreatDoor
