/- Functions of the program, and what they give: part 3. -/
import Derived.Test.YtichhhehkcfoaaaGreatDoorXM2
namespace Go.Proofs.YtichhhehkcfoaaaGreatDoor
open Go Go.RowKit
set_option maxRecDepth 4000
set_option maxHeartbeats 4000000

def cs_A50 (x:UInt64 × UInt64 × UInt64 × UInt64 × UInt64 × UInt64 × UInt64 × UInt64):List Value:=[vU x.1,vU x.2.1,vU x.2.2.1,vU x.2.2.2.1,vU x.2.2.2.2.1,vU x.2.2.2.2.2.1,vU x.2.2.2.2.2.2.1,vU x.2.2.2.2.2.2.2]
def tb157_5:List (Nat × Nat × Nat):=[(0,4096,128),(0,8192,128),(2,16384,8196),(4,32768,16384),(0,65536,128),(16,131072,65544),(32,262144,131072),(0,524288,64),(200,1048576,819200),(256,2048,1048576),(512,2097152,2048),(512,4194304,2048),(2047,8388608,4100),(6143,0,10485760),(16383,64,4194304)]
def wide_Size_minus_p (_n:Nat) (a0:UInt64 × UInt64 × UInt64 × UInt64 × UInt64 × UInt64 × UInt64 × UInt64) (a1:UInt64 × UInt64 × UInt64 × UInt64 × UInt64 × UInt64 × UInt64 × UInt64):Option ((UInt64 × UInt64 × UInt64 × UInt64 × UInt64 × UInt64 × UInt64 × UInt64) × UInt64):=
  (sub64 a0.1 a1.1 (0:UInt64)).bind fun b0=>(sub64 a0.2.1 a1.2.1 b0.2).bind fun c0=>(sub64 a0.2.2.1 a1.2.2.1 c0.2).bind fun d0=>(sub64 a0.2.2.2.1 a1.2.2.2.1 d0.2).bind fun g0=>(sub64 a0.2.2.2.2.1 a1.2.2.2.2.1 g0.2).bind fun j0=>(sub64 a0.2.2.2.2.2.1 a1.2.2.2.2.2.1 j0.2).bind fun k0=>(sub64 a0.2.2.2.2.2.2.1 a1.2.2.2.2.2.2.1 k0.2).bind fun p0=>(sub64 a0.2.2.2.2.2.2.2 a1.2.2.2.2.2.2.2 p0.2).bind fun q0=>some ((b0.1,c0.1,d0.1,g0.1,j0.1,k0.1,p0.1,q0.1),q0.2)
theorem wide_Size_minus_c (n:Nat) (L:List Nat) (w:World) (_hL:∀ b ∈ L,b < w.heap.size) (a0:UInt64 × UInt64 × UInt64 × UInt64 × UInt64 × UInt64 × UInt64 × UInt64) (a1:UInt64 × UInt64 × UInt64 × UInt64 × UInt64 × UInt64 × UInt64 × UInt64)  {r:(UInt64 × UInt64 × UInt64 × UInt64 × UInt64 × UInt64 × UInt64 × UInt64) × UInt64} (h:wide_Size_minus_p n a0 a1 = some r) :
    Calls Tryz.prog 157 #[.agg ((cs_A50 a0)).toArray,.agg ((cs_A50 a1)).toArray] w (Gives w fun _ u=>u = .tuple #[.agg ((cs_A50 r.1)).toArray,vU r.2]):=by
 unfold wide_Size_minus_p at h
 have hS0:=Ay w
 refine AD Tryz.func157 rfl rfl rfl (fun _ cs0 hb0=>?_)
 refine Ac<|Ai .plain rfl (Av hS0 rfl rfl) (fun I1 s1 Y0 v1=>?_)
 refine Ai .plain rfl (Av Y0 rfl rfl) (fun J1 t1 Z0 x1=>?_)
 refine Ai .plain rfl (Ar zP Z0) (fun K1 u1 J0 y1=>?_)
 refine Af rfl<|Aa<|Ac<|Af rfl<|Aa<|Aj<|Ac<|Ae rfl<|Aa<|Az<|MX.loop1<|Ac<|Ab (Br (i:=0) (j:=8) rfl rfl)<|Aa<|Aj<|Bh rfl<|Au<|Aj<|Az<|Ac<|Ae rfl<|Af rfl<|Aa<|dt 13 tb157_5 (fun c0 v0=>?_)
 refine Ag 0 1 c0 rfl v0 (fun _=>Ak rfl) rfl<|Ag 1 3 c0 rfl v0 (fun _=>Ak rfl) rfl<|Ag 2 7 c0 rfl v0 (fun _=>AW (m:=1) (k:=0) (len:=8) (by kernel_rfl) rfl rfl rfl (by omega)) rfl<|AC 3 15 32512 c0 rfl v0 (AL rfl ((J0.memA (.tl (.tl .hd))) 0 _ rfl)) rfl<|Ag 4 31 c0 rfl v0 (fun _=>Ak rfl) rfl<|Ag 5 63 c0 rfl v0 (fun _=>AW (m:=1) (k:=0) (len:=8) (by kernel_rfl) rfl rfl rfl (by omega)) rfl<|AC 6 127 32512 c0 rfl v0 (AL rfl ((J0.memA (.tl .hd)) 0 _ rfl)) rfl<|Ag 7 255 c0 rfl v0 (fun _=>Ak rfl) rfl ?_
 obtain ⟨b0,b1,h⟩:=bi h
 refine Ag 8 511 c0 rfl v0 (fun _=>FV.sub64 (a:=a0.1) (b:=a1.1) (c:=(0:UInt64)) Tryz.func161 rfl (by kernel_rfl) (by kernel_rfl) (by kernel_rfl) rfl rfl rfl b1) rfl<|Ag 9 1023 c0 rfl v0 (fun _=>Ak rfl) rfl<|Ag 10 2047 c0 rfl v0 (fun _=>Ah rfl rfl) rfl<|Ag 11 4095 c0 rfl v0 (fun _=>Ah rfl rfl) rfl<|Ag 12 8191 c0 rfl v0 (fun _=>AW (m:=1) (k:=0) (len:=8) (by kernel_rfl) rfl rfl rfl (by omega)) rfl<|Bq 13 16383 c0 rfl rfl .plain (Bo (j:=0) (old:=(cs_A50 a0)) (news:=[vU b0.1]) (new' :=[vU b0.1,vU a0.2.1,vU a0.2.2.1,vU a0.2.2.2.1,vU a0.2.2.2.2.1,vU a0.2.2.2.2.2.1,vU a0.2.2.2.2.2.2.1,vU a0.2.2.2.2.2.2.2]) J0 (.tl (.tl .hd)) rfl rfl rfl rfl rfl rfl (o1 rfl) rfl) (fun M1 K0 z1=>?_)
 refine BC (i:=14) (rk c0) (BK (m' :=32767) (sk c0) rfl .plain rfl (Bi rfl) ?_)
 refine AE (dk c0)<|AB<|Ao<|Ab (FV.add (i:=0) (j:=1) (r:=1) rfl rfl (by decide))<|Ae rfl<|Aa<|MX.again1<|Ac<|Ab (Br (i:=1) (j:=8) rfl rfl)<|Aa<|Aj<|Bh rfl<|Au<|Aj<|Az<|Ac<|Ae rfl<|Af rfl<|Aa<|dt 13 tb157_5 (fun d0 x0=>?_)
 refine Ag 0 1 d0 rfl x0 (fun _=>Ak rfl) rfl<|Ag 1 3 d0 rfl x0 (fun _=>Ak rfl) rfl<|Ag 2 7 d0 rfl x0 (fun _=>AW (m:=1) (k:=1) (len:=8) (by kernel_rfl) rfl rfl rfl (by omega)) rfl<|AC 3 15 32512 d0 rfl x0 (AL rfl ((K0.memA (.tl (.tl .hd))) 1 _ rfl)) rfl<|Ag 4 31 d0 rfl x0 (fun _=>Ak rfl) rfl<|Ag 5 63 d0 rfl x0 (fun _=>AW (m:=1) (k:=1) (len:=8) (by kernel_rfl) rfl rfl rfl (by omega)) rfl<|AC 6 127 32512 d0 rfl x0 (AL rfl ((K0.memA (.tl .hd)) 1 _ rfl)) rfl<|Ag 7 255 d0 rfl x0 (fun _=>Ak rfl) rfl ?_
 obtain ⟨t0,c1,h⟩:=bi h
 refine Ag 8 511 d0 rfl x0 (fun _=>FV.sub64 (a:=a0.2.1) (b:=a1.2.1) (c:=b0.2) Tryz.func161 rfl (by kernel_rfl) (by kernel_rfl) (by kernel_rfl) rfl rfl rfl c1) rfl<|Ag 9 1023 d0 rfl x0 (fun _=>Ak rfl) rfl<|Ag 10 2047 d0 rfl x0 (fun _=>Ah rfl rfl) rfl<|Ag 11 4095 d0 rfl x0 (fun _=>Ah rfl rfl) rfl<|Ag 12 8191 d0 rfl x0 (fun _=>AW (m:=1) (k:=1) (len:=8) (by kernel_rfl) rfl rfl rfl (by omega)) rfl<|Bq 13 16383 d0 rfl rfl .plain (Bo (j:=1) (old:=[vU b0.1,vU a0.2.1,vU a0.2.2.1,vU a0.2.2.2.1,vU a0.2.2.2.2.1,vU a0.2.2.2.2.2.1,vU a0.2.2.2.2.2.2.1,vU a0.2.2.2.2.2.2.2]) (news:=[vU t0.1]) (new' :=[vU b0.1,vU t0.1,vU a0.2.2.1,vU a0.2.2.2.1,vU a0.2.2.2.2.1,vU a0.2.2.2.2.2.1,vU a0.2.2.2.2.2.2.1,vU a0.2.2.2.2.2.2.2]) K0 (.tl (.tl .hd)) rfl rfl rfl rfl rfl rfl (o1 rfl) rfl) (fun P1 M0 A1=>?_)
 refine BC (i:=14) (rk d0) (BK (m' :=32767) (sk d0) rfl .plain rfl (Bi rfl) ?_)
 refine AE (dk d0)<|AB<|Ao<|Ab (FV.add (i:=1) (j:=1) (r:=2) rfl rfl (by decide))<|Ae rfl<|Aa<|MX.again1<|Ac<|Ab (Br (i:=2) (j:=8) rfl rfl)<|Aa<|Aj<|Bh rfl<|Au<|Aj<|Az<|Ac<|Ae rfl<|Af rfl<|Aa<|dt 13 tb157_5 (fun g0 y0=>?_)
 refine Ag 0 1 g0 rfl y0 (fun _=>Ak rfl) rfl<|Ag 1 3 g0 rfl y0 (fun _=>Ak rfl) rfl<|Ag 2 7 g0 rfl y0 (fun _=>AW (m:=1) (k:=2) (len:=8) (by kernel_rfl) rfl rfl rfl (by omega)) rfl<|AC 3 15 32512 g0 rfl y0 (AL rfl ((M0.memA (.tl (.tl .hd))) 2 _ rfl)) rfl<|Ag 4 31 g0 rfl y0 (fun _=>Ak rfl) rfl<|Ag 5 63 g0 rfl y0 (fun _=>AW (m:=1) (k:=2) (len:=8) (by kernel_rfl) rfl rfl rfl (by omega)) rfl<|AC 6 127 32512 g0 rfl y0 (AL rfl ((M0.memA (.tl .hd)) 2 _ rfl)) rfl<|Ag 7 255 g0 rfl y0 (fun _=>Ak rfl) rfl ?_
 obtain ⟨u0,d1,h⟩:=bi h
 refine Ag 8 511 g0 rfl y0 (fun _=>FV.sub64 (a:=a0.2.2.1) (b:=a1.2.2.1) (c:=t0.2) Tryz.func161 rfl (by kernel_rfl) (by kernel_rfl) (by kernel_rfl) rfl rfl rfl d1) rfl<|Ag 9 1023 g0 rfl y0 (fun _=>Ak rfl) rfl<|Ag 10 2047 g0 rfl y0 (fun _=>Ah rfl rfl) rfl<|Ag 11 4095 g0 rfl y0 (fun _=>Ah rfl rfl) rfl<|Ag 12 8191 g0 rfl y0 (fun _=>AW (m:=1) (k:=2) (len:=8) (by kernel_rfl) rfl rfl rfl (by omega)) rfl<|Bq 13 16383 g0 rfl rfl .plain (Bo (j:=2) (old:=[vU b0.1,vU t0.1,vU a0.2.2.1,vU a0.2.2.2.1,vU a0.2.2.2.2.1,vU a0.2.2.2.2.2.1,vU a0.2.2.2.2.2.2.1,vU a0.2.2.2.2.2.2.2]) (news:=[vU u0.1]) (new' :=[vU b0.1,vU t0.1,vU u0.1,vU a0.2.2.2.1,vU a0.2.2.2.2.1,vU a0.2.2.2.2.2.1,vU a0.2.2.2.2.2.2.1,vU a0.2.2.2.2.2.2.2]) M0 (.tl (.tl .hd)) rfl rfl rfl rfl rfl rfl (o1 rfl) rfl) (fun Q1 P0 B1=>?_)
 refine BC (i:=14) (rk g0) (BK (m' :=32767) (sk g0) rfl .plain rfl (Bi rfl) ?_)
 refine AE (dk g0)<|AB<|Ao<|Ab (FV.add (i:=2) (j:=1) (r:=3) rfl rfl (by decide))<|Ae rfl<|Aa<|MX.again1<|Ac<|Ab (Br (i:=3) (j:=8) rfl rfl)<|Aa<|Aj<|Bh rfl<|Au<|Aj<|Az<|Ac<|Ae rfl<|Af rfl<|Aa<|dt 13 tb157_5 (fun j0 z0=>?_)
 refine Ag 0 1 j0 rfl z0 (fun _=>Ak rfl) rfl<|Ag 1 3 j0 rfl z0 (fun _=>Ak rfl) rfl<|Ag 2 7 j0 rfl z0 (fun _=>AW (m:=1) (k:=3) (len:=8) (by kernel_rfl) rfl rfl rfl (by omega)) rfl<|AC 3 15 32512 j0 rfl z0 (AL rfl ((P0.memA (.tl (.tl .hd))) 3 _ rfl)) rfl<|Ag 4 31 j0 rfl z0 (fun _=>Ak rfl) rfl<|Ag 5 63 j0 rfl z0 (fun _=>AW (m:=1) (k:=3) (len:=8) (by kernel_rfl) rfl rfl rfl (by omega)) rfl<|AC 6 127 32512 j0 rfl z0 (AL rfl ((P0.memA (.tl .hd)) 3 _ rfl)) rfl<|Ag 7 255 j0 rfl z0 (fun _=>Ak rfl) rfl ?_
 obtain ⟨E0,g1,h⟩:=bi h
 refine Ag 8 511 j0 rfl z0 (fun _=>FV.sub64 (a:=a0.2.2.2.1) (b:=a1.2.2.2.1) (c:=u0.2) Tryz.func161 rfl (by kernel_rfl) (by kernel_rfl) (by kernel_rfl) rfl rfl rfl g1) rfl<|Ag 9 1023 j0 rfl z0 (fun _=>Ak rfl) rfl<|Ag 10 2047 j0 rfl z0 (fun _=>Ah rfl rfl) rfl<|Ag 11 4095 j0 rfl z0 (fun _=>Ah rfl rfl) rfl<|Ag 12 8191 j0 rfl z0 (fun _=>AW (m:=1) (k:=3) (len:=8) (by kernel_rfl) rfl rfl rfl (by omega)) rfl<|Bq 13 16383 j0 rfl rfl .plain (Bo (j:=3) (old:=[vU b0.1,vU t0.1,vU u0.1,vU a0.2.2.2.1,vU a0.2.2.2.2.1,vU a0.2.2.2.2.2.1,vU a0.2.2.2.2.2.2.1,vU a0.2.2.2.2.2.2.2]) (news:=[vU E0.1]) (new' :=[vU b0.1,vU t0.1,vU u0.1,vU E0.1,vU a0.2.2.2.2.1,vU a0.2.2.2.2.2.1,vU a0.2.2.2.2.2.2.1,vU a0.2.2.2.2.2.2.2]) P0 (.tl (.tl .hd)) rfl rfl rfl rfl rfl rfl (o1 rfl) rfl) (fun R1 Q0 C1=>?_)
 refine BC (i:=14) (rk j0) (BK (m' :=32767) (sk j0) rfl .plain rfl (Bi rfl) ?_)
 refine AE (dk j0)<|AB<|Ao<|Ab (FV.add (i:=3) (j:=1) (r:=4) rfl rfl (by decide))<|Ae rfl<|Aa<|MX.again1<|Ac<|Ab (Br (i:=4) (j:=8) rfl rfl)<|Aa<|Aj<|Bh rfl<|Au<|Aj<|Az<|Ac<|Ae rfl<|Af rfl<|Aa<|dt 13 tb157_5 (fun k0 A0=>?_)
 refine Ag 0 1 k0 rfl A0 (fun _=>Ak rfl) rfl<|Ag 1 3 k0 rfl A0 (fun _=>Ak rfl) rfl<|Ag 2 7 k0 rfl A0 (fun _=>AW (m:=1) (k:=4) (len:=8) (by kernel_rfl) rfl rfl rfl (by omega)) rfl<|AC 3 15 32512 k0 rfl A0 (AL rfl ((Q0.memA (.tl (.tl .hd))) 4 _ rfl)) rfl<|Ag 4 31 k0 rfl A0 (fun _=>Ak rfl) rfl<|Ag 5 63 k0 rfl A0 (fun _=>AW (m:=1) (k:=4) (len:=8) (by kernel_rfl) rfl rfl rfl (by omega)) rfl<|AC 6 127 32512 k0 rfl A0 (AL rfl ((Q0.memA (.tl .hd)) 4 _ rfl)) rfl<|Ag 7 255 k0 rfl A0 (fun _=>Ak rfl) rfl ?_
 obtain ⟨F0,j1,h⟩:=bi h
 refine Ag 8 511 k0 rfl A0 (fun _=>FV.sub64 (a:=a0.2.2.2.2.1) (b:=a1.2.2.2.2.1) (c:=E0.2) Tryz.func161 rfl (by kernel_rfl) (by kernel_rfl) (by kernel_rfl) rfl rfl rfl j1) rfl<|Ag 9 1023 k0 rfl A0 (fun _=>Ak rfl) rfl<|Ag 10 2047 k0 rfl A0 (fun _=>Ah rfl rfl) rfl<|Ag 11 4095 k0 rfl A0 (fun _=>Ah rfl rfl) rfl<|Ag 12 8191 k0 rfl A0 (fun _=>AW (m:=1) (k:=4) (len:=8) (by kernel_rfl) rfl rfl rfl (by omega)) rfl<|Bq 13 16383 k0 rfl rfl .plain (Bo (j:=4) (old:=[vU b0.1,vU t0.1,vU u0.1,vU E0.1,vU a0.2.2.2.2.1,vU a0.2.2.2.2.2.1,vU a0.2.2.2.2.2.2.1,vU a0.2.2.2.2.2.2.2]) (news:=[vU F0.1]) (new' :=[vU b0.1,vU t0.1,vU u0.1,vU E0.1,vU F0.1,vU a0.2.2.2.2.2.1,vU a0.2.2.2.2.2.2.1,vU a0.2.2.2.2.2.2.2]) Q0 (.tl (.tl .hd)) rfl rfl rfl rfl rfl rfl (o1 rfl) rfl) (fun U1 R0 D1=>?_)
 refine BC (i:=14) (rk k0) (BK (m' :=32767) (sk k0) rfl .plain rfl (Bi rfl) ?_)
 refine AE (dk k0)<|AB<|Ao<|Ab (FV.add (i:=4) (j:=1) (r:=5) rfl rfl (by decide))<|Ae rfl<|Aa<|MX.again1<|Ac<|Ab (Br (i:=5) (j:=8) rfl rfl)<|Aa<|Aj<|Bh rfl<|Au<|Aj<|Az<|Ac<|Ae rfl<|Af rfl<|Aa<|dt 13 tb157_5 (fun p0 B0=>?_)
 refine Ag 0 1 p0 rfl B0 (fun _=>Ak rfl) rfl<|Ag 1 3 p0 rfl B0 (fun _=>Ak rfl) rfl<|Ag 2 7 p0 rfl B0 (fun _=>AW (m:=1) (k:=5) (len:=8) (by kernel_rfl) rfl rfl rfl (by omega)) rfl<|AC 3 15 32512 p0 rfl B0 (AL rfl ((R0.memA (.tl (.tl .hd))) 5 _ rfl)) rfl<|Ag 4 31 p0 rfl B0 (fun _=>Ak rfl) rfl<|Ag 5 63 p0 rfl B0 (fun _=>AW (m:=1) (k:=5) (len:=8) (by kernel_rfl) rfl rfl rfl (by omega)) rfl<|AC 6 127 32512 p0 rfl B0 (AL rfl ((R0.memA (.tl .hd)) 5 _ rfl)) rfl<|Ag 7 255 p0 rfl B0 (fun _=>Ak rfl) rfl ?_
 obtain ⟨G0,k1,h⟩:=bi h
 refine Ag 8 511 p0 rfl B0 (fun _=>FV.sub64 (a:=a0.2.2.2.2.2.1) (b:=a1.2.2.2.2.2.1) (c:=F0.2) Tryz.func161 rfl (by kernel_rfl) (by kernel_rfl) (by kernel_rfl) rfl rfl rfl k1) rfl<|Ag 9 1023 p0 rfl B0 (fun _=>Ak rfl) rfl<|Ag 10 2047 p0 rfl B0 (fun _=>Ah rfl rfl) rfl<|Ag 11 4095 p0 rfl B0 (fun _=>Ah rfl rfl) rfl<|Ag 12 8191 p0 rfl B0 (fun _=>AW (m:=1) (k:=5) (len:=8) (by kernel_rfl) rfl rfl rfl (by omega)) rfl<|Bq 13 16383 p0 rfl rfl .plain (Bo (j:=5) (old:=[vU b0.1,vU t0.1,vU u0.1,vU E0.1,vU F0.1,vU a0.2.2.2.2.2.1,vU a0.2.2.2.2.2.2.1,vU a0.2.2.2.2.2.2.2]) (news:=[vU G0.1]) (new' :=[vU b0.1,vU t0.1,vU u0.1,vU E0.1,vU F0.1,vU G0.1,vU a0.2.2.2.2.2.2.1,vU a0.2.2.2.2.2.2.2]) R0 (.tl (.tl .hd)) rfl rfl rfl rfl rfl rfl (o1 rfl) rfl) (fun V1 U0 E1=>?_)
 refine BC (i:=14) (rk p0) (BK (m' :=32767) (sk p0) rfl .plain rfl (Bi rfl) ?_)
 refine AE (dk p0)<|AB<|Ao<|Ab (FV.add (i:=5) (j:=1) (r:=6) rfl rfl (by decide))<|Ae rfl<|Aa<|MX.again1<|Ac<|Ab (Br (i:=6) (j:=8) rfl rfl)<|Aa<|Aj<|Bh rfl<|Au<|Aj<|Az<|Ac<|Ae rfl<|Af rfl<|Aa<|dt 13 tb157_5 (fun q0 C0=>?_)
 refine Ag 0 1 q0 rfl C0 (fun _=>Ak rfl) rfl<|Ag 1 3 q0 rfl C0 (fun _=>Ak rfl) rfl<|Ag 2 7 q0 rfl C0 (fun _=>AW (m:=1) (k:=6) (len:=8) (by kernel_rfl) rfl rfl rfl (by omega)) rfl<|AC 3 15 32512 q0 rfl C0 (AL rfl ((U0.memA (.tl (.tl .hd))) 6 _ rfl)) rfl<|Ag 4 31 q0 rfl C0 (fun _=>Ak rfl) rfl<|Ag 5 63 q0 rfl C0 (fun _=>AW (m:=1) (k:=6) (len:=8) (by kernel_rfl) rfl rfl rfl (by omega)) rfl<|AC 6 127 32512 q0 rfl C0 (AL rfl ((U0.memA (.tl .hd)) 6 _ rfl)) rfl<|Ag 7 255 q0 rfl C0 (fun _=>Ak rfl) rfl ?_
 obtain ⟨H0,p1,h⟩:=bi h
 refine Ag 8 511 q0 rfl C0 (fun _=>FV.sub64 (a:=a0.2.2.2.2.2.2.1) (b:=a1.2.2.2.2.2.2.1) (c:=G0.2) Tryz.func161 rfl (by kernel_rfl) (by kernel_rfl) (by kernel_rfl) rfl rfl rfl p1) rfl<|Ag 9 1023 q0 rfl C0 (fun _=>Ak rfl) rfl<|Ag 10 2047 q0 rfl C0 (fun _=>Ah rfl rfl) rfl<|Ag 11 4095 q0 rfl C0 (fun _=>Ah rfl rfl) rfl<|Ag 12 8191 q0 rfl C0 (fun _=>AW (m:=1) (k:=6) (len:=8) (by kernel_rfl) rfl rfl rfl (by omega)) rfl<|Bq 13 16383 q0 rfl rfl .plain (Bo (j:=6) (old:=[vU b0.1,vU t0.1,vU u0.1,vU E0.1,vU F0.1,vU G0.1,vU a0.2.2.2.2.2.2.1,vU a0.2.2.2.2.2.2.2]) (news:=[vU H0.1]) (new' :=[vU b0.1,vU t0.1,vU u0.1,vU E0.1,vU F0.1,vU G0.1,vU H0.1,vU a0.2.2.2.2.2.2.2]) U0 (.tl (.tl .hd)) rfl rfl rfl rfl rfl rfl (o1 rfl) rfl) (fun W1 V0 F1=>?_)
 refine BC (i:=14) (rk q0) (BK (m' :=32767) (sk q0) rfl .plain rfl (Bi rfl) ?_)
 refine AE (dk q0)<|AB<|Ao<|Ab (FV.add (i:=6) (j:=1) (r:=7) rfl rfl (by decide))<|Ae rfl<|Aa<|MX.again1<|Ac<|Ab (Br (i:=7) (j:=8) rfl rfl)<|Aa<|Aj<|Bh rfl<|Au<|Aj<|Az<|Ac<|Ae rfl<|Af rfl<|Aa<|dt 13 tb157_5 (fun s0 D0=>?_)
 refine Ag 0 1 s0 rfl D0 (fun _=>Ak rfl) rfl<|Ag 1 3 s0 rfl D0 (fun _=>Ak rfl) rfl<|Ag 2 7 s0 rfl D0 (fun _=>AW (m:=1) (k:=7) (len:=8) (by kernel_rfl) rfl rfl rfl (by omega)) rfl<|AC 3 15 32512 s0 rfl D0 (AL rfl ((V0.memA (.tl (.tl .hd))) 7 _ rfl)) rfl<|Ag 4 31 s0 rfl D0 (fun _=>Ak rfl) rfl<|Ag 5 63 s0 rfl D0 (fun _=>AW (m:=1) (k:=7) (len:=8) (by kernel_rfl) rfl rfl rfl (by omega)) rfl<|AC 6 127 32512 s0 rfl D0 (AL rfl ((V0.memA (.tl .hd)) 7 _ rfl)) rfl<|Ag 7 255 s0 rfl D0 (fun _=>Ak rfl) rfl ?_
 obtain ⟨I0,q1,h⟩:=bi h
 refine Ag 8 511 s0 rfl D0 (fun _=>FV.sub64 (a:=a0.2.2.2.2.2.2.2) (b:=a1.2.2.2.2.2.2.2) (c:=H0.2) Tryz.func161 rfl (by kernel_rfl) (by kernel_rfl) (by kernel_rfl) rfl rfl rfl q1) rfl<|Ag 9 1023 s0 rfl D0 (fun _=>Ak rfl) rfl<|Ag 10 2047 s0 rfl D0 (fun _=>Ah rfl rfl) rfl<|Ag 11 4095 s0 rfl D0 (fun _=>Ah rfl rfl) rfl<|Ag 12 8191 s0 rfl D0 (fun _=>AW (m:=1) (k:=7) (len:=8) (by kernel_rfl) rfl rfl rfl (by omega)) rfl<|Bq 13 16383 s0 rfl rfl .plain (Bo (j:=7) (old:=[vU b0.1,vU t0.1,vU u0.1,vU E0.1,vU F0.1,vU G0.1,vU H0.1,vU a0.2.2.2.2.2.2.2]) (news:=[vU I0.1]) (new' :=[vU b0.1,vU t0.1,vU u0.1,vU E0.1,vU F0.1,vU G0.1,vU H0.1,vU I0.1]) V0 (.tl (.tl .hd)) rfl rfl rfl rfl rfl rfl (o1 rfl) rfl) (fun X1 W0 G1=>?_)
 refine BC (i:=14) (rk s0) (BK (m' :=32767) (sk s0) rfl .plain rfl (Bi rfl) ?_)
 refine AE (dk s0)<|AB<|Ao<|Ab (FV.add (i:=7) (j:=1) (r:=8) rfl rfl (by decide))<|Ae rfl<|Aa<|MX.again1<|Ac<|Ab (Br (i:=8) (j:=8) rfl rfl)<|Aa<|Aj<|BB rfl<|Be rfl<|Ac<|Ab (AA rfl (W0.memA (.tl (.tl .hd))))<|Ae rfl<|AJ [vU b0.1,vU t0.1,vU u0.1,vU E0.1,vU F0.1,vU G0.1,vU H0.1,vU I0.1] W0 .hd (onesB rfl) (fun Y1 X0 H1=>?_)
 refine Af rfl<|Aa<|Al rfl<|Am hb0 Tryz.func157 rfl (.cons (.many (cs:=[vU b0.1,vU t0.1,vU u0.1,vU E0.1,vU F0.1,vU G0.1,vU H0.1,vU I0.1]) (by kernel_rfl) rfl (X0.memA .hd)) (.cons (.tmp rfl) .nil)) rfl ?_
 cases h
 exact X0.gv
structure TNumber where
  fe:Bool
  fm:UInt64 × UInt64 × UInt64 × UInt64 × UInt64 × UInt64 × UInt64 × UInt64
  deriving DecidableEq
instance:Rep TNumber:=Rep.via (β:=Bool × (UInt64 × UInt64 × UInt64 × UInt64 × UInt64 × UInt64 × UInt64 × UInt64)) fun x=>(x.fe,x.fm)
def cs_TNumber (x:TNumber):List Value:=[.bool x.fe,vU x.fm.1,vU x.fm.2.1,vU x.fm.2.2.1,vU x.fm.2.2.2.1,vU x.fm.2.2.2.2.1,vU x.fm.2.2.2.2.2.1,vU x.fm.2.2.2.2.2.2.1,vU x.fm.2.2.2.2.2.2.2]
theorem body157:bodyB Tryz.prog 157 = true:=by kernel_rfl
def wide_Read_p (n:Nat) (a0:UInt64 × UInt64 × UInt64 × UInt64 × UInt64 × UInt64 × UInt64 × UInt64):Option TNumber:=
  (if (shrU a0.2.2.2.2.2.2.2 63) = (1:UInt64) then (wide_Size_minus_p n ((0:UInt64),(0:UInt64),(0:UInt64),(0:UInt64),(0:UInt64),(0:UInt64),(0:UInt64),(0:UInt64)) a0).bind fun b0=>some (⟨(decide ((shrU a0.2.2.2.2.2.2.2 63) = (1:UInt64))),b0.1⟩:TNumber) else some (⟨(decide ((shrU a0.2.2.2.2.2.2.2 63) = (1:UInt64))),a0⟩:TNumber))
theorem wide_Read_c (n:Nat) (L:List Nat) (w:World) (hL:∀ b ∈ L,b < w.heap.size) (a0:UInt64 × UInt64 × UInt64 × UInt64 × UInt64 × UInt64 × UInt64 × UInt64)  {r:TNumber} (h:wide_Read_p n a0 = some r) :
    Calls Tryz.prog 132 #[.agg ((cs_A50 a0)).toArray] w (Gives w fun _ u=>u = .agg ((cs_TNumber r)).toArray):=by
 unfold wide_Read_p at h
 have hS0:=Ay w
 refine AD Tryz.func132 rfl rfl rfl (fun _ cs0 hb0=>?_)
 refine Ac<|Ai .plain rfl (Av hS0 rfl rfl) (fun F0 u0 q0 y0=>?_)
 refine Ai .plain rfl (Ar [.bool false,vW 0,vW 0,vW 0,vW 0,vW 0,vW 0,vW 0,vW 0] q0) (fun G0 v0 d0 z0=>?_)
 refine Aa<|Ac<|Ab (AW (m:=1) (k:=7) (len:=8) (by kernel_rfl) rfl rfl rfl (by omega))<|AY rfl ((d0.memA (.tl .hd)) 7 _ rfl)<|Ab (FV.shrU (a:=a0.2.2.2.2.2.2.2) (j:=63) rfl rfl)<|Ab (FV.eqlU (a:=shrU a0.2.2.2.2.2.2.2 63) (b:=(1:UInt64)) rfl rfl)<|Ab (AA rfl (d0.memA (.tl .hd)))<|Ab (AM (vs:=[.bool (decide ((shrU a0.2.2.2.2.2.2.2 63) = (1:UInt64))),.agg ((cs_A50 a0)).toArray]) (u:=.agg ((([.bool (decide ((shrU a0.2.2.2.2.2.2.2 63) = (1:UInt64)))]:List Value) ++ cs_A50 a0)).toArray) (e2 rfl rfl) (fun w9=>by kernel_rfl))<|Ai .plain rfl (Ar [.bool false,vW 0,vW 0,vW 0,vW 0,vW 0,vW 0,vW 0,vW 0] d0) (fun H0 x0 s0 A0=>?_)
 refine AJ (([.bool (decide ((shrU a0.2.2.2.2.2.2.2 63) = (1:UInt64)))]:List Value) ++ cs_A50 a0) s0 .hd (onesB rfl) (fun I0 b0 B0=>?_)
 refine Aa<|Aj<|Ac<|AZ 0 rfl<|AY rfl ((b0.memA .hd) 0 _ rfl)<|Aa<|AV rfl h (fun p0 h=>?_) (fun p0 h=>?_)
 refine Ao<|Ab (AM (vs:=[]) (u:=.agg zQ) evs_nil (fun w9=>by kernel_rfl))<|AZ 1 rfl<|Ab (Bc (cs:=(cs_A50 a0)) (by kernel_rfl) rfl (mem_part (b0.memA .hd) 1 8)) ?_
 obtain ⟨c0,t0,h⟩:=bi h
 refine Bg (.tuple #[.agg ((cs_A50 c0.1)).toArray,vU c0.2]) body157 rfl (e2 rfl rfl) (fun w9 hw9=>wide_Size_minus_c n _ w9 (b0.hL0 hL hw9) ((0:UInt64),(0:UInt64),(0:UInt64),(0:UInt64),(0:UInt64),(0:UInt64),(0:UInt64),(0:UInt64)) a0 t0) rfl<|Ae rfl<|Ab (Ah rfl rfl)<|Ab (Ah rfl rfl)<|AZ 1 rfl<|BH .plain (Bo (j:=1) (old:=(([.bool (decide ((shrU a0.2.2.2.2.2.2.2 63) = (1:UInt64)))]:List Value) ++ cs_A50 a0)) (news:=(cs_A50 c0.1)) (new' :=(([.bool (decide ((shrU a0.2.2.2.2.2.2.2 63) = (1:UInt64)))]:List Value) ++ cs_A50 c0.1)) b0 .hd rfl rfl rfl rfl rfl rfl (onesB rfl) rfl) (fun J0 g0 C0=>?_)
 refine Aa<|Ac<|Ab (AA rfl (g0.memA .hd))<|AJ (([.bool (decide ((shrU a0.2.2.2.2.2.2.2 63) = (1:UInt64)))]:List Value) ++ cs_A50 c0.1) g0 (.tl .hd) (onesB rfl) (fun K0 j0 D0=>?_)
 refine Aa<|Al rfl<|Am hb0 Tryz.func132 rfl (.cons (.many (cs:=(([.bool (decide ((shrU a0.2.2.2.2.2.2.2 63) = (1:UInt64)))]:List Value) ++ cs_A50 c0.1)) (by kernel_rfl) rfl (j0.memA (.tl .hd))) .nil) rfl ?_
 cases h
 exact j0.gv
 refine Au<|Ac<|Ab (AA rfl (b0.memA .hd))<|AJ (([.bool (decide ((shrU a0.2.2.2.2.2.2.2 63) = (1:UInt64)))]:List Value) ++ cs_A50 a0) b0 (.tl .hd) (onesB rfl) (fun M0 k0 E0=>?_)
 refine Aa<|Al rfl<|Am hb0 Tryz.func132 rfl (.cons (.many (cs:=(([.bool (decide ((shrU a0.2.2.2.2.2.2.2 63) = (1:UInt64)))]:List Value) ++ cs_A50 a0)) (by kernel_rfl) rfl (k0.memA (.tl .hd))) .nil) rfl ?_
 cases h
 exact k0.gv
def tb114_2:List (Nat × Nat × Nat):=[(0,64,8),(1,128,64),(0,256,0),(0,512,8),(8,1024,512),(20,2048,1280),(34,4096,2176),(127,0,4100)]
theorem body132:bodyB Tryz.prog 132 = true:=by kernel_rfl
def wide_Longer_p (n:Nat) (a0:UInt64 × UInt64 × UInt64 × UInt64 × UInt64 × UInt64 × UInt64 × UInt64):Option TLong:=
  (wide_Read_p n a0).bind fun b0=>(app ([]:List UInt64) ([b0.fm.1,b0.fm.2.1,b0.fm.2.2.1,b0.fm.2.2.2.1,b0.fm.2.2.2.2.1,b0.fm.2.2.2.2.2.1,b0.fm.2.2.2.2.2.2.1,b0.fm.2.2.2.2.2.2.2]:List UInt64)).bind fun c0=>(wide_trimmed_p n b0.fe c0).bind fun d0=>some d0
theorem wide_Longer_c (n:Nat) (L:List Nat) (w:World) (hL:∀ b ∈ L,b < w.heap.size) (a0:UInt64 × UInt64 × UInt64 × UInt64 × UInt64 × UInt64 × UInt64 × UInt64)  {r:TLong} (h:wide_Longer_p n a0 = some r) :
    Calls Tryz.prog 114 #[.agg ((cs_A50 a0)).toArray] w (Gives w fun w' u=>∃ v0_1:Value,u = .agg #[.bool r.fe,v0_1]∧Rep.R w' L [v0_1] r.fo):=by
 unfold wide_Longer_p at h
 have hS0:=Ay w
 refine AD Tryz.func114 rfl rfl rfl (fun _ cs0 hb0=>?_)
 refine Ac<|Ai .plain rfl (Av hS0 rfl rfl) (fun P1 V0 X0 E1=>?_)
 refine Ai .plain rfl (Ar [.bool false,vN] X0) (fun U1 q0 F0 I1=>?_)
 refine Aa<|Ac<|Ab (AA rfl (F0.memA (.tl .hd))) ?_
 obtain ⟨b0,B1,h⟩:=bi h
 refine Bg (.agg ((cs_TNumber b0)).toArray) body132 rfl (e1 rfl) (fun w9 hw9=>wide_Read_c n _ w9 (F0.hL0 hL hw9) a0 B1) rfl<|Ai .plain rfl (Ar [.bool false,vW 0,vW 0,vW 0,vW 0,vW 0,vW 0,vW 0,vW 0] F0) (fun V1 J0 d1 J1=>?_)
 refine AJ (cs_TNumber b0) d1 .hd (onesB rfl) (fun C1 G0 K1=>?_)
 refine Aa<|Aj<|dt 5 tb114_2 (fun c0 z0=>?_)
 refine Ag 0 1 c0 rfl z0 (fun _=>AX 0 rfl) rfl<|Ag 3 9 c0 rfl z0 (fun _=>AX 1 rfl) rfl<|AC 4 25 224 c0 rfl z0 (FV.sliceA (len:=8) (m:=1) (p:=Addr.add ⟨J0,0,none⟩ 1) (by kernel_rfl) rfl) rfl ?_
 obtain ⟨p0,H0,h⟩:=bi h
 refine RD.meet (α:=Value × (List Value)) (fun ⟨g0,j0⟩=>[(2,vP q0),(7,.bool b0.fe),(11,g0)]) (fun ⟨g0,j0⟩ A0=>St w A0 [.row w.heap.size 49 (Rep.size UInt64) g0 p0.length j0,.cells q0 [.bool false,vN] 144]∧Tr C1 [.cells J0 (cs_TNumber b0) 192,.cells q0 [.bool false,vN] 144,.cells V0 (cs_A50 a0) 51] A0 [.row w.heap.size 49 (Rep.size UInt64) g0 p0.length j0,.cells q0 [.bool false,vN] 144]∧Cells A0 (bl [.row w.heap.size 49 (Rep.size UInt64) g0 p0.length j0,.cells q0 [.bool false,vN] 144] ++ L) j0 (p0:List UInt64)) 2 63 ?_ ?_
 rintro ⟨g0,j0⟩ A0 ⟨C0,F1,k1⟩
 try dsimp only
 have y1:=Bn (α:=UInt64) C0 .hd k1 hL
 have D0:=Bw C0 .hd
 have G1:=Bx C0 .hd
 have z1:=By (α:=UInt64) (v:=g0) (xs:=p0) D0 L y1
 obtain ⟨U0,A1,h⟩:=bi h
 refine Bu 6 127 c0 rfl .plain body133 rfl (e2 rfl rfl) (fun w9 hw9=>wide_trimmed_c n _ w9 (D0.hL hL hw9) b0.fe p0 (Ap z1 hw9) A1) rfl (fun Q1 M1 j1 ⟨I0,hu_,Q0⟩=>?_)
 subst hu_
 obtain ⟨Y0,H1⟩:=D0.agr j1
 refine Bq 7 255 c0 rfl rfl .plain (Aw (news:=[.bool U0.fe,I0]) Y0 .hd rfl rfl rfl rfl rfl rfl (o2 rfl (AN Q0))) (fun R1 E0 g1=>?_)
 refine AE (dk c0)<|Al rfl<|Am hb0 Tryz.func114 rfl (.cons (.many (cs:=[.bool U0.fe,I0]) (by kernel_rfl) rfl (E0.memA .hd)) .nil) rfl ?_
 cases h
 have p1:=Aq Q0 g1
 exact ⟨E0.ag,fun w9 hw9=>⟨I0,rfl,E0.kd p1 hw9⟩⟩
 intro B0
 refine BJ [1,2] (rk c0) ⟨?_,?_,trivial⟩
 refine BK (m' :=27) (sk c0) rfl .plain rfl (AL rfl ((G0.memA .hd) 0 _ rfl))<|RD.nu 2 31 c0 rfl .plain rfl (Ba (α:=UInt64) (xs:=([]:List UInt64)) (vs:=[]) (ds' :=[]) rfl G0 el142 rfl evs_nil (by kernel_rfl) rfl) (fun D1 W0 d0 x0=>?_)
 have y0:=AH (cs:=[]) (xs:=(([]:List UInt64):List UInt64)) d0 L (AT _ _)
 refine BC (i:=5) (rk c0) (RO.doesL (m' :=63) (sk c0) rfl rfl .plain rfl (DoesL.app (α:=UInt64) (ys:=([b0.fm.1,b0.fm.2.1,b0.fm.2.2.1,b0.fm.2.2.2.1,b0.fm.2.2.2.2.1,b0.fm.2.2.2.2.2.1,b0.fm.2.2.2.2.2.2.1,b0.fm.2.2.2.2.2.2.2]:List UInt64)) H0 d0 (fun _ _=>.hd) el142 rfl rfl y0 (Src.arr (ds:=[vU b0.fm.1,vU b0.fm.2.1,vU b0.fm.2.2.1,vU b0.fm.2.2.2.1,vU b0.fm.2.2.2.2.1,vU b0.fm.2.2.2.2.2.1,vU b0.fm.2.2.2.2.2.2.1,vU b0.fm.2.2.2.2.2.2.2]) (ys:=([b0.fm.1,b0.fm.2.1,b0.fm.2.2.1,b0.fm.2.2.2.1,b0.fm.2.2.2.2.1,b0.fm.2.2.2.2.2.1,b0.fm.2.2.2.2.2.2.1,b0.fm.2.2.2.2.2.2.2]:List UInt64)) (n:=8) (mem_part (d0.memA (.tl .hd)) 1 8) (Ax (cs:=[vU b0.fm.1]) (ds:=[vU b0.fm.2.1,vU b0.fm.2.2.1,vU b0.fm.2.2.2.1,vU b0.fm.2.2.2.2.1,vU b0.fm.2.2.2.2.2.1,vU b0.fm.2.2.2.2.2.2.1,vU b0.fm.2.2.2.2.2.2.2]) rfl (Ax (cs:=[vU b0.fm.2.1]) (ds:=[vU b0.fm.2.2.1,vU b0.fm.2.2.2.1,vU b0.fm.2.2.2.2.1,vU b0.fm.2.2.2.2.2.1,vU b0.fm.2.2.2.2.2.2.1,vU b0.fm.2.2.2.2.2.2.2]) rfl (Ax (cs:=[vU b0.fm.2.2.1]) (ds:=[vU b0.fm.2.2.2.1,vU b0.fm.2.2.2.2.1,vU b0.fm.2.2.2.2.2.1,vU b0.fm.2.2.2.2.2.2.1,vU b0.fm.2.2.2.2.2.2.2]) rfl (Ax (cs:=[vU b0.fm.2.2.2.1]) (ds:=[vU b0.fm.2.2.2.2.1,vU b0.fm.2.2.2.2.2.1,vU b0.fm.2.2.2.2.2.2.1,vU b0.fm.2.2.2.2.2.2.2]) rfl (Ax (cs:=[vU b0.fm.2.2.2.2.1]) (ds:=[vU b0.fm.2.2.2.2.2.1,vU b0.fm.2.2.2.2.2.2.1,vU b0.fm.2.2.2.2.2.2.2]) rfl (Ax (cs:=[vU b0.fm.2.2.2.2.2.1]) (ds:=[vU b0.fm.2.2.2.2.2.2.1,vU b0.fm.2.2.2.2.2.2.2]) rfl (Ax (cs:=[vU b0.fm.2.2.2.2.2.2.1]) (ds:=[vU b0.fm.2.2.2.2.2.2.2]) rfl (Ax (cs:=[vU b0.fm.2.2.2.2.2.2.2]) (ds:=[]) rfl (AT _ _))))))))) rfl)) (fun v0 R0 ⟨s0,k0,t0,u0⟩=>?_))
 obtain ⟨Z0,K0⟩:=AG k0 (.one .hd (.one (.tl .hd) .done))
 have q1:=AR u0 K0
 have u1:=Tt x0 (Tt t0 K0)
 exact B0 (v0,s0) _ _ ⟨rfl,rfl,rfl,trivial⟩ ⟨Z0,u1,q1⟩
 refine RO.new (m' :=29) (sk c0) rfl .plain rfl (Ba (α:=UInt64) (xs:=([]:List UInt64)) (vs:=[]) (ds' :=[]) rfl G0 el142 rfl evs_nil (by kernel_rfl) rfl) (fun D1 W0 d0 x0=>?_)
 have y0:=AH (cs:=[]) (xs:=(([]:List UInt64):List UInt64)) d0 L (AT _ _)
 refine BJ [1,5] (rk c0) ⟨?_,?_,trivial⟩
 refine BK (m' :=31) (sk c0) rfl .plain rfl (AL rfl ((d0.memA (.tl .hd)) 0 _ rfl))<|BC (i:=5) (rk c0) (RO.doesL (m' :=63) (sk c0) rfl rfl .plain rfl (DoesL.app (α:=UInt64) (ys:=([b0.fm.1,b0.fm.2.1,b0.fm.2.2.1,b0.fm.2.2.2.1,b0.fm.2.2.2.2.1,b0.fm.2.2.2.2.2.1,b0.fm.2.2.2.2.2.2.1,b0.fm.2.2.2.2.2.2.2]:List UInt64)) H0 d0 (fun _ _=>.hd) el142 rfl rfl y0 (Src.arr (ds:=[vU b0.fm.1,vU b0.fm.2.1,vU b0.fm.2.2.1,vU b0.fm.2.2.2.1,vU b0.fm.2.2.2.2.1,vU b0.fm.2.2.2.2.2.1,vU b0.fm.2.2.2.2.2.2.1,vU b0.fm.2.2.2.2.2.2.2]) (ys:=([b0.fm.1,b0.fm.2.1,b0.fm.2.2.1,b0.fm.2.2.2.1,b0.fm.2.2.2.2.1,b0.fm.2.2.2.2.2.1,b0.fm.2.2.2.2.2.2.1,b0.fm.2.2.2.2.2.2.2]:List UInt64)) (n:=8) (mem_part (d0.memA (.tl .hd)) 1 8) (Ax (cs:=[vU b0.fm.1]) (ds:=[vU b0.fm.2.1,vU b0.fm.2.2.1,vU b0.fm.2.2.2.1,vU b0.fm.2.2.2.2.1,vU b0.fm.2.2.2.2.2.1,vU b0.fm.2.2.2.2.2.2.1,vU b0.fm.2.2.2.2.2.2.2]) rfl (Ax (cs:=[vU b0.fm.2.1]) (ds:=[vU b0.fm.2.2.1,vU b0.fm.2.2.2.1,vU b0.fm.2.2.2.2.1,vU b0.fm.2.2.2.2.2.1,vU b0.fm.2.2.2.2.2.2.1,vU b0.fm.2.2.2.2.2.2.2]) rfl (Ax (cs:=[vU b0.fm.2.2.1]) (ds:=[vU b0.fm.2.2.2.1,vU b0.fm.2.2.2.2.1,vU b0.fm.2.2.2.2.2.1,vU b0.fm.2.2.2.2.2.2.1,vU b0.fm.2.2.2.2.2.2.2]) rfl (Ax (cs:=[vU b0.fm.2.2.2.1]) (ds:=[vU b0.fm.2.2.2.2.1,vU b0.fm.2.2.2.2.2.1,vU b0.fm.2.2.2.2.2.2.1,vU b0.fm.2.2.2.2.2.2.2]) rfl (Ax (cs:=[vU b0.fm.2.2.2.2.1]) (ds:=[vU b0.fm.2.2.2.2.2.1,vU b0.fm.2.2.2.2.2.2.1,vU b0.fm.2.2.2.2.2.2.2]) rfl (Ax (cs:=[vU b0.fm.2.2.2.2.2.1]) (ds:=[vU b0.fm.2.2.2.2.2.2.1,vU b0.fm.2.2.2.2.2.2.2]) rfl (Ax (cs:=[vU b0.fm.2.2.2.2.2.2.1]) (ds:=[vU b0.fm.2.2.2.2.2.2.2]) rfl (Ax (cs:=[vU b0.fm.2.2.2.2.2.2.2]) (ds:=[]) rfl (AT _ _))))))))) rfl)) (fun v0 R0 ⟨s0,k0,t0,u0⟩=>?_))
 obtain ⟨b1,M0⟩:=AG k0 (.one .hd (.one (.tl .hd) .done))
 have s1:=AR u0 M0
 have v1:=Tt x0 (Tt t0 M0)
 exact B0 (v0,s0) _ _ ⟨rfl,rfl,rfl,trivial⟩ ⟨b1,v1,s1⟩
 refine RO.doesL (m' :=61) (sk c0) rfl rfl .plain rfl (DoesL.app (α:=UInt64) (ys:=([b0.fm.1,b0.fm.2.1,b0.fm.2.2.1,b0.fm.2.2.2.1,b0.fm.2.2.2.2.1,b0.fm.2.2.2.2.2.1,b0.fm.2.2.2.2.2.2.1,b0.fm.2.2.2.2.2.2.2]:List UInt64)) H0 d0 (fun _ _=>.hd) el142 rfl rfl y0 (Src.arr (ds:=[vU b0.fm.1,vU b0.fm.2.1,vU b0.fm.2.2.1,vU b0.fm.2.2.2.1,vU b0.fm.2.2.2.2.1,vU b0.fm.2.2.2.2.2.1,vU b0.fm.2.2.2.2.2.2.1,vU b0.fm.2.2.2.2.2.2.2]) (ys:=([b0.fm.1,b0.fm.2.1,b0.fm.2.2.1,b0.fm.2.2.2.1,b0.fm.2.2.2.2.1,b0.fm.2.2.2.2.2.1,b0.fm.2.2.2.2.2.2.1,b0.fm.2.2.2.2.2.2.2]:List UInt64)) (n:=8) (mem_part (d0.memA (.tl .hd)) 1 8) (Ax (cs:=[vU b0.fm.1]) (ds:=[vU b0.fm.2.1,vU b0.fm.2.2.1,vU b0.fm.2.2.2.1,vU b0.fm.2.2.2.2.1,vU b0.fm.2.2.2.2.2.1,vU b0.fm.2.2.2.2.2.2.1,vU b0.fm.2.2.2.2.2.2.2]) rfl (Ax (cs:=[vU b0.fm.2.1]) (ds:=[vU b0.fm.2.2.1,vU b0.fm.2.2.2.1,vU b0.fm.2.2.2.2.1,vU b0.fm.2.2.2.2.2.1,vU b0.fm.2.2.2.2.2.2.1,vU b0.fm.2.2.2.2.2.2.2]) rfl (Ax (cs:=[vU b0.fm.2.2.1]) (ds:=[vU b0.fm.2.2.2.1,vU b0.fm.2.2.2.2.1,vU b0.fm.2.2.2.2.2.1,vU b0.fm.2.2.2.2.2.2.1,vU b0.fm.2.2.2.2.2.2.2]) rfl (Ax (cs:=[vU b0.fm.2.2.2.1]) (ds:=[vU b0.fm.2.2.2.2.1,vU b0.fm.2.2.2.2.2.1,vU b0.fm.2.2.2.2.2.2.1,vU b0.fm.2.2.2.2.2.2.2]) rfl (Ax (cs:=[vU b0.fm.2.2.2.2.1]) (ds:=[vU b0.fm.2.2.2.2.2.1,vU b0.fm.2.2.2.2.2.2.1,vU b0.fm.2.2.2.2.2.2.2]) rfl (Ax (cs:=[vU b0.fm.2.2.2.2.2.1]) (ds:=[vU b0.fm.2.2.2.2.2.2.1,vU b0.fm.2.2.2.2.2.2.2]) rfl (Ax (cs:=[vU b0.fm.2.2.2.2.2.2.1]) (ds:=[vU b0.fm.2.2.2.2.2.2.2]) rfl (Ax (cs:=[vU b0.fm.2.2.2.2.2.2.2]) (ds:=[]) rfl (AT _ _))))))))) rfl)) (fun v0 R0 ⟨s0,k0,t0,u0⟩=>?_)
 refine AC 1 63 192 c0 rfl z0 (AL rfl ((k0.memA (.tl .hd)) 0 _ rfl)) rfl ?_
 obtain ⟨c1,P0⟩:=AG k0 (.one .hd (.one (.tl .hd) .done))
 have t1:=AR u0 P0
 have x1:=Tt x0 (Tt t0 P0)
 exact B0 (v0,s0) _ _ ⟨rfl,rfl,rfl,trivial⟩ ⟨c1,x1,t1⟩
def tb174_4:List (Nat × Nat × Nat):=[(0,1024,32),(1,2048,1028),(2,4096,2048),(0,8192,32),(8,16384,8200),(16,32768,16384),(36,65536,36864)]
def tb174_5:List (Nat × Nat × Nat):=[(0,131072,32),(1,262144,131076),(2,524288,262144),(0,1048576,32),(8,2097152,1048584),(16,4194304,2097152),(36,8388608,4718592)]
def wide_Size_order_l1 (_n:Nat) (a0:UInt64 × UInt64 × UInt64 × UInt64 × UInt64 × UInt64 × UInt64 × UInt64) (a1:UInt64 × UInt64 × UInt64 × UInt64 × UInt64 × UInt64 × UInt64 × UInt64) (g0:Int → Option (Int ⊕ Unit)):Int → Option (Int ⊕ Unit)
  | b0=>(if 0 ≤ b0 then (idx ([a0.1,a0.2.1,a0.2.2.1,a0.2.2.2.1,a0.2.2.2.2.1,a0.2.2.2.2.2.1,a0.2.2.2.2.2.2.1,a0.2.2.2.2.2.2.2]:List UInt64) b0).bind fun c0=>(idx ([a1.1,a1.2.1,a1.2.2.1,a1.2.2.2.1,a1.2.2.2.2.1,a1.2.2.2.2.2.1,a1.2.2.2.2.2.2.1,a1.2.2.2.2.2.2.2]:List UInt64) b0).bind fun d0=>(if c0 = d0 then (chk (b0 - 1)).bind fun j0=>g0 j0 else (if c0 < d0 then some (.inl (-1:Int)) else some (.inl (1:Int)))) else some (.inr ()))
def wide_Size_order_p (n:Nat) (a0:UInt64 × UInt64 × UInt64 × UInt64 × UInt64 × UInt64 × UInt64 × UInt64) (a1:UInt64 × UInt64 × UInt64 × UInt64 × UInt64 × UInt64 × UInt64 × UInt64):Option Int:=
  thn (loopF (wide_Size_order_l1 n a0 a1) n 7) (fun _=>some (0:Int))
theorem wide_Size_order_c (n:Nat) (L:List Nat) (w:World) (_hL:∀ b ∈ L,b < w.heap.size) (a0:UInt64 × UInt64 × UInt64 × UInt64 × UInt64 × UInt64 × UInt64 × UInt64) (a1:UInt64 × UInt64 × UInt64 × UInt64 × UInt64 × UInt64 × UInt64 × UInt64)  {r:Int} (h:wide_Size_order_p n a0 a1 = some r) :
    Calls Tryz.prog 174 #[.agg ((cs_A50 a0)).toArray,.agg ((cs_A50 a1)).toArray] w (Gives w fun _ u=>u = vI r):=by
 unfold wide_Size_order_p at h
 have hS0:=Ay w
 refine AD Tryz.func174 rfl rfl rfl (fun _ cs0 hb0=>?_)
 refine Ac<|Ai .plain rfl (Av hS0 rfl rfl) (fun c1 p0 F0 Y0=>?_)
 refine Ai .plain rfl (Av F0 rfl rfl) (fun W0 q0 G0 Z0=>?_)
 refine Af rfl<|Aa<|Aj<|Ac<|Af rfl<|Aa<|Az ?_
 obtain ⟨b1,P0,u0⟩:=thn_in h
 refine Bm (α:=Int) (fun b0=>[(2,vP p0),(3,vP q0),(5,vI b0)]) (fun b0 v0=>St w v0 [.cells q0 (cs_A50 a1) 190,.cells p0 (cs_A50 a0) 190]∧Tr W0 [.cells q0 (cs_A50 a1) 190,.cells p0 (cs_A50 a0) 190] v0 [.cells q0 (cs_A50 a1) 190,.cells p0 (cs_A50 a0) 190]) (fun b0=>b0) 7 P0 ⟨rfl,rfl,rfl,trivial⟩ ⟨G0,AQ _ _⟩ ?_
 rintro X0 b0 v0 E0 ⟨c0,H0⟩ h
 unfold wide_Size_order_l1 at h
 try dsimp only at h
 refine Aj<|Ac<|Ae rfl<|Ab (FV.geq (i:=b0) (j:=0) rfl rfl)<|Aa<|AV rfl h (fun B0 h=>?_) (fun B0 h=>?_)
 refine Au<|Aj<|Az<|Aj<|dt 7 tb174_4 (fun d0 j0=>?_)
 refine Ag 0 1 d0 rfl j0 (fun _=>Ak rfl) rfl ?_
 obtain ⟨z0,R0,h⟩:=bi h
 obtain ⟨x0,s0⟩:=idx_in R0
 have I0:=mem_elem1 (p:=⟨p0,0,none⟩) (cs:=([a0.1,a0.2.1,a0.2.2.1,a0.2.2.2.1,a0.2.2.2.2.1,a0.2.2.2.2.2.1,a0.2.2.2.2.2.2.1,a0.2.2.2.2.2.2.2]:List UInt64).map (fun z9:UInt64=>(vU z9:Value)) ++ []) (i:=b0.toNat) (c0.memA (.tl .hd)) (arr_get (fun z9:UInt64=>(vU z9:Value)) s0)
 refine Ag 1 3 d0 rfl j0 (fun _=>AW (m:=1) (k:=b0.toNat) (len:=8) (by kernel_rfl) rfl rfl x0 (arr_lt s0 rfl)) rfl<|AC 2 7 64 d0 rfl j0 (AL rfl (I0 0 _ rfl)) rfl<|Ag 3 15 d0 rfl j0 (fun _=>Ak rfl) rfl ?_
 obtain ⟨A0,U0,h⟩:=bi h
 obtain ⟨y0,t0⟩:=idx_in U0
 have J0:=mem_elem1 (p:=⟨q0,0,none⟩) (cs:=([a1.1,a1.2.1,a1.2.2.1,a1.2.2.2.1,a1.2.2.2.2.1,a1.2.2.2.2.2.1,a1.2.2.2.2.2.2.1,a1.2.2.2.2.2.2.2]:List UInt64).map (fun z9:UInt64=>(vU z9:Value)) ++ []) (i:=b0.toNat) (c0.memA .hd) (arr_get (fun z9:UInt64=>(vU z9:Value)) t0)
 refine Ag 4 31 d0 rfl j0 (fun _=>AW (m:=1) (k:=b0.toNat) (len:=8) (by kernel_rfl) rfl rfl y0 (arr_lt t0 rfl)) rfl<|AC 5 63 64 d0 rfl j0 (AL rfl (J0 0 _ rfl)) rfl<|Ag 6 127 d0 rfl j0 (fun _=>FV.neqU (a:=z0) (b:=A0) rfl rfl) rfl<|AE (dk d0)<|MX.ifn rfl h (fun C0 h=>?_) (fun C0 h=>?_)
 refine Au<|AB<|Ao<|Ae rfl ?_
 obtain ⟨V0,Q0,h⟩:=bi h
 refine Ab (FV.subc (i:=b0) (j:=1) rfl rfl Q0)<|Af rfl<|Aa ?_
 exact E0 V0 _ _ ⟨rfl,rfl,rfl,trivial⟩ ⟨c0,H0⟩ h
 refine Aj<|Aj<|dt 7 tb174_5 (fun g0 k0=>?_)
 refine Ag 0 1 g0 rfl k0 (fun _=>Ak rfl) rfl ?_
 have K0:=mem_elem1 (p:=⟨p0,0,none⟩) (cs:=([a0.1,a0.2.1,a0.2.2.1,a0.2.2.2.1,a0.2.2.2.2.1,a0.2.2.2.2.2.1,a0.2.2.2.2.2.2.1,a0.2.2.2.2.2.2.2]:List UInt64).map (fun z9:UInt64=>(vU z9:Value)) ++ []) (i:=b0.toNat) (c0.memA (.tl .hd)) (arr_get (fun z9:UInt64=>(vU z9:Value)) s0)
 refine Ag 1 3 g0 rfl k0 (fun _=>AW (m:=1) (k:=b0.toNat) (len:=8) (by kernel_rfl) rfl rfl x0 (arr_lt s0 rfl)) rfl<|AC 2 7 64 g0 rfl k0 (AL rfl (K0 0 _ rfl)) rfl<|Ag 3 15 g0 rfl k0 (fun _=>Ak rfl) rfl ?_
 have M0:=mem_elem1 (p:=⟨q0,0,none⟩) (cs:=([a1.1,a1.2.1,a1.2.2.1,a1.2.2.2.1,a1.2.2.2.2.1,a1.2.2.2.2.2.1,a1.2.2.2.2.2.2.1,a1.2.2.2.2.2.2.2]:List UInt64).map (fun z9:UInt64=>(vU z9:Value)) ++ []) (i:=b0.toNat) (c0.memA .hd) (arr_get (fun z9:UInt64=>(vU z9:Value)) t0)
 refine Ag 4 31 g0 rfl k0 (fun _=>AW (m:=1) (k:=b0.toNat) (len:=8) (by kernel_rfl) rfl rfl y0 (arr_lt t0 rfl)) rfl<|AC 5 63 64 g0 rfl k0 (AL rfl (M0 0 _ rfl)) rfl<|Ag 6 127 g0 rfl k0 (fun _=>FV.lssU (a:=z0) (b:=A0) rfl rfl) rfl<|AE (dk g0)<|AV rfl h (fun D0 h=>?_) (fun D0 h=>?_)
 refine Ac<|Af rfl<|Aa ?_
 have h:=thn_inl h u0
 refine Al rfl<|Bb hb0 Tryz.func174 rfl rfl ?_
 cases h
 exact c0.gv
 refine Au<|Ac<|Af rfl<|Aa ?_
 have h:=thn_inl h u0
 refine Al rfl<|Bb hb0 Tryz.func174 rfl rfl ?_
 cases h
 exact c0.gv
 refine Be rfl ?_
 have h:=thn_inr h u0
 try dsimp only at h
 refine Ac<|Af rfl<|Aa<|Al rfl<|Bb hb0 Tryz.func174 rfl rfl ?_
 cases h
 exact c0.gv
theorem body174:bodyB Tryz.prog 174 = true:=by kernel_rfl
def wide_Number_Told_p (n:Nat) (a0:TNumber):Option ((UInt64 × UInt64 × UInt64 × UInt64 × UInt64 × UInt64 × UInt64 × UInt64) × Int):=
  (wide_Size_order_p n a0.fm ((0:UInt64),(0:UInt64),(0:UInt64),(0:UInt64),(0:UInt64),(0:UInt64),(0:UInt64),(9223372036854775808:UInt64))).bind fun b0=>(if 0 < b0 then some (((0:UInt64),(0:UInt64),(0:UInt64),(0:UInt64),(0:UInt64),(0:UInt64),(0:UInt64),(0:UInt64)),(6:Int)) else (if b0 = 0 then (if a0.fe = true then (wide_Size_minus_p n ((0:UInt64),(0:UInt64),(0:UInt64),(0:UInt64),(0:UInt64),(0:UInt64),(0:UInt64),(0:UInt64)) a0.fm).bind fun c0=>some (c0.1,(0:Int)) else some (((0:UInt64),(0:UInt64),(0:UInt64),(0:UInt64),(0:UInt64),(0:UInt64),(0:UInt64),(0:UInt64)),(6:Int))) else (if a0.fe = true then (wide_Size_minus_p n ((0:UInt64),(0:UInt64),(0:UInt64),(0:UInt64),(0:UInt64),(0:UInt64),(0:UInt64),(0:UInt64)) a0.fm).bind fun d0=>some (d0.1,(0:Int)) else some (a0.fm,(0:Int)))))
theorem wide_Number_Told_c (n:Nat) (L:List Nat) (w:World) (hL:∀ b ∈ L,b < w.heap.size) (a0:TNumber)  {r:(UInt64 × UInt64 × UInt64 × UInt64 × UInt64 × UInt64 × UInt64 × UInt64) × Int} (h:wide_Number_Told_p n a0 = some r) :
    Calls Tryz.prog 158 #[.agg ((cs_TNumber a0)).toArray] w (Gives w fun _ u=>u = .tuple #[.agg ((cs_A50 r.1)).toArray,vI r.2]):=by
 unfold wide_Number_Told_p at h
 have hS0:=Ay w
 refine AD Tryz.func158 rfl rfl rfl (fun _ cs0 hb0=>?_)
 refine Ac<|Ai .plain rfl (Av hS0 rfl rfl) (fun Z0 G0 A0 J0=>?_)
 refine Ai .plain rfl (Ar zP A0) (fun b1 H0 B0 K0=>?_)
 refine Af rfl<|Aa<|Ac<|Ab (AM (vs:=[vW 9223372036854775808]) (u:=.agg #[vW 0,vW 0,vW 0,vW 0,vW 0,vW 0,vW 0,vW 9223372036854775808]) (e1 rfl) (fun w9=>by kernel_rfl))<|Ai .plain rfl (Ar zP B0) (fun c1 I0 C0 M0=>?_)
 refine AJ [vW 0,vW 0,vW 0,vW 0,vW 0,vW 0,vW 0,vW 9223372036854775808] C0 .hd (onesB rfl) (fun d1 b0 P0=>?_)
 refine Aa<|Aj<|Ac<|AZ 1 rfl<|Ab (Bc (cs:=(cs_A50 a0.fm)) (by kernel_rfl) rfl (mem_part (b0.memA (.tl (.tl .hd))) 1 8))<|Ab (AA rfl (b0.memA .hd)) ?_
 obtain ⟨g0,D0,h⟩:=bi h
 refine Bg (vI g0) body174 rfl (e2 rfl rfl) (fun w9 hw9=>wide_Size_order_c n _ w9 (b0.hL0 hL hw9) a0.fm ((0:UInt64),(0:UInt64),(0:UInt64),(0:UInt64),(0:UInt64),(0:UInt64),(0:UInt64),(9223372036854775808:UInt64)) D0) rfl<|Af rfl<|Aa<|Ac<|Ae rfl<|Ab (FV.gtr (i:=g0) (j:=0) rfl rfl)<|Ae rfl<|RG.ifd (s:=13) rfl h (fun x0 h=>?_) (fun x0 h=>?_)
 refine AI<|AI<|AI<|RG.un<|RG.un<|RG.un<|AI<|BI rfl rfl<|Aa<|Bh rfl<|Ac<|Ab (AM (vs:=[]) (u:=.agg zQ) evs_nil (fun w9=>by kernel_rfl))<|AJ zP b0 (.tl .hd) (onesB rfl) (fun g1 k0 Q0=>?_)
 refine Af rfl<|Aa<|Al rfl<|Am hb0 Tryz.func158 rfl (.cons (.many (cs:=zP) (by kernel_rfl) rfl (k0.memA (.tl .hd))) (.cons (.tmp rfl) .nil)) rfl ?_
 cases h
 exact k0.gv
 refine AS (Ak rfl)<|AS (FV.eql (i:=g0) (j:=0) rfl rfl)<|AS (Ak rfl)<|RG.ifd (s:=16) rfl h (fun y0 h=>?_) (fun y0 h=>?_)
 refine RG.fg 0 rfl<|AS (AL rfl ((b0.memA (.tl (.tl .hd))) 0 _ rfl))<|AS (BG rfl)<|AS (BL rfl rfl)<|RG.pf rfl rfl<|Aa<|MX.ifnb rfl h (fun j0 h=>?_) (fun j0 h=>?_)
 refine Au<|Aj<|Ac<|AZ 0 rfl<|AY rfl ((b0.memA (.tl (.tl .hd))) 0 _ rfl)<|Aa<|MX.cond_kt rfl j0<|Ao<|Ab (AM (vs:=[]) (u:=.agg zQ) evs_nil (fun w9=>by kernel_rfl))<|AZ 1 rfl<|Ab (Bc (cs:=(cs_A50 a0.fm)) (by kernel_rfl) rfl (mem_part (b0.memA (.tl (.tl .hd))) 1 8)) ?_
 obtain ⟨c0,E0,h⟩:=bi h
 refine Bg (.tuple #[.agg ((cs_A50 c0.1)).toArray,vU c0.2]) body157 rfl (e2 rfl rfl) (fun w9 hw9=>wide_Size_minus_c n _ w9 (b0.hL0 hL hw9) ((0:UInt64),(0:UInt64),(0:UInt64),(0:UInt64),(0:UInt64),(0:UInt64),(0:UInt64),(0:UInt64)) a0.fm E0) rfl<|Ae rfl<|Ab (Ah rfl rfl)<|Ab (Ah rfl rfl)<|AZ 1 rfl<|BH .plain (Bo (j:=1) (old:=(cs_TNumber a0)) (news:=(cs_A50 c0.1)) (new' :=(([.bool a0.fe]:List Value) ++ cs_A50 c0.1)) b0 (.tl (.tl .hd)) rfl rfl rfl rfl rfl rfl (onesB rfl) rfl) (fun j1 p0 R0=>?_)
 refine Aa<|Ac<|AZ 1 rfl<|Ab (Bc (cs:=(cs_A50 c0.1)) (by kernel_rfl) rfl (mem_part (p0.memA (.tl (.tl .hd))) 1 8))<|AJ (cs_A50 c0.1) p0 (.tl .hd) (onesB rfl) (fun k1 q0 U0=>?_)
 refine Af rfl<|Aa<|Al rfl<|Am hb0 Tryz.func158 rfl (.cons (.many (cs:=(cs_A50 c0.1)) (by kernel_rfl) rfl (q0.memA (.tl .hd))) (.cons (.tmp rfl) .nil)) rfl ?_
 cases h
 exact q0.gv
 refine Ac<|Ab (AM (vs:=[]) (u:=.agg zQ) evs_nil (fun w9=>by kernel_rfl))<|AJ zP b0 (.tl .hd) (onesB rfl) (fun p1 s0 V0=>?_)
 refine Af rfl<|Aa<|Al rfl<|Am hb0 Tryz.func158 rfl (.cons (.many (cs:=zP) (by kernel_rfl) rfl (s0.memA (.tl .hd))) (.cons (.tmp rfl) .nil)) rfl ?_
 cases h
 exact s0.gv
 refine AI<|AI<|AI<|AS (Bs rfl rfl)<|RG.pf rfl rfl<|Aa<|BB rfl<|Au<|Aj<|Ac<|AZ 0 rfl<|AY rfl ((b0.memA (.tl (.tl .hd))) 0 _ rfl)<|Aa<|MX.ifb rfl h (fun z0 h=>?_) (fun z0 h=>?_)
 refine Ao<|Ab (AM (vs:=[]) (u:=.agg zQ) evs_nil (fun w9=>by kernel_rfl))<|AZ 1 rfl<|Ab (Bc (cs:=(cs_A50 a0.fm)) (by kernel_rfl) rfl (mem_part (b0.memA (.tl (.tl .hd))) 1 8)) ?_
 obtain ⟨d0,F0,h⟩:=bi h
 refine Bg (.tuple #[.agg ((cs_A50 d0.1)).toArray,vU d0.2]) body157 rfl (e2 rfl rfl) (fun w9 hw9=>wide_Size_minus_c n _ w9 (b0.hL0 hL hw9) ((0:UInt64),(0:UInt64),(0:UInt64),(0:UInt64),(0:UInt64),(0:UInt64),(0:UInt64),(0:UInt64)) a0.fm F0) rfl<|Ae rfl<|Ab (Ah rfl rfl)<|Ab (Ah rfl rfl)<|AZ 1 rfl<|BH .plain (Bo (j:=1) (old:=(cs_TNumber a0)) (news:=(cs_A50 d0.1)) (new' :=(([.bool a0.fe]:List Value) ++ cs_A50 d0.1)) b0 (.tl (.tl .hd)) rfl rfl rfl rfl rfl rfl (onesB rfl) rfl) (fun q1 t0 W0=>?_)
 refine Aa<|Ac<|AZ 1 rfl<|Ab (Bc (cs:=(cs_A50 d0.1)) (by kernel_rfl) rfl (mem_part (t0.memA (.tl (.tl .hd))) 1 8))<|AJ (cs_A50 d0.1) t0 (.tl .hd) (onesB rfl) (fun s1 u0 X0=>?_)
 refine Af rfl<|Aa<|Al rfl<|Am hb0 Tryz.func158 rfl (.cons (.many (cs:=(cs_A50 d0.1)) (by kernel_rfl) rfl (u0.memA (.tl .hd))) (.cons (.tmp rfl) .nil)) rfl ?_
 cases h
 exact u0.gv
 refine Au<|Ac<|AZ 1 rfl<|Ab (Bc (cs:=(cs_A50 a0.fm)) (by kernel_rfl) rfl (mem_part (b0.memA (.tl (.tl .hd))) 1 8))<|AJ (cs_A50 a0.fm) b0 (.tl .hd) (onesB rfl) (fun t1 v0 Y0=>?_)
 refine Af rfl<|Aa<|Al rfl<|Am hb0 Tryz.func158 rfl (.cons (.many (cs:=(cs_A50 a0.fm)) (by kernel_rfl) rfl (v0.memA (.tl .hd))) (.cons (.tmp rfl) .nil)) rfl ?_
 cases h
 exact v0.gv
def tb134_4:List (Nat × Nat × Nat):=[(0,8192,16),(1,16384,8192),(0,32768,2),(4,65536,32768),(10,131072,81920)]
theorem body158:bodyB Tryz.prog 158 = true:=by kernel_rfl
def wide_Long_Told_p (n:Nat) (a0:TLong):Option ((UInt64 × UInt64 × UInt64 × UInt64 × UInt64 × UInt64 × UInt64 × UInt64) × Int):=
  (if 8 < a0.fo.length then some (((0:UInt64),(0:UInt64),(0:UInt64),(0:UInt64),(0:UInt64),(0:UInt64),(0:UInt64),(0:UInt64)),(6:Int)) else (wide_Number_Told_p n (⟨a0.fe,(getA a0.fo 0 (0:UInt64),getA a0.fo 1 (0:UInt64),getA a0.fo 2 (0:UInt64),getA a0.fo 3 (0:UInt64),getA a0.fo 4 (0:UInt64),getA a0.fo 5 (0:UInt64),getA a0.fo 6 (0:UInt64),getA a0.fo 7 (0:UInt64))⟩:TNumber)).bind fun b0=>some (b0.1,b0.2))
theorem wide_Long_Told_c (n:Nat) (L:List Nat) (w:World) (hL:∀ b ∈ L,b < w.heap.size) (a0:TLong) {v0_1:Value} (h0_1:Rep.R w L [v0_1] a0.fo)  {r:(UInt64 × UInt64 × UInt64 × UInt64 × UInt64 × UInt64 × UInt64 × UInt64) × Int} (h:wide_Long_Told_p n a0 = some r) :
    Calls Tryz.prog 134 #[.agg #[.bool a0.fe,v0_1]] w (Gives w fun _ u=>u = .tuple #[.agg ((cs_A50 r.1)).toArray,vI r.2]):=by
 unfold wide_Long_Told_p at h
 have hS0:=Ay w
 refine AD Tryz.func134 rfl rfl rfl (fun _ cs0 hb0=>?_)
 refine Ac<|Ai .plain rfl (Av hS0 rfl rfl) (fun P0 B0 v0 D0=>?_)
 refine Ai .plain rfl (Ar zP v0) (fun Q0 C0 c0 E0=>?_)
 refine Af rfl<|Aa<|Aj<|Ac<|AZ 1 rfl<|AY rfl ((c0.memA (.tl .hd)) 1 _ rfl) ?_
 have s0:=AO h0_1 c0
 have K0:a0.fo.length ≤ 281474976710656:=AU s0
 refine Ab (Bd (xs:=a0.fo) Tryz.underlying142 rfl s0)<|Ab (FV.gtrN (i:=a0.fo.length) (j:=8) rfl rfl)<|Aa<|AV rfl h (fun u0 h=>?_) (fun u0 h=>?_)
 refine Ac<|Ab (AM (vs:=[]) (u:=.agg zQ) evs_nil (fun w9=>by kernel_rfl))<|AJ zP c0 .hd (onesB rfl) (fun R0 p0 F0=>?_)
 refine Af rfl<|Aa<|Al rfl<|Am hb0 Tryz.func134 rfl (.cons (.many (cs:=zP) (by kernel_rfl) rfl (p0.memA .hd)) (.cons (.tmp rfl) .nil)) rfl ?_
 cases h
 exact p0.gv
 refine Au<|Ac<|AZ 0 rfl<|AY rfl ((c0.memA (.tl .hd)) 0 _ rfl)<|Ab (AM (vs:=[.bool a0.fe]) (u:=.agg #[.bool a0.fe,vW 0,vW 0,vW 0,vW 0,vW 0,vW 0,vW 0,vW 0]) (e1 rfl) (fun w9=>by kernel_rfl))<|Ai .plain rfl (Ar [.bool false,vW 0,vW 0,vW 0,vW 0,vW 0,vW 0,vW 0,vW 0] c0) (fun U0 t0 x0 G0=>?_)
 refine AJ [.bool a0.fe,vW 0,vW 0,vW 0,vW 0,vW 0,vW 0,vW 0,vW 0] x0 .hd (onesB rfl) (fun V0 j0 H0=>?_)
 refine Aa<|Aj<|dt 4 tb134_4 (fun b0 d0=>?_)
 refine Ag 0 1 b0 rfl d0 (fun _=>AX 1 rfl) rfl<|AC 1 3 16 b0 rfl d0 (FV.sliceA (len:=8) (m:=1) (p:=Addr.add ⟨t0,0,none⟩ 1) (by kernel_rfl) rfl) rfl<|Ag 2 7 b0 rfl d0 (fun _=>AX 1 rfl) rfl<|AC 3 15 16 b0 rfl d0 (AL rfl ((j0.memA (.tl (.tl .hd))) 1 _ rfl)) rfl ?_
 have y0:=AO h0_1 j0
 refine BC (i:=4) (rk b0) (RO.doesL (m' :=31) (sk b0) rfl rfl .plain rfl (DoesL.copyArr (fun z9:UInt64=>(vU z9:Value)) (olds:=([(0:UInt64),(0:UInt64),(0:UInt64),(0:UInt64),(0:UInt64),(0:UInt64),(0:UInt64),(0:UInt64)]:List UInt64)) (ys:=a0.fo) (pre:=[.bool a0.fe]) (post:=[]) (old:=[.bool a0.fe,vW 0,vW 0,vW 0,vW 0,vW 0,vW 0,vW 0,vW 0]) (new' :=[.bool a0.fe,vW ((getA a0.fo 0 (0:UInt64)).toNat:Int),vW ((getA a0.fo 1 (0:UInt64)).toNat:Int),vW ((getA a0.fo 2 (0:UInt64)).toNat:Int),vW ((getA a0.fo 3 (0:UInt64)).toNat:Int),vW ((getA a0.fo 4 (0:UInt64)).toNat:Int),vW ((getA a0.fo 5 (0:UInt64)).toNat:Int),vW ((getA a0.fo 6 (0:UInt64)).toNat:Int),vW ((getA a0.fo 7 (0:UInt64)).toNat:Int)]) rfl (fun _ _ _ _ h9=>h9) j0 .hd (by kernel_rfl) rfl rfl rfl rfl rfl rfl rfl (Src.rep y0)) (fun M0 W0 ⟨z0,k0,I0⟩=>?_))
 subst z0
 refine AE (dk b0)<|Ac<|Ab (AA rfl (k0.memA .hd)) ?_
 obtain ⟨g0,A0,h⟩:=bi h
 refine Bg (.tuple #[.agg ((cs_A50 g0.1)).toArray,vI g0.2]) body158 rfl (e1 rfl) (fun w9 hw9=>wide_Number_Told_c n _ w9 (k0.hL0 hL hw9) (⟨a0.fe,(getA a0.fo 0 (0:UInt64),getA a0.fo 1 (0:UInt64),getA a0.fo 2 (0:UInt64),getA a0.fo 3 (0:UInt64),getA a0.fo 4 (0:UInt64),getA a0.fo 5 (0:UInt64),getA a0.fo 6 (0:UInt64),getA a0.fo 7 (0:UInt64))⟩:TNumber) A0) rfl<|Ab (Ah rfl rfl)<|Ab (Ah rfl rfl)<|AJ (cs_A50 g0.1) k0 (.tl .hd) (onesB rfl) (fun X0 q0 J0=>?_)
 refine Af rfl<|Aa<|Al rfl<|Am hb0 Tryz.func134 rfl (.cons (.many (cs:=(cs_A50 g0.1)) (by kernel_rfl) rfl (q0.memA (.tl .hd))) (.cons (.tmp rfl) .nil)) rfl ?_
 cases h
 exact q0.gv
def cs_TShare (x:TShare):List Value:=[vU x.fN.1,vU x.fN.2.1,vU x.fN.2.2.1,vU x.fN.2.2.2.1,vU x.fN.2.2.2.2.1,vU x.fN.2.2.2.2.2.1,vU x.fN.2.2.2.2.2.2.1,vU x.fN.2.2.2.2.2.2.2,vU x.fD.1,vU x.fD.2.1,vU x.fD.2.2.1,vU x.fD.2.2.2.1,vU x.fD.2.2.2.2.1,vU x.fD.2.2.2.2.2.1,vU x.fD.2.2.2.2.2.2.1,vU x.fD.2.2.2.2.2.2.2]
theorem body134:bodyB Tryz.prog 134 = true:=by kernel_rfl
def share_Ratio_Told_p (n:Nat) (a0:TRatio):Option (TShare × Int):=
  (wide_Long_Told_p n a0.ft).bind fun b0=>(wide_Long_Told_p n a0.fp).bind fun c0=>(if b0.2 = 0 then (if c0.2 = 0 then some ((⟨b0.1,c0.1⟩:TShare),(0:Int)) else some ((⟨((0:UInt64),(0:UInt64),(0:UInt64),(0:UInt64),(0:UInt64),(0:UInt64),(0:UInt64),(0:UInt64)),((0:UInt64),(0:UInt64),(0:UInt64),(0:UInt64),(0:UInt64),(0:UInt64),(0:UInt64),(0:UInt64))⟩:TShare),(6:Int))) else some ((⟨((0:UInt64),(0:UInt64),(0:UInt64),(0:UInt64),(0:UInt64),(0:UInt64),(0:UInt64),(0:UInt64)),((0:UInt64),(0:UInt64),(0:UInt64),(0:UInt64),(0:UInt64),(0:UInt64),(0:UInt64),(0:UInt64))⟩:TShare),(6:Int)))
theorem share_Ratio_Told_c (n:Nat) (L:List Nat) (w:World) (hL:∀ b ∈ L,b < w.heap.size) (a0:TRatio) {v0_1:Value} (h0_1:Rep.R w L [v0_1] a0.ft.fo) {v0_3:Value} (h0_3:Rep.R w L [v0_3] a0.fp.fo)  {r:TShare × Int} (h:share_Ratio_Told_p n a0 = some r) :
    Calls Tryz.prog 115 #[.agg #[.bool a0.ft.fe,v0_1,.bool a0.fp.fe,v0_3]] w (Gives w fun _ u=>u = .tuple #[.agg ((cs_TShare r.1)).toArray,vI r.2]):=by
 unfold share_Ratio_Told_p at h
 have hS0:=Ay w
 refine AD Tryz.func115 rfl rfl rfl (fun _ cs0 hb0=>?_)
 refine Ac<|Ai .plain rfl (Av hS0 rfl rfl) (fun R0 B0 v0 F0=>?_)
 refine Ai .plain rfl (Ar zL v0) (fun U0 C0 g0 G0=>?_)
 refine Af rfl<|Aa<|Ac<|AZ 0 rfl<|Ab (Bc (cs:=[.bool a0.ft.fe,v0_1]) (by kernel_rfl) rfl (mem_part (g0.memA (.tl .hd)) 0 2)) ?_
 obtain ⟨b0,z0,h⟩:=bi h
 refine Bg (.tuple #[.agg ((cs_A50 b0.1)).toArray,vI b0.2]) body134 rfl (e1 rfl) (fun w9 hw9=>wide_Long_Told_c n _ w9 (g0.hL0 hL hw9) a0.ft (g0.k0 h0_1 hw9) z0) rfl<|Ae rfl<|Ab (Ah rfl rfl)<|Ab (Ah rfl rfl)<|Ai .plain rfl (Ar zP g0) (fun V0 D0 x0 H0=>?_)
 refine AJ (cs_A50 b0.1) x0 .hd (onesB rfl) (fun W0 j0 I0=>?_)
 refine Af rfl<|Aa<|Ac<|AZ 2 rfl<|Ab (Bc (cs:=[.bool a0.fp.fe,v0_3]) (by kernel_rfl) rfl (mem_part (j0.memA (.tl (.tl .hd))) 2 2)) ?_
 obtain ⟨c0,A0,h⟩:=bi h
 refine Bg (.tuple #[.agg ((cs_A50 c0.1)).toArray,vI c0.2]) body134 rfl (e1 rfl) (fun w9 hw9=>wide_Long_Told_c n _ w9 (j0.hL0 hL hw9) a0.fp (j0.k0 h0_3 hw9) A0) rfl<|Ae rfl<|Ab (Ah rfl rfl)<|Ab (Ah rfl rfl)<|Ai .plain rfl (Ar zP j0) (fun X0 E0 y0 J0=>?_)
 refine AJ (cs_A50 c0.1) y0 .hd (onesB rfl) (fun Y0 d0 K0=>?_)
 refine Af rfl<|Aa<|Aj<|Ac<|Ae rfl<|Ab (FV.neq (i:=b0.2) (j:=0) rfl rfl)<|Ae rfl<|RG.ifn (s:=22) rfl h (fun t0 h=>?_) (fun t0 h=>?_)
 refine AS (Ak rfl)<|AS (FV.neq (i:=c0.2) (j:=0) rfl rfl)<|RG.pf rfl rfl<|Aa<|MX.ifn rfl h (fun u0 h=>?_) (fun u0 h=>?_)
 refine Au<|Ac<|Ab (AA rfl (d0.memA (.tl .hd)))<|Ab (AA rfl (d0.memA .hd))<|Ab (AM (vs:=[.agg ((cs_A50 b0.1)).toArray,.agg ((cs_A50 c0.1)).toArray]) (u:=.agg ((cs_A50 b0.1 ++ cs_A50 c0.1)).toArray) (e2 rfl rfl) (fun w9=>by kernel_rfl))<|AJ (cs_A50 b0.1 ++ cs_A50 c0.1) d0 (.tl (.tl .hd)) (onesB rfl) (fun Z0 p0 M0=>?_)
 refine Af rfl<|Aa<|Al rfl<|Am hb0 Tryz.func115 rfl (.cons (.many (cs:=(cs_A50 b0.1 ++ cs_A50 c0.1)) (by kernel_rfl) rfl (p0.memA (.tl (.tl .hd)))) (.cons (.tmp rfl) .nil)) rfl ?_
 cases h
 exact p0.gv
 refine Ac<|Ab (AM (vs:=[]) (u:=.agg zM) evs_nil (fun w9=>by kernel_rfl))<|AJ zL d0 (.tl (.tl .hd)) (onesB rfl) (fun b1 q0 P0=>?_)
 refine Af rfl<|Aa<|Al rfl<|Am hb0 Tryz.func115 rfl (.cons (.many (cs:=zL) (by kernel_rfl) rfl (q0.memA (.tl (.tl .hd)))) (.cons (.tmp rfl) .nil)) rfl ?_
 cases h
 exact q0.gv
 refine AI<|AI<|BI rfl rfl<|Aa<|Bh rfl<|Ac<|Ab (AM (vs:=[]) (u:=.agg zM) evs_nil (fun w9=>by kernel_rfl))<|AJ zL d0 (.tl (.tl .hd)) (onesB rfl) (fun c1 s0 Q0=>?_)
 refine Af rfl<|Aa<|Al rfl<|Am hb0 Tryz.func115 rfl (.cons (.many (cs:=zL) (by kernel_rfl) rfl (s0.memA (.tl (.tl .hd)))) (.cons (.tmp rfl) .nil)) rfl ?_
 cases h
 exact s0.gv
def tb84_3:List (Nat × Nat × Nat):=[(0,1024,4),(1,2048,1024),(0,4096,8),(6,8192,4096),(10,16384,10240),(16,32768,16384),(32,65536,32768),(32,131072,32768),(255,0,65552),(511,32,131072)]
theorem op_A50 {w:World} {L:List Nat} {cs:List Value} {x:UInt64 × UInt64 × UInt64 × UInt64 × UInt64 × UInt64 × UInt64 × UInt64} (h:Rep.R w L cs x):cs = [vU x.1,vU x.2.1,vU x.2.2.1,vU x.2.2.2.1,vU x.2.2.2.2.1,vU x.2.2.2.2.2.1,vU x.2.2.2.2.2.2.1,vU x.2.2.2.2.2.2.2]:=by
  obtain ⟨c0,r0,rfl,h0,h⟩:=h
  have e0:c0 = [vU x.1]:=h0; subst e0
  obtain ⟨c1,r1,rfl,h1,h⟩:=h
  have e1:c1 = [vU x.2.1]:=h1; subst e1
  obtain ⟨c2,r2,rfl,h2,h⟩:=h
  have e2:c2 = [vU x.2.2.1]:=h2; subst e2
  obtain ⟨c3,r3,rfl,h3,h⟩:=h
  have e3:c3 = [vU x.2.2.2.1]:=h3; subst e3
  obtain ⟨c4,r4,rfl,h4,h⟩:=h
  have e4:c4 = [vU x.2.2.2.2.1]:=h4; subst e4
  obtain ⟨c5,r5,rfl,h5,h⟩:=h
  have e5:c5 = [vU x.2.2.2.2.2.1]:=h5; subst e5
  obtain ⟨c6,r6,rfl,h6,h⟩:=h
  have e6:c6 = [vU x.2.2.2.2.2.2.1]:=h6; subst e6
  have e7:r6 = [vU x.2.2.2.2.2.2.2]:=h; subst e7
  rfl
theorem mk_A50 {w:World} {L:List Nat} (a0:UInt64) (a1:UInt64) (a2:UInt64) (a3:UInt64) (a4:UInt64) (a5:UInt64) (a6:UInt64) (a7:UInt64):Rep.R w L [vU a0,vU a1,vU a2,vU a3,vU a4,vU a5,vU a6,vU a7] ((a0,a1,a2,a3,a4,a5,a6,a7):UInt64 × UInt64 × UInt64 × UInt64 × UInt64 × UInt64 × UInt64 × UInt64):=⟨[vU a0],[vU a1,vU a2,vU a3,vU a4,vU a5,vU a6,vU a7],rfl,rfl,⟨[vU a1],[vU a2,vU a3,vU a4,vU a5,vU a6,vU a7],rfl,rfl,⟨[vU a2],[vU a3,vU a4,vU a5,vU a6,vU a7],rfl,rfl,⟨[vU a3],[vU a4,vU a5,vU a6,vU a7],rfl,rfl,⟨[vU a4],[vU a5,vU a6,vU a7],rfl,rfl,⟨[vU a5],[vU a6,vU a7],rfl,rfl,⟨[vU a6],[vU a7],rfl,rfl,rfl⟩⟩⟩⟩⟩⟩⟩
theorem body113:bodyB Tryz.prog 113 = true:=by kernel_rfl
theorem body114:bodyB Tryz.prog 114 = true:=by kernel_rfl
theorem body115:bodyB Tryz.prog 115 = true:=by kernel_rfl
theorem ex_A50 {a b:UInt64 × UInt64 × UInt64 × UInt64 × UInt64 × UInt64 × UInt64 × UInt64} (h0:a.1 = b.1) (h1:a.2.1 = b.2.1) (h2:a.2.2.1 = b.2.2.1) (h3:a.2.2.2.1 = b.2.2.2.1) (h4:a.2.2.2.2.1 = b.2.2.2.2.1) (h5:a.2.2.2.2.2.1 = b.2.2.2.2.2.1) (h6:a.2.2.2.2.2.2.1 = b.2.2.2.2.2.2.1) (h7:a.2.2.2.2.2.2.2 = b.2.2.2.2.2.2.2):a = b:=Prod.ext h0 (Prod.ext h1 (Prod.ext h2 (Prod.ext h3 (Prod.ext h4 (Prod.ext h5 (Prod.ext h6 (h7)))))))
theorem eqlD_51 (a b:UInt64 × UInt64 × UInt64 × UInt64 × UInt64 × UInt64 × UInt64 × UInt64) (w9:World):(do eqGuard .eql 51 (.tmp 0) (.tmp 0) (.agg #[vU a.1,vU a.2.1,vU a.2.2.1,vU a.2.2.2.1,vU a.2.2.2.2.1,vU a.2.2.2.2.2.1,vU a.2.2.2.2.2.2.1,vU a.2.2.2.2.2.2.2]) (.agg #[vU b.1,vU b.2.1,vU b.2.2.1,vU b.2.2.2.1,vU b.2.2.2.2.1,vU b.2.2.2.2.2.1,vU b.2.2.2.2.2.2.1,vU b.2.2.2.2.2.2.2]); binOp .eql 51 (.agg #[vU a.1,vU a.2.1,vU a.2.2.1,vU a.2.2.2.1,vU a.2.2.2.2.1,vU a.2.2.2.2.2.1,vU a.2.2.2.2.2.2.1,vU a.2.2.2.2.2.2.2]) (.agg #[vU b.1,vU b.2.1,vU b.2.2.1,vU b.2.2.2.1,vU b.2.2.2.2.1,vU b.2.2.2.2.2.1,vU b.2.2.2.2.2.2.1,vU b.2.2.2.2.2.2.2]):Sem Value).run Tryz.prog w9 = .ok (.bool (decide (a = b))) w9:=
  eqAgg (ks:=[.int .u64,.int .u64,.int .u64,.int .u64,.int .u64,.int .u64,.int .u64,.int .u64]) (xs:=[vU a.1,vU a.2.1,vU a.2.2.1,vU a.2.2.2.1,vU a.2.2.2.2.1,vU a.2.2.2.2.2.1,vU a.2.2.2.2.2.2.1,vU a.2.2.2.2.2.2.2]) (ys:=[vU b.1,vU b.2.1,vU b.2.2.1,vU b.2.2.2.1,vU b.2.2.2.2.1,vU b.2.2.2.2.2.1,vU b.2.2.2.2.2.2.1,vU b.2.2.2.2.2.2.2]) (by kernel_rfl) (by kernel_rfl) (by kernel_rfl) rfl rfl ⟨fun h=>by
    simp only [allEq,veq,Bool.and_eq_true,beq_iff_eq,and_true] at h
    obtain ⟨h0,h1,h2,h3,h4,h5,h6,h7⟩:=h
    exact ex_A50 (UInt_inj64 h0) (UInt_inj64 h1) (UInt_inj64 h2) (UInt_inj64 h3) (UInt_inj64 h4) (UInt_inj64 h5) (UInt_inj64 h6) (UInt_inj64 h7),fun h=>by subst h; simp [allEq,veq]⟩ _ _ w9
def share_Make_p (n:Nat) (a0:UInt64 × UInt64 × UInt64 × UInt64 × UInt64 × UInt64 × UInt64 × UInt64) (a1:UInt64 × UInt64 × UInt64 × UInt64 × UInt64 × UInt64 × UInt64 × UInt64):Option (TShare × Int):=
  (if a1 = ((0:UInt64),(0:UInt64),(0:UInt64),(0:UInt64),(0:UInt64),(0:UInt64),(0:UInt64),(0:UInt64)) then some ((⟨((0:UInt64),(0:UInt64),(0:UInt64),(0:UInt64),(0:UInt64),(0:UInt64),(0:UInt64),(0:UInt64)),((0:UInt64),(0:UInt64),(0:UInt64),(0:UInt64),(0:UInt64),(0:UInt64),(0:UInt64),(0:UInt64))⟩:TShare),(7:Int)) else (wide_Longer_p n a0).bind fun c0=>(wide_Longer_p n a1).bind fun d0=>(share_Lowest_p n c0 d0).bind fun g0=>(share_Ratio_Told_p n g0).bind fun b0=>some (b0.1,b0.2))
theorem share_Make_c (n:Nat) (L:List Nat) (w:World) (hL:∀ b ∈ L,b < w.heap.size) (a0:UInt64 × UInt64 × UInt64 × UInt64 × UInt64 × UInt64 × UInt64 × UInt64) (a1:UInt64 × UInt64 × UInt64 × UInt64 × UInt64 × UInt64 × UInt64 × UInt64)  {r:TShare × Int} (h:share_Make_p n a0 a1 = some r) :
    Calls Tryz.prog 84 #[.agg ((cs_A50 a0)).toArray,.agg ((cs_A50 a1)).toArray] w (Gives w fun _ u=>u = .tuple #[.agg ((cs_TShare r.1)).toArray,vI r.2]):=by
 unfold share_Make_p at h
 have hS0:=Ay w
 refine AD Tryz.func84 rfl rfl rfl (fun _ cs0 hb0=>?_)
 refine Ac<|Ai .plain rfl (Av hS0 rfl rfl) (fun t1 Q0 u0 V0=>?_)
 refine Ai .plain rfl (Av u0 rfl rfl) (fun u1 R0 v0 W0=>?_)
 refine Ai .plain rfl (Ar zL v0) (fun v1 U0 c0 X0=>?_)
 refine Af rfl<|Aa<|Aj<|Ac<|Ab (AA rfl (c0.memA (.tl .hd)))<|Ab (AM (vs:=[]) (u:=.agg zQ) evs_nil (fun w9=>by kernel_rfl))<|Ab (FV.eqlV (v:=.agg ((cs_A50 a1)).toArray) (u:=.agg zQ) rfl rfl (eqlD_51 a1 ((0:UInt64),(0:UInt64),(0:UInt64),(0:UInt64),(0:UInt64),(0:UInt64),(0:UInt64),(0:UInt64))))<|Aa<|AV rfl h (fun t0 h=>?_) (fun t0 h=>?_)
 refine Ac<|Ab (AM (vs:=[]) (u:=.agg zM) evs_nil (fun w9=>by kernel_rfl))<|AJ zL c0 .hd (onesB rfl) (fun x1 k0 Y0=>?_)
 refine Af rfl<|Aa<|Al rfl<|Am hb0 Tryz.func84 rfl (.cons (.many (cs:=zL) (by kernel_rfl) rfl (k0.memA .hd)) (.cons (.tmp rfl) .nil)) rfl ?_
 cases h
 exact k0.gv
 refine Au<|Aj<|dt 8 tb84_3 (fun b0 d0=>?_)
 refine AC 0 1 1018 b0 rfl d0 (AA rfl (c0.memA (.tl (.tl .hd)))) rfl<|AC 2 5 1016 b0 rfl d0 (AA rfl (c0.memA (.tl .hd))) rfl ?_
 obtain ⟨K0,G0,h⟩:=bi h
 refine Bu 1 7 b0 rfl .plain body114 rfl (e1 rfl) (fun w9 hw9=>wide_Longer_c n _ w9 (c0.hL hL hw9) a0 G0) rfl (fun y1 p1 y0 ⟨d1,hu_,C0⟩=>?_)
 subst hu_
 obtain ⟨p0,Z0⟩:=c0.agr y0
 obtain ⟨M0,H0,h⟩:=bi h
 refine Bu 3 15 b0 rfl .plain body114 rfl (e1 rfl) (fun w9 hw9=>wide_Longer_c n _ w9 (p0.hL hL hw9) a1 H0) rfl (fun z1 q1 z0 ⟨g1,hu_,D0⟩=>?_)
 subst hu_
 obtain ⟨q0,x0⟩:=p0.agr z0
 obtain ⟨P0,I0,h⟩:=bi h
 have B0:=Aq C0 x0
 refine Bu 4 31 b0 rfl .plain body113 rfl (e2 rfl rfl) (fun w9 hw9=>share_Lowest_c n _ w9 (q0.hL hL hw9) K0 (Ap B0 hw9) M0 (Ap D0 hw9) I0) rfl (fun A1 s1 A0 ⟨j1,k1,hu_,E0,F0⟩=>?_)
 subst hu_
 obtain ⟨g0,b1⟩:=q0.agr A0
 obtain ⟨j0,J0,h⟩:=bi h
 refine BA 5 63 960 (.tuple #[.agg ((cs_TShare j0.1)).toArray,vI j0.2]) b0 rfl d0 body115 rfl (e1 rfl) (fun w9 hw9=>share_Ratio_Told_c n _ w9 (g0.hL0 hL hw9) P0 (g0.kd E0 hw9) (g0.kd F0 hw9) J0) rfl<|Ag 6 127 b0 rfl d0 (fun _=>Ah rfl rfl) rfl<|Ag 7 255 b0 rfl d0 (fun _=>Ah rfl rfl) rfl<|Bq 8 511 b0 rfl rfl .plain (Aw (news:=(cs_TShare j0.1)) g0 .hd rfl rfl rfl rfl rfl rfl (onesB rfl)) (fun B1 s0 c1=>?_)
 refine BC (i:=9) (rk b0) (BK (m' :=1023) (sk b0) rfl .plain rfl (Bi rfl) ?_)
 refine AE (dk b0)<|Al rfl<|Am hb0 Tryz.func84 rfl (.cons (.many (cs:=(cs_TShare j0.1)) (by kernel_rfl) rfl (s0.memA .hd)) (.cons (.tmp rfl) .nil)) rfl ?_
 cases h
 exact s0.gv
def wide_Of_l1 (_n:Nat) (t0:Nat × UInt64 × UInt64 × UInt64 × UInt64 × UInt64 × UInt64 × UInt64 × UInt64 → Option (UInt64 × UInt64 × UInt64 × UInt64 × UInt64 × UInt64 × UInt64 × UInt64)):Nat × UInt64 × UInt64 × UInt64 × UInt64 × UInt64 × UInt64 × UInt64 × UInt64 → Option (UInt64 × UInt64 × UInt64 × UInt64 × UInt64 × UInt64 × UInt64 × UInt64)
  | (b0,c0,d0,g0,j0,k0,p0,q0,s0)=>(if b0 < 8 then (([c0,d0,g0,j0,k0,p0,q0,s0]:List UInt64)[b0]?).bind fun u0=>t0 (b0 + 1,setA b0 0 (18446744073709551615:UInt64) c0,setA b0 1 (18446744073709551615:UInt64) d0,setA b0 2 (18446744073709551615:UInt64) g0,setA b0 3 (18446744073709551615:UInt64) j0,setA b0 4 (18446744073709551615:UInt64) k0,setA b0 5 (18446744073709551615:UInt64) p0,setA b0 6 (18446744073709551615:UInt64) q0,setA b0 7 (18446744073709551615:UInt64) s0) else some (c0,d0,g0,j0,k0,p0,q0,s0))
def wide_Of_p (n:Nat) (a0:Int):Option (UInt64 × UInt64 × UInt64 × UInt64 × UInt64 × UInt64 × UInt64 × UInt64):=
  (if a0 < 0 then Option.bind (loopF (wide_Of_l1 n) n (1,u64of a0,(0:UInt64),(0:UInt64),(0:UInt64),(0:UInt64),(0:UInt64),(0:UInt64),(0:UInt64))) (fun (b0,c0,d0,g0,j0,k0,p0,q0)=>some (b0,c0,d0,g0,j0,k0,p0,q0)) else some (u64of a0,(0:UInt64),(0:UInt64),(0:UInt64),(0:UInt64),(0:UInt64),(0:UInt64),(0:UInt64)))
theorem wide_Of_c (n:Nat) (L:List Nat) (w:World) (_hL:∀ b ∈ L,b < w.heap.size) (a0:Int)  {r:UInt64 × UInt64 × UInt64 × UInt64 × UInt64 × UInt64 × UInt64 × UInt64} (h:wide_Of_p n a0 = some r) :
    Calls Tryz.prog 85 #[vI a0] w (Gives w fun _ u=>u = .agg ((cs_A50 r)).toArray):=by
 unfold wide_Of_p at h
 have hS0:=Ay w
 refine AD Tryz.func85 rfl rfl rfl (fun _ cs0 hb0=>?_)
 refine Ac<|Ai .plain rfl (Ar zP hS0) (fun b1 u0 F0 R0=>?_)
 refine Aa<|Ac<|Ae rfl<|Ab (FV.convU (i:=a0) Tryz.underlying3 Tryz.underlying49 rfl)<|Ab (AM (vs:=[vW ((u64of a0).toNat:Int)]) (u:=.agg #[vW ((u64of a0).toNat:Int),vW 0,vW 0,vW 0,vW 0,vW 0,vW 0,vW 0]) (e1 rfl) (fun w9=>by kernel_rfl))<|Ai .plain rfl (Ar zP F0) (fun c1 t0 G0 U0=>?_)
 refine AJ [vW ((u64of a0).toNat:Int),vW 0,vW 0,vW 0,vW 0,vW 0,vW 0,vW 0] G0 .hd (onesB rfl) (fun P0 x0 V0=>?_)
 refine Aa<|Aj<|Ac<|Ae rfl<|Ab (FV.lss (i:=a0) (j:=0) rfl rfl)<|Aa<|AV rfl h (fun C0 h=>?_) (fun C0 h=>?_)
 refine Ac<|Af rfl<|Aa<|Az ?_
 obtain ⟨Z0,M0,K0⟩:=bind_in2 h
 refine Bm (α:=Nat × UInt64 × UInt64 × UInt64 × UInt64 × UInt64 × UInt64 × UInt64 × UInt64) (fun ⟨b0,c0,d0,g0,j0,k0,p0,q0,s0⟩=>[(2,vP u0),(3,vP t0),(4,vI ((b0:Nat):Int))]) (fun ⟨b0,c0,d0,g0,j0,k0,p0,q0,s0⟩ z0=>St w z0 [.cells t0 [vU c0,vU d0,vU g0,vU j0,vU k0,vU p0,vU q0,vU s0] 51,.cells u0 zP 51]∧Tr P0 [.cells t0 [vW ((u64of a0).toNat:Int),vW 0,vW 0,vW 0,vW 0,vW 0,vW 0,vW 0] 51,.cells u0 zP 51] z0 [.cells t0 [vU c0,vU d0,vU g0,vU j0,vU k0,vU p0,vU q0,vU s0] 51,.cells u0 zP 51]) (fun ⟨b0,c0,d0,g0,j0,k0,p0,q0,s0⟩=>(b0,c0,d0,g0,j0,k0,p0,q0,s0)) (1,u64of a0,(0:UInt64),(0:UInt64),(0:UInt64),(0:UInt64),(0:UInt64),(0:UInt64),(0:UInt64)) M0 ⟨rfl,rfl,rfl,trivial⟩ ⟨x0,AQ _ _⟩ ?_
 rintro Q0 ⟨b0,c0,d0,g0,j0,k0,p0,q0,s0⟩ z0 E0 ⟨v0,I0⟩ h
 unfold wide_Of_l1 at h
 try dsimp only at h
 refine Aj<|Ac<|Ae rfl<|Ab (Br (i:=b0) (j:=8) rfl rfl)<|Aa<|AV rfl h (fun D0 h=>?_) (fun D0 h=>?_)
 refine Au<|Aj<|Az<|Ao<|Ae rfl ?_
 obtain ⟨k1,y0,h⟩:=bi h
 have Y0:=mem_elem1 (p:=⟨t0,0,none⟩) (cs:=([c0,d0,g0,j0,k0,p0,q0,s0]:List UInt64).map (fun z9:UInt64=>(vU z9:Value)) ++ []) (i:=b0) (v0.memA .hd) (arr_get (fun z9:UInt64=>(vU z9:Value)) y0)
 refine Ab (AW (m:=1) (k:=b0) (len:=8) (by kernel_rfl) rfl rfl rfl (arr_lt y0 rfl))<|BH .plain (Acts.storeArr (fun z9:UInt64=>(vU z9:Value)) (xs:=([c0,d0,g0,j0,k0,p0,q0,s0]:List UInt64)) (pre:=[]) (post:=[]) (i:=b0) (m:=8) (x:=(18446744073709551615:UInt64)) (old:=[vU c0,vU d0,vU g0,vU j0,vU k0,vU p0,vU q0,vU s0]) (new' :=[vW ((setA b0 0 (18446744073709551615:UInt64) c0).toNat:Int),vW ((setA b0 1 (18446744073709551615:UInt64) d0).toNat:Int),vW ((setA b0 2 (18446744073709551615:UInt64) g0).toNat:Int),vW ((setA b0 3 (18446744073709551615:UInt64) j0).toNat:Int),vW ((setA b0 4 (18446744073709551615:UInt64) k0).toNat:Int),vW ((setA b0 5 (18446744073709551615:UInt64) p0).toNat:Int),vW ((setA b0 6 (18446744073709551615:UInt64) q0).toNat:Int),vW ((setA b0 7 (18446744073709551615:UInt64) s0).toNat:Int)]) rfl rfl (arr_lt y0 rfl) v0 .hd rfl (addr_at _ _ _) rfl (by kernel_rfl) (fun _=>⟨rfl,rfl⟩) rfl rfl) (fun d1 H0 J0=>?_)
 refine Aa<|AB<|Ao<|Ae rfl<|Ab (Bl (i:=b0) (j:=1) rfl rfl (by omega))<|Af rfl<|Aa ?_
 exact E0 (b0 + 1,setA b0 0 (18446744073709551615:UInt64) c0,setA b0 1 (18446744073709551615:UInt64) d0,setA b0 2 (18446744073709551615:UInt64) g0,setA b0 3 (18446744073709551615:UInt64) j0,setA b0 4 (18446744073709551615:UInt64) k0,setA b0 5 (18446744073709551615:UInt64) p0,setA b0 6 (18446744073709551615:UInt64) q0,setA b0 7 (18446744073709551615:UInt64) s0) _ _ ⟨rfl,rfl,rfl,trivial⟩ ⟨H0,(Tt I0 J0)⟩ h
 refine Be rfl ?_
 have h:=K0 _ h
 try dsimp only at h
 refine Ac<|Ab (AA rfl (v0.memA .hd))<|AJ [vU c0,vU d0,vU g0,vU j0,vU k0,vU p0,vU q0,vU s0] v0 (.tl .hd) (onesB rfl) (fun g1 A0 W0=>?_)
 refine Aa<|Al rfl<|Am hb0 Tryz.func85 rfl (.cons (.many (cs:=[vU c0,vU d0,vU g0,vU j0,vU k0,vU p0,vU q0,vU s0]) (by kernel_rfl) rfl (A0.memA (.tl .hd))) .nil) rfl ?_
 cases h
 exact A0.gv
 refine Au<|Ac<|Ab (AA rfl (x0.memA .hd))<|AJ [vW ((u64of a0).toNat:Int),vW 0,vW 0,vW 0,vW 0,vW 0,vW 0,vW 0] x0 (.tl .hd) (onesB rfl) (fun j1 B0 X0=>?_)
 refine Aa<|Al rfl<|Am hb0 Tryz.func85 rfl (.cons (.many (cs:=[vW ((u64of a0).toNat:Int),vW 0,vW 0,vW 0,vW 0,vW 0,vW 0,vW 0]) (by kernel_rfl) rfl (B0.memA (.tl .hd))) .nil) rfl ?_
 cases h
 exact B0.gv
theorem body84:bodyB Tryz.prog 84 = true:=by kernel_rfl
theorem body85:bodyB Tryz.prog 85 = true:=by kernel_rfl
def share_Of_p (n:Nat) (a0:Int) (a1:Int):Option (TShare × Int):=
  (wide_Of_p n a0).bind fun c0=>(wide_Of_p n a1).bind fun d0=>(share_Make_p n c0 d0).bind fun b0=>some (b0.1,b0.2)
theorem share_Of_c (n:Nat) (L:List Nat) (w:World) (hL:∀ b ∈ L,b < w.heap.size) (a0:Int) (a1:Int)  {r:TShare × Int} (h:share_Of_p n a0 a1 = some r) :
    Calls Tryz.prog 40 #[vI a0,vI a1] w (Gives w fun _ u=>u = .tuple #[.agg ((cs_TShare r.1)).toArray,vI r.2]):=by
 unfold share_Of_p at h
 have hS0:=Ay w
 refine AD Tryz.func40 rfl rfl rfl (fun _ cs0 hb0=>?_)
 refine Ac<|Ai .plain rfl (Ar zL hS0) (fun v0 s0 b0 t0=>?_)
 refine Af rfl<|Aa<|Ac<|Ae rfl ?_
 obtain ⟨g0,k0,h⟩:=bi h
 refine Bg (.agg ((cs_A50 g0)).toArray) body85 rfl (e1 rfl) (fun w9 hw9=>wide_Of_c n _ w9 (b0.hL0 hL hw9) a0 k0) rfl<|Ae rfl ?_
 obtain ⟨j0,p0,h⟩:=bi h
 refine Bg (.agg ((cs_A50 j0)).toArray) body85 rfl (e1 rfl) (fun w9 hw9=>wide_Of_c n _ w9 (b0.hL0 hL hw9) a1 p0) rfl ?_
 obtain ⟨c0,q0,h⟩:=bi h
 refine Bg (.tuple #[.agg ((cs_TShare c0.1)).toArray,vI c0.2]) body84 rfl (e2 rfl rfl) (fun w9 hw9=>share_Make_c n _ w9 (b0.hL0 hL hw9) g0 j0 q0) rfl<|Ab (Ah rfl rfl)<|Ab (Ah rfl rfl)<|AJ (cs_TShare c0.1) b0 .hd (onesB rfl) (fun x0 d0 u0=>?_)
 refine Af rfl<|Aa<|Al rfl<|Am hb0 Tryz.func40 rfl (.cons (.many (cs:=(cs_TShare c0.1)) (by kernel_rfl) rfl (d0.memA .hd)) (.cons (.tmp rfl) .nil)) rfl ?_
 cases h
 exact d0.gv
def minority_must_api_Share_p (_n:Nat) (a0:TShare) (a1:Int):Option (Except Tbroken TShare):=
  (if a1 = 0 then some (.ok a0) else some (.error (⟨a1⟩:Tbroken)))
theorem minority_must_api_Share_c (n:Nat) (L:List Nat) (w:World) (_hL:∀ b ∈ L,b < w.heap.size) (a0:TShare) (a1:Int)  {r:Except Tbroken TShare} (h:minority_must_api_Share_p n a0 a1 = some r) :
    Calls Tryz.prog 60 #[.agg ((cs_TShare a0)).toArray,vI a1] w (PGives w (fun (y:TShare) _ u=>u = .agg ((cs_TShare y)).toArray) (fun e=>.iface 128 (.agg #[vI e.fB])) r):=by
 unfold minority_must_api_Share_p at h
 have hS0:=Ay w
 refine BE Tryz.func60 rfl rfl rfl (fun _ cs0 hb0 hp0=>?_)
 refine Ac<|Ai .plain rfl (Av hS0 rfl rfl) (fun t0 j0 g0 p0=>?_)
 refine Ai .plain rfl (Ar zL g0) (fun u0 k0 b0 q0=>?_)
 refine Aa<|Aj<|Ac<|Ae rfl<|Ab (FV.neq (i:=a1) (j:=0) rfl rfl)<|Aa<|MX.ifn rfl h (fun d0 h=>?_) (fun d0 h=>?_)
 refine Au<|Ac<|Ab (AA rfl (b0.memA (.tl .hd)))<|AJ (cs_TShare a0) b0 .hd (onesB rfl) (fun v0 c0 s0=>?_)
 refine Aa<|Al rfl<|Am hb0 Tryz.func60 rfl (.cons (.many (cs:=(cs_TShare a0)) (by kernel_rfl) rfl (c0.memA .hd)) .nil) rfl ?_
 cases h
 exact ⟨c0.ag,fun w9 hw9=>okOf_in rfl⟩
 refine Ao<|Ae rfl<|Ab (AM (vs:=[vI a1]) (u:=.agg #[vI a1]) (e1 rfl) (fun w9=>by kernel_rfl))<|Ab (Bv (by kernel_rfl) rfl)<|RG.panic .plain rfl ?_
 cases h
 exact AP hp0 Tryz.func60 ⟨b0.ag,rfl⟩
theorem body40:bodyB Tryz.prog 40 = true:=by kernel_rfl
theorem body60:bodyB Tryz.prog 60 = true:=by kernel_rfl
def minority_of_p (n:Nat) (a0:Int) (a1:Int):Option (Except Tbroken TShare):=
  (share_Of_p n a0 a1).bind fun b0=>(minority_must_api_Share_p n b0.1 b0.2).bind fun d0=>exc d0 (fun g0=>some (.ok g0)) (fun c0=>some (.error c0))
theorem minority_of_c (n:Nat) (L:List Nat) (w:World) (hL:∀ b ∈ L,b < w.heap.size) (a0:Int) (a1:Int)  {r:Except Tbroken TShare} (h:minority_of_p n a0 a1 = some r) :
    Calls Tryz.prog 63 #[vI a0,vI a1] w (PGives w (fun (y:TShare) _ u=>u = .agg ((cs_TShare y)).toArray) (fun e=>.iface 128 (.agg #[vI e.fB])) r):=by
 unfold minority_of_p at h
 have hS0:=Ay w
 refine BE Tryz.func63 rfl rfl rfl (fun _ cs0 hb0 hp0=>?_)
 refine Ac<|Ai .plain rfl (Ar zL hS0) (fun z0 t0 c0 v0=>?_)
 refine Aa<|Ac<|Ae rfl<|Ae rfl ?_
 obtain ⟨b0,q0,h⟩:=bi h
 refine Bg (.tuple #[.agg ((cs_TShare b0.1)).toArray,vI b0.2]) body40 rfl (e2 rfl rfl) (fun w9 hw9=>share_Of_c n _ w9 (c0.hL0 hL hw9) a0 a1 q0) rfl<|Ab (Ah rfl rfl)<|Ab (Ah rfl rfl) ?_
 obtain ⟨s0,j0,h⟩:=bi h
 rcases s0 with u0 | d0
 have h:=exc_e h
 try dsimp only at h
 refine Bt (fst:=[]) (cap:=[]) .plain body60 rfl (e2 rfl rfl) (fun w9 hw9=>minority_must_api_Share_c n _ w9 (c0.hL0 hL hw9) b0.1 b0.2 j0) (fun A0 p0=>?_)
 obtain ⟨k0,x0⟩:=c0.agr p0
 cases h
 exact AP hp0 Tryz.func63 ⟨k0.ag,rfl⟩
 have h:=exc_o h
 try dsimp only at h
 refine Bg (.agg ((cs_TShare d0)).toArray) body60 rfl (e2 rfl rfl) (fun w9 hw9=>AK (minority_must_api_Share_c n _ w9 (c0.hL0 hL hw9) b0.1 b0.2 j0)) rfl<|AJ (cs_TShare d0) c0 .hd (onesB rfl) (fun B0 g0 y0=>?_)
 refine Aa<|Al rfl<|Am hb0 Tryz.func63 rfl (.cons (.many (cs:=(cs_TShare d0)) (by kernel_rfl) rfl (g0.memA .hd)) .nil) rfl ?_
 cases h
 exact ⟨g0.ag,fun w9 hw9=>okOf_in rfl⟩
theorem body63:bodyB Tryz.prog 63 = true:=by kernel_rfl
def minority_part_share_p (n:Nat) (a0:Tpart):Option (Except Tbroken TShare):=
  (if a0.fall = 0 then (minority_of_p n (0:Int) (1:Int)).bind fun d0=>exc d0 (fun g0=>some (.ok g0)) (fun b0=>some (.error b0)) else (minority_of_p n a0.fF a0.fall).bind fun j0=>exc j0 (fun k0=>some (.ok k0)) (fun c0=>some (.error c0)))
theorem minority_part_share_c (n:Nat) (L:List Nat) (w:World) (hL:∀ b ∈ L,b < w.heap.size) (a0:Tpart)  {r:Except Tbroken TShare} (h:minority_part_share_p n a0 = some r) :
    Calls Tryz.prog 35 #[.agg #[vI a0.fF,vI a0.fall]] w (PGives w (fun (y:TShare) _ u=>u = .agg ((cs_TShare y)).toArray) (fun e=>.iface 128 (.agg #[vI e.fB])) r):=by
 unfold minority_part_share_p at h
 have hS0:=Ay w
 refine BE Tryz.func35 rfl rfl rfl (fun _ cs0 hb0 hp0=>?_)
 refine Ac<|Ai .plain rfl (Av hS0 rfl rfl) (fun K0 A0 s0 E0=>?_)
 refine Ai .plain rfl (Ar zL s0) (fun M0 B0 b0 F0=>?_)
 refine Aa<|Aj<|Ac<|AZ 1 rfl<|AY rfl ((b0.memA (.tl .hd)) 1 _ rfl)<|Ab (FV.eql (i:=a0.fall) (j:=0) rfl rfl)<|Aa<|AV rfl h (fun q0 h=>?_) (fun q0 h=>?_)
 refine Ac ?_
 obtain ⟨y0,k0,h⟩:=bi h
 rcases y0 with C0 | c0
 have h:=exc_e h
 try dsimp only at h
 refine Bt (fst:=[]) (cap:=[]) .plain body63 rfl (e2 rfl rfl) (fun w9 hw9=>minority_of_c n _ w9 (b0.hL0 hL hw9) (0:Int) (1:Int) k0) (fun P0 v0=>?_)
 obtain ⟨t0,G0⟩:=b0.agr v0
 cases h
 exact AP hp0 Tryz.func35 ⟨t0.ag,rfl⟩
 have h:=exc_o h
 try dsimp only at h
 refine Bg (.agg ((cs_TShare c0)).toArray) body63 rfl (e2 rfl rfl) (fun w9 hw9=>AK (minority_of_c n _ w9 (b0.hL0 hL hw9) (0:Int) (1:Int) k0)) rfl<|AJ (cs_TShare c0) b0 .hd (onesB rfl) (fun Q0 g0 H0=>?_)
 refine Aa<|Al rfl<|Am hb0 Tryz.func35 rfl (.cons (.many (cs:=(cs_TShare c0)) (by kernel_rfl) rfl (g0.memA .hd)) .nil) rfl ?_
 cases h
 exact ⟨g0.ag,fun w9 hw9=>okOf_in rfl⟩
 refine Au<|Ac<|AZ 0 rfl<|AY rfl ((b0.memA (.tl .hd)) 0 _ rfl)<|AZ 1 rfl<|AY rfl ((b0.memA (.tl .hd)) 1 _ rfl) ?_
 obtain ⟨z0,p0,h⟩:=bi h
 rcases z0 with D0 | d0
 have h:=exc_e h
 try dsimp only at h
 refine Bt (fst:=[]) (cap:=[]) .plain body63 rfl (e2 rfl rfl) (fun w9 hw9=>minority_of_c n _ w9 (b0.hL0 hL hw9) a0.fF a0.fall p0) (fun R0 x0=>?_)
 obtain ⟨u0,I0⟩:=b0.agr x0
 cases h
 exact AP hp0 Tryz.func35 ⟨u0.ag,rfl⟩
 have h:=exc_o h
 try dsimp only at h
 refine Bg (.agg ((cs_TShare d0)).toArray) body63 rfl (e2 rfl rfl) (fun w9 hw9=>AK (minority_of_c n _ w9 (b0.hL0 hL hw9) a0.fF a0.fall p0)) rfl<|AJ (cs_TShare d0) b0 .hd (onesB rfl) (fun U0 j0 J0=>?_)
 refine Aa<|Al rfl<|Am hb0 Tryz.func35 rfl (.cons (.many (cs:=(cs_TShare d0)) (by kernel_rfl) rfl (j0.memA .hd)) .nil) rfl ?_
 cases h
 exact ⟨j0.ag,fun w9 hw9=>okOf_in rfl⟩
theorem op_TShare {w:World} {L:List Nat} {cs:List Value} {x:TShare} (h:Rep.R w L cs x):cs = [vU x.fN.1,vU x.fN.2.1,vU x.fN.2.2.1,vU x.fN.2.2.2.1,vU x.fN.2.2.2.2.1,vU x.fN.2.2.2.2.2.1,vU x.fN.2.2.2.2.2.2.1,vU x.fN.2.2.2.2.2.2.2,vU x.fD.1,vU x.fD.2.1,vU x.fD.2.2.1,vU x.fD.2.2.2.1,vU x.fD.2.2.2.2.1,vU x.fD.2.2.2.2.2.1,vU x.fD.2.2.2.2.2.2.1,vU x.fD.2.2.2.2.2.2.2]:=by
  obtain ⟨c0,r0,rfl,h0,h⟩:=h
  obtain rfl:=op_A50 (x:=x.fN) h0
  obtain rfl:=op_A50 (x:=x.fD) h
  rfl
theorem mk_TShare {w:World} {L:List Nat} (a0:UInt64 × UInt64 × UInt64 × UInt64 × UInt64 × UInt64 × UInt64 × UInt64) (a1:UInt64 × UInt64 × UInt64 × UInt64 × UInt64 × UInt64 × UInt64 × UInt64):Rep.R w L [vU a0.1,vU a0.2.1,vU a0.2.2.1,vU a0.2.2.2.1,vU a0.2.2.2.2.1,vU a0.2.2.2.2.2.1,vU a0.2.2.2.2.2.2.1,vU a0.2.2.2.2.2.2.2,vU a1.1,vU a1.2.1,vU a1.2.2.1,vU a1.2.2.2.1,vU a1.2.2.2.2.1,vU a1.2.2.2.2.2.1,vU a1.2.2.2.2.2.2.1,vU a1.2.2.2.2.2.2.2] (⟨a0,a1⟩:TShare):=⟨[vU a0.1,vU a0.2.1,vU a0.2.2.1,vU a0.2.2.2.1,vU a0.2.2.2.2.1,vU a0.2.2.2.2.2.1,vU a0.2.2.2.2.2.2.1,vU a0.2.2.2.2.2.2.2],[vU a1.1,vU a1.2.1,vU a1.2.2.1,vU a1.2.2.2.1,vU a1.2.2.2.2.1,vU a1.2.2.2.2.2.1,vU a1.2.2.2.2.2.2.1,vU a1.2.2.2.2.2.2.2],rfl,mk_A50 a0.1 a0.2.1 a0.2.2.1 a0.2.2.2.1 a0.2.2.2.2.1 a0.2.2.2.2.2.1 a0.2.2.2.2.2.2.1 a0.2.2.2.2.2.2.2,mk_A50 a1.1 a1.2.1 a1.2.2.1 a1.2.2.2.1 a1.2.2.2.2.1 a1.2.2.2.2.2.1 a1.2.2.2.2.2.2.1 a1.2.2.2.2.2.2.2⟩
theorem el40:ElT Tryz.prog 40 53 (Rep.size TShare) 128 (.agg zM) zL:=⟨Tryz.underlying40,by kernel_rfl,rfl,rfl,rfl,rfl⟩
theorem body34:bodyB Tryz.prog 34 = true:=by kernel_rfl
theorem body35:bodyB Tryz.prog 35 = true:=by kernel_rfl
def minority_Shares_1_l1 (n:Nat) (d0:List Tpart) (g0:Nat × (List TShare) → Option ((Except Tbroken (List TShare)) ⊕ (List TShare))):Nat × (List TShare) → Option ((Except Tbroken (List TShare)) ⊕ (List TShare))
  | (b0,c0)=>(if b0 < d0.length then (d0[b0]?).bind fun k0=>(minority_part_share_p n k0).bind fun q0=>exc q0 (fun s0=>(app c0 ([s0]:List TShare)).bind fun p0=>g0 (b0 + 1,p0)) (fun j0=>some (.inl (.error j0))) else some (.inr c0))
def minority_Shares_1_p (n:Nat) (a0:TRoll) (a1:List Int) (a2:Int) (a3:Int):Option (Except Tbroken (List TShare)):=
  (minority_grouped_p n a0 a1 a2 a3).bind fun y1=>exc y1 (fun d0=>thn (loopF (minority_Shares_1_l1 n d0) n (0,([]:List TShare))) (fun c0=>some (.ok c0))) (fun b0=>some (.error b0))
theorem minority_Shares_1_c (n:Nat) (L:List Nat) (w:World) (hL:∀ b ∈ L,b < w.heap.size) (a0:TRoll) {v0_3:Value} (h0_3:Rep.R w L [v0_3] a0.fu) {p0:Nat} (m0:∀ j9 v9,([vI a0.fj,vI a0.fh,vI a0.fl,v0_3]:List Value)[j9]? = some v9 → w.cell? ((⟨p0,0,none⟩:Addr).add j9) = some v9) (a1:List Int) {v1_0:Value} (h1_0:Rep.R w L [v1_0] a1) {p1:Nat} (m1:∀ j9 v9,([v1_0]:List Value)[j9]? = some v9 → w.cell? ((⟨p1,0,none⟩:Addr).add j9) = some v9) (a2:Int) {p2:Nat} (m2:∀ j9 v9,([vI a2]:List Value)[j9]? = some v9 → w.cell? ((⟨p2,0,none⟩:Addr).add j9) = some v9) (a3:Int) {p3:Nat} (m3:∀ j9 v9,([vI a3]:List Value)[j9]? = some v9 → w.cell? ((⟨p3,0,none⟩:Addr).add j9) = some v9)  {r:Except Tbroken (List TShare)} (h:minority_Shares_1_p n a0 a1 a2 a3 = some r) :
    Calls Tryz.prog 33 #[.pointer (some ⟨p0,0,none⟩),.pointer (some ⟨p1,0,none⟩),.pointer (some ⟨p2,0,none⟩),.pointer (some ⟨p3,0,none⟩)] w (PGives w (fun (y:List TShare) w' u=>∃ v0_0:Value,u = v0_0∧Rep.R w' L [v0_0] y) (fun e=>.iface 128 (.agg #[vI e.fB])) r):=by
 unfold minority_Shares_1_p at h
 have hS0:=Ay w
 refine BE Tryz.func33 rfl rfl rfl (fun _ cs0 hb0 hp0=>?_)
 refine Ac<|Af rfl<|Aa<|Aj<|Ac<|Ab (AA rfl (fun j9 v9 h9=>hS0.ag.cell0 (m0 j9 v9 h9)))<|AY rfl ((fun j9 v9 h9=>hS0.ag.cell0 (m1 j9 v9 h9)) 0 _ rfl)<|AY rfl ((fun j9 v9 h9=>hS0.ag.cell0 (m2 j9 v9 h9)) 0 _ rfl)<|AY rfl ((fun j9 v9 h9=>hS0.ag.cell0 (m3 j9 v9 h9)) 0 _ rfl) ?_
 obtain ⟨y1,hy1,h⟩:=bi h
 rcases y1 with W1 | u0
 have h:=exc_e h
 try dsimp only at h
 refine Bt (fst:=[]) (cap:=[]) .plain body34 rfl (e4 rfl rfl rfl rfl) (fun w9 hw9=>minority_grouped_c n _ w9 (hS0.hL hL hw9) a0 (Ap h0_3 hw9) a1 (Ap h1_0 hw9) a2 a3 hy1) (fun k2 Z0=>?_)
 obtain ⟨K0,Y1⟩:=hS0.agr Z0
 cases h
 exact AP hp0 Tryz.func33 ⟨K0.ag,rfl⟩
 have h:=exc_o h
 try dsimp only at h
 refine Bf (fst:=[]) (cap:=[]) .plain body34 rfl (e4 rfl rfl rfl rfl) (fun w9 hw9=>AK (minority_grouped_c n _ w9 (hS0.hL hL hw9) a0 (Ap h0_3 hw9) a1 (Ap h1_0 hw9) a2 a3 hy1)) rfl (fun I1 H1 c1 ⟨j2,hu_,y0⟩=>?_)
 subst hu_
 obtain ⟨z0,c2⟩:=hS0.agr c1
 have d2:u0.length ≤ 281474976710656:=AU y0
 refine Ab (Bd (xs:=u0) Tryz.underlying85 rfl y0)<|Ae rfl<|Aa<|Az ?_
 have A0:=z0.nilRow 53 (Rep.size TShare)
 have Y0:=St.nilRowT z0 53 (Rep.size TShare)
 have j1:=AH (cs:=[]) (xs:=([]:List TShare)) A0 L (AT _ _)
 obtain ⟨g2,z1,E0⟩:=thn_in h
 refine Bm (α:=Nat × (List TShare) × Value × (List Value)) (fun ⟨c0,g0,d0,j0⟩=>[(4,d0),(11,H1),(12,vI ((u0.length:Nat):Int)),(13,vI ((c0:Nat):Int))]) (fun ⟨c0,g0,d0,j0⟩ s0=>St w s0 [.row w.heap.size 53 (Rep.size TShare) d0 g0.length j0]∧Tr I1 [.row w.heap.size 53 (Rep.size TShare) vN (([]:List TShare).length) []] s0 [.row w.heap.size 53 (Rep.size TShare) d0 g0.length j0]∧Cells s0 (bl [.row w.heap.size 53 (Rep.size TShare) d0 g0.length j0] ++ L) j0 g0) (fun ⟨c0,g0,d0,j0⟩=>(c0,g0)) (0,([]:List TShare),vN,[]) z1 ⟨rfl,rfl,rfl,rfl,trivial⟩ ⟨A0,AQ _ _,j1⟩ ?_
 rintro P1 ⟨c0,g0,d0,j0⟩ s0 J0 ⟨q0,B0,D0⟩ h
 unfold minority_Shares_1_l1 at h
 try dsimp only at h
 refine Ac<|Ab (Br (i:=c0) (j:=u0.length) rfl rfl)<|Aa<|Aj<|AV rfl h (fun H0 h=>?_) (fun H0 h=>?_)
 refine Au<|Aj<|Az<|Ac ?_
 obtain ⟨t0,E1,h⟩:=bi h
 have u1:=Aq y0 (Tt Y0 B0)
 obtain ⟨M1,U1,k1,q1,V1,B1,s1⟩:=Bk u1 E1
 obtain rfl:=op_Tpart B1
 refine Ab (Bp 2 c0 rfl k1 rfl rfl q1)<|Ab (AA rfl s1)<|Ai .plain rfl (Ar [vI 0,vI 0] q0) (fun q2 Q1 M0 U0=>?_)
 refine AJ [vI t0.fF,vI t0.fall] M0 .hd (onesB rfl) (fun s2 k0 V0=>?_)
 refine Aa<|Ao<|Ae rfl<|Ab (AA rfl (k0.memA .hd)) ?_
 obtain ⟨K1,G0,h⟩:=bi h
 rcases K1 with X1 | b0
 have h:=exc_e h
 try dsimp only at h
 have h:=thn_inl h E0
 refine Bt (fst:=[]) (cap:=[]) .plain body35 rfl (e1 rfl) (fun w9 hw9=>minority_part_share_c n _ w9 (k0.hL0 hL hw9) t0 G0) (fun t2 b1=>?_)
 obtain ⟨P0,Z1⟩:=k0.agr b1
 cases h
 exact AP hp0 Tryz.func33 ⟨P0.ag,rfl⟩
 have h:=exc_o h
 try dsimp only at h
 refine Bg (.agg ((cs_TShare b0)).toArray) body35 rfl (e1 rfl) (fun w9 hw9=>AK (minority_part_share_c n _ w9 (k0.hL0 hL hw9) t0 G0)) rfl<|Ai .plain rfl (Ba (α:=TShare) (xs:=([b0]:List TShare)) (vs:=[.agg ((cs_TShare b0)).toArray]) (ds' :=(cs_TShare b0)) rfl k0 el40 rfl (e1 rfl) (by kernel_rfl) rfl) (fun u2 R1 v0 W0=>?_)
 have d1:=AH (cs:=(cs_TShare b0)) (xs:=(([b0]:List TShare):List TShare)) v0 L (Ax (cs:=(cs_TShare b0)) (ds:=[]) (mk_TShare b0.fN b0.fD) (AT _ _))
 obtain ⟨J1,F1,h⟩:=bi h
 have F0:=Tt U0 (Tt V0 W0)
 have v1:=AR D0 F0
 refine RG.doesL .plain rfl (DoesL.app (α:=TShare) (ys:=([b0]:List TShare)) F1 v0 (fun _ _=>(.tl (.tl .hd))) el40 rfl rfl v1 (Src.row (α:=TShare) v0 .hd d1)) (fun G1 v2 ⟨I0,Q0,X0,g1⟩=>?_)
 refine Af rfl<|Aa<|AB<|Ao<|Ab (Bl (i:=c0) (j:=1) rfl rfl (by omega))<|Ae rfl<|Aa ?_
 obtain ⟨R0,C0⟩:=AG Q0 (.one (.tl (.tl .hd)) .done)
 have x1:=AR g1 C0
 have A1:=Tt F0 (Tt X0 C0)
 exact J0 (c0 + 1,J1,G1,I0) _ _ ⟨rfl,rfl,rfl,rfl,trivial⟩ ⟨R0,(Tt B0 A1),x1⟩ h
 refine Be rfl ?_
 have h:=thn_inr h E0
 try dsimp only at h
 refine Ac<|Ae rfl<|Af rfl<|Aa<|Al rfl ?_
 have C1:=Bn (α:=TShare) q0 .hd D0 hL
 have x0:=Bw q0 .hd
 have b2:=Bx q0 .hd
 have D1:=By (α:=TShare) (v:=d0) (xs:=g0) x0 L C1
 refine Bb hb0 Tryz.func33 rfl rfl ?_
 cases h
 exact ⟨x0.ag,fun w9 hw9=>okOf_in ⟨d0,rfl,x0.kd D1 hw9⟩⟩
def tb76_6:List (Nat × Nat × Nat):=[(0,131072,32),(0,262144,8),(2,524288,262144),(1,0,131073),(15,0,524290)]
theorem body32:bodyB Tryz.prog 32 = true:=by kernel_rfl
theorem body33:bodyB Tryz.prog 33 = true:=by kernel_rfl
theorem body76:bodyB Tryz.prog 76 = true:=by kernel_rfl
def minority_Shares_p (n:Nat) (a0:TRoll) (a1:List Int) (a2:Int) (a3:Int):Option ((List TShare) × Int):=
  (minority_Shares_1_p n a0 a1 a2 a3).bind fun c0=>exc c0 (fun d0=>some (d0,(0:Int))) (fun b0=>some (([]:List TShare),b0.fB))
theorem minority_Shares_c (n:Nat) (L:List Nat) (w:World) (hL:∀ b ∈ L,b < w.heap.size) (a0:TRoll) {v0_3:Value} (h0_3:Rep.R w L [v0_3] a0.fu) (a1:List Int) {v1_0:Value} (h1_0:Rep.R w L [v1_0] a1) (a2:Int) (a3:Int)  {r:(List TShare) × Int} (h:minority_Shares_p n a0 a1 a2 a3 = some r) :
    Calls Tryz.prog 8 #[.agg #[vI a0.fj,vI a0.fh,vI a0.fl,v0_3],v1_0,vI a2,vI a3] w (Gives w fun w' u=>∃ v0_0:Value,u = .tuple #[v0_0,vI r.2]∧Rep.R w' L [v0_0] r.1):=by
 unfold minority_Shares_p at h
 have hS0:=Ay w
 refine AD Tryz.func8 rfl rfl rfl (fun _ cs0 hb0=>?_)
 refine Ac<|Ai .plain rfl (Av hS0 rfl rfl) (fun W1 g0 E0 G1=>?_)
 have u1:=AO h1_0 E0
 refine Ai .plain rfl (Av E0 rfl (Rep.c1 u1)) (fun c2 j0 R0 H1=>?_)
 refine Ai .plain rfl (Av R0 rfl rfl) (fun d2 k0 U0 I1=>?_)
 refine Ai .plain rfl (Av U0 rfl rfl) (fun g2 p0 V0 J1=>?_)
 refine Af rfl<|Af rfl<|Aa<|Ac<|Ab (BF (vs:=[]) (us:=[vP g0,vP j0,vP k0,vP p0]) evs_nil (e4 rfl rfl rfl rfl))<|Bj (fst:=[]) (cap:=[]) (vs:=[.func (.func 33) #[] #[vP g0,vP j0,vP k0,vP p0]]) .plain body32 Tryz.func32 rfl rfl rfl rfl (e1 rfl) rfl (fun C1 F0 U1=>?_)
 refine Ac<|Ai .plain rfl (Ar [vN] V0) (fun j2 q0 W0 K1=>?_)
 refine Ai .plain rfl (Ar [vI 0] W0) (fun k2 d0 b0 M1=>?_)
 refine Aa<|Ac<|Ab (BF (vs:=[]) (us:=[vP q0,vP d0]) evs_nil (e2 rfl rfl))<|RG.defer (fst:=[]) (cap:=[vP q0,vP d0]) (vs:=[]) rfl .plain rfl evs_nil<|Aa<|Ac<|Ae rfl ?_
 obtain ⟨z1,H0,h⟩:=bi h
 rcases z1 with s0 | s2
 have h:=exc_e h
 try dsimp only at h
 refine Bt (fst:=[]) (cap:=[vP g0,vP j0,vP k0,vP p0]) .plain body33 rfl evs_nil (fun w9 hw9=>minority_Shares_1_c n _ w9 (b0.hL hL hw9) a0 (b0.km h0_3 hw9) (fun j9 v9 h9=>hw9.cell0 ((b0.memA (.tl (.tl (.tl (.tl (.tl .hd)))))) j9 v9 h9)) a1 (b0.km h1_0 hw9) (fun j9 v9 h9=>hw9.cell0 ((b0.memA (.tl (.tl (.tl (.tl .hd))))) j9 v9 h9)) a2 (fun j9 v9 h9=>hw9.cell0 ((b0.memA (.tl (.tl (.tl .hd)))) j9 v9 h9)) a3 (fun j9 v9 h9=>hw9.cell0 ((b0.memA (.tl (.tl .hd))) j9 v9 h9)) H0) (fun p2 k1=>?_)
 obtain ⟨X0,P1⟩:=b0.agr k1
 refine PN.callD (vs:=[]) (cap:=[vP q0,vP d0]) body76 Tryz.func76 rfl rfl rfl (fun B1 p1 s1=>?_)
 refine Ac<|RG.recover1 .plain p1 rfl<|Af rfl<|Aa<|Ac<|Ae rfl<|Ab (FV.neqI Tryz.underlying20 rfl rfl)<|Aa<|Bh rfl<|Ac<|Ae rfl<|Ab (FV.assertT (by kernel_rfl) rfl)<|Ae rfl<|Ab (Ah rfl rfl)<|Ab (Ah rfl rfl)<|Ai .plain rfl (Ar [vI 0] X0) (fun q2 I0 Y0 Q1=>?_)
 refine AJ [vI s0.fB] Y0 .hd (o1 rfl) (fun x1 x0 R1=>?_)
 refine Af rfl<|Aa<|Aj<|Ac<|Ae rfl<|Ab (BG rfl)<|Aa<|BB rfl<|Au<|Ac<|Af rfl<|Aa<|dt 3 tb76_6 (fun c0 A0=>?_)
 refine Ag 0 1 c0 rfl A0 (fun _=>Ak rfl) rfl<|Ag 1 3 c0 rfl A0 (fun _=>AX 0 rfl) rfl<|RD.meet (α:=Unit) (fun ()=>[(1,vP d0),(19,vI s0.fB)]) (fun () C0=>St w C0 [.cells d0 [vI 0] 41,.cells q0 [vN] 40,.cells p0 [vI a3] 3,.cells k0 [vI a2] 3,.cells j0 [v1_0] 33,.cells g0 [vI a0.fj,vI a0.fh,vI a0.fl,v0_3] 38]∧Tr x1 [.cells I0 [vI s0.fB] 128,.cells d0 [vI 0] 41,.cells q0 [vN] 40,.cells p0 [vI a3] 3,.cells k0 [vI a2] 3,.cells j0 [v1_0] 33,.cells g0 [vI a0.fj,vI a0.fh,vI a0.fl,v0_3] 38] C0 [.cells d0 [vI 0] 41,.cells q0 [vN] 40,.cells p0 [vI a3] 3,.cells k0 [vI a2] 3,.cells j0 [v1_0] 33,.cells g0 [vI a0.fj,vI a0.fh,vI a0.fl,v0_3] 38]) 1 15 ?_ ?_
 rintro ⟨⟩ C0 ⟨J0,D1⟩
 try dsimp only
 refine Bq 4 31 c0 rfl rfl .plain (Aw (news:=[vI s0.fB]) J0 .hd rfl rfl rfl rfl rfl rfl (o1 rfl)) (fun X1 t0 E1=>?_)
 refine AE (dk c0)<|MX.fin rfl<|RT.leaveD1 s1 Tryz.func76 rfl .nil<|Am (u:=.tuple #[vN,vI s0.fB]) F0 Tryz.func32 rfl (.cons (.one (by kernel_rfl) rfl ((t0.memA (.tl .hd)) 0 _ rfl)) (.cons (.one (by kernel_rfl) rfl ((t0.memA .hd) 0 _ rfl)) .nil)) rfl<|Ab (Ah rfl rfl)<|Ab (Ah rfl rfl)<|Af rfl<|Af rfl<|Aa<|Al rfl ?_
 have v1:=Rep.nilAt (α:=TShare) t0 L
 refine Am hb0 Tryz.func8 rfl (.cons (.tmp rfl) (.cons (.tmp rfl) .nil)) rfl ?_
 cases h
 exact ⟨t0.ag,fun w9 hw9=>⟨vN,rfl,t0.kd v1 hw9⟩⟩
 intro D0
 refine BJ [2,3] (rk c0) ⟨?_,?_,trivial⟩
 refine BK (m' :=7) (sk c0) rfl .plain rfl (AL rfl ((x0.memA .hd) 0 _ rfl))<|Bq 3 15 c0 rfl rfl .plain (Aw (news:=[vN]) x0 (.tl (.tl .hd)) rfl rfl rfl rfl rfl rfl (o1 rfl)) (fun y1 v0 y0=>?_)
 obtain ⟨K0,Z0⟩:=AG v0 (.one (.tl .hd) (.one (.tl .hd) (.one (.tl .hd) (.one (.tl .hd) (.one (.tl .hd) (.one (.tl .hd) .done))))))
 exact D0 () _ _ ⟨rfl,rfl,trivial⟩ ⟨K0,(Tt y0 Z0)⟩
 refine RO.now (m' :=11) (sk c0) rfl rfl .plain (Aw (news:=[vN]) x0 (.tl (.tl .hd)) rfl rfl rfl rfl rfl rfl (o1 rfl)) (fun y1 v0 y0=>?_)
 refine AC 2 15 16 c0 rfl A0 (AL rfl ((v0.memA .hd) 0 _ rfl)) rfl ?_
 obtain ⟨M0,b1⟩:=AG v0 (.one (.tl .hd) (.one (.tl .hd) (.one (.tl .hd) (.one (.tl .hd) (.one (.tl .hd) (.one (.tl .hd) .done))))))
 exact D0 () _ _ ⟨rfl,rfl,trivial⟩ ⟨M0,(Tt y0 b1)⟩
 have h:=exc_o h
 try dsimp only at h
 refine Bf (fst:=[]) (cap:=[vP g0,vP j0,vP k0,vP p0]) .plain body33 rfl evs_nil (fun w9 hw9=>AK (minority_Shares_1_c n _ w9 (b0.hL hL hw9) a0 (b0.km h0_3 hw9) (fun j9 v9 h9=>hw9.cell0 ((b0.memA (.tl (.tl (.tl (.tl (.tl .hd)))))) j9 v9 h9)) a1 (b0.km h1_0 hw9) (fun j9 v9 h9=>hw9.cell0 ((b0.memA (.tl (.tl (.tl (.tl .hd))))) j9 v9 h9)) a2 (fun j9 v9 h9=>hw9.cell0 ((b0.memA (.tl (.tl (.tl .hd)))) j9 v9 h9)) a3 (fun j9 v9 h9=>hw9.cell0 ((b0.memA (.tl (.tl .hd))) j9 v9 h9)) H0)) rfl (fun Y1 B0 j1 ⟨V1,hu_,z0⟩=>?_)
 subst hu_
 obtain ⟨P0,F1⟩:=b0.agr j1
 refine BH .plain (Aw (news:=[B0]) P0 (.tl .hd) rfl rfl rfl (Rep.c1 z0) rfl rfl (o1 (AN z0))) (fun Z1 Q0 d1=>?_)
 refine AJ [vI 0] Q0 .hd (o1 rfl) (fun b2 u0 g1=>?_)
 refine Aa<|Al rfl<|RT.callD (vs:=[]) (cap:=[vP q0,vP d0]) body76 Tryz.func76 rfl rfl rfl (fun A1 G0 q1=>?_)
 refine Ac<|RG.recover0 .plain G0 rfl<|Af rfl<|Aa<|Ac<|Ae rfl<|Ab (FV.neqI0 Tryz.underlying20 rfl rfl)<|Aa<|BB rfl<|Au<|MX.fin rfl<|RT.leaveD0 G0 q1 Tryz.func76 rfl .nil<|Am (u:=.tuple #[B0,vI 0]) F0 Tryz.func32 rfl (.cons (.one (by kernel_rfl) rfl ((u0.memA (.tl .hd)) 0 _ rfl)) (.cons (.one (by kernel_rfl) rfl ((u0.memA .hd) 0 _ rfl)) .nil)) rfl<|Ab (Ah rfl rfl)<|Ab (Ah rfl rfl)<|Af rfl<|Af rfl<|Aa<|Al rfl<|Am hb0 Tryz.func8 rfl (.cons (.tmp rfl) (.cons (.tmp rfl) .nil)) rfl ?_
 cases h
 have t1:=Aq z0 (Tt d1 g1)
 exact ⟨u0.ag,fun w9 hw9=>⟨B0,rfl,u0.kd t1 hw9⟩⟩
def wardmotelaw29_of_p (n:Nat) (a0:Int) (a1:Int):Option TShare:=
  (share_Of_p n a0 a1).bind fun b0=>some b0.1
theorem wardmotelaw29_of_c (n:Nat) (L:List Nat) (w:World) (hL:∀ b ∈ L,b < w.heap.size) (a0:Int) (a1:Int)  {r:TShare} (h:wardmotelaw29_of_p n a0 a1 = some r) :
    Calls Tryz.prog 10 #[vI a0,vI a1] w (Gives w fun _ u=>u = .agg ((cs_TShare r)).toArray):=by
 unfold wardmotelaw29_of_p at h
 have hS0:=Ay w
 refine AD Tryz.func10 rfl rfl rfl (fun _ cs0 hb0=>?_)
 refine Ac<|Ai .plain rfl (Ar zL hS0) (fun x0 p0 c0 s0=>?_)
 refine Aa<|Ac<|Ae rfl<|Ae rfl ?_
 obtain ⟨b0,k0,h⟩:=bi h
 refine Bg (.tuple #[.agg ((cs_TShare b0.1)).toArray,vI b0.2]) body40 rfl (e2 rfl rfl) (fun w9 hw9=>share_Of_c n _ w9 (c0.hL0 hL hw9) a0 a1 k0) rfl<|Ae rfl<|Ab (Ah rfl rfl)<|Ab (Ah rfl rfl)<|Ai .plain rfl (Ar zL c0) (fun y0 q0 j0 t0=>?_)
 refine AJ (cs_TShare b0.1) j0 .hd (onesB rfl) (fun z0 d0 u0=>?_)
 refine Af rfl<|Aa<|Ac<|Ab (AA rfl (d0.memA .hd))<|AJ (cs_TShare b0.1) d0 (.tl .hd) (onesB rfl) (fun A0 g0 v0=>?_)
 refine Aa<|Al rfl<|Am hb0 Tryz.func10 rfl (.cons (.many (cs:=(cs_TShare b0.1)) (by kernel_rfl) rfl (g0.memA (.tl .hd))) .nil) rfl ?_
 cases h
 exact g0.gv
def wide_From_p (n:Nat) (a0:Int):Option TLong:=
  (wide_Of_p n a0).bind fun b0=>(wide_Longer_p n b0).bind fun c0=>some c0
theorem wide_From_c (n:Nat) (L:List Nat) (w:World) (hL:∀ b ∈ L,b < w.heap.size) (a0:Int)  {r:TLong} (h:wide_From_p n a0 = some r) :
    Calls Tryz.prog 94 #[vI a0] w (Gives w fun w' u=>∃ v0_1:Value,u = .agg #[.bool r.fe,v0_1]∧Rep.R w' L [v0_1] r.fo):=by
 unfold wide_From_p at h
 have hS0:=Ay w
 refine AD Tryz.func94 rfl rfl rfl (fun _ cs0 hb0=>?_)
 refine Ac<|Ai .plain rfl (Ar [.bool false,vN] hS0) (fun B0 x0 b0 y0=>?_)
 refine Aa<|Ac<|Ae rfl ?_
 obtain ⟨j0,u0,h⟩:=bi h
 refine Bg (.agg ((cs_A50 j0)).toArray) body85 rfl (e1 rfl) (fun w9 hw9=>wide_Of_c n _ w9 (b0.hL0 hL hw9) a0 u0) rfl ?_
 obtain ⟨k0,v0,h⟩:=bi h
 refine Bf (fst:=[]) (cap:=[]) .plain body114 rfl (e1 rfl) (fun w9 hw9=>wide_Longer_c n _ w9 (b0.hL hL hw9) j0 v0) rfl (fun C0 A0 s0 ⟨d0,hu_,g0⟩=>?_)
 subst hu_
 obtain ⟨p0,z0⟩:=b0.agr s0
 refine AJ [.bool k0.fe,d0] p0 .hd (o2 rfl (AN g0)) (fun D0 c0 q0=>?_)
 refine Aa<|Al rfl<|Am hb0 Tryz.func94 rfl (.cons (.many (cs:=[.bool k0.fe,d0]) (by kernel_rfl) rfl (c0.memA .hd)) .nil) rfl ?_
 cases h
 have t0:=Aq g0 q0
 exact ⟨c0.ag,fun w9 hw9=>⟨d0,rfl,c0.kd t0 hw9⟩⟩
def tb95_1:List (Nat × Nat × Nat):=[(0,8,2),(1,16,8),(2,32,16),(0,64,2),(8,128,64),(20,256,128),(36,512,288),(127,0,516)]
def share_Read_p (n:Nat) (a0:TShare):Option TRatio:=
  (wide_Longer_p n a0.fN).bind fun b0=>(wide_Longer_p n a0.fD).bind fun c0=>some (⟨b0,c0⟩:TRatio)
theorem share_Read_c (n:Nat) (L:List Nat) (w:World) (hL:∀ b ∈ L,b < w.heap.size) (a0:TShare)  {r:TRatio} (h:share_Read_p n a0 = some r) :
    Calls Tryz.prog 95 #[.agg ((cs_TShare a0)).toArray] w (Gives w fun w' u=>∃ v0_1 v0_3:Value,u = .agg #[.bool r.ft.fe,v0_1,.bool r.fp.fe,v0_3]∧Rep.R w' L [v0_1] r.ft.fo∧Rep.R w' L [v0_3] r.fp.fo):=by
 unfold share_Read_p at h
 have hS0:=Ay w
 refine AD Tryz.func95 rfl rfl rfl (fun _ cs0 hb0=>?_)
 refine Ac<|Ai .plain rfl (Av hS0 rfl rfl) (fun Z0 M0 z0 U0=>?_)
 refine Ai .plain rfl (Ar [.bool false,vN,.bool false,vN] z0) (fun b1 P0 j0 V0=>?_)
 refine Aa<|Aj<|dt 7 tb95_1 (fun b0 c0=>?_)
 refine Ag 0 1 b0 rfl c0 (fun _=>AX 0 rfl) rfl<|AC 1 3 228 b0 rfl c0 (Bc (cs:=(cs_A50 a0.fN)) (by kernel_rfl) rfl (mem_part (j0.memA (.tl .hd)) 0 8)) rfl<|Ag 3 11 b0 rfl c0 (fun _=>AX 8 rfl) rfl<|AC 4 27 224 b0 rfl c0 (Bc (cs:=(cs_A50 a0.fD)) (by kernel_rfl) rfl (mem_part (j0.memA (.tl .hd)) 8 8)) rfl ?_
 obtain ⟨p0,H0,h⟩:=bi h
 refine Bu 2 31 b0 rfl .plain body114 rfl (e1 rfl) (fun w9 hw9=>wide_Longer_c n _ w9 (j0.hL hL hw9) a0.fN H0) rfl (fun c1 X0 B0 ⟨d0,hu_,y0⟩=>?_)
 subst hu_
 obtain ⟨t0,W0⟩:=j0.agr B0
 obtain ⟨q0,I0,h⟩:=bi h
 refine Bu 5 63 b0 rfl .plain body114 rfl (e1 rfl) (fun w9 hw9=>wide_Longer_c n _ w9 (t0.hL hL hw9) a0.fD I0) rfl (fun d1 Y0 C0 ⟨g0,hu_,s0⟩=>?_)
 subst hu_
 obtain ⟨A0,u0⟩:=t0.agr C0
 have x0:=Aq y0 u0
 obtain ⟨J0,Q0,F0,_⟩:=Rep.sl x0
 obtain ⟨K0,R0,G0,_⟩:=Rep.sl s0
 refine Ag 6 127 b0 rfl c0 (fun _=>AM (vs:=[.agg #[.bool p0.fe,d0],.agg #[.bool q0.fe,g0]]) (u:=.agg #[.bool p0.fe,d0,.bool q0.fe,g0]) (e2 rfl rfl) (fun w9=>by rw [F0,G0]; try kernel_rfl)) rfl<|Bq 7 255 b0 rfl rfl .plain (Aw (news:=[.bool p0.fe,d0,.bool q0.fe,g0]) A0 .hd rfl rfl rfl rfl rfl rfl (o4 rfl (AN x0) rfl (AN s0))) (fun g1 k0 v0=>?_)
 refine AE (dk b0)<|Al rfl<|Am hb0 Tryz.func95 rfl (.cons (.many (cs:=[.bool p0.fe,d0,.bool q0.fe,g0]) (by kernel_rfl) rfl (k0.memA .hd)) .nil) rfl ?_
 cases h
 have D0:=Aq y0 (Tt u0 v0)
 have E0:=Aq s0 v0
 exact ⟨k0.ag,fun w9 hw9=>⟨d0,g0,rfl,k0.kd D0 hw9,k0.kd E0 hw9⟩⟩
def wide_Long_Side_p (_n:Nat) (a0:TLong):Option Int:=
  (if a0.fe = true then some (-1:Int) else (if a0.fo.length = 0 then some (0:Int) else some (1:Int)))
theorem wide_Long_Side_c (n:Nat) (L:List Nat) (w:World) (_hL:∀ b ∈ L,b < w.heap.size) (a0:TLong) {v0_1:Value} (h0_1:Rep.R w L [v0_1] a0.fo)  {r:Int} (h:wide_Long_Side_p n a0 = some r) :
    Calls Tryz.prog 96 #[.agg #[.bool a0.fe,v0_1]] w (Gives w fun _ u=>u = vI r):=by
 unfold wide_Long_Side_p at h
 have hS0:=Ay w
 refine AD Tryz.func96 rfl rfl rfl (fun _ cs0 hb0=>?_)
 refine Ac<|Ai .plain rfl (Av hS0 rfl rfl) (fun q0 j0 b0 k0=>?_)
 refine Af rfl<|Aa<|Aj<|Az<|Ac<|AZ 0 rfl<|AY rfl ((b0.memA .hd) 0 _ rfl)<|Af rfl<|Aa<|MX.ifb rfl h (fun d0 h=>?_) (fun d0 h=>?_)
 refine Ac<|Af rfl<|Aa<|Al rfl<|Bb hb0 Tryz.func96 rfl rfl ?_
 cases h
 exact b0.gv
 refine Ac<|AZ 1 rfl<|AY rfl ((b0.memA .hd) 1 _ rfl) ?_
 have c0:=AO h0_1 b0
 have p0:a0.fo.length ≤ 281474976710656:=AU c0
 refine Ab (Bd (xs:=a0.fo) Tryz.underlying142 rfl c0)<|Ab (FV.eqlN (i:=a0.fo.length) (j:=0) rfl rfl)<|Af rfl<|Aa<|AV rfl h (fun g0 h=>?_) (fun g0 h=>?_)
 refine Ac<|Af rfl<|Aa<|Al rfl<|Bb hb0 Tryz.func96 rfl rfl ?_
 cases h
 exact b0.gv
 refine Au<|AB<|Ac<|Af rfl<|Aa<|Al rfl<|Bb hb0 Tryz.func96 rfl rfl ?_
 cases h
 exact b0.gv
def tb122_1:List (Nat × Nat × Nat):=[(0,32,4),(0,64,8),(2,128,64),(5,256,160),(15,0,272)]
def wide_Long_Minus_p (n:Nat) (a0:TLong) (a1:TLong):Option TLong:=
  (wide_Long_Turned_p n a1).bind fun b0=>(wide_Long_Plus_p n a0 b0).bind fun c0=>some c0
theorem wide_Long_Minus_c (n:Nat) (L:List Nat) (w:World) (hL:∀ b ∈ L,b < w.heap.size) (a0:TLong) {v0_1:Value} (h0_1:Rep.R w L [v0_1] a0.fo) (a1:TLong) {v1_1:Value} (h1_1:Rep.R w L [v1_1] a1.fo)  {r:TLong} (h:wide_Long_Minus_p n a0 a1 = some r) :
    Calls Tryz.prog 122 #[.agg #[.bool a0.fe,v0_1],.agg #[.bool a1.fe,v1_1]] w (Gives w fun w' u=>∃ v0_1:Value,u = .agg #[.bool r.fe,v0_1]∧Rep.R w' L [v0_1] r.fo):=by
 unfold wide_Long_Minus_p at h
 have hS0:=Ay w
 refine AD Tryz.func122 rfl rfl rfl (fun _ cs0 hb0=>?_)
 refine Ac<|Ai .plain rfl (Av hS0 rfl rfl) (fun U0 E0 s0 H0=>?_)
 refine Ai .plain rfl (Av s0 rfl rfl) (fun V0 F0 t0 I0=>?_)
 refine Ai .plain rfl (Ar [.bool false,vN] t0) (fun W0 G0 c0 J0=>?_)
 refine Aa<|Aj<|dt 4 tb122_1 (fun b0 p0=>?_)
 refine AC 0 1 24 b0 rfl p0 (AA rfl (c0.memA (.tl (.tl .hd)))) rfl<|AC 1 3 28 b0 rfl p0 (AA rfl (c0.memA (.tl .hd))) rfl ?_
 obtain ⟨D0,B0,h⟩:=bi h
 refine Bu 2 7 b0 rfl .plain body124 rfl (e1 rfl) (fun w9 hw9=>wide_Long_Turned_c n _ w9 (c0.hL hL hw9) a1 (c0.km h1_1 hw9) B0) rfl (fun X0 Q0 x0 ⟨P0,hu_,A0⟩=>?_)
 subst hu_
 obtain ⟨d0,K0⟩:=c0.agr x0
 obtain ⟨q0,C0,h⟩:=bi h
 refine Bu 3 15 b0 rfl .plain body118 rfl (e2 rfl rfl) (fun w9 hw9=>wide_Long_Plus_c n _ w9 (d0.hL hL hw9) a0 (d0.km h0_1 hw9) D0 (Ap A0 hw9) C0) rfl (fun Y0 R0 y0 ⟨j0,hu_,k0⟩=>?_)
 subst hu_
 obtain ⟨u0,M0⟩:=d0.agr y0
 refine Bq 4 31 b0 rfl rfl .plain (Aw (news:=[.bool q0.fe,j0]) u0 .hd rfl rfl rfl rfl rfl rfl (o2 rfl (AN k0))) (fun Z0 g0 v0=>?_)
 refine AE (dk b0)<|Al rfl<|Am hb0 Tryz.func122 rfl (.cons (.many (cs:=[.bool q0.fe,j0]) (by kernel_rfl) rfl (g0.memA .hd)) .nil) rfl ?_
 cases h
 have z0:=Aq k0 v0
 exact ⟨g0.ag,fun w9 hw9=>⟨j0,rfl,g0.kd z0 hw9⟩⟩
theorem body96:bodyB Tryz.prog 96 = true:=by kernel_rfl
theorem body122:bodyB Tryz.prog 122 = true:=by kernel_rfl
def wide_Long_Cmp_p (n:Nat) (a0:TLong) (a1:TLong):Option Int:=
  (wide_Long_Minus_p n a0 a1).bind fun b0=>(wide_Long_Side_p n b0).bind fun c0=>some c0
theorem wide_Long_Cmp_c (n:Nat) (L:List Nat) (w:World) (hL:∀ b ∈ L,b < w.heap.size) (a0:TLong) {v0_1:Value} (h0_1:Rep.R w L [v0_1] a0.fo) (a1:TLong) {v1_1:Value} (h1_1:Rep.R w L [v1_1] a1.fo)  {r:Int} (h:wide_Long_Cmp_p n a0 a1 = some r) :
    Calls Tryz.prog 98 #[.agg #[.bool a0.fe,v0_1],.agg #[.bool a1.fe,v1_1]] w (Gives w fun _ u=>u = vI r):=by
 unfold wide_Long_Cmp_p at h
 have hS0:=Ay w
 refine AD Tryz.func98 rfl rfl rfl (fun _ cs0 hb0=>?_)
 refine Ac<|Ai .plain rfl (Av hS0 rfl rfl) (fun B0 t0 d0 v0=>?_)
 refine Ai .plain rfl (Av d0 rfl rfl) (fun C0 u0 b0 x0=>?_)
 refine Af rfl<|Aa<|Ac<|Ab (AA rfl (b0.memA (.tl .hd)))<|Ab (AA rfl (b0.memA .hd)) ?_
 obtain ⟨q0,k0,h⟩:=bi h
 refine Bf (fst:=[]) (cap:=[]) .plain body122 rfl (e2 rfl rfl) (fun w9 hw9=>wide_Long_Minus_c n _ w9 (b0.hL hL hw9) a0 (b0.km h0_1 hw9) a1 (b0.km h1_1 hw9) k0) rfl (fun D0 A0 g0 ⟨z0,hu_,j0⟩=>?_)
 subst hu_
 obtain ⟨c0,y0⟩:=b0.agr g0
 obtain ⟨s0,p0,h⟩:=bi h
 refine Bg (vI s0) body96 rfl (e1 rfl) (fun w9 hw9=>wide_Long_Side_c n _ w9 (c0.hL0 hL hw9) q0 (c0.kd j0 hw9) p0) rfl<|Af rfl<|Aa<|Al rfl<|Bb hb0 Tryz.func98 rfl rfl ?_
 cases h
 exact c0.gv
def tb49_3:List (Nat × Nat × Nat):=[(0,256,16),(1,512,256),(2,1024,512),(4,2048,1024),(12,4096,2048),(16,8192,4112),(48,16384,12288),(16,32768,4112),(144,65536,36864),(336,131072,86016),(16,262144,4104),(1552,524288,397312),(2064,1048576,528384),(4112,2097152,1052672)]
theorem body94:bodyB Tryz.prog 94 = true:=by kernel_rfl
theorem body95:bodyB Tryz.prog 95 = true:=by kernel_rfl
theorem body98:bodyB Tryz.prog 98 = true:=by kernel_rfl
def share_Check_p (n:Nat) (a0:TShare):Option Int:=
  (wide_From_p n (1:Int)).bind fun c0=>(share_Read_p n a0).bind fun b0=>(wide_Long_Side_p n b0.fp).bind fun d0=>(if d0 ≤ 0 then some (20:Int) else (wide_Long_Common_p n b0.ft b0.fp).bind fun g0=>(wide_Long_Cmp_p n g0 c0).bind fun j0=>(if j0 = 0 then some (0:Int) else some (20:Int)))
theorem share_Check_c (n:Nat) (L:List Nat) (w:World) (hL:∀ b ∈ L,b < w.heap.size) (a0:TShare)  {r:Int} (h:share_Check_p n a0 = some r) :
    Calls Tryz.prog 49 #[.agg ((cs_TShare a0)).toArray] w (Gives w fun _ u=>u = vI r):=by
 unfold share_Check_p at h
 have hS0:=Ay w
 refine AD Tryz.func49 rfl rfl rfl (fun _ cs0 hb0=>?_)
 refine Ac<|Ai .plain rfl (Av hS0 rfl rfl) (fun E1 u1 t0 y1=>?_)
 refine Af rfl<|Aa<|Ac ?_
 obtain ⟨B0,d1,h⟩:=bi h
 refine Bf (fst:=[]) (cap:=[]) .plain body94 rfl (e1 rfl) (fun w9 hw9=>wide_From_c n _ w9 (t0.hL hL hw9) (1:Int) d1) rfl (fun F1 B1 Q0 ⟨q1,hu_,x0⟩=>?_)
 subst hu_
 obtain ⟨G0,z1⟩:=t0.agr Q0
 refine Ai .plain rfl (Ar [.bool false,vN] G0) (fun G1 v1 H0 u0=>?_)
 have V0:=Aq x0 u0
 refine AJ [.bool B0.fe,q1] H0 .hd (o2 rfl (AN V0)) (fun H1 p0 K0=>?_)
 refine Aa<|Ac<|Ab (AA rfl (p0.memA (.tl .hd))) ?_
 obtain ⟨g0,g1,h⟩:=bi h
 refine Bf (fst:=[]) (cap:=[]) .plain body95 rfl (e1 rfl) (fun w9 hw9=>share_Read_c n _ w9 (p0.hL hL hw9) a0 g1) rfl (fun I1 C1 R0 ⟨A0,s0,hu_,y0,z0⟩=>?_)
 subst hu_
 obtain ⟨I0,M0⟩:=p0.agr R0
 refine Ai .plain rfl (Ar [.bool false,vN,.bool false,vN] I0) (fun J1 x1 J0 k0=>?_)
 have W0:=Aq y0 k0
 have X0:=Aq z0 k0
 refine AJ [.bool g0.ft.fe,A0,.bool g0.fp.fe,s0] J0 .hd (o4 rfl (AN W0) rfl (AN X0)) (fun K1 d0 q0=>?_)
 refine Aa<|Aj<|Aj<|dt 14 tb49_3 (fun b0 c0=>?_)
 refine Ag 0 1 b0 rfl c0 (fun _=>AX 2 rfl) rfl<|AC 1 3 16380 b0 rfl c0 (Bc (cs:=[.bool g0.fp.fe,s0]) (by kernel_rfl) rfl (mem_part (d0.memA .hd) 2 2)) rfl ?_
 obtain ⟨C0,j1,h⟩:=bi h
 have v0:=Aq z0 (Tt k0 q0)
 refine BA 2 7 16376 (vI C0) b0 rfl c0 body96 rfl (e1 rfl) (fun w9 hw9=>wide_Long_Side_c n _ w9 (d0.hL0 hL hw9) g0.fp (d0.kd v0 hw9) j1) rfl<|Ag 3 15 b0 rfl c0 (fun _=>FV.leq (i:=C0) (j:=0) rfl rfl) rfl<|Ag 4 31 b0 rfl c0 (fun _=>Ak rfl) rfl<|RD.ifd (s:=12) rfl h (fun E0 h=>?_) (fun E0 h=>?_)
 refine Bz 8191 1 [(5,13),(6,14),(7,15),(8,16),(9,17),(10,18),(11,19),(12,20)] (F:=[(12,true)]) (U:=[]) b0 c0 (.cons rfl .nil) .nil ?_
 dsimp only [offS,List.map]
 refine Ag 13 16383 b0 rfl c0 (fun _=>BL rfl rfl) rfl<|AE (dk b0)<|Bh rfl<|Ac<|Af rfl<|Aa<|Al rfl<|Bb hb0 Tryz.func49 rfl rfl ?_
 cases h
 exact d0.gv
 refine RD.vP 5 63 b0 rfl c0 (.yes rfl rfl) (fun _=>AX 0 rfl) rfl<|RD.val (i:=6) (m' :=127) (W:=14848) (tk b0) rfl c0 (.yes rfl rfl) (Bc (cs:=[.bool g0.ft.fe,A0]) (by kernel_rfl) rfl (mem_part (d0.memA .hd) 0 2)) rfl<|RD.vP 7 255 b0 rfl c0 (.yes rfl rfl) (fun _=>AX 2 rfl) rfl<|RD.val (i:=8) (m' :=511) (W:=14848) (tk b0) rfl c0 (.yes rfl rfl) (Bc (cs:=[.bool g0.fp.fe,s0]) (by kernel_rfl) rfl (mem_part (d0.memA .hd) 2 2)) rfl<|RD.val (i:=10) (m' :=1535) (W:=14336) (tk b0) rfl c0 (.yes rfl rfl) (AA rfl (d0.memA (.tl .hd))) rfl ?_
 obtain ⟨s1,k1,h⟩:=bi h
 have Y0:=Aq y0 (Tt k0 q0)
 refine Bu 9 2047 b0 rfl (.yes rfl rfl) body97 rfl (e2 rfl rfl) (fun w9 hw9=>wide_Long_Common_c n _ w9 (d0.hL hL hw9) g0.ft (Ap Y0 hw9) g0.fp (Ap v0 hw9) k1) rfl (fun M1 D1 U0 ⟨A1,hu_,c1⟩=>?_)
 subst hu_
 obtain ⟨j0,P0⟩:=d0.agr U0
 obtain ⟨D0,p1,h⟩:=bi h
 have b1:=Tt u0 (Tt K0 (Tt M0 (Tt k0 (Tt q0 P0))))
 have Z0:=Aq x0 b1
 refine RD.callq (i:=11) (m' :=4095) (W:=12288) (tk b0) rfl c0 (v:=vI D0) (fst:=[]) (cap:=[]) (.yes rfl rfl) body98 rfl (e2 rfl rfl) (fun w9 hw9=>wide_Long_Cmp_c n _ w9 (j0.hL0 hL hw9) s1 (j0.kd c1 hw9) B0 (j0.kd Z0 hw9) p1) rfl<|RD.vP 12 8191 b0 rfl c0 (.yes rfl rfl) (fun _=>FV.neq (i:=D0) (j:=0) rfl rfl) rfl<|Ag 13 16383 b0 rfl c0 (fun _=>Bs rfl rfl) rfl<|AE (dk b0)<|MX.ifn rfl h (fun F0 h=>?_) (fun F0 h=>?_)
 refine Au<|Ac<|Af rfl<|Aa<|Al rfl<|Bb hb0 Tryz.func49 rfl rfl ?_
 cases h
 exact j0.gv
 refine Ac<|Af rfl<|Aa<|Al rfl<|Bb hb0 Tryz.func49 rfl rfl ?_
 cases h
 exact j0.gv
theorem body49:bodyB Tryz.prog 49 = true:=by kernel_rfl
def share_valid_1_p (n:Nat) (a0:TShare):Option Bool:=
  (share_Check_p n a0).bind fun b0=>some (decide (b0 = 0))
theorem share_valid_1_c (n:Nat) (L:List Nat) (w:World) (hL:∀ b ∈ L,b < w.heap.size) (a0:TShare)  {r:Bool} (h:share_valid_1_p n a0 = some r) :
    Calls Tryz.prog 135 #[.agg ((cs_TShare a0)).toArray] w (Gives w fun _ u=>u = .bool r):=by
 unfold share_valid_1_p at h
 have hS0:=Ay w
 refine AD Tryz.func135 rfl rfl rfl (fun _ cs0 hb0=>?_)
 refine Ac<|Ai .plain rfl (Av hS0 rfl rfl) (fun k0 g0 b0 j0=>?_)
 refine Af rfl<|Aa<|Ac<|Ab (AA rfl (b0.memA .hd)) ?_
 obtain ⟨c0,d0,h⟩:=bi h
 refine Bg (vI c0) body49 rfl (e1 rfl) (fun w9 hw9=>share_Check_c n _ w9 (b0.hL0 hL hw9) a0 d0) rfl<|Ab (FV.eql (i:=c0) (j:=0) rfl rfl)<|Af rfl<|Aa<|Al rfl<|Bb hb0 Tryz.func135 rfl rfl ?_
 cases h
 exact b0.gv
theorem body135:bodyB Tryz.prog 135 = true:=by kernel_rfl
theorem body136:bodyB Tryz.prog 136 = true:=by kernel_rfl
def share_valid_l1 (n:Nat) (a0:List TShare) (c0:Nat → Option (Bool ⊕ Unit)):Nat → Option (Bool ⊕ Unit)
  | b0=>(if b0 < a0.length then (a0[b0]?).bind fun d0=>(share_valid_1_p n d0).bind fun g0=>(if g0 = true then c0 (b0 + 1) else some (.inl false)) else some (.inr ()))
def share_valid_p (n:Nat) (a0:List TShare):Option Bool:=
  thn (loopF (share_valid_l1 n a0) n 0) (fun _=>some true)
theorem share_valid_c (n:Nat) (L:List Nat) (w:World) (hL:∀ b ∈ L,b < w.heap.size) (a0:List TShare) {v0_0:Value} (h0_0:Rep.R w L [v0_0] a0)  {r:Bool} (h:share_valid_p n a0 = some r) :
    Calls Tryz.prog 116 #[v0_0] w (Gives w fun _ u=>u = .bool r):=by
 unfold share_valid_p at h
 have hS0:=Ay w
 refine AD Tryz.func116 rfl rfl rfl (fun _ cs0 hb0=>?_)
 refine Ac<|Af rfl<|Aa<|Ac<|Af rfl<|Aa<|Ac<|Ae rfl<|Ae rfl<|Bj (fst:=[]) (cap:=[]) (vs:=[.func (.func 135) #[] #[],v0_0]) .plain body136 Tryz.func136 rfl rfl rfl rfl (e2 rfl rfl) rfl (fun cs2 hb1 hp3=>?_)
 refine Ac<|Af rfl<|Aa<|Aj<|Ac<|Ae rfl ?_
 have hl4:a0.length ≤ 281474976710656:=AU h0_0
 refine Ab (Bd (xs:=a0) Tryz.underlying40 rfl h0_0)<|Ae rfl<|Aa<|Az ?_
 obtain ⟨U0,E0,j0⟩:=thn_in h
 refine Bm (α:=Nat) (fun b0=>[(0,.func (.func 135) #[] #[]),(7,v0_0),(8,vI ((a0.length:Nat):Int)),(9,vI ((b0:Nat):Int))]) (fun b0 g0=>St w g0 []∧Tr w [] g0 []) (fun b0=>b0) 0 E0 ⟨rfl,rfl,rfl,rfl,trivial⟩ ⟨hS0,AQ _ _⟩ ?_
 rintro M0 b0 g0 s0 ⟨d0,v0⟩ h
 unfold share_valid_l1 at h
 try dsimp only at h
 refine Ac<|Ab (Br (i:=b0) (j:=a0.length) rfl rfl)<|Aa<|Aj<|AV rfl h (fun p0 h=>?_) (fun p0 h=>?_)
 refine Au<|Aj<|Az<|Ac ?_
 obtain ⟨k0,H0,h⟩:=bi h
 have D0:=AO h0_0 d0
 obtain ⟨K0,Q0,A0,B0,R0,G0,C0⟩:=Bk D0 H0
 obtain rfl:=op_TShare G0
 refine Ab (Bp 16 b0 rfl A0 rfl rfl B0)<|Ab (AA rfl C0)<|Ai .plain rfl (Ar zL d0) (fun V0 P0 t0 x0=>?_)
 refine AJ (cs_TShare k0) t0 .hd (onesB rfl) (fun W0 c0 y0=>?_)
 refine Aa<|Ac<|Ae rfl<|Ab (AA rfl (c0.memA .hd)) ?_
 obtain ⟨J0,I0,h⟩:=bi h
 refine Bg (.bool J0) body135 rfl (e1 rfl) (fun w9 hw9=>share_valid_1_c n _ w9 (c0.hL0 hL hw9) k0 I0) rfl<|Ab (BG rfl)<|Aa<|MX.ifnb rfl h (fun q0 h=>?_) (fun q0 h=>?_)
 refine Au<|AB<|Ao<|Ab (Bl (i:=b0) (j:=1) rfl rfl (by omega))<|Ae rfl<|Aa ?_
 obtain ⟨u0,z0⟩:=AG c0 .done
 have F0:=Tt x0 (Tt y0 z0)
 exact s0 (b0 + 1) _ _ ⟨rfl,rfl,rfl,rfl,trivial⟩ ⟨u0,(Tt v0 F0)⟩ h
 refine Ac<|Af rfl<|Aa ?_
 have h:=thn_inl h j0
 refine Al rfl<|Am (u:=.bool false) hb1 Tryz.func136 rfl (.cons (.tmp rfl) .nil) rfl<|Af rfl<|Aa<|Al rfl<|Bb hb0 Tryz.func116 rfl rfl ?_
 cases h
 exact c0.gv
 refine Be rfl ?_
 have h:=thn_inr h j0
 try dsimp only at h
 refine Ac<|Af rfl<|Aa<|Al rfl<|Am (u:=.bool true) hb1 Tryz.func136 rfl (.cons (.tmp rfl) .nil) rfl<|Af rfl<|Aa<|Al rfl<|Bb hb0 Tryz.func116 rfl rfl ?_
 cases h
 exact d0.gv
def math_bits_Mul64_p (_n:Nat) (a0:UInt64) (a1:UInt64):Option (UInt64 × UInt64):=
  (some (((shrU a0 32) * (a1 &&& (4294967295:UInt64))) + (shrU ((a0 &&& (4294967295:UInt64)) * (a1 &&& (4294967295:UInt64))) 32))).bind fun u1=>(some (shrU ((u1 &&& (4294967295:UInt64)) + ((a0 &&& (4294967295:UInt64)) * (shrU a1 32))) 32)).bind fun u2=>some ((((shrU a0 32) * (shrU a1 32)) + (shrU u1 32)) + u2,a0 * a1)
theorem math_bits_Mul64_c (n:Nat) (L:List Nat) (w:World) (_hL:∀ b ∈ L,b < w.heap.size) (a0:UInt64) (a1:UInt64)  {r:UInt64 × UInt64} (h:math_bits_Mul64_p n a0 a1 = some r) :
    Calls Tryz.prog 159 #[vU a0,vU a1] w (Gives w fun _ u=>u = .tuple #[vU r.1,vU r.2]):=by
 unfold math_bits_Mul64_p at h
 have hS0:=Ay w
 refine AD Tryz.func159 rfl rfl rfl (fun _ cs0 hb0=>?_)
 refine Ac<|Af rfl<|Af rfl<|Aa<|Ac<|Ae rfl<|Ab (FV.andU (a:=a0) (b:=(4294967295:UInt64)) rfl rfl)<|Af rfl<|Aa<|Ac<|Ae rfl<|Ab (FV.shrU (a:=a0) (j:=32) rfl rfl)<|Af rfl<|Aa<|Ac<|Ae rfl<|Ab (FV.andU (a:=a1) (b:=(4294967295:UInt64)) rfl rfl)<|Af rfl<|Aa<|Ac<|Ae rfl<|Ab (FV.shrU (a:=a1) (j:=32) rfl rfl)<|Af rfl<|Aa ?_
 refine Ac<|Ae rfl<|Ae rfl<|Ab (FV.mulU (a:=a0 &&& (4294967295:UInt64)) (b:=a1 &&& (4294967295:UInt64)) rfl rfl)<|Af rfl<|Aa<|Ac<|Ae rfl<|Ae rfl<|Ab (FV.mulU (a:=shrU a0 32) (b:=a1 &&& (4294967295:UInt64)) rfl rfl)<|Ae rfl<|Ab (FV.shrU (a:=(a0 &&& (4294967295:UInt64)) * (a1 &&& (4294967295:UInt64))) (j:=32) rfl rfl) ?_
 obtain ⟨u1,hu1,h⟩:=bi h
 refine Ab (FV.as (FV.addU (a:=(shrU a0 32) * (a1 &&& (4294967295:UInt64))) (b:=shrU ((a0 &&& (4294967295:UInt64)) * (a1 &&& (4294967295:UInt64))) 32) rfl rfl) (congrArg (fun z:UInt64=>Value.int .u64 (z.toNat:Int)) (Option.some.inj hu1)))<|Af rfl<|Aa<|Ac<|Ae rfl<|Ab (FV.andU (a:=u1) (b:=(4294967295:UInt64)) rfl rfl)<|Af rfl<|Aa<|Ac<|Ae rfl<|Ab (FV.shrU (a:=u1) (j:=32) rfl rfl)<|Af rfl<|Aa<|Ac<|Ae rfl<|Ae rfl<|Ae rfl<|Ab (FV.mulU (a:=a0 &&& (4294967295:UInt64)) (b:=shrU a1 32) rfl rfl)<|Ab (FV.addU (a:=u1 &&& (4294967295:UInt64)) (b:=(a0 &&& (4294967295:UInt64)) * (shrU a1 32)) rfl rfl)<|Af rfl<|Aa<|Ac<|Ae rfl<|Ae rfl ?_
 refine Ab (FV.mulU (a:=shrU a0 32) (b:=shrU a1 32) rfl rfl)<|Ae rfl<|Ab (FV.addU (a:=(shrU a0 32) * (shrU a1 32)) (b:=shrU u1 32) rfl rfl)<|Ae rfl ?_
 obtain ⟨u2,hu2,h⟩:=bi h
 refine Ab (FV.as (FV.shrU (a:=(u1 &&& (4294967295:UInt64)) + ((a0 &&& (4294967295:UInt64)) * (shrU a1 32))) (j:=32) rfl rfl) (congrArg (fun z:UInt64=>Value.int .u64 (z.toNat:Int)) (Option.some.inj hu2)))<|Ab (FV.addU (a:=((shrU a0 32) * (shrU a1 32)) + (shrU u1 32)) (b:=u2) rfl rfl)<|Af rfl<|Aa<|Ac<|Ae rfl<|Ae rfl<|Ab (FV.mulU (a:=a0) (b:=a1) rfl rfl)<|Af rfl<|Aa<|Al rfl<|Am hb0 Tryz.func159 rfl (.cons (.tmp rfl) (.cons (.tmp rfl) .nil)) rfl ?_
 cases h
 exact hS0.gv
end Go.Proofs.YtichhhehkcfoaaaGreatDoor
