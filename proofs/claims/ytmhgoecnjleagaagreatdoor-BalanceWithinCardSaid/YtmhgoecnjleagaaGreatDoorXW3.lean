/- Functions of the program, and what they give: part 3. -/
import Derived.Test.YtmhgoecnjleagaaGreatDoorXW2
namespace Go.Proofs.YtmhgoecnjleagaaGreatDoor
open Go Go.RowKit
set_option maxRecDepth 4000
set_option maxHeartbeats 4000000

theorem body144:bodyB Tryz.prog 144 = true:=by kernel_rfl
theorem body200:bodyB Tryz.prog 200 = true:=by kernel_rfl
def wide_Long_Cmp_p (n:Nat) (a0:TLong) (a1:TLong):Option Int:=
  (wide_Long_Minus_p n a0 a1).bind fun b0=>(wide_Long_Side_p n b0).bind fun c0=>some c0
theorem wide_Long_Cmp_c (n:Nat) (L:List Nat) (w:World) (hL:∀ b ∈ L,b < w.heap.size) (a0:TLong) {v0_1:Value} (h0_1:Rep.R w L [v0_1] a0.fWords) (a1:TLong) {v1_1:Value} (h1_1:Rep.R w L [v1_1] a1.fWords)  {r:Int} (h:wide_Long_Cmp_p n a0 a1 = some r) :
    Calls Tryz.prog 176 #[.agg #[.bool a0.fBelow,v0_1],.agg #[.bool a1.fBelow,v1_1]] w (Gives w fun _ u=>u = vI r):=by
 unfold wide_Long_Cmp_p at h
 have hS0:=Ax w
 refine AA Tryz.func176 rfl rfl rfl (fun _ cs0 hb0=>?_)
 refine Ac<|Aj .plain rfl (Aw hS0 rfl rfl) (fun B0 t0 d0 v0=>?_)
 refine Aj .plain rfl (Aw d0 rfl rfl) (fun C0 u0 b0 x0=>?_)
 refine Ag rfl<|Aa<|Ac<|Ab (AB rfl (b0.memA (.tl .hd)))<|Ab (AB rfl (b0.memA .hd)) ?_
 obtain ⟨q0,k0,h⟩:=bi h
 refine AX (fst:=[]) (cap:=[]) .plain body200 rfl (e2 rfl rfl) (fun w9 hw9=>wide_Long_Minus_c n _ w9 (b0.hL hL hw9) a0 (b0.km h0_1 hw9) a1 (b0.km h1_1 hw9) k0) rfl (fun D0 A0 g0 ⟨z0,hu_,j0⟩=>?_)
 subst hu_
 obtain ⟨c0,y0⟩:=b0.agr g0
 obtain ⟨s0,p0,h⟩:=bi h
 refine Bf (vI s0) body144 rfl (e1 rfl) (fun w9 hw9=>wide_Long_Side_c n _ w9 (c0.hL0 hL hw9) q0 (c0.kd j0 hw9) p0) rfl<|Ag rfl<|Aa<|Al rfl<|Bc hb0 Tryz.func176 rfl rfl ?_
 cases h
 exact c0.gv
def wide_Of_l1 (_n:Nat) (t0:Nat × UInt64 × UInt64 × UInt64 × UInt64 × UInt64 × UInt64 × UInt64 × UInt64 → Option (UInt64 × UInt64 × UInt64 × UInt64 × UInt64 × UInt64 × UInt64 × UInt64)):Nat × UInt64 × UInt64 × UInt64 × UInt64 × UInt64 × UInt64 × UInt64 × UInt64 → Option (UInt64 × UInt64 × UInt64 × UInt64 × UInt64 × UInt64 × UInt64 × UInt64)
  | (b0,c0,d0,g0,j0,k0,p0,q0,s0)=>(if b0 < 8 then (([c0,d0,g0,j0,k0,p0,q0,s0]:List UInt64)[b0]?).bind fun u0=>t0 (b0 + 1,setA b0 0 (18446744073709551615:UInt64) c0,setA b0 1 (18446744073709551615:UInt64) d0,setA b0 2 (18446744073709551615:UInt64) g0,setA b0 3 (18446744073709551615:UInt64) j0,setA b0 4 (18446744073709551615:UInt64) k0,setA b0 5 (18446744073709551615:UInt64) p0,setA b0 6 (18446744073709551615:UInt64) q0,setA b0 7 (18446744073709551615:UInt64) s0) else some (c0,d0,g0,j0,k0,p0,q0,s0))
def wide_Of_p (n:Nat) (a0:Int):Option (UInt64 × UInt64 × UInt64 × UInt64 × UInt64 × UInt64 × UInt64 × UInt64):=
  (if a0 < 0 then Option.bind (loopF (wide_Of_l1 n) n (1,u64of a0,(0:UInt64),(0:UInt64),(0:UInt64),(0:UInt64),(0:UInt64),(0:UInt64),(0:UInt64))) (fun (b0,c0,d0,g0,j0,k0,p0,q0)=>some (b0,c0,d0,g0,j0,k0,p0,q0)) else some (u64of a0,(0:UInt64),(0:UInt64),(0:UInt64),(0:UInt64),(0:UInt64),(0:UInt64),(0:UInt64)))
theorem wide_Of_c (n:Nat) (L:List Nat) (w:World) (_hL:∀ b ∈ L,b < w.heap.size) (a0:Int)  {r:UInt64 × UInt64 × UInt64 × UInt64 × UInt64 × UInt64 × UInt64 × UInt64} (h:wide_Of_p n a0 = some r) :
    Calls Tryz.prog 128 #[vI a0] w (Gives w fun _ u=>u = .agg ((cs_A34 r)).toArray):=by
 unfold wide_Of_p at h
 have hS0:=Ax w
 refine AA Tryz.func128 rfl rfl rfl (fun _ cs0 hb0=>?_)
 refine Ac<|Aj .plain rfl (Av zP hS0) (fun b1 u0 F0 R0=>?_)
 refine Aa<|Ac<|Ae rfl<|Ab (FV.convU (i:=a0) Tryz.underlying3 Tryz.underlying33 rfl)<|Ab (AS (vs:=[vW ((u64of a0).toNat:Int)]) (u:=.agg #[vW ((u64of a0).toNat:Int),vW 0,vW 0,vW 0,vW 0,vW 0,vW 0,vW 0]) (e1 rfl) (fun w9=>by kernel_rfl))<|Aj .plain rfl (Av zP F0) (fun c1 t0 G0 U0=>?_)
 refine AL [vW ((u64of a0).toNat:Int),vW 0,vW 0,vW 0,vW 0,vW 0,vW 0,vW 0] G0 .hd (onesB rfl) (fun P0 x0 V0=>?_)
 refine Aa<|Ak<|Ac<|Ae rfl<|Ab (FV.lss (i:=a0) (j:=0) rfl rfl)<|Aa<|AQ rfl h (fun C0 h=>?_) (fun C0 h=>?_)
 refine Ac<|Ag rfl<|Aa<|Az ?_
 obtain ⟨Z0,M0,K0⟩:=bind_in2 h
 refine Bj (α:=Nat × UInt64 × UInt64 × UInt64 × UInt64 × UInt64 × UInt64 × UInt64 × UInt64) (fun ⟨b0,c0,d0,g0,j0,k0,p0,q0,s0⟩=>[(2,vP u0),(3,vP t0),(4,vI ((b0:Nat):Int))]) (fun ⟨b0,c0,d0,g0,j0,k0,p0,q0,s0⟩ z0=>St w z0 [.cells t0 [vU c0,vU d0,vU g0,vU j0,vU k0,vU p0,vU q0,vU s0] 35,.cells u0 zP 35]∧Tr P0 [.cells t0 [vW ((u64of a0).toNat:Int),vW 0,vW 0,vW 0,vW 0,vW 0,vW 0,vW 0] 35,.cells u0 zP 35] z0 [.cells t0 [vU c0,vU d0,vU g0,vU j0,vU k0,vU p0,vU q0,vU s0] 35,.cells u0 zP 35]) (fun ⟨b0,c0,d0,g0,j0,k0,p0,q0,s0⟩=>(b0,c0,d0,g0,j0,k0,p0,q0,s0)) (1,u64of a0,(0:UInt64),(0:UInt64),(0:UInt64),(0:UInt64),(0:UInt64),(0:UInt64),(0:UInt64)) M0 ⟨rfl,rfl,rfl,trivial⟩ ⟨x0,AP _ _⟩ ?_
 rintro Q0 ⟨b0,c0,d0,g0,j0,k0,p0,q0,s0⟩ z0 E0 ⟨v0,I0⟩ h
 unfold wide_Of_l1 at h
 try dsimp only at h
 refine Ak<|Ac<|Ae rfl<|Ab (Bn (i:=b0) (j:=8) rfl rfl)<|Aa<|AQ rfl h (fun D0 h=>?_) (fun D0 h=>?_)
 refine Aq<|Ak<|Az<|Ar<|Ae rfl ?_
 obtain ⟨k1,y0,h⟩:=bi h
 have Y0:=mem_elem1 (p:=⟨t0,0,none⟩) (cs:=([c0,d0,g0,j0,k0,p0,q0,s0]:List UInt64).map (fun z9:UInt64=>(vU z9:Value)) ++ []) (i:=b0) (v0.memA .hd) (arr_get (fun z9:UInt64=>(vU z9:Value)) y0)
 refine Ab (AZ (m:=1) (k:=b0) (len:=8) (by kernel_rfl) rfl rfl rfl (arr_lt y0 rfl))<|RG.now .plain (Acts.storeArr (fun z9:UInt64=>(vU z9:Value)) (xs:=([c0,d0,g0,j0,k0,p0,q0,s0]:List UInt64)) (pre:=[]) (post:=[]) (i:=b0) (m:=8) (x:=(18446744073709551615:UInt64)) (old:=[vU c0,vU d0,vU g0,vU j0,vU k0,vU p0,vU q0,vU s0]) (new' :=[vW ((setA b0 0 (18446744073709551615:UInt64) c0).toNat:Int),vW ((setA b0 1 (18446744073709551615:UInt64) d0).toNat:Int),vW ((setA b0 2 (18446744073709551615:UInt64) g0).toNat:Int),vW ((setA b0 3 (18446744073709551615:UInt64) j0).toNat:Int),vW ((setA b0 4 (18446744073709551615:UInt64) k0).toNat:Int),vW ((setA b0 5 (18446744073709551615:UInt64) p0).toNat:Int),vW ((setA b0 6 (18446744073709551615:UInt64) q0).toNat:Int),vW ((setA b0 7 (18446744073709551615:UInt64) s0).toNat:Int)]) rfl rfl (arr_lt y0 rfl) v0 .hd rfl (addr_at _ _ _) rfl (by kernel_rfl) (fun _=>⟨rfl,rfl⟩) rfl rfl) (fun d1 H0 J0=>?_)
 refine Aa<|AC<|Ar<|Ae rfl<|Ab (Br (i:=b0) (j:=1) rfl rfl (by omega))<|Ag rfl<|Aa ?_
 exact E0 (b0 + 1,setA b0 0 (18446744073709551615:UInt64) c0,setA b0 1 (18446744073709551615:UInt64) d0,setA b0 2 (18446744073709551615:UInt64) g0,setA b0 3 (18446744073709551615:UInt64) j0,setA b0 4 (18446744073709551615:UInt64) k0,setA b0 5 (18446744073709551615:UInt64) p0,setA b0 6 (18446744073709551615:UInt64) q0,setA b0 7 (18446744073709551615:UInt64) s0) _ _ ⟨rfl,rfl,rfl,trivial⟩ ⟨H0,(Tt I0 J0)⟩ h
 refine Be rfl ?_
 have h:=K0 _ h
 try dsimp only at h
 refine Ac<|Ab (AB rfl (v0.memA .hd))<|AL [vU c0,vU d0,vU g0,vU j0,vU k0,vU p0,vU q0,vU s0] v0 (.tl .hd) (onesB rfl) (fun g1 A0 W0=>?_)
 refine Aa<|Al rfl<|Ao hb0 Tryz.func128 rfl (.cons (.many (cs:=[vU c0,vU d0,vU g0,vU j0,vU k0,vU p0,vU q0,vU s0]) (by kernel_rfl) rfl (A0.memA (.tl .hd))) .nil) rfl ?_
 cases h
 exact A0.gv
 refine Aq<|Ac<|Ab (AB rfl (x0.memA .hd))<|AL [vW ((u64of a0).toNat:Int),vW 0,vW 0,vW 0,vW 0,vW 0,vW 0,vW 0] x0 (.tl .hd) (onesB rfl) (fun j1 B0 X0=>?_)
 refine Aa<|Al rfl<|Ao hb0 Tryz.func128 rfl (.cons (.many (cs:=[vW ((u64of a0).toNat:Int),vW 0,vW 0,vW 0,vW 0,vW 0,vW 0,vW 0]) (by kernel_rfl) rfl (B0.memA (.tl .hd))) .nil) rfl ?_
 cases h
 exact B0.gv
theorem body128:bodyB Tryz.prog 128 = true:=by kernel_rfl
def wide_From_p (n:Nat) (a0:Int):Option TLong:=
  (wide_Of_p n a0).bind fun b0=>(wide_Longer_p n b0).bind fun c0=>some c0
theorem wide_From_c (n:Nat) (L:List Nat) (w:World) (hL:∀ b ∈ L,b < w.heap.size) (a0:Int)  {r:TLong} (h:wide_From_p n a0 = some r) :
    Calls Tryz.prog 191 #[vI a0] w (Gives w fun w' u=>∃ v0_1:Value,u = .agg #[.bool r.fBelow,v0_1]∧Rep.R w' L [v0_1] r.fWords):=by
 unfold wide_From_p at h
 have hS0:=Ax w
 refine AA Tryz.func191 rfl rfl rfl (fun _ cs0 hb0=>?_)
 refine Ac<|Aj .plain rfl (Av [.bool false,vN] hS0) (fun B0 x0 b0 y0=>?_)
 refine Aa<|Ac<|Ae rfl ?_
 obtain ⟨j0,u0,h⟩:=bi h
 refine Bf (.agg ((cs_A34 j0)).toArray) body128 rfl (e1 rfl) (fun w9 hw9=>wide_Of_c n _ w9 (b0.hL0 hL hw9) a0 u0) rfl ?_
 obtain ⟨k0,v0,h⟩:=bi h
 refine AX (fst:=[]) (cap:=[]) .plain body165 rfl (e1 rfl) (fun w9 hw9=>wide_Longer_c n _ w9 (b0.hL hL hw9) j0 v0) rfl (fun C0 A0 s0 ⟨d0,hu_,g0⟩=>?_)
 subst hu_
 obtain ⟨p0,z0⟩:=b0.agr s0
 refine AL [.bool k0.fBelow,d0] p0 .hd (o2 rfl (AI g0)) (fun D0 c0 q0=>?_)
 refine Aa<|Al rfl<|Ao hb0 Tryz.func191 rfl (.cons (.many (cs:=[.bool k0.fBelow,d0]) (by kernel_rfl) rfl (c0.memA .hd)) .nil) rfl ?_
 cases h
 have t0:=Ap g0 q0
 exact ⟨c0.ag,fun w9 hw9=>⟨d0,rfl,c0.kd t0 hw9⟩⟩
def tb163_3:List (Nat × Nat × Nat):=[(0,256,16),(1,512,256),(2,1024,512),(4,2048,1024),(12,4096,2048),(16,8192,4112),(48,16384,12288),(16,32768,4112),(144,65536,36864),(336,131072,86016),(16,262144,4104),(1552,524288,397312),(2064,1048576,528384),(4112,2097152,1052672)]
theorem body130:bodyB Tryz.prog 130 = true:=by kernel_rfl
theorem body167:bodyB Tryz.prog 167 = true:=by kernel_rfl
theorem body176:bodyB Tryz.prog 176 = true:=by kernel_rfl
theorem body191:bodyB Tryz.prog 191 = true:=by kernel_rfl
def share_Check_p (n:Nat) (a0:TShare):Option Int:=
  (wide_From_p n (1:Int)).bind fun c0=>(share_Read_p n a0).bind fun b0=>(wide_Long_Side_p n b0.fUnder).bind fun d0=>(if d0 ≤ 0 then some (20:Int) else (wide_Long_Common_p n b0.fLong b0.fUnder).bind fun g0=>(wide_Long_Cmp_p n g0 c0).bind fun j0=>(if j0 = 0 then some (0:Int) else some (20:Int)))
theorem share_Check_c (n:Nat) (L:List Nat) (w:World) (hL:∀ b ∈ L,b < w.heap.size) (a0:TShare)  {r:Int} (h:share_Check_p n a0 = some r) :
    Calls Tryz.prog 163 #[.agg ((cs_TShare a0)).toArray] w (Gives w fun _ u=>u = vI r):=by
 unfold share_Check_p at h
 have hS0:=Ax w
 refine AA Tryz.func163 rfl rfl rfl (fun _ cs0 hb0=>?_)
 refine Ac<|Aj .plain rfl (Aw hS0 rfl rfl) (fun E1 u1 t0 y1=>?_)
 refine Ag rfl<|Aa<|Ac ?_
 obtain ⟨B0,d1,h⟩:=bi h
 refine AX (fst:=[]) (cap:=[]) .plain body191 rfl (e1 rfl) (fun w9 hw9=>wide_From_c n _ w9 (t0.hL hL hw9) (1:Int) d1) rfl (fun F1 B1 Q0 ⟨q1,hu_,x0⟩=>?_)
 subst hu_
 obtain ⟨G0,z1⟩:=t0.agr Q0
 refine Aj .plain rfl (Av [.bool false,vN] G0) (fun G1 v1 H0 u0=>?_)
 have V0:=Ap x0 u0
 refine AL [.bool B0.fBelow,q1] H0 .hd (o2 rfl (AI V0)) (fun H1 p0 K0=>?_)
 refine Aa<|Ac<|Ab (AB rfl (p0.memA (.tl .hd))) ?_
 obtain ⟨g0,g1,h⟩:=bi h
 refine AX (fst:=[]) (cap:=[]) .plain body130 rfl (e1 rfl) (fun w9 hw9=>share_Read_c n _ w9 (p0.hL hL hw9) a0 g1) rfl (fun I1 C1 R0 ⟨A0,s0,hu_,y0,z0⟩=>?_)
 subst hu_
 obtain ⟨I0,M0⟩:=p0.agr R0
 refine Aj .plain rfl (Av [.bool false,vN,.bool false,vN] I0) (fun J1 x1 J0 k0=>?_)
 have W0:=Ap y0 k0
 have X0:=Ap z0 k0
 refine AL [.bool g0.fLong.fBelow,A0,.bool g0.fUnder.fBelow,s0] J0 .hd (o4 rfl (AI W0) rfl (AI X0)) (fun K1 d0 q0=>?_)
 refine Aa<|Ak<|Ak<|AF 14 tb163_3 (by kernel_rfl) (by kernel_rfl) (by kernel_rfl) (fun b0 c0=>?_)
 refine Ah 0 1 b0 rfl c0 (fun _=>Bh 2 rfl) rfl<|AD 1 3 16380 b0 rfl c0 (Bl (cs:=[.bool g0.fUnder.fBelow,s0]) (by kernel_rfl) rfl (mem_part (d0.memA .hd) 2 2)) rfl ?_
 obtain ⟨C0,j1,h⟩:=bi h
 have v0:=Ap z0 (Tt k0 q0)
 refine BI 2 7 16376 (vI C0) b0 rfl c0 body144 rfl (e1 rfl) (fun w9 hw9=>wide_Long_Side_c n _ w9 (d0.hL0 hL hw9) g0.fUnder (d0.kd v0 hw9) j1) rfl<|Ah 3 15 b0 rfl c0 (fun _=>FV.leq (i:=C0) (j:=0) rfl rfl) rfl<|Ah 4 31 b0 rfl c0 (fun _=>Ai rfl) rfl<|RD.ifd (s:=12) rfl h (fun E0 h=>?_) (fun E0 h=>?_)
 refine Bk 8191 1 [(5,13),(6,14),(7,15),(8,16),(9,17),(10,18),(11,19),(12,20)] (F:=[(12,true)]) (U:=[]) b0 c0 (.cons rfl .nil) .nil ?_
 dsimp only [offS,List.map]
 refine Ah 13 16383 b0 rfl c0 (fun _=>BB rfl rfl) rfl<|AE (doneD_ok b0 (by kernel_rfl))<|Bp rfl<|Ac<|Ag rfl<|Aa<|Al rfl<|Bc hb0 Tryz.func163 rfl rfl ?_
 cases h
 exact d0.gv
 refine BA 5 63 b0 rfl c0 (.yes rfl rfl) (fun _=>Bh 0 rfl) rfl<|RD.val (i:=6) (m' :=127) (W:=14848) (takeC_ok b0 (by kernel_rfl)) rfl c0 (.yes rfl rfl) (Bl (cs:=[.bool g0.fLong.fBelow,A0]) (by kernel_rfl) rfl (mem_part (d0.memA .hd) 0 2)) rfl<|BA 7 255 b0 rfl c0 (.yes rfl rfl) (fun _=>Bh 2 rfl) rfl<|RD.val (i:=8) (m' :=511) (W:=14848) (takeC_ok b0 (by kernel_rfl)) rfl c0 (.yes rfl rfl) (Bl (cs:=[.bool g0.fUnder.fBelow,s0]) (by kernel_rfl) rfl (mem_part (d0.memA .hd) 2 2)) rfl<|RD.val (i:=10) (m' :=1535) (W:=14336) (takeC_ok b0 (by kernel_rfl)) rfl c0 (.yes rfl rfl) (AB rfl (d0.memA (.tl .hd))) rfl ?_
 obtain ⟨s1,k1,h⟩:=bi h
 have Y0:=Ap y0 (Tt k0 q0)
 refine Bi 9 2047 b0 rfl (.yes rfl rfl) body167 rfl (e2 rfl rfl) (fun w9 hw9=>wide_Long_Common_c n _ w9 (d0.hL hL hw9) g0.fLong (Am Y0 hw9) g0.fUnder (Am v0 hw9) k1) rfl (fun M1 D1 U0 ⟨A1,hu_,c1⟩=>?_)
 subst hu_
 obtain ⟨j0,P0⟩:=d0.agr U0
 obtain ⟨D0,p1,h⟩:=bi h
 have b1:=Tt u0 (Tt K0 (Tt M0 (Tt k0 (Tt q0 P0))))
 have Z0:=Ap x0 b1
 refine Bx (i:=11) (m' :=4095) (W:=12288) (takeC_ok b0 (by kernel_rfl)) rfl c0 (v:=vI D0) (fst:=[]) (cap:=[]) (.yes rfl rfl) body176 rfl (e2 rfl rfl) (fun w9 hw9=>wide_Long_Cmp_c n _ w9 (j0.hL0 hL hw9) s1 (j0.kd c1 hw9) B0 (j0.kd Z0 hw9) p1) rfl<|BA 12 8191 b0 rfl c0 (.yes rfl rfl) (fun _=>FV.neq (i:=D0) (j:=0) rfl rfl) rfl<|Ah 13 16383 b0 rfl c0 (fun _=>AV rfl rfl) rfl<|AE (doneD_ok b0 (by kernel_rfl))<|MX.ifn rfl h (fun F0 h=>?_) (fun F0 h=>?_)
 refine Aq<|Ac<|Ag rfl<|Aa<|Al rfl<|Bc hb0 Tryz.func163 rfl rfl ?_
 cases h
 exact j0.gv
 refine Ac<|Ag rfl<|Aa<|Al rfl<|Bc hb0 Tryz.func163 rfl rfl ?_
 cases h
 exact j0.gv
theorem body163:bodyB Tryz.prog 163 = true:=by kernel_rfl
def share_valid_1_p (n:Nat) (a0:TShare):Option Bool:=
  (share_Check_p n a0).bind fun b0=>some (decide (b0 = 0))
theorem share_valid_1_c (n:Nat) (L:List Nat) (w:World) (hL:∀ b ∈ L,b < w.heap.size) (a0:TShare)  {r:Bool} (h:share_valid_1_p n a0 = some r) :
    Calls Tryz.prog 162 #[.agg ((cs_TShare a0)).toArray] w (Gives w fun _ u=>u = .bool r):=by
 unfold share_valid_1_p at h
 have hS0:=Ax w
 refine AA Tryz.func162 rfl rfl rfl (fun _ cs0 hb0=>?_)
 refine Ac<|Aj .plain rfl (Aw hS0 rfl rfl) (fun k0 g0 b0 j0=>?_)
 refine Ag rfl<|Aa<|Ac<|Ab (AB rfl (b0.memA .hd)) ?_
 obtain ⟨c0,d0,h⟩:=bi h
 refine Bf (vI c0) body163 rfl (e1 rfl) (fun w9 hw9=>share_Check_c n _ w9 (b0.hL0 hL hw9) a0 d0) rfl<|Ab (FV.eql (i:=c0) (j:=0) rfl rfl)<|Ag rfl<|Aa<|Al rfl<|Bc hb0 Tryz.func162 rfl rfl ?_
 cases h
 exact b0.gv
theorem op_A34 {w:World} {L:List Nat} {cs:List Value} {x:UInt64 × UInt64 × UInt64 × UInt64 × UInt64 × UInt64 × UInt64 × UInt64} (h:Rep.R w L cs x):cs = [vU x.1,vU x.2.1,vU x.2.2.1,vU x.2.2.2.1,vU x.2.2.2.2.1,vU x.2.2.2.2.2.1,vU x.2.2.2.2.2.2.1,vU x.2.2.2.2.2.2.2]:=by
  obtain ⟨c0,r0,rfl,h0,h⟩:=h
  have e0:c0 = [vU x.1]:=h0; subst e0
  obtain ⟨c1,r1,rfl,h1,h⟩:=h
  have e1:c1 = [vU x.2.1]:=h1; subst e1
  obtain ⟨c2,r2,rfl,h2,h⟩:=h
  have e2:c2 = [vU x.2.2.1]:=h2; subst e2
  obtain ⟨c3,r3,rfl,h3,h⟩:=h
  have e3:c3 = [vU x.2.2.2.1]:=h3; subst e3
  obtain ⟨c4,r4,rfl,h4,h⟩:=h
  have e4:c4 = [vU x.2.2.2.2.1]:=h4; subst e4
  obtain ⟨c5,r5,rfl,h5,h⟩:=h
  have e5:c5 = [vU x.2.2.2.2.2.1]:=h5; subst e5
  obtain ⟨c6,r6,rfl,h6,h⟩:=h
  have e6:c6 = [vU x.2.2.2.2.2.2.1]:=h6; subst e6
  have e7:r6 = [vU x.2.2.2.2.2.2.2]:=h; subst e7
  rfl
theorem mk_A34 {w:World} {L:List Nat} (a0:UInt64) (a1:UInt64) (a2:UInt64) (a3:UInt64) (a4:UInt64) (a5:UInt64) (a6:UInt64) (a7:UInt64):Rep.R w L [vU a0,vU a1,vU a2,vU a3,vU a4,vU a5,vU a6,vU a7] ((a0,a1,a2,a3,a4,a5,a6,a7):UInt64 × UInt64 × UInt64 × UInt64 × UInt64 × UInt64 × UInt64 × UInt64):=⟨[vU a0],[vU a1,vU a2,vU a3,vU a4,vU a5,vU a6,vU a7],rfl,rfl,⟨[vU a1],[vU a2,vU a3,vU a4,vU a5,vU a6,vU a7],rfl,rfl,⟨[vU a2],[vU a3,vU a4,vU a5,vU a6,vU a7],rfl,rfl,⟨[vU a3],[vU a4,vU a5,vU a6,vU a7],rfl,rfl,⟨[vU a4],[vU a5,vU a6,vU a7],rfl,rfl,⟨[vU a5],[vU a6,vU a7],rfl,rfl,⟨[vU a6],[vU a7],rfl,rfl,rfl⟩⟩⟩⟩⟩⟩⟩
theorem op_TShare {w:World} {L:List Nat} {cs:List Value} {x:TShare} (h:Rep.R w L cs x):cs = [vU x.fN.1,vU x.fN.2.1,vU x.fN.2.2.1,vU x.fN.2.2.2.1,vU x.fN.2.2.2.2.1,vU x.fN.2.2.2.2.2.1,vU x.fN.2.2.2.2.2.2.1,vU x.fN.2.2.2.2.2.2.2,vU x.fD.1,vU x.fD.2.1,vU x.fD.2.2.1,vU x.fD.2.2.2.1,vU x.fD.2.2.2.2.1,vU x.fD.2.2.2.2.2.1,vU x.fD.2.2.2.2.2.2.1,vU x.fD.2.2.2.2.2.2.2]:=by
  obtain ⟨c0,r0,rfl,h0,h⟩:=h
  obtain rfl:=op_A34 (x:=x.fN) h0
  obtain rfl:=op_A34 (x:=x.fD) h
  rfl
theorem mk_TShare {w:World} {L:List Nat} (a0:UInt64 × UInt64 × UInt64 × UInt64 × UInt64 × UInt64 × UInt64 × UInt64) (a1:UInt64 × UInt64 × UInt64 × UInt64 × UInt64 × UInt64 × UInt64 × UInt64):Rep.R w L [vU a0.1,vU a0.2.1,vU a0.2.2.1,vU a0.2.2.2.1,vU a0.2.2.2.2.1,vU a0.2.2.2.2.2.1,vU a0.2.2.2.2.2.2.1,vU a0.2.2.2.2.2.2.2,vU a1.1,vU a1.2.1,vU a1.2.2.1,vU a1.2.2.2.1,vU a1.2.2.2.2.1,vU a1.2.2.2.2.2.1,vU a1.2.2.2.2.2.2.1,vU a1.2.2.2.2.2.2.2] (⟨a0,a1⟩:TShare):=⟨[vU a0.1,vU a0.2.1,vU a0.2.2.1,vU a0.2.2.2.1,vU a0.2.2.2.2.1,vU a0.2.2.2.2.2.1,vU a0.2.2.2.2.2.2.1,vU a0.2.2.2.2.2.2.2],[vU a1.1,vU a1.2.1,vU a1.2.2.1,vU a1.2.2.2.1,vU a1.2.2.2.2.1,vU a1.2.2.2.2.2.1,vU a1.2.2.2.2.2.2.1,vU a1.2.2.2.2.2.2.2],rfl,mk_A34 a0.1 a0.2.1 a0.2.2.1 a0.2.2.2.1 a0.2.2.2.2.1 a0.2.2.2.2.2.1 a0.2.2.2.2.2.2.1 a0.2.2.2.2.2.2.2,mk_A34 a1.1 a1.2.1 a1.2.2.1 a1.2.2.2.1 a1.2.2.2.2.1 a1.2.2.2.2.2.1 a1.2.2.2.2.2.2.1 a1.2.2.2.2.2.2.2⟩
theorem body162:bodyB Tryz.prog 162 = true:=by kernel_rfl
theorem body164:bodyB Tryz.prog 164 = true:=by kernel_rfl
def share_valid_l1 (n:Nat) (a0:List TShare) (c0:Nat → Option (Bool ⊕ Unit)):Nat → Option (Bool ⊕ Unit)
  | b0=>(if b0 < a0.length then (a0[b0]?).bind fun d0=>(share_valid_1_p n d0).bind fun g0=>(if g0 = true then c0 (b0 + 1) else some (.inl false)) else some (.inr ()))
def share_valid_p (n:Nat) (a0:List TShare):Option Bool:=
  thn (loopF (share_valid_l1 n a0) n 0) (fun _=>some true)
theorem share_valid_c (n:Nat) (L:List Nat) (w:World) (hL:∀ b ∈ L,b < w.heap.size) (a0:List TShare) {v0_0:Value} (h0_0:Rep.R w L [v0_0] a0)  {r:Bool} (h:share_valid_p n a0 = some r) :
    Calls Tryz.prog 125 #[v0_0] w (Gives w fun _ u=>u = .bool r):=by
 unfold share_valid_p at h
 have hS0:=Ax w
 refine AA Tryz.func125 rfl rfl rfl (fun _ cs0 hb0=>?_)
 refine Ac<|Ag rfl<|Aa<|Ac<|Ag rfl<|Aa<|Ac<|Ae rfl<|Ae rfl<|Bw (fst:=[]) (cap:=[]) (vs:=[.func (.func 162) #[] #[],v0_0]) .plain body164 Tryz.func164 rfl rfl rfl rfl (e2 rfl rfl) rfl (fun cs2 hb1 hp3=>?_)
 refine Ac<|Ag rfl<|Aa<|Ak<|Ac<|Ae rfl ?_
 have hl4:a0.length ≤ 281474976710656:=AT h0_0
 refine Ab (Bb (xs:=a0) Tryz.underlying68 rfl h0_0)<|Ae rfl<|Aa<|Az ?_
 obtain ⟨U0,E0,j0⟩:=thn_in h
 refine Bj (α:=Nat) (fun b0=>[(0,.func (.func 162) #[] #[]),(7,v0_0),(8,vI ((a0.length:Nat):Int)),(9,vI ((b0:Nat):Int))]) (fun b0 g0=>St w g0 []∧Tr w [] g0 []) (fun b0=>b0) 0 E0 ⟨rfl,rfl,rfl,rfl,trivial⟩ ⟨hS0,AP _ _⟩ ?_
 rintro M0 b0 g0 s0 ⟨d0,v0⟩ h
 unfold share_valid_l1 at h
 try dsimp only at h
 refine Ac<|Ab (Bn (i:=b0) (j:=a0.length) rfl rfl)<|Aa<|Ak<|AQ rfl h (fun p0 h=>?_) (fun p0 h=>?_)
 refine Aq<|Ak<|Az<|Ac ?_
 obtain ⟨k0,H0,h⟩:=bi h
 have D0:=AM h0_0 d0
 obtain ⟨K0,Q0,A0,B0,R0,G0,C0⟩:=Bm D0 H0
 obtain rfl:=op_TShare G0
 refine Ab (Bo 16 b0 rfl A0 rfl rfl B0)<|Ab (AB rfl C0)<|Aj .plain rfl (Av zL d0) (fun V0 P0 t0 x0=>?_)
 refine AL (cs_TShare k0) t0 .hd (onesB rfl) (fun W0 c0 y0=>?_)
 refine Aa<|Ac<|Ae rfl<|Ab (AB rfl (c0.memA .hd)) ?_
 obtain ⟨J0,I0,h⟩:=bi h
 refine Bf (.bool J0) body162 rfl (e1 rfl) (fun w9 hw9=>share_valid_1_c n _ w9 (c0.hL0 hL hw9) k0 I0) rfl<|Ab (Bz rfl)<|Aa<|MX.ifnb rfl h (fun q0 h=>?_) (fun q0 h=>?_)
 refine Aq<|AC<|Ar<|Ab (Br (i:=b0) (j:=1) rfl rfl (by omega))<|Ae rfl<|Aa ?_
 obtain ⟨u0,z0⟩:=AH c0 .done
 have F0:=Tt x0 (Tt y0 z0)
 exact s0 (b0 + 1) _ _ ⟨rfl,rfl,rfl,rfl,trivial⟩ ⟨u0,(Tt v0 F0)⟩ h
 refine Ac<|Ag rfl<|Aa ?_
 have h:=thn_inl h j0
 refine Al rfl<|Ao (u:=.bool false) hb1 Tryz.func164 rfl (.cons (.tmp rfl) .nil) rfl<|Ag rfl<|Aa<|Al rfl<|Bc hb0 Tryz.func125 rfl rfl ?_
 cases h
 exact c0.gv
 refine Be rfl ?_
 have h:=thn_inr h j0
 try dsimp only at h
 refine Ac<|Ag rfl<|Aa<|Al rfl<|Ao (u:=.bool true) hb1 Tryz.func164 rfl (.cons (.tmp rfl) .nil) rfl<|Ag rfl<|Aa<|Al rfl<|Bc hb0 Tryz.func125 rfl rfl ?_
 cases h
 exact d0.gv
def tb168_2:List (Nat × Nat × Nat):=[(0,262144,4),(1,524288,262144),(0,1048576,8),(4,2097152,1048576),(10,4194304,2621440),(0,8388608,64),(48,16777216,12582912),(0,33554432,4),(128,67108864,33554432),(0,134217728,128),(832,268435456,201326592),(1151,0,16777232),(4095,0,268435488)]
def tb168_8:List (Nat × Nat × Nat):=[(0,35184372088832,16),(0,70368744177664,32),(1,0,35184372088848),(7,0,70368744177696)]
def wide_Long_Parts_p (n:Nat) (a0:TLong) (a1:TLong):Option (TLong × TLong):=
  (wide_divided_p n a0.fWords a1.fWords).bind fun c0=>(wide_trimmed_p n (!(a0.fBelow == a1.fBelow)) c0.1).bind fun d0=>(wide_trimmed_p n a0.fBelow c0.2).bind fun b0=>(if b0.fBelow = true then (wide_Long_Plus_p n b0 (⟨false,a1.fWords⟩:TLong)).bind fun j0=>(wide_Long_Plus_p n d0 (⟨(!a1.fBelow),([(1:UInt64)]:List UInt64)⟩:TLong)).bind fun g0=>some (g0,j0) else some (d0,b0))
theorem wide_Long_Parts_c (n:Nat) (L:List Nat) (w:World) (hL:∀ b ∈ L,b < w.heap.size) (a0:TLong) {v0_1:Value} (h0_1:Rep.R w L [v0_1] a0.fWords) (a1:TLong) {v1_1:Value} (h1_1:Rep.R w L [v1_1] a1.fWords)  {r:TLong × TLong} (h:wide_Long_Parts_p n a0 a1 = some r) :
    Calls Tryz.prog 168 #[.agg #[.bool a0.fBelow,v0_1],.agg #[.bool a1.fBelow,v1_1]] w (Gives w fun w' u=>∃ v0_1 v1_1:Value,u = .tuple #[.agg #[.bool r.1.fBelow,v0_1],.agg #[.bool r.2.fBelow,v1_1]]∧Rep.R w' L [v0_1] r.1.fWords∧Rep.R w' L [v1_1] r.2.fWords):=by
 unfold wide_Long_Parts_p at h
 have hS0:=Ax w
 refine AA Tryz.func168 rfl rfl rfl (fun _ cs0 hb0=>?_)
 refine Ac<|Aj .plain rfl (Aw hS0 rfl rfl) (fun b4 u1 Y1 H3=>?_)
 refine Aj .plain rfl (Aw Y1 rfl rfl) (fun g4 v1 d2 I3=>?_)
 refine Aj .plain rfl (Av [.bool false,vN] d2) (fun j4 d0 g2 J3=>?_)
 refine Aj .plain rfl (Av [.bool false,vN] g2) (fun p4 g0 B0 K3=>?_)
 refine Aa<|Ac<|Bg 1 rfl<|Ab (AK rfl ((B0.memA (.tl (.tl (.tl .hd)))) 1 _ rfl))<|Bg 1 rfl<|Bd rfl ((B0.memA (.tl (.tl .hd))) 1 _ rfl) ?_
 obtain ⟨R1,x3,h⟩:=bi h
 refine AX (fst:=[]) (cap:=[]) .plain body194 rfl (e2 rfl rfl) (fun w9 hw9=>wide_divided_c n _ w9 (B0.hL hL hw9) a0.fWords (B0.km h0_1 hw9) a1.fWords (B0.km h1_1 hw9) x3) rfl (fun q4 U3 D2 ⟨P3,Q3,hu_,s3,t3⟩=>?_)
 subst hu_
 obtain ⟨H0,M3⟩:=B0.agr D2
 refine Ae rfl<|Ab (Af rfl rfl)<|Ab (Af rfl rfl)<|Ag rfl<|Ag rfl<|Aa<|Ak<|AF 11 tb168_2 (by kernel_rfl) (by kernel_rfl) (by kernel_rfl) (fun b0 c0=>?_)
 refine Ah 0 1 b0 rfl c0 (fun _=>Bh 0 rfl) rfl<|AD 1 3 7248 b0 rfl c0 (AK rfl ((H0.memA (.tl (.tl (.tl .hd)))) 0 _ rfl)) rfl<|Ah 2 7 b0 rfl c0 (fun _=>Bh 0 rfl) rfl<|AD 3 15 7248 b0 rfl c0 (AK rfl ((H0.memA (.tl (.tl .hd))) 0 _ rfl)) rfl<|Ah 4 31 b0 rfl c0 (fun _=>FV.neqB (a:=a0.fBelow) (b:=a1.fBelow) Tryz.underlying4 rfl rfl) rfl<|Ah 5 63 b0 rfl c0 (fun _=>Ai rfl) rfl<|Ah 7 191 b0 rfl c0 (fun _=>Bh 0 rfl) rfl<|AD 8 447 7168 b0 rfl c0 (AK rfl ((H0.memA (.tl (.tl (.tl .hd)))) 0 _ rfl)) rfl<|Ah 9 959 b0 rfl c0 (fun _=>Ai rfl) rfl ?_
 obtain ⟨v0,y3,h⟩:=bi h
 refine Bi 6 1023 b0 rfl .plain body169 rfl (e2 rfl rfl) (fun w9 hw9=>wide_trimmed_c n _ w9 (H0.hL hL hw9) (!(a0.fBelow == a1.fBelow)) R1.1 (Am s3 hw9) y3) rfl (fun s4 V3 E2 ⟨s0,hu_,K0⟩=>?_)
 subst hu_
 obtain ⟨A1,A2⟩:=H0.agr E2
 obtain ⟨x0,z3,h⟩:=bi h
 have V2:=Ap t3 A2
 refine Bi 10 2047 b0 rfl .plain body169 rfl (e2 rfl rfl) (fun w9 hw9=>wide_trimmed_c n _ w9 (A1.hL hL hw9) a0.fBelow R1.2 (Am V2 hw9) z3) rfl (fun t4 W3 F2 ⟨t0,hu_,X0⟩=>?_)
 subst hu_
 obtain ⟨q2,J0⟩:=A1.agr F2
 have W2:=Ap K0 J0
 refine Bt 11 4095 b0 rfl rfl .plain (Ay (news:=[.bool v0.fBelow,s0]) q2 (.tl .hd) rfl rfl rfl rfl rfl rfl (o2 rfl (AI W2))) (fun u4 s2 y0=>?_)
 have X2:=Ap X0 y0
 refine Bt 12 8191 b0 rfl rfl .plain (Ay (news:=[.bool x0.fBelow,t0]) s2 .hd rfl rfl rfl rfl rfl rfl (o2 rfl (AI X2))) (fun D3 j0 C0=>?_)
 refine AE (doneD_ok b0 (by kernel_rfl))<|Ak<|Ac<|Bg 0 rfl<|Bd rfl ((j0.memA .hd) 0 _ rfl)<|Aa<|MX.ifb rfl h (fun W1 h=>?_) (fun W1 h=>?_)
 refine Ac<|Bg 1 rfl<|Bd rfl ((j0.memA (.tl (.tl .hd))) 1 _ rfl) ?_
 have Y2:=AM h1_1 j0
 obtain ⟨F3,G3,u3,_⟩:=Rep.sl Y2
 refine Ab (AS (vs:=[v1_1]) (u:=.agg #[.bool false,v1_1]) (e1 rfl) (fun w9=>by rw [u3]; try kernel_rfl))<|Aj .plain rfl (Av [.bool false,vN] j0) (fun v4 V1 B1 I1=>?_)
 have Z2:=AM h1_1 B1
 refine AL [.bool false,v1_1] B1 .hd (o2 rfl (AI Z2)) (fun x4 I0 J1=>?_)
 refine Aa<|Ac<|Ab (AB rfl (I0.memA (.tl .hd)))<|Ab (AB rfl (I0.memA .hd)) ?_
 obtain ⟨A0,A3,h⟩:=bi h
 have k3:=Tt y0 (Tt C0 (Tt I1 J1))
 have b3:=Ap X0 k3
 refine AX (fst:=[]) (cap:=[]) .plain body133 rfl (e2 rfl rfl) (fun w9 hw9=>wide_Long_Plus_c n _ w9 (I0.hL hL hw9) x0 (Am b3 hw9) (⟨false,a1.fWords⟩:TLong) (I0.km h1_1 hw9) A3) rfl (fun y4 X3 G2 ⟨u0,hu_,q1⟩=>?_)
 subst hu_
 obtain ⟨t2,B2⟩:=I0.agr G2
 refine AL [.bool A0.fBelow,u0] t2 (.tl .hd) (o2 rfl (AI q1)) (fun z4 C1 d1=>?_)
 refine Aa<|Ac<|Bg 0 rfl<|Ab (AK rfl ((C1.memA (.tl (.tl (.tl .hd)))) 0 _ rfl))<|Ab (Bz rfl)<|Aj .plain rfl (AW (α:=UInt64) (xs:=([(1:UInt64)]:List UInt64)) (vs:=[vW 1]) (ds' :=[vW 1]) rfl C1 el121 rfl (e1 rfl) (by kernel_rfl) rfl) (fun A4 D0 D1 g1=>?_)
 have H2:=AG (cs:=[vW 1]) (xs:=(([(1:UInt64)]:List UInt64):List UInt64)) D1 L (Au (cs:=[vW 1]) (ds:=[]) rfl (AO _ _))
 refine Ab (AS (vs:=[.bool (!a1.fBelow),(vS D0 1)]) (u:=.agg #[.bool (!a1.fBelow),(vS D0 1)]) (e2 rfl rfl) (fun w9=>by kernel_rfl))<|Aj .plain rfl (Av [.bool false,vN] D1) (fun Y3 U1 z1 R0=>?_)
 refine AL [.bool (!a1.fBelow),(vS D0 1)] z1 .hd (o2 rfl (St.o1 (α:=UInt64) z1 (.tl .hd))) (fun Z3 E0 U0=>?_)
 refine Aa<|Ar<|Ab (AB rfl (E0.memA (.tl (.tl (.tl (.tl .hd))))))<|Ab (AB rfl (E0.memA .hd)) ?_
 have I2:=AN H2 (Tt R0 U0)
 have p3:=Bq (α:=UInt64) E0 (.tl .hd) I2 hL
 have Y0:=BD E0 (.tl .hd)
 have Z0:=BE E0 (.tl .hd)
 have q3:=BF (α:=UInt64) (v:=(vS D0 1)) (xs:=([(1:UInt64)]:List UInt64)) Y0 L p3
 obtain ⟨z0,v3,h⟩:=bi h
 have c3:=Tt J0 (Tt y0 (Tt C0 (Tt I1 (Tt J1 (Tt B2 (Tt d1 (Tt g1 (Tt R0 (Tt U0 Z0)))))))))
 have J2:=Ap K0 c3
 refine AX (fst:=[]) (cap:=[]) .plain body133 rfl (e2 rfl rfl) (fun w9 hw9=>wide_Long_Plus_c n _ w9 (Y0.hL hL hw9) v0 (Am J2 hw9) (⟨(!a1.fBelow),([(1:UInt64)]:List UInt64)⟩:TLong) (Am q3 hw9) v3) rfl (fun c4 R3 C2 ⟨q0,hu_,W0⟩=>?_)
 subst hu_
 obtain ⟨X1,E1⟩:=Y0.agr C2
 refine AL [.bool z0.fBelow,q0] X1 (.tl (.tl (.tl .hd))) (o2 rfl (AI W0)) (fun B3 M0 V0=>?_)
 refine Aa<|Ak<|AF 2 tb168_8 (by kernel_rfl) (by kernel_rfl) (by kernel_rfl) (fun k0 P1=>?_)
 refine AD 0 1 12 k0 rfl P1 (AB rfl (M0.memA (.tl (.tl (.tl .hd))))) rfl<|RD.meet (α:=Unit) (fun ()=>[(4,vP d0),(5,vP g0),(46,.agg #[.bool A0.fBelow,u0])]) (fun () s1=>St w s1 [.cells g0 [.bool A0.fBelow,u0] 123,.cells d0 [.bool z0.fBelow,q0] 123]∧Tr B3 [.cells U1 [.bool (!a1.fBelow),(vS D0 1)] 123,.cells V1 [.bool false,v1_1] 123,.cells g0 [.bool A0.fBelow,u0] 123,.cells d0 [.bool z0.fBelow,q0] 123,.cells v1 [.bool a1.fBelow,v1_1] 123,.cells u1 [.bool a0.fBelow,v0_1] 123] s1 [.cells g0 [.bool A0.fBelow,u0] 123,.cells d0 [.bool z0.fBelow,q0] 123]) 1 7 ?_ ?_
 rintro ⟨⟩ s1 ⟨Z1,F1⟩
 try dsimp only
 have d3:=Tt d1 (Tt g1 (Tt R0 (Tt U0 (Tt Z0 (Tt E1 (Tt V0 F1))))))
 have K2:=Ap q1 d3
 refine Bt 3 15 k0 rfl rfl .plain (Ay (news:=[.bool A0.fBelow,u0]) Z1 .hd rfl rfl rfl rfl rfl rfl (o2 rfl (AI K2))) (fun d4 F0 u2=>?_)
 refine AE (doneD_ok k0 (by kernel_rfl))<|Al rfl<|Ao hb0 Tryz.func168 rfl (.cons (.many (cs:=[.bool z0.fBelow,q0]) (by kernel_rfl) rfl (F0.memA (.tl .hd))) (.cons (.many (cs:=[.bool A0.fBelow,u0]) (by kernel_rfl) rfl (F0.memA .hd)) .nil)) rfl ?_
 cases h
 have K1:=Tt V0 (Tt F1 u2)
 have M2:=Ap W0 K1
 have g3:=Tt d1 (Tt g1 (Tt R0 (Tt U0 (Tt Z0 (Tt E1 K1)))))
 have P2:=Ap q1 g3
 exact ⟨F0.ag,fun w9 hw9=>⟨q0,u0,rfl,F0.kd M2 hw9,F0.kd P2 hw9⟩⟩
 intro x1
 refine RD.each [1,2] (readyD_ok k0 (by kernel_rfl)) ⟨?_,?_,trivial⟩
 refine RO.val (m' :=3) (stepC_ok k0 (by kernel_rfl)) rfl .plain rfl (AB rfl (M0.memA (.tl (.tl .hd)))) ?_
 have k1:=Ap W0 V0
 refine Bt 2 7 k0 rfl rfl .plain (Ay (news:=[.bool z0.fBelow,q0]) M0 (.tl (.tl (.tl .hd))) rfl rfl rfl rfl rfl rfl (o2 rfl (AI k1))) (fun E3 Q0 c1=>?_)
 obtain ⟨b2,v2⟩:=AH Q0 (.one (.tl (.tl .hd)) (.one (.tl (.tl .hd)) .done))
 exact x1 () _ _ ⟨rfl,rfl,rfl,trivial⟩ ⟨b2,(Tt c1 v2)⟩
 have k1:=Ap W0 V0
 refine RO.now (m' :=5) (stepC_ok k0 (by kernel_rfl)) rfl rfl .plain (Ay (news:=[.bool z0.fBelow,q0]) M0 (.tl (.tl (.tl .hd))) rfl rfl rfl rfl rfl rfl (o2 rfl (AI k1))) (fun E3 Q0 c1=>?_)
 refine AD 1 7 8 k0 rfl P1 (AB rfl (Q0.memA (.tl (.tl .hd)))) rfl ?_
 obtain ⟨c2,x2⟩:=AH Q0 (.one (.tl (.tl .hd)) (.one (.tl (.tl .hd)) .done))
 exact x1 () _ _ ⟨rfl,rfl,rfl,trivial⟩ ⟨c2,(Tt c1 x2)⟩
 refine Aq<|Ak<|AF 2 tb168_8 (by kernel_rfl) (by kernel_rfl) (by kernel_rfl) (fun p0 Q1=>?_)
 refine AD 0 1 12 p0 rfl Q1 (AB rfl (j0.memA (.tl .hd))) rfl<|RD.meet (α:=Unit) (fun ()=>[(4,vP d0),(5,vP g0),(46,.agg #[.bool x0.fBelow,t0])]) (fun () t1=>St w t1 [.cells g0 [.bool x0.fBelow,t0] 123,.cells d0 [.bool v0.fBelow,s0] 123]∧Tr D3 [.cells g0 [.bool x0.fBelow,t0] 123,.cells d0 [.bool v0.fBelow,s0] 123,.cells v1 [.bool a1.fBelow,v1_1] 123,.cells u1 [.bool a0.fBelow,v0_1] 123] t1 [.cells g0 [.bool x0.fBelow,t0] 123,.cells d0 [.bool v0.fBelow,s0] 123]) 1 7 ?_ ?_
 rintro ⟨⟩ t1 ⟨j2,G1⟩
 try dsimp only
 have M1:=Tt y0 (Tt C0 G1)
 have Q2:=Ap X0 M1
 refine Bt 3 15 p0 rfl rfl .plain (Ay (news:=[.bool x0.fBelow,t0]) j2 .hd rfl rfl rfl rfl rfl rfl (o2 rfl (AI Q2))) (fun k4 G0 H1=>?_)
 refine AE (doneD_ok p0 (by kernel_rfl))<|Al rfl<|Ao hb0 Tryz.func168 rfl (.cons (.many (cs:=[.bool v0.fBelow,s0]) (by kernel_rfl) rfl (G0.memA (.tl .hd))) (.cons (.many (cs:=[.bool x0.fBelow,t0]) (by kernel_rfl) rfl (G0.memA .hd)) .nil)) rfl ?_
 cases h
 have j3:=Tt J0 (Tt y0 (Tt C0 (Tt G1 H1)))
 have R2:=Ap K0 j3
 have U2:=Ap X0 (Tt M1 H1)
 exact ⟨G0.ag,fun w9 hw9=>⟨s0,t0,rfl,G0.kd R2 hw9,G0.kd U2 hw9⟩⟩
 intro y1
 refine RD.each [1,2] (readyD_ok p0 (by kernel_rfl)) ⟨?_,?_,trivial⟩
 refine RO.val (m' :=3) (stepC_ok p0 (by kernel_rfl)) rfl .plain rfl (AB rfl (j0.memA .hd)) ?_
 have p1:=Tt J0 (Tt y0 C0)
 have j1:=Ap K0 p1
 refine Bt 2 7 p0 rfl rfl .plain (Ay (news:=[.bool v0.fBelow,s0]) j0 (.tl .hd) rfl rfl rfl rfl rfl rfl (o2 rfl (AI j1))) (fun C3 P0 b1=>?_)
 obtain ⟨k2,y2⟩:=AH P0 (.one .hd (.one .hd .done))
 exact y1 () _ _ ⟨rfl,rfl,rfl,trivial⟩ ⟨k2,(Tt b1 y2)⟩
 have p1:=Tt J0 (Tt y0 C0)
 have j1:=Ap K0 p1
 refine RO.now (m' :=5) (stepC_ok p0 (by kernel_rfl)) rfl rfl .plain (Ay (news:=[.bool v0.fBelow,s0]) j0 (.tl .hd) rfl rfl rfl rfl rfl rfl (o2 rfl (AI j1))) (fun C3 P0 b1=>?_)
 refine AD 1 7 8 p0 rfl Q1 (AB rfl (P0.memA .hd)) rfl ?_
 obtain ⟨p2,z2⟩:=AH P0 (.one .hd (.one .hd .done))
 exact y1 () _ _ ⟨rfl,rfl,rfl,trivial⟩ ⟨p2,(Tt b1 z2)⟩
def tb131_5:List (Nat × Nat × Nat):=[(0,134217728,64),(1,268435456,134217728),(0,536870912,256),(6,1073741824,536870912),(11,0,268435520),(31,0,1073742080)]
theorem body168:bodyB Tryz.prog 168 = true:=by kernel_rfl
def share_Lowest_p (n:Nat) (a0:TLong) (a1:TLong):Option TRatio:=
  (wide_Long_Common_p n a0 a1).bind fun c0=>(wide_Long_Parts_p n a0 c0).bind fun d0=>(wide_Long_Parts_p n a1 c0).bind fun b0=>(if b0.1.fBelow = true then (wide_Long_Turned_p n d0.1).bind fun g0=>(wide_Long_Turned_p n b0.1).bind fun j0=>some (⟨g0,j0⟩:TRatio) else some (⟨d0.1,b0.1⟩:TRatio))
theorem share_Lowest_c (n:Nat) (L:List Nat) (w:World) (hL:∀ b ∈ L,b < w.heap.size) (a0:TLong) {v0_1:Value} (h0_1:Rep.R w L [v0_1] a0.fWords) (a1:TLong) {v1_1:Value} (h1_1:Rep.R w L [v1_1] a1.fWords)  {r:TRatio} (h:share_Lowest_p n a0 a1 = some r) :
    Calls Tryz.prog 131 #[.agg #[.bool a0.fBelow,v0_1],.agg #[.bool a1.fBelow,v1_1]] w (Gives w fun w' u=>∃ v0_1 v0_3:Value,u = .agg #[.bool r.fLong.fBelow,v0_1,.bool r.fUnder.fBelow,v0_3]∧Rep.R w' L [v0_1] r.fLong.fWords∧Rep.R w' L [v0_3] r.fUnder.fWords):=by
 unfold share_Lowest_p at h
 have hS0:=Ax w
 refine AA Tryz.func131 rfl rfl rfl (fun _ cs0 hb0=>?_)
 refine Ac<|Aj .plain rfl (Aw hS0 rfl rfl) (fun I3 b3 y1 x3=>?_)
 refine Aj .plain rfl (Aw y1 rfl rfl) (fun R3 c3 B1 y3=>?_)
 refine Aj .plain rfl (Av [.bool false,vN,.bool false,vN] B1) (fun U3 d3 j0 z3=>?_)
 refine Aa<|Ac<|Ab (AB rfl (j0.memA (.tl (.tl .hd))))<|Ab (AB rfl (j0.memA (.tl .hd))) ?_
 obtain ⟨X0,M2,h⟩:=bi h
 refine AX (fst:=[]) (cap:=[]) .plain body167 rfl (e2 rfl rfl) (fun w9 hw9=>wide_Long_Common_c n _ w9 (j0.hL hL hw9) a0 (j0.km h0_1 hw9) a1 (j0.km h1_1 hw9) M2) rfl (fun V3 D3 V1 ⟨R2,hu_,W0⟩=>?_)
 subst hu_
 obtain ⟨C1,A3⟩:=j0.agr V1
 refine Aj .plain rfl (Av [.bool false,vN] C1) (fun W3 g3 D1 J0=>?_)
 have p2:=Ap W0 J0
 refine AL [.bool X0.fBelow,R2] D1 .hd (o2 rfl (AI p2)) (fun X3 t0 d1=>?_)
 refine Aa<|Ac<|Ab (AB rfl (t0.memA (.tl (.tl (.tl .hd)))))<|Ab (AB rfl (t0.memA .hd)) ?_
 obtain ⟨d0,P2,h⟩:=bi h
 have q2:=Ap W0 (Tt J0 d1)
 refine AX (fst:=[]) (cap:=[]) .plain body168 rfl (e2 rfl rfl) (fun w9 hw9=>wide_Long_Parts_c n _ w9 (t0.hL hL hw9) a0 (t0.km h0_1 hw9) X0 (Am q2 hw9) P2) rfl (fun Y3 E3 W1 ⟨q0,U2,hu_,F0,D2⟩=>?_)
 subst hu_
 obtain ⟨E1,Q1⟩:=t0.agr W1
 refine Ae rfl<|Ab (Af rfl rfl)<|Ab (Af rfl rfl)<|Aj .plain rfl (Av [.bool false,vN] E1) (fun Z3 j3 F1 K0=>?_)
 refine Aj .plain rfl (Av [.bool false,vN] F1) (fun b4 k3 G1 M0=>?_)
 have s2:=Ap F0 (Tt K0 M0)
 refine AL [.bool d0.1.fBelow,q0] G1 (.tl .hd) (o2 rfl (AI s2)) (fun c4 H1 g1=>?_)
 have R0:=Tt K0 (Tt M0 g1)
 have t2:=Ap D2 R0
 refine AL [.bool d0.2.fBelow,U2] H1 .hd (o2 rfl (AI t2)) (fun d4 u0 P0=>?_)
 refine Aa<|Ac<|Ab (AB rfl (u0.memA (.tl (.tl (.tl (.tl .hd))))))<|Ab (AB rfl (u0.memA (.tl (.tl .hd)))) ?_
 obtain ⟨g0,Q2,h⟩:=bi h
 have C2:=Tt J0 (Tt d1 (Tt Q1 (Tt K0 (Tt M0 (Tt g1 P0)))))
 have u2:=Ap W0 C2
 refine AX (fst:=[]) (cap:=[]) .plain body168 rfl (e2 rfl rfl) (fun w9 hw9=>wide_Long_Parts_c n _ w9 (u0.hL hL hw9) a1 (u0.km h1_1 hw9) X0 (Am u2 hw9) Q2) rfl (fun g4 F3 X1 ⟨s0,V2,hu_,G0,E2⟩=>?_)
 subst hu_
 obtain ⟨I1,j1⟩:=u0.agr X1
 refine Ae rfl<|Ab (Af rfl rfl)<|Ab (Af rfl rfl)<|Aj .plain rfl (Av [.bool false,vN] I1) (fun j4 p3 J1 C0=>?_)
 refine Aj .plain rfl (Av [.bool false,vN] J1) (fun k4 q3 K1 D0=>?_)
 have v2:=Ap G0 (Tt C0 D0)
 refine AL [.bool g0.1.fBelow,s0] K1 (.tl .hd) (o2 rfl (AI v2)) (fun p4 M1 Q0=>?_)
 have E0:=Tt C0 (Tt D0 Q0)
 have x2:=Ap E2 E0
 refine AL [.bool g0.2.fBelow,V2] M1 .hd (o2 rfl (AI x2)) (fun G3 b0 v0=>?_)
 refine Aa<|Ak<|Ac<|Bg 0 rfl<|Bd rfl ((b0.memA (.tl .hd)) 0 _ rfl)<|Aa<|MX.ifb rfl h (fun x1 h=>?_) (fun x1 h=>?_)
 refine AF 4 tb131_5 (by kernel_rfl) (by kernel_rfl) (by kernel_rfl) (fun c0 v1=>?_)
 refine AD 0 1 58 c0 rfl v1 (AB rfl (b0.memA (.tl (.tl (.tl .hd))))) rfl<|AD 2 5 56 c0 rfl v1 (AB rfl (b0.memA (.tl .hd))) rfl ?_
 obtain ⟨x0,J2,h⟩:=bi h
 have y2:=Tt R0 (Tt P0 (Tt j1 (Tt C0 (Tt D0 (Tt Q0 v0)))))
 have Y1:=Ap F0 y2
 refine Bi 1 7 c0 rfl .plain body137 rfl (e1 rfl) (fun w9 hw9=>wide_Long_Turned_c n _ w9 (b0.hL hL hw9) d0.1 (Am Y1 hw9) J2) rfl (fun H3 B3 R1 ⟨k0,hu_,U0⟩=>?_)
 subst hu_
 obtain ⟨Y0,P1⟩:=b0.agr R1
 obtain ⟨y0,K2,h⟩:=bi h
 have z2:=Tt E0 (Tt v0 P1)
 have Z1:=Ap G0 z2
 refine Bi 3 15 c0 rfl .plain body137 rfl (e1 rfl) (fun w9 hw9=>wide_Long_Turned_c n _ w9 (Y0.hL hL hw9) g0.1 (Am Z1 hw9) K2) rfl (fun J3 C3 U1 ⟨p0,hu_,V0⟩=>?_)
 subst hu_
 obtain ⟨z1,Z0⟩:=Y0.agr U1
 have b2:=Ap U0 Z0
 refine Bt 4 31 c0 rfl rfl .plain (Ay (news:=[.bool x0.fBelow,k0]) z1 (.tl (.tl (.tl .hd))) rfl rfl rfl rfl rfl rfl (o2 rfl (AI b2))) (fun K3 A1 B0=>?_)
 have c2:=Ap V0 B0
 refine Bt 5 63 c0 rfl rfl .plain (Ay (news:=[.bool y0.fBelow,p0]) A1 (.tl .hd) rfl rfl rfl rfl rfl rfl (o2 rfl (AI c2))) (fun M3 H0 I0=>?_)
 refine AE (doneD_ok c0 (by kernel_rfl))<|Ac<|Ab (AB rfl (H0.memA (.tl (.tl (.tl .hd)))))<|Ab (AB rfl (H0.memA (.tl .hd))) ?_
 have t1:=Tt Z0 (Tt B0 I0)
 have k1:=Ap U0 t1
 obtain ⟨W2,s3,F2,_⟩:=Rep.sl k1
 have p1:=Ap V0 (Tt B0 I0)
 obtain ⟨X2,t3,G2,_⟩:=Rep.sl p1
 refine Ab (AS (vs:=[.agg #[.bool x0.fBelow,k0],.agg #[.bool y0.fBelow,p0]]) (u:=.agg #[.bool x0.fBelow,k0,.bool y0.fBelow,p0]) (e2 rfl rfl) (fun w9=>by rw [F2,G2]; try kernel_rfl))<|AL [.bool x0.fBelow,k0,.bool y0.fBelow,p0] H0 (.tl (.tl (.tl (.tl (.tl .hd))))) (o4 rfl (AI k1) rfl (AI p1)) (fun P3 z0 b1=>?_)
 refine Aa<|Al rfl<|Ao hb0 Tryz.func131 rfl (.cons (.many (cs:=[.bool x0.fBelow,k0,.bool y0.fBelow,p0]) (by kernel_rfl) rfl (z0.memA (.tl (.tl (.tl (.tl (.tl .hd))))))) .nil) rfl ?_
 cases h
 have d2:=Ap U0 (Tt t1 b1)
 have A2:=Tt B0 (Tt I0 b1)
 have g2:=Ap V0 A2
 exact ⟨z0.ag,fun w9 hw9=>⟨k0,p0,rfl,z0.kd d2 hw9,z0.kd g2 hw9⟩⟩
 refine Aq<|Ac<|Ab (AB rfl (b0.memA (.tl (.tl (.tl .hd)))))<|Ab (AB rfl (b0.memA (.tl .hd))) ?_
 have u1:=Tt R0 (Tt P0 (Tt j1 (Tt C0 (Tt D0 (Tt Q0 v0)))))
 have q1:=Ap F0 u1
 obtain ⟨Y2,u3,H2,_⟩:=Rep.sl q1
 have s1:=Ap G0 (Tt E0 v0)
 obtain ⟨Z2,v3,I2,_⟩:=Rep.sl s1
 refine Ab (AS (vs:=[.agg #[.bool d0.1.fBelow,q0],.agg #[.bool g0.1.fBelow,s0]]) (u:=.agg #[.bool d0.1.fBelow,q0,.bool g0.1.fBelow,s0]) (e2 rfl rfl) (fun w9=>by rw [H2,I2]; try kernel_rfl))<|AL [.bool d0.1.fBelow,q0,.bool g0.1.fBelow,s0] b0 (.tl (.tl (.tl (.tl (.tl .hd))))) (o4 rfl (AI q1) rfl (AI s1)) (fun Q3 A0 c1=>?_)
 refine Aa<|Al rfl<|Ao hb0 Tryz.func131 rfl (.cons (.many (cs:=[.bool d0.1.fBelow,q0,.bool g0.1.fBelow,s0]) (by kernel_rfl) rfl (A0.memA (.tl (.tl (.tl (.tl (.tl .hd))))))) .nil) rfl ?_
 cases h
 have j2:=Ap F0 (Tt u1 c1)
 have B2:=Tt E0 (Tt v0 c1)
 have k2:=Ap G0 B2
 exact ⟨A0.ag,fun w9 hw9=>⟨q0,s0,rfl,A0.kd j2 hw9,A0.kd k2 hw9⟩⟩
def math_bits_Mul64_p (_n:Nat) (a0:UInt64) (a1:UInt64):Option (UInt64 × UInt64):=
  (some (((shrU a0 32) * (a1 &&& (4294967295:UInt64))) + (shrU ((a0 &&& (4294967295:UInt64)) * (a1 &&& (4294967295:UInt64))) 32))).bind fun u1=>(some (shrU ((u1 &&& (4294967295:UInt64)) + ((a0 &&& (4294967295:UInt64)) * (shrU a1 32))) 32)).bind fun u2=>some ((((shrU a0 32) * (shrU a1 32)) + (shrU u1 32)) + u2,a0 * a1)
theorem math_bits_Mul64_c (n:Nat) (L:List Nat) (w:World) (_hL:∀ b ∈ L,b < w.heap.size) (a0:UInt64) (a1:UInt64)  {r:UInt64 × UInt64} (h:math_bits_Mul64_p n a0 a1 = some r) :
    Calls Tryz.prog 195 #[vU a0,vU a1] w (Gives w fun _ u=>u = .tuple #[vU r.1,vU r.2]):=by
 unfold math_bits_Mul64_p at h
 have hS0:=Ax w
 refine AA Tryz.func195 rfl rfl rfl (fun _ cs0 hb0=>?_)
 refine Ac<|Ag rfl<|Ag rfl<|Aa<|Ac<|Ae rfl<|Ab (FV.andU (a:=a0) (b:=(4294967295:UInt64)) rfl rfl)<|Ag rfl<|Aa<|Ac<|Ae rfl<|Ab (FV.shrU (a:=a0) (j:=32) rfl rfl)<|Ag rfl<|Aa<|Ac<|Ae rfl<|Ab (FV.andU (a:=a1) (b:=(4294967295:UInt64)) rfl rfl)<|Ag rfl<|Aa<|Ac<|Ae rfl<|Ab (FV.shrU (a:=a1) (j:=32) rfl rfl)<|Ag rfl<|Aa ?_
 refine Ac<|Ae rfl<|Ae rfl<|Ab (FV.mulU (a:=a0 &&& (4294967295:UInt64)) (b:=a1 &&& (4294967295:UInt64)) rfl rfl)<|Ag rfl<|Aa<|Ac<|Ae rfl<|Ae rfl<|Ab (FV.mulU (a:=shrU a0 32) (b:=a1 &&& (4294967295:UInt64)) rfl rfl)<|Ae rfl<|Ab (FV.shrU (a:=(a0 &&& (4294967295:UInt64)) * (a1 &&& (4294967295:UInt64))) (j:=32) rfl rfl) ?_
 obtain ⟨u1,hu1,h⟩:=bi h
 refine Ab (FV.as (FV.addU (a:=(shrU a0 32) * (a1 &&& (4294967295:UInt64))) (b:=shrU ((a0 &&& (4294967295:UInt64)) * (a1 &&& (4294967295:UInt64))) 32) rfl rfl) (congrArg (fun z:UInt64=>Value.int .u64 (z.toNat:Int)) (Option.some.inj hu1)))<|Ag rfl<|Aa<|Ac<|Ae rfl<|Ab (FV.andU (a:=u1) (b:=(4294967295:UInt64)) rfl rfl)<|Ag rfl<|Aa<|Ac<|Ae rfl<|Ab (FV.shrU (a:=u1) (j:=32) rfl rfl)<|Ag rfl<|Aa<|Ac<|Ae rfl<|Ae rfl<|Ae rfl<|Ab (FV.mulU (a:=a0 &&& (4294967295:UInt64)) (b:=shrU a1 32) rfl rfl)<|Ab (FV.addU (a:=u1 &&& (4294967295:UInt64)) (b:=(a0 &&& (4294967295:UInt64)) * (shrU a1 32)) rfl rfl)<|Ag rfl<|Aa<|Ac<|Ae rfl<|Ae rfl ?_
 refine Ab (FV.mulU (a:=shrU a0 32) (b:=shrU a1 32) rfl rfl)<|Ae rfl<|Ab (FV.addU (a:=(shrU a0 32) * (shrU a1 32)) (b:=shrU u1 32) rfl rfl)<|Ae rfl ?_
 obtain ⟨u2,hu2,h⟩:=bi h
 refine Ab (FV.as (FV.shrU (a:=(u1 &&& (4294967295:UInt64)) + ((a0 &&& (4294967295:UInt64)) * (shrU a1 32))) (j:=32) rfl rfl) (congrArg (fun z:UInt64=>Value.int .u64 (z.toNat:Int)) (Option.some.inj hu2)))<|Ab (FV.addU (a:=((shrU a0 32) * (shrU a1 32)) + (shrU u1 32)) (b:=u2) rfl rfl)<|Ag rfl<|Aa<|Ac<|Ae rfl<|Ae rfl<|Ab (FV.mulU (a:=a0) (b:=a1) rfl rfl)<|Ag rfl<|Aa<|Al rfl<|Ao hb0 Tryz.func195 rfl (.cons (.tmp rfl) (.cons (.tmp rfl) .nil)) rfl ?_
 cases h
 exact hS0.gv
theorem body195:bodyB Tryz.prog 195 = true:=by kernel_rfl
def wide_multiplied_l1 (n:Nat) (a1:List UInt64) (s0:UInt64) (d0:Nat) (q0:UInt64 × Nat × (List UInt64) → Option ((List UInt64) × UInt64)):UInt64 × Nat × (List UInt64) → Option ((List UInt64) × UInt64)
  | (g0,b0,c0)=>(if b0 < a1.length then (a1[b0]?).bind fun t0=>(math_bits_Mul64_p n s0 t0).bind fun j0=>(c0[d0 + b0]?).bind fun u0=>(add64 u0 j0.2 (0:UInt64)).bind fun k0=>(add64 k0.1 g0 (0:UInt64)).bind fun p0=>(put c0 ((d0 + b0:Nat):Int) p0.1).bind fun v0=>q0 ((j0.1 + k0.2) + p0.2,b0 + 1,v0) else some (c0,g0))
def wide_multiplied_l2 (n:Nat) (a0:List UInt64) (a1:List UInt64) (g0:Nat × (List UInt64) → Option (List UInt64)):Nat × (List UInt64) → Option (List UInt64)
  | (b0,c0)=>(if b0 < a0.length then (a0[b0]?).bind fun k0=>Option.bind (loopF (wide_multiplied_l1 n a1 k0 b0) n ((0:UInt64),0,c0)) (fun (d0,j0)=>(d0[b0 + a1.length]?).bind fun q0=>(put d0 ((b0 + a1.length:Nat):Int) j0).bind fun p0=>g0 (b0 + 1,p0)) else some c0)
def wide_multiplied_p (n:Nat) (a0:List UInt64) (a1:List UInt64):Option (List UInt64):=
  (mk ((a0.length + a1.length:Nat):Int) (0:UInt64)).bind fun b0=>Option.bind (loopF (wide_multiplied_l2 n a0 a1) n (0,b0)) (fun c0=>some c0)
theorem wide_multiplied_c (n:Nat) (L:List Nat) (w:World) (hL:∀ b ∈ L,b < w.heap.size) (a0:List UInt64) {v0_0:Value} (h0_0:Rep.R w L [v0_0] a0) (a1:List UInt64) {v1_0:Value} (h1_0:Rep.R w L [v1_0] a1)  {r:List UInt64} (h:wide_multiplied_p n a0 a1 = some r) :
    Calls Tryz.prog 170 #[v0_0,v1_0] w (Gives w fun w' u=>∃ v0_0:Value,u = v0_0∧Rep.R w' L [v0_0] r):=by
 unfold wide_multiplied_p at h
 have hS0:=Ax w
 refine AA Tryz.func170 rfl rfl rfl (fun _ cs0 hb0=>?_)
 refine Ac<|Ag rfl<|Aa<|Ac<|Ae rfl ?_
 have hl1:a0.length ≤ 281474976710656:=AT h0_0
 refine Ab (Bb (xs:=a0) Tryz.underlying121 rfl h0_0)<|Ae rfl ?_
 have hl2:a1.length ≤ 281474976710656:=AT h1_0
 refine Ab (Bb (xs:=a1) Tryz.underlying121 rfl h1_0)<|Ab (Br (i:=a0.length) (j:=a1.length) rfl rfl (by omega)) ?_
 obtain ⟨G0,P0,h⟩:=bi h
 refine Aj .plain rfl (Does.mk (α:=UInt64) P0 hS0 el121 rfl) (fun C2 d0 B0 V2=>?_)
 have A1:=AG (cs:=(List.replicate ((a0.length + a1.length:Nat):Int).toNat [vW 0]).flatten) (xs:=G0) B0 L (Cells.mk P0 rfl)
 refine Ag rfl<|Aa<|Ak<|Ac<|Ae rfl ?_
 have Q1:=AM h0_0 B0
 refine Ab (Bb (xs:=a0) Tryz.underlying121 rfl Q1)<|Ae rfl<|Aa<|Az ?_
 obtain ⟨Y2,b2,J1⟩:=bind_in2 h
 refine Bj (α:=Nat × (List UInt64) × (List Value)) (fun ⟨b0,g0,j0⟩=>[(1,v1_0),(5,(.slice (some ⟨d0,0,none⟩) ((a0.length + a1.length:Nat):Int).toNat ((a0.length + a1.length:Nat):Int).toNat)),(22,v0_0),(23,vI ((a0.length:Nat):Int)),(24,vI ((b0:Nat):Int))]) (fun ⟨b0,g0,j0⟩ v0=>St w v0 [.row w.heap.size 33 (Rep.size UInt64) (.slice (some ⟨d0,0,none⟩) ((a0.length + a1.length:Nat):Int).toNat ((a0.length + a1.length:Nat):Int).toNat) g0.length j0]∧Tr C2 [.row w.heap.size 33 (Rep.size UInt64) (.slice (some ⟨d0,0,none⟩) ((a0.length + a1.length:Nat):Int).toNat ((a0.length + a1.length:Nat):Int).toNat) G0.length ((List.replicate ((a0.length + a1.length:Nat):Int).toNat [vW 0]).flatten)] v0 [.row w.heap.size 33 (Rep.size UInt64) (.slice (some ⟨d0,0,none⟩) ((a0.length + a1.length:Nat):Int).toNat ((a0.length + a1.length:Nat):Int).toNat) g0.length j0]∧Cells v0 (bl [.row w.heap.size 33 (Rep.size UInt64) (.slice (some ⟨d0,0,none⟩) ((a0.length + a1.length:Nat):Int).toNat ((a0.length + a1.length:Nat):Int).toNat) g0.length j0] ++ L) j0 g0) (fun ⟨b0,g0,j0⟩=>(b0,g0)) (0,G0,(List.replicate ((a0.length + a1.length:Nat):Int).toNat [vW 0]).flatten) b2 ⟨rfl,rfl,rfl,rfl,rfl,trivial⟩ ⟨B0,AP _ _,A1⟩ ?_
 rintro I2 ⟨b0,g0,j0⟩ v0 q1 ⟨s0,x1,I0⟩ h
 unfold wide_multiplied_l2 at h
 try dsimp only at h
 refine Ac<|Ab (Bn (i:=b0) (j:=a0.length) rfl rfl)<|Aa<|Ak<|AQ rfl h (fun Z0 h=>?_) (fun Z0 h=>?_)
 refine Aq<|Ak<|Az<|Ac<|Ae rfl ?_
 obtain ⟨F0,s2,h⟩:=bi h
 have U1:=AM h0_0 s0
 obtain ⟨G2,K2,D1,M1,c1,d2,R1⟩:=Bm U1 s2
 have E1:c1 = [vU F0]:=d2; subst E1
 refine Ab (Bo 1 b0 rfl D1 rfl rfl M1)<|Bd rfl (R1 0 _ rfl)<|Ag rfl<|Ag rfl<|Aa<|Ac<|Ag rfl<|Aa<|Ak<|Ac<|Ae rfl ?_
 have V1:=AM h1_0 s0
 refine Ab (Bb (xs:=a1) Tryz.underlying121 rfl V1)<|Ae rfl<|Aa<|Az ?_
 obtain ⟨Z2,c2,K1⟩:=bind_in2 h
 refine Bj (α:=UInt64 × Nat × (List UInt64) × (List Value)) (fun ⟨t0,c0,p0,q0⟩=>[(1,v1_0),(5,(.slice (some ⟨d0,0,none⟩) ((a0.length + a1.length:Nat):Int).toNat ((a0.length + a1.length:Nat):Int).toNat)),(22,v0_0),(23,vI ((a0.length:Nat):Int)),(24,vI ((b0:Nat):Int)),(6,vI ((b0:Nat):Int)),(7,vU F0),(8,vU t0),(29,v1_0),(30,vI ((a1.length:Nat):Int)),(31,vI ((c0:Nat):Int))]) (fun ⟨t0,c0,p0,q0⟩ z0=>St w z0 [.row w.heap.size 33 (Rep.size UInt64) (.slice (some ⟨d0,0,none⟩) ((a0.length + a1.length:Nat):Int).toNat ((a0.length + a1.length:Nat):Int).toNat) p0.length q0]∧Tr v0 [.row w.heap.size 33 (Rep.size UInt64) (.slice (some ⟨d0,0,none⟩) ((a0.length + a1.length:Nat):Int).toNat ((a0.length + a1.length:Nat):Int).toNat) g0.length j0] z0 [.row w.heap.size 33 (Rep.size UInt64) (.slice (some ⟨d0,0,none⟩) ((a0.length + a1.length:Nat):Int).toNat ((a0.length + a1.length:Nat):Int).toNat) p0.length q0]∧Cells z0 (bl [.row w.heap.size 33 (Rep.size UInt64) (.slice (some ⟨d0,0,none⟩) ((a0.length + a1.length:Nat):Int).toNat ((a0.length + a1.length:Nat):Int).toNat) p0.length q0] ++ L) q0 p0) (fun ⟨t0,c0,p0,q0⟩=>(t0,c0,p0)) ((0:UInt64),0,g0,j0) c2 ⟨rfl,rfl,rfl,rfl,rfl,rfl,rfl,rfl,rfl,rfl,rfl,trivial⟩ ⟨s0,AP _ _,I0⟩ ?_
 rintro J2 ⟨t0,c0,p0,q0⟩ z0 s1 ⟨k0,H0,x0⟩ h
 unfold wide_multiplied_l1 at h
 try dsimp only at h
 refine Ac<|Ab (Bn (i:=c0) (j:=a1.length) rfl rfl)<|Aa<|Ak<|AQ rfl h (fun b1 h=>?_) (fun b1 h=>?_)
 refine Aq<|Ak<|Az<|Ac<|Ae rfl ?_
 obtain ⟨Q0,t2,h⟩:=bi h
 have X1:=AM h1_0 k0
 obtain ⟨H2,M2,F1,P1,d1,g2,W1⟩:=Bm X1 t2
 have G1:d1 = [vU Q0]:=g2; subst G1
 refine Ab (Bo 1 c0 rfl F1 rfl rfl P1)<|Bd rfl (W1 0 _ rfl)<|Ag rfl<|Ag rfl<|Aa<|Ac<|Ae rfl<|Ae rfl ?_
 obtain ⟨u0,z2,h⟩:=bi h
 refine Bf (.tuple #[vU u0.1,vU u0.2]) body195 rfl (e2 rfl rfl) (fun w9 hw9=>math_bits_Mul64_c n _ w9 (k0.hL0 hL hw9) F0 Q0 z2) rfl<|Ae rfl<|Ab (Af rfl rfl)<|Ab (Af rfl rfl)<|Ag rfl<|Ag rfl<|Aa<|Ac<|Ae rfl<|Ae rfl<|Ae rfl<|Ab (Br (i:=b0) (j:=c0) rfl rfl (by omega)) ?_
 obtain ⟨R0,u2,h⟩:=bi h
 obtain ⟨V0,P2,y0,E0,g1,j2,Y1⟩:=St.nth (α:=UInt64) k0 .hd x0 u2
 obtain ⟨X0,Q2,J0⟩:=St.nthOwn (α:=UInt64) k0 .hd E0
 obtain rfl:V0 = ⟨X0,0,none⟩:=by rw [J0] at y0; cases y0; rfl
 have H1:g1 = [vU R0]:=j2; subst H1
 refine Ab (Bo 1 (b0 + c0) rfl y0 rfl rfl E0)<|Bd rfl (Y1 0 _ rfl)<|Ae rfl ?_
 obtain ⟨A0,A2,h⟩:=bi h
 refine Ab (FV.add64 (a:=R0) (b:=u0.2) (c:=(0:UInt64)) Tryz.func196 rfl (by kernel_rfl) (by kernel_rfl) (by kernel_rfl) rfl rfl rfl A2)<|Ae rfl<|Ab (Af rfl rfl)<|Ab (Af rfl rfl)<|Ag rfl<|Ag rfl<|Aa<|Ac<|Ae rfl<|Ae rfl ?_
 obtain ⟨U0,B2,h⟩:=bi h
 refine Ab (FV.add64 (a:=A0.1) (b:=t0) (c:=(0:UInt64)) Tryz.func196 rfl (by kernel_rfl) (by kernel_rfl) (by kernel_rfl) rfl rfl rfl B2)<|Ae rfl<|Ab (Af rfl rfl)<|Ab (Af rfl rfl)<|Ag rfl<|Ag rfl<|Aa<|Ar<|Ae rfl<|Ae rfl<|Ae rfl<|Ab (Br (i:=b0) (j:=c0) rfl rfl (by omega))<|Ae rfl<|Ae rfl<|Ae rfl<|Ab (FV.addU (a:=u0.1) (b:=A0.2) rfl rfl)<|Ae rfl<|Ab (FV.addU (a:=u0.1 + A0.2) (b:=U0.2) rfl rfl)<|Ab (Bo 1 (b0 + c0) rfl y0 rfl rfl E0) ?_
 obtain ⟨E2,x2,h⟩:=bi h
 refine RG.acts' .plain (Acts.set (α:=UInt64) (i:=b0 + c0) x2 k0 J0 (fun _=>.hd) x0 rfl rfl rfl rfl rfl (by kernel_rfl)) (fun b3 ⟨j1,u1,y1,B1⟩=>?_)
 refine Ag rfl<|Aa<|AC<|Ar<|Ab (Br (i:=c0) (j:=1) rfl rfl (by omega))<|Ae rfl<|Aa ?_
 exact s1 ((u0.1 + A0.2) + U0.2,c0 + 1,E2,j1) _ _ ⟨rfl,rfl,rfl,rfl,rfl,rfl,rfl,rfl,rfl,rfl,rfl,trivial⟩ ⟨u1,(Tt H0 y1),B1⟩ h
 refine Be rfl ?_
 have h:=K1 _ h
 try dsimp only at h
 refine Ar<|Ae rfl<|Ae rfl<|Ae rfl ?_
 have Z1:=AM h1_0 k0
 refine Ab (Bb (xs:=a1) Tryz.underlying121 rfl Z1)<|Ab (Br (i:=b0) (j:=a1.length) rfl rfl (by omega))<|Ae rfl ?_
 obtain ⟨D2,v2,h⟩:=bi h
 obtain ⟨W0,R2,D0,M0,k1,k2,X2⟩:=St.nth (α:=UInt64) k0 .hd x0 v2
 obtain ⟨Y0,U2,K0⟩:=St.nthOwn (α:=UInt64) k0 .hd M0
 obtain rfl:W0 = ⟨Y0,0,none⟩:=by rw [K0] at D0; cases D0; rfl
 have I1:k1 = [vU D2]:=k2; subst I1
 refine Ab (Bo 1 (b0 + a1.length) rfl D0 rfl rfl M0) ?_
 obtain ⟨F2,y2,h⟩:=bi h
 refine RG.acts' .plain (Acts.set (α:=UInt64) (i:=b0 + a1.length) y2 k0 K0 (fun _=>.hd) x0 rfl rfl rfl rfl rfl (by kernel_rfl)) (fun c3 ⟨p1,v1,z1,C1⟩=>?_)
 refine Aa<|AC<|Ar<|Ab (Br (i:=b0) (j:=1) rfl rfl (by omega))<|Ae rfl<|Aa ?_
 exact q1 (b0 + 1,F2,p1) _ _ ⟨rfl,rfl,rfl,rfl,rfl,trivial⟩ ⟨v1,(Tt x1 (Tt H0 z1)),C1⟩ h
 refine Be rfl ?_
 have h:=J1 _ h
 try dsimp only at h
 refine Ac<|Ae rfl<|Ag rfl<|Aa<|Al rfl ?_
 have p2:=Bq (α:=UInt64) s0 .hd I0 hL
 have C0:=BD s0 .hd
 have W2:=BE s0 .hd
 have q2:=BF (α:=UInt64) (v:=(.slice (some ⟨d0,0,none⟩) ((a0.length + a1.length:Nat):Int).toNat ((a0.length + a1.length:Nat):Int).toNat)) (xs:=g0) C0 L p2
 refine Bc hb0 Tryz.func170 rfl rfl ?_
 cases h
 exact ⟨C0.ag,fun w9 hw9=>⟨(.slice (some ⟨d0,0,none⟩) ((a0.length + a1.length:Nat):Int).toNat ((a0.length + a1.length:Nat):Int).toNat),rfl,C0.kd q2 hw9⟩⟩
def tb132_1:List (Nat × Nat × Nat):=[(0,32,4),(1,64,32),(0,128,8),(4,256,128),(10,512,320),(0,1024,4),(32,2048,1024),(0,4096,8),(128,8192,4096),(320,16384,10240),(528,32768,16896),(2047,0,32784)]
theorem body170:bodyB Tryz.prog 170 = true:=by kernel_rfl
def wide_Long_Times_p (n:Nat) (a0:TLong) (a1:TLong):Option TLong:=
  (wide_multiplied_p n a0.fWords a1.fWords).bind fun b0=>(wide_trimmed_p n (!(a0.fBelow == a1.fBelow)) b0).bind fun c0=>some c0
theorem wide_Long_Times_c (n:Nat) (L:List Nat) (w:World) (hL:∀ b ∈ L,b < w.heap.size) (a0:TLong) {v0_1:Value} (h0_1:Rep.R w L [v0_1] a0.fWords) (a1:TLong) {v1_1:Value} (h1_1:Rep.R w L [v1_1] a1.fWords)  {r:TLong} (h:wide_Long_Times_p n a0 a1 = some r) :
    Calls Tryz.prog 132 #[.agg #[.bool a0.fBelow,v0_1],.agg #[.bool a1.fBelow,v1_1]] w (Gives w fun w' u=>∃ v0_1:Value,u = .agg #[.bool r.fBelow,v0_1]∧Rep.R w' L [v0_1] r.fWords):=by
 unfold wide_Long_Times_p at h
 have hS0:=Ax w
 refine AA Tryz.func132 rfl rfl rfl (fun _ cs0 hb0=>?_)
 refine Ac<|Aj .plain rfl (Aw hS0 rfl rfl) (fun U0 E0 s0 H0=>?_)
 refine Aj .plain rfl (Aw s0 rfl rfl) (fun V0 F0 t0 I0=>?_)
 refine Aj .plain rfl (Av [.bool false,vN] t0) (fun W0 G0 d0 J0=>?_)
 refine Aa<|Ak<|AF 11 tb132_1 (by kernel_rfl) (by kernel_rfl) (by kernel_rfl) (fun b0 c0=>?_)
 refine Ah 0 1 b0 rfl c0 (fun _=>Bh 0 rfl) rfl<|AD 1 3 3088 b0 rfl c0 (AK rfl ((d0.memA (.tl (.tl .hd))) 0 _ rfl)) rfl<|Ah 2 7 b0 rfl c0 (fun _=>Bh 0 rfl) rfl<|AD 3 15 3088 b0 rfl c0 (AK rfl ((d0.memA (.tl .hd)) 0 _ rfl)) rfl<|Ah 4 31 b0 rfl c0 (fun _=>FV.neqB (a:=a0.fBelow) (b:=a1.fBelow) Tryz.underlying4 rfl rfl) rfl<|Ah 5 63 b0 rfl c0 (fun _=>Bh 1 rfl) rfl<|AD 6 127 3584 b0 rfl c0 (AK rfl ((d0.memA (.tl (.tl .hd))) 1 _ rfl)) rfl<|Ah 7 255 b0 rfl c0 (fun _=>Bh 1 rfl) rfl<|AD 8 511 3584 b0 rfl c0 (AK rfl ((d0.memA (.tl .hd)) 1 _ rfl)) rfl ?_
 obtain ⟨D0,B0,h⟩:=bi h
 refine Bi 9 1023 b0 rfl .plain body170 rfl (e2 rfl rfl) (fun w9 hw9=>wide_multiplied_c n _ w9 (d0.hL hL hw9) a0.fWords (d0.km h0_1 hw9) a1.fWords (d0.km h1_1 hw9) B0) rfl (fun X0 Q0 x0 ⟨P0,hu_,A0⟩=>?_)
 subst hu_
 obtain ⟨k0,K0⟩:=d0.agr x0
 obtain ⟨q0,C0,h⟩:=bi h
 refine Bi 10 2047 b0 rfl .plain body169 rfl (e2 rfl rfl) (fun w9 hw9=>wide_trimmed_c n _ w9 (k0.hL hL hw9) (!(a0.fBelow == a1.fBelow)) D0 (Am A0 hw9) C0) rfl (fun Y0 R0 y0 ⟨j0,hu_,p0⟩=>?_)
 subst hu_
 obtain ⟨u0,M0⟩:=k0.agr y0
 refine Bt 11 4095 b0 rfl rfl .plain (Ay (news:=[.bool q0.fBelow,j0]) u0 .hd rfl rfl rfl rfl rfl rfl (o2 rfl (AI p0))) (fun Z0 g0 v0=>?_)
 refine AE (doneD_ok b0 (by kernel_rfl))<|Al rfl<|Ao hb0 Tryz.func132 rfl (.cons (.many (cs:=[.bool q0.fBelow,j0]) (by kernel_rfl) rfl (g0.memA .hd)) .nil) rfl ?_
 cases h
 have z0:=Ap p0 v0
 exact ⟨g0.ag,fun w9 hw9=>⟨j0,rfl,g0.kd z0 hw9⟩⟩
def tb83_1:List (Nat × Nat × Nat):=[(0,32,4),(1,64,32),(0,128,8),(4,256,128),(10,512,320),(0,1024,8),(32,2048,1024),(0,4096,4),(128,8192,4096),(336,16384,10240),(528,32768,16896),(0,65536,4),(2048,131072,65536),(0,262144,8),(8192,524288,262144),(21504,1048576,655360),(33792,2097152,1081344),(131071,0,2097168)]
theorem body131:bodyB Tryz.prog 131 = true:=by kernel_rfl
theorem body132:bodyB Tryz.prog 132 = true:=by kernel_rfl
def share_Ratio_Plus_p (n:Nat) (a0:TRatio) (a1:TRatio):Option TRatio:=
  (wide_Long_Times_p n a0.fLong a1.fUnder).bind fun b0=>(wide_Long_Times_p n a1.fLong a0.fUnder).bind fun c0=>(wide_Long_Plus_p n b0 c0).bind fun d0=>(wide_Long_Times_p n a0.fUnder a1.fUnder).bind fun g0=>(share_Lowest_p n d0 g0).bind fun j0=>some j0
theorem share_Ratio_Plus_c (n:Nat) (L:List Nat) (w:World) (hL:∀ b ∈ L,b < w.heap.size) (a0:TRatio) {v0_1:Value} (h0_1:Rep.R w L [v0_1] a0.fLong.fWords) {v0_3:Value} (h0_3:Rep.R w L [v0_3] a0.fUnder.fWords) (a1:TRatio) {v1_1:Value} (h1_1:Rep.R w L [v1_1] a1.fLong.fWords) {v1_3:Value} (h1_3:Rep.R w L [v1_3] a1.fUnder.fWords)  {r:TRatio} (h:share_Ratio_Plus_p n a0 a1 = some r) :
    Calls Tryz.prog 83 #[.agg #[.bool a0.fLong.fBelow,v0_1,.bool a0.fUnder.fBelow,v0_3],.agg #[.bool a1.fLong.fBelow,v1_1,.bool a1.fUnder.fBelow,v1_3]] w (Gives w fun w' u=>∃ v0_1 v0_3:Value,u = .agg #[.bool r.fLong.fBelow,v0_1,.bool r.fUnder.fBelow,v0_3]∧Rep.R w' L [v0_1] r.fLong.fWords∧Rep.R w' L [v0_3] r.fUnder.fWords):=by
 unfold share_Ratio_Plus_p at h
 have hS0:=Ax w
 refine AA Tryz.func83 rfl rfl rfl (fun _ cs0 hb0=>?_)
 refine Ac<|Aj .plain rfl (Aw hS0 rfl rfl) (fun I1 k1 z0 s1=>?_)
 refine Aj .plain rfl (Aw z0 rfl rfl) (fun J1 p1 A0 t1=>?_)
 refine Aj .plain rfl (Av [.bool false,vN,.bool false,vN] A0) (fun K1 q1 d0 u1=>?_)
 refine Aa<|Ak<|AF 17 tb83_1 (by kernel_rfl) (by kernel_rfl) (by kernel_rfl) (fun b0 c0=>?_)
 refine Ah 0 1 b0 rfl c0 (fun _=>Bh 0 rfl) rfl<|AD 1 3 230928 b0 rfl c0 (Bl (cs:=[.bool a0.fLong.fBelow,v0_1]) (by kernel_rfl) rfl (mem_part (d0.memA (.tl (.tl .hd))) 0 2)) rfl<|Ah 2 7 b0 rfl c0 (fun _=>Bh 2 rfl) rfl<|AD 3 15 230928 b0 rfl c0 (Bl (cs:=[.bool a1.fUnder.fBelow,v1_3]) (by kernel_rfl) rfl (mem_part (d0.memA (.tl .hd)) 2 2)) rfl<|Ah 5 47 b0 rfl c0 (fun _=>Bh 0 rfl) rfl<|AD 6 111 230912 b0 rfl c0 (Bl (cs:=[.bool a1.fLong.fBelow,v1_1]) (by kernel_rfl) rfl (mem_part (d0.memA (.tl .hd)) 0 2)) rfl<|Ah 7 239 b0 rfl c0 (fun _=>Bh 2 rfl) rfl<|AD 8 495 230912 b0 rfl c0 (Bl (cs:=[.bool a0.fUnder.fBelow,v0_3]) (by kernel_rfl) rfl (mem_part (d0.memA (.tl (.tl .hd))) 2 2)) rfl<|Ah 11 2543 b0 rfl c0 (fun _=>Bh 2 rfl) rfl<|AD 12 6639 229376 b0 rfl c0 (Bl (cs:=[.bool a0.fUnder.fBelow,v0_3]) (by kernel_rfl) rfl (mem_part (d0.memA (.tl (.tl .hd))) 2 2)) rfl<|Ah 13 14831 b0 rfl c0 (fun _=>Bh 2 rfl) rfl<|AD 14 31215 229376 b0 rfl c0 (Bl (cs:=[.bool a1.fUnder.fBelow,v1_3]) (by kernel_rfl) rfl (mem_part (d0.memA (.tl .hd)) 2 2)) rfl ?_
 obtain ⟨c1,W0,h⟩:=bi h
 refine Bi 4 31231 b0 rfl .plain body132 rfl (e2 rfl rfl) (fun w9 hw9=>wide_Long_Times_c n _ w9 (d0.hL hL hw9) a0.fLong (d0.km h0_1 hw9) a1.fUnder (d0.km h1_3 hw9) W0) rfl (fun M1 D1 E0 ⟨z1,hu_,Q0⟩=>?_)
 subst hu_
 obtain ⟨g0,v1⟩:=d0.agr E0
 obtain ⟨d1,X0,h⟩:=bi h
 refine Bi 9 31743 b0 rfl .plain body132 rfl (e2 rfl rfl) (fun w9 hw9=>wide_Long_Times_c n _ w9 (g0.hL hL hw9) a1.fLong (g0.km h1_1 hw9) a0.fUnder (g0.km h0_3 hw9) X0) rfl (fun P1 E1 F0 ⟨A1,hu_,R0⟩=>?_)
 subst hu_
 obtain ⟨t0,C0⟩:=g0.agr F0
 obtain ⟨g1,Y0,h⟩:=bi h
 have J0:=Ap Q0 C0
 refine Bi 10 32767 b0 rfl .plain body133 rfl (e2 rfl rfl) (fun w9 hw9=>wide_Long_Plus_c n _ w9 (t0.hL hL hw9) c1 (Am J0 hw9) d1 (Am R0 hw9) Y0) rfl (fun Q1 F1 G0 ⟨B1,hu_,U0⟩=>?_)
 subst hu_
 obtain ⟨j0,x1⟩:=t0.agr G0
 obtain ⟨j1,Z0,h⟩:=bi h
 refine Bi 15 65535 b0 rfl .plain body132 rfl (e2 rfl rfl) (fun w9 hw9=>wide_Long_Times_c n _ w9 (j0.hL hL hw9) a0.fUnder (j0.km h0_3 hw9) a1.fUnder (j0.km h1_3 hw9) Z0) rfl (fun R1 G1 H0 ⟨C1,hu_,V0⟩=>?_)
 subst hu_
 obtain ⟨u0,D0⟩:=j0.agr H0
 obtain ⟨p0,b1,h⟩:=bi h
 have K0:=Ap U0 D0
 refine Bi 16 131071 b0 rfl .plain body131 rfl (e2 rfl rfl) (fun w9 hw9=>share_Lowest_c n _ w9 (u0.hL hL hw9) g1 (Am K0 hw9) j1 (Am V0 hw9) b1) rfl (fun U1 H1 I0 ⟨q0,s0,hu_,x0,y0⟩=>?_)
 subst hu_
 obtain ⟨B0,y1⟩:=u0.agr I0
 refine Bt 17 262143 b0 rfl rfl .plain (Ay (news:=[.bool p0.fLong.fBelow,q0,.bool p0.fUnder.fBelow,s0]) B0 .hd rfl rfl rfl rfl rfl rfl (o4 rfl (AI x0) rfl (AI y0))) (fun V1 k0 v0=>?_)
 refine AE (doneD_ok b0 (by kernel_rfl))<|Al rfl<|Ao hb0 Tryz.func83 rfl (.cons (.many (cs:=[.bool p0.fLong.fBelow,q0,.bool p0.fUnder.fBelow,s0]) (by kernel_rfl) rfl (k0.memA .hd)) .nil) rfl ?_
 cases h
 have M0:=Ap x0 v0
 have P0:=Ap y0 v0
 exact ⟨k0.ag,fun w9 hw9=>⟨q0,s0,rfl,k0.kd M0 hw9,k0.kd P0 hw9⟩⟩
def tb96_1:List (Nat × Nat × Nat):=[(0,8,2),(1,16,8),(2,32,16),(0,64,2),(8,128,64),(20,256,160),(63,0,260)]
def share_Ratio_Turned_p (n:Nat) (a0:TRatio):Option TRatio:=
  (wide_Long_Turned_p n a0.fLong).bind fun b0=>some (⟨b0,a0.fUnder⟩:TRatio)
theorem share_Ratio_Turned_c (n:Nat) (L:List Nat) (w:World) (hL:∀ b ∈ L,b < w.heap.size) (a0:TRatio) {v0_1:Value} (h0_1:Rep.R w L [v0_1] a0.fLong.fWords) {v0_3:Value} (h0_3:Rep.R w L [v0_3] a0.fUnder.fWords)  {r:TRatio} (h:share_Ratio_Turned_p n a0 = some r) :
    Calls Tryz.prog 96 #[.agg #[.bool a0.fLong.fBelow,v0_1,.bool a0.fUnder.fBelow,v0_3]] w (Gives w fun w' u=>∃ v0_1 v0_3:Value,u = .agg #[.bool r.fLong.fBelow,v0_1,.bool r.fUnder.fBelow,v0_3]∧Rep.R w' L [v0_1] r.fLong.fWords∧Rep.R w' L [v0_3] r.fUnder.fWords):=by
 unfold share_Ratio_Turned_p at h
 have hS0:=Ax w
 refine AA Tryz.func96 rfl rfl rfl (fun _ cs0 hb0=>?_)
 refine Ac<|Aj .plain rfl (Aw hS0 rfl rfl) (fun P0 E0 u0 I0=>?_)
 refine Aj .plain rfl (Av [.bool false,vN,.bool false,vN] u0) (fun Q0 F0 c0 J0=>?_)
 refine Aa<|Ak<|AF 6 tb96_1 (by kernel_rfl) (by kernel_rfl) (by kernel_rfl) (fun b0 d0=>?_)
 refine Ah 0 1 b0 rfl d0 (fun _=>Bh 0 rfl) rfl<|AD 1 3 100 b0 rfl d0 (Bl (cs:=[.bool a0.fLong.fBelow,v0_1]) (by kernel_rfl) rfl (mem_part (c0.memA (.tl .hd)) 0 2)) rfl<|Ah 3 11 b0 rfl d0 (fun _=>Bh 2 rfl) rfl<|AD 4 27 96 b0 rfl d0 (Bl (cs:=[.bool a0.fUnder.fBelow,v0_3]) (by kernel_rfl) rfl (mem_part (c0.memA (.tl .hd)) 2 2)) rfl ?_
 obtain ⟨p0,B0,h⟩:=bi h
 refine Bi 2 31 b0 rfl .plain body137 rfl (e1 rfl) (fun w9 hw9=>wide_Long_Turned_c n _ w9 (c0.hL hL hw9) a0.fLong (c0.km h0_1 hw9) B0) rfl (fun R0 M0 x0 ⟨g0,hu_,q0⟩=>?_)
 subst hu_
 obtain ⟨s0,K0⟩:=c0.agr x0
 obtain ⟨C0,G0,z0,_⟩:=Rep.sl q0
 have t0:=AM h0_3 s0
 obtain ⟨D0,H0,A0,_⟩:=Rep.sl t0
 refine Ah 5 63 b0 rfl d0 (fun _=>AS (vs:=[.agg #[.bool p0.fBelow,g0],.agg #[.bool a0.fUnder.fBelow,v0_3]]) (u:=.agg #[.bool p0.fBelow,g0,.bool a0.fUnder.fBelow,v0_3]) (e2 rfl rfl) (fun w9=>by rw [z0,A0]; try kernel_rfl)) rfl<|Bt 6 127 b0 rfl rfl .plain (Ay (news:=[.bool p0.fBelow,g0,.bool a0.fUnder.fBelow,v0_3]) s0 .hd rfl rfl rfl rfl rfl rfl (o4 rfl (AI q0) rfl (AI t0))) (fun U0 j0 v0=>?_)
 refine AE (doneD_ok b0 (by kernel_rfl))<|Al rfl<|Ao hb0 Tryz.func96 rfl (.cons (.many (cs:=[.bool p0.fBelow,g0,.bool a0.fUnder.fBelow,v0_3]) (by kernel_rfl) rfl (j0.memA .hd)) .nil) rfl ?_
 cases h
 have y0:=Ap q0 v0
 exact ⟨j0.ag,fun w9 hw9=>⟨g0,v0_3,rfl,j0.kd y0 hw9,j0.k0 h0_3 hw9⟩⟩
def tb81_1:List (Nat × Nat × Nat):=[(0,32,4),(0,64,8),(2,128,64),(5,256,160),(15,0,272)]
theorem body83:bodyB Tryz.prog 83 = true:=by kernel_rfl
theorem body96:bodyB Tryz.prog 96 = true:=by kernel_rfl
def share_Ratio_Minus_p (n:Nat) (a0:TRatio) (a1:TRatio):Option TRatio:=
  (share_Ratio_Turned_p n a1).bind fun b0=>(share_Ratio_Plus_p n a0 b0).bind fun c0=>some c0
theorem share_Ratio_Minus_c (n:Nat) (L:List Nat) (w:World) (hL:∀ b ∈ L,b < w.heap.size) (a0:TRatio) {v0_1:Value} (h0_1:Rep.R w L [v0_1] a0.fLong.fWords) {v0_3:Value} (h0_3:Rep.R w L [v0_3] a0.fUnder.fWords) (a1:TRatio) {v1_1:Value} (h1_1:Rep.R w L [v1_1] a1.fLong.fWords) {v1_3:Value} (h1_3:Rep.R w L [v1_3] a1.fUnder.fWords)  {r:TRatio} (h:share_Ratio_Minus_p n a0 a1 = some r) :
    Calls Tryz.prog 81 #[.agg #[.bool a0.fLong.fBelow,v0_1,.bool a0.fUnder.fBelow,v0_3],.agg #[.bool a1.fLong.fBelow,v1_1,.bool a1.fUnder.fBelow,v1_3]] w (Gives w fun w' u=>∃ v0_1 v0_3:Value,u = .agg #[.bool r.fLong.fBelow,v0_1,.bool r.fUnder.fBelow,v0_3]∧Rep.R w' L [v0_1] r.fLong.fWords∧Rep.R w' L [v0_3] r.fUnder.fWords):=by
 unfold share_Ratio_Minus_p at h
 have hS0:=Ax w
 refine AA Tryz.func81 rfl rfl rfl (fun _ cs0 hb0=>?_)
 refine Ac<|Aj .plain rfl (Aw hS0 rfl rfl) (fun Z0 I0 v0 M0=>?_)
 refine Aj .plain rfl (Aw v0 rfl rfl) (fun b1 J0 x0 P0=>?_)
 refine Aj .plain rfl (Av [.bool false,vN,.bool false,vN] x0) (fun c1 K0 b0 Q0=>?_)
 refine Aa<|Ak<|AF 4 tb81_1 (by kernel_rfl) (by kernel_rfl) (by kernel_rfl) (fun c0 u0=>?_)
 refine AD 0 1 24 c0 rfl u0 (AB rfl (b0.memA (.tl (.tl .hd)))) rfl<|AD 1 3 28 c0 rfl u0 (AB rfl (b0.memA (.tl .hd))) rfl ?_
 obtain ⟨H0,F0,h⟩:=bi h
 refine Bi 2 7 c0 rfl .plain body96 rfl (e1 rfl) (fun w9 hw9=>share_Ratio_Turned_c n _ w9 (b0.hL hL hw9) a1 (b0.km h1_1 hw9) (b0.km h1_3 hw9) F0) rfl (fun d1 X0 z0 ⟨V0,W0,hu_,D0,E0⟩=>?_)
 subst hu_
 obtain ⟨d0,R0⟩:=b0.agr z0
 obtain ⟨j0,G0,h⟩:=bi h
 refine Bi 3 15 c0 rfl .plain body83 rfl (e2 rfl rfl) (fun w9 hw9=>share_Ratio_Plus_c n _ w9 (d0.hL hL hw9) a0 (d0.km h0_1 hw9) (d0.km h0_3 hw9) H0 (Am D0 hw9) (Am E0 hw9) G0) rfl (fun g1 Y0 A0 ⟨k0,p0,hu_,s0,t0⟩=>?_)
 subst hu_
 obtain ⟨y0,U0⟩:=d0.agr A0
 refine Bt 4 31 c0 rfl rfl .plain (Ay (news:=[.bool j0.fLong.fBelow,k0,.bool j0.fUnder.fBelow,p0]) y0 .hd rfl rfl rfl rfl rfl rfl (o4 rfl (AI s0) rfl (AI t0))) (fun j1 g0 q0=>?_)
 refine AE (doneD_ok c0 (by kernel_rfl))<|Al rfl<|Ao hb0 Tryz.func81 rfl (.cons (.many (cs:=[.bool j0.fLong.fBelow,k0,.bool j0.fUnder.fBelow,p0]) (by kernel_rfl) rfl (g0.memA .hd)) .nil) rfl ?_
 cases h
 have B0:=Ap s0 q0
 have C0:=Ap t0 q0
 exact ⟨g0.ag,fun w9 hw9=>⟨k0,p0,rfl,g0.kd B0 hw9,g0.kd C0 hw9⟩⟩
def tb80_4:List (Nat × Nat × Nat):=[(0,32768,4),(0,65536,8),(2,131072,65536),(0,262144,16),(12,524288,262144),(21,1048576,688128),(63,0,1048640),(127,128,0)]
theorem el68:ElT Tryz.prog 68 37 (Rep.size TShare) 128 (.agg zM) zL:=⟨Tryz.underlying68,by kernel_rfl,rfl,rfl,rfl,rfl⟩
theorem body79:bodyB Tryz.prog 79 = true:=by kernel_rfl
theorem body80:bodyB Tryz.prog 80 = true:=by kernel_rfl
theorem body81:bodyB Tryz.prog 81 = true:=by kernel_rfl
theorem body125:bodyB Tryz.prog 125 = true:=by kernel_rfl
def share_Sub_p (n:Nat) (a0:TShare) (a1:TShare):Option (TShare × Int):=
  (share_valid_p n ([a0,a1]:List TShare)).bind fun d0=>(if d0 = true then (share_Read_p n a0).bind fun g0=>(share_Read_p n a1).bind fun j0=>(share_Ratio_Minus_p n g0 j0).bind fun k0=>(share_told_p n k0 (0:Int)).bind fun c0=>some (c0.1,c0.2) else (share_told_p n (⟨(⟨false,([]:List UInt64)⟩:TLong),(⟨false,([]:List UInt64)⟩:TLong)⟩:TRatio) (20:Int)).bind fun b0=>some (b0.1,b0.2))
theorem share_Sub_c (n:Nat) (L:List Nat) (w:World) (hL:∀ b ∈ L,b < w.heap.size) (a0:TShare) (a1:TShare)  {r:TShare × Int} (h:share_Sub_p n a0 a1 = some r) :
    Calls Tryz.prog 24 #[.agg ((cs_TShare a0)).toArray,.agg ((cs_TShare a1)).toArray] w (Gives w fun _ u=>u = .tuple #[.agg ((cs_TShare r.1)).toArray,vI r.2]):=by
 unfold share_Sub_p at h
 have hS0:=Ax w
 refine AA Tryz.func24 rfl rfl rfl (fun _ cs0 hb0=>?_)
 refine Ac<|Aj .plain rfl (Aw hS0 rfl rfl) (fun s2 y1 I0 J1=>?_)
 refine Aj .plain rfl (Aw I0 rfl rfl) (fun t2 z1 J0 K1=>?_)
 refine Aj .plain rfl (Av zL J0) (fun u2 A1 q0 M1=>?_)
 refine Ag rfl<|Aa<|Ac<|Ab (AB rfl (q0.memA (.tl (.tl .hd))))<|Ab (AB rfl (q0.memA (.tl .hd)))<|Bw (fst:=[]) (cap:=[]) (vs:=[.agg ((cs_TShare a0)).toArray,.agg ((cs_TShare a1)).toArray,.func (.func 81) #[] #[]]) .plain body80 Tryz.func80 rfl rfl rfl rfl (e3 rfl rfl rfl) rfl (fun G1 E0 Z1=>?_)
 refine Ac<|Aj .plain rfl (Aw q0 rfl rfl) (fun v2 B1 K0 P1=>?_)
 refine Aj .plain rfl (Aw K0 rfl rfl) (fun x2 C1 M0 Q1=>?_)
 refine Aj .plain rfl (Av [.bool false,vN,.bool false,vN] M0) (fun y2 D1 s0 R1=>?_)
 refine Ag rfl<|Aa<|Ak<|Ac<|Ab (AB rfl (s0.memA (.tl (.tl .hd))))<|Ab (AB rfl (s0.memA (.tl .hd)))<|Aj .plain rfl (AW (α:=TShare) (xs:=([a0,a1]:List TShare)) (vs:=[.agg ((cs_TShare a0)).toArray,.agg ((cs_TShare a1)).toArray]) (ds' :=(cs_TShare a0 ++ cs_TShare a1)) rfl s0 el68 rfl (e2 rfl rfl) (by kernel_rfl) rfl) (fun z2 E1 c0 U1=>?_)
 have V0:=AG (cs:=(cs_TShare a0 ++ cs_TShare a1)) (xs:=(([a0,a1]:List TShare):List TShare)) c0 L (Au (cs:=(cs_TShare a0)) (ds:=(cs_TShare a1)) (mk_TShare a0.fN a0.fD) (Au (cs:=(cs_TShare a1)) (ds:=[]) (mk_TShare a1.fN a1.fD) (AO _ _)))
 obtain ⟨u1,k1,h⟩:=bi h
 refine Bf (.bool u1) body125 rfl (e1 rfl) (fun w9 hw9=>share_valid_c n _ w9 (c0.hL0 hL hw9) ([a0,a1]:List TShare) (Am (St.lend (α:=TShare) (L:=L) c0 .hd V0 hL) hw9) k1) rfl<|Ab (Bz rfl)<|Aa<|MX.ifnb rfl h (fun H0 h=>?_) (fun H0 h=>?_)
 refine Aq<|Ak<|AF 6 tb80_4 (by kernel_rfl) (by kernel_rfl) (by kernel_rfl) (fun b0 t0=>?_)
 refine Ah 0 1 b0 rfl t0 (fun _=>Ai rfl) rfl<|AD 1 3 244 b0 rfl t0 (AB rfl (c0.memA (.tl (.tl (.tl .hd))))) rfl<|AD 3 11 240 b0 rfl t0 (AB rfl (c0.memA (.tl (.tl .hd)))) rfl ?_
 obtain ⟨v1,p1,h⟩:=bi h
 refine Bi 2 15 b0 rfl .plain body130 rfl (e1 rfl) (fun w9 hw9=>share_Read_c n _ w9 (c0.hL hL hw9) a0 p1) rfl (fun A2 j2 Q0 ⟨b2,c2,hu_,b1,c1⟩=>?_)
 subst hu_
 obtain ⟨y0,V1⟩:=c0.agr Q0
 obtain ⟨x1,q1,h⟩:=bi h
 refine Bi 4 31 b0 rfl .plain body130 rfl (e1 rfl) (fun w9 hw9=>share_Read_c n _ w9 (y0.hL hL hw9) a1 q1) rfl (fun B2 k2 R0 ⟨d2,g2,hu_,d1,g1⟩=>?_)
 subst hu_
 obtain ⟨z0,C0⟩:=y0.agr R0
 obtain ⟨d0,s1,h⟩:=bi h
 have W0:=Ap b1 C0
 have X0:=Ap c1 C0
 refine Bi 5 63 b0 rfl .plain body81 rfl (e2 rfl rfl) (fun w9 hw9=>share_Ratio_Minus_c n _ w9 (z0.hL hL hw9) v1 (Am W0 hw9) (Am X0 hw9) x1 (Am d1 hw9) (Am g1 hw9) s1) rfl (fun C2 p2 U0 ⟨u0,v0,hu_,F0,G0⟩=>?_)
 subst hu_
 obtain ⟨P0,W1⟩:=z0.agr U0
 refine Bt 6 127 b0 rfl rfl .plain (Ay (news:=[.bool d0.fLong.fBelow,u0,.bool d0.fUnder.fBelow,v0]) P0 (.tl .hd) rfl rfl rfl rfl rfl rfl (o4 rfl (AI F0) rfl (AI G0))) (fun D2 g0 D0=>?_)
 refine Bs (i:=7) (readyD_ok b0 (by kernel_rfl)) (RO.val (m' :=255) (stepC_ok b0 (by kernel_rfl)) rfl .plain rfl (AJ rfl) ?_)
 refine AE (doneD_ok b0 (by kernel_rfl))<|Al rfl<|Ao (u:=.tuple #[.agg #[.bool d0.fLong.fBelow,u0,.bool d0.fUnder.fBelow,v0],vI 0]) E0 Tryz.func80 rfl (.cons (.many (cs:=[.bool d0.fLong.fBelow,u0,.bool d0.fUnder.fBelow,v0]) (by kernel_rfl) rfl (g0.memA (.tl .hd))) (.cons (.tmp rfl) .nil)) rfl<|Ab (Af rfl rfl)<|Ab (Af rfl rfl) ?_
 obtain ⟨k0,t1,h⟩:=bi h
 have Y0:=Ap F0 D0
 have Z0:=Ap G0 D0
 refine Bf (.tuple #[.agg ((cs_TShare k0.1)).toArray,vI k0.2]) body79 rfl (e2 rfl rfl) (fun w9 hw9=>share_told_c n _ w9 (g0.hL0 hL hw9) d0 (g0.kd Y0 hw9) (g0.kd Z0 hw9) (0:Int) t1) rfl<|Ab (Af rfl rfl)<|Ab (Af rfl rfl)<|AL (cs_TShare k0.1) g0 (.tl (.tl (.tl (.tl .hd)))) (onesB rfl) (fun E2 A0 X1=>?_)
 refine Ag rfl<|Aa<|Al rfl<|Ao hb0 Tryz.func24 rfl (.cons (.many (cs:=(cs_TShare k0.1)) (by kernel_rfl) rfl (A0.memA (.tl (.tl (.tl (.tl .hd)))))) (.cons (.tmp rfl) .nil)) rfl ?_
 cases h
 exact A0.gv
 refine Ac<|Aj .plain rfl (Av [.bool false,vN,.bool false,vN] c0) (fun F2 F1 B0 Y1=>?_)
 refine Aa<|Ac<|Ab (AB rfl (B0.memA .hd))<|AL [.bool false,vN,.bool false,vN] B0 (.tl (.tl .hd)) (onesB rfl) (fun G2 p0 H1=>?_)
 refine Ag rfl<|Aa<|Al rfl<|Ao (u:=.tuple #[.agg #[.bool false,vN,.bool false,vN],vI 20]) E0 Tryz.func80 rfl (.cons (.many (cs:=[.bool false,vN,.bool false,vN]) (by kernel_rfl) rfl (p0.memA (.tl (.tl .hd)))) (.cons (.tmp rfl) .nil)) rfl<|Ab (Af rfl rfl)<|Ab (Af rfl rfl) ?_
 obtain ⟨j0,j1,h⟩:=bi h
 refine Bf (.tuple #[.agg ((cs_TShare j0.1)).toArray,vI j0.2]) body79 rfl (e2 rfl rfl) (fun w9 hw9=>share_told_c n _ w9 (p0.hL0 hL hw9) (⟨(⟨false,([]:List UInt64)⟩:TLong),(⟨false,([]:List UInt64)⟩:TLong)⟩:TRatio) (Am (Rep.nilSlice _ _) hw9) (Am (Rep.nilSlice _ _) hw9) (20:Int) j1) rfl<|Ab (Af rfl rfl)<|Ab (Af rfl rfl)<|AL (cs_TShare j0.1) p0 (.tl (.tl (.tl (.tl (.tl .hd))))) (onesB rfl) (fun q2 x0 I1=>?_)
 refine Ag rfl<|Aa<|Al rfl<|Ao hb0 Tryz.func24 rfl (.cons (.many (cs:=(cs_TShare j0.1)) (by kernel_rfl) rfl (x0.memA (.tl (.tl (.tl (.tl (.tl .hd))))))) (.cons (.tmp rfl) .nil)) rfl ?_
 cases h
 exact x0.gv
def share_Add_p (n:Nat) (a0:TShare) (a1:TShare):Option (TShare × Int):=
  (share_valid_p n ([a0,a1]:List TShare)).bind fun d0=>(if d0 = true then (share_Read_p n a0).bind fun g0=>(share_Read_p n a1).bind fun j0=>(share_Ratio_Plus_p n g0 j0).bind fun k0=>(share_told_p n k0 (0:Int)).bind fun c0=>some (c0.1,c0.2) else (share_told_p n (⟨(⟨false,([]:List UInt64)⟩:TLong),(⟨false,([]:List UInt64)⟩:TLong)⟩:TRatio) (20:Int)).bind fun b0=>some (b0.1,b0.2))
theorem share_Add_c (n:Nat) (L:List Nat) (w:World) (hL:∀ b ∈ L,b < w.heap.size) (a0:TShare) (a1:TShare)  {r:TShare × Int} (h:share_Add_p n a0 a1 = some r) :
    Calls Tryz.prog 26 #[.agg ((cs_TShare a0)).toArray,.agg ((cs_TShare a1)).toArray] w (Gives w fun _ u=>u = .tuple #[.agg ((cs_TShare r.1)).toArray,vI r.2]):=by
 unfold share_Add_p at h
 have hS0:=Ax w
 refine AA Tryz.func26 rfl rfl rfl (fun _ cs0 hb0=>?_)
 refine Ac<|Aj .plain rfl (Aw hS0 rfl rfl) (fun s2 y1 I0 J1=>?_)
 refine Aj .plain rfl (Aw I0 rfl rfl) (fun t2 z1 J0 K1=>?_)
 refine Aj .plain rfl (Av zL J0) (fun u2 A1 q0 M1=>?_)
 refine Ag rfl<|Aa<|Ac<|Ab (AB rfl (q0.memA (.tl (.tl .hd))))<|Ab (AB rfl (q0.memA (.tl .hd)))<|Bw (fst:=[]) (cap:=[]) (vs:=[.agg ((cs_TShare a0)).toArray,.agg ((cs_TShare a1)).toArray,.func (.func 83) #[] #[]]) .plain body80 Tryz.func80 rfl rfl rfl rfl (e3 rfl rfl rfl) rfl (fun G1 E0 Z1=>?_)
 refine Ac<|Aj .plain rfl (Aw q0 rfl rfl) (fun v2 B1 K0 P1=>?_)
 refine Aj .plain rfl (Aw K0 rfl rfl) (fun x2 C1 M0 Q1=>?_)
 refine Aj .plain rfl (Av [.bool false,vN,.bool false,vN] M0) (fun y2 D1 s0 R1=>?_)
 refine Ag rfl<|Aa<|Ak<|Ac<|Ab (AB rfl (s0.memA (.tl (.tl .hd))))<|Ab (AB rfl (s0.memA (.tl .hd)))<|Aj .plain rfl (AW (α:=TShare) (xs:=([a0,a1]:List TShare)) (vs:=[.agg ((cs_TShare a0)).toArray,.agg ((cs_TShare a1)).toArray]) (ds' :=(cs_TShare a0 ++ cs_TShare a1)) rfl s0 el68 rfl (e2 rfl rfl) (by kernel_rfl) rfl) (fun z2 E1 c0 U1=>?_)
 have V0:=AG (cs:=(cs_TShare a0 ++ cs_TShare a1)) (xs:=(([a0,a1]:List TShare):List TShare)) c0 L (Au (cs:=(cs_TShare a0)) (ds:=(cs_TShare a1)) (mk_TShare a0.fN a0.fD) (Au (cs:=(cs_TShare a1)) (ds:=[]) (mk_TShare a1.fN a1.fD) (AO _ _)))
 obtain ⟨u1,k1,h⟩:=bi h
 refine Bf (.bool u1) body125 rfl (e1 rfl) (fun w9 hw9=>share_valid_c n _ w9 (c0.hL0 hL hw9) ([a0,a1]:List TShare) (Am (St.lend (α:=TShare) (L:=L) c0 .hd V0 hL) hw9) k1) rfl<|Ab (Bz rfl)<|Aa<|MX.ifnb rfl h (fun H0 h=>?_) (fun H0 h=>?_)
 refine Aq<|Ak<|AF 6 tb80_4 (by kernel_rfl) (by kernel_rfl) (by kernel_rfl) (fun b0 t0=>?_)
 refine Ah 0 1 b0 rfl t0 (fun _=>Ai rfl) rfl<|AD 1 3 244 b0 rfl t0 (AB rfl (c0.memA (.tl (.tl (.tl .hd))))) rfl<|AD 3 11 240 b0 rfl t0 (AB rfl (c0.memA (.tl (.tl .hd)))) rfl ?_
 obtain ⟨v1,p1,h⟩:=bi h
 refine Bi 2 15 b0 rfl .plain body130 rfl (e1 rfl) (fun w9 hw9=>share_Read_c n _ w9 (c0.hL hL hw9) a0 p1) rfl (fun A2 j2 Q0 ⟨b2,c2,hu_,b1,c1⟩=>?_)
 subst hu_
 obtain ⟨y0,V1⟩:=c0.agr Q0
 obtain ⟨x1,q1,h⟩:=bi h
 refine Bi 4 31 b0 rfl .plain body130 rfl (e1 rfl) (fun w9 hw9=>share_Read_c n _ w9 (y0.hL hL hw9) a1 q1) rfl (fun B2 k2 R0 ⟨d2,g2,hu_,d1,g1⟩=>?_)
 subst hu_
 obtain ⟨z0,C0⟩:=y0.agr R0
 obtain ⟨d0,s1,h⟩:=bi h
 have W0:=Ap b1 C0
 have X0:=Ap c1 C0
 refine Bi 5 63 b0 rfl .plain body83 rfl (e2 rfl rfl) (fun w9 hw9=>share_Ratio_Plus_c n _ w9 (z0.hL hL hw9) v1 (Am W0 hw9) (Am X0 hw9) x1 (Am d1 hw9) (Am g1 hw9) s1) rfl (fun C2 p2 U0 ⟨u0,v0,hu_,F0,G0⟩=>?_)
 subst hu_
 obtain ⟨P0,W1⟩:=z0.agr U0
 refine Bt 6 127 b0 rfl rfl .plain (Ay (news:=[.bool d0.fLong.fBelow,u0,.bool d0.fUnder.fBelow,v0]) P0 (.tl .hd) rfl rfl rfl rfl rfl rfl (o4 rfl (AI F0) rfl (AI G0))) (fun D2 g0 D0=>?_)
 refine Bs (i:=7) (readyD_ok b0 (by kernel_rfl)) (RO.val (m' :=255) (stepC_ok b0 (by kernel_rfl)) rfl .plain rfl (AJ rfl) ?_)
 refine AE (doneD_ok b0 (by kernel_rfl))<|Al rfl<|Ao (u:=.tuple #[.agg #[.bool d0.fLong.fBelow,u0,.bool d0.fUnder.fBelow,v0],vI 0]) E0 Tryz.func80 rfl (.cons (.many (cs:=[.bool d0.fLong.fBelow,u0,.bool d0.fUnder.fBelow,v0]) (by kernel_rfl) rfl (g0.memA (.tl .hd))) (.cons (.tmp rfl) .nil)) rfl<|Ab (Af rfl rfl)<|Ab (Af rfl rfl) ?_
 obtain ⟨k0,t1,h⟩:=bi h
 have Y0:=Ap F0 D0
 have Z0:=Ap G0 D0
 refine Bf (.tuple #[.agg ((cs_TShare k0.1)).toArray,vI k0.2]) body79 rfl (e2 rfl rfl) (fun w9 hw9=>share_told_c n _ w9 (g0.hL0 hL hw9) d0 (g0.kd Y0 hw9) (g0.kd Z0 hw9) (0:Int) t1) rfl<|Ab (Af rfl rfl)<|Ab (Af rfl rfl)<|AL (cs_TShare k0.1) g0 (.tl (.tl (.tl (.tl .hd)))) (onesB rfl) (fun E2 A0 X1=>?_)
 refine Ag rfl<|Aa<|Al rfl<|Ao hb0 Tryz.func26 rfl (.cons (.many (cs:=(cs_TShare k0.1)) (by kernel_rfl) rfl (A0.memA (.tl (.tl (.tl (.tl .hd)))))) (.cons (.tmp rfl) .nil)) rfl ?_
 cases h
 exact A0.gv
 refine Ac<|Aj .plain rfl (Av [.bool false,vN,.bool false,vN] c0) (fun F2 F1 B0 Y1=>?_)
 refine Aa<|Ac<|Ab (AB rfl (B0.memA .hd))<|AL [.bool false,vN,.bool false,vN] B0 (.tl (.tl .hd)) (onesB rfl) (fun G2 p0 H1=>?_)
 refine Ag rfl<|Aa<|Al rfl<|Ao (u:=.tuple #[.agg #[.bool false,vN,.bool false,vN],vI 20]) E0 Tryz.func80 rfl (.cons (.many (cs:=[.bool false,vN,.bool false,vN]) (by kernel_rfl) rfl (p0.memA (.tl (.tl .hd)))) (.cons (.tmp rfl) .nil)) rfl<|Ab (Af rfl rfl)<|Ab (Af rfl rfl) ?_
 obtain ⟨j0,j1,h⟩:=bi h
 refine Bf (.tuple #[.agg ((cs_TShare j0.1)).toArray,vI j0.2]) body79 rfl (e2 rfl rfl) (fun w9 hw9=>share_told_c n _ w9 (p0.hL0 hL hw9) (⟨(⟨false,([]:List UInt64)⟩:TLong),(⟨false,([]:List UInt64)⟩:TLong)⟩:TRatio) (Am (Rep.nilSlice _ _) hw9) (Am (Rep.nilSlice _ _) hw9) (20:Int) j1) rfl<|Ab (Af rfl rfl)<|Ab (Af rfl rfl)<|AL (cs_TShare j0.1) p0 (.tl (.tl (.tl (.tl (.tl .hd))))) (onesB rfl) (fun q2 x0 I1=>?_)
 refine Ag rfl<|Aa<|Al rfl<|Ao hb0 Tryz.func26 rfl (.cons (.many (cs:=(cs_TShare j0.1)) (by kernel_rfl) rfl (x0.memA (.tl (.tl (.tl (.tl (.tl .hd))))))) (.cons (.tmp rfl) .nil)) rfl ?_
 cases h
 exact x0.gv
def balance_must_api_Share_p (_n:Nat) (a0:TShare) (a1:Int):Option (Except Tbroken TShare):=
  (if a1 = 0 then some (.ok a0) else some (.error (⟨a1⟩:Tbroken)))
theorem balance_must_api_Share_c (n:Nat) (L:List Nat) (w:World) (_hL:∀ b ∈ L,b < w.heap.size) (a0:TShare) (a1:Int)  {r:Except Tbroken TShare} (h:balance_must_api_Share_p n a0 a1 = some r) :
    Calls Tryz.prog 76 #[.agg ((cs_TShare a0)).toArray,vI a1] w (PGives w (fun (y:TShare) _ u=>u = .agg ((cs_TShare y)).toArray) (fun e=>.iface 140 (.agg #[vI e.fErrno])) r):=by
 unfold balance_must_api_Share_p at h
 have hS0:=Ax w
 refine MX.startP Tryz.func76 rfl rfl rfl (fun _ cs0 hb0 hp0=>?_)
 refine Ac<|Aj .plain rfl (Aw hS0 rfl rfl) (fun t0 j0 g0 p0=>?_)
 refine Aj .plain rfl (Av zL g0) (fun u0 k0 b0 q0=>?_)
 refine Aa<|Ak<|Ac<|Ae rfl<|Ab (FV.neq (i:=a1) (j:=0) rfl rfl)<|Aa<|MX.ifn rfl h (fun d0 h=>?_) (fun d0 h=>?_)
 refine Aq<|Ac<|Ab (AB rfl (b0.memA (.tl .hd)))<|AL (cs_TShare a0) b0 .hd (onesB rfl) (fun v0 c0 s0=>?_)
 refine Aa<|Al rfl<|Ao hb0 Tryz.func76 rfl (.cons (.many (cs:=(cs_TShare a0)) (by kernel_rfl) rfl (c0.memA .hd)) .nil) rfl ?_
 cases h
 exact ⟨c0.ag,fun w9 hw9=>okOf_in rfl⟩
 refine Ar<|Ae rfl<|Ab (AS (vs:=[vI a1]) (u:=.agg #[vI a1]) (e1 rfl) (fun w9=>by kernel_rfl))<|Ab (FV.makeInterface (by kernel_rfl) rfl)<|RG.panic .plain rfl ?_
 cases h
 exact Ba hp0 Tryz.func76 ⟨b0.ag,rfl⟩
def tb127_3:List (Nat × Nat × Nat):=[(0,1024,4),(1,2048,1024),(0,4096,8),(6,8192,4096),(10,16384,10240),(16,32768,16384),(32,65536,32768),(32,131072,32768),(255,0,65552),(511,32,131072)]
theorem ex_A34 {a b:UInt64 × UInt64 × UInt64 × UInt64 × UInt64 × UInt64 × UInt64 × UInt64} (h0:a.1 = b.1) (h1:a.2.1 = b.2.1) (h2:a.2.2.1 = b.2.2.1) (h3:a.2.2.2.1 = b.2.2.2.1) (h4:a.2.2.2.2.1 = b.2.2.2.2.1) (h5:a.2.2.2.2.2.1 = b.2.2.2.2.2.1) (h6:a.2.2.2.2.2.2.1 = b.2.2.2.2.2.2.1) (h7:a.2.2.2.2.2.2.2 = b.2.2.2.2.2.2.2):a = b:=Prod.ext h0 (Prod.ext h1 (Prod.ext h2 (Prod.ext h3 (Prod.ext h4 (Prod.ext h5 (Prod.ext h6 (h7)))))))
theorem eqlD_35 (a b:UInt64 × UInt64 × UInt64 × UInt64 × UInt64 × UInt64 × UInt64 × UInt64) (w9:World):(do eqGuard .eql 35 (.tmp 0) (.tmp 0) (.agg #[vU a.1,vU a.2.1,vU a.2.2.1,vU a.2.2.2.1,vU a.2.2.2.2.1,vU a.2.2.2.2.2.1,vU a.2.2.2.2.2.2.1,vU a.2.2.2.2.2.2.2]) (.agg #[vU b.1,vU b.2.1,vU b.2.2.1,vU b.2.2.2.1,vU b.2.2.2.2.1,vU b.2.2.2.2.2.1,vU b.2.2.2.2.2.2.1,vU b.2.2.2.2.2.2.2]); binOp .eql 35 (.agg #[vU a.1,vU a.2.1,vU a.2.2.1,vU a.2.2.2.1,vU a.2.2.2.2.1,vU a.2.2.2.2.2.1,vU a.2.2.2.2.2.2.1,vU a.2.2.2.2.2.2.2]) (.agg #[vU b.1,vU b.2.1,vU b.2.2.1,vU b.2.2.2.1,vU b.2.2.2.2.1,vU b.2.2.2.2.2.1,vU b.2.2.2.2.2.2.1,vU b.2.2.2.2.2.2.2]):Sem Value).run Tryz.prog w9 = .ok (.bool (decide (a = b))) w9:=
  eqAgg (ks:=[.int .u64,.int .u64,.int .u64,.int .u64,.int .u64,.int .u64,.int .u64,.int .u64]) (xs:=[vU a.1,vU a.2.1,vU a.2.2.1,vU a.2.2.2.1,vU a.2.2.2.2.1,vU a.2.2.2.2.2.1,vU a.2.2.2.2.2.2.1,vU a.2.2.2.2.2.2.2]) (ys:=[vU b.1,vU b.2.1,vU b.2.2.1,vU b.2.2.2.1,vU b.2.2.2.2.1,vU b.2.2.2.2.2.1,vU b.2.2.2.2.2.2.1,vU b.2.2.2.2.2.2.2]) (by kernel_rfl) (by kernel_rfl) (by kernel_rfl) rfl rfl ⟨fun h=>by
    simp only [allEq,veq,Bool.and_eq_true,beq_iff_eq,and_true] at h
    obtain ⟨h0,h1,h2,h3,h4,h5,h6,h7⟩:=h
    exact ex_A34 (UInt_inj64 h0) (UInt_inj64 h1) (UInt_inj64 h2) (UInt_inj64 h3) (UInt_inj64 h4) (UInt_inj64 h5) (UInt_inj64 h6) (UInt_inj64 h7),fun h=>by subst h; simp [allEq,veq]⟩ _ _ w9
def share_Make_p (n:Nat) (a0:UInt64 × UInt64 × UInt64 × UInt64 × UInt64 × UInt64 × UInt64 × UInt64) (a1:UInt64 × UInt64 × UInt64 × UInt64 × UInt64 × UInt64 × UInt64 × UInt64):Option (TShare × Int):=
  (if a1 = ((0:UInt64),(0:UInt64),(0:UInt64),(0:UInt64),(0:UInt64),(0:UInt64),(0:UInt64),(0:UInt64)) then some ((⟨((0:UInt64),(0:UInt64),(0:UInt64),(0:UInt64),(0:UInt64),(0:UInt64),(0:UInt64),(0:UInt64)),((0:UInt64),(0:UInt64),(0:UInt64),(0:UInt64),(0:UInt64),(0:UInt64),(0:UInt64),(0:UInt64))⟩:TShare),(7:Int)) else (wide_Longer_p n a0).bind fun c0=>(wide_Longer_p n a1).bind fun d0=>(share_Lowest_p n c0 d0).bind fun g0=>(share_Ratio_Told_p n g0).bind fun b0=>some (b0.1,b0.2))
theorem share_Make_c (n:Nat) (L:List Nat) (w:World) (hL:∀ b ∈ L,b < w.heap.size) (a0:UInt64 × UInt64 × UInt64 × UInt64 × UInt64 × UInt64 × UInt64 × UInt64) (a1:UInt64 × UInt64 × UInt64 × UInt64 × UInt64 × UInt64 × UInt64 × UInt64)  {r:TShare × Int} (h:share_Make_p n a0 a1 = some r) :
    Calls Tryz.prog 127 #[.agg ((cs_A34 a0)).toArray,.agg ((cs_A34 a1)).toArray] w (Gives w fun _ u=>u = .tuple #[.agg ((cs_TShare r.1)).toArray,vI r.2]):=by
 unfold share_Make_p at h
 have hS0:=Ax w
 refine AA Tryz.func127 rfl rfl rfl (fun _ cs0 hb0=>?_)
 refine Ac<|Aj .plain rfl (Aw hS0 rfl rfl) (fun t1 Q0 u0 V0=>?_)
 refine Aj .plain rfl (Aw u0 rfl rfl) (fun u1 R0 v0 W0=>?_)
 refine Aj .plain rfl (Av zL v0) (fun v1 U0 c0 X0=>?_)
 refine Ag rfl<|Aa<|Ak<|Ac<|Ab (AB rfl (c0.memA (.tl .hd)))<|Ab (AS (vs:=[]) (u:=.agg zQ) evs_nil (fun w9=>by kernel_rfl))<|Ab (FV.eqlV (v:=.agg ((cs_A34 a1)).toArray) (u:=.agg zQ) rfl rfl (eqlD_35 a1 ((0:UInt64),(0:UInt64),(0:UInt64),(0:UInt64),(0:UInt64),(0:UInt64),(0:UInt64),(0:UInt64))))<|Aa<|AQ rfl h (fun t0 h=>?_) (fun t0 h=>?_)
 refine Ac<|Ab (AS (vs:=[]) (u:=.agg zM) evs_nil (fun w9=>by kernel_rfl))<|AL zL c0 .hd (onesB rfl) (fun x1 k0 Y0=>?_)
 refine Ag rfl<|Aa<|Al rfl<|Ao hb0 Tryz.func127 rfl (.cons (.many (cs:=zL) (by kernel_rfl) rfl (k0.memA .hd)) (.cons (.tmp rfl) .nil)) rfl ?_
 cases h
 exact k0.gv
 refine Aq<|Ak<|AF 8 tb127_3 (by kernel_rfl) (by kernel_rfl) (by kernel_rfl) (fun b0 d0=>?_)
 refine AD 0 1 1018 b0 rfl d0 (AB rfl (c0.memA (.tl (.tl .hd)))) rfl<|AD 2 5 1016 b0 rfl d0 (AB rfl (c0.memA (.tl .hd))) rfl ?_
 obtain ⟨K0,G0,h⟩:=bi h
 refine Bi 1 7 b0 rfl .plain body165 rfl (e1 rfl) (fun w9 hw9=>wide_Longer_c n _ w9 (c0.hL hL hw9) a0 G0) rfl (fun y1 p1 y0 ⟨d1,hu_,C0⟩=>?_)
 subst hu_
 obtain ⟨p0,Z0⟩:=c0.agr y0
 obtain ⟨M0,H0,h⟩:=bi h
 refine Bi 3 15 b0 rfl .plain body165 rfl (e1 rfl) (fun w9 hw9=>wide_Longer_c n _ w9 (p0.hL hL hw9) a1 H0) rfl (fun z1 q1 z0 ⟨g1,hu_,D0⟩=>?_)
 subst hu_
 obtain ⟨q0,x0⟩:=p0.agr z0
 obtain ⟨P0,I0,h⟩:=bi h
 have B0:=Ap C0 x0
 refine Bi 4 31 b0 rfl .plain body131 rfl (e2 rfl rfl) (fun w9 hw9=>share_Lowest_c n _ w9 (q0.hL hL hw9) K0 (Am B0 hw9) M0 (Am D0 hw9) I0) rfl (fun A1 s1 A0 ⟨j1,k1,hu_,E0,F0⟩=>?_)
 subst hu_
 obtain ⟨g0,b1⟩:=q0.agr A0
 obtain ⟨j0,J0,h⟩:=bi h
 refine BI 5 63 960 (.tuple #[.agg ((cs_TShare j0.1)).toArray,vI j0.2]) b0 rfl d0 body129 rfl (e1 rfl) (fun w9 hw9=>share_Ratio_Told_c n _ w9 (g0.hL0 hL hw9) P0 (g0.kd E0 hw9) (g0.kd F0 hw9) J0) rfl<|Ah 6 127 b0 rfl d0 (fun _=>Af rfl rfl) rfl<|Ah 7 255 b0 rfl d0 (fun _=>Af rfl rfl) rfl<|Bt 8 511 b0 rfl rfl .plain (Ay (news:=(cs_TShare j0.1)) g0 .hd rfl rfl rfl rfl rfl rfl (onesB rfl)) (fun B1 s0 c1=>?_)
 refine Bs (i:=9) (readyD_ok b0 (by kernel_rfl)) (RO.val (m' :=1023) (stepC_ok b0 (by kernel_rfl)) rfl .plain rfl (AJ rfl) ?_)
 refine AE (doneD_ok b0 (by kernel_rfl))<|Al rfl<|Ao hb0 Tryz.func127 rfl (.cons (.many (cs:=(cs_TShare j0.1)) (by kernel_rfl) rfl (s0.memA .hd)) (.cons (.tmp rfl) .nil)) rfl ?_
 cases h
 exact s0.gv
theorem body127:bodyB Tryz.prog 127 = true:=by kernel_rfl
def share_Of_p (n:Nat) (a0:Int) (a1:Int):Option (TShare × Int):=
  (wide_Of_p n a0).bind fun c0=>(wide_Of_p n a1).bind fun d0=>(share_Make_p n c0 d0).bind fun b0=>some (b0.1,b0.2)
theorem share_Of_c (n:Nat) (L:List Nat) (w:World) (hL:∀ b ∈ L,b < w.heap.size) (a0:Int) (a1:Int)  {r:TShare × Int} (h:share_Of_p n a0 a1 = some r) :
    Calls Tryz.prog 78 #[vI a0,vI a1] w (Gives w fun _ u=>u = .tuple #[.agg ((cs_TShare r.1)).toArray,vI r.2]):=by
 unfold share_Of_p at h
 have hS0:=Ax w
 refine AA Tryz.func78 rfl rfl rfl (fun _ cs0 hb0=>?_)
 refine Ac<|Aj .plain rfl (Av zL hS0) (fun v0 s0 b0 t0=>?_)
 refine Ag rfl<|Aa<|Ac<|Ae rfl ?_
 obtain ⟨g0,k0,h⟩:=bi h
 refine Bf (.agg ((cs_A34 g0)).toArray) body128 rfl (e1 rfl) (fun w9 hw9=>wide_Of_c n _ w9 (b0.hL0 hL hw9) a0 k0) rfl<|Ae rfl ?_
 obtain ⟨j0,p0,h⟩:=bi h
 refine Bf (.agg ((cs_A34 j0)).toArray) body128 rfl (e1 rfl) (fun w9 hw9=>wide_Of_c n _ w9 (b0.hL0 hL hw9) a1 p0) rfl ?_
 obtain ⟨c0,q0,h⟩:=bi h
 refine Bf (.tuple #[.agg ((cs_TShare c0.1)).toArray,vI c0.2]) body127 rfl (e2 rfl rfl) (fun w9 hw9=>share_Make_c n _ w9 (b0.hL0 hL hw9) g0 j0 q0) rfl<|Ab (Af rfl rfl)<|Ab (Af rfl rfl)<|AL (cs_TShare c0.1) b0 .hd (onesB rfl) (fun x0 d0 u0=>?_)
 refine Ag rfl<|Aa<|Al rfl<|Ao hb0 Tryz.func78 rfl (.cons (.many (cs:=(cs_TShare c0.1)) (by kernel_rfl) rfl (d0.memA .hd)) (.cons (.tmp rfl) .nil)) rfl ?_
 cases h
 exact d0.gv
theorem body76:bodyB Tryz.prog 76 = true:=by kernel_rfl
theorem body78:bodyB Tryz.prog 78 = true:=by kernel_rfl
def balance_of_p (n:Nat) (a0:Int) (a1:Int):Option (Except Tbroken TShare):=
  (share_Of_p n a0 a1).bind fun b0=>(balance_must_api_Share_p n b0.1 b0.2).bind fun d0=>exc d0 (fun g0=>some (.ok g0)) (fun c0=>some (.error c0))
theorem balance_of_c (n:Nat) (L:List Nat) (w:World) (hL:∀ b ∈ L,b < w.heap.size) (a0:Int) (a1:Int)  {r:Except Tbroken TShare} (h:balance_of_p n a0 a1 = some r) :
    Calls Tryz.prog 70 #[vI a0,vI a1] w (PGives w (fun (y:TShare) _ u=>u = .agg ((cs_TShare y)).toArray) (fun e=>.iface 140 (.agg #[vI e.fErrno])) r):=by
 unfold balance_of_p at h
 have hS0:=Ax w
 refine MX.startP Tryz.func70 rfl rfl rfl (fun _ cs0 hb0 hp0=>?_)
 refine Ac<|Aj .plain rfl (Av zL hS0) (fun z0 t0 c0 v0=>?_)
 refine Aa<|Ac<|Ae rfl<|Ae rfl ?_
 obtain ⟨b0,q0,h⟩:=bi h
 refine Bf (.tuple #[.agg ((cs_TShare b0.1)).toArray,vI b0.2]) body78 rfl (e2 rfl rfl) (fun w9 hw9=>share_Of_c n _ w9 (c0.hL0 hL hw9) a0 a1 q0) rfl<|Ab (Af rfl rfl)<|Ab (Af rfl rfl) ?_
 obtain ⟨s0,j0,h⟩:=bi h
 rcases s0 with u0 | d0
 have h:=exc_e h
 try dsimp only at h
 refine Bu (fst:=[]) (cap:=[]) .plain body76 rfl (e2 rfl rfl) (fun w9 hw9=>balance_must_api_Share_c n _ w9 (c0.hL0 hL hw9) b0.1 b0.2 j0) (fun A0 p0=>?_)
 obtain ⟨k0,x0⟩:=c0.agr p0
 cases h
 exact Ba hp0 Tryz.func70 ⟨k0.ag,rfl⟩
 have h:=exc_o h
 try dsimp only at h
 refine Bf (.agg ((cs_TShare d0)).toArray) body76 rfl (e2 rfl rfl) (fun w9 hw9=>AU (balance_must_api_Share_c n _ w9 (c0.hL0 hL hw9) b0.1 b0.2 j0)) rfl<|AL (cs_TShare d0) c0 .hd (onesB rfl) (fun B0 g0 y0=>?_)
 refine Aa<|Al rfl<|Ao hb0 Tryz.func70 rfl (.cons (.many (cs:=(cs_TShare d0)) (by kernel_rfl) rfl (g0.memA .hd)) .nil) rfl ?_
 cases h
 exact ⟨g0.ag,fun w9 hw9=>okOf_in rfl⟩
theorem balance_count_land_c (n:Nat) (L:List Nat) (w:World) (_hL:∀ b ∈ L,b < w.heap.size) (a0:Tcount) {v0_3:Value} (h0_3:Rep.R w L [v0_3] a0.fRoll.fUnits)  :
    Calls Tryz.prog 120 #[.agg #[vI a0.fRoll.fGroups,vI a0.fRoll.fParties,vI a0.fRoll.fLevels,v0_3,vI a0.fk]] w (Gives w fun w' u=>∃ b0:Nat,u = .func (.func 161) #[] #[vP b0]∧St w w' [.cells b0 [vI a0.fRoll.fGroups,vI a0.fRoll.fParties,vI a0.fRoll.fLevels,v0_3,vI a0.fk] 97]):=by
 have hS0:=Ax w
 refine AA Tryz.func120 rfl rfl rfl (fun _ cs0 hb0=>?_)
 refine Ac<|Aj .plain rfl (Aw hS0 rfl rfl) (fun g0 b0 c0 d0=>?_)
 refine Ag rfl<|Aa<|Ac<|Ab (BG (vs:=[]) (us:=[vP b0]) evs_nil (e1 rfl))<|Ag rfl<|Aa<|Al rfl<|Ao (u:=.func (.func 161) #[] #[vP b0]) hb0 Tryz.func120 rfl (.cons (.tmp rfl) .nil) rfl ?_
 exact ⟨c0.ag,fun w9 hw9=>⟨b0,rfl,c0.agree hw9⟩⟩
theorem body120:bodyB Tryz.prog 120 = true:=by kernel_rfl
theorem body161:bodyB Tryz.prog 161 = true:=by kernel_rfl
def balance_count_people_l1 (_n:Nat) (a0:Tcount) (g0:Nat × Int → Option (Int ⊕ Int)):Nat × Int → Option (Int ⊕ Int)
  | (b0,c0)=>(if b0 < a0.fRoll.fUnits.length then (a0.fRoll.fUnits[b0]?).bind fun d0=>(if d0.fWater = true then some (.inl c0) else (chk (c0 + d0.fPeople)).bind fun j0=>g0 (b0 + 1,j0)) else some (.inr c0))
def balance_count_people_p (n:Nat) (a0:Tcount):Option Int:=
  thn (loopF (balance_count_people_l1 n a0) n (0,0)) (fun b0=>some b0)
theorem balance_count_people_c (n:Nat) (L:List Nat) (w:World) (hL:∀ b ∈ L,b < w.heap.size) (a0:Tcount) {v0_3:Value} (h0_3:Rep.R w L [v0_3] a0.fRoll.fUnits)  {r:Int} (h:balance_count_people_p n a0 = some r) :
    Calls Tryz.prog 71 #[.agg #[vI a0.fRoll.fGroups,vI a0.fRoll.fParties,vI a0.fRoll.fLevels,v0_3,vI a0.fk]] w (Gives w fun _ u=>u = vI r):=by
 unfold balance_count_people_p at h
 have hS0:=Ax w
 refine AA Tryz.func71 rfl rfl rfl (fun _ cs0 hb0=>?_)
 refine Ac<|Aj .plain rfl (Aw hS0 rfl rfl) (fun X2 u0 Z0 y2=>?_)
 refine Aj .plain rfl (Av [vI 0] Z0) (fun g2 v0 j0 z2=>?_)
 refine Aa<|Ak<|Ac<|Ab (AB rfl (j0.memA (.tl .hd)))<|AX (fst:=[]) (cap:=[]) .plain body120 rfl (e1 rfl) (fun w9 hw9=>Calls.gives (balance_count_land_c n _ w9 (j0.hL hL hw9) a0 (j0.km h0_3 hw9)) fun (w8:World) (u8:Value) ⟨b0_,hu_,s_⟩=>(⟨b0_,hu_,s_.from hw9⟩:∃ g0:Nat,u8 = Value.func (.func 161) #[] #[vP g0]∧St g2 w8 [.cells g0 [vI a0.fRoll.fGroups,vI a0.fRoll.fParties,vI a0.fRoll.fLevels,v0_3,vI a0.fk] 97])) rfl (fun j3 W2 P2 ⟨g0,b2,V0⟩=>?_)
 subst b2
 have x1:=mk_push1 j0 V0
 have K2:=mk_tr1 j0 V0
 refine Aa<|Az<|MX.rangeP (lb:=[vP g0]) rfl x1 rfl body161 Tryz.func161 rfl rfl rfl (fun j2 s0 t0 A0 x2 z0 M2 d2 J0 U2=>?_)
 refine Ac<|Bg 0 rfl<|Bg 3 rfl<|Ab (AK rfl ((mem_from (z0.memA (.tl (.tl .hd))) 0) 3 _ rfl)) ?_
 have M0:=AM h0_3 z0
 have Q2:a0.fRoll.fUnits.length ≤ 281474976710656:=AT M0
 refine Ab (Bb (xs:=a0.fRoll.fUnits) Tryz.underlying42 rfl M0)<|Ae rfl<|Aa<|Az ?_
 obtain ⟨V2,W1,K0⟩:=thn_in h
 refine Bj (α:=Nat × Int) (fun ⟨b0,d0⟩=>[(0,.func (.yield s0) #[] #[]),(7,v0_3),(8,vI ((a0.fRoll.fUnits.length:Nat):Int)),(9,vI ((b0:Nat):Int))]) (fun ⟨b0,d0⟩ E0=>St w E0 [.obj s0 (lpO A0 .ready none),.obj t0 (.deferred (some [])),.cells g0 [vI a0.fRoll.fGroups,vI a0.fRoll.fParties,vI a0.fRoll.fLevels,v0_3,vI a0.fk] 97,.cells v0 [vI d0] 3,.cells u0 [vI a0.fRoll.fGroups,vI a0.fRoll.fParties,vI a0.fRoll.fLevels,v0_3,vI a0.fk] 97]∧Tr j2 [.obj s0 (lpO A0 .ready none),.obj t0 (.deferred (some [])),.cells g0 [vI a0.fRoll.fGroups,vI a0.fRoll.fParties,vI a0.fRoll.fLevels,v0_3,vI a0.fk] 97,.cells v0 [vI 0] 3,.cells u0 [vI a0.fRoll.fGroups,vI a0.fRoll.fParties,vI a0.fRoll.fLevels,v0_3,vI a0.fk] 97] E0 [.obj s0 (lpO A0 .ready none),.obj t0 (.deferred (some [])),.cells g0 [vI a0.fRoll.fGroups,vI a0.fRoll.fParties,vI a0.fRoll.fLevels,v0_3,vI a0.fk] 97,.cells v0 [vI d0] 3,.cells u0 [vI a0.fRoll.fGroups,vI a0.fRoll.fParties,vI a0.fRoll.fLevels,v0_3,vI a0.fk] 97]) (fun ⟨b0,d0⟩=>(b0,d0)) (0,0) W1 ⟨rfl,rfl,rfl,rfl,trivial⟩ ⟨z0,AP _ _⟩ ?_
 rintro p2 ⟨b0,d0⟩ E0 Y0 ⟨x0,y1⟩ h
 unfold balance_count_people_l1 at h
 try dsimp only at h
 refine Ac<|Ab (Bn (i:=b0) (j:=a0.fRoll.fUnits.length) rfl rfl)<|Aa<|Ak<|AQ rfl h (fun W0 h=>?_) (fun W0 h=>?_)
 refine Aq<|Ak<|Az<|Ac<|Ae rfl ?_
 obtain ⟨c0,c2,h⟩:=bi h
 have K1:=AM h0_3 x0
 obtain ⟨k2,t2,H1,I1,u2,Y1,J1⟩:=Bm K1 c2
 obtain ⟨B0,C0,D0,rfl,P0,Q0,R0⟩:=op_TUnit Y1
 refine Ab (Bo 6 b0 rfl H1 rfl rfl I1)<|Ab (AB rfl J1)<|Aj .plain rfl (Av [.string ⟨#[]⟩,vI 0,vN,vN,vN,.bool false] x0) (fun Y2 q2 b1 p0=>?_)
 refine Ag rfl ?_
 have M1:=Ap P0 p0
 have P1:=Ap Q0 p0
 have Q1:=Ap R0 p0
 refine AL [.string c0.fName,vI c0.fPeople,B0,C0,D0,.bool c0.fWater] b1 .hd (o6 rfl rfl (AI M1) (AI P1) (AI Q1) rfl) (fun Z2 k0 z1=>?_)
 refine Aa<|Ac<|Bg 5 rfl<|Bd rfl ((k0.memA .hd) 5 _ rfl)<|Ae rfl<|RG.ifb (s:=16) rfl h (fun X0 h=>?_) (fun X0 h=>?_)
 refine AR<|AR<|AR<|AR<|AR<|RG.pt rfl rfl<|Aa<|Bp rfl ?_
 have h:=thn_inl h K0
 refine Al rfl<|Ao (u:=.tuple #[]) J0 Tryz.func161 rfl .nil rfl<|MX.endRange0 k0 (.tl .hd) (by intro h9; cases h9) (fun b3 c1 A2=>?_)
 obtain ⟨F0,B2⟩:=AH c1 (.one .hd (.one (.tl .hd) (.one (.tl .hd) (.one (.tl .hd) (.one (.tl .hd) .done)))))
 refine AC<|Ac<|Ab (AK rfl ((F0.memA (.tl (.tl (.tl .hd)))) 0 _ rfl))<|AL [vI d0] F0 (.tl (.tl (.tl .hd))) (o1 rfl) (fun c3 d1 C2=>?_)
 refine Aa<|Al rfl<|RT.take d1 (.tl .hd) (fun d3 g1 D2=>?_)
 obtain ⟨G0,E2⟩:=AH g1 (.one .hd (.one (.tl .hd) (.one (.tl .hd) (.one (.tl .hd) .done))))
 refine Ao hb0 Tryz.func71 rfl (.cons (.one (by kernel_rfl) rfl ((G0.memA (.tl (.tl .hd))) 0 _ rfl)) .nil) rfl ?_
 cases h
 exact G0.gv
 refine AY (Ai rfl)<|AY (Ai rfl)<|AY (AB rfl (k0.memA .hd))<|RG.yieldP (fd:=71) (vs:=[vI ((b0:Nat):Int),.agg #[.string c0.fName,vI c0.fPeople,B0,C0,D0,.bool c0.fWater]]) (.yes rfl rfl) rfl (e2 rfl rfl) k0 (.tl .hd) d2 rfl rfl rfl (fun v2 G1 R2=>?_)
 refine Ar<|Aj .plain rfl (Av [.string ⟨#[]⟩,vI 0,vN,vN,vN,.bool false] k0) (fun g3 s2 j1 A1=>?_)
 have q0:=Tt p0 (Tt z1 A1)
 have R1:=Ap P0 q0
 have U1:=Ap Q0 q0
 have V1:=Ap R0 q0
 refine AL [.string c0.fName,vI c0.fPeople,B0,C0,D0,.bool c0.fWater] j1 .hd (o6 rfl rfl (AI R1) (AI U1) (AI V1) rfl) (fun k3 k1 B1=>?_)
 refine Aa<|MX.begin k1 (.tl (.tl .hd)) (fun p3 y0 C1=>?_)
 refine Az<|Ar<|Ab (AK rfl ((y0.memA (.tl (.tl (.tl (.tl (.tl .hd)))))) 0 _ rfl))<|Bg 1 rfl<|Bd rfl ((y0.memA .hd) 1 _ rfl) ?_
 obtain ⟨U0,Z1,h⟩:=bi h
 refine Ab (BC (i:=d0) (j:=c0.fPeople) rfl rfl Z1)<|AL [vI U0] y0 (.tl (.tl (.tl (.tl (.tl .hd))))) (o1 rfl) (fun q3 p1 D1=>?_)
 refine Aa<|AC<|MX.roundEnd G1 p1 (.tl (.tl .hd)) (fun s3 q1 E1=>?_)
 refine AY (Bz rfl)<|RG.pf rfl rfl<|Aa<|Bv rfl<|Aq<|AC<|Ar<|Ab (Br (i:=b0) (j:=1) rfl rfl (by omega))<|Ae rfl<|Aa ?_
 obtain ⟨s1,F1⟩:=AH q1 (.one (.tl (.tl .hd)) (.one (.tl (.tl .hd)) (.one (.tl (.tl .hd)) (.one (.tl (.tl .hd)) (.one (.tl (.tl .hd)) .done)))))
 have X1:=Tt q0 (Tt B1 (Tt C1 (Tt D1 (Tt E1 F1))))
 exact Y0 (b0 + 1,U0) _ _ ⟨rfl,rfl,rfl,rfl,trivial⟩ ⟨s1,(Tt y1 X1)⟩ h
 refine Be rfl ?_
 have h:=thn_inr h K0
 try dsimp only at h
 refine MX.fin rfl<|Ao (u:=.tuple #[]) J0 Tryz.func161 rfl .nil rfl<|MX.endRange0 x0 .hd (by intro h9; cases h9) (fun t3 t1 F2=>?_)
 obtain ⟨H0,G2⟩:=AH t1 (.one (.tl .hd) (.one (.tl .hd) (.one (.tl .hd) (.one (.tl .hd) .done))))
 refine AC<|Ac<|Bd rfl ((H0.memA (.tl (.tl .hd))) 0 _ rfl)<|AL [vI d0] H0 (.tl (.tl .hd)) (o1 rfl) (fun u3 u1 H2=>?_)
 refine Aa<|Al rfl<|RT.take u1 .hd (fun v3 v1 I2=>?_)
 obtain ⟨I0,J2⟩:=AH v1 (.one (.tl .hd) (.one (.tl .hd) (.one (.tl .hd) .done)))
 refine Ao hb0 Tryz.func71 rfl (.cons (.one (by kernel_rfl) rfl ((I0.memA (.tl .hd)) 0 _ rfl)) .nil) rfl ?_
 cases h
 exact I0.gv
def balance_must_int_p (_n:Nat) (a0:Int) (a1:Int):Option (Except Tbroken Int):=
  (if a1 = 0 then some (.ok a0) else some (.error (⟨a1⟩:Tbroken)))
theorem balance_must_int_c (n:Nat) (L:List Nat) (w:World) (_hL:∀ b ∈ L,b < w.heap.size) (a0:Int) (a1:Int)  {r:Except Tbroken Int} (h:balance_must_int_p n a0 a1 = some r) :
    Calls Tryz.prog 102 #[vI a0,vI a1] w (PGives w (fun (y:Int) _ u=>u = vI y) (fun e=>.iface 140 (.agg #[vI e.fErrno])) r):=by
 unfold balance_must_int_p at h
 have hS0:=Ax w
 refine MX.startP Tryz.func102 rfl rfl rfl (fun _ cs0 hb0 hp0=>?_)
 refine Ac<|Ag rfl<|Aa<|Ak<|Ac<|Ae rfl<|Ab (FV.neq (i:=a1) (j:=0) rfl rfl)<|Aa<|MX.ifn rfl h (fun c1 h=>?_) (fun c1 h=>?_)
 refine Aq<|Ac<|Ae rfl<|Ag rfl<|Aa<|Al rfl<|Bc hb0 Tryz.func102 rfl rfl ?_
 cases h
 exact ⟨hS0.ag,fun w9 hw9=>okOf_in rfl⟩
 refine Ar<|Ae rfl<|Ab (AS (vs:=[vI a1]) (u:=.agg #[vI a1]) (e1 rfl) (fun w9=>by kernel_rfl))<|Ab (FV.makeInterface (by kernel_rfl) rfl)<|RG.panic .plain rfl ?_
 cases h
 exact Ba hp0 Tryz.func102 ⟨hS0.ag,rfl⟩
def share_Sign_1_p (n:Nat) (a0:TRatio) (_a1:TRatio):Option Int:=
  (wide_Long_Side_p n a0.fLong).bind fun b0=>some b0
theorem share_Sign_1_c (n:Nat) (L:List Nat) (w:World) (hL:∀ b ∈ L,b < w.heap.size) (a0:TRatio) {v0_1:Value} (h0_1:Rep.R w L [v0_1] a0.fLong.fWords) {v0_3:Value} (h0_3:Rep.R w L [v0_3] a0.fUnder.fWords) (a1:TRatio) {v1_1:Value} (h1_1:Rep.R w L [v1_1] a1.fLong.fWords) {v1_3:Value} (h1_3:Rep.R w L [v1_3] a1.fUnder.fWords)  {r:Int} (h:share_Sign_1_p n a0 a1 = some r) :
    Calls Tryz.prog 143 #[.agg #[.bool a0.fLong.fBelow,v0_1,.bool a0.fUnder.fBelow,v0_3],.agg #[.bool a1.fLong.fBelow,v1_1,.bool a1.fUnder.fBelow,v1_3]] w (Gives w fun _ u=>u = vI r):=by
 unfold share_Sign_1_p at h
 have hS0:=Ax w
 refine AA Tryz.func143 rfl rfl rfl (fun _ cs0 hb0=>?_)
 refine Ac<|Aj .plain rfl (Aw hS0 rfl rfl) (fun t0 j0 c0 q0=>?_)
 refine Aj .plain rfl (Aw c0 rfl rfl) (fun u0 p0 b0 s0=>?_)
 refine Ag rfl<|Aa<|Ac<|Bg 0 rfl<|Ab (Bl (cs:=[.bool a0.fLong.fBelow,v0_1]) (by kernel_rfl) rfl (mem_part (b0.memA (.tl .hd)) 0 2)) ?_
 obtain ⟨g0,d0,h⟩:=bi h
 refine Bf (vI g0) body144 rfl (e1 rfl) (fun w9 hw9=>wide_Long_Side_c n _ w9 (b0.hL0 hL hw9) a0.fLong (b0.k0 h0_1 hw9) d0) rfl<|Ag rfl<|Aa<|Al rfl<|Bc hb0 Tryz.func143 rfl rfl ?_
 cases h
 exact b0.gv
def tb138_4:List (Nat × Nat × Nat):=[(0,32768,4),(0,65536,8),(2,131072,65536),(0,262144,16),(12,524288,262144),(21,1048576,688128),(63,64,1048576),(127,128,0)]
theorem body138:bodyB Tryz.prog 138 = true:=by kernel_rfl
theorem body143:bodyB Tryz.prog 143 = true:=by kernel_rfl
def share_Sign_p (n:Nat) (a0:TShare):Option (Int × Int):=
  (share_valid_p n ([a0,a0]:List TShare)).bind fun b0=>(if b0 = true then (share_Read_p n a0).bind fun c0=>(share_Read_p n a0).bind fun d0=>(share_Sign_1_p n c0 d0).bind fun g0=>some (g0,(0:Int)) else some ((0:Int),(20:Int)))
theorem share_Sign_c (n:Nat) (L:List Nat) (w:World) (hL:∀ b ∈ L,b < w.heap.size) (a0:TShare)  {r:Int × Int} (h:share_Sign_p n a0 = some r) :
    Calls Tryz.prog 103 #[.agg ((cs_TShare a0)).toArray] w (Gives w fun _ u=>u = .tuple #[vI r.1,vI r.2]):=by
 unfold share_Sign_p at h
 have hS0:=Ax w
 refine AA Tryz.func103 rfl rfl rfl (fun _ cs0 hb0=>?_)
 refine Ac<|Aj .plain rfl (Aw hS0 rfl rfl) (fun t1 Q0 j0 X0=>?_)
 refine Ag rfl<|Ag rfl<|Aa<|Ac<|Ab (AB rfl (j0.memA .hd))<|Ab (AB rfl (j0.memA .hd))<|Bw (fst:=[]) (cap:=[]) (vs:=[.agg ((cs_TShare a0)).toArray,.agg ((cs_TShare a0)).toArray,.func (.func 143) #[] #[]]) .plain body138 Tryz.func138 rfl rfl rfl rfl (e3 rfl rfl rfl) rfl (fun W0 s0 d1=>?_)
 refine Ac<|Aj .plain rfl (Aw j0 rfl rfl) (fun u1 R0 v0 Y0=>?_)
 refine Aj .plain rfl (Aw v0 rfl rfl) (fun v1 U0 k0 Z0=>?_)
 refine Ag rfl<|Ag rfl<|Aa<|Ak<|Ac<|Ab (AB rfl (k0.memA (.tl .hd)))<|Ab (AB rfl (k0.memA .hd))<|Aj .plain rfl (AW (α:=TShare) (xs:=([a0,a0]:List TShare)) (vs:=[.agg ((cs_TShare a0)).toArray,.agg ((cs_TShare a0)).toArray]) (ds' :=(cs_TShare a0 ++ cs_TShare a0)) rfl k0 el68 rfl (e2 rfl rfl) (by kernel_rfl) rfl) (fun x1 V0 c0 b1=>?_)
 have z0:=AG (cs:=(cs_TShare a0 ++ cs_TShare a0)) (xs:=(([a0,a0]:List TShare):List TShare)) c0 L (Au (cs:=(cs_TShare a0)) (ds:=(cs_TShare a0)) (mk_TShare a0.fN a0.fD) (Au (cs:=(cs_TShare a0)) (ds:=[]) (mk_TShare a0.fN a0.fD) (AO _ _)))
 obtain ⟨K0,G0,h⟩:=bi h
 refine Bf (.bool K0) body125 rfl (e1 rfl) (fun w9 hw9=>share_valid_c n _ w9 (c0.hL0 hL hw9) ([a0,a0]:List TShare) (Am (St.lend (α:=TShare) (L:=L) c0 .hd z0 hL) hw9) G0) rfl<|Ab (Bz rfl)<|Aa<|MX.ifnb rfl h (fun u0 h=>?_) (fun u0 h=>?_)
 refine Aq<|Ak<|AF 8 tb138_4 (by kernel_rfl) (by kernel_rfl) (by kernel_rfl) (fun b0 g0=>?_)
 refine Ah 0 1 b0 rfl g0 (fun _=>Ai rfl) rfl<|AD 1 3 244 b0 rfl g0 (AB rfl (c0.memA (.tl (.tl .hd)))) rfl<|AD 3 11 240 b0 rfl g0 (AB rfl (c0.memA (.tl .hd))) rfl ?_
 obtain ⟨M0,H0,h⟩:=bi h
 refine Bi 2 15 b0 rfl .plain body130 rfl (e1 rfl) (fun w9 hw9=>share_Read_c n _ w9 (c0.hL hL hw9) a0 H0) rfl (fun y1 q1 x0 ⟨g1,j1,hu_,C0,D0⟩=>?_)
 subst hu_
 obtain ⟨p0,c1⟩:=c0.agr x0
 obtain ⟨P0,I0,h⟩:=bi h
 refine Bi 4 31 b0 rfl .plain body130 rfl (e1 rfl) (fun w9 hw9=>share_Read_c n _ w9 (p0.hL hL hw9) a0 I0) rfl (fun z1 s1 y0 ⟨k1,p1,hu_,E0,F0⟩=>?_)
 subst hu_
 obtain ⟨d0,q0⟩:=p0.agr y0
 obtain ⟨t0,J0,h⟩:=bi h
 have A0:=Ap C0 q0
 have B0:=Ap D0 q0
 refine BI 5 63 192 (vI t0) b0 rfl g0 body143 rfl (e2 rfl rfl) (fun w9 hw9=>share_Sign_1_c n _ w9 (d0.hL0 hL hw9) M0 (d0.kd A0 hw9) (d0.kd B0 hw9) P0 (d0.kd E0 hw9) (d0.kd F0 hw9) J0) rfl<|Ah 6 127 b0 rfl g0 (fun _=>AJ rfl) rfl<|Ah 7 255 b0 rfl g0 (fun _=>AJ rfl) rfl<|AE (doneD_ok b0 (by kernel_rfl))<|Al rfl<|Ao (u:=.tuple #[vI t0,vI 0]) s0 Tryz.func138 rfl (.cons (.tmp rfl) (.cons (.tmp rfl) .nil)) rfl<|Ab (Af rfl rfl)<|Ab (Af rfl rfl)<|Ag rfl<|Ag rfl<|Aa<|Al rfl<|Ao hb0 Tryz.func103 rfl (.cons (.tmp rfl) (.cons (.tmp rfl) .nil)) rfl ?_
 cases h
 exact d0.gv
 refine Ac<|Ag rfl<|Aa<|Ac<|Ae rfl<|Ag rfl<|Ag rfl<|Aa<|Al rfl<|Ao (u:=.tuple #[vI 0,vI 20]) s0 Tryz.func138 rfl (.cons (.tmp rfl) (.cons (.tmp rfl) .nil)) rfl<|Ab (Af rfl rfl)<|Ab (Af rfl rfl)<|Ag rfl<|Ag rfl<|Aa<|Al rfl<|Ao hb0 Tryz.func103 rfl (.cons (.tmp rfl) (.cons (.tmp rfl) .nil)) rfl ?_
 cases h
 exact c0.gv
def tb82_1:List (Nat × Nat × Nat):=[(0,32,4),(1,64,32),(0,128,8),(4,256,128),(10,512,320),(0,1024,4),(32,2048,1024),(0,4096,8),(128,8192,4096),(336,16384,10240),(528,32768,16896),(2047,0,32784)]
def share_Ratio_Times_p (n:Nat) (a0:TRatio) (a1:TRatio):Option TRatio:=
  (wide_Long_Times_p n a0.fLong a1.fLong).bind fun b0=>(wide_Long_Times_p n a0.fUnder a1.fUnder).bind fun c0=>(share_Lowest_p n b0 c0).bind fun d0=>some d0
theorem share_Ratio_Times_c (n:Nat) (L:List Nat) (w:World) (hL:∀ b ∈ L,b < w.heap.size) (a0:TRatio) {v0_1:Value} (h0_1:Rep.R w L [v0_1] a0.fLong.fWords) {v0_3:Value} (h0_3:Rep.R w L [v0_3] a0.fUnder.fWords) (a1:TRatio) {v1_1:Value} (h1_1:Rep.R w L [v1_1] a1.fLong.fWords) {v1_3:Value} (h1_3:Rep.R w L [v1_3] a1.fUnder.fWords)  {r:TRatio} (h:share_Ratio_Times_p n a0 a1 = some r) :
    Calls Tryz.prog 82 #[.agg #[.bool a0.fLong.fBelow,v0_1,.bool a0.fUnder.fBelow,v0_3],.agg #[.bool a1.fLong.fBelow,v1_1,.bool a1.fUnder.fBelow,v1_3]] w (Gives w fun w' u=>∃ v0_1 v0_3:Value,u = .agg #[.bool r.fLong.fBelow,v0_1,.bool r.fUnder.fBelow,v0_3]∧Rep.R w' L [v0_1] r.fLong.fWords∧Rep.R w' L [v0_3] r.fUnder.fWords):=by
 unfold share_Ratio_Times_p at h
 have hS0:=Ax w
 refine AA Tryz.func82 rfl rfl rfl (fun _ cs0 hb0=>?_)
 refine Ac<|Aj .plain rfl (Aw hS0 rfl rfl) (fun p1 R0 x0 W0=>?_)
 refine Aj .plain rfl (Aw x0 rfl rfl) (fun q1 U0 y0 X0=>?_)
 refine Aj .plain rfl (Av [.bool false,vN,.bool false,vN] y0) (fun s1 V0 c0 Y0=>?_)
 refine Aa<|Ak<|AF 11 tb82_1 (by kernel_rfl) (by kernel_rfl) (by kernel_rfl) (fun b0 d0=>?_)
 refine Ah 0 1 b0 rfl d0 (fun _=>Bh 0 rfl) rfl<|AD 1 3 3600 b0 rfl d0 (Bl (cs:=[.bool a0.fLong.fBelow,v0_1]) (by kernel_rfl) rfl (mem_part (c0.memA (.tl (.tl .hd))) 0 2)) rfl<|Ah 2 7 b0 rfl d0 (fun _=>Bh 0 rfl) rfl<|AD 3 15 3600 b0 rfl d0 (Bl (cs:=[.bool a1.fLong.fBelow,v1_1]) (by kernel_rfl) rfl (mem_part (c0.memA (.tl .hd)) 0 2)) rfl<|Ah 5 47 b0 rfl d0 (fun _=>Bh 2 rfl) rfl<|AD 6 111 3584 b0 rfl d0 (Bl (cs:=[.bool a0.fUnder.fBelow,v0_3]) (by kernel_rfl) rfl (mem_part (c0.memA (.tl (.tl .hd))) 2 2)) rfl<|Ah 7 239 b0 rfl d0 (fun _=>Bh 2 rfl) rfl<|AD 8 495 3584 b0 rfl d0 (Bl (cs:=[.bool a1.fUnder.fBelow,v1_3]) (by kernel_rfl) rfl (mem_part (c0.memA (.tl .hd)) 2 2)) rfl ?_
 obtain ⟨P0,J0,h⟩:=bi h
 refine Bi 4 511 b0 rfl .plain body132 rfl (e2 rfl rfl) (fun w9 hw9=>wide_Long_Times_c n _ w9 (c0.hL hL hw9) a0.fLong (c0.km h0_1 hw9) a1.fLong (c0.km h1_1 hw9) J0) rfl (fun t1 g1 B0 ⟨c1,hu_,H0⟩=>?_)
 subst hu_
 obtain ⟨g0,Z0⟩:=c0.agr B0
 obtain ⟨Q0,K0,h⟩:=bi h
 refine Bi 9 1023 b0 rfl .plain body132 rfl (e2 rfl rfl) (fun w9 hw9=>wide_Long_Times_c n _ w9 (g0.hL hL hw9) a0.fUnder (g0.km h0_3 hw9) a1.fUnder (g0.km h1_3 hw9) K0) rfl (fun u1 j1 C0 ⟨d1,hu_,I0⟩=>?_)
 subst hu_
 obtain ⟨s0,A0⟩:=g0.agr C0
 obtain ⟨k0,M0,h⟩:=bi h
 have E0:=Ap H0 A0
 refine Bi 10 2047 b0 rfl .plain body131 rfl (e2 rfl rfl) (fun w9 hw9=>share_Lowest_c n _ w9 (s0.hL hL hw9) P0 (Am E0 hw9) Q0 (Am I0 hw9) M0) rfl (fun v1 k1 D0 ⟨p0,q0,hu_,u0,v0⟩=>?_)
 subst hu_
 obtain ⟨z0,b1⟩:=s0.agr D0
 refine Bt 11 4095 b0 rfl rfl .plain (Ay (news:=[.bool k0.fLong.fBelow,p0,.bool k0.fUnder.fBelow,q0]) z0 .hd rfl rfl rfl rfl rfl rfl (o4 rfl (AI u0) rfl (AI v0))) (fun x1 j0 t0=>?_)
 refine AE (doneD_ok b0 (by kernel_rfl))<|Al rfl<|Ao hb0 Tryz.func82 rfl (.cons (.many (cs:=[.bool k0.fLong.fBelow,p0,.bool k0.fUnder.fBelow,q0]) (by kernel_rfl) rfl (j0.memA .hd)) .nil) rfl ?_
 cases h
 have F0:=Ap u0 t0
 have G0:=Ap v0 t0
 exact ⟨j0.ag,fun w9 hw9=>⟨p0,q0,rfl,j0.kd F0 hw9,j0.kd G0 hw9⟩⟩
theorem body82:bodyB Tryz.prog 82 = true:=by kernel_rfl
def share_Mul_p (n:Nat) (a0:TShare) (a1:TShare):Option (TShare × Int):=
  (share_valid_p n ([a0,a1]:List TShare)).bind fun d0=>(if d0 = true then (share_Read_p n a0).bind fun g0=>(share_Read_p n a1).bind fun j0=>(share_Ratio_Times_p n g0 j0).bind fun k0=>(share_told_p n k0 (0:Int)).bind fun c0=>some (c0.1,c0.2) else (share_told_p n (⟨(⟨false,([]:List UInt64)⟩:TLong),(⟨false,([]:List UInt64)⟩:TLong)⟩:TRatio) (20:Int)).bind fun b0=>some (b0.1,b0.2))
theorem share_Mul_c (n:Nat) (L:List Nat) (w:World) (hL:∀ b ∈ L,b < w.heap.size) (a0:TShare) (a1:TShare)  {r:TShare × Int} (h:share_Mul_p n a0 a1 = some r) :
    Calls Tryz.prog 25 #[.agg ((cs_TShare a0)).toArray,.agg ((cs_TShare a1)).toArray] w (Gives w fun _ u=>u = .tuple #[.agg ((cs_TShare r.1)).toArray,vI r.2]):=by
 unfold share_Mul_p at h
 have hS0:=Ax w
 refine AA Tryz.func25 rfl rfl rfl (fun _ cs0 hb0=>?_)
 refine Ac<|Aj .plain rfl (Aw hS0 rfl rfl) (fun s2 y1 I0 J1=>?_)
 refine Aj .plain rfl (Aw I0 rfl rfl) (fun t2 z1 J0 K1=>?_)
 refine Aj .plain rfl (Av zL J0) (fun u2 A1 q0 M1=>?_)
 refine Ag rfl<|Aa<|Ac<|Ab (AB rfl (q0.memA (.tl (.tl .hd))))<|Ab (AB rfl (q0.memA (.tl .hd)))<|Bw (fst:=[]) (cap:=[]) (vs:=[.agg ((cs_TShare a0)).toArray,.agg ((cs_TShare a1)).toArray,.func (.func 82) #[] #[]]) .plain body80 Tryz.func80 rfl rfl rfl rfl (e3 rfl rfl rfl) rfl (fun G1 E0 Z1=>?_)
 refine Ac<|Aj .plain rfl (Aw q0 rfl rfl) (fun v2 B1 K0 P1=>?_)
 refine Aj .plain rfl (Aw K0 rfl rfl) (fun x2 C1 M0 Q1=>?_)
 refine Aj .plain rfl (Av [.bool false,vN,.bool false,vN] M0) (fun y2 D1 s0 R1=>?_)
 refine Ag rfl<|Aa<|Ak<|Ac<|Ab (AB rfl (s0.memA (.tl (.tl .hd))))<|Ab (AB rfl (s0.memA (.tl .hd)))<|Aj .plain rfl (AW (α:=TShare) (xs:=([a0,a1]:List TShare)) (vs:=[.agg ((cs_TShare a0)).toArray,.agg ((cs_TShare a1)).toArray]) (ds' :=(cs_TShare a0 ++ cs_TShare a1)) rfl s0 el68 rfl (e2 rfl rfl) (by kernel_rfl) rfl) (fun z2 E1 c0 U1=>?_)
 have V0:=AG (cs:=(cs_TShare a0 ++ cs_TShare a1)) (xs:=(([a0,a1]:List TShare):List TShare)) c0 L (Au (cs:=(cs_TShare a0)) (ds:=(cs_TShare a1)) (mk_TShare a0.fN a0.fD) (Au (cs:=(cs_TShare a1)) (ds:=[]) (mk_TShare a1.fN a1.fD) (AO _ _)))
 obtain ⟨u1,k1,h⟩:=bi h
 refine Bf (.bool u1) body125 rfl (e1 rfl) (fun w9 hw9=>share_valid_c n _ w9 (c0.hL0 hL hw9) ([a0,a1]:List TShare) (Am (St.lend (α:=TShare) (L:=L) c0 .hd V0 hL) hw9) k1) rfl<|Ab (Bz rfl)<|Aa<|MX.ifnb rfl h (fun H0 h=>?_) (fun H0 h=>?_)
 refine Aq<|Ak<|AF 6 tb80_4 (by kernel_rfl) (by kernel_rfl) (by kernel_rfl) (fun b0 t0=>?_)
 refine Ah 0 1 b0 rfl t0 (fun _=>Ai rfl) rfl<|AD 1 3 244 b0 rfl t0 (AB rfl (c0.memA (.tl (.tl (.tl .hd))))) rfl<|AD 3 11 240 b0 rfl t0 (AB rfl (c0.memA (.tl (.tl .hd)))) rfl ?_
 obtain ⟨v1,p1,h⟩:=bi h
 refine Bi 2 15 b0 rfl .plain body130 rfl (e1 rfl) (fun w9 hw9=>share_Read_c n _ w9 (c0.hL hL hw9) a0 p1) rfl (fun A2 j2 Q0 ⟨b2,c2,hu_,b1,c1⟩=>?_)
 subst hu_
 obtain ⟨y0,V1⟩:=c0.agr Q0
 obtain ⟨x1,q1,h⟩:=bi h
 refine Bi 4 31 b0 rfl .plain body130 rfl (e1 rfl) (fun w9 hw9=>share_Read_c n _ w9 (y0.hL hL hw9) a1 q1) rfl (fun B2 k2 R0 ⟨d2,g2,hu_,d1,g1⟩=>?_)
 subst hu_
 obtain ⟨z0,C0⟩:=y0.agr R0
 obtain ⟨d0,s1,h⟩:=bi h
 have W0:=Ap b1 C0
 have X0:=Ap c1 C0
 refine Bi 5 63 b0 rfl .plain body82 rfl (e2 rfl rfl) (fun w9 hw9=>share_Ratio_Times_c n _ w9 (z0.hL hL hw9) v1 (Am W0 hw9) (Am X0 hw9) x1 (Am d1 hw9) (Am g1 hw9) s1) rfl (fun C2 p2 U0 ⟨u0,v0,hu_,F0,G0⟩=>?_)
 subst hu_
 obtain ⟨P0,W1⟩:=z0.agr U0
 refine Bt 6 127 b0 rfl rfl .plain (Ay (news:=[.bool d0.fLong.fBelow,u0,.bool d0.fUnder.fBelow,v0]) P0 (.tl .hd) rfl rfl rfl rfl rfl rfl (o4 rfl (AI F0) rfl (AI G0))) (fun D2 g0 D0=>?_)
 refine Bs (i:=7) (readyD_ok b0 (by kernel_rfl)) (RO.val (m' :=255) (stepC_ok b0 (by kernel_rfl)) rfl .plain rfl (AJ rfl) ?_)
 refine AE (doneD_ok b0 (by kernel_rfl))<|Al rfl<|Ao (u:=.tuple #[.agg #[.bool d0.fLong.fBelow,u0,.bool d0.fUnder.fBelow,v0],vI 0]) E0 Tryz.func80 rfl (.cons (.many (cs:=[.bool d0.fLong.fBelow,u0,.bool d0.fUnder.fBelow,v0]) (by kernel_rfl) rfl (g0.memA (.tl .hd))) (.cons (.tmp rfl) .nil)) rfl<|Ab (Af rfl rfl)<|Ab (Af rfl rfl) ?_
 obtain ⟨k0,t1,h⟩:=bi h
 have Y0:=Ap F0 D0
 have Z0:=Ap G0 D0
 refine Bf (.tuple #[.agg ((cs_TShare k0.1)).toArray,vI k0.2]) body79 rfl (e2 rfl rfl) (fun w9 hw9=>share_told_c n _ w9 (g0.hL0 hL hw9) d0 (g0.kd Y0 hw9) (g0.kd Z0 hw9) (0:Int) t1) rfl<|Ab (Af rfl rfl)<|Ab (Af rfl rfl)<|AL (cs_TShare k0.1) g0 (.tl (.tl (.tl (.tl .hd)))) (onesB rfl) (fun E2 A0 X1=>?_)
 refine Ag rfl<|Aa<|Al rfl<|Ao hb0 Tryz.func25 rfl (.cons (.many (cs:=(cs_TShare k0.1)) (by kernel_rfl) rfl (A0.memA (.tl (.tl (.tl (.tl .hd)))))) (.cons (.tmp rfl) .nil)) rfl ?_
 cases h
 exact A0.gv
 refine Ac<|Aj .plain rfl (Av [.bool false,vN,.bool false,vN] c0) (fun F2 F1 B0 Y1=>?_)
 refine Aa<|Ac<|Ab (AB rfl (B0.memA .hd))<|AL [.bool false,vN,.bool false,vN] B0 (.tl (.tl .hd)) (onesB rfl) (fun G2 p0 H1=>?_)
 refine Ag rfl<|Aa<|Al rfl<|Ao (u:=.tuple #[.agg #[.bool false,vN,.bool false,vN],vI 20]) E0 Tryz.func80 rfl (.cons (.many (cs:=[.bool false,vN,.bool false,vN]) (by kernel_rfl) rfl (p0.memA (.tl (.tl .hd)))) (.cons (.tmp rfl) .nil)) rfl<|Ab (Af rfl rfl)<|Ab (Af rfl rfl) ?_
 obtain ⟨j0,j1,h⟩:=bi h
 refine Bf (.tuple #[.agg ((cs_TShare j0.1)).toArray,vI j0.2]) body79 rfl (e2 rfl rfl) (fun w9 hw9=>share_told_c n _ w9 (p0.hL0 hL hw9) (⟨(⟨false,([]:List UInt64)⟩:TLong),(⟨false,([]:List UInt64)⟩:TLong)⟩:TRatio) (Am (Rep.nilSlice _ _) hw9) (Am (Rep.nilSlice _ _) hw9) (20:Int) j1) rfl<|Ab (Af rfl rfl)<|Ab (Af rfl rfl)<|AL (cs_TShare j0.1) p0 (.tl (.tl (.tl (.tl (.tl .hd))))) (onesB rfl) (fun q2 x0 I1=>?_)
 refine Ag rfl<|Aa<|Al rfl<|Ao hb0 Tryz.func25 rfl (.cons (.many (cs:=(cs_TShare j0.1)) (by kernel_rfl) rfl (x0.memA (.tl (.tl (.tl (.tl (.tl .hd))))))) (.cons (.tmp rfl) .nil)) rfl ?_
 cases h
 exact x0.gv
def tb105_2:List (Nat × Nat × Nat):=[(0,256,16),(1,512,256),(0,1024,2),(6,2048,1536)]
def wide_Int_p (n:Nat) (a0:UInt64 × UInt64 × UInt64 × UInt64 × UInt64 × UInt64 × UInt64 × UInt64):Option (Int × Int):=
  (wide_Of_p n (i64of a0.1)).bind fun b0=>(if b0 = a0 then some (i64of a0.1,(0:Int)) else some ((0:Int),(6:Int)))
theorem wide_Int_c (n:Nat) (L:List Nat) (w:World) (hL:∀ b ∈ L,b < w.heap.size) (a0:UInt64 × UInt64 × UInt64 × UInt64 × UInt64 × UInt64 × UInt64 × UInt64)  {r:Int × Int} (h:wide_Int_p n a0 = some r) :
    Calls Tryz.prog 105 #[.agg ((cs_A34 a0)).toArray] w (Gives w fun _ u=>u = .tuple #[vI r.1,vI r.2]):=by
 unfold wide_Int_p at h
 have hS0:=Ax w
 refine AA Tryz.func105 rfl rfl rfl (fun _ cs0 hb0=>?_)
 refine Ac<|Aj .plain rfl (Aw hS0 rfl rfl) (fun s0 p0 b0 q0=>?_)
 refine Ag rfl<|Ag rfl<|Aa<|Ac<|Ab (AZ (m:=1) (k:=0) (len:=8) (by kernel_rfl) rfl rfl rfl (by omega))<|Bd rfl ((b0.memA .hd) 0 _ rfl)<|Ab (FV.convUI (a:=a0.1) Tryz.underlying33 Tryz.underlying3 rfl)<|Ag rfl<|Aa<|Ak<|Ak<|AF 4 tb105_2 (by kernel_rfl) (by kernel_rfl) (by kernel_rfl) (fun c0 d0=>?_)
 refine Ah 0 1 c0 rfl d0 (fun _=>Ai rfl) rfl ?_
 obtain ⟨g0,k0,h⟩:=bi h
 refine BI 1 3 8 (.agg ((cs_A34 g0)).toArray) c0 rfl d0 body128 rfl (e1 rfl) (fun w9 hw9=>wide_Of_c n _ w9 (b0.hL0 hL hw9) (i64of a0.1) k0) rfl<|AD 2 7 8 c0 rfl d0 (AB rfl (b0.memA .hd)) rfl<|Ah 3 15 c0 rfl d0 (fun _=>FV.neqV (xs:=((cs_A34 g0)).toArray) (ys:=((cs_A34 a0)).toArray) rfl rfl (by kernel_rfl) (eqlD_35 g0 a0)) rfl<|AE (doneD_ok c0 (by kernel_rfl))<|MX.ifn rfl h (fun j0 h=>?_) (fun j0 h=>?_)
 refine Aq<|Ac<|Ae rfl<|Ag rfl<|Ag rfl<|Aa<|Al rfl<|Ao hb0 Tryz.func105 rfl (.cons (.tmp rfl) (.cons (.tmp rfl) .nil)) rfl ?_
 cases h
 exact b0.gv
 refine Ac<|Ag rfl<|Ag rfl<|Aa<|Al rfl<|Ao hb0 Tryz.func105 rfl (.cons (.tmp rfl) (.cons (.tmp rfl) .nil)) rfl ?_
 cases h
 exact b0.gv
def balance_must_api_Wide_p (_n:Nat) (a0:UInt64 × UInt64 × UInt64 × UInt64 × UInt64 × UInt64 × UInt64 × UInt64) (a1:Int):Option (Except Tbroken (UInt64 × UInt64 × UInt64 × UInt64 × UInt64 × UInt64 × UInt64 × UInt64)):=
  (if a1 = 0 then some (.ok a0) else some (.error (⟨a1⟩:Tbroken)))
theorem balance_must_api_Wide_c (n:Nat) (L:List Nat) (w:World) (_hL:∀ b ∈ L,b < w.heap.size) (a0:UInt64 × UInt64 × UInt64 × UInt64 × UInt64 × UInt64 × UInt64 × UInt64) (a1:Int)  {r:Except Tbroken (UInt64 × UInt64 × UInt64 × UInt64 × UInt64 × UInt64 × UInt64 × UInt64)} (h:balance_must_api_Wide_p n a0 a1 = some r) :
    Calls Tryz.prog 106 #[.agg ((cs_A34 a0)).toArray,vI a1] w (PGives w (fun (y:UInt64 × UInt64 × UInt64 × UInt64 × UInt64 × UInt64 × UInt64 × UInt64) _ u=>u = .agg ((cs_A34 y)).toArray) (fun e=>.iface 140 (.agg #[vI e.fErrno])) r):=by
 unfold balance_must_api_Wide_p at h
 have hS0:=Ax w
 refine MX.startP Tryz.func106 rfl rfl rfl (fun _ cs0 hb0 hp0=>?_)
 refine Ac<|Aj .plain rfl (Aw hS0 rfl rfl) (fun t0 j0 g0 p0=>?_)
 refine Aj .plain rfl (Av zP g0) (fun u0 k0 b0 q0=>?_)
 refine Aa<|Ak<|Ac<|Ae rfl<|Ab (FV.neq (i:=a1) (j:=0) rfl rfl)<|Aa<|MX.ifn rfl h (fun d0 h=>?_) (fun d0 h=>?_)
 refine Aq<|Ac<|Ab (AB rfl (b0.memA (.tl .hd)))<|AL (cs_A34 a0) b0 .hd (onesB rfl) (fun v0 c0 s0=>?_)
 refine Aa<|Al rfl<|Ao hb0 Tryz.func106 rfl (.cons (.many (cs:=(cs_A34 a0)) (by kernel_rfl) rfl (c0.memA .hd)) .nil) rfl ?_
 cases h
 exact ⟨c0.ag,fun w9 hw9=>okOf_in rfl⟩
 refine Ar<|Ae rfl<|Ab (AS (vs:=[vI a1]) (u:=.agg #[vI a1]) (e1 rfl) (fun w9=>by kernel_rfl))<|Ab (FV.makeInterface (by kernel_rfl) rfl)<|RG.panic .plain rfl ?_
 cases h
 exact Ba hp0 Tryz.func106 ⟨b0.ag,rfl⟩
def share_Ratio_Down_p (n:Nat) (a0:TRatio):Option TLong:=
  (wide_Long_Parts_p n a0.fLong a0.fUnder).bind fun b0=>some b0.1
theorem share_Ratio_Down_c (n:Nat) (L:List Nat) (w:World) (hL:∀ b ∈ L,b < w.heap.size) (a0:TRatio) {v0_1:Value} (h0_1:Rep.R w L [v0_1] a0.fLong.fWords) {v0_3:Value} (h0_3:Rep.R w L [v0_3] a0.fUnder.fWords)  {r:TLong} (h:share_Ratio_Down_p n a0 = some r) :
    Calls Tryz.prog 147 #[.agg #[.bool a0.fLong.fBelow,v0_1,.bool a0.fUnder.fBelow,v0_3]] w (Gives w fun w' u=>∃ v0_1:Value,u = .agg #[.bool r.fBelow,v0_1]∧Rep.R w' L [v0_1] r.fWords):=by
 unfold share_Ratio_Down_p at h
 have hS0:=Ax w
 refine AA Tryz.func147 rfl rfl rfl (fun _ cs0 hb0=>?_)
 refine Ac<|Aj .plain rfl (Aw hS0 rfl rfl) (fun Y0 M0 u0 U0=>?_)
 refine Aj .plain rfl (Av [.bool false,vN] u0) (fun Z0 P0 b0 V0=>?_)
 refine Aa<|Ac<|Bg 0 rfl<|Ab (Bl (cs:=[.bool a0.fLong.fBelow,v0_1]) (by kernel_rfl) rfl (mem_part (b0.memA (.tl .hd)) 0 2))<|Bg 2 rfl<|Ab (Bl (cs:=[.bool a0.fUnder.fBelow,v0_3]) (by kernel_rfl) rfl (mem_part (b0.memA (.tl .hd)) 2 2)) ?_
 obtain ⟨d0,J0,h⟩:=bi h
 refine AX (fst:=[]) (cap:=[]) .plain body168 rfl (e2 rfl rfl) (fun w9 hw9=>wide_Long_Parts_c n _ w9 (b0.hL hL hw9) a0.fLong (b0.km h0_1 hw9) a0.fUnder (b0.km h0_3 hw9) J0) rfl (fun b1 X0 C0 ⟨c0,K0,hu_,k0,I0⟩=>?_)
 subst hu_
 obtain ⟨v0,W0⟩:=b0.agr C0
 refine Ae rfl<|Ab (Af rfl rfl)<|Ab (Af rfl rfl)<|Aj .plain rfl (Av [.bool false,vN] v0) (fun c1 Q0 x0 q0=>?_)
 refine Aj .plain rfl (Av [.bool false,vN] x0) (fun d1 R0 y0 s0=>?_)
 have D0:=Ap k0 (Tt q0 s0)
 refine AL [.bool d0.1.fBelow,c0] y0 (.tl .hd) (o2 rfl (AI D0)) (fun g1 z0 A0=>?_)
 have j0:=Tt q0 (Tt s0 A0)
 have E0:=Ap I0 j0
 refine AL [.bool d0.2.fBelow,K0] z0 .hd (o2 rfl (AI E0)) (fun j1 p0 t0=>?_)
 refine Aa<|Ac<|Ab (AB rfl (p0.memA (.tl .hd))) ?_
 have F0:=Ap k0 (Tt j0 t0)
 refine AL [.bool d0.1.fBelow,c0] p0 (.tl (.tl .hd)) (o2 rfl (AI F0)) (fun k1 g0 B0=>?_)
 refine Aa<|Al rfl<|Ao hb0 Tryz.func147 rfl (.cons (.many (cs:=[.bool d0.1.fBelow,c0]) (by kernel_rfl) rfl (g0.memA (.tl (.tl .hd)))) .nil) rfl ?_
 cases h
 have H0:=Tt j0 (Tt t0 B0)
 have G0:=Ap k0 H0
 exact ⟨g0.ag,fun w9 hw9=>⟨c0,rfl,g0.kd G0 hw9⟩⟩
end Go.Proofs.YtmhgoecnjleagaaGreatDoor
