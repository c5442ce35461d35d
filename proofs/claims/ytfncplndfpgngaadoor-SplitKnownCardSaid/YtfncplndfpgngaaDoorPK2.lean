/- Functions of the program, and what they give: part 2. -/
import Derived.Test.YtfncplndfpgngaaDoorPK1
namespace Go.Proofs.YtfncplndfpgngaaDoor
open Go Go.RowKit
set_option maxRecDepth 4000
set_option maxHeartbeats 4000000

def tb35_1:List (Nat × Nat × Nat):=[(0,16384,1),(1,32768,16384),(2,65536,32768),(4,131072,65536),(0,262144,4),(16,524288,262144),(40,1048576,655360),(127,2097152,16384),(255,4194304,2097152),(383,0,5242880)]
def tb54_4:List (Nat × Nat × Nat):=[(0,262144,512),(0,524288,2),(3,1048576,786432),(4,2097152,1048576),(8,4194304,2097160),(8,8388608,2097153),(8,16777216,2097664),(104,33554432,27262976),(136,67108864,35651584),(8,134217728,2097153),(8,268435456,2097664),(1032,536870912,270532608),(2568,1073741824,673185792),(4104,2147483648,1075838976),(8472,4294967296,2220883968),(16392,8589934592,4297064448),(32776,17179869184,8592031744)]
def tb54_6:List (Nat × Nat × Nat):=[(0,137438953472,1),(0,274877906944,512),(0,549755813888,1),(0,1099511627776,512),(8,2199023255552,1099511627776),(0,4398046511104,1),(0,8796093022208,512),(64,17592186044416,8796093022208),(160,35184372088832,21990232555520),(256,70368744177664,35184372088832),(0,140737488355328,1),(0,281474976710656,512),(3072,562949953421312,422212465065984),(4096,1125899906842624,562949953421312),(9187,2251799813685248,412316860416),(25571,0,2322168557862912),(65535,4503599627370496,2748779069440),(131071,0,5629499534213120)]
def bx_Tparent (x:Tparent):List Value:=[vI x.fv,vI x.fu,.int .u8 (x.fl.toNat:Int)]
theorem op_Tparent {w:World} {L:List Nat} {cs:List Value} {x:Tparent} (h:Rep.R w L cs x):cs = [vI x.fv,vI x.fu,.int .u8 (x.fl.toNat:Int)]:=by
  obtain ⟨c0,r0,rfl,h0,h⟩:=h
  have e0:c0 = [vI x.fv]:=h0; subst e0
  obtain ⟨c1,r1,rfl,h1,h⟩:=h
  have e1:c1 = [vI x.fu]:=h1; subst e1
  have e2:r1 = [.int .u8 (x.fl.toNat:Int)]:=h; subst e2
  rfl
theorem mk_Tparent {w:World} {L:List Nat} (a0:Int) (a1:Int) (a2:UInt8):Rep.R w L [vI a0,vI a1,.int .u8 (a2.toNat:Int)] (⟨a0,a1,a2⟩:Tparent):=⟨[vI a0],[vI a1,.int .u8 (a2.toNat:Int)],rfl,rfl,⟨[vI a1],[.int .u8 (a2.toNat:Int)],rfl,rfl,rfl⟩⟩
theorem el51:ElT Tryd.prog 51 59 (Rep.size Tparent) 24 (.agg #[vI 0,vI 0,.int .u8 0]) [vI 0,vI 0,.int .u8 0]:=⟨Tryd.underlying51,by kernel_rfl,rfl,rfl,rfl,rfl⟩
theorem body24:bodyB Tryd.prog 24 = true:=by kernel_rfl
theorem body35:bodyB Tryd.prog 35 = true:=by kernel_rfl
theorem body36:bodyB Tryd.prog 36 = true:=by kernel_rfl
theorem body37:bodyB Tryd.prog 37 = true:=by kernel_rfl
theorem body38:bodyB Tryd.prog 38 = true:=by kernel_rfl
theorem body45:bodyB Tryd.prog 45 = true:=by kernel_rfl
theorem body54:bodyB Tryd.prog 54 = true:=by kernel_rfl
def split_view_parents_l1 (n:Nat) (p0:Nat) (k0:Int × (List Tparent) → Option (List Tparent)):Int × (List Tparent) → Option (List Tparent)
  | (b0,c0)=>(if ((p0:Nat):Int) < b0 then (idx c0 b0).bind fun g0=>(chk (b0 - 1)).bind fun q0=>(idx c0 q0).bind fun u0=>(split_view_parents_1_p n g0 u0).bind fun y0=>(if y0 < 0 then (chk (b0 - 1)).bind fun d0=>(chk (b0 - 1)).bind fun s0=>(idx c0 s0).bind fun v0=>(put c0 ((b0.toNat:Nat):Int) v0).bind fun j0=>(idx j0 d0).bind fun z0=>(put j0 ((d0.toNat:Nat):Int) g0).bind fun x0=>(chk (b0 - 1)).bind fun t0=>k0 (t0,x0) else some c0) else some c0)
def split_view_parents_l2 (n:Nat) (k0:Nat) (j0:Nat) (d0:Int × (List Tparent) → Option (List Tparent)):Int × (List Tparent) → Option (List Tparent)
  | (b0,c0)=>(if b0 < ((k0:Nat):Int) then jn (fun q0=>(chk (b0 + 1)).bind fun p0=>d0 (p0,q0)) (fun g0=>Option.bind (loopF (split_view_parents_l1 n j0) n (b0,c0)) (g0)) else some c0)
def split_view_parents_l3 (n:Nat) (p0:List Tparent) (_J1608:Nat × Nat × Int × Bool × Bool → Option (List Tparent)):Nat × Nat × Int × Bool × Bool → Option (List Tparent)
  | (b0,c0,q0,d0,s0)=>(chk (((c0:Nat):Int) - ((b0:Nat):Int))).bind fun g0=>(if g0 ≤ 12 then (chk (((b0:Nat):Int) + 1)).bind fun j0=>Option.bind (loopF (split_view_parents_l2 n c0 b0) n (j0,p0)) (fun k0=>some k0) else (if q0 = 0 then none else (if d0 = true then none else none)))
def split_view_parents_b762 (_n:Nat) (c0:Int × Tparent) (b0:(List Tparent) → Option (List Tparent)):(List Tparent) → Option (List Tparent)
  | g0=>(app g0 ([c0.2]:List Tparent)).bind fun d0=>b0 d0
def split_view_parents_l4 (_n:Nat) (a0:Tview) (a1:List Int) (j0:Nat × (List (Int × Tparent)) → Option (List (Int × Tparent))):Nat × (List (Int × Tparent)) → Option (List (Int × Tparent))
  | (b0,c0)=>(if b0 < a0.fj.fo.length then (a0.fj.fo[b0]?).bind fun d0=>(if d0.ft = true then j0 (b0 + 1,c0) else (idx d0.fy a0.fm).bind fun g0=>pcase (mget c0 g0) (jn (fun z0=>(chk (0 + d0.fp)).bind fun u0=>(natOf z0).bind fun s0=>j0 (b0 + 1,mset c0 g0 (⟨g0,u0,(0:UInt8) ||| (shl8 (1:UInt8) s0)⟩:Tparent))) (fun p0=>(if 0 < a1.length then (a1[b0]?).bind fun x0=>p0 x0 else p0 0))) (fun k0=>jn (fun A0=>(chk (k0.fu + d0.fp)).bind fun v0=>(natOf A0).bind fun t0=>j0 (b0 + 1,mset c0 g0 (⟨k0.fv,v0,k0.fl ||| (shl8 (1:UInt8) t0)⟩:Tparent))) (fun q0=>(if 0 < a1.length then (a1[b0]?).bind fun y0=>q0 y0 else q0 0)))) else some c0)
def split_view_parents_p (n:Nat) (a0:Tview) (a1:List Int):Option (List Tparent):=
  Option.bind (loopF (split_view_parents_l4 n a0 a1) n (0,([]:List (Int × Tparent)))) (fun c0=>mloop (fun b0=>(math_bits_Len_p n (u64of ((b0.length:Nat):Int))).bind fun d0=>loopF (split_view_parents_l3 n b0) n (0,b0.length,d0,true,true)) (split_view_parents_b762 n) n c0 ([]:List Tparent))
theorem split_view_parents_c (n:Nat) (L:List Nat) (w:World) (hL:∀ b ∈ L,b < w.heap.size) (a0:Tview) {v0_3:Value} (h0_3:Rep.R w L [v0_3] a0.fj.fo) (a1:List Int) {v1_0:Value} (h1_0:Rep.R w L [v1_0] a1)  {r:List Tparent} (h:split_view_parents_p n a0 a1 = some r) :
    Calls Tryd.prog 21 #[.agg #[vI a0.fj.fh,vI a0.fj.fc,vI a0.fj.fe,v0_3,vI a0.fm],v1_0] w (Gives w fun w' u=>∃ v0_0:Value,u = v0_0∧Rep.R w' L [v0_0] r):=by
 unfold split_view_parents_p at h
 have hS0:=AC w
 refine AF Tryd.func21 rfl rfl rfl (fun _ cs0 hb0=>?_)
 refine Ae<|Ax .plain rfl (AL hS0 rfl rfl) (fun w11 q0 s3 M01=>?_)
 have F7:=Rep.mv0 h1_0 s3
 refine Ax .plain rfl (AL s3 rfl (Rep.c1 F7)) (fun w17 t0 k5 P01=>?_)
 refine Af rfl<|Aa<|Ae<|Ax .plain rfl (Does.makeMap (κ:=Int) (ν:=Option Nat) k5) (fun p4 c0 p5 K5=>?_)
 have s5:St _ p4 (.obj c0 (mapO (pmD ([]:List ((Int × Tparent) × Nat)))) :: .cells t0 [v1_0] 28 :: .cells q0 [vI a0.fj.fh,vI a0.fj.fc,vI a0.fj.fe,v0_3,vI a0.fm] 61 :: (boxes 59 bx_Tparent ([]:List ((Int × Tparent) × Nat)) ++ [])):=p5
 have Q01:Tr w17 [.cells t0 [v1_0] 28,.cells q0 [vI a0.fj.fh,vI a0.fj.fc,vI a0.fj.fe,v0_3,vI a0.fm] 61] p4 (.obj c0 (mapO (pmD ([]:List ((Int × Tparent) × Nat)))) :: .cells t0 [v1_0] 28 :: .cells q0 [vI a0.fj.fh,vI a0.fj.fc,vI a0.fj.fe,v0_3,vI a0.fm] 61 :: (boxes 59 bx_Tparent ([]:List ((Int × Tparent) × Nat)) ++ [])):=K5
 refine Ax .plain rfl (AO [.map none] s5) (fun w29 x0 v5 U01=>?_)
 refine RG.sa [.map (some c0)] v5 .hd (o1 rfl) (fun w33 I1 V01=>?_)
 refine Aa<|Am<|Ae<|Ac (AI rfl (I1.memA (.tl (.tl (.tl .hd)))))<|AY (fst:=[]) (cap:=[]) .plain body24 rfl (e1 rfl) (fun w9 hw9=>AQ (split_view_land_c n _ w9 (I1.hL hL hw9) a0 (I1.km h0_3 hw9)) fun (w8:World) (u8:Value) ⟨b0_,hu_,s_⟩=>(⟨b0_,hu_,s_.from hw9⟩:∃ s0:Nat,u8 = Value.func (.func 38) #[] #[vP s0]∧St w33 w8 [.cells s0 [vI a0.fj.fh,vI a0.fj.fc,vI a0.fj.fe,v0_3,vI a0.fm] 61])) rfl (fun w38 U02 d02 ⟨s0,A9,k4⟩=>?_)
 subst A9
 have x5:=mk_push1 I1 k4
 have W01:=mk_tr1 I1 k4
 refine Aa<|Au<|MX.rangeP (lb:=[vP s0]) rfl x5 rfl body38 Tryd.func38 rfl rfl rfl (fun w45 z0 k0 C0 D01 C2 X01 Z9 B6 u02=>?_)
 refine Ae<|RG.fa 0 rfl<|RG.fa 3 rfl<|Ac (AS rfl ((mem_from (C2.memA (.tl (.tl .hd))) 0) 3 _ rfl)) ?_
 have b4:=Rep.mv0 h0_3 C2
 have j02:a0.fj.fo.length ≤ 281474976710656:=Rep.lenle b4
 refine Ac (FV.len (xs:=a0.fj.fo) Tryd.underlying23 rfl b4)<|Ab rfl<|Aa<|Au ?_
 obtain ⟨I02,x8,j7⟩:=bind_in2 h
 refine MX.loop (α:=Nat × (List ((Int × Tparent) × Nat))) (fun ⟨H0,b0⟩=>[(0,.func (.yield z0) #[] #[]),(1,vP s0),(7,v0_3),(8,vI ((a0.fj.fo.length:Nat):Int)),(9,vI ((H0:Nat):Int))]) (fun ⟨H0,b0⟩ Y2=>St w Y2 (.obj z0 (lpO C0 .ready none) :: .obj k0 (.deferred (some [])) :: .cells s0 [vI a0.fj.fh,vI a0.fj.fc,vI a0.fj.fe,v0_3,vI a0.fm] 61 :: .cells x0 [.map (some c0)] 74 :: .obj c0 (mapO (pmD b0)) :: .cells t0 [v1_0] 28 :: .cells q0 [vI a0.fj.fh,vI a0.fj.fc,vI a0.fj.fe,v0_3,vI a0.fm] 61 :: (boxes 59 bx_Tparent b0 ++ []))∧Tr w45 (.obj z0 (lpO C0 .ready none) :: .obj k0 (.deferred (some [])) :: .cells s0 [vI a0.fj.fh,vI a0.fj.fc,vI a0.fj.fe,v0_3,vI a0.fm] 61 :: .cells x0 [.map (some c0)] 74 :: .obj c0 (mapO (pmD ([]:List ((Int × Tparent) × Nat)))) :: .cells t0 [v1_0] 28 :: .cells q0 [vI a0.fj.fh,vI a0.fj.fc,vI a0.fj.fe,v0_3,vI a0.fm] 61 :: (boxes 59 bx_Tparent ([]:List ((Int × Tparent) × Nat)) ++ [])) Y2 (.obj z0 (lpO C0 .ready none) :: .obj k0 (.deferred (some [])) :: .cells s0 [vI a0.fj.fh,vI a0.fj.fc,vI a0.fj.fe,v0_3,vI a0.fm] 61 :: .cells x0 [.map (some c0)] 74 :: .obj c0 (mapO (pmD b0)) :: .cells t0 [v1_0] 28 :: .cells q0 [vI a0.fj.fh,vI a0.fj.fc,vI a0.fj.fe,v0_3,vI a0.fm] 61 :: (boxes 59 bx_Tparent b0 ++ []))) (fun ⟨H0,b0⟩=>(H0,(pmM b0))) (0,([]:List ((Int × Tparent) × Nat))) x8 ⟨rfl,rfl,rfl,rfl,rfl,trivial⟩ ⟨C2,AM _ _⟩ ?_
 rintro M00 ⟨H0,b0⟩ Y2 v2 ⟨B2,G2⟩ h
 unfold split_view_parents_l4 at h
 try dsimp only at h
 refine Ae<|Ac (FV.lssN (i:=H0) (j:=a0.fj.fo.length) rfl rfl)<|Aa<|Am<|AU rfl h (fun R4 h=>?_) (fun R4 h=>?_)
 refine Aq<|Am<|Au<|Ae<|Ab rfl ?_
 obtain ⟨j0,V2,h⟩:=bi h
 have R7:=Rep.mv0 h0_3 B2
 obtain ⟨A00,g01,R6,t7,B01,V8,Q7⟩:=Rep.nth R7 V2
 obtain ⟨K0,M0,P0,rfl,W8,X8,c4⟩:=op_TUnit V8
 refine Ac (FV.ia 6 H0 rfl R6 rfl rfl t7)<|Ac (AI rfl Q7)<|Ax .plain rfl (AO [.string ⟨#[]⟩,vI 0,vN,vN,vN,.bool false] B2) (fun c03 Q0 y5 C1=>?_)
 refine Af rfl ?_
 have U7:=AE W8 C1
 have V7:=AE X8 C1
 have W7:=AE c4 C1
 refine RG.sa [.string j0.fq,vI j0.fp,K0,M0,P0,.bool j0.ft] y5 .hd (o6 rfl rfl (Rep.o1 U7) (Rep.o1 V7) (Rep.o1 W7) rfl) (fun t4 B1 c2=>?_)
 refine Aa<|Ae<|RG.fa 5 rfl<|Ba rfl ((B1.memA .hd) 5 _ rfl)<|Ac (FV.not rfl)<|Ab rfl<|RG.ifnb (s:=17) rfl h (fun U4 h=>?_) (fun U4 h=>?_)
 refine Ak<|Ak<|Ak<|Ak<|Ak<|Ak<|Ak<|Ak<|Ak<|Ak<|AG rfl rfl<|Aa<|AZ rfl<|Aq<|Ar<|Al<|Ac (AX (i:=H0) (j:=1) rfl rfl (by omega))<|Ab rfl<|Aa ?_
 have z5:St _ _ (.obj z0 (lpO C0 .ready none) :: .obj k0 (.deferred (some [])) :: .cells s0 [vI a0.fj.fh,vI a0.fj.fc,vI a0.fj.fe,v0_3,vI a0.fm] 61 :: .cells x0 [.map (some c0)] 74 :: .obj c0 (mapO (pmD b0)) :: .cells t0 [v1_0] 28 :: .cells q0 [vI a0.fj.fh,vI a0.fj.fc,vI a0.fj.fe,v0_3,vI a0.fm] 61 :: (boxes 59 bx_Tparent b0 ++ [])):=B1.arr2 (.one (.tl .hd) (.one (.tl .hd) (.one (.tl .hd) (.one (.tl .hd) (.one (.tl .hd) (.one (.tl .hd) (.one (.tl .hd) (.drop .hd .rest))))))))
 have W5:Tr t4 _ t4 (.obj z0 (lpO C0 .ready none) :: .obj k0 (.deferred (some [])) :: .cells s0 [vI a0.fj.fh,vI a0.fj.fc,vI a0.fj.fe,v0_3,vI a0.fm] 61 :: .cells x0 [.map (some c0)] 74 :: .obj c0 (mapO (pmD b0)) :: .cells t0 [v1_0] 28 :: .cells q0 [vI a0.fj.fh,vI a0.fj.fc,vI a0.fj.fe,v0_3,vI a0.fm] 61 :: (boxes 59 bx_Tparent b0 ++ [])):=Tr.arr2 (St.arr2Of B1 (.one (.tl .hd) (.one (.tl .hd) (.one (.tl .hd) (.one (.tl .hd) (.one (.tl .hd) (.one (.tl .hd) (.one (.tl .hd) (.drop .hd .rest)))))))))
 have B8:=Tt C1 (Tt c2 W5)
 exact v2 (H0 + 1,b0) _ _ ⟨rfl,rfl,rfl,rfl,rfl,trivial⟩ ⟨z5,(Tt G2 B8)⟩ h
 refine AH (Ah rfl)<|AH (Ah rfl)<|RG.fg 4 rfl<|AH (AS rfl ((B1.memA .hd) 4 _ rfl))<|RG.fg 4 rfl<|AH (AS rfl ((B1.memA (.tl (.tl (.tl .hd)))) 4 _ rfl)) ?_
 obtain ⟨d0,K9,h⟩:=bi h
 obtain ⟨s7,M9⟩:=idx_in K9
 have Y7:=AE c4 (Tt C1 c2)
 obtain ⟨B00,j01,U6,u7,Y4,Y8,X7⟩:=Rep.nth Y7 M9
 have V6:Y4 = [vI d0]:=Y8; subst V6
 refine AH (FV.ia 1 (a0.fm.toNat) rfl U6 rfl s7 u7)<|AH (AS rfl (X7 0 _ rfl))<|RG.yieldP (fd:=21) (vs:=[vI ((H0:Nat):Int),vI d0]) (.yes rfl rfl) rfl (e2 rfl rfl) B1 (.tl .hd) Z9 rfl rfl rfl (fun C01 J3 t02=>?_)
 refine Ae<|Af rfl<|Aa<|Al<|Af rfl<|Aa<|MX.begin B1 (.tl .hd) (fun j2 J1 H3=>?_)
 refine Au<|Ae<|Ac (AS rfl ((J1.memA (.tl (.tl (.tl (.tl .hd))))) 0 _ rfl))<|Ab rfl ?_
 rcases pm_get d0 b0 with ⟨M2,H2,x9,Q2⟩ | ⟨A0,g0,u0,B0,Y9,M2,H2,Q2⟩
 have h:=pcase_n h M2
 refine Ac (FV.as (FV.lookup (D:=pmD b0) (kv:=d0) (z:=(none:Option Nat)) J1 (.tl (.tl (.tl (.tl (.tl .hd))))) Tryd.underlying74 Tryd.underlying3 rfl (by kernel_rfl) rfl rfl) (enc_n H2))<|Af rfl<|Aa<|Am<|Ae<|Ab rfl<|Ac (FV.eqlPtr (A:=none) Tryd.underlying75 rfl rfl)<|Aa<|MX.cond_t rfl<|Ae<|Ab rfl<|Ac (Bc (vs:=[vI d0]) (u:=.agg #[vI d0,vI 0,.int .u8 0]) (e1 rfl) (fun w9=>by kernel_rfl))<|Ax .plain rfl (AL J1 rfl rfl) (fun d03 G0 x3 X5=>?_)
 refine Af rfl<|Aa<|Al<|Ac (AS rfl ((x3.memA (.tl (.tl (.tl (.tl (.tl .hd)))))) 0 _ rfl))<|Ab rfl<|Ab rfl<|RG.now .plain (Acts.mapUpdate (D:=pmD b0) (kv:=d0) (vv:=some G0) x3 (.tl (.tl (.tl (.tl (.tl (.tl .hd)))))) Tryd.underlying74 Tryd.underlying3 rfl rfl rfl rfl) (fun t00 K1 Y5=>?_)
 refine Aa<|Ae<|Af rfl<|Aa<|Am<|Ae<|Ac (AS rfl ((K1.memA (.tl (.tl (.tl (.tl (.tl (.tl (.tl .hd)))))))) 0 _ rfl)) ?_
 have R2:=Rep.mv0 h1_0 K1
 have g02:a1.length ≤ 281474976710656:=Rep.lenle R2
 refine Ac (FV.len (xs:=a1) Tryd.underlying28 rfl R2)<|Ac (FV.gtrN (i:=a1.length) (j:=0) rfl rfl)<|Aa<|MX.join (α:=Int) (fun D1=>[(2,vP q0),(6,vI ((H0:Nat):Int)),(8,vP G0),(9,vI D1)]) (fun D1 b3=>St w b3 (.cells G0 [vI d0,vI 0,.int .u8 0] 59 :: .cells Q0 [.string j0.fq,vI j0.fp,K0,M0,P0,.bool j0.ft] 30 :: .obj z0 (lpO C0 .busy none) :: .obj k0 (.deferred (some [])) :: .cells s0 [vI a0.fj.fh,vI a0.fj.fc,vI a0.fj.fe,v0_3,vI a0.fm] 61 :: .cells x0 [.map (some c0)] 74 :: .obj c0 (mapO (mset (pmD b0) d0 (some G0))) :: .cells t0 [v1_0] 28 :: .cells q0 [vI a0.fj.fh,vI a0.fj.fc,vI a0.fj.fe,v0_3,vI a0.fm] 61 :: (boxes 59 bx_Tparent b0 ++ []))∧Tr t00 (.cells G0 [vI d0,vI 0,.int .u8 0] 59 :: .cells Q0 [.string j0.fq,vI j0.fp,K0,M0,P0,.bool j0.ft] 30 :: .obj z0 (lpO C0 .busy none) :: .obj k0 (.deferred (some [])) :: .cells s0 [vI a0.fj.fh,vI a0.fj.fc,vI a0.fj.fe,v0_3,vI a0.fm] 61 :: .cells x0 [.map (some c0)] 74 :: .obj c0 (mapO (mset (pmD b0) d0 (some G0))) :: .cells t0 [v1_0] 28 :: .cells q0 [vI a0.fj.fh,vI a0.fj.fc,vI a0.fj.fe,v0_3,vI a0.fm] 61 :: (boxes 59 bx_Tparent b0 ++ [])) b3 (.cells G0 [vI d0,vI 0,.int .u8 0] 59 :: .cells Q0 [.string j0.fq,vI j0.fp,K0,M0,P0,.bool j0.ft] 30 :: .obj z0 (lpO C0 .busy none) :: .obj k0 (.deferred (some [])) :: .cells s0 [vI a0.fj.fh,vI a0.fj.fc,vI a0.fj.fe,v0_3,vI a0.fm] 61 :: .cells x0 [.map (some c0)] 74 :: .obj c0 (mapO (mset (pmD b0) d0 (some G0))) :: .cells t0 [v1_0] 28 :: .cells q0 [vI a0.fj.fh,vI a0.fj.fc,vI a0.fj.fe,v0_3,vI a0.fm] 61 :: (boxes 59 bx_Tparent b0 ++ []))) (fun D1=>D1) h ?_ ?_
 rintro D1 b3 ⟨X1,Z5⟩ h
 try dsimp only at h
 refine Al<|Ab rfl<|RG.fa 0 rfl<|RG.fa 3 rfl<|Ac (AS rfl ((mem_from (X1.memA (.tl (.tl (.tl (.tl (.tl (.tl (.tl (.tl .hd))))))))) 0) 3 _ rfl))<|Ab rfl ?_
 have b8:=Rep.mv0 h0_3 X1
 obtain ⟨C00,k01,W6,v7,E01,Z8,Z7⟩:=Rep.nth b8 V2
 obtain ⟨J02,K02,M02,rfl,A02,B02,C02⟩:=op_TUnit Z8
 refine Ac (FV.ia 6 H0 rfl W6 rfl rfl v7)<|RG.fa 1 rfl<|Ba rfl (Z7 1 _ rfl)<|Ab rfl<|AW (fst:=[]) (cap:=[]) (vs:=[vP G0,vI j0.fp,vI D1]) .plain body35 Tryd.func35 rfl rfl rfl rfl (e3 rfl rfl rfl) rfl (fun F01 C6 v02=>?_)
 refine Ae<|Ab rfl<|Ac (FV.nilCheck rfl)<|RG.fa 1 rfl<|Ba rfl ((X1.memA .hd) 1 _ rfl)<|Ab rfl ?_
 obtain ⟨U0,y9,h⟩:=bi h
 refine Ac (FV.addc (i:=0) (j:=j0.fp) rfl rfl y9)<|Ac (FV.nilCheck rfl)<|RG.fa 1 rfl<|RG.now .plain (Acts.store (j:=1) (old:=[vI d0,vI 0,.int .u8 0]) (news:=[vI U0]) (new' :=[vI d0,vI U0,.int .u8 0]) X1 .hd rfl rfl rfl rfl rfl rfl (o1 rfl) rfl) (fun g03 y3 b6=>?_)
 refine Aa<|dt 9 tb35_1 (fun k1 x1=>?_)
 refine Ag 0 1 k1 rfl x1 (fun _=>Ah rfl) rfl<|Ag 1 3 k1 rfl x1 (fun _=>FV.nilCheck rfl) rfl<|Ag 2 7 k1 rfl x1 (fun _=>FV.fa 2 rfl) rfl<|RD.vx 3 15 960 k1 rfl x1 (AS rfl ((y3.memA .hd) 2 _ rfl)) rfl<|Ag 4 31 k1 rfl x1 (fun _=>Ah rfl) rfl ?_
 obtain ⟨V0,x7,h⟩:=bi h
 refine Ag 5 63 k1 rfl x1 (fun _=>FV.shl8I (a:=(1:UInt8)) (i:=D1) rfl rfl x7) rfl<|Ag 6 127 k1 rfl x1 (fun _=>FV.or8 (a:=(0:UInt8)) (b:=shl8 (1:UInt8) V0) rfl rfl) rfl<|Ag 7 255 k1 rfl x1 (fun _=>FV.nilCheck rfl) rfl<|Ag 8 511 k1 rfl x1 (fun _=>FV.fa 2 rfl) rfl<|RD.nw 9 1023 k1 rfl rfl .plain (Acts.store (j:=2) (old:=[vI d0,vI U0,.int .u8 0]) (news:=[.int .u8 (((0:UInt8) ||| (shl8 (1:UInt8) V0)).toNat:Int)]) (new' :=[vI d0,vI U0,.int .u8 (((0:UInt8) ||| (shl8 (1:UInt8) V0)).toNat:Int)]) y3 .hd rfl rfl rfl rfl rfl rfl (o1 rfl) rfl) (fun j03 A5 c6=>?_)
 refine AR (dk k1)<|MX.fin rfl<|Av (u:=.tuple #[]) C6 Tryd.func35 rfl .nil rfl<|Aa<|Ar<|MX.roundEnd J3 A5 (.tl (.tl .hd)) (fun V1 B5 d6=>?_)
 refine AH (FV.not rfl)<|RG.pt rfl rfl<|Aa<|AZ rfl<|Aq<|Ar<|Al<|Ac (AX (i:=H0) (j:=1) rfl rfl (by omega))<|Ab rfl<|Aa ?_
 obtain ⟨C8,D8⟩:=St.boxNew (Q:=fun D9=>[.cells Q0 [.string j0.fq,vI j0.fp,K0,M0,P0,.bool j0.ft] 30,.obj z0 (lpO C0 .ready none),.obj k0 (.deferred (some [])),.cells s0 [vI a0.fj.fh,vI a0.fj.fc,vI a0.fj.fe,v0_3,vI a0.fm] 61,.cells x0 [.map (some c0)] 74,.obj c0 (mapO D9),.cells t0 [v1_0] 28,.cells q0 [vI a0.fj.fh,vI a0.fj.fc,vI a0.fj.fe,v0_3,vI a0.fm] 61]) (t:=59) (f:=bx_Tparent) (T:=[]) (k:=d0) (y' :=(⟨d0,U0,(0:UInt8) ||| (shl8 (1:UInt8) V0)⟩:Tparent)) (b:=G0) (Z:=b0) (x9 (⟨d0,U0,(0:UInt8) ||| (shl8 (1:UInt8) V0)⟩:Tparent) G0) B5
 have z3:St _ V1 (.cells Q0 [.string j0.fq,vI j0.fp,K0,M0,P0,.bool j0.ft] 30 :: .obj z0 (lpO C0 .ready none) :: .obj k0 (.deferred (some [])) :: .cells s0 [vI a0.fj.fh,vI a0.fj.fc,vI a0.fj.fe,v0_3,vI a0.fm] 61 :: .cells x0 [.map (some c0)] 74 :: .obj c0 (mapO (pmD (b0 ++ [((d0,(⟨d0,U0,(0:UInt8) ||| (shl8 (1:UInt8) V0)⟩:Tparent)),G0)]))) :: .cells t0 [v1_0] 28 :: .cells q0 [vI a0.fj.fh,vI a0.fj.fc,vI a0.fj.fe,v0_3,vI a0.fm] 61 :: (boxes 59 bx_Tparent (b0 ++ [((d0,(⟨d0,U0,(0:UInt8) ||| (shl8 (1:UInt8) V0)⟩:Tparent)),G0)]) ++ [])):=C8
 have g6:Tr V1 _ V1 (.cells Q0 [.string j0.fq,vI j0.fp,K0,M0,P0,.bool j0.ft] 30 :: .obj z0 (lpO C0 .ready none) :: .obj k0 (.deferred (some [])) :: .cells s0 [vI a0.fj.fh,vI a0.fj.fc,vI a0.fj.fe,v0_3,vI a0.fm] 61 :: .cells x0 [.map (some c0)] 74 :: .obj c0 (mapO (pmD (b0 ++ [((d0,(⟨d0,U0,(0:UInt8) ||| (shl8 (1:UInt8) V0)⟩:Tparent)),G0)]))) :: .cells t0 [v1_0] 28 :: .cells q0 [vI a0.fj.fh,vI a0.fj.fc,vI a0.fj.fe,v0_3,vI a0.fm] 61 :: (boxes 59 bx_Tparent (b0 ++ [((d0,(⟨d0,U0,(0:UInt8) ||| (shl8 (1:UInt8) V0)⟩:Tparent)),G0)]) ++ [])):=D8
 try rw [Q2] at h
 have C5:St _ _ (.obj z0 (lpO C0 .ready none) :: .obj k0 (.deferred (some [])) :: .cells s0 [vI a0.fj.fh,vI a0.fj.fc,vI a0.fj.fe,v0_3,vI a0.fm] 61 :: .cells x0 [.map (some c0)] 74 :: .obj c0 (mapO (pmD (b0 ++ [((d0,(⟨d0,U0,(0:UInt8) ||| (shl8 (1:UInt8) V0)⟩:Tparent)),G0)]))) :: .cells t0 [v1_0] 28 :: .cells q0 [vI a0.fj.fh,vI a0.fj.fc,vI a0.fj.fe,v0_3,vI a0.fm] 61 :: (boxes 59 bx_Tparent (b0 ++ [((d0,(⟨d0,U0,(0:UInt8) ||| (shl8 (1:UInt8) V0)⟩:Tparent)),G0)]) ++ [])):=z3.arr2 (.one (.tl .hd) (.one (.tl .hd) (.one (.tl .hd) (.one (.tl .hd) (.one (.tl .hd) (.one (.tl .hd) (.one (.tl .hd) (.drop .hd .rest))))))))
 have j6:Tr V1 _ V1 (.obj z0 (lpO C0 .ready none) :: .obj k0 (.deferred (some [])) :: .cells s0 [vI a0.fj.fh,vI a0.fj.fc,vI a0.fj.fe,v0_3,vI a0.fm] 61 :: .cells x0 [.map (some c0)] 74 :: .obj c0 (mapO (pmD (b0 ++ [((d0,(⟨d0,U0,(0:UInt8) ||| (shl8 (1:UInt8) V0)⟩:Tparent)),G0)]))) :: .cells t0 [v1_0] 28 :: .cells q0 [vI a0.fj.fh,vI a0.fj.fc,vI a0.fj.fe,v0_3,vI a0.fm] 61 :: (boxes 59 bx_Tparent (b0 ++ [((d0,(⟨d0,U0,(0:UInt8) ||| (shl8 (1:UInt8) V0)⟩:Tparent)),G0)]) ++ [])):=Tr.arr2 (St.arr2Of z3 (.one (.tl .hd) (.one (.tl .hd) (.one (.tl .hd) (.one (.tl .hd) (.one (.tl .hd) (.one (.tl .hd) (.one (.tl .hd) (.drop .hd .rest)))))))))
 have E8:=Tt C1 (Tt c2 (Tt H3 (Tt X5 (Tt Y5 (Tt Z5 (Tt b6 (Tt c6 (Tt d6 (Tt g6 j6)))))))))
 exact v2 (H0 + 1,(b0 ++ [((d0,(⟨d0,U0,(0:UInt8) ||| (shl8 (1:UInt8) V0)⟩:Tparent)),G0)])) _ _ ⟨rfl,rfl,rfl,rfl,rfl,trivial⟩ ⟨C5,(Tt G2 E8)⟩ h
 intro P00 p3 h
 try dsimp only at h
 refine AU rfl h (fun V4 h=>?_) (fun V4 h=>?_)
 refine Al<|Ac (AS rfl ((K1.memA (.tl (.tl (.tl (.tl (.tl (.tl (.tl .hd)))))))) 0 _ rfl))<|Ab rfl ?_
 obtain ⟨v4,P9,h⟩:=bi h
 obtain ⟨D00,p01,X6,y7,Z4,b9,c8⟩:=Rep.nth R2 P9
 have Y6:Z4 = [vI v4]:=b9; subst Y6
 refine Ac (FV.ia 1 H0 rfl X6 rfl rfl y7)<|Ba rfl (c8 0 _ rfl)<|Af rfl<|Aa ?_
 exact p3 v4 _ _ ⟨rfl,rfl,rfl,rfl,trivial⟩ ⟨K1,AM _ _⟩ h
 refine Aq ?_
 exact p3 0 _ _ ⟨rfl,rfl,rfl,rfl,trivial⟩ ⟨K1,AM _ _⟩ h
 subst Y9
 have h:=pcase_s h M2
 refine Ac (FV.as (FV.lookup (D:=pmD (A0 ++ ((d0,g0),u0) :: B0)) (kv:=d0) (z:=(none:Option Nat)) J1 (.tl (.tl (.tl (.tl (.tl .hd))))) Tryd.underlying74 Tryd.underlying3 rfl (by kernel_rfl) rfl rfl) (enc_s H2)) ?_
 obtain ⟨F8,G8⟩:=St.boxOpen (pre:=[.cells Q0 [.string j0.fq,vI j0.fp,K0,M0,P0,.bool j0.ft] 30,.obj z0 (lpO C0 .busy none),.obj k0 (.deferred (some [])),.cells s0 [vI a0.fj.fh,vI a0.fj.fc,vI a0.fj.fe,v0_3,vI a0.fm] 61,.cells x0 [.map (some c0)] 74,.obj c0 (mapO (pmD (A0 ++ ((d0,g0),u0) :: B0))),.cells t0 [v1_0] 28,.cells q0 [vI a0.fj.fh,vI a0.fj.fc,vI a0.fj.fe,v0_3,vI a0.fm] 61]) (t:=59) (f:=bx_Tparent) (T:=[]) (Z1:=A0) (Z2:=B0) (k:=d0) (y:=g0) (b:=u0) J1
 have M1:St _ j2 (.cells u0 [vI g0.fv,vI g0.fu,.int .u8 (g0.fl.toNat:Int)] 59 :: .cells Q0 [.string j0.fq,vI j0.fp,K0,M0,P0,.bool j0.ft] 30 :: .obj z0 (lpO C0 .busy none) :: .obj k0 (.deferred (some [])) :: .cells s0 [vI a0.fj.fh,vI a0.fj.fc,vI a0.fj.fe,v0_3,vI a0.fm] 61 :: .cells x0 [.map (some c0)] 74 :: .obj c0 (mapO (pmD (A0 ++ ((d0,g0),u0) :: B0))) :: .cells t0 [v1_0] 28 :: .cells q0 [vI a0.fj.fh,vI a0.fj.fc,vI a0.fj.fe,v0_3,vI a0.fm] 61 :: (boxes 59 bx_Tparent (A0 ++ B0) ++ [])):=F8
 have k6:Tr j2 (.cells Q0 [.string j0.fq,vI j0.fp,K0,M0,P0,.bool j0.ft] 30 :: .obj z0 (lpO C0 .busy none) :: .obj k0 (.deferred (some [])) :: .cells s0 [vI a0.fj.fh,vI a0.fj.fc,vI a0.fj.fe,v0_3,vI a0.fm] 61 :: .cells x0 [.map (some c0)] 74 :: .obj c0 (mapO (pmD (A0 ++ ((d0,g0),u0) :: B0))) :: .cells t0 [v1_0] 28 :: .cells q0 [vI a0.fj.fh,vI a0.fj.fc,vI a0.fj.fe,v0_3,vI a0.fm] 61 :: (boxes 59 bx_Tparent (A0 ++ ((d0,g0),u0) :: B0) ++ [])) j2 (.cells u0 [vI g0.fv,vI g0.fu,.int .u8 (g0.fl.toNat:Int)] 59 :: .cells Q0 [.string j0.fq,vI j0.fp,K0,M0,P0,.bool j0.ft] 30 :: .obj z0 (lpO C0 .busy none) :: .obj k0 (.deferred (some [])) :: .cells s0 [vI a0.fj.fh,vI a0.fj.fc,vI a0.fj.fe,v0_3,vI a0.fm] 61 :: .cells x0 [.map (some c0)] 74 :: .obj c0 (mapO (pmD (A0 ++ ((d0,g0),u0) :: B0))) :: .cells t0 [v1_0] 28 :: .cells q0 [vI a0.fj.fh,vI a0.fj.fc,vI a0.fj.fe,v0_3,vI a0.fm] 61 :: (boxes 59 bx_Tparent (A0 ++ B0) ++ [])):=G8
 refine Af rfl<|Aa<|Am<|Ae<|Ab rfl<|Ac (FV.eqlPtr (A:=(some ⟨u0,0,none⟩)) Tryd.underlying75 rfl rfl)<|Aa<|AZ rfl<|Aq<|Ae<|Af rfl<|Aa<|Am<|Ae<|Ac (AS rfl ((M1.memA (.tl (.tl (.tl (.tl (.tl (.tl (.tl .hd)))))))) 0 _ rfl)) ?_
 have U2:=Rep.mv0 h1_0 M1
 have k02:a1.length ≤ 281474976710656:=Rep.lenle U2
 refine Ac (FV.len (xs:=a1) Tryd.underlying28 rfl U2)<|Ac (FV.gtrN (i:=a1.length) (j:=0) rfl rfl)<|Aa<|MX.join (α:=Int) (fun E1=>[(2,vP q0),(6,vI ((H0:Nat):Int)),(8,vP u0),(9,vI E1)]) (fun E1 c3=>St w c3 (.cells u0 [vI g0.fv,vI g0.fu,.int .u8 (g0.fl.toNat:Int)] 59 :: .cells Q0 [.string j0.fq,vI j0.fp,K0,M0,P0,.bool j0.ft] 30 :: .obj z0 (lpO C0 .busy none) :: .obj k0 (.deferred (some [])) :: .cells s0 [vI a0.fj.fh,vI a0.fj.fc,vI a0.fj.fe,v0_3,vI a0.fm] 61 :: .cells x0 [.map (some c0)] 74 :: .obj c0 (mapO (pmD (A0 ++ ((d0,g0),u0) :: B0))) :: .cells t0 [v1_0] 28 :: .cells q0 [vI a0.fj.fh,vI a0.fj.fc,vI a0.fj.fe,v0_3,vI a0.fm] 61 :: (boxes 59 bx_Tparent (A0 ++ B0) ++ []))∧Tr j2 (.cells u0 [vI g0.fv,vI g0.fu,.int .u8 (g0.fl.toNat:Int)] 59 :: .cells Q0 [.string j0.fq,vI j0.fp,K0,M0,P0,.bool j0.ft] 30 :: .obj z0 (lpO C0 .busy none) :: .obj k0 (.deferred (some [])) :: .cells s0 [vI a0.fj.fh,vI a0.fj.fc,vI a0.fj.fe,v0_3,vI a0.fm] 61 :: .cells x0 [.map (some c0)] 74 :: .obj c0 (mapO (pmD (A0 ++ ((d0,g0),u0) :: B0))) :: .cells t0 [v1_0] 28 :: .cells q0 [vI a0.fj.fh,vI a0.fj.fc,vI a0.fj.fe,v0_3,vI a0.fm] 61 :: (boxes 59 bx_Tparent (A0 ++ B0) ++ [])) c3 (.cells u0 [vI g0.fv,vI g0.fu,.int .u8 (g0.fl.toNat:Int)] 59 :: .cells Q0 [.string j0.fq,vI j0.fp,K0,M0,P0,.bool j0.ft] 30 :: .obj z0 (lpO C0 .busy none) :: .obj k0 (.deferred (some [])) :: .cells s0 [vI a0.fj.fh,vI a0.fj.fc,vI a0.fj.fe,v0_3,vI a0.fm] 61 :: .cells x0 [.map (some c0)] 74 :: .obj c0 (mapO (pmD (A0 ++ ((d0,g0),u0) :: B0))) :: .cells t0 [v1_0] 28 :: .cells q0 [vI a0.fj.fh,vI a0.fj.fc,vI a0.fj.fe,v0_3,vI a0.fm] 61 :: (boxes 59 bx_Tparent (A0 ++ B0) ++ []))) (fun E1=>E1) h ?_ ?_
 rintro E1 c3 ⟨Y1,p6⟩ h
 try dsimp only at h
 refine Al<|Ab rfl<|RG.fa 0 rfl<|RG.fa 3 rfl<|Ac (AS rfl ((mem_from (Y1.memA (.tl (.tl (.tl (.tl (.tl (.tl (.tl (.tl .hd))))))))) 0) 3 _ rfl))<|Ab rfl ?_
 have g8:=Rep.mv0 h0_3 Y1
 obtain ⟨E00,q01,Z6,z7,G01,c9,d8⟩:=Rep.nth g8 V2
 obtain ⟨P02,Q02,R02,rfl,D02,E02,F02⟩:=op_TUnit c9
 refine Ac (FV.ia 6 H0 rfl Z6 rfl rfl z7)<|RG.fa 1 rfl<|Ba rfl (d8 1 _ rfl)<|Ab rfl<|AW (fst:=[]) (cap:=[]) (vs:=[vP u0,vI j0.fp,vI E1]) .plain body35 Tryd.func35 rfl rfl rfl rfl (e3 rfl rfl rfl) rfl (fun H01 D6 x02=>?_)
 refine Ae<|Ab rfl<|Ac (FV.nilCheck rfl)<|RG.fa 1 rfl<|Ba rfl ((Y1.memA .hd) 1 _ rfl)<|Ab rfl ?_
 obtain ⟨W0,z9,h⟩:=bi h
 refine Ac (FV.addc (i:=g0.fu) (j:=j0.fp) rfl rfl z9)<|Ac (FV.nilCheck rfl)<|RG.fa 1 rfl<|RG.now .plain (Acts.store (j:=1) (old:=[vI g0.fv,vI g0.fu,.int .u8 (g0.fl.toNat:Int)]) (news:=[vI W0]) (new' :=[vI g0.fv,vI W0,.int .u8 (g0.fl.toNat:Int)]) Y1 .hd rfl rfl rfl rfl rfl rfl (o1 rfl) rfl) (fun k03 A3 q6=>?_)
 refine Aa<|dt 9 tb35_1 (fun p1 y1=>?_)
 refine Ag 0 1 p1 rfl y1 (fun _=>Ah rfl) rfl<|Ag 1 3 p1 rfl y1 (fun _=>FV.nilCheck rfl) rfl<|Ag 2 7 p1 rfl y1 (fun _=>FV.fa 2 rfl) rfl<|RD.vx 3 15 960 p1 rfl y1 (AS rfl ((A3.memA .hd) 2 _ rfl)) rfl<|Ag 4 31 p1 rfl y1 (fun _=>Ah rfl) rfl ?_
 obtain ⟨b1,A7,h⟩:=bi h
 refine Ag 5 63 p1 rfl y1 (fun _=>FV.shl8I (a:=(1:UInt8)) (i:=E1) rfl rfl A7) rfl<|Ag 6 127 p1 rfl y1 (fun _=>FV.or8 (a:=g0.fl) (b:=shl8 (1:UInt8) b1) rfl rfl) rfl<|Ag 7 255 p1 rfl y1 (fun _=>FV.nilCheck rfl) rfl<|Ag 8 511 p1 rfl y1 (fun _=>FV.fa 2 rfl) rfl<|RD.nw 9 1023 p1 rfl rfl .plain (Acts.store (j:=2) (old:=[vI g0.fv,vI W0,.int .u8 (g0.fl.toNat:Int)]) (news:=[.int .u8 ((g0.fl ||| (shl8 (1:UInt8) b1)).toNat:Int)]) (new' :=[vI g0.fv,vI W0,.int .u8 ((g0.fl ||| (shl8 (1:UInt8) b1)).toNat:Int)]) A3 .hd rfl rfl rfl rfl rfl rfl (o1 rfl) rfl) (fun p03 D5 s6=>?_)
 refine AR (dk p1)<|MX.fin rfl<|Av (u:=.tuple #[]) D6 Tryd.func35 rfl .nil rfl<|Aa<|Ar<|MX.roundEnd J3 D5 (.tl (.tl .hd)) (fun W1 E5 t6=>?_)
 refine AH (FV.not rfl)<|RG.pt rfl rfl<|Aa<|AZ rfl<|Aq<|Ar<|Al<|Ac (AX (i:=H0) (j:=1) rfl rfl (by omega))<|Ab rfl<|Aa ?_
 obtain ⟨H8,I8⟩:=St.boxShut (Q:=fun D9=>[.cells Q0 [.string j0.fq,vI j0.fp,K0,M0,P0,.bool j0.ft] 30,.obj z0 (lpO C0 .ready none),.obj k0 (.deferred (some [])),.cells s0 [vI a0.fj.fh,vI a0.fj.fc,vI a0.fj.fe,v0_3,vI a0.fm] 61,.cells x0 [.map (some c0)] 74,.obj c0 (mapO D9),.cells t0 [v1_0] 28,.cells q0 [vI a0.fj.fh,vI a0.fj.fc,vI a0.fj.fe,v0_3,vI a0.fm] 61]) (t:=59) (f:=bx_Tparent) (T:=[]) (k:=d0) (y' :=(⟨g0.fv,W0,g0.fl ||| (shl8 (1:UInt8) b1)⟩:Tparent)) (b:=u0) (Z1:=A0) (Z2:=B0) (y:=g0) E5
 have B3:St _ W1 (.cells Q0 [.string j0.fq,vI j0.fp,K0,M0,P0,.bool j0.ft] 30 :: .obj z0 (lpO C0 .ready none) :: .obj k0 (.deferred (some [])) :: .cells s0 [vI a0.fj.fh,vI a0.fj.fc,vI a0.fj.fe,v0_3,vI a0.fm] 61 :: .cells x0 [.map (some c0)] 74 :: .obj c0 (mapO (pmD (A0 ++ ((d0,(⟨g0.fv,W0,g0.fl ||| (shl8 (1:UInt8) b1)⟩:Tparent)),u0) :: B0))) :: .cells t0 [v1_0] 28 :: .cells q0 [vI a0.fj.fh,vI a0.fj.fc,vI a0.fj.fe,v0_3,vI a0.fm] 61 :: (boxes 59 bx_Tparent (A0 ++ ((d0,(⟨g0.fv,W0,g0.fl ||| (shl8 (1:UInt8) b1)⟩:Tparent)),u0) :: B0) ++ [])):=H8
 have u6:Tr W1 _ W1 (.cells Q0 [.string j0.fq,vI j0.fp,K0,M0,P0,.bool j0.ft] 30 :: .obj z0 (lpO C0 .ready none) :: .obj k0 (.deferred (some [])) :: .cells s0 [vI a0.fj.fh,vI a0.fj.fc,vI a0.fj.fe,v0_3,vI a0.fm] 61 :: .cells x0 [.map (some c0)] 74 :: .obj c0 (mapO (pmD (A0 ++ ((d0,(⟨g0.fv,W0,g0.fl ||| (shl8 (1:UInt8) b1)⟩:Tparent)),u0) :: B0))) :: .cells t0 [v1_0] 28 :: .cells q0 [vI a0.fj.fh,vI a0.fj.fc,vI a0.fj.fe,v0_3,vI a0.fm] 61 :: (boxes 59 bx_Tparent (A0 ++ ((d0,(⟨g0.fv,W0,g0.fl ||| (shl8 (1:UInt8) b1)⟩:Tparent)),u0) :: B0) ++ [])):=I8
 try rw [Q2] at h
 have F5:St _ _ (.obj z0 (lpO C0 .ready none) :: .obj k0 (.deferred (some [])) :: .cells s0 [vI a0.fj.fh,vI a0.fj.fc,vI a0.fj.fe,v0_3,vI a0.fm] 61 :: .cells x0 [.map (some c0)] 74 :: .obj c0 (mapO (pmD (A0 ++ ((d0,(⟨g0.fv,W0,g0.fl ||| (shl8 (1:UInt8) b1)⟩:Tparent)),u0) :: B0))) :: .cells t0 [v1_0] 28 :: .cells q0 [vI a0.fj.fh,vI a0.fj.fc,vI a0.fj.fe,v0_3,vI a0.fm] 61 :: (boxes 59 bx_Tparent (A0 ++ ((d0,(⟨g0.fv,W0,g0.fl ||| (shl8 (1:UInt8) b1)⟩:Tparent)),u0) :: B0) ++ [])):=B3.arr2 (.one (.tl .hd) (.one (.tl .hd) (.one (.tl .hd) (.one (.tl .hd) (.one (.tl .hd) (.one (.tl .hd) (.one (.tl .hd) (.drop .hd .rest))))))))
 have v6:Tr W1 _ W1 (.obj z0 (lpO C0 .ready none) :: .obj k0 (.deferred (some [])) :: .cells s0 [vI a0.fj.fh,vI a0.fj.fc,vI a0.fj.fe,v0_3,vI a0.fm] 61 :: .cells x0 [.map (some c0)] 74 :: .obj c0 (mapO (pmD (A0 ++ ((d0,(⟨g0.fv,W0,g0.fl ||| (shl8 (1:UInt8) b1)⟩:Tparent)),u0) :: B0))) :: .cells t0 [v1_0] 28 :: .cells q0 [vI a0.fj.fh,vI a0.fj.fc,vI a0.fj.fe,v0_3,vI a0.fm] 61 :: (boxes 59 bx_Tparent (A0 ++ ((d0,(⟨g0.fv,W0,g0.fl ||| (shl8 (1:UInt8) b1)⟩:Tparent)),u0) :: B0) ++ [])):=Tr.arr2 (St.arr2Of B3 (.one (.tl .hd) (.one (.tl .hd) (.one (.tl .hd) (.one (.tl .hd) (.one (.tl .hd) (.one (.tl .hd) (.one (.tl .hd) (.drop .hd .rest)))))))))
 have J8:=Tt C1 (Tt c2 (Tt H3 (Tt k6 (Tt p6 (Tt q6 (Tt s6 (Tt t6 (Tt u6 v6))))))))
 exact v2 (H0 + 1,(A0 ++ ((d0,(⟨g0.fv,W0,g0.fl ||| (shl8 (1:UInt8) b1)⟩:Tparent)),u0) :: B0)) _ _ ⟨rfl,rfl,rfl,rfl,rfl,trivial⟩ ⟨F5,(Tt G2 J8)⟩ h
 intro Q00 q3 h
 try dsimp only at h
 refine AU rfl h (fun W4 h=>?_) (fun W4 h=>?_)
 refine Al<|Ac (AS rfl ((M1.memA (.tl (.tl (.tl (.tl (.tl (.tl (.tl .hd)))))))) 0 _ rfl))<|Ab rfl ?_
 obtain ⟨x4,Q9,h⟩:=bi h
 obtain ⟨F00,s01,b7,B7,b5,d9,j8⟩:=Rep.nth U2 Q9
 have c7:b5 = [vI x4]:=d9; subst c7
 refine Ac (FV.ia 1 H0 rfl b7 rfl rfl B7)<|Ba rfl (j8 0 _ rfl)<|Af rfl<|Aa ?_
 exact q3 x4 _ _ ⟨rfl,rfl,rfl,rfl,trivial⟩ ⟨M1,AM _ _⟩ h
 refine Aq ?_
 exact q3 0 _ _ ⟨rfl,rfl,rfl,rfl,trivial⟩ ⟨M1,AM _ _⟩ h
 refine AT rfl ?_
 have h:=j7 _ h
 try dsimp only at h
 refine MX.fin rfl<|Av (u:=.tuple #[]) B6 Tryd.func38 rfl .nil rfl<|MX.endRange0 B2 .hd (by intro h9; cases h9) (fun u4 C3 Y01=>?_)
 have D3:St _ _ (.obj k0 (.deferred (some [])) :: .cells s0 [vI a0.fj.fh,vI a0.fj.fc,vI a0.fj.fe,v0_3,vI a0.fm] 61 :: .cells x0 [.map (some c0)] 74 :: .obj c0 (mapO (pmD b0)) :: .cells t0 [v1_0] 28 :: .cells q0 [vI a0.fj.fh,vI a0.fj.fc,vI a0.fj.fe,v0_3,vI a0.fm] 61 :: (boxes 59 bx_Tparent b0 ++ [])):=C3.arr2 (.one (.tl .hd) (.one (.tl .hd) (.one (.tl .hd) (.one (.tl .hd) (.one (.tl .hd) (.one (.tl .hd) (.drop .hd .rest)))))))
 have Z01:Tr u4 _ u4 (.obj k0 (.deferred (some [])) :: .cells s0 [vI a0.fj.fh,vI a0.fj.fc,vI a0.fj.fe,v0_3,vI a0.fm] 61 :: .cells x0 [.map (some c0)] 74 :: .obj c0 (mapO (pmD b0)) :: .cells t0 [v1_0] 28 :: .cells q0 [vI a0.fj.fh,vI a0.fj.fc,vI a0.fj.fe,v0_3,vI a0.fm] 61 :: (boxes 59 bx_Tparent b0 ++ [])):=Tr.arr2 (St.arr2Of C3 (.one (.tl .hd) (.one (.tl .hd) (.one (.tl .hd) (.one (.tl .hd) (.one (.tl .hd) (.one (.tl .hd) (.drop .hd .rest))))))))
 refine Ar<|Ae<|Af rfl<|Aa<|Am<|Ae<|Ba rfl ((D3.memA (.tl (.tl .hd))) 0 _ rfl)<|Ax .plain rfl (Does.range (D:=(pmD b0)) D3 (.tl (.tl (.tl .hd))) Tryd.underlying74 rfl) (fun X2 y0 E3 b02=>?_)
 refine Aa<|Au ?_
 have D2:=E3.nilRow 59 (Rep.size Tparent)
 have c02:=St.nilRowT E3 59 (Rep.size Tparent)
 have K6:=Az (cs:=[]) (xs:=([]:List Tparent)) D2 L (AB _ _)
 have G5:St _ _ (.row w.heap.size 59 (Rep.size Tparent) vN (([]:List Tparent).length) [] :: .obj y0 (iterO c0 (pmD b0).length #[]) :: .obj k0 (.deferred (some [])) :: .obj c0 (mapO (pmD b0)) :: (boxes 59 bx_Tparent b0 ++ [])):=D2.arr2 (.one .hd (.one .hd (.one .hd (.one (.tl (.tl .hd)) (.drop .hd (.drop .hd (.drop .hd (.drop .hd .rest))))))))
 have x6:Tr X2 _ X2 (.row w.heap.size 59 (Rep.size Tparent) vN (([]:List Tparent).length) [] :: .obj y0 (iterO c0 (pmD b0).length #[]) :: .obj k0 (.deferred (some [])) :: .obj c0 (mapO (pmD b0)) :: (boxes 59 bx_Tparent b0 ++ [])):=Tr.arr2 (St.arr2Of D2 (.one .hd (.one .hd (.one .hd (.one (.tl (.tl .hd)) (.drop .hd (.drop .hd (.drop .hd (.drop .hd .rest)))))))))
 have k8:=AJ K6 x6
 have y8:=h
 refine MX.mloop (α:=(List Tparent) × Value × (List Value) × (Array Nat) × (List ((Int × Tparent) × Nat))) (fun ⟨J0,p0,Z0,v0,U1⟩=>[(10,p0),(47,vP y0)]) (fun d4 ⟨J0,p0,Z0,v0,U1⟩ s2=>St w s2 (.row w.heap.size 59 (Rep.size Tparent) p0 J0.length Z0 :: .obj y0 (iterO c0 (pmD b0).length v0) :: .obj k0 (.deferred (some [])) :: .obj c0 (mapO (pmD b0)) :: (boxes 59 bx_Tparent b0 ++ []))∧Tr X2 (.row w.heap.size 59 (Rep.size Tparent) vN (([]:List Tparent).length) [] :: .obj y0 (iterO c0 (pmD b0).length #[]) :: .obj k0 (.deferred (some [])) :: .obj c0 (mapO (pmD b0)) :: (boxes 59 bx_Tparent b0 ++ [])) s2 (.row w.heap.size 59 (Rep.size Tparent) p0 J0.length Z0 :: .obj y0 (iterO c0 (pmD b0).length v0) :: .obj k0 (.deferred (some [])) :: .obj c0 (mapO (pmD b0)) :: (boxes 59 bx_Tparent b0 ++ []))∧Cells s2 (bl (.row w.heap.size 59 (Rep.size Tparent) p0 J0.length Z0 :: .obj y0 (iterO c0 (pmD b0).length v0) :: .obj k0 (.deferred (some [])) :: .obj c0 (mapO (pmD b0)) :: (boxes 59 bx_Tparent b0 ++ [])) ++ L) Z0 J0∧left b0 v0 = U1∧d4 = pmM U1) (fun ⟨J0,p0,Z0,v0,U1⟩=>J0) (([]:List Tparent),vN,[],#[],b0) y8 ⟨rfl,rfl,trivial⟩ ⟨G5,AM _ _,k8,(left_nil _),rfl⟩ ?_
 rintro d4 ⟨J0,p0,Z0,v0,U1⟩ s2 R00 g5 ⟨H5,y6,P3,C7,D7⟩ p8 M6
 subst D7
 refine Ae<|RG.nextP (W:=b0) H5 (.tl (.tl (.tl .hd))) (fun _=>(.tl .hd)) rfl rfl C7 (fun u00 q8 b2 z6=>?_) (fun v00 g2 z00 g4 V3 z8 E7 E2 I3=>?_)
 have h:=p8 (congrArg pmM q8)
 try dsimp only at h
 refine Ac (Aj rfl rfl)<|Aa<|Am<|AZ rfl<|AT rfl<|Ae<|Ab rfl<|AW (fst:=[]) (cap:=[]) (vs:=[p0,.func (.func 37) #[] #[]]) .plain body36 Tryd.func36 rfl rfl rfl rfl (e2 rfl rfl) rfl (fun I01 E6 y02=>?_)
 refine Ae<|Ab rfl ?_
 have p02:J0.length ≤ 4294967296:=St.rowLe (α:=Tparent) b2 .hd
 obtain ⟨G00,t01,d7⟩:=St.rowV (α:=Tparent) b2 .hd
 refine Ac (FV.lenV Tryd.underlying51 rfl d7)<|Af rfl<|Aa<|Al<|Ab rfl<|Ab rfl<|Ab rfl<|Ac (FV.convU (i:=((J0.length:Nat):Int)) Tryd.underlying3 Tryd.underlying90 rfl) ?_
 obtain ⟨j3,X9,h⟩:=bi h
 refine RG.cq (vI j3) body46 rfl (e1 rfl) (fun w9 hw9=>math_bits_Len_c n _ w9 (b2.hL0 hL hw9) (u64of ((J0.length:Nat):Int)) X9) rfl<|Ab rfl<|AW (fst:=[]) (cap:=[]) (vs:=[p0,vI 0,vI ((J0.length:Nat):Int),vI j3,.func (.func 37) #[] #[]]) .plain body45 Tryd.func45 rfl rfl rfl rfl (e5 rfl rfl rfl rfl rfl) rfl (fun J01 F6 z02=>?_)
 refine Ae<|Af rfl<|Aa<|Ae<|Af rfl<|Aa<|Au ?_
 have s8:=h
 refine MX.loop (α:=Nat × Nat × Int × Bool × Bool) (fun ⟨g1,j1,H1,Q1,R1⟩=>[(0,p0),(1,vI ((g1:Nat):Int)),(2,vI ((j1:Nat):Int)),(3,vI H1),(4,.func (.func 37) #[] #[]),(10,.bool Q1),(11,.bool R1)]) (fun ⟨g1,j1,H1,Q1,R1⟩ k2=>St w k2 (.row w.heap.size 59 (Rep.size Tparent) p0 J0.length Z0 :: .obj y0 (iterO c0 (pmD b0).length v0) :: .obj k0 (.deferred (some [])) :: .obj c0 (mapO (pmD b0)) :: (boxes 59 bx_Tparent b0 ++ []))∧Tr u00 (.row w.heap.size 59 (Rep.size Tparent) p0 J0.length Z0 :: .obj y0 (iterO c0 (pmD b0).length v0) :: .obj k0 (.deferred (some [])) :: .obj c0 (mapO (pmD b0)) :: (boxes 59 bx_Tparent b0 ++ [])) k2 (.row w.heap.size 59 (Rep.size Tparent) p0 J0.length Z0 :: .obj y0 (iterO c0 (pmD b0).length v0) :: .obj k0 (.deferred (some [])) :: .obj c0 (mapO (pmD b0)) :: (boxes 59 bx_Tparent b0 ++ []))) (fun ⟨g1,j1,H1,Q1,R1⟩=>(g1,j1,H1,Q1,R1)) (0,J0.length,j3,true,true) s8 ⟨rfl,rfl,rfl,rfl,rfl,rfl,rfl,trivial⟩ ⟨b2,AM _ _⟩ ?_
 rintro H00 ⟨g1,j1,H1,Q1,R1⟩ k2 K01 ⟨j5,I5⟩ h
 unfold split_view_parents_l3 at h
 try dsimp only at h
 refine Au<|Ae<|Ab rfl<|Ab rfl ?_
 obtain ⟨b00,g9,h⟩:=bi h
 refine Ac (FV.subc (i:=((j1:Nat):Int)) (j:=((g1:Nat):Int)) rfl rfl g9)<|Af rfl<|Aa<|Am<|Ae<|Ab rfl<|Ac (FV.leq (i:=b00) (j:=12) rfl rfl)<|Aa<|AU rfl h (fun I4 h=>?_) (fun I4 h=>?_)
 refine Ae<|Ab rfl<|Ab rfl<|Ab rfl<|Ab rfl<|AW (fst:=[]) (cap:=[]) (vs:=[p0,vI ((g1:Nat):Int),vI ((j1:Nat):Int),.func (.func 37) #[] #[]]) .plain body54 Tryd.func54 rfl rfl rfl rfl (e4 rfl rfl rfl rfl) rfl (fun u01 A6 s02=>?_)
 refine Ae<|Ab rfl ?_
 obtain ⟨c00,k9,h⟩:=bi h
 refine Ac (FV.addc (i:=((g1:Nat):Int)) (j:=1) rfl rfl k9)<|Af rfl<|Aa<|Au ?_
 have G7:=AJ P3 (Tt z6 I5)
 obtain ⟨G02,t8,g7⟩:=bind_in2 h
 refine MX.loop (α:=Int × (List Tparent) × (List Value)) (fun ⟨u1,X0,d1⟩=>[(0,p0),(1,vI ((g1:Nat):Int)),(2,vI ((j1:Nat):Int)),(3,.func (.func 37) #[] #[]),(8,vI u1)]) (fun ⟨u1,X0,d1⟩ G1=>St w G1 (.row w.heap.size 59 (Rep.size Tparent) p0 X0.length d1 :: .obj y0 (iterO c0 (pmD b0).length v0) :: .obj k0 (.deferred (some [])) :: .obj c0 (mapO (pmD b0)) :: (boxes 59 bx_Tparent b0 ++ []))∧Tr k2 (.row w.heap.size 59 (Rep.size Tparent) p0 J0.length Z0 :: .obj y0 (iterO c0 (pmD b0).length v0) :: .obj k0 (.deferred (some [])) :: .obj c0 (mapO (pmD b0)) :: (boxes 59 bx_Tparent b0 ++ [])) G1 (.row w.heap.size 59 (Rep.size Tparent) p0 X0.length d1 :: .obj y0 (iterO c0 (pmD b0).length v0) :: .obj k0 (.deferred (some [])) :: .obj c0 (mapO (pmD b0)) :: (boxes 59 bx_Tparent b0 ++ []))∧Cells G1 (bl (.row w.heap.size 59 (Rep.size Tparent) p0 X0.length d1 :: .obj y0 (iterO c0 (pmD b0).length v0) :: .obj k0 (.deferred (some [])) :: .obj c0 (mapO (pmD b0)) :: (boxes 59 bx_Tparent b0 ++ [])) ++ L) d1 X0) (fun ⟨u1,X0,d1⟩=>(u1,X0)) (c00,J0,Z0) t8 ⟨rfl,rfl,rfl,rfl,rfl,trivial⟩ ⟨j5,AM _ _,G7⟩ ?_
 rintro I00 ⟨u1,X0,d1⟩ G1 c5 ⟨t3,J5,K3⟩ h
 unfold split_view_parents_l2 at h
 try dsimp only at h
 refine Am<|Ae<|Ab rfl<|Ab rfl<|Ac (FV.lss (i:=u1) (j:=((j1:Nat):Int)) rfl rfl)<|Aa<|AU rfl h (fun J4 h=>?_) (fun J4 h=>?_)
 refine Aq<|Am<|Au<|Ae<|Ab rfl<|Af rfl<|Aa<|Au<|MX.joinx (α:=(List Tparent) × (List Value)) (fun ⟨z1,A1⟩=>[(0,p0),(1,vI ((g1:Nat):Int)),(2,vI ((j1:Nat):Int)),(3,.func (.func 37) #[] #[]),(8,vI u1)]) (fun ⟨z1,A1⟩ p2=>St w p2 (.row w.heap.size 59 (Rep.size Tparent) p0 z1.length A1 :: .obj y0 (iterO c0 (pmD b0).length v0) :: .obj k0 (.deferred (some [])) :: .obj c0 (mapO (pmD b0)) :: (boxes 59 bx_Tparent b0 ++ []))∧Tr G1 (.row w.heap.size 59 (Rep.size Tparent) p0 X0.length d1 :: .obj y0 (iterO c0 (pmD b0).length v0) :: .obj k0 (.deferred (some [])) :: .obj c0 (mapO (pmD b0)) :: (boxes 59 bx_Tparent b0 ++ [])) p2 (.row w.heap.size 59 (Rep.size Tparent) p0 z1.length A1 :: .obj y0 (iterO c0 (pmD b0).length v0) :: .obj k0 (.deferred (some [])) :: .obj c0 (mapO (pmD b0)) :: (boxes 59 bx_Tparent b0 ++ []))∧Cells p2 (bl (.row w.heap.size 59 (Rep.size Tparent) p0 z1.length A1 :: .obj y0 (iterO c0 (pmD b0).length v0) :: .obj k0 (.deferred (some [])) :: .obj c0 (mapO (pmD b0)) :: (boxes 59 bx_Tparent b0 ++ [])) ++ L) A1 z1) (fun ⟨z1,A1⟩=>z1) (id:=2) rfl h ?_ ?_
 rintro ⟨z1,A1⟩ p2 ⟨q5,M5,G6⟩ h
 try dsimp only at h
 refine Ar<|Al<|Ab rfl ?_
 obtain ⟨d00,p9,h⟩:=bi h
 refine Ac (FV.addc (i:=u1) (j:=1) rfl rfl p9)<|Af rfl<|Aa ?_
 exact c5 (d00,z1,A1) _ _ ⟨rfl,rfl,rfl,rfl,rfl,trivial⟩ ⟨q5,(Tt J5 M5),G6⟩ h
 intro J00 k3 h
 try dsimp only at h
 obtain ⟨H02,v8,U3⟩:=bind_in2 h
 refine MX.loop (α:=Int × (List Tparent) × (List Value)) (fun ⟨Y0,s1,v1⟩=>[(0,p0),(1,vI ((g1:Nat):Int)),(2,vI ((j1:Nat):Int)),(3,.func (.func 37) #[] #[]),(8,vI u1),(9,vI Y0)]) (fun ⟨Y0,s1,v1⟩ q2=>St w q2 (.row w.heap.size 59 (Rep.size Tparent) p0 s1.length v1 :: .obj y0 (iterO c0 (pmD b0).length v0) :: .obj k0 (.deferred (some [])) :: .obj c0 (mapO (pmD b0)) :: (boxes 59 bx_Tparent b0 ++ []))∧Tr G1 (.row w.heap.size 59 (Rep.size Tparent) p0 X0.length d1 :: .obj y0 (iterO c0 (pmD b0).length v0) :: .obj k0 (.deferred (some [])) :: .obj c0 (mapO (pmD b0)) :: (boxes 59 bx_Tparent b0 ++ [])) q2 (.row w.heap.size 59 (Rep.size Tparent) p0 s1.length v1 :: .obj y0 (iterO c0 (pmD b0).length v0) :: .obj k0 (.deferred (some [])) :: .obj c0 (mapO (pmD b0)) :: (boxes 59 bx_Tparent b0 ++ []))∧Cells q2 (bl (.row w.heap.size 59 (Rep.size Tparent) p0 s1.length v1 :: .obj y0 (iterO c0 (pmD b0).length v0) :: .obj k0 (.deferred (some [])) :: .obj c0 (mapO (pmD b0)) :: (boxes 59 bx_Tparent b0 ++ [])) ++ L) v1 s1) (fun ⟨Y0,s1,v1⟩=>(Y0,s1)) (u1,X0,d1) v8 ⟨rfl,rfl,rfl,rfl,rfl,rfl,trivial⟩ ⟨t3,AM _ _,K3⟩ ?_
 rintro K00 ⟨Y0,s1,v1⟩ q2 d5 ⟨q1,F2,F1⟩ h
 unfold split_view_parents_l1 at h
 try dsimp only at h
 refine Am<|Am<|dt 17 tb54_4 (fun F0 I0=>?_)
 refine Ag 0 1 F0 rfl I0 (fun _=>Ah rfl) rfl<|Ag 1 3 F0 rfl I0 (fun _=>Ah rfl) rfl<|Ag 2 7 F0 rfl I0 (fun _=>FV.gtr (i:=Y0) (j:=((g1:Nat):Int)) rfl rfl) rfl<|Ag 3 15 F0 rfl I0 (fun _=>Ah rfl) rfl<|RD.ifd (s:=21) rfl h (fun K4 h=>?_) (fun K4 h=>?_)
 refine Bb 4 31 F0 rfl I0 (.yes rfl rfl) (fun _=>Ah rfl) rfl<|Bb 5 63 F0 rfl I0 (.yes rfl rfl) (fun _=>Ah rfl) rfl<|Bb 6 127 F0 rfl I0 (.yes rfl rfl) (fun _=>Ah rfl) rfl ?_
 obtain ⟨t2,B9,h⟩:=bi h
 obtain ⟨P2,C9⟩:=idx_in B9
 obtain ⟨z4,V00,P1,d2,v01,K8,Z3⟩:=St.nth (α:=Tparent) q1 .hd F1 C9
 obtain ⟨D4,W00,Q3⟩:=St.nthOwn (α:=Tparent) q1 .hd d2
 obtain rfl:z4 = ⟨D4,0,none⟩:=by rw [Q3] at P1; cases P1; rfl
 obtain rfl:=op_Tparent K8
 refine Bb 7 255 F0 rfl I0 (.yes rfl rfl) (fun _=>FV.ia 3 (Y0.toNat) rfl P1 rfl P2 d2) rfl<|RD.val (i:=8) (m' :=511) (W:=114688) (tk F0) rfl I0 (.yes rfl rfl) (AI rfl Z3) rfl<|Bb 9 1023 F0 rfl I0 (.yes rfl rfl) (fun _=>Ah rfl) rfl<|Bb 10 2047 F0 rfl I0 (.yes rfl rfl) (fun _=>Ah rfl) rfl ?_
 obtain ⟨g00,q9,h⟩:=bi h
 refine Bb 11 4095 F0 rfl I0 (.yes rfl rfl) (fun _=>FV.subc (i:=Y0) (j:=1) rfl rfl q9) rfl ?_
 obtain ⟨x00,E9,h⟩:=bi h
 obtain ⟨k7,F9⟩:=idx_in E9
 obtain ⟨A4,X00,I2,W3,x01,M8,H7⟩:=St.nth (α:=Tparent) q1 .hd F1 F9
 obtain ⟨E4,Y00,P6⟩:=St.nthOwn (α:=Tparent) q1 .hd W3
 obtain rfl:A4 = ⟨E4,0,none⟩:=by rw [P6] at I2; cases I2; rfl
 obtain rfl:=op_Tparent M8
 refine Bb 12 8191 F0 rfl I0 (.yes rfl rfl) (fun _=>FV.ia 3 (g00.toNat) rfl I2 rfl k7 W3) rfl<|RD.val (i:=13) (m' :=16383) (W:=114688) (tk F0) rfl I0 (.yes rfl rfl) (AI rfl H7) rfl ?_
 obtain ⟨y4,W9,h⟩:=bi h
 refine RD.callq (i:=14) (m' :=32767) (W:=98304) (tk F0) rfl I0 (v:=vI y4) (fst:=[]) (cap:=[]) (.yes rfl rfl) body37 rfl (e2 rfl rfl) (fun w9 hw9=>split_view_parents_1_c n _ w9 (q1.hL0 hL hw9) t2 x00 W9) rfl<|Bb 15 65535 F0 rfl I0 (.yes rfl rfl) (fun _=>FV.lss (i:=y4) (j:=0) rfl rfl) rfl<|Ag 16 131071 F0 rfl I0 (fun _=>FV.pick_t rfl rfl) rfl<|AR (dk F0)<|AU rfl h (fun M4 h=>?_) (fun M4 h=>?_)
 refine Aq<|Am<|Au<|dt 15 tb54_6 (fun D0 R0=>?_)
 refine Ag 0 1 D0 rfl R0 (fun _=>Ah rfl) rfl<|Ag 1 3 D0 rfl R0 (fun _=>Ah rfl) rfl<|Ag 2 7 D0 rfl R0 (fun _=>Ah rfl) rfl<|Ag 3 15 D0 rfl R0 (fun _=>Ah rfl) rfl ?_
 obtain ⟨j4,s9,h⟩:=bi h
 refine Ag 4 31 D0 rfl R0 (fun _=>FV.subc (i:=Y0) (j:=1) rfl rfl s9) rfl<|Ag 5 63 D0 rfl R0 (fun _=>Ah rfl) rfl<|Ag 6 127 D0 rfl R0 (fun _=>Ah rfl) rfl ?_
 obtain ⟨j00,t9,h⟩:=bi h
 refine Ag 7 255 D0 rfl R0 (fun _=>FV.subc (i:=Y0) (j:=1) rfl rfl t9) rfl ?_
 obtain ⟨d3,G9,h⟩:=bi h
 obtain ⟨p7,H9⟩:=idx_in G9
 obtain ⟨B4,Z00,J2,X3,y01,P8,I7⟩:=St.nth (α:=Tparent) q1 .hd F1 H9
 obtain ⟨F4,b01,Q6⟩:=St.nthOwn (α:=Tparent) q1 .hd X3
 obtain rfl:B4 = ⟨F4,0,none⟩:=by rw [Q6] at J2; cases J2; rfl
 obtain rfl:=op_Tparent P8
 refine Ag 8 511 D0 rfl R0 (fun _=>FV.ia 3 (j00.toNat) rfl J2 rfl p7 X3) rfl<|RD.vx 9 1023 245760 D0 rfl R0 (AI rfl I7) rfl<|Ag 10 2047 D0 rfl R0 (fun _=>Ah rfl) rfl<|Ag 11 4095 D0 rfl R0 (fun _=>Ah rfl) rfl<|Ag 12 8191 D0 rfl R0 (fun _=>FV.ia 3 (Y0.toNat) rfl P1 rfl P2 d2) rfl<|RD.vx 13 16383 245760 D0 rfl R0 (AI rfl Z3) rfl<|Ag 14 32767 D0 rfl R0 (fun _=>FV.ia 3 (Y0.toNat) rfl P1 rfl P2 d2) rfl ?_
 obtain ⟨s03,R9,h⟩:=bi h
 refine RD.one (i:=15) (rk D0) (RO.acts (m' :=65535) (sk D0) rfl rfl .plain (Acts.set (α:=Tparent) (i:=Y0.toNat) R9 q1 Q3 (fun _=>.hd) F1 rfl rfl rfl rfl (mk_Tparent d3.fv d3.fu d3.fl) (by kernel_rfl)) (fun W02 ⟨z01,x2,P5,M3⟩=>?_))
 obtain ⟨q03,I9,h⟩:=bi h
 obtain ⟨q7,J9⟩:=idx_in I9
 obtain ⟨C4,c01,K2,Y3,A01,Q8,q02⟩:=St.nth (α:=Tparent) x2 .hd M3 J9
 obtain ⟨G4,d01,R3⟩:=St.nthOwn (α:=Tparent) x2 .hd Y3
 obtain rfl:C4 = ⟨G4,0,none⟩:=by rw [R3] at K2; cases K2; rfl
 obtain rfl:=op_Tparent Q8
 refine RD.one (i:=16) (rk D0) (RO.val (m' :=131071) (sk D0) rfl .plain rfl (FV.ia 3 (j4.toNat) rfl K2 rfl q7 Y3) ?_)
 obtain ⟨y00,U9,h⟩:=bi h
 refine RD.one (i:=17) (rk D0) (RO.acts (m' :=262143) (sk D0) rfl rfl .plain (Acts.set (α:=Tparent) (i:=j4.toNat) U9 x2 R3 (fun _=>.hd) M3 rfl rfl rfl rfl (mk_Tparent t2.fv t2.fu t2.fl) (by kernel_rfl)) (fun X02 ⟨X4,t5,Q5,H6⟩=>?_))
 refine AR (dk D0)<|Ar<|Al<|Ab rfl ?_
 obtain ⟨k00,u9,h⟩:=bi h
 refine Ac (FV.subc (i:=Y0) (j:=1) rfl rfl u9)<|Af rfl<|Aa ?_
 exact d5 (k00,y00,X4) _ _ ⟨rfl,rfl,rfl,rfl,rfl,rfl,trivial⟩ ⟨t5,(Tt F2 (Tt P5 Q5)),H6⟩ h
 refine AT rfl ?_
 have h:=U3 _ h
 try dsimp only at h
 exact k3 (s1,v1) _ _ ⟨rfl,rfl,rfl,rfl,rfl,trivial⟩ ⟨q1,F2,F1⟩ h
 refine Ay 65535 1 [(4,22),(5,23),(6,24),(7,25),(8,26),(9,27),(10,28),(11,29),(12,30),(13,31),(14,32),(15,33)] (F:=[(21,false)]) (U:=[]) F0 I0 (.cons rfl .nil) .nil ?_
 dsimp only [offS,List.map]
 refine Ag 16 131071 F0 rfl I0 (fun _=>Ap rfl rfl) rfl<|AR (dk F0)<|AZ rfl<|AT rfl ?_
 have h:=U3 _ h
 try dsimp only at h
 exact k3 (s1,v1) _ _ ⟨rfl,rfl,rfl,rfl,rfl,trivial⟩ ⟨q1,F2,F1⟩ h
 refine AT rfl ?_
 have h:=g7 _ h
 try dsimp only at h
 refine MX.fin rfl<|Av (u:=.tuple #[]) A6 Tryd.func54 rfl .nil rfl<|Aa<|Ao rfl<|Av (u:=.tuple #[]) F6 Tryd.func45 rfl .nil rfl<|Aa<|MX.fin rfl<|Av (u:=.tuple #[]) E6 Tryd.func36 rfl .nil rfl<|Aa<|Ae<|Ab rfl<|Af rfl<|Aa<|Ao rfl<|RT.take t3 (.tl (.tl .hd)) (fun q4 u3 R5=>?_)
 have y2:St _ _ (.row w.heap.size 59 (Rep.size Tparent) p0 X0.length d1 :: .obj y0 (iterO c0 (pmD b0).length v0) :: .obj c0 (mapO (pmD b0)) :: (boxes 59 bx_Tparent b0 ++ [])):=u3.arr2 (.one .hd (.one .hd (.one (.tl .hd) (.drop .hd .rest))))
 have U5:Tr q4 _ q4 (.row w.heap.size 59 (Rep.size Tparent) p0 X0.length d1 :: .obj y0 (iterO c0 (pmD b0).length v0) :: .obj c0 (mapO (pmD b0)) :: (boxes 59 bx_Tparent b0 ++ [])):=Tr.arr2 (St.arr2Of u3 (.one .hd (.one .hd (.one (.tl .hd) (.drop .hd .rest)))))
 have J7:=AJ K3 (Tt R5 U5)
 have R8:=AP (α:=Tparent) y2 .hd J7 hL
 have z2:=St.delS y2 .hd
 have R01:=St.delT y2 .hd
 have U8:=Rep.at_ (α:=Tparent) (v:=p0) (xs:=X0) z2 L R8
 refine AK hb0 Tryd.func21 rfl rfl ?_
 cases h
 exact ⟨z2.ag,fun w9 hw9=>⟨p0,rfl,z2.kd U8 hw9⟩⟩
 refine Aq<|Am<|Ae<|Ab rfl<|Ac (FV.eql (i:=H1) (j:=0) rfl rfl)<|Aa<|AU rfl h (fun P4 h=>?_) (fun P4 h=>?_)
 refine Ae<|Ab rfl<|Ab rfl<|Ab rfl<|Ab rfl ?_
 cases h
 refine Aq<|Am<|Ae<|Ab rfl<|Ac (FV.not rfl)<|Aa<|MX.ifnb rfl h (fun Q4 h=>?_) (fun Q4 h=>?_)
 refine Aq<|Ae<|Ab rfl<|Ab rfl<|Ab rfl<|Ab rfl ?_
 cases h
 refine Ae<|Ab rfl<|Ab rfl<|Ab rfl<|Ab rfl ?_
 cases h
 obtain ⟨E0,H4⟩:=z00
 have h:=M6 _ _ (picks_map (·.1) z8)
 unfold split_view_parents_b762 at h
 try dsimp only at h
 refine Ac (Aj rfl rfl)<|Aa<|Am<|MX.cond_t rfl<|Aq<|Au<|Ae<|Ac (FV.entry (D:=pmD b0) E2 (.tl (.tl (.tl .hd))) (.tl .hd) (pmD_at V3) rfl)<|Ac (Aj rfl rfl)<|Af rfl<|Aa<|Al<|Ab rfl<|Ab rfl<|Ac (FV.nilCheck rfl) ?_
 have K7:∀ j9 v9,([vI E0.2.fv,vI E0.2.fu,.int .u8 (E0.2.fl.toNat:Int)]:List Value)[j9]? = some v9 → v00.cell? ((⟨H4,0,none⟩:Addr).add j9) = some v9:=St.memA E2 (At.box (pre:=[.row w.heap.size 59 (Rep.size Tparent) p0 J0.length Z0,.obj y0 (iterO c0 (pmD b0).length (v0.push g2)),.obj k0 (.deferred (some [])),.obj c0 (mapO (pmD b0))]) (t:=59) (f:=bx_Tparent) (T:=[]) V3)
 refine Ac (AI rfl K7)<|Ax .plain rfl (AD (α:=Tparent) (xs:=([E0.2]:List Tparent)) (vs:=[.agg #[vI E0.2.fv,vI E0.2.fu,.int .u8 (E0.2.fl.toNat:Int)]]) (ds' :=[vI E0.2.fv,vI E0.2.fu,.int .u8 (E0.2.fl.toNat:Int)]) rfl E2 el51 rfl (e1 rfl) (by kernel_rfl) rfl) (fun Y02 U00 A2 F3=>?_)
 have I6:=Az (cs:=[vI E0.2.fv,vI E0.2.fu,.int .u8 (E0.2.fl.toNat:Int)]) (xs:=(([E0.2]:List Tparent):List Tparent)) A2 L (Ai (cs:=[vI E0.2.fv,vI E0.2.fu,.int .u8 (E0.2.fl.toNat:Int)]) (ds:=[]) (mk_Tparent E0.2.fv E0.2.fu E0.2.fl) (AB _ _))
 obtain ⟨g3,V9,h⟩:=bi h
 have M7:=AJ P3 (Tt I3 F3)
 refine RG.doesL .plain rfl (DoesL.app (α:=Tparent) (ys:=([E0.2]:List Tparent)) V9 A2 (fun _ _=>(.tl .hd)) el51 rfl rfl M7 (Src.row (α:=Tparent) A2 .hd I6)) (fun W2 s4 ⟨u2,v3,V5,J6⟩=>?_)
 refine Af rfl<|Aa<|Ar ?_
 have u5:St _ _ (.row w.heap.size 59 (Rep.size Tparent) W2 g3.length u2 :: .obj y0 (iterO c0 (pmD b0).length (v0.push g2)) :: .obj k0 (.deferred (some [])) :: .obj c0 (mapO (pmD b0)) :: (boxes 59 bx_Tparent b0 ++ [])):=v3.arr2 (.one (.tl .hd) (.one (.tl .hd) (.one (.tl .hd) (.one (.tl .hd) (.drop .hd .rest)))))
 have G3:Tr s4 _ s4 (.row w.heap.size 59 (Rep.size Tparent) W2 g3.length u2 :: .obj y0 (iterO c0 (pmD b0).length (v0.push g2)) :: .obj k0 (.deferred (some [])) :: .obj c0 (mapO (pmD b0)) :: (boxes 59 bx_Tparent b0 ++ [])):=Tr.arr2 (St.arr2Of v3 (.one (.tl .hd) (.one (.tl .hd) (.one (.tl .hd) (.one (.tl .hd) (.drop .hd .rest))))))
 have P7:=AJ J6 G3
 have A8:=Tt I3 (Tt F3 (Tt V5 G3))
 exact g5 (pmM g4) (g3,W2,u2,(v0.push g2),g4) _ _ ⟨rfl,rfl,trivial⟩ ⟨u5,(Tt y6 A8),P7,E7,rfl⟩ h
structure Tbroken where
  fErrno:Int
  deriving DecidableEq
instance:Rep Tbroken:=Rep.via (β:=Int) fun x=>x.fErrno
def balance_need_p (_n:Nat) (a0:Int):Option (Except Tbroken Unit):=
  (if a0 = 0 then some (.ok ()) else some (.error (⟨a0⟩:Tbroken)))
theorem balance_need_c (n:Nat) (L:List Nat) (w:World) (_hL:∀ b ∈ L,b < w.heap.size) (a0:Int)  {r:Except Tbroken Unit} (h:balance_need_p n a0 = some r) :
    Calls Tryd.prog 48 #[vI a0] w (PGives w (fun (y:Unit) _ u=>u = .tuple #[]) (fun e=>.iface 92 (.agg #[vI e.fErrno])) r):=by
 unfold balance_need_p at h
 have hS0:=AC w
 refine MX.startP Tryd.func48 rfl rfl rfl (fun _ cs0 hb0 hp0=>?_)
 refine Ae<|Ab rfl<|Ac (FV.neq (i:=a0) (j:=0) rfl rfl)<|Aa<|MX.ifn rfl h (fun c1 h=>?_) (fun c1 h=>?_)
 refine Aq<|MX.fin rfl<|Av hb0 Tryd.func48 rfl .nil rfl ?_
 cases h
 exact ⟨hS0.ag,fun w9 hw9=>okOf_in rfl⟩
 refine Al<|Ab rfl<|Ac (Bc (vs:=[vI a0]) (u:=.agg #[vI a0]) (e1 rfl) (fun w9=>by kernel_rfl))<|Ac (FV.makeInterface (by kernel_rfl) rfl)<|RG.panic .plain rfl ?_
 cases h
 exact PN.leave hp0 Tryd.func48 ⟨hS0.ag,rfl⟩
theorem body48:bodyB Tryd.prog 48 = true:=by kernel_rfl
def balance_fail_p (n:Nat) (a0:Bool) (a1:Int):Option (Except Tbroken Unit):=
  (if a0 = true then (balance_need_p n a1).bind fun y2=>exc y2 (fun c0=>some (.ok ())) (fun b0=>some (.error b0)) else some (.ok ()))
theorem balance_fail_c (n:Nat) (L:List Nat) (w:World) (hL:∀ b ∈ L,b < w.heap.size) (a0:Bool) (a1:Int)  {r:Except Tbroken Unit} (h:balance_fail_p n a0 a1 = some r) :
    Calls Tryd.prog 49 #[.bool a0,vI a1] w (PGives w (fun (y:Unit) _ u=>u = .tuple #[]) (fun e=>.iface 92 (.agg #[vI e.fErrno])) r):=by
 unfold balance_fail_p at h
 have hS0:=AC w
 refine MX.startP Tryd.func49 rfl rfl rfl (fun _ cs0 hb0 hp0=>?_)
 refine Ae<|Ab rfl<|Aa<|MX.ifb rfl h (fun c1 h=>?_) (fun c1 h=>?_)
 refine Al<|Ab rfl ?_
 obtain ⟨y2,hy2,h⟩:=bi h
 rcases y2 with d0 | k0
 have h:=exc_e h
 try dsimp only at h
 refine RG.callE (fst:=[]) (cap:=[]) .plain body48 rfl (e1 rfl) (fun w9 hw9=>balance_need_c n _ w9 (hS0.hL0 hL hw9) a1 hy2) (fun j0 c0=>?_)
 obtain ⟨b0,g0⟩:=hS0.agr c0
 cases h
 exact PN.leave hp0 Tryd.func49 ⟨b0.ag,rfl⟩
 have h:=exc_o h
 try dsimp only at h
 refine RG.cq (.tuple #[]) body48 rfl (e1 rfl) (fun w9 hw9=>Calls.okp (balance_need_c n _ w9 (hS0.hL0 hL hw9) a1 hy2)) rfl<|Aa<|MX.fin rfl<|Av hb0 Tryd.func49 rfl .nil rfl ?_
 cases h
 exact ⟨hS0.ag,fun w9 hw9=>okOf_in rfl⟩
 refine Aq<|MX.fin rfl<|Av hb0 Tryd.func49 rfl .nil rfl ?_
 cases h
 exact ⟨hS0.ag,fun w9 hw9=>okOf_in rfl⟩
structure Tcount where
  fj:TRoll
  fk:Int
  deriving DecidableEq
instance:Rep Tcount:=Rep.via (β:=TRoll × Int) fun x=>(x.fj,x.fk)
theorem body49:bodyB Tryd.prog 49 = true:=by kernel_rfl
def balance_counted_p (n:Nat) (a0:TRoll) (a1:Int):Option (Except Tbroken Tcount):=
  (units_CheckRoll_p n a0).bind fun g0=>(balance_need_p n g0).bind fun j0=>exc j0 (fun q0=>(if a1 < 1 then (balance_fail_p n true (2:Int)).bind fun k0=>exc k0 (fun s0=>some (.ok (⟨a0,a1⟩:Tcount))) (fun c0=>some (.error c0)) else (balance_fail_p n (decide (8 < a1)) (2:Int)).bind fun p0=>exc p0 (fun t0=>some (.ok (⟨a0,a1⟩:Tcount))) (fun d0=>some (.error d0)))) (fun b0=>some (.error b0))
theorem balance_counted_c (n:Nat) (L:List Nat) (w:World) (hL:∀ b ∈ L,b < w.heap.size) (a0:TRoll) {v0_3:Value} (h0_3:Rep.R w L [v0_3] a0.fo) (a1:Int)  {r:Except Tbroken Tcount} (h:balance_counted_p n a0 a1 = some r) :
    Calls Tryd.prog 41 #[.agg #[vI a0.fh,vI a0.fc,vI a0.fe,v0_3],vI a1] w (PGives w (fun (y:Tcount) w' u=>∃ v0_3:Value,u = .agg #[vI y.fj.fh,vI y.fj.fc,vI y.fj.fe,v0_3,vI y.fk]∧Rep.R w' L [v0_3] y.fj.fo) (fun e=>.iface 92 (.agg #[vI e.fErrno])) r):=by
 unfold balance_counted_p at h
 have hS0:=AC w
 refine MX.startP Tryd.func41 rfl rfl rfl (fun _ cs0 hb0 hp0=>?_)
 refine Ae<|Ax .plain rfl (AL hS0 rfl rfl) (fun j1 M0 v0 X0=>?_)
 refine Ax .plain rfl (AO [vI 0,vI 0,vI 0,vN,vI 0] v0) (fun k1 P0 b0 Y0=>?_)
 refine Aa<|Ae<|Ac (AI rfl (b0.memA (.tl .hd))) ?_
 obtain ⟨g0,F0,h⟩:=bi h
 refine RG.cq (vI g0) body34 rfl (e1 rfl) (fun w9 hw9=>units_CheckRoll_c n _ w9 (b0.hL0 hL hw9) a0 (b0.k0 h0_3 hw9) F0) rfl ?_
 obtain ⟨G0,q0,h⟩:=bi h
 rcases G0 with U0 | v1
 have h:=exc_e h
 try dsimp only at h
 refine RG.callE (fst:=[]) (cap:=[]) .plain body48 rfl (e1 rfl) (fun w9 hw9=>balance_need_c n _ w9 (b0.hL0 hL hw9) g0 q0) (fun p1 A0=>?_)
 obtain ⟨x0,Z0⟩:=b0.agr A0
 cases h
 exact PN.leave hp0 Tryd.func41 ⟨x0.ag,rfl⟩
 have h:=exc_o h
 try dsimp only at h
 refine RG.cq (.tuple #[]) body48 rfl (e1 rfl) (fun w9 hw9=>Calls.okp (balance_need_c n _ w9 (b0.hL0 hL hw9) g0 q0)) rfl<|Aa<|Ae<|Ab rfl<|Ac (FV.lss (i:=a1) (j:=1) rfl rfl)<|Ab rfl<|RG.ifd (s:=10) rfl h (fun u0 h=>?_) (fun u0 h=>?_)
 refine Ak<|Ak<|RG.pt rfl rfl ?_
 obtain ⟨H0,s0,h⟩:=bi h
 rcases H0 with V0 | x1
 have h:=exc_e h
 try dsimp only at h
 refine RG.callE (fst:=[]) (cap:=[]) .plain body49 rfl (e2 rfl rfl) (fun w9 hw9=>balance_fail_c n _ w9 (b0.hL0 hL hw9) true (2:Int) s0) (fun q1 B0=>?_)
 obtain ⟨y0,b1⟩:=b0.agr B0
 cases h
 exact PN.leave hp0 Tryd.func41 ⟨y0.ag,rfl⟩
 have h:=exc_o h
 try dsimp only at h
 refine RG.cq (.tuple #[]) body49 rfl (e2 rfl rfl) (fun w9 hw9=>Calls.okp (balance_fail_c n _ w9 (b0.hL0 hL hw9) true (2:Int) s0)) rfl<|Aa<|Ae<|Ac (AI rfl (b0.memA (.tl .hd)))<|Ab rfl ?_
 have j0:=Rep.mv0 h0_3 b0
 obtain ⟨J0,Q0,D0,_⟩:=Rep.sl j0
 refine Ac (Bc (vs:=[.agg #[vI a0.fh,vI a0.fc,vI a0.fe,v0_3],vI a1]) (u:=.agg #[vI a0.fh,vI a0.fc,vI a0.fe,v0_3,vI a1]) (e2 rfl rfl) (fun w9=>by rw [D0]; try kernel_rfl))<|RG.sa [vI a0.fh,vI a0.fc,vI a0.fe,v0_3,vI a1] b0 .hd (o5 rfl rfl rfl (Rep.o1 j0) rfl) (fun s1 c0 c1=>?_)
 refine Aa<|Ao rfl<|Av hb0 Tryd.func41 rfl (.cons (.many (cs:=[vI a0.fh,vI a0.fc,vI a0.fe,v0_3,vI a1]) (by kernel_rfl) rfl (c0.memA .hd)) .nil) rfl ?_
 cases h
 exact ⟨c0.ag,fun w9 hw9=>okOf_in ⟨v0_3,rfl,c0.k0 h0_3 hw9⟩⟩
 refine AH (Ah rfl)<|AH (FV.gtr (i:=a1) (j:=8) rfl rfl)<|AG rfl rfl ?_
 obtain ⟨I0,t0,h⟩:=bi h
 rcases I0 with W0 | y1
 have h:=exc_e h
 try dsimp only at h
 refine RG.callE (fst:=[]) (cap:=[]) .plain body49 rfl (e2 rfl rfl) (fun w9 hw9=>balance_fail_c n _ w9 (b0.hL0 hL hw9) (decide (8 < a1)) (2:Int) t0) (fun t1 C0=>?_)
 obtain ⟨z0,d1⟩:=b0.agr C0
 cases h
 exact PN.leave hp0 Tryd.func41 ⟨z0.ag,rfl⟩
 have h:=exc_o h
 try dsimp only at h
 refine RG.cq (.tuple #[]) body49 rfl (e2 rfl rfl) (fun w9 hw9=>Calls.okp (balance_fail_c n _ w9 (b0.hL0 hL hw9) (decide (8 < a1)) (2:Int) t0)) rfl<|Aa<|Ae<|Ac (AI rfl (b0.memA (.tl .hd)))<|Ab rfl ?_
 have p0:=Rep.mv0 h0_3 b0
 obtain ⟨K0,R0,E0,_⟩:=Rep.sl p0
 refine Ac (Bc (vs:=[.agg #[vI a0.fh,vI a0.fc,vI a0.fe,v0_3],vI a1]) (u:=.agg #[vI a0.fh,vI a0.fc,vI a0.fe,v0_3,vI a1]) (e2 rfl rfl) (fun w9=>by rw [E0]; try kernel_rfl))<|RG.sa [vI a0.fh,vI a0.fc,vI a0.fe,v0_3,vI a1] b0 .hd (o5 rfl rfl rfl (Rep.o1 p0) rfl) (fun u1 d0 g1=>?_)
 refine Aa<|Ao rfl<|Av hb0 Tryd.func41 rfl (.cons (.many (cs:=[vI a0.fh,vI a0.fc,vI a0.fe,v0_3,vI a1]) (by kernel_rfl) rfl (d0.memA .hd)) .nil) rfl ?_
 cases h
 exact ⟨d0.ag,fun w9 hw9=>okOf_in ⟨v0_3,rfl,d0.k0 h0_3 hw9⟩⟩
theorem balance_count_land_c (n:Nat) (L:List Nat) (w:World) (_hL:∀ b ∈ L,b < w.heap.size) (a0:Tcount) {v0_3:Value} (h0_3:Rep.R w L [v0_3] a0.fj.fo)  :
    Calls Tryd.prog 50 #[.agg #[vI a0.fj.fh,vI a0.fj.fc,vI a0.fj.fe,v0_3,vI a0.fk]] w (Gives w fun w' u=>∃ b0:Nat,u = .func (.func 64) #[] #[vP b0]∧St w w' [.cells b0 [vI a0.fj.fh,vI a0.fj.fc,vI a0.fj.fe,v0_3,vI a0.fk] 82]):=by
 have hS0:=AC w
 refine AF Tryd.func50 rfl rfl rfl (fun _ cs0 hb0=>?_)
 refine Ae<|Ax .plain rfl (AL hS0 rfl rfl) (fun g0 b0 c0 d0=>?_)
 refine Af rfl<|Aa<|Ae<|Ac (FV.makeFunc (vs:=[]) (us:=[vP b0]) evs_nil (e1 rfl))<|Af rfl<|Aa<|Ao rfl<|Av (u:=.func (.func 64) #[] #[vP b0]) hb0 Tryd.func50 rfl (.cons (.tmp rfl) .nil) rfl ?_
 exact ⟨c0.ag,fun w9 hw9=>⟨b0,rfl,c0.agree hw9⟩⟩
theorem body50:bodyB Tryd.prog 50 = true:=by kernel_rfl
theorem body64:bodyB Tryd.prog 64 = true:=by kernel_rfl
def balance_count_check_l1 (n:Nat) (a1:List Int) (a0:Tcount) (g0:Nat × (List (Int × Bool)) → Option ((Except Tbroken Unit) ⊕ (List (Int × Bool)))):Nat × (List (Int × Bool)) → Option ((Except Tbroken Unit) ⊕ (List (Int × Bool)))
  | (b0,d0)=>(if b0 < a1.length then (a1[b0]?).bind fun c0=>(if c0 < 0 then (balance_fail_p n true (220:Int)).bind fun p0=>exc p0 (fun s0=>g0 (b0 + 1,mset d0 c0 true)) (fun j0=>some (.inl (.error j0))) else (balance_fail_p n (decide (a0.fk ≤ c0)) (220:Int)).bind fun q0=>exc q0 (fun t0=>g0 (b0 + 1,mset d0 c0 true)) (fun k0=>some (.inl (.error k0)))) else some (.inr d0))
def balance_count_check_l2 (n:Nat) (a1:List Int) (a0:Tcount) (g0:Nat × (List (Int × Bool)) → Option ((Except Tbroken Unit) ⊕ (List (Int × Bool)))):Nat × (List (Int × Bool)) → Option ((Except Tbroken Unit) ⊕ (List (Int × Bool)))
  | (b0,d0)=>(if b0 < a1.length then (a1[b0]?).bind fun c0=>(if c0 < 0 then (balance_fail_p n true (220:Int)).bind fun p0=>exc p0 (fun s0=>g0 (b0 + 1,mset d0 c0 true)) (fun j0=>some (.inl (.error j0))) else (balance_fail_p n (decide (a0.fk ≤ c0)) (220:Int)).bind fun q0=>exc q0 (fun t0=>g0 (b0 + 1,mset d0 c0 true)) (fun k0=>some (.inl (.error k0)))) else some (.inr d0))
def balance_count_check_l3 (n:Nat) (a0:Tcount) (a1:List Int) (g0:Nat × Int → Option ((Except Tbroken Unit) ⊕ Int)):Nat × Int → Option ((Except Tbroken Unit) ⊕ Int)
  | (b0,c0)=>(if b0 < a0.fj.fo.length then (a0.fj.fo[b0]?).bind fun q0=>(if q0.ft = true then ((balance_fail_p n (!(decide (((a1.length:Nat):Int) = c0))) (220:Int)).bind fun s0=>exc s0 (fun u0=>thn (loopF (balance_count_check_l1 n a1 a0) n (0,([]:List (Int × Bool)))) (fun d0=>(balance_fail_p n (!(decide (((d0.length:Nat):Int) = a0.fk))) (220:Int)).bind fun t0=>exc t0 (fun v0=>some (.ok ())) (fun k0=>some (.error k0)))) (fun j0=>some (.error j0))).map .inl else (chk (c0 + 1)).bind fun p0=>g0 (b0 + 1,p0)) else some (.inr c0))
def balance_count_check_p (n:Nat) (a0:Tcount) (a1:List Int):Option (Except Tbroken Unit):=
  thn (loopF (balance_count_check_l3 n a0 a1) n (0,0)) (fun k0=>(balance_fail_p n (!(decide (((a1.length:Nat):Int) = k0))) (220:Int)).bind fun g0=>exc g0 (fun p0=>thn (loopF (balance_count_check_l2 n a1 a0) n (0,([]:List (Int × Bool)))) (fun b0=>(balance_fail_p n (!(decide (((b0.length:Nat):Int) = a0.fk))) (220:Int)).bind fun j0=>exc j0 (fun q0=>some (.ok ())) (fun d0=>some (.error d0)))) (fun c0=>some (.error c0)))
theorem balance_count_check_c (n:Nat) (L:List Nat) (w:World) (hL:∀ b ∈ L,b < w.heap.size) (a0:Tcount) {v0_3:Value} (h0_3:Rep.R w L [v0_3] a0.fj.fo) (a1:List Int) {v1_0:Value} (h1_0:Rep.R w L [v1_0] a1)  {r:Except Tbroken Unit} (h:balance_count_check_p n a0 a1 = some r) :
    Calls Tryd.prog 42 #[.agg #[vI a0.fj.fh,vI a0.fj.fc,vI a0.fj.fe,v0_3,vI a0.fk],v1_0] w (PGives w (fun (y:Unit) _ u=>u = .tuple #[]) (fun e=>.iface 92 (.agg #[vI e.fErrno])) r):=by
 unfold balance_count_check_p at h
 have hS0:=AC w
 refine MX.startP Tryd.func42 rfl rfl rfl (fun _ cs0 hb0 hp0=>?_)
 refine Ae<|Ax .plain rfl (AL hS0 rfl rfl) (fun U6 k0 R1 A5=>?_)
 refine Aa<|Ae<|Ax .plain rfl (AO [vI 0] R1) (fun V6 H0 V1 D5=>?_)
 refine RG.sa [vI 0] V1 .hd (o1 rfl) (fun E4 C0 I5=>?_)
 refine Aa<|Am<|Ae<|Ac (AI rfl (C0.memA (.tl .hd)))<|AY (fst:=[]) (cap:=[]) .plain body50 rfl (e1 rfl) (fun w9 hw9=>AQ (balance_count_land_c n _ w9 (C0.hL hL hw9) a0 (C0.km h0_3 hw9)) fun (w8:World) (u8:Value) ⟨b0_,hu_,s_⟩=>(⟨b0_,hu_,s_.from hw9⟩:∃ x0:Nat,u8 = Value.func (.func 64) #[] #[vP x0]∧St E4 w8 [.cells x0 [vI a0.fj.fh,vI a0.fj.fc,vI a0.fj.fe,v0_3,vI a0.fk] 82])) rfl (fun c7 R6 F6 ⟨x0,y4,A1⟩=>?_)
 subst y4
 have j2:=mk_push1 C0 A1
 have R5:=mk_tr1 C0 A1
 refine Aa<|Au<|MX.rangeP (lb:=[vP x0]) rfl j2 rfl body64 Tryd.func64 rfl rfl rfl (fun F4 G0 t0 P0 p5 J0 c6 C4 d1 K6=>?_)
 refine Ae<|RG.fa 0 rfl<|RG.fa 3 rfl<|Ac (AS rfl ((mem_from (J0.memA (.tl (.tl .hd))) 0) 3 _ rfl)) ?_
 have p1:=Rep.mv0 h0_3 J0
 have I6:a0.fj.fo.length ≤ 281474976710656:=Rep.lenle p1
 refine Ac (FV.len (xs:=a0.fj.fo) Tryd.underlying23 rfl p1)<|Ab rfl<|Aa<|Au ?_
 obtain ⟨M6,d4,g1⟩:=thn_in h
 refine MX.loop (α:=Nat × Int) (fun ⟨s0,d0⟩=>[(0,.func (.yield G0) #[] #[]),(7,v0_3),(8,vI ((a0.fj.fo.length:Nat):Int)),(9,vI ((s0:Nat):Int))]) (fun ⟨s0,d0⟩ Q0=>St w Q0 [.obj G0 (lpO P0 .ready none),.obj t0 (.deferred (some [])),.cells x0 [vI a0.fj.fh,vI a0.fj.fc,vI a0.fj.fe,v0_3,vI a0.fk] 82,.cells H0 [vI d0] 3,.cells k0 [vI a0.fj.fh,vI a0.fj.fc,vI a0.fj.fe,v0_3,vI a0.fk] 82]∧Tr F4 [.obj G0 (lpO P0 .ready none),.obj t0 (.deferred (some [])),.cells x0 [vI a0.fj.fh,vI a0.fj.fc,vI a0.fj.fe,v0_3,vI a0.fk] 82,.cells H0 [vI 0] 3,.cells k0 [vI a0.fj.fh,vI a0.fj.fc,vI a0.fj.fe,v0_3,vI a0.fk] 82] Q0 [.obj G0 (lpO P0 .ready none),.obj t0 (.deferred (some [])),.cells x0 [vI a0.fj.fh,vI a0.fj.fc,vI a0.fj.fe,v0_3,vI a0.fk] 82,.cells H0 [vI d0] 3,.cells k0 [vI a0.fj.fh,vI a0.fj.fc,vI a0.fj.fe,v0_3,vI a0.fk] 82]) (fun ⟨s0,d0⟩=>(s0,d0)) (0,0) d4 ⟨rfl,rfl,rfl,rfl,trivial⟩ ⟨J0,AM _ _⟩ ?_
 rintro X4 ⟨s0,d0⟩ Q0 Q1 ⟨I0,b3⟩ h
 unfold balance_count_check_l3 at h
 try dsimp only at h
 refine Ae<|Ac (FV.lssN (i:=s0) (j:=a0.fj.fo.length) rfl rfl)<|Aa<|Am<|AU rfl h (fun F1 h=>?_) (fun F1 h=>?_)
 refine Aq<|Am<|Au<|Ae<|Ab rfl ?_
 obtain ⟨A0,z4,h⟩:=bi h
 have Q3:=Rep.mv0 h0_3 I0
 obtain ⟨U4,c5,E3,J3,j5,p4,P3⟩:=Rep.nth Q3 z4
 obtain ⟨C1,D1,E1,rfl,q4,s4,t4⟩:=op_TUnit p4
 refine Ac (FV.ia 6 s0 rfl E3 rfl rfl J3)<|Ac (AI rfl P3)<|Ax .plain rfl (AO [.string ⟨#[]⟩,vI 0,vN,vN,vN,.bool false] I0) (fun W6 b5 U1 F0=>?_)
 refine Af rfl ?_
 have R3:=AE q4 F0
 have U3:=AE s4 F0
 have V3:=AE t4 F0
 refine RG.sa [.string A0.fq,vI A0.fp,C1,D1,E1,.bool A0.ft] U1 .hd (o6 rfl rfl (Rep.o1 R3) (Rep.o1 U3) (Rep.o1 V3) rfl) (fun X6 B0 c3=>?_)
 refine Aa<|Ae<|RG.fa 5 rfl<|Ba rfl ((B0.memA .hd) 5 _ rfl)<|Ab rfl<|RG.ifb (s:=16) rfl h (fun G1 h=>?_) (fun G1 h=>?_)
 refine Ak<|Ak<|Ak<|Ak<|Ak<|RG.pt rfl rfl<|Aa<|MX.cond_t rfl ?_
 have h:=thn_map h g1
 refine Ao rfl<|Av (u:=.tuple #[]) d1 Tryd.func64 rfl .nil rfl<|MX.endRange0 B0 (.tl .hd) (by intro h9; cases h9) (fun Y6 W1 B5=>?_)
 obtain ⟨y0,C5⟩:=AA W1 (.one .hd (.one (.tl .hd) (.one (.tl .hd) (.one (.tl .hd) (.one (.tl .hd) .done)))))
 refine Ar<|Ae<|Ab rfl ?_
 have j1:=Rep.mv0 h1_0 y0
 have G6:a1.length ≤ 281474976710656:=Rep.lenle j1
 refine Ac (FV.len (xs:=a1) Tryd.underlying28 rfl j1)<|Ac (AS rfl ((y0.memA (.tl (.tl (.tl .hd)))) 0 _ rfl))<|Ac (FV.neq (i:=((a1.length:Nat):Int)) (j:=d0) rfl rfl) ?_
 obtain ⟨H4,q1,h⟩:=bi h
 rcases H4 with q5 | M7
 have h:=exc_e h
 try dsimp only at h
 refine RG.callE (fst:=[]) (cap:=[]) .plain body49 rfl (e2 rfl rfl) (fun w9 hw9=>balance_fail_c n _ w9 (y0.hL0 hL hw9) (!(decide (((a1.length:Nat):Int) = d0))) (220:Int) q1) (fun Z6 u3=>?_)
 obtain ⟨X1,E5⟩:=y0.agr u3
 refine PN.take X1 (.tl .hd) (fun b7 Y1 F5=>?_)
 obtain ⟨Z1,G5⟩:=AA Y1 (.one .hd (.one (.tl .hd) (.one (.tl .hd) (.one (.tl .hd) .done))))
 cases h
 exact PN.leave hp0 Tryd.func42 ⟨Z1.ag,rfl⟩
 have h:=exc_o h
 try dsimp only at h
 refine RG.cq (.tuple #[]) body49 rfl (e2 rfl rfl) (fun w9 hw9=>Calls.okp (balance_fail_c n _ w9 (y0.hL0 hL hw9) (!(decide (((a1.length:Nat):Int) = d0))) (220:Int) q1)) rfl<|Aa<|Ae<|Ax .plain rfl (Does.makeMap (κ:=Int) (ν:=Bool) y0) (fun D4 D0 X0 H5=>?_)
 refine Af rfl<|Aa<|Am<|Ae<|Ab rfl ?_
 have W3:=Rep.mv0 h1_0 X0
 refine Ac (FV.len (xs:=a1) Tryd.underlying28 rfl W3)<|Ab rfl<|Aa<|Au ?_
 obtain ⟨b2,J5⟩:=AA X0 (.one .hd (.one (.tl .hd) (.one (.tl (.tl (.tl .hd))) .done)))
 obtain ⟨P6,g4,K0⟩:=thn_in h
 refine MX.loop (α:=Nat × (List (Int × Bool))) (fun ⟨p0,g0⟩=>[(2,vP k0),(5,.map (some D0)),(20,v1_0),(21,vI ((a1.length:Nat):Int)),(22,vI ((p0:Nat):Int))]) (fun ⟨p0,g0⟩ R0=>St w R0 [.obj D0 (mapO (g0:List (Int × Bool))),.obj t0 (.deferred (some [])),.cells k0 [vI a0.fj.fh,vI a0.fj.fc,vI a0.fj.fe,v0_3,vI a0.fk] 82]∧Tr D4 [.obj D0 (mapO ([]:List (Int × Bool))),.obj t0 (.deferred (some [])),.cells k0 [vI a0.fj.fh,vI a0.fj.fc,vI a0.fj.fe,v0_3,vI a0.fk] 82] R0 [.obj D0 (mapO (g0:List (Int × Bool))),.obj t0 (.deferred (some [])),.cells k0 [vI a0.fj.fh,vI a0.fj.fc,vI a0.fj.fe,v0_3,vI a0.fk] 82]) (fun ⟨p0,g0⟩=>(p0,g0)) (0,([]:List (Int × Bool))) g4 ⟨rfl,rfl,rfl,rfl,rfl,trivial⟩ ⟨b2,AM _ _⟩ ?_
 rintro Y4 ⟨p0,g0⟩ R0 V0 ⟨b0,b1⟩ h
 unfold balance_count_check_l1 at h
 try dsimp only at h
 refine Ae<|Ac (FV.lssN (i:=p0) (j:=a1.length) rfl rfl)<|Aa<|Am<|AU rfl h (fun H1 h=>?_) (fun H1 h=>?_)
 refine Aq<|Am<|Au<|Ae ?_
 obtain ⟨u0,A4,h⟩:=bi h
 have Y3:=Rep.mv0 h1_0 b0
 obtain ⟨V4,d5,F3,K3,M1,u4,X3⟩:=Rep.nth Y3 A4
 have G3:M1 = [vI u0]:=u4; subst G3
 refine Ac (FV.ia 1 p0 rfl F3 rfl rfl K3)<|Ba rfl (X3 0 _ rfl)<|Af rfl<|Aa<|Ae<|Ab rfl<|Ac (FV.lss (i:=u0) (j:=0) rfl rfl)<|Ab rfl<|RG.ifd (s:=28) rfl h (fun I1 h=>?_) (fun I1 h=>?_)
 refine Ak<|Ak<|Ak<|Ak<|RG.pt rfl rfl ?_
 obtain ⟨I4,s1,h⟩:=bi h
 rcases I4 with s5 | P7
 have h:=exc_e h
 try dsimp only at h
 have h:=thn_inl h K0
 refine RG.callE (fst:=[]) (cap:=[]) .plain body49 rfl (e2 rfl rfl) (fun w9 hw9=>balance_fail_c n _ w9 (b0.hL0 hL hw9) true (220:Int) s1) (fun d7 v3=>?_)
 obtain ⟨c2,K5⟩:=b0.agr v3
 refine PN.take c2 (.tl .hd) (fun g7 d2 M5=>?_)
 obtain ⟨g2,P5⟩:=AA d2 (.one .hd (.one (.tl .hd) .done))
 cases h
 exact PN.leave hp0 Tryd.func42 ⟨g2.ag,rfl⟩
 have h:=exc_o h
 try dsimp only at h
 refine RG.cq (.tuple #[]) body49 rfl (e2 rfl rfl) (fun w9 hw9=>Calls.okp (balance_fail_c n _ w9 (b0.hL0 hL hw9) true (220:Int) s1)) rfl<|Aa<|Al<|Ab rfl<|Ab rfl<|RG.now .plain (Acts.mapUpdate (kv:=u0) (vv:=true) b0 .hd Tryd.underlying98 Tryd.underlying3 rfl rfl rfl rfl) (fun j7 k2 d3=>?_)
 refine Aa<|Ar<|Al<|Ac (AX (i:=p0) (j:=1) rfl rfl (by omega))<|Ab rfl<|Aa ?_
 exact V0 (p0 + 1,mset g0 u0 true) _ _ ⟨rfl,rfl,rfl,rfl,rfl,trivial⟩ ⟨k2,(Tt b1 d3)⟩ h
 refine AH (Ah rfl)<|RG.fg 4 rfl<|AH (AS rfl ((b0.memA (.tl (.tl .hd))) 4 _ rfl))<|AH (FV.geq (i:=u0) (j:=a0.fk) rfl rfl)<|AG rfl rfl ?_
 obtain ⟨J4,t1,h⟩:=bi h
 rcases J4 with t5 | Q7
 have h:=exc_e h
 try dsimp only at h
 have h:=thn_inl h K0
 refine RG.callE (fst:=[]) (cap:=[]) .plain body49 rfl (e2 rfl rfl) (fun w9 hw9=>balance_fail_c n _ w9 (b0.hL0 hL hw9) (decide (a0.fk ≤ u0)) (220:Int) t1) (fun k7 x3=>?_)
 obtain ⟨p2,Q5⟩:=b0.agr x3
 refine PN.take p2 (.tl .hd) (fun p7 q2 U5=>?_)
 obtain ⟨s2,V5⟩:=AA q2 (.one .hd (.one (.tl .hd) .done))
 cases h
 exact PN.leave hp0 Tryd.func42 ⟨s2.ag,rfl⟩
 have h:=exc_o h
 try dsimp only at h
 refine RG.cq (.tuple #[]) body49 rfl (e2 rfl rfl) (fun w9 hw9=>Calls.okp (balance_fail_c n _ w9 (b0.hL0 hL hw9) (decide (a0.fk ≤ u0)) (220:Int) t1)) rfl<|Aa<|Al<|Ab rfl<|Ab rfl<|RG.now .plain (Acts.mapUpdate (kv:=u0) (vv:=true) b0 .hd Tryd.underlying98 Tryd.underlying3 rfl rfl rfl rfl) (fun q7 t2 g3=>?_)
 refine Aa<|Ar<|Al<|Ac (AX (i:=p0) (j:=1) rfl rfl (by omega))<|Ab rfl<|Aa ?_
 exact V0 (p0 + 1,mset g0 u0 true) _ _ ⟨rfl,rfl,rfl,rfl,rfl,trivial⟩ ⟨t2,(Tt b1 g3)⟩ h
 refine AT rfl ?_
 have h:=thn_inr h K0
 try dsimp only at h
 refine Al<|Ab rfl<|Ac (FV.len_map (D:=g0) b0 .hd Tryd.underlying98 rfl)<|RG.fa 4 rfl<|Ba rfl ((b0.memA (.tl (.tl .hd))) 4 _ rfl)<|Ac (FV.neq (i:=((g0.length:Nat):Int)) (j:=a0.fk) rfl rfl) ?_
 obtain ⟨K4,u1,h⟩:=bi h
 rcases K4 with u5 | R7
 have h:=exc_e h
 try dsimp only at h
 refine RG.callE (fst:=[]) (cap:=[]) .plain body49 rfl (e2 rfl rfl) (fun w9 hw9=>balance_fail_c n _ w9 (b0.hL0 hL hw9) (!(decide (((g0.length:Nat):Int) = a0.fk))) (220:Int) u1) (fun s7 y3=>?_)
 obtain ⟨u2,W5⟩:=b0.agr y3
 refine PN.take u2 (.tl .hd) (fun t7 v2 X5=>?_)
 obtain ⟨x2,Y5⟩:=AA v2 (.one .hd (.one (.tl .hd) .done))
 cases h
 exact PN.leave hp0 Tryd.func42 ⟨x2.ag,rfl⟩
 have h:=exc_o h
 try dsimp only at h
 refine RG.cq (.tuple #[]) body49 rfl (e2 rfl rfl) (fun w9 hw9=>Calls.okp (balance_fail_c n _ w9 (b0.hL0 hL hw9) (!(decide (((g0.length:Nat):Int) = a0.fk))) (220:Int) u1)) rfl<|Aa<|MX.fin rfl<|RT.take b0 (.tl .hd) (fun u7 y2 Z5=>?_)
 obtain ⟨z2,b6⟩:=AA y2 (.one .hd (.one (.tl .hd) .done))
 refine Av hb0 Tryd.func42 rfl .nil rfl ?_
 cases h
 exact ⟨z2.ag,fun w9 hw9=>okOf_in rfl⟩
 refine AH (Ah rfl)<|AH (Ah rfl)<|AH (AI rfl (B0.memA .hd))<|RG.yieldP (fd:=42) (vs:=[vI ((s0:Nat):Int),.agg #[.string A0.fq,vI A0.fp,C1,D1,E1,.bool A0.ft]]) (.yes rfl rfl) rfl (e2 rfl rfl) B0 (.tl .hd) C4 rfl rfl rfl (fun k5 D3 J6=>?_)
 refine Aq<|MX.begin B0 (.tl .hd) (fun v7 Y0 j3=>?_)
 refine Au<|Al<|Ac (AS rfl ((Y0.memA (.tl (.tl (.tl (.tl .hd))))) 0 _ rfl)) ?_
 obtain ⟨B1,x4,h⟩:=bi h
 refine Ac (FV.addc (i:=d0) (j:=1) rfl rfl x4)<|RG.sa [vI B1] Y0 (.tl (.tl (.tl (.tl .hd)))) (o1 rfl) (fun x7 A2 k3=>?_)
 refine Aa<|Ar<|MX.roundEnd D3 A2 (.tl .hd) (fun y7 B2 p3=>?_)
 refine AH (FV.not rfl)<|AG rfl rfl<|Aa<|AZ rfl<|Aq<|Ar<|Al<|Ac (AX (i:=s0) (j:=1) rfl rfl (by omega))<|Ab rfl<|Aa ?_
 obtain ⟨C2,q3⟩:=AA B2 (.one (.tl .hd) (.one (.tl .hd) (.one (.tl .hd) (.one (.tl .hd) (.one (.tl .hd) .done)))))
 have k4:=Tt F0 (Tt c3 (Tt j3 (Tt k3 (Tt p3 q3))))
 exact Q1 (s0 + 1,B1) _ _ ⟨rfl,rfl,rfl,rfl,trivial⟩ ⟨C2,(Tt b3 k4)⟩ h
 refine AT rfl ?_
 have h:=thn_inr h g1
 try dsimp only at h
 refine MX.fin rfl<|Av (u:=.tuple #[]) d1 Tryd.func64 rfl .nil rfl<|MX.endRange0 I0 .hd (by intro h9; cases h9) (fun z7 D2 d6=>?_)
 obtain ⟨z0,g6⟩:=AA D2 (.one (.tl .hd) (.one (.tl .hd) (.one (.tl .hd) (.one (.tl .hd) .done))))
 refine Ar<|Ae<|Ab rfl ?_
 have k1:=Rep.mv0 h1_0 z0
 have H6:a1.length ≤ 281474976710656:=Rep.lenle k1
 refine Ac (FV.len (xs:=a1) Tryd.underlying28 rfl k1)<|Ba rfl ((z0.memA (.tl (.tl .hd))) 0 _ rfl)<|Ac (FV.neq (i:=((a1.length:Nat):Int)) (j:=d0) rfl rfl) ?_
 obtain ⟨M4,v1,h⟩:=bi h
 rcases M4 with v5 | U7
 have h:=exc_e h
 try dsimp only at h
 refine RG.callE (fst:=[]) (cap:=[]) .plain body49 rfl (e2 rfl rfl) (fun w9 hw9=>balance_fail_c n _ w9 (z0.hL0 hL hw9) (!(decide (((a1.length:Nat):Int) = d0))) (220:Int) v1) (fun A7 z3=>?_)
 obtain ⟨E2,j6⟩:=z0.agr z3
 refine PN.take E2 .hd (fun B7 F2 k6=>?_)
 obtain ⟨G2,p6⟩:=AA F2 (.one (.tl .hd) (.one (.tl .hd) (.one (.tl .hd) .done)))
 cases h
 exact PN.leave hp0 Tryd.func42 ⟨G2.ag,rfl⟩
 have h:=exc_o h
 try dsimp only at h
 refine RG.cq (.tuple #[]) body49 rfl (e2 rfl rfl) (fun w9 hw9=>Calls.okp (balance_fail_c n _ w9 (z0.hL0 hL hw9) (!(decide (((a1.length:Nat):Int) = d0))) (220:Int) v1)) rfl<|Aa<|Ae<|Ax .plain rfl (Does.makeMap (κ:=Int) (ν:=Bool) z0) (fun G4 E0 Z0 q6=>?_)
 refine Af rfl<|Aa<|Am<|Ae<|Ab rfl ?_
 have Z3:=Rep.mv0 h1_0 Z0
 refine Ac (FV.len (xs:=a1) Tryd.underlying28 rfl Z3)<|Ab rfl<|Aa<|Au ?_
 obtain ⟨H2,s6⟩:=AA Z0 (.one .hd (.one .hd (.one (.tl (.tl .hd)) .done)))
 obtain ⟨Q6,j4,M0⟩:=thn_in h
 refine MX.loop (α:=Nat × (List (Int × Bool))) (fun ⟨q0,j0⟩=>[(2,vP k0),(5,.map (some E0)),(20,v1_0),(21,vI ((a1.length:Nat):Int)),(22,vI ((q0:Nat):Int))]) (fun ⟨q0,j0⟩ U0=>St w U0 [.obj E0 (mapO (j0:List (Int × Bool))),.obj t0 (.deferred (some [])),.cells k0 [vI a0.fj.fh,vI a0.fj.fc,vI a0.fj.fe,v0_3,vI a0.fk] 82]∧Tr G4 [.obj E0 (mapO ([]:List (Int × Bool))),.obj t0 (.deferred (some [])),.cells k0 [vI a0.fj.fh,vI a0.fj.fc,vI a0.fj.fe,v0_3,vI a0.fk] 82] U0 [.obj E0 (mapO (j0:List (Int × Bool))),.obj t0 (.deferred (some [])),.cells k0 [vI a0.fj.fh,vI a0.fj.fc,vI a0.fj.fe,v0_3,vI a0.fk] 82]) (fun ⟨q0,j0⟩=>(q0,j0)) (0,([]:List (Int × Bool))) j4 ⟨rfl,rfl,rfl,rfl,rfl,trivial⟩ ⟨H2,AM _ _⟩ ?_
 rintro Z4 ⟨q0,j0⟩ U0 W0 ⟨c0,c1⟩ h
 unfold balance_count_check_l2 at h
 try dsimp only at h
 refine Ae<|Ac (FV.lssN (i:=q0) (j:=a1.length) rfl rfl)<|Aa<|Am<|AU rfl h (fun J1 h=>?_) (fun J1 h=>?_)
 refine Aq<|Am<|Au<|Ae ?_
 obtain ⟨v0,B4,h⟩:=bi h
 have c4:=Rep.mv0 h1_0 c0
 obtain ⟨W4,g5,H3,M3,P1,v4,b4⟩:=Rep.nth c4 B4
 have I3:P1 = [vI v0]:=v4; subst I3
 refine Ac (FV.ia 1 q0 rfl H3 rfl rfl M3)<|Ba rfl (b4 0 _ rfl)<|Af rfl<|Aa<|Ae<|Ab rfl<|Ac (FV.lss (i:=v0) (j:=0) rfl rfl)<|Ab rfl<|RG.ifd (s:=28) rfl h (fun K1 h=>?_) (fun K1 h=>?_)
 refine Ak<|Ak<|Ak<|Ak<|RG.pt rfl rfl ?_
 obtain ⟨P4,x1,h⟩:=bi h
 rcases P4 with x5 | V7
 have h:=exc_e h
 try dsimp only at h
 have h:=thn_inl h M0
 refine RG.callE (fst:=[]) (cap:=[]) .plain body49 rfl (e2 rfl rfl) (fun w9 hw9=>balance_fail_c n _ w9 (c0.hL0 hL hw9) true (220:Int) x1) (fun C7 A3=>?_)
 obtain ⟨I2,t6⟩:=c0.agr A3
 refine PN.take I2 (.tl .hd) (fun D7 J2 u6=>?_)
 obtain ⟨K2,v6⟩:=AA J2 (.one .hd (.one (.tl .hd) .done))
 cases h
 exact PN.leave hp0 Tryd.func42 ⟨K2.ag,rfl⟩
 have h:=exc_o h
 try dsimp only at h
 refine RG.cq (.tuple #[]) body49 rfl (e2 rfl rfl) (fun w9 hw9=>Calls.okp (balance_fail_c n _ w9 (c0.hL0 hL hw9) true (220:Int) x1)) rfl<|Aa<|Al<|Ab rfl<|Ab rfl<|RG.now .plain (Acts.mapUpdate (kv:=v0) (vv:=true) c0 .hd Tryd.underlying98 Tryd.underlying3 rfl rfl rfl rfl) (fun E7 M2 s3=>?_)
 refine Aa<|Ar<|Al<|Ac (AX (i:=q0) (j:=1) rfl rfl (by omega))<|Ab rfl<|Aa ?_
 exact W0 (q0 + 1,mset j0 v0 true) _ _ ⟨rfl,rfl,rfl,rfl,rfl,trivial⟩ ⟨M2,(Tt c1 s3)⟩ h
 refine AH (Ah rfl)<|RG.fg 4 rfl<|AH (AS rfl ((c0.memA (.tl (.tl .hd))) 4 _ rfl))<|AH (FV.geq (i:=v0) (j:=a0.fk) rfl rfl)<|AG rfl rfl ?_
 obtain ⟨Q4,y1,h⟩:=bi h
 rcases Q4 with y5 | W7
 have h:=exc_e h
 try dsimp only at h
 have h:=thn_inl h M0
 refine RG.callE (fst:=[]) (cap:=[]) .plain body49 rfl (e2 rfl rfl) (fun w9 hw9=>balance_fail_c n _ w9 (c0.hL0 hL hw9) (decide (a0.fk ≤ v0)) (220:Int) y1) (fun F7 B3=>?_)
 obtain ⟨P2,x6⟩:=c0.agr B3
 refine PN.take P2 (.tl .hd) (fun G7 Q2 y6=>?_)
 obtain ⟨R2,z6⟩:=AA Q2 (.one .hd (.one (.tl .hd) .done))
 cases h
 exact PN.leave hp0 Tryd.func42 ⟨R2.ag,rfl⟩
 have h:=exc_o h
 try dsimp only at h
 refine RG.cq (.tuple #[]) body49 rfl (e2 rfl rfl) (fun w9 hw9=>Calls.okp (balance_fail_c n _ w9 (c0.hL0 hL hw9) (decide (a0.fk ≤ v0)) (220:Int) y1)) rfl<|Aa<|Al<|Ab rfl<|Ab rfl<|RG.now .plain (Acts.mapUpdate (kv:=v0) (vv:=true) c0 .hd Tryd.underlying98 Tryd.underlying3 rfl rfl rfl rfl) (fun H7 U2 t3=>?_)
 refine Aa<|Ar<|Al<|Ac (AX (i:=q0) (j:=1) rfl rfl (by omega))<|Ab rfl<|Aa ?_
 exact W0 (q0 + 1,mset j0 v0 true) _ _ ⟨rfl,rfl,rfl,rfl,rfl,trivial⟩ ⟨U2,(Tt c1 t3)⟩ h
 refine AT rfl ?_
 have h:=thn_inr h M0
 try dsimp only at h
 refine Al<|Ab rfl<|Ac (FV.len_map (D:=j0) c0 .hd Tryd.underlying98 rfl)<|RG.fa 4 rfl<|Ba rfl ((c0.memA (.tl (.tl .hd))) 4 _ rfl)<|Ac (FV.neq (i:=((j0.length:Nat):Int)) (j:=a0.fk) rfl rfl) ?_
 obtain ⟨R4,z1,h⟩:=bi h
 rcases R4 with z5 | X7
 have h:=exc_e h
 try dsimp only at h
 refine RG.callE (fst:=[]) (cap:=[]) .plain body49 rfl (e2 rfl rfl) (fun w9 hw9=>balance_fail_c n _ w9 (c0.hL0 hL hw9) (!(decide (((j0.length:Nat):Int) = a0.fk))) (220:Int) z1) (fun I7 C3=>?_)
 obtain ⟨V2,A6⟩:=c0.agr C3
 refine PN.take V2 (.tl .hd) (fun J7 W2 B6=>?_)
 obtain ⟨X2,C6⟩:=AA W2 (.one .hd (.one (.tl .hd) .done))
 cases h
 exact PN.leave hp0 Tryd.func42 ⟨X2.ag,rfl⟩
 have h:=exc_o h
 try dsimp only at h
 refine RG.cq (.tuple #[]) body49 rfl (e2 rfl rfl) (fun w9 hw9=>Calls.okp (balance_fail_c n _ w9 (c0.hL0 hL hw9) (!(decide (((j0.length:Nat):Int) = a0.fk))) (220:Int) z1)) rfl<|Aa<|MX.fin rfl<|RT.take c0 (.tl .hd) (fun K7 Y2 D6=>?_)
 obtain ⟨Z2,E6⟩:=AA Y2 (.one .hd (.one (.tl .hd) .done))
 refine Av hb0 Tryd.func42 rfl .nil rfl ?_
 cases h
 exact ⟨Z2.ag,fun w9 hw9=>okOf_in rfl⟩
def tb40_1:List (Nat × Nat × Nat):=[(0,16,1),(0,32,2),(3,64,48),(0,128,4),(12,256,192)]
theorem body41:bodyB Tryd.prog 41 = true:=by kernel_rfl
theorem body42:bodyB Tryd.prog 42 = true:=by kernel_rfl
def balance_Check_1_p (n:Nat) (a0:TRoll) (a1:Int) (a2:List Int):Option (Except Tbroken Bool):=
  (balance_counted_p n a0 a1).bind fun y3=>exc y3 (fun d0=>(balance_count_check_p n d0 a2).bind fun g0=>exc g0 (fun j0=>some (.ok true)) (fun c0=>some (.error c0))) (fun b0=>some (.error b0))
theorem balance_Check_1_c (n:Nat) (L:List Nat) (w:World) (hL:∀ b ∈ L,b < w.heap.size) (a0:TRoll) {v0_3:Value} (h0_3:Rep.R w L [v0_3] a0.fo) {p0:Nat} (m0:∀ j9 v9,([vI a0.fh,vI a0.fc,vI a0.fe,v0_3]:List Value)[j9]? = some v9 → w.cell? ((⟨p0,0,none⟩:Addr).add j9) = some v9) (a1:Int) {p1:Nat} (m1:∀ j9 v9,([vI a1]:List Value)[j9]? = some v9 → w.cell? ((⟨p1,0,none⟩:Addr).add j9) = some v9) (a2:List Int) {v2_0:Value} (h2_0:Rep.R w L [v2_0] a2) {p2:Nat} (m2:∀ j9 v9,([v2_0]:List Value)[j9]? = some v9 → w.cell? ((⟨p2,0,none⟩:Addr).add j9) = some v9)  {r:Except Tbroken Bool} (h:balance_Check_1_p n a0 a1 a2 = some r) :
    Calls Tryd.prog 40 #[.pointer (some ⟨p0,0,none⟩),.pointer (some ⟨p1,0,none⟩),.pointer (some ⟨p2,0,none⟩)] w (PGives w (fun (y:Bool) _ u=>u = .bool y) (fun e=>.iface 92 (.agg #[vI e.fErrno])) r):=by
 unfold balance_Check_1_p at h
 have hS0:=AC w
 refine MX.startP Tryd.func40 rfl rfl rfl (fun _ cs0 hb0 hp0=>?_)
 refine Ae<|Af rfl<|Aa<|Am<|dt 5 tb40_1 (fun kt1 kp2=>?_)
 refine RD.vx 0 1 20 kt1 rfl kp2 (AI rfl (fun j9 v9 h9=>hS0.ag.cell0 (m0 j9 v9 h9))) rfl<|RD.vx 1 3 20 kt1 rfl kp2 (AS rfl ((fun j9 v9 h9=>hS0.ag.cell0 (m1 j9 v9 h9)) 0 _ rfl)) rfl ?_
 obtain ⟨y3,hy3,h⟩:=bi h
 rcases y3 with x0 | g0
 have h:=exc_e h
 try dsimp only at h
 refine RD.vx 3 11 16 kt1 rfl kp2 (AS rfl ((fun j9 v9 h9=>hS0.ag.cell0 (m2 j9 v9 h9)) 0 _ rfl)) rfl<|RD.one (i:=2) (rk kt1) (RO.callE (fst:=[]) (cap:=[]) rfl .plain body41 rfl (e2 rfl rfl) (fun w9 hw9=>balance_counted_c n _ w9 (hS0.hL hL hw9) a0 (Aw h0_3 hw9) a1 hy3) (fun E0 s0=>?_))
 obtain ⟨j0,z0⟩:=hS0.agr s0
 cases h
 exact PN.leave hp0 Tryd.func40 ⟨j0.ag,rfl⟩
 have h:=exc_o h
 try dsimp only at h
 refine RD.vx 3 11 16 kt1 rfl kp2 (AS rfl ((fun j9 v9 h9=>hS0.ag.cell0 (m2 j9 v9 h9)) 0 _ rfl)) rfl<|RD.cl 2 15 kt1 rfl .plain body41 rfl (e2 rfl rfl) (fun w9 hw9=>Calls.okp (balance_counted_c n _ w9 (hS0.hL hL hw9) a0 (Aw h0_3 hw9) a1 hy3)) rfl (fun F0 D0 t0 ⟨C0,hu_,c0⟩=>?_)
 subst hu_
 obtain ⟨b0,A0⟩:=hS0.agr t0
 obtain ⟨v0,d0,h⟩:=bi h
 rcases v0 with y0 | H0
 have h:=exc_e h
 try dsimp only at h
 refine RD.one (i:=4) (rk kt1) (RO.callE (fst:=[]) (cap:=[]) rfl .plain body42 rfl (e2 rfl rfl) (fun w9 hw9=>balance_count_check_c n _ w9 (b0.hL0 hL hw9) g0 (b0.kd c0 hw9) a2 (b0.k0 h2_0 hw9) d0) (fun G0 u0=>?_))
 obtain ⟨q0,B0⟩:=b0.agr u0
 cases h
 exact PN.leave hp0 Tryd.func40 ⟨q0.ag,rfl⟩
 have h:=exc_o h
 try dsimp only at h
 refine RD.cq 4 31 0 (.tuple #[]) kt1 rfl kp2 body42 rfl (e2 rfl rfl) (fun w9 hw9=>Calls.okp (balance_count_check_c n _ w9 (b0.hL0 hL hw9) g0 (b0.kd c0 hw9) a2 (b0.k0 h2_0 hw9) d0)) rfl<|AR (dk kt1)<|Ae<|Af rfl<|Aa<|Ao rfl<|AK hb0 Tryd.func40 rfl rfl ?_
 cases h
 exact ⟨b0.ag,fun w9 hw9=>okOf_in rfl⟩
def tb47_6:List (Nat × Nat × Nat):=[(0,131072,32),(0,262144,8),(2,524288,262144),(1,0,131073),(15,0,524290)]
theorem body39:bodyB Tryd.prog 39 = true:=by kernel_rfl
theorem body40:bodyB Tryd.prog 40 = true:=by kernel_rfl
theorem body47:bodyB Tryd.prog 47 = true:=by kernel_rfl
def balance_Check_p (n:Nat) (a0:TRoll) (a1:List Int) (a2:Int):Option Int:=
  (balance_Check_1_p n a0 a2 a1).bind fun c0=>exc c0 (fun d0=>some (0:Int)) (fun b0=>some b0.fErrno)
theorem balance_Check_c (n:Nat) (L:List Nat) (w:World) (hL:∀ b ∈ L,b < w.heap.size) (a0:TRoll) {v0_3:Value} (h0_3:Rep.R w L [v0_3] a0.fo) (a1:List Int) {v1_0:Value} (h1_0:Rep.R w L [v1_0] a1) (a2:Int)  {r:Int} (h:balance_Check_p n a0 a1 a2 = some r) :
    Calls Tryd.prog 32 #[.agg #[vI a0.fh,vI a0.fc,vI a0.fe,v0_3],v1_0,vI a2] w (Gives w fun _ u=>u = vI r):=by
 unfold balance_Check_p at h
 have hS0:=AC w
 refine AF Tryd.func32 rfl rfl rfl (fun _ cs0 hb0=>?_)
 refine Ae<|Ax .plain rfl (AL hS0 rfl rfl) (fun J1 g0 D0 A1=>?_)
 have g1:=Rep.mv0 h1_0 D0
 refine Ax .plain rfl (AL D0 rfl (Rep.c1 g1)) (fun Q1 j0 P0 B1=>?_)
 refine Ax .plain rfl (AL P0 rfl rfl) (fun R1 p0 Q0 C1=>?_)
 refine Af rfl<|Aa<|Ae<|Ac (FV.makeFunc (vs:=[]) (us:=[vP g0,vP p0,vP j0]) evs_nil (e3 rfl rfl rfl))<|AW (fst:=[]) (cap:=[]) (vs:=[.func (.func 40) #[] #[vP g0,vP p0,vP j0]]) .plain body39 Tryd.func39 rfl rfl rfl rfl (e1 rfl) rfl (fun u1 E0 I1=>?_)
 refine Ae<|Ax .plain rfl (AO [.bool false] Q0) (fun U1 q0 R0 D1=>?_)
 refine Ax .plain rfl (AO [vI 0] R0) (fun V1 d0 b0 E1=>?_)
 refine Aa<|Ae<|Ac (FV.makeFunc (vs:=[]) (us:=[vP q0,vP d0]) evs_nil (e2 rfl rfl))<|RG.defer (fst:=[]) (cap:=[vP q0,vP d0]) (vs:=[]) rfl .plain rfl evs_nil<|Aa<|Ae<|Ab rfl ?_
 obtain ⟨p1,G0,h⟩:=bi h
 rcases p1 with s0 | B0
 have h:=exc_e h
 try dsimp only at h
 refine RG.callE (fst:=[]) (cap:=[vP g0,vP p0,vP j0]) .plain body40 rfl evs_nil (fun w9 hw9=>balance_Check_1_c n _ w9 (b0.hL0 hL hw9) a0 (b0.k0 h0_3 hw9) (fun j9 v9 h9=>hw9.cell0 ((b0.memA (.tl (.tl (.tl (.tl .hd))))) j9 v9 h9)) a2 (fun j9 v9 h9=>hw9.cell0 ((b0.memA (.tl (.tl .hd))) j9 v9 h9)) a1 (b0.k0 h1_0 hw9) (fun j9 v9 h9=>hw9.cell0 ((b0.memA (.tl (.tl (.tl .hd)))) j9 v9 h9)) G0) (fun W1 Y0=>?_)
 obtain ⟨U0,F1⟩:=b0.agr Y0
 refine PN.callD (vs:=[]) (cap:=[vP q0,vP d0]) body47 Tryd.func47 rfl rfl rfl (fun s1 Z0 d1=>?_)
 refine Ae<|RG.recover1 .plain Z0 rfl<|Af rfl<|Aa<|Ae<|Ab rfl<|Ac (FV.neqI Tryd.underlying20 rfl rfl)<|Aa<|MX.cond_t rfl<|Ae<|Ab rfl<|Ac (FV.assertT (by kernel_rfl) rfl)<|Ab rfl<|Ac (Aj rfl rfl)<|Ac (Aj rfl rfl)<|Ax .plain rfl (AO [vI 0] U0) (fun X1 H0 V0 G1=>?_)
 refine RG.sa [vI s0.fErrno] V0 .hd (o1 rfl) (fun j1 x0 H1=>?_)
 refine Af rfl<|Aa<|Am<|Ae<|Ab rfl<|Ac (FV.not rfl)<|Aa<|AZ rfl<|Aq<|Ae<|Af rfl<|Aa<|dt 3 tb47_6 (fun c0 z0=>?_)
 refine Ag 0 1 c0 rfl z0 (fun _=>Ah rfl) rfl<|Ag 1 3 c0 rfl z0 (fun _=>FV.fa 0 rfl) rfl<|RD.meet (α:=Unit) (fun ()=>[(1,vP d0),(19,vI s0.fErrno)]) (fun () A0=>St w A0 [.cells d0 [vI 0] 31,.cells q0 [.bool false] 4,.cells p0 [vI a2] 3,.cells j0 [v1_0] 28,.cells g0 [vI a0.fh,vI a0.fc,vI a0.fe,v0_3] 25]∧Tr j1 [.cells H0 [vI s0.fErrno] 92,.cells d0 [vI 0] 31,.cells q0 [.bool false] 4,.cells p0 [vI a2] 3,.cells j0 [v1_0] 28,.cells g0 [vI a0.fh,vI a0.fc,vI a0.fe,v0_3] 25] A0 [.cells d0 [vI 0] 31,.cells q0 [.bool false] 4,.cells p0 [vI a2] 3,.cells j0 [v1_0] 28,.cells g0 [vI a0.fh,vI a0.fc,vI a0.fe,v0_3] 25]) 1 15 ?_ ?_
 rintro ⟨⟩ A0 ⟨I0,v1⟩
 try dsimp only
 refine RD.nw 4 31 c0 rfl rfl .plain (Acts.storeAll (news:=[vI s0.fErrno]) I0 .hd rfl rfl rfl rfl rfl rfl (o1 rfl)) (fun K1 u0 x1=>?_)
 refine AR (dk c0)<|MX.fin rfl<|RT.leaveD1 d1 Tryd.func47 rfl .nil<|Av (u:=.tuple #[.bool false,vI s0.fErrno]) E0 Tryd.func39 rfl (.cons (.one (by kernel_rfl) rfl ((u0.memA (.tl .hd)) 0 _ rfl)) (.cons (.one (by kernel_rfl) rfl ((u0.memA .hd) 0 _ rfl)) .nil)) rfl<|Ab rfl<|Ac (Aj rfl rfl)<|Ac (Aj rfl rfl)<|Af rfl<|Af rfl<|Aa<|Ae<|Ab rfl<|Af rfl<|Aa<|Ao rfl<|AK hb0 Tryd.func32 rfl rfl ?_
 cases h
 exact u0.gv
 intro C0
 refine RD.each [2,3] (rk c0) ⟨?_,?_,trivial⟩
 refine RO.val (m' :=7) (sk c0) rfl .plain rfl (AS rfl ((x0.memA .hd) 0 _ rfl))<|RD.nw 3 15 c0 rfl rfl .plain (Acts.storeAll (news:=[.bool false]) x0 (.tl (.tl .hd)) rfl rfl rfl rfl rfl rfl (o1 rfl)) (fun k1 t0 y0=>?_)
 obtain ⟨J0,W0⟩:=AA t0 (.one (.tl .hd) (.one (.tl .hd) (.one (.tl .hd) (.one (.tl .hd) (.one (.tl .hd) .done)))))
 exact C0 () _ _ ⟨rfl,rfl,trivial⟩ ⟨J0,(Tt y0 W0)⟩
 refine RO.now (m' :=11) (sk c0) rfl rfl .plain (Acts.storeAll (news:=[.bool false]) x0 (.tl (.tl .hd)) rfl rfl rfl rfl rfl rfl (o1 rfl)) (fun k1 t0 y0=>?_)
 refine RD.vx 2 15 16 c0 rfl z0 (AS rfl ((t0.memA .hd) 0 _ rfl)) rfl ?_
 obtain ⟨K0,X0⟩:=AA t0 (.one (.tl .hd) (.one (.tl .hd) (.one (.tl .hd) (.one (.tl .hd) (.one (.tl .hd) .done)))))
 exact C0 () _ _ ⟨rfl,rfl,trivial⟩ ⟨K0,(Tt y0 X0)⟩
 have h:=exc_o h
 try dsimp only at h
 refine RG.callq' (v:=.bool B0) (fst:=[]) (cap:=[vP g0,vP p0,vP j0]) .plain body40 rfl evs_nil (fun w9 hw9=>Calls.okp (balance_Check_1_c n _ w9 (b0.hL0 hL hw9) a0 (b0.k0 h0_3 hw9) (fun j9 v9 h9=>hw9.cell0 ((b0.memA (.tl (.tl (.tl (.tl .hd))))) j9 v9 h9)) a2 (fun j9 v9 h9=>hw9.cell0 ((b0.memA (.tl (.tl .hd))) j9 v9 h9)) a1 (b0.k0 h1_0 hw9) (fun j9 v9 h9=>hw9.cell0 ((b0.memA (.tl (.tl (.tl .hd)))) j9 v9 h9)) G0)) rfl<|RG.sa [.bool B0] b0 (.tl .hd) (o1 rfl) (fun M1 M0 y1=>?_)
 refine RG.sa [vI 0] M0 .hd (o1 rfl) (fun P1 v0 z1=>?_)
 refine Aa<|Ao rfl<|RT.callD (vs:=[]) (cap:=[vP q0,vP d0]) body47 Tryd.func47 rfl rfl rfl (fun q1 F0 b1=>?_)
 refine Ae<|RG.recover0 .plain F0 rfl<|Af rfl<|Aa<|Ae<|Ab rfl<|Ac (FV.neqI0 Tryd.underlying20 rfl rfl)<|Aa<|AZ rfl<|Aq<|MX.fin rfl<|RT.leaveD0 F0 b1 Tryd.func47 rfl .nil<|Av (u:=.tuple #[.bool B0,vI 0]) E0 Tryd.func39 rfl (.cons (.one (by kernel_rfl) rfl ((v0.memA (.tl .hd)) 0 _ rfl)) (.cons (.one (by kernel_rfl) rfl ((v0.memA .hd) 0 _ rfl)) .nil)) rfl<|Ab rfl<|Ac (Aj rfl rfl)<|Ac (Aj rfl rfl)<|Af rfl<|Af rfl<|Aa<|Ae<|Ab rfl<|Af rfl<|Aa<|Ao rfl ?_
 refine AK hb0 Tryd.func32 rfl rfl ?_
 cases h
 exact v0.gv
theorem body20:bodyB Tryd.prog 20 = true:=by kernel_rfl
theorem body21:bodyB Tryd.prog 21 = true:=by kernel_rfl
theorem body32:bodyB Tryd.prog 32 = true:=by kernel_rfl
def split_planned_p (n:Nat) (a0:TRoll) (a1:List Int) (a2:Int) (a3:Int):Option ((List Tparent) × Int):=
  (balance_Check_p n a0 a1 a2).bind fun c0=>(if c0 = 0 then (split_seen_p n a0 a3).bind fun b0=>(if b0.2 = 0 then (split_view_parents_p n b0.1 a1).bind fun d0=>some (d0,(0:Int)) else some (([]:List Tparent),b0.2)) else some (([]:List Tparent),c0))
theorem split_planned_c (n:Nat) (L:List Nat) (w:World) (hL:∀ b ∈ L,b < w.heap.size) (a0:TRoll) {v0_3:Value} (h0_3:Rep.R w L [v0_3] a0.fo) (a1:List Int) {v1_0:Value} (h1_0:Rep.R w L [v1_0] a1) (a2:Int) (a3:Int)  {r:(List Tparent) × Int} (h:split_planned_p n a0 a1 a2 a3 = some r) :
    Calls Tryd.prog 16 #[.agg #[vI a0.fh,vI a0.fc,vI a0.fe,v0_3],v1_0,vI a2,vI a3] w (Gives w fun w' u=>∃ v0_0:Value,u = .tuple #[v0_0,vI r.2]∧Rep.R w' L [v0_0] r.1):=by
 unfold split_planned_p at h
 have hS0:=AC w
 refine AF Tryd.func16 rfl rfl rfl (fun _ cs0 hb0=>?_)
 refine Ae<|Ax .plain rfl (AL hS0 rfl rfl) (fun W0 K0 b0 P0=>?_)
 refine Af rfl<|Af rfl<|Aa<|Am<|Ae<|Ac (AI rfl (b0.memA .hd))<|Ab rfl<|Ab rfl ?_
 obtain ⟨q0,F0,h⟩:=bi h
 refine RG.cq (vI q0) body32 rfl (e3 rfl rfl rfl) (fun w9 hw9=>balance_Check_c n _ w9 (b0.hL0 hL hw9) a0 (b0.k0 h0_3 hw9) a1 (b0.k0 h1_0 hw9) a2 F0) rfl<|Af rfl<|Aa<|Ae<|Ab rfl<|Ac (FV.neq (i:=q0) (j:=0) rfl rfl)<|Aa<|MX.ifn rfl h (fun s0 h=>?_) (fun s0 h=>?_)
 refine Aq<|Ae<|Ac (AI rfl (b0.memA .hd))<|Ab rfl ?_
 obtain ⟨d0,G0,h⟩:=bi h
 refine AY (fst:=[]) (cap:=[]) .plain body20 rfl (e2 rfl rfl) (fun w9 hw9=>split_seen_c n _ w9 (b0.hL hL hw9) a0 (b0.km h0_3 hw9) a3 G0) rfl (fun X0 V0 y0 ⟨I0,hu_,p0⟩=>?_)
 subst hu_
 obtain ⟨u0,Q0⟩:=b0.agr y0
 refine Ab rfl<|Ac (Aj rfl rfl)<|Ac (Aj rfl rfl)<|Ax .plain rfl (AO [vI 0,vI 0,vI 0,vN,vI 0] u0) (fun Y0 M0 v0 j0=>?_)
 have A0:=AE p0 j0
 refine RG.sa [vI d0.1.fj.fh,vI d0.1.fj.fc,vI d0.1.fj.fe,I0,vI d0.1.fm] v0 .hd (o5 rfl rfl rfl (Rep.o1 A0) rfl) (fun Z0 c0 x0=>?_)
 refine Af rfl<|Aa<|Am<|Ae<|Ab rfl<|Ac (FV.neq (i:=d0.2) (j:=0) rfl rfl)<|Aa<|MX.ifn rfl h (fun t0 h=>?_) (fun t0 h=>?_)
 refine Aq<|Ae<|Ac (AI rfl (c0.memA .hd))<|Ab rfl ?_
 obtain ⟨c1,H0,h⟩:=bi h
 have B0:=AE p0 (Tt j0 x0)
 refine AY (fst:=[]) (cap:=[]) .plain body21 rfl (e2 rfl rfl) (fun w9 hw9=>split_view_parents_c n _ w9 (c0.hL hL hw9) d0.1 (Aw B0 hw9) a1 (c0.km h1_0 hw9) H0) rfl (fun b1 J0 z0 ⟨U0,hu_,C0⟩=>?_)
 subst hu_
 obtain ⟨g0,R0⟩:=c0.agr z0
 refine Af rfl<|Af rfl<|Aa<|Ao rfl<|Av hb0 Tryd.func16 rfl (.cons (.tmp rfl) (.cons (.tmp rfl) .nil)) rfl ?_
 cases h
 exact ⟨g0.ag,fun w9 hw9=>⟨J0,rfl,g0.kd C0 hw9⟩⟩
 refine Ae<|Ab rfl<|Af rfl<|Af rfl<|Aa<|Ao rfl ?_
 have D0:=AN (α:=Tparent) c0 L
 refine Av hb0 Tryd.func16 rfl (.cons (.tmp rfl) (.cons (.tmp rfl) .nil)) rfl ?_
 cases h
 exact ⟨c0.ag,fun w9 hw9=>⟨vN,rfl,c0.kd D0 hw9⟩⟩
 refine Ae<|Ab rfl<|Af rfl<|Af rfl<|Aa<|Ao rfl ?_
 have E0:=AN (α:=Tparent) b0 L
 refine Av hb0 Tryd.func16 rfl (.cons (.tmp rfl) (.cons (.tmp rfl) .nil)) rfl ?_
 cases h
 exact ⟨b0.ag,fun w9 hw9=>⟨vN,rfl,b0.kd E0 hw9⟩⟩
def split_every_p (_n:Nat) (_a0:Tparent):Option Bool:=
  some true
theorem split_every_c (n:Nat) (L:List Nat) (w:World) (_hL:∀ b ∈ L,b < w.heap.size) (a0:Tparent)  {r:Bool} (h:split_every_p n a0 = some r) :
    Calls Tryd.prog 18 #[.agg #[vI a0.fv,vI a0.fu,.int .u8 (a0.fl.toNat:Int)]] w (Gives w fun _ u=>u = .bool r):=by
 unfold split_every_p at h
 have hS0:=AC w
 refine AF Tryd.func18 rfl rfl rfl (fun _ cs0 hb0=>?_)
 refine Ae<|Ax .plain rfl (AL hS0 rfl rfl) (fun g0 c0 b0 d0=>?_)
 refine Af rfl<|Aa<|Ae<|Af rfl<|Aa<|Ao rfl<|AK hb0 Tryd.func18 rfl rfl ?_
 cases h
 exact b0.gv
def stab1:List UInt8:=[0,1,1,2,1,2,2,3,1,2,2,3,2,3,3,4,1,2,2,3,2,3,3,4,2,3,3,4,3,4,4,5,1,2,2,3,2,3,3,4,2,3,3,4,3,4,4,5,2,3,3,4,3,4,4,5,3,4,4,5,4,5,5,6,1,2,2,3,2,3,3,4,2,3,3,4,3,4,4,5,2,3,3,4,3,4,4,5,3,4,4,5,4,5,5,6,2,3,3,4,3,4,4,5,3,4,4,5,4,5,5,6,3,4,4,5,4,5,5,6,4,5,5,6,5,6,6,7,1,2,2,3,2,3,3,4,2,3,3,4,3,4,4,5,2,3,3,4,3,4,4,5,3,4,4,5,4,5,5,6,2,3,3,4,3,4,4,5,3,4,4,5,4,5,5,6,3,4,4,5,4,5,5,6,4,5,5,6,5,6,6,7,2,3,3,4,3,4,4,5,3,4,4,5,4,5,5,6,3,4,4,5,4,5,5,6,4,5,5,6,5,6,6,7,3,4,4,5,4,5,5,6,4,5,5,6,5,6,6,7,4,5,5,6,5,6,6,7,5,6,6,7,6,7,7,8]
def math_bits_OnesCount8_p (_n:Nat) (a0:UInt8):Option Int:=
  (stab1[a0.toNat]?).bind fun z1=>some ((z1.toNat:Nat):Int)
theorem math_bits_OnesCount8_c (n:Nat) (L:List Nat) (w:World) (_hL:∀ b ∈ L,b < w.heap.size) (a0:UInt8)  {r:Int} (h:math_bits_OnesCount8_p n a0 = some r) :
    Calls Tryd.prog 33 #[.int .u8 (a0.toNat:Int)] w (Gives w fun _ u=>u = vI r):=by
 unfold math_bits_OnesCount8_p at h
 have hS0:=AC w
 refine AF Tryd.func33 rfl rfl rfl (fun _ cs0 hb0=>?_)
 refine Ae<|Af rfl<|Aa<|Ae<|Ab rfl ?_
 obtain ⟨z1,hz1,h⟩:=bi h
 refine Ac (FV.strIdx (k:=a0.toNat) (tab:=stab1) Tryd.underlying9 rfl rfl rfl rfl hz1) ?_
 have hu2:=z1.toNat_lt
 refine Ac (FV.convN (i:=z1.toNat) Tryd.underlying5 Tryd.underlying3 rfl (by omega))<|Af rfl<|Aa<|Ao rfl<|AK hb0 Tryd.func33 rfl rfl ?_
 cases h
 exact hS0.gv
theorem body33:bodyB Tryd.prog 33 = true:=by kernel_rfl
def split_parent_pieces_p (n:Nat) (a0:Tparent):Option Int:=
  (math_bits_OnesCount8_p n a0.fl).bind fun b0=>some b0
theorem split_parent_pieces_c (n:Nat) (L:List Nat) (w:World) (hL:∀ b ∈ L,b < w.heap.size) (a0:Tparent)  {r:Int} (h:split_parent_pieces_p n a0 = some r) :
    Calls Tryd.prog 19 #[.agg #[vI a0.fv,vI a0.fu,.int .u8 (a0.fl.toNat:Int)]] w (Gives w fun _ u=>u = vI r):=by
 unfold split_parent_pieces_p at h
 have hS0:=AC w
 refine AF Tryd.func19 rfl rfl rfl (fun _ cs0 hb0=>?_)
 refine Ae<|Ax .plain rfl (AL hS0 rfl rfl) (fun k0 g0 b0 j0=>?_)
 refine Af rfl<|Aa<|Ae<|RG.fa 2 rfl<|Ba rfl ((b0.memA .hd) 2 _ rfl) ?_
 obtain ⟨d0,c0,h⟩:=bi h
 refine RG.cq (vI d0) body33 rfl (e1 rfl) (fun w9 hw9=>math_bits_OnesCount8_c n _ w9 (b0.hL0 hL hw9) a0.fl c0) rfl<|Af rfl<|Aa<|Ao rfl<|AK hb0 Tryd.func19 rfl rfl ?_
 cases h
 exact b0.gv
theorem body16:bodyB Tryd.prog 16 = true:=by kernel_rfl
theorem body17:bodyB Tryd.prog 17 = true:=by kernel_rfl
theorem body18:bodyB Tryd.prog 18 = true:=by kernel_rfl
theorem body19:bodyB Tryd.prog 19 = true:=by kernel_rfl
def split_Pieces_l1 (n:Nat) (j0:(List Tparent) × Int) (d0:Nat × (List Int) → Option (List Int)):Nat × (List Int) → Option (List Int)
  | (b0,c0)=>(if b0 < j0.1.length then (j0.1[b0]?).bind fun g0=>(split_every_p n g0).bind fun p0=>(if p0 = true then (split_parent_pieces_p n g0).bind fun q0=>(app c0 ([q0]:List Int)).bind fun k0=>d0 (b0 + 1,k0) else d0 (b0 + 1,c0)) else some c0)
def split_Pieces_p (n:Nat) (a0:TRoll) (a1:List Int) (a2:Int) (a3:Int):Option ((List Int) × Int):=
  (split_planned_p n a0 a1 a2 a3).bind fun b0=>(if b0.2 = 0 then Option.bind (loopF (split_Pieces_l1 n b0) n (0,([]:List Int))) (fun c0=>some (c0,(0:Int))) else some (([]:List Int),b0.2))
theorem split_Pieces_c (n:Nat) (L:List Nat) (w:World) (hL:∀ b ∈ L,b < w.heap.size) (a0:TRoll) {v0_3:Value} (h0_3:Rep.R w L [v0_3] a0.fo) (a1:List Int) {v1_0:Value} (h1_0:Rep.R w L [v1_0] a1) (a2:Int) (a3:Int)  {r:(List Int) × Int} (h:split_Pieces_p n a0 a1 a2 a3 = some r) :
    Calls Tryd.prog 6 #[.agg #[vI a0.fh,vI a0.fc,vI a0.fe,v0_3],v1_0,vI a2,vI a3] w (Gives w fun w' u=>∃ v0_0:Value,u = .tuple #[v0_0,vI r.2]∧Rep.R w' L [v0_0] r.1):=by
 unfold split_Pieces_p at h
 have hS0:=AC w
 refine AF Tryd.func6 rfl rfl rfl (fun _ cs0 hb0=>?_)
 refine Ae<|Ax .plain rfl (AL hS0 rfl rfl) (fun s2 u0 p0 c2=>?_)
 refine Af rfl<|Af rfl<|Aa<|Ae<|Ac (AI rfl (p0.memA .hd))<|Ab rfl<|Ab rfl<|Ab rfl ?_
 obtain ⟨t0,I1,h⟩:=bi h
 refine AY (fst:=[]) (cap:=[]) .plain body16 rfl (e4 rfl rfl rfl rfl) (fun w9 hw9=>split_planned_c n _ w9 (p0.hL hL hw9) a0 (p0.km h0_3 hw9) a1 (p0.km h1_0 hw9) a2 a3 I1) rfl (fun P1 q2 d1 ⟨K0,hu_,C0⟩=>?_)
 subst hu_
 obtain ⟨q0,g2⟩:=p0.agr d1
 refine Ab rfl<|Ac (Aj rfl rfl)<|Ac (Aj rfl rfl)<|Af rfl<|Af rfl<|Aa<|Am<|Ae<|Ab rfl<|Ac (FV.neq (i:=t0.2) (j:=0) rfl rfl)<|Aa<|MX.ifn rfl h (fun Q0 h=>?_) (fun Q0 h=>?_)
 refine Aq<|Ae<|Ab rfl<|AW (fst:=[]) (cap:=[]) (vs:=[K0,.func (.func 18) #[] #[],.func (.func 19) #[] #[]]) .plain body17 Tryd.func17 rfl rfl rfl rfl (e3 rfl rfl rfl) rfl (fun b2 g1 k2=>?_)
 refine Ae<|Af rfl<|Aa<|Am<|Ae<|Ab rfl ?_
 have j2:t0.1.length ≤ 281474976710656:=Rep.lenle C0
 refine Ac (FV.len (xs:=t0.1) Tryd.underlying51 rfl C0)<|Ab rfl<|Aa<|Au ?_
 have E0:=q0.nilRow 3 (Rep.size Int)
 have c1:=St.nilRowT q0 3 (Rep.size Int)
 have p1:=Az (cs:=[]) (xs:=([]:List Int)) E0 L (AB _ _)
 obtain ⟨p2,A1,s1⟩:=bind_in2 h
 refine MX.loop (α:=Nat × (List Int) × Value × (List Value)) (fun ⟨b0,d0,c0,g0⟩=>[(1,.func (.func 18) #[] #[]),(2,.func (.func 19) #[] #[]),(6,c0),(9,K0),(10,vI ((t0.1.length:Nat):Int)),(11,vI ((b0:Nat):Int))]) (fun ⟨b0,d0,c0,g0⟩ x0=>St w x0 [.row w.heap.size 3 (Rep.size Int) c0 d0.length g0,.cells u0 [vI a0.fh,vI a0.fc,vI a0.fe,v0_3] 25]∧Tr P1 [.row w.heap.size 3 (Rep.size Int) vN (([]:List Int).length) [],.cells u0 [vI a0.fh,vI a0.fc,vI a0.fe,v0_3] 25] x0 [.row w.heap.size 3 (Rep.size Int) c0 d0.length g0,.cells u0 [vI a0.fh,vI a0.fc,vI a0.fe,v0_3] 25]∧Cells x0 (bl [.row w.heap.size 3 (Rep.size Int) c0 d0.length g0,.cells u0 [vI a0.fh,vI a0.fc,vI a0.fe,v0_3] 25] ++ L) g0 d0) (fun ⟨b0,d0,c0,g0⟩=>(b0,d0)) (0,([]:List Int),vN,[]) A1 ⟨rfl,rfl,rfl,rfl,rfl,rfl,trivial⟩ ⟨E0,AM _ _,p1⟩ ?_
 rintro V1 ⟨b0,d0,c0,g0⟩ x0 D0 ⟨v0,A0,B0⟩ h
 unfold split_Pieces_l1 at h
 try dsimp only at h
 refine Ae<|Ac (FV.lssN (i:=b0) (j:=t0.1.length) rfl rfl)<|Aa<|Am<|AU rfl h (fun M0 h=>?_) (fun M0 h=>?_)
 refine Aq<|Am<|Au<|Ae ?_
 obtain ⟨s0,G1,h⟩:=bi h
 have v1:=AE C0 (Tt c1 A0)
 obtain ⟨U1,Y1,q1,t1,Z1,C1,u1⟩:=Rep.nth v1 G1
 obtain rfl:=op_Tparent C1
 refine Ac (FV.ia 3 b0 rfl q1 rfl rfl t1)<|Ac (AI rfl u1)<|Ax .plain rfl (AO [vI 0,vI 0,.int .u8 0] v0) (fun t2 W1 U0 F0=>?_)
 refine RG.sa [vI s0.fv,vI s0.fu,.int .u8 (s0.fl.toNat:Int)] U0 .hd (onesB rfl) (fun u2 k0 G0=>?_)
 refine Aa<|Ae<|Ab rfl<|Ac (AI rfl (k0.memA .hd)) ?_
 obtain ⟨R1,J1,h⟩:=bi h
 refine RG.cq (.bool R1) body18 rfl (e1 rfl) (fun w9 hw9=>split_every_c n _ w9 (k0.hL0 hL hw9) s0 J1) rfl<|Aa<|MX.ifb rfl h (fun P0 h=>?_) (fun P0 h=>?_)
 refine Al<|Ab rfl<|Ab rfl<|Ac (AI rfl (k0.memA .hd)) ?_
 obtain ⟨j0,K1,h⟩:=bi h
 refine RG.cq (vI j0) body19 rfl (e1 rfl) (fun w9 hw9=>split_parent_pieces_c n _ w9 (k0.hL0 hL hw9) s0 K1) rfl<|Ax .plain rfl (AD (α:=Int) (xs:=([j0]:List Int)) (vs:=[vI j0]) (ds' :=[vI j0]) rfl k0 el27 rfl (e1 rfl) (by kernel_rfl) rfl) (fun v2 X1 y0 Y0=>?_)
 have j1:=Az (cs:=[vI j0]) (xs:=(([j0]:List Int):List Int)) y0 L (Ai (cs:=[vI j0]) (ds:=[]) rfl (AB _ _))
 obtain ⟨Q1,H1,h⟩:=bi h
 have I0:=Tt F0 (Tt G0 Y0)
 have x1:=AJ B0 I0
 refine RG.doesL .plain rfl (DoesL.app (α:=Int) (ys:=([j0]:List Int)) H1 y0 (fun _ _=>(.tl (.tl .hd))) el27 rfl rfl x1 (Src.row (α:=Int) y0 .hd j1)) (fun M1 x2 ⟨R0,V0,Z0,k1⟩=>?_)
 refine Af rfl<|Aa<|Ar<|Al<|Ac (AX (i:=b0) (j:=1) rfl rfl (by omega))<|Ab rfl<|Aa ?_
 obtain ⟨W0,H0⟩:=AA V0 (.one (.tl (.tl .hd)) (.one (.tl (.tl .hd)) .done))
 have y1:=AJ k1 H0
 have B1:=Tt I0 (Tt Z0 H0)
 exact D0 (b0 + 1,Q1,M1,R0) _ _ ⟨rfl,rfl,rfl,rfl,rfl,rfl,trivial⟩ ⟨W0,(Tt A0 B1),y1⟩ h
 refine Aq<|Ar<|Al<|Ac (AX (i:=b0) (j:=1) rfl rfl (by omega))<|Ab rfl<|Aa ?_
 obtain ⟨X0,b1⟩:=AA k0 (.one (.tl .hd) (.one (.tl .hd) .done))
 have J0:=Tt F0 (Tt G0 b1)
 have z1:=AJ B0 J0
 exact D0 (b0 + 1,d0,c0,g0) _ _ ⟨rfl,rfl,rfl,rfl,rfl,rfl,trivial⟩ ⟨X0,(Tt A0 J0),z1⟩ h
 refine AT rfl ?_
 have h:=s1 _ h
 try dsimp only at h
 refine Ae<|Ab rfl<|Af rfl<|Aa<|Ao rfl<|Av (u:=c0) g1 Tryd.func17 rfl (.cons (.tmp rfl) .nil) rfl<|Af rfl<|Af rfl<|Aa<|Ao rfl ?_
 have D1:=AP (α:=Int) v0 .hd B0 hL
 have z0:=St.delS v0 .hd
 have d2:=St.delT v0 .hd
 have E1:=Rep.at_ (α:=Int) (v:=c0) (xs:=d0) z0 L D1
 refine Av hb0 Tryd.func6 rfl (.cons (.tmp rfl) (.cons (.tmp rfl) .nil)) rfl ?_
 cases h
 exact ⟨z0.ag,fun w9 hw9=>⟨c0,rfl,z0.kd E1 hw9⟩⟩
 refine Ae<|Ab rfl<|Af rfl<|Af rfl<|Aa<|Ao rfl ?_
 have F1:=AN (α:=Int) q0 L
 refine Av hb0 Tryd.func6 rfl (.cons (.tmp rfl) (.cons (.tmp rfl) .nil)) rfl ?_
 cases h
 exact ⟨q0.ag,fun w9 hw9=>⟨vN,rfl,q0.kd F1 hw9⟩⟩
def split_Keeps_l1 (n:Nat) (d0:(List Tparent) × Int) (a4:Int) (g0:Nat → Option ((Bool × Int) ⊕ Unit)):Nat → Option ((Bool × Int) ⊕ Unit)
  | b0=>(if b0 < d0.1.length then (d0.1[b0]?).bind fun c0=>(if c0.fv = a4 then (split_parent_pieces_p n c0).bind fun j0=>some (.inl ((decide (j0 = 1)),(0:Int))) else g0 (b0 + 1)) else some (.inr ()))
def split_Keeps_p (n:Nat) (a0:TRoll) (a1:List Int) (a2:Int) (a3:Int) (a4:Int):Option (Bool × Int):=
  (split_planned_p n a0 a1 a2 a3).bind fun b0=>(if b0.2 = 0 then thn (loopF (split_Keeps_l1 n b0 a4) n 0) (fun _=>some (false,(4:Int))) else some (false,b0.2))
theorem split_Keeps_c (n:Nat) (L:List Nat) (w:World) (hL:∀ b ∈ L,b < w.heap.size) (a0:TRoll) {v0_3:Value} (h0_3:Rep.R w L [v0_3] a0.fo) (a1:List Int) {v1_0:Value} (h1_0:Rep.R w L [v1_0] a1) (a2:Int) (a3:Int) (a4:Int)  {r:Bool × Int} (h:split_Keeps_p n a0 a1 a2 a3 a4 = some r) :
    Calls Tryd.prog 7 #[.agg #[vI a0.fh,vI a0.fc,vI a0.fe,v0_3],v1_0,vI a2,vI a3,vI a4] w (Gives w fun _ u=>u = .tuple #[.bool r.1,vI r.2]):=by
 unfold split_Keeps_p at h
 have hS0:=AC w
 refine AF Tryd.func7 rfl rfl rfl (fun _ cs0 hb0=>?_)
 refine Ae<|Ax .plain rfl (AL hS0 rfl rfl) (fun v1 d1 c0 p1=>?_)
 refine Af rfl<|Af rfl<|Aa<|Ae<|Ac (AI rfl (c0.memA .hd))<|Ab rfl<|Ab rfl<|Ab rfl ?_
 obtain ⟨j0,W0,h⟩:=bi h
 refine AY (fst:=[]) (cap:=[]) .plain body16 rfl (e4 rfl rfl rfl rfl) (fun w9 hw9=>split_planned_c n _ w9 (c0.hL hL hw9) a0 (c0.km h0_3 hw9) a1 (c0.km h1_0 hw9) a2 a3 W0) rfl (fun Z0 u1 I0 ⟨Y0,hu_,k0⟩=>?_)
 subst hu_
 obtain ⟨q0,q1⟩:=c0.agr I0
 refine Ab rfl<|Ac (Aj rfl rfl)<|Ac (Aj rfl rfl)<|Af rfl<|Af rfl<|Aa<|Am<|Ae<|Ab rfl<|Ac (FV.neq (i:=j0.2) (j:=0) rfl rfl)<|Aa<|MX.ifn rfl h (fun x0 h=>?_) (fun x0 h=>?_)
 refine Aq<|Am<|Ae<|Ab rfl ?_
 have s1:j0.1.length ≤ 281474976710656:=Rep.lenle k0
 refine Ac (FV.len (xs:=j0.1) Tryd.underlying51 rfl k0)<|Ab rfl<|Aa<|Au ?_
 obtain ⟨B0,E0⟩:=AA q0 .done
 obtain ⟨t1,Q0,u0⟩:=thn_in h
 refine MX.loop (α:=Nat) (fun b0=>[(4,vI a4),(27,Y0),(28,vI ((j0.1.length:Nat):Int)),(29,vI ((b0:Nat):Int))]) (fun b0 p0=>St w p0 []∧Tr Z0 [] p0 []) (fun b0=>b0) 0 Q0 ⟨rfl,rfl,rfl,rfl,trivial⟩ ⟨B0,AM _ _⟩ ?_
 rintro c1 b0 p0 A0 ⟨s0,t0⟩ h
 unfold split_Keeps_l1 at h
 try dsimp only at h
 refine Ae<|Ac (FV.lssN (i:=b0) (j:=j0.1.length) rfl rfl)<|Aa<|Am<|AU rfl h (fun y0 h=>?_) (fun y0 h=>?_)
 refine Aq<|Am<|Au<|Ae ?_
 obtain ⟨g0,V0,h⟩:=bi h
 have P0:=AE k0 (Tt E0 t0)
 obtain ⟨b1,j1,J0,K0,k1,U0,M0⟩:=Rep.nth P0 V0
 obtain rfl:=op_Tparent U0
 refine Ac (FV.ia 3 b0 rfl J0 rfl rfl K0)<|Ac (AI rfl M0)<|Ax .plain rfl (AO [vI 0,vI 0,.int .u8 0] s0) (fun x1 g1 C0 F0=>?_)
 refine RG.sa [vI g0.fv,vI g0.fu,.int .u8 (g0.fl.toNat:Int)] C0 .hd (onesB rfl) (fun y1 d0 G0=>?_)
 refine Aa<|Ae<|RG.fa 0 rfl<|Ba rfl ((d0.memA .hd) 0 _ rfl)<|Ab rfl<|Ac (FV.eql (i:=g0.fv) (j:=a4) rfl rfl)<|Aa<|AU rfl h (fun z0 h=>?_) (fun z0 h=>?_)
 refine Ae<|Ac (AI rfl (d0.memA .hd)) ?_
 obtain ⟨v0,X0,h⟩:=bi h
 refine RG.cq (vI v0) body19 rfl (e1 rfl) (fun w9 hw9=>split_parent_pieces_c n _ w9 (d0.hL0 hL hw9) g0 X0) rfl<|Ac (FV.eql (i:=v0) (j:=1) rfl rfl)<|Af rfl<|Af rfl<|Aa ?_
 have h:=thn_inl h u0
 refine Ao rfl<|Av hb0 Tryd.func7 rfl (.cons (.tmp rfl) (.cons (.tmp rfl) .nil)) rfl ?_
 cases h
 exact d0.gv
 refine Aq<|Ar<|Al<|Ac (AX (i:=b0) (j:=1) rfl rfl (by omega))<|Ab rfl<|Aa ?_
 obtain ⟨D0,H0⟩:=AA d0 .done
 have R0:=Tt F0 (Tt G0 H0)
 exact A0 (b0 + 1) _ _ ⟨rfl,rfl,rfl,rfl,trivial⟩ ⟨D0,(Tt t0 R0)⟩ h
 refine AT rfl ?_
 have h:=thn_inr h u0
 try dsimp only at h
 refine Ae<|Af rfl<|Af rfl<|Aa<|Ao rfl<|Av hb0 Tryd.func7 rfl (.cons (.tmp rfl) (.cons (.tmp rfl) .nil)) rfl ?_
 cases h
 exact s0.gv
 refine Ae<|Ab rfl<|Af rfl<|Af rfl<|Aa<|Ao rfl<|Av hb0 Tryd.func7 rfl (.cons (.tmp rfl) (.cons (.tmp rfl) .nil)) rfl ?_
 cases h
 exact q0.gv
def split_Forced_1_p (_n:Nat) (a0:Tparent) (a1:Int):Option Bool:=
  some (decide (a1 < a0.fu))
theorem split_Forced_1_c (n:Nat) (L:List Nat) (w:World) (_hL:∀ b ∈ L,b < w.heap.size) (a0:Tparent) (a1:Int) {p1:Nat} (m1:∀ j9 v9,([vI a1]:List Value)[j9]? = some v9 → w.cell? ((⟨p1,0,none⟩:Addr).add j9) = some v9)  {r:Bool} (h:split_Forced_1_p n a0 a1 = some r) :
    Calls Tryd.prog 22 #[.agg #[vI a0.fv,vI a0.fu,.int .u8 (a0.fl.toNat:Int)],.pointer (some ⟨p1,0,none⟩)] w (Gives w fun _ u=>u = .bool r):=by
 unfold split_Forced_1_p at h
 have hS0:=AC w
 refine AF Tryd.func22 rfl rfl rfl (fun _ cs0 hb0=>?_)
 refine Ae<|Ax .plain rfl (AL hS0 rfl rfl) (fun g0 c0 b0 d0=>?_)
 refine Af rfl<|Aa<|Ae<|RG.fa 1 rfl<|Ba rfl ((b0.memA .hd) 1 _ rfl)<|Ba rfl ((fun j9 v9 h9=>b0.ag.cell0 (m1 j9 v9 h9)) 0 _ rfl)<|Ac (FV.gtr (i:=a0.fu) (j:=a1) rfl rfl)<|Af rfl<|Aa<|Ao rfl<|AK hb0 Tryd.func22 rfl rfl ?_
 cases h
 exact b0.gv
def split_name_p (_n:Nat) (a0:Tparent):Option Int:=
  some a0.fv
theorem split_name_c (n:Nat) (L:List Nat) (w:World) (_hL:∀ b ∈ L,b < w.heap.size) (a0:Tparent)  {r:Int} (h:split_name_p n a0 = some r) :
    Calls Tryd.prog 23 #[.agg #[vI a0.fv,vI a0.fu,.int .u8 (a0.fl.toNat:Int)]] w (Gives w fun _ u=>u = vI r):=by
 unfold split_name_p at h
 have hS0:=AC w
 refine AF Tryd.func23 rfl rfl rfl (fun _ cs0 hb0=>?_)
 refine Ae<|Ax .plain rfl (AL hS0 rfl rfl) (fun g0 c0 b0 d0=>?_)
 refine Af rfl<|Aa<|Ae<|RG.fa 0 rfl<|Ba rfl ((b0.memA .hd) 0 _ rfl)<|Af rfl<|Aa<|Ao rfl<|AK hb0 Tryd.func23 rfl rfl ?_
 cases h
 exact b0.gv
theorem body22:bodyB Tryd.prog 22 = true:=by kernel_rfl
theorem body23:bodyB Tryd.prog 23 = true:=by kernel_rfl
def split_Forced_l1 (n:Nat) (j0:List Tparent) (a2:Int) (d0:Nat × (List Int) → Option (List Int)):Nat × (List Int) → Option (List Int)
  | (b0,c0)=>(if b0 < j0.length then (j0[b0]?).bind fun g0=>(split_Forced_1_p n g0 a2).bind fun p0=>(if p0 = true then (split_name_p n g0).bind fun q0=>(app c0 ([q0]:List Int)).bind fun k0=>d0 (b0 + 1,k0) else d0 (b0 + 1,c0)) else some c0)
def split_Forced_p (n:Nat) (a0:TRoll) (a1:Int) (a2:Int):Option ((List Int) × Int):=
  (split_seen_p n a0 a1).bind fun b0=>(if b0.2 = 0 then (split_view_parents_p n b0.1 ([]:List Int)).bind fun d0=>Option.bind (loopF (split_Forced_l1 n d0 a2) n (0,([]:List Int))) (fun c0=>some (c0,(0:Int))) else some (([]:List Int),b0.2))
theorem split_Forced_c (n:Nat) (L:List Nat) (w:World) (hL:∀ b ∈ L,b < w.heap.size) (a0:TRoll) {v0_3:Value} (h0_3:Rep.R w L [v0_3] a0.fo) (a1:Int) (a2:Int)  {r:(List Int) × Int} (h:split_Forced_p n a0 a1 a2 = some r) :
    Calls Tryd.prog 8 #[.agg #[vI a0.fh,vI a0.fc,vI a0.fe,v0_3],vI a1,vI a2] w (Gives w fun w' u=>∃ v0_0:Value,u = .tuple #[v0_0,vI r.2]∧Rep.R w' L [v0_0] r.1):=by
 unfold split_Forced_p at h
 have hS0:=AC w
 refine AF Tryd.func8 rfl rfl rfl (fun _ cs0 hb0=>?_)
 refine Ae<|Ax .plain rfl (AL hS0 rfl rfl) (fun P2 v0 c1 C2=>?_)
 refine Ax .plain rfl (AL c1 rfl rfl) (fun Q2 j0 z0 D2=>?_)
 refine Af rfl<|Af rfl<|Aa<|Ae<|Ac (AI rfl (z0.memA (.tl .hd)))<|Ab rfl ?_
 obtain ⟨b0,j2,h⟩:=bi h
 refine AY (fst:=[]) (cap:=[]) .plain body20 rfl (e2 rfl rfl) (fun w9 hw9=>split_seen_c n _ w9 (z0.hL hL hw9) a0 (z0.km h0_3 hw9) a1 j2) rfl (fun X2 M2 y1 ⟨t0,hu_,V0⟩=>?_)
 subst hu_
 obtain ⟨p1,F2⟩:=z0.agr y1
 refine Ab rfl<|Ac (Aj rfl rfl)<|Ac (Aj rfl rfl)<|Ax .plain rfl (AO [vI 0,vI 0,vI 0,vN,vI 0] p1) (fun Y2 x0 q1 Q0=>?_)
 have P1:=AE V0 Q0
 refine RG.sa [vI b0.1.fj.fh,vI b0.1.fj.fc,vI b0.1.fj.fe,t0,vI b0.1.fm] q1 .hd (o5 rfl rfl rfl (Rep.o1 P1) rfl) (fun Z2 s0 v1=>?_)
 refine Af rfl<|Aa<|Am<|Ae<|Ab rfl<|Ac (FV.neq (i:=b0.2) (j:=0) rfl rfl)<|Aa<|MX.ifn rfl h (fun Z0 h=>?_) (fun Z0 h=>?_)
 refine Aq<|Ae<|Ac (AI rfl (s0.memA .hd)) ?_
 have Z1:=AN (α:=Int) s0 L
 obtain ⟨B0,k2,h⟩:=bi h
 have Q1:=AE V0 (Tt Q0 v1)
 refine AY (fst:=[]) (cap:=[]) .plain body21 rfl (e2 rfl rfl) (fun w9 hw9=>split_view_parents_c n _ w9 (s0.hL hL hw9) b0.1 (Aw Q1 hw9) ([]:List Int) (Aw Z1 hw9) k2) rfl (fun q2 W0 z1 ⟨K2,hu_,G0⟩=>?_)
 subst hu_
 obtain ⟨I0,G2⟩:=s0.agr z1
 refine Ac (FV.makeFunc (vs:=[]) (us:=[vP j0]) evs_nil (e1 rfl))<|AW (fst:=[]) (cap:=[]) (vs:=[W0,.func (.func 22) #[] #[vP j0],.func (.func 23) #[] #[]]) .plain body17 Tryd.func17 rfl rfl rfl rfl (e3 rfl rfl rfl) rfl (fun B2 A1 I2=>?_)
 refine Ae<|Af rfl<|Aa<|Am<|Ae<|Ab rfl ?_
 have H2:B0.length ≤ 281474976710656:=Rep.lenle G0
 refine Ac (FV.len (xs:=B0) Tryd.underlying51 rfl G0)<|Ab rfl<|Aa<|Au ?_
 have J0:=I0.nilRow 3 (Rep.size Int)
 have x1:=St.nilRowT I0 3 (Rep.size Int)
 have D1:=Az (cs:=[]) (xs:=([]:List Int)) J0 L (AB _ _)
 obtain ⟨J2,R1,F1⟩:=bind_in2 h
 refine MX.loop (α:=Nat × (List Int) × Value × (List Value)) (fun ⟨c0,g0,d0,k0⟩=>[(1,.func (.func 22) #[] #[vP j0]),(2,.func (.func 23) #[] #[]),(6,d0),(9,W0),(10,vI ((B0.length:Nat):Int)),(11,vI ((c0:Nat):Int))]) (fun ⟨c0,g0,d0,k0⟩ A0=>St w A0 [.row w.heap.size 3 (Rep.size Int) d0 g0.length k0,.cells x0 [vI b0.1.fj.fh,vI b0.1.fj.fc,vI b0.1.fj.fe,t0,vI b0.1.fm] 61,.cells j0 [vI a2] 3,.cells v0 [vI a0.fh,vI a0.fc,vI a0.fe,v0_3] 25]∧Tr q2 [.row w.heap.size 3 (Rep.size Int) vN (([]:List Int).length) [],.cells x0 [vI b0.1.fj.fh,vI b0.1.fj.fc,vI b0.1.fj.fe,t0,vI b0.1.fm] 61,.cells j0 [vI a2] 3,.cells v0 [vI a0.fh,vI a0.fc,vI a0.fe,v0_3] 25] A0 [.row w.heap.size 3 (Rep.size Int) d0 g0.length k0,.cells x0 [vI b0.1.fj.fh,vI b0.1.fj.fc,vI b0.1.fj.fe,t0,vI b0.1.fm] 61,.cells j0 [vI a2] 3,.cells v0 [vI a0.fh,vI a0.fc,vI a0.fe,v0_3] 25]∧Cells A0 (bl [.row w.heap.size 3 (Rep.size Int) d0 g0.length k0,.cells x0 [vI b0.1.fj.fh,vI b0.1.fj.fc,vI b0.1.fj.fe,t0,vI b0.1.fm] 61,.cells j0 [vI a2] 3,.cells v0 [vI a0.fh,vI a0.fc,vI a0.fe,v0_3] 25] ++ L) k0 g0) (fun ⟨c0,g0,d0,k0⟩=>(c0,g0)) (0,([]:List Int),vN,[]) R1 ⟨rfl,rfl,rfl,rfl,rfl,rfl,trivial⟩ ⟨J0,AM _ _,D1⟩ ?_
 rintro v2 ⟨c0,g0,d0,k0⟩ A0 H0 ⟨y0,E0,F0⟩ h
 unfold split_Forced_l1 at h
 try dsimp only at h
 refine Ae<|Ac (FV.lssN (i:=c0) (j:=B0.length) rfl rfl)<|Aa<|Am<|AU rfl h (fun X0 h=>?_) (fun X0 h=>?_)
 refine Aq<|Am<|Au<|Ae ?_
 obtain ⟨u0,b2,h⟩:=bi h
 have I1:=AE G0 (Tt x1 E0)
 obtain ⟨u2,z2,E1,G1,A2,V1,H1⟩:=Rep.nth I1 b2
 obtain rfl:=op_Tparent V1
 refine Ac (FV.ia 3 c0 rfl E1 rfl rfl G1)<|Ac (AI rfl H1)<|Ax .plain rfl (AO [vI 0,vI 0,.int .u8 0] y0) (fun R2 x2 d1 K0=>?_)
 refine RG.sa [vI u0.fv,vI u0.fu,.int .u8 (u0.fl.toNat:Int)] d1 .hd (onesB rfl) (fun U2 q0 M0=>?_)
 refine Aa<|Ae<|Ab rfl<|Ac (AI rfl (q0.memA .hd)) ?_
 obtain ⟨t2,d2,h⟩:=bi h
 refine RG.callq' (v:=.bool t2) (fst:=[]) (cap:=[vP j0]) .plain body22 rfl (e1 rfl) (fun w9 hw9=>split_Forced_1_c n _ w9 (q0.hL0 hL hw9) u0 a2 (fun j9 v9 h9=>hw9.cell0 ((q0.memA (.tl (.tl (.tl .hd)))) j9 v9 h9)) d2) rfl<|Aa<|MX.ifb rfl h (fun Y0 h=>?_) (fun Y0 h=>?_)
 refine Al<|Ab rfl<|Ab rfl<|Ac (AI rfl (q0.memA .hd)) ?_
 obtain ⟨p0,g2,h⟩:=bi h
 refine RG.cq (vI p0) body23 rfl (e1 rfl) (fun w9 hw9=>split_name_c n _ w9 (q0.hL0 hL hw9) u0 g2) rfl<|Ax .plain rfl (AD (α:=Int) (xs:=([p0]:List Int)) (vs:=[vI p0]) (ds' :=[vI p0]) rfl q0 el27 rfl (e1 rfl) (by kernel_rfl) rfl) (fun V2 y2 C0 s1=>?_)
 have B1:=Az (cs:=[vI p0]) (xs:=(([p0]:List Int):List Int)) C0 L (Ai (cs:=[vI p0]) (ds:=[]) rfl (AB _ _))
 obtain ⟨s2,c2,h⟩:=bi h
 have R0:=Tt K0 (Tt M0 s1)
 have J1:=AJ F0 R0
 refine RG.doesL .plain rfl (DoesL.app (α:=Int) (ys:=([p0]:List Int)) c2 C0 (fun _ _=>(.tl (.tl .hd))) el27 rfl rfl J1 (Src.row (α:=Int) C0 .hd B1)) (fun p2 W2 ⟨b1,g1,t1,C1⟩=>?_)
 refine Af rfl<|Aa<|Ar<|Al<|Ac (AX (i:=c0) (j:=1) rfl rfl (by omega))<|Ab rfl<|Aa ?_
 obtain ⟨j1,P0⟩:=AA g1 (.one (.tl (.tl .hd)) (.one (.tl (.tl .hd)) (.one (.tl (.tl .hd)) (.one (.tl (.tl .hd)) .done))))
 have K1:=AJ C1 P0
 have U1:=Tt R0 (Tt t1 P0)
 exact H0 (c0 + 1,s2,p2,b1) _ _ ⟨rfl,rfl,rfl,rfl,rfl,rfl,trivial⟩ ⟨j1,(Tt E0 U1),K1⟩ h
 refine Aq<|Ar<|Al<|Ac (AX (i:=c0) (j:=1) rfl rfl (by omega))<|Ab rfl<|Aa ?_
 obtain ⟨k1,u1⟩:=AA q0 (.one (.tl .hd) (.one (.tl .hd) (.one (.tl .hd) (.one (.tl .hd) .done))))
 have U0:=Tt K0 (Tt M0 u1)
 have M1:=AJ F0 U0
 exact H0 (c0 + 1,g0,d0,k0) _ _ ⟨rfl,rfl,rfl,rfl,rfl,rfl,trivial⟩ ⟨k1,(Tt E0 U0),M1⟩ h
 refine AT rfl ?_
 have h:=F1 _ h
 try dsimp only at h
 refine Ae<|Ab rfl<|Af rfl<|Aa<|Ao rfl<|Av (u:=d0) A1 Tryd.func17 rfl (.cons (.tmp rfl) .nil) rfl<|Af rfl<|Af rfl<|Aa<|Ao rfl ?_
 have W1:=AP (α:=Int) y0 .hd F0 hL
 have D0:=St.delS y0 .hd
 have E2:=St.delT y0 .hd
 have X1:=Rep.at_ (α:=Int) (v:=d0) (xs:=g0) D0 L W1
 refine Av hb0 Tryd.func8 rfl (.cons (.tmp rfl) (.cons (.tmp rfl) .nil)) rfl ?_
 cases h
 exact ⟨D0.ag,fun w9 hw9=>⟨d0,rfl,D0.kd X1 hw9⟩⟩
 refine Ae<|Ab rfl<|Af rfl<|Af rfl<|Aa<|Ao rfl ?_
 have Y1:=AN (α:=Int) s0 L
 refine Av hb0 Tryd.func8 rfl (.cons (.tmp rfl) (.cons (.tmp rfl) .nil)) rfl ?_
 cases h
 exact ⟨s0.ag,fun w9 hw9=>⟨vN,rfl,s0.kd Y1 hw9⟩⟩
def split_people_p (_n:Nat) (a0:Tparent):Option Int:=
  some a0.fu
theorem split_people_c (n:Nat) (L:List Nat) (w:World) (_hL:∀ b ∈ L,b < w.heap.size) (a0:Tparent)  {r:Int} (h:split_people_p n a0 = some r) :
    Calls Tryd.prog 25 #[.agg #[vI a0.fv,vI a0.fu,.int .u8 (a0.fl.toNat:Int)]] w (Gives w fun _ u=>u = vI r):=by
 unfold split_people_p at h
 have hS0:=AC w
 refine AF Tryd.func25 rfl rfl rfl (fun _ cs0 hb0=>?_)
 refine Ae<|Ax .plain rfl (AL hS0 rfl rfl) (fun g0 c0 b0 d0=>?_)
 refine Af rfl<|Aa<|Ae<|RG.fa 1 rfl<|Ba rfl ((b0.memA .hd) 1 _ rfl)<|Af rfl<|Aa<|Ao rfl<|AK hb0 Tryd.func25 rfl rfl ?_
 cases h
 exact b0.gv
end Go.Proofs.YtfncplndfpgngaaDoor
