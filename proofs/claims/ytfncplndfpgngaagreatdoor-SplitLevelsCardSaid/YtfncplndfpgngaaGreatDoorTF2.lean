/- Functions of the program, and what they give: part 2. -/
import Derived.Test.YtfncplndfpgngaaGreatDoorTF1
namespace Go.Proofs.YtfncplndfpgngaaGreatDoor
open Go Go.RowKit
set_option maxRecDepth 4000
set_option maxHeartbeats 4000000

def tb74_1:List (Nat × Nat × Nat):=[(0,16384,1),(1,32768,16384),(2,65536,32768),(4,131072,65536),(0,262144,4),(16,524288,262144),(40,1048576,655360),(127,2097152,16384),(255,4194304,2097152),(383,0,5242880)]
def tb100_4:List (Nat × Nat × Nat):=[(0,262144,512),(0,524288,2),(3,1048576,786432),(4,2097152,1048576),(8,4194304,2097160),(8,8388608,2097153),(8,16777216,2097664),(104,33554432,27262976),(136,67108864,35651584),(8,134217728,2097153),(8,268435456,2097664),(1032,536870912,270532608),(2568,1073741824,673185792),(4104,2147483648,1075838976),(8472,4294967296,2220883968),(16392,8589934592,4297064448),(32776,17179869184,8592031744)]
def tb100_6:List (Nat × Nat × Nat):=[(0,137438953472,1),(0,274877906944,512),(0,549755813888,1),(0,1099511627776,512),(8,2199023255552,1099511627776),(0,4398046511104,1),(0,8796093022208,512),(64,17592186044416,8796093022208),(160,35184372088832,21990232555520),(256,70368744177664,35184372088832),(0,140737488355328,1),(0,281474976710656,512),(3072,562949953421312,422212465065984),(4096,1125899906842624,562949953421312),(9187,2251799813685248,412316860416),(25571,0,2322168557862912),(65535,4503599627370496,2748779069440),(131071,0,5629499534213120)]
def bx_Tparent (x:Tparent):List Value:=[vI x.fA,vI x.fy,.int .u8 (x.fq.toNat:Int)]
theorem op_Tparent {w:World} {L:List Nat} {cs:List Value} {x:Tparent} (h:Rep.R w L cs x):cs = [vI x.fA,vI x.fy,.int .u8 (x.fq.toNat:Int)]:=by
  obtain ⟨c0,r0,rfl,h0,h⟩:=h
  have e0:c0 = [vI x.fA]:=h0; subst e0
  obtain ⟨c1,r1,rfl,h1,h⟩:=h
  have e1:c1 = [vI x.fy]:=h1; subst e1
  have e2:r1 = [.int .u8 (x.fq.toNat:Int)]:=h; subst e2
  rfl
theorem mk_Tparent {w:World} {L:List Nat} (a0:Int) (a1:Int) (a2:UInt8):Rep.R w L [vI a0,vI a1,.int .u8 (a2.toNat:Int)] (⟨a0,a1,a2⟩:Tparent):=⟨[vI a0],[vI a1,.int .u8 (a2.toNat:Int)],rfl,rfl,⟨[vI a1],[.int .u8 (a2.toNat:Int)],rfl,rfl,rfl⟩⟩
theorem el83:ElT Tryz.prog 83 90 (Rep.size Tparent) 24 (.agg #[vI 0,vI 0,.int .u8 0]) [vI 0,vI 0,.int .u8 0]:=⟨Tryz.underlying83,by kernel_rfl,rfl,rfl,rfl,rfl⟩
theorem body62:bodyB Tryz.prog 62 = true:=by kernel_rfl
theorem body74:bodyB Tryz.prog 74 = true:=by kernel_rfl
theorem body75:bodyB Tryz.prog 75 = true:=by kernel_rfl
theorem body76:bodyB Tryz.prog 76 = true:=by kernel_rfl
theorem body78:bodyB Tryz.prog 78 = true:=by kernel_rfl
theorem body91:bodyB Tryz.prog 91 = true:=by kernel_rfl
theorem body100:bodyB Tryz.prog 100 = true:=by kernel_rfl
def split_view_parents_l1 (n:Nat) (p0:Nat) (k0:Int × (List Tparent) → Option (List Tparent)):Int × (List Tparent) → Option (List Tparent)
  | (b0,c0)=>(if ((p0:Nat):Int) < b0 then (idx c0 b0).bind fun g0=>(chk (b0 - 1)).bind fun q0=>(idx c0 q0).bind fun u0=>(split_view_parents_1_p n g0 u0).bind fun y0=>(if y0 < 0 then (chk (b0 - 1)).bind fun d0=>(chk (b0 - 1)).bind fun s0=>(idx c0 s0).bind fun v0=>(put c0 ((b0.toNat:Nat):Int) v0).bind fun j0=>(idx j0 d0).bind fun _x2802=>(put j0 ((d0.toNat:Nat):Int) g0).bind fun x0=>(chk (b0 - 1)).bind fun t0=>k0 (t0,x0) else some c0) else some c0)
def split_view_parents_l2 (n:Nat) (k0:Nat) (j0:Nat) (d0:Int × (List Tparent) → Option (List Tparent)):Int × (List Tparent) → Option (List Tparent)
  | (b0,c0)=>(if b0 < ((k0:Nat):Int) then jn (fun q0=>(chk (b0 + 1)).bind fun p0=>d0 (p0,q0)) (fun g0=>Option.bind (loopF (split_view_parents_l1 n j0) n (b0,c0)) (g0)) else some c0)
def split_view_parents_l3 (n:Nat) (p0:List Tparent) (_J1608:Nat × Nat × Int × Bool × Bool → Option (List Tparent)):Nat × Nat × Int × Bool × Bool → Option (List Tparent)
  | (b0,c0,q0,d0,_q1602)=>(chk (((c0:Nat):Int) - ((b0:Nat):Int))).bind fun g0=>(if g0 ≤ 12 then (chk (((b0:Nat):Int) + 1)).bind fun j0=>Option.bind (loopF (split_view_parents_l2 n c0 b0) n (j0,p0)) (fun k0=>some k0) else (if q0 = 0 then none else (if d0 = true then none else none)))
def split_view_parents_b762 (_n:Nat) (c0:Int × Tparent) (b0:(List Tparent) → Option (List Tparent)):(List Tparent) → Option (List Tparent)
  | g0=>(app g0 ([c0.2]:List Tparent)).bind fun d0=>b0 d0
def split_view_parents_l4 (_n:Nat) (a0:Tview) (a1:List Int) (j0:Nat × (List (Int × Tparent)) → Option (List (Int × Tparent))):Nat × (List (Int × Tparent)) → Option (List (Int × Tparent))
  | (b0,c0)=>(if b0 < a0.fj.fm.length then (a0.fj.fm[b0]?).bind fun d0=>(if d0.fo = true then j0 (b0 + 1,c0) else (idx d0.fw a0.fu).bind fun g0=>pcase (mget c0 g0) (jn (fun z0=>(chk (0 + d0.fp)).bind fun u0=>(natOf z0).bind fun s0=>j0 (b0 + 1,mset c0 g0 (⟨g0,u0,(0:UInt8) ||| (shl8 (1:UInt8) s0)⟩:Tparent))) (fun p0=>(if 0 < a1.length then (a1[b0]?).bind fun x0=>p0 x0 else p0 0))) (fun k0=>jn (fun A0=>(chk (k0.fy + d0.fp)).bind fun v0=>(natOf A0).bind fun t0=>j0 (b0 + 1,mset c0 g0 (⟨k0.fA,v0,k0.fq ||| (shl8 (1:UInt8) t0)⟩:Tparent))) (fun q0=>(if 0 < a1.length then (a1[b0]?).bind fun y0=>q0 y0 else q0 0)))) else some c0)
def split_view_parents_p (n:Nat) (a0:Tview) (a1:List Int):Option (List Tparent):=
  Option.bind (loopF (split_view_parents_l4 n a0 a1) n (0,([]:List (Int × Tparent)))) (fun c0=>mloop (fun b0=>(math_bits_Len_p n (u64of ((b0.length:Nat):Int))).bind fun d0=>loopF (split_view_parents_l3 n b0) n (0,b0.length,d0,true,true)) (split_view_parents_b762 n) n c0 ([]:List Tparent))
theorem split_view_parents_c (n:Nat) (L:List Nat) (w:World) (hL:∀ b ∈ L,b < w.heap.size) (a0:Tview) {v0_3:Value} (h0_3:Rep.R w L [v0_3] a0.fj.fm) (a1:List Int) {v1_0:Value} (h1_0:Rep.R w L [v1_0] a1)  {r:List Tparent} (h:split_view_parents_p n a0 a1 = some r) :
    Calls Tryz.prog 55 #[.agg #[vI a0.fj.fe,vI a0.fj.fc,vI a0.fj.fh,v0_3,vI a0.fu],v1_0] w (Gives w fun w' u=>∃ v0_0:Value,u = v0_0∧Rep.R w' L [v0_0] r):=by
 unfold split_view_parents_p at h
 have hS0:=AD w
 refine AI Tryz.func55 rfl rfl rfl (fun _ cs0 hb0=>?_)
 refine Ae<|Az .plain rfl (AK hS0 rfl rfl) (fun w11 q0 s3 M01=>?_)
 have F7:=Bn h1_0 s3
 refine Az .plain rfl (AK s3 rfl (Rep.c1 F7)) (fun w17 t0 k5 P01=>?_)
 refine Af rfl<|Aa<|Ae<|Az .plain rfl (Does.makeMap (κ:=Int) (ν:=Option Nat) k5) (fun p4 c0 p5 K5=>?_)
 have s5:St _ p4 (.obj c0 (mapO (pmD ([]:List ((Int × Tparent) × Nat)))) :: .cells t0 [v1_0] 33 :: .cells q0 [vI a0.fj.fe,vI a0.fj.fc,vI a0.fj.fh,v0_3,vI a0.fu] 97 :: (boxes 90 bx_Tparent ([]:List ((Int × Tparent) × Nat)) ++ [])):=p5
 have Q01:Tr w17 [.cells t0 [v1_0] 33,.cells q0 [vI a0.fj.fe,vI a0.fj.fc,vI a0.fj.fh,v0_3,vI a0.fu] 97] p4 (.obj c0 (mapO (pmD ([]:List ((Int × Tparent) × Nat)))) :: .cells t0 [v1_0] 33 :: .cells q0 [vI a0.fj.fe,vI a0.fj.fc,vI a0.fj.fh,v0_3,vI a0.fu] 97 :: (boxes 90 bx_Tparent ([]:List ((Int × Tparent) × Nat)) ++ [])):=K5
 refine Az .plain rfl (Ba [.map none] s5) (fun w29 x0 v5 U01=>?_)
 refine Bu [.map (some c0)] v5 .hd (o1 rfl) (fun w33 I1 V01=>?_)
 refine Aa<|Aj<|Ae<|Ac (AE rfl (I1.memA (.tl (.tl (.tl .hd)))))<|AQ (fst:=[]) (cap:=[]) .plain body62 rfl (e1 rfl) (fun w9 hw9=>BC (split_view_land_c n _ w9 (I1.hL hL hw9) a0 (I1.km h0_3 hw9)) fun (w8:World) (u8:Value) ⟨b0_,hu_,s_⟩=>(⟨b0_,hu_,s_.from hw9⟩:∃ s0:Nat,u8 = Value.func (.func 78) #[] #[vP s0]∧St w33 w8 [.cells s0 [vI a0.fj.fe,vI a0.fj.fc,vI a0.fj.fh,v0_3,vI a0.fu] 97])) rfl (fun w38 U02 d02 ⟨s0,A9,k4⟩=>?_)
 subst A9
 have x5:=mk_push1 I1 k4
 have W01:=mk_tr1 I1 k4
 refine Aa<|Au<|MX.rangeP (lb:=[vP s0]) rfl x5 rfl body78 Tryz.func78 rfl rfl rfl (fun w45 z0 k0 C0 D01 C2 X01 Z9 B6 u02=>?_)
 refine Ae<|Bf 0 rfl<|Bf 3 rfl<|Ac (AJ rfl ((mem_from (C2.memA (.tl (.tl .hd))) 0) 3 _ rfl)) ?_
 have b4:=Bn h0_3 C2
 have j02:a0.fj.fm.length ≤ 281474976710656:=AO b4
 refine Ac (AZ (xs:=a0.fj.fm) Tryz.underlying36 rfl b4)<|Ab rfl<|Aa<|Au ?_
 obtain ⟨I02,x8,j7⟩:=bind_in2 h
 refine AW (α:=Nat × (List ((Int × Tparent) × Nat))) (fun ⟨H0,b0⟩=>[(0,.func (.yield z0) #[] #[]),(1,vP s0),(7,v0_3),(8,vI ((a0.fj.fm.length:Nat):Int)),(9,vI ((H0:Nat):Int))]) (fun ⟨H0,b0⟩ Y2=>St w Y2 (.obj z0 (lpO C0 .ready none) :: .obj k0 (.deferred (some [])) :: .cells s0 [vI a0.fj.fe,vI a0.fj.fc,vI a0.fj.fh,v0_3,vI a0.fu] 97 :: .cells x0 [.map (some c0)] 120 :: .obj c0 (mapO (pmD b0)) :: .cells t0 [v1_0] 33 :: .cells q0 [vI a0.fj.fe,vI a0.fj.fc,vI a0.fj.fh,v0_3,vI a0.fu] 97 :: (boxes 90 bx_Tparent b0 ++ []))∧Tr w45 (.obj z0 (lpO C0 .ready none) :: .obj k0 (.deferred (some [])) :: .cells s0 [vI a0.fj.fe,vI a0.fj.fc,vI a0.fj.fh,v0_3,vI a0.fu] 97 :: .cells x0 [.map (some c0)] 120 :: .obj c0 (mapO (pmD ([]:List ((Int × Tparent) × Nat)))) :: .cells t0 [v1_0] 33 :: .cells q0 [vI a0.fj.fe,vI a0.fj.fc,vI a0.fj.fh,v0_3,vI a0.fu] 97 :: (boxes 90 bx_Tparent ([]:List ((Int × Tparent) × Nat)) ++ [])) Y2 (.obj z0 (lpO C0 .ready none) :: .obj k0 (.deferred (some [])) :: .cells s0 [vI a0.fj.fe,vI a0.fj.fc,vI a0.fj.fh,v0_3,vI a0.fu] 97 :: .cells x0 [.map (some c0)] 120 :: .obj c0 (mapO (pmD b0)) :: .cells t0 [v1_0] 33 :: .cells q0 [vI a0.fj.fe,vI a0.fj.fc,vI a0.fj.fh,v0_3,vI a0.fu] 97 :: (boxes 90 bx_Tparent b0 ++ []))) (fun ⟨H0,b0⟩=>(H0,(pmM b0))) (0,([]:List ((Int × Tparent) × Nat))) x8 ⟨rfl,rfl,rfl,rfl,rfl,trivial⟩ ⟨C2,AA _ _⟩ ?_
 rintro M00 ⟨H0,b0⟩ Y2 v2 ⟨B2,G2⟩ h
 unfold split_view_parents_l4 at h
 try dsimp only at h
 refine Ae<|Ac (Bg (i:=H0) (j:=a0.fj.fm.length) rfl rfl)<|Aa<|Aj<|AM rfl h (fun R4 h=>?_) (fun R4 h=>?_)
 refine Am<|Aj<|Au<|Ae<|Ab rfl ?_
 obtain ⟨j0,V2,h⟩:=bi h
 have R7:=Bn h0_3 B2
 obtain ⟨A00,g01,R6,t7,B01,V8,Q7⟩:=AS R7 V2
 obtain ⟨K0,M0,P0,rfl,W8,X8,c4⟩:=op_TUnit V8
 refine Ac (AY 6 H0 rfl R6 rfl rfl t7)<|Ac (AE rfl Q7)<|Az .plain rfl (Ba [.string ⟨#[]⟩,vI 0,vN,vN,vN,.bool false] B2) (fun c03 Q0 y5 C1=>?_)
 refine Af rfl ?_
 have U7:=Aw W8 C1
 have V7:=Aw X8 C1
 have W7:=Aw c4 C1
 refine Bu [.string j0.ft,vI j0.fp,K0,M0,P0,.bool j0.fo] y5 .hd (o6 rfl rfl (BI U7) (BI V7) (BI W7) rfl) (fun t4 B1 c2=>?_)
 refine Aa<|Ae<|Bf 5 rfl<|AN rfl ((B1.memA .hd) 5 _ rfl)<|Ac (Be rfl)<|Ab rfl<|RG.ifnb (s:=17) rfl h (fun U4 h=>?_) (fun U4 h=>?_)
 refine Ag<|Ag<|Ag<|Ag<|Ag<|Ag<|Ag<|Ag<|Ag<|Ag<|Bd rfl rfl<|Aa<|Bv rfl<|Am<|Aq<|Al<|Ac (AT (i:=H0) (j:=1) rfl rfl (by omega))<|Ab rfl<|Aa ?_
 have z5:St _ _ (.obj z0 (lpO C0 .ready none) :: .obj k0 (.deferred (some [])) :: .cells s0 [vI a0.fj.fe,vI a0.fj.fc,vI a0.fj.fh,v0_3,vI a0.fu] 97 :: .cells x0 [.map (some c0)] 120 :: .obj c0 (mapO (pmD b0)) :: .cells t0 [v1_0] 33 :: .cells q0 [vI a0.fj.fe,vI a0.fj.fc,vI a0.fj.fh,v0_3,vI a0.fu] 97 :: (boxes 90 bx_Tparent b0 ++ [])):=B1.arr2 (.one (.tl .hd) (.one (.tl .hd) (.one (.tl .hd) (.one (.tl .hd) (.one (.tl .hd) (.one (.tl .hd) (.one (.tl .hd) (.drop .hd .rest))))))))
 have W5:Tr t4 _ t4 (.obj z0 (lpO C0 .ready none) :: .obj k0 (.deferred (some [])) :: .cells s0 [vI a0.fj.fe,vI a0.fj.fc,vI a0.fj.fh,v0_3,vI a0.fu] 97 :: .cells x0 [.map (some c0)] 120 :: .obj c0 (mapO (pmD b0)) :: .cells t0 [v1_0] 33 :: .cells q0 [vI a0.fj.fe,vI a0.fj.fc,vI a0.fj.fh,v0_3,vI a0.fu] 97 :: (boxes 90 bx_Tparent b0 ++ [])):=Tr.arr2 (St.arr2Of B1 (.one (.tl .hd) (.one (.tl .hd) (.one (.tl .hd) (.one (.tl .hd) (.one (.tl .hd) (.one (.tl .hd) (.one (.tl .hd) (.drop .hd .rest)))))))))
 have B8:=Tt C1 (Tt c2 W5)
 exact v2 (H0 + 1,b0) _ _ ⟨rfl,rfl,rfl,rfl,rfl,trivial⟩ ⟨z5,(Tt G2 B8)⟩ h
 refine Ar (Ah rfl)<|Ar (Ah rfl)<|RG.fg 4 rfl<|Ar (AJ rfl ((B1.memA .hd) 4 _ rfl))<|RG.fg 4 rfl<|Ar (AJ rfl ((B1.memA (.tl (.tl (.tl .hd)))) 4 _ rfl)) ?_
 obtain ⟨d0,K9,h⟩:=bi h
 obtain ⟨s7,M9⟩:=idx_in K9
 have Y7:=Aw c4 (Tt C1 c2)
 obtain ⟨B00,j01,U6,u7,Y4,Y8,X7⟩:=AS Y7 M9
 have V6:Y4 = [vI d0]:=Y8; subst V6
 refine Ar (AY 1 (a0.fu.toNat) rfl U6 rfl s7 u7)<|Ar (AJ rfl (X7 0 _ rfl))<|RG.yieldP (fd:=55) (vs:=[vI ((H0:Nat):Int),vI d0]) (.yes rfl rfl) rfl (e2 rfl rfl) B1 (.tl .hd) Z9 rfl rfl rfl (fun C01 J3 t02=>?_)
 refine Ae<|Af rfl<|Aa<|Al<|Af rfl<|Aa<|MX.begin B1 (.tl .hd) (fun j2 J1 H3=>?_)
 refine Au<|Ae<|Ac (AJ rfl ((J1.memA (.tl (.tl (.tl (.tl .hd))))) 0 _ rfl))<|Ab rfl ?_
 rcases pm_get d0 b0 with ⟨M2,H2,x9,Q2⟩ | ⟨A0,g0,u0,B0,Y9,M2,H2,Q2⟩
 have h:=pcase_n h M2
 refine Ac (FV.as (FV.lookup (D:=pmD b0) (kv:=d0) (z:=(none:Option Nat)) J1 (.tl (.tl (.tl (.tl (.tl .hd))))) Tryz.underlying120 Tryz.underlying3 rfl (by kernel_rfl) rfl rfl) (enc_n H2))<|Af rfl<|Aa<|Aj<|Ae<|Ab rfl<|Ac (FV.eqlPtr (A:=none) Tryz.underlying121 rfl rfl)<|Aa<|Bq rfl<|Ae<|Ab rfl<|Ac (Bh (vs:=[vI d0]) (u:=.agg #[vI d0,vI 0,.int .u8 0]) (e1 rfl) (fun w9=>by kernel_rfl))<|Az .plain rfl (AK J1 rfl rfl) (fun d03 G0 x3 X5=>?_)
 refine Af rfl<|Aa<|Al<|Ac (AJ rfl ((x3.memA (.tl (.tl (.tl (.tl (.tl .hd)))))) 0 _ rfl))<|Ab rfl<|Ab rfl<|RG.now .plain (Acts.mapUpdate (D:=pmD b0) (kv:=d0) (vv:=some G0) x3 (.tl (.tl (.tl (.tl (.tl (.tl .hd)))))) Tryz.underlying120 Tryz.underlying3 rfl rfl rfl rfl) (fun t00 K1 Y5=>?_)
 refine Aa<|Ae<|Af rfl<|Aa<|Aj<|Ae<|Ac (AJ rfl ((K1.memA (.tl (.tl (.tl (.tl (.tl (.tl (.tl .hd)))))))) 0 _ rfl)) ?_
 have R2:=Bn h1_0 K1
 have g02:a1.length ≤ 281474976710656:=AO R2
 refine Ac (AZ (xs:=a1) Tryz.underlying33 rfl R2)<|Ac (FV.gtrN (i:=a1.length) (j:=0) rfl rfl)<|Aa<|MX.join (α:=Int) (fun D1=>[(2,vP q0),(6,vI ((H0:Nat):Int)),(8,vP G0),(9,vI D1)]) (fun D1 b3=>St w b3 (.cells G0 [vI d0,vI 0,.int .u8 0] 90 :: .cells Q0 [.string j0.ft,vI j0.fp,K0,M0,P0,.bool j0.fo] 61 :: .obj z0 (lpO C0 .busy none) :: .obj k0 (.deferred (some [])) :: .cells s0 [vI a0.fj.fe,vI a0.fj.fc,vI a0.fj.fh,v0_3,vI a0.fu] 97 :: .cells x0 [.map (some c0)] 120 :: .obj c0 (mapO (mset (pmD b0) d0 (some G0))) :: .cells t0 [v1_0] 33 :: .cells q0 [vI a0.fj.fe,vI a0.fj.fc,vI a0.fj.fh,v0_3,vI a0.fu] 97 :: (boxes 90 bx_Tparent b0 ++ []))∧Tr t00 (.cells G0 [vI d0,vI 0,.int .u8 0] 90 :: .cells Q0 [.string j0.ft,vI j0.fp,K0,M0,P0,.bool j0.fo] 61 :: .obj z0 (lpO C0 .busy none) :: .obj k0 (.deferred (some [])) :: .cells s0 [vI a0.fj.fe,vI a0.fj.fc,vI a0.fj.fh,v0_3,vI a0.fu] 97 :: .cells x0 [.map (some c0)] 120 :: .obj c0 (mapO (mset (pmD b0) d0 (some G0))) :: .cells t0 [v1_0] 33 :: .cells q0 [vI a0.fj.fe,vI a0.fj.fc,vI a0.fj.fh,v0_3,vI a0.fu] 97 :: (boxes 90 bx_Tparent b0 ++ [])) b3 (.cells G0 [vI d0,vI 0,.int .u8 0] 90 :: .cells Q0 [.string j0.ft,vI j0.fp,K0,M0,P0,.bool j0.fo] 61 :: .obj z0 (lpO C0 .busy none) :: .obj k0 (.deferred (some [])) :: .cells s0 [vI a0.fj.fe,vI a0.fj.fc,vI a0.fj.fh,v0_3,vI a0.fu] 97 :: .cells x0 [.map (some c0)] 120 :: .obj c0 (mapO (mset (pmD b0) d0 (some G0))) :: .cells t0 [v1_0] 33 :: .cells q0 [vI a0.fj.fe,vI a0.fj.fc,vI a0.fj.fh,v0_3,vI a0.fu] 97 :: (boxes 90 bx_Tparent b0 ++ []))) (fun D1=>D1) h ?_ ?_
 rintro D1 b3 ⟨X1,Z5⟩ h
 try dsimp only at h
 refine Al<|Ab rfl<|Bf 0 rfl<|Bf 3 rfl<|Ac (AJ rfl ((mem_from (X1.memA (.tl (.tl (.tl (.tl (.tl (.tl (.tl (.tl .hd))))))))) 0) 3 _ rfl))<|Ab rfl ?_
 have b8:=Bn h0_3 X1
 obtain ⟨C00,k01,W6,v7,E01,Z8,Z7⟩:=AS b8 V2
 obtain ⟨J02,K02,M02,rfl,A02,B02,C02⟩:=op_TUnit Z8
 refine Ac (AY 6 H0 rfl W6 rfl rfl v7)<|Bf 1 rfl<|AN rfl (Z7 1 _ rfl)<|Ab rfl<|BE (fst:=[]) (cap:=[]) (vs:=[vP G0,vI j0.fp,vI D1]) .plain body74 Tryz.func74 rfl rfl rfl rfl (e3 rfl rfl rfl) rfl (fun F01 C6 v02=>?_)
 refine Ae<|Ab rfl<|Ac (BB rfl)<|Bf 1 rfl<|AN rfl ((X1.memA .hd) 1 _ rfl)<|Ab rfl ?_
 obtain ⟨U0,y9,h⟩:=bi h
 refine Ac (By (i:=0) (j:=j0.fp) rfl rfl y9)<|Ac (BB rfl)<|Bf 1 rfl<|RG.now .plain (BH (j:=1) (old:=[vI d0,vI 0,.int .u8 0]) (news:=[vI U0]) (new' :=[vI d0,vI U0,.int .u8 0]) X1 .hd rfl rfl rfl rfl rfl rfl (o1 rfl) rfl) (fun g03 y3 b6=>?_)
 refine Aa<|dt 9 tb74_1 (fun k1 x1=>?_)
 refine Ai 0 1 k1 rfl x1 (fun _=>Ah rfl) rfl<|Ai 1 3 k1 rfl x1 (fun _=>BB rfl) rfl<|Ai 2 7 k1 rfl x1 (fun _=>Br 2 rfl) rfl<|AV 3 15 960 k1 rfl x1 (AJ rfl ((y3.memA .hd) 2 _ rfl)) rfl<|Ai 4 31 k1 rfl x1 (fun _=>Ah rfl) rfl ?_
 obtain ⟨V0,x7,h⟩:=bi h
 refine Ai 5 63 k1 rfl x1 (fun _=>FV.shl8I (a:=(1:UInt8)) (i:=D1) rfl rfl x7) rfl<|Ai 6 127 k1 rfl x1 (fun _=>FV.or8 (a:=(0:UInt8)) (b:=shl8 (1:UInt8) V0) rfl rfl) rfl<|Ai 7 255 k1 rfl x1 (fun _=>BB rfl) rfl<|Ai 8 511 k1 rfl x1 (fun _=>Br 2 rfl) rfl<|RD.nw 9 1023 k1 rfl rfl .plain (BH (j:=2) (old:=[vI d0,vI U0,.int .u8 0]) (news:=[.int .u8 (((0:UInt8) ||| (shl8 (1:UInt8) V0)).toNat:Int)]) (new' :=[vI d0,vI U0,.int .u8 (((0:UInt8) ||| (shl8 (1:UInt8) V0)).toNat:Int)]) y3 .hd rfl rfl rfl rfl rfl rfl (o1 rfl) rfl) (fun j03 A5 c6=>?_)
 refine AX (dk k1)<|MX.fin rfl<|AB (u:=.tuple #[]) C6 Tryz.func74 rfl .nil rfl<|Aa<|Aq<|MX.roundEnd J3 A5 (.tl (.tl .hd)) (fun V1 B5 d6=>?_)
 refine Ar (Be rfl)<|AG rfl rfl<|Aa<|Bv rfl<|Am<|Aq<|Al<|Ac (AT (i:=H0) (j:=1) rfl rfl (by omega))<|Ab rfl<|Aa ?_
 obtain ⟨C8,D8⟩:=St.boxNew (Q:=fun D9=>[.cells Q0 [.string j0.ft,vI j0.fp,K0,M0,P0,.bool j0.fo] 61,.obj z0 (lpO C0 .ready none),.obj k0 (.deferred (some [])),.cells s0 [vI a0.fj.fe,vI a0.fj.fc,vI a0.fj.fh,v0_3,vI a0.fu] 97,.cells x0 [.map (some c0)] 120,.obj c0 (mapO D9),.cells t0 [v1_0] 33,.cells q0 [vI a0.fj.fe,vI a0.fj.fc,vI a0.fj.fh,v0_3,vI a0.fu] 97]) (t:=90) (f:=bx_Tparent) (T:=[]) (k:=d0) (y' :=(⟨d0,U0,(0:UInt8) ||| (shl8 (1:UInt8) V0)⟩:Tparent)) (b:=G0) (Z:=b0) (x9 (⟨d0,U0,(0:UInt8) ||| (shl8 (1:UInt8) V0)⟩:Tparent) G0) B5
 have z3:St _ V1 (.cells Q0 [.string j0.ft,vI j0.fp,K0,M0,P0,.bool j0.fo] 61 :: .obj z0 (lpO C0 .ready none) :: .obj k0 (.deferred (some [])) :: .cells s0 [vI a0.fj.fe,vI a0.fj.fc,vI a0.fj.fh,v0_3,vI a0.fu] 97 :: .cells x0 [.map (some c0)] 120 :: .obj c0 (mapO (pmD (b0 ++ [((d0,(⟨d0,U0,(0:UInt8) ||| (shl8 (1:UInt8) V0)⟩:Tparent)),G0)]))) :: .cells t0 [v1_0] 33 :: .cells q0 [vI a0.fj.fe,vI a0.fj.fc,vI a0.fj.fh,v0_3,vI a0.fu] 97 :: (boxes 90 bx_Tparent (b0 ++ [((d0,(⟨d0,U0,(0:UInt8) ||| (shl8 (1:UInt8) V0)⟩:Tparent)),G0)]) ++ [])):=C8
 have g6:Tr V1 _ V1 (.cells Q0 [.string j0.ft,vI j0.fp,K0,M0,P0,.bool j0.fo] 61 :: .obj z0 (lpO C0 .ready none) :: .obj k0 (.deferred (some [])) :: .cells s0 [vI a0.fj.fe,vI a0.fj.fc,vI a0.fj.fh,v0_3,vI a0.fu] 97 :: .cells x0 [.map (some c0)] 120 :: .obj c0 (mapO (pmD (b0 ++ [((d0,(⟨d0,U0,(0:UInt8) ||| (shl8 (1:UInt8) V0)⟩:Tparent)),G0)]))) :: .cells t0 [v1_0] 33 :: .cells q0 [vI a0.fj.fe,vI a0.fj.fc,vI a0.fj.fh,v0_3,vI a0.fu] 97 :: (boxes 90 bx_Tparent (b0 ++ [((d0,(⟨d0,U0,(0:UInt8) ||| (shl8 (1:UInt8) V0)⟩:Tparent)),G0)]) ++ [])):=D8
 try rw [Q2] at h
 have C5:St _ _ (.obj z0 (lpO C0 .ready none) :: .obj k0 (.deferred (some [])) :: .cells s0 [vI a0.fj.fe,vI a0.fj.fc,vI a0.fj.fh,v0_3,vI a0.fu] 97 :: .cells x0 [.map (some c0)] 120 :: .obj c0 (mapO (pmD (b0 ++ [((d0,(⟨d0,U0,(0:UInt8) ||| (shl8 (1:UInt8) V0)⟩:Tparent)),G0)]))) :: .cells t0 [v1_0] 33 :: .cells q0 [vI a0.fj.fe,vI a0.fj.fc,vI a0.fj.fh,v0_3,vI a0.fu] 97 :: (boxes 90 bx_Tparent (b0 ++ [((d0,(⟨d0,U0,(0:UInt8) ||| (shl8 (1:UInt8) V0)⟩:Tparent)),G0)]) ++ [])):=z3.arr2 (.one (.tl .hd) (.one (.tl .hd) (.one (.tl .hd) (.one (.tl .hd) (.one (.tl .hd) (.one (.tl .hd) (.one (.tl .hd) (.drop .hd .rest))))))))
 have j6:Tr V1 _ V1 (.obj z0 (lpO C0 .ready none) :: .obj k0 (.deferred (some [])) :: .cells s0 [vI a0.fj.fe,vI a0.fj.fc,vI a0.fj.fh,v0_3,vI a0.fu] 97 :: .cells x0 [.map (some c0)] 120 :: .obj c0 (mapO (pmD (b0 ++ [((d0,(⟨d0,U0,(0:UInt8) ||| (shl8 (1:UInt8) V0)⟩:Tparent)),G0)]))) :: .cells t0 [v1_0] 33 :: .cells q0 [vI a0.fj.fe,vI a0.fj.fc,vI a0.fj.fh,v0_3,vI a0.fu] 97 :: (boxes 90 bx_Tparent (b0 ++ [((d0,(⟨d0,U0,(0:UInt8) ||| (shl8 (1:UInt8) V0)⟩:Tparent)),G0)]) ++ [])):=Tr.arr2 (St.arr2Of z3 (.one (.tl .hd) (.one (.tl .hd) (.one (.tl .hd) (.one (.tl .hd) (.one (.tl .hd) (.one (.tl .hd) (.one (.tl .hd) (.drop .hd .rest)))))))))
 have E8:=Tt C1 (Tt c2 (Tt H3 (Tt X5 (Tt Y5 (Tt Z5 (Tt b6 (Tt c6 (Tt d6 (Tt g6 j6)))))))))
 exact v2 (H0 + 1,(b0 ++ [((d0,(⟨d0,U0,(0:UInt8) ||| (shl8 (1:UInt8) V0)⟩:Tparent)),G0)])) _ _ ⟨rfl,rfl,rfl,rfl,rfl,trivial⟩ ⟨C5,(Tt G2 E8)⟩ h
 intro P00 p3 h
 try dsimp only at h
 refine AM rfl h (fun V4 h=>?_) (fun V4 h=>?_)
 refine Al<|Ac (AJ rfl ((K1.memA (.tl (.tl (.tl (.tl (.tl (.tl (.tl .hd)))))))) 0 _ rfl))<|Ab rfl ?_
 obtain ⟨v4,P9,h⟩:=bi h
 obtain ⟨D00,p01,X6,y7,Z4,b9,c8⟩:=AS R2 P9
 have Y6:Z4 = [vI v4]:=b9; subst Y6
 refine Ac (AY 1 H0 rfl X6 rfl rfl y7)<|AN rfl (c8 0 _ rfl)<|Af rfl<|Aa ?_
 exact p3 v4 _ _ ⟨rfl,rfl,rfl,rfl,trivial⟩ ⟨K1,AA _ _⟩ h
 refine Am ?_
 exact p3 0 _ _ ⟨rfl,rfl,rfl,rfl,trivial⟩ ⟨K1,AA _ _⟩ h
 subst Y9
 have h:=pcase_s h M2
 refine Ac (FV.as (FV.lookup (D:=pmD (A0 ++ ((d0,g0),u0) :: B0)) (kv:=d0) (z:=(none:Option Nat)) J1 (.tl (.tl (.tl (.tl (.tl .hd))))) Tryz.underlying120 Tryz.underlying3 rfl (by kernel_rfl) rfl rfl) (enc_s H2)) ?_
 obtain ⟨F8,G8⟩:=St.boxOpen (pre:=[.cells Q0 [.string j0.ft,vI j0.fp,K0,M0,P0,.bool j0.fo] 61,.obj z0 (lpO C0 .busy none),.obj k0 (.deferred (some [])),.cells s0 [vI a0.fj.fe,vI a0.fj.fc,vI a0.fj.fh,v0_3,vI a0.fu] 97,.cells x0 [.map (some c0)] 120,.obj c0 (mapO (pmD (A0 ++ ((d0,g0),u0) :: B0))),.cells t0 [v1_0] 33,.cells q0 [vI a0.fj.fe,vI a0.fj.fc,vI a0.fj.fh,v0_3,vI a0.fu] 97]) (t:=90) (f:=bx_Tparent) (T:=[]) (Z1:=A0) (Z2:=B0) (k:=d0) (y:=g0) (b:=u0) J1
 have M1:St _ j2 (.cells u0 [vI g0.fA,vI g0.fy,.int .u8 (g0.fq.toNat:Int)] 90 :: .cells Q0 [.string j0.ft,vI j0.fp,K0,M0,P0,.bool j0.fo] 61 :: .obj z0 (lpO C0 .busy none) :: .obj k0 (.deferred (some [])) :: .cells s0 [vI a0.fj.fe,vI a0.fj.fc,vI a0.fj.fh,v0_3,vI a0.fu] 97 :: .cells x0 [.map (some c0)] 120 :: .obj c0 (mapO (pmD (A0 ++ ((d0,g0),u0) :: B0))) :: .cells t0 [v1_0] 33 :: .cells q0 [vI a0.fj.fe,vI a0.fj.fc,vI a0.fj.fh,v0_3,vI a0.fu] 97 :: (boxes 90 bx_Tparent (A0 ++ B0) ++ [])):=F8
 have k6:Tr j2 (.cells Q0 [.string j0.ft,vI j0.fp,K0,M0,P0,.bool j0.fo] 61 :: .obj z0 (lpO C0 .busy none) :: .obj k0 (.deferred (some [])) :: .cells s0 [vI a0.fj.fe,vI a0.fj.fc,vI a0.fj.fh,v0_3,vI a0.fu] 97 :: .cells x0 [.map (some c0)] 120 :: .obj c0 (mapO (pmD (A0 ++ ((d0,g0),u0) :: B0))) :: .cells t0 [v1_0] 33 :: .cells q0 [vI a0.fj.fe,vI a0.fj.fc,vI a0.fj.fh,v0_3,vI a0.fu] 97 :: (boxes 90 bx_Tparent (A0 ++ ((d0,g0),u0) :: B0) ++ [])) j2 (.cells u0 [vI g0.fA,vI g0.fy,.int .u8 (g0.fq.toNat:Int)] 90 :: .cells Q0 [.string j0.ft,vI j0.fp,K0,M0,P0,.bool j0.fo] 61 :: .obj z0 (lpO C0 .busy none) :: .obj k0 (.deferred (some [])) :: .cells s0 [vI a0.fj.fe,vI a0.fj.fc,vI a0.fj.fh,v0_3,vI a0.fu] 97 :: .cells x0 [.map (some c0)] 120 :: .obj c0 (mapO (pmD (A0 ++ ((d0,g0),u0) :: B0))) :: .cells t0 [v1_0] 33 :: .cells q0 [vI a0.fj.fe,vI a0.fj.fc,vI a0.fj.fh,v0_3,vI a0.fu] 97 :: (boxes 90 bx_Tparent (A0 ++ B0) ++ [])):=G8
 refine Af rfl<|Aa<|Aj<|Ae<|Ab rfl<|Ac (FV.eqlPtr (A:=(some ⟨u0,0,none⟩)) Tryz.underlying121 rfl rfl)<|Aa<|Bv rfl<|Am<|Ae<|Af rfl<|Aa<|Aj<|Ae<|Ac (AJ rfl ((M1.memA (.tl (.tl (.tl (.tl (.tl (.tl (.tl .hd)))))))) 0 _ rfl)) ?_
 have U2:=Bn h1_0 M1
 have k02:a1.length ≤ 281474976710656:=AO U2
 refine Ac (AZ (xs:=a1) Tryz.underlying33 rfl U2)<|Ac (FV.gtrN (i:=a1.length) (j:=0) rfl rfl)<|Aa<|MX.join (α:=Int) (fun E1=>[(2,vP q0),(6,vI ((H0:Nat):Int)),(8,vP u0),(9,vI E1)]) (fun E1 c3=>St w c3 (.cells u0 [vI g0.fA,vI g0.fy,.int .u8 (g0.fq.toNat:Int)] 90 :: .cells Q0 [.string j0.ft,vI j0.fp,K0,M0,P0,.bool j0.fo] 61 :: .obj z0 (lpO C0 .busy none) :: .obj k0 (.deferred (some [])) :: .cells s0 [vI a0.fj.fe,vI a0.fj.fc,vI a0.fj.fh,v0_3,vI a0.fu] 97 :: .cells x0 [.map (some c0)] 120 :: .obj c0 (mapO (pmD (A0 ++ ((d0,g0),u0) :: B0))) :: .cells t0 [v1_0] 33 :: .cells q0 [vI a0.fj.fe,vI a0.fj.fc,vI a0.fj.fh,v0_3,vI a0.fu] 97 :: (boxes 90 bx_Tparent (A0 ++ B0) ++ []))∧Tr j2 (.cells u0 [vI g0.fA,vI g0.fy,.int .u8 (g0.fq.toNat:Int)] 90 :: .cells Q0 [.string j0.ft,vI j0.fp,K0,M0,P0,.bool j0.fo] 61 :: .obj z0 (lpO C0 .busy none) :: .obj k0 (.deferred (some [])) :: .cells s0 [vI a0.fj.fe,vI a0.fj.fc,vI a0.fj.fh,v0_3,vI a0.fu] 97 :: .cells x0 [.map (some c0)] 120 :: .obj c0 (mapO (pmD (A0 ++ ((d0,g0),u0) :: B0))) :: .cells t0 [v1_0] 33 :: .cells q0 [vI a0.fj.fe,vI a0.fj.fc,vI a0.fj.fh,v0_3,vI a0.fu] 97 :: (boxes 90 bx_Tparent (A0 ++ B0) ++ [])) c3 (.cells u0 [vI g0.fA,vI g0.fy,.int .u8 (g0.fq.toNat:Int)] 90 :: .cells Q0 [.string j0.ft,vI j0.fp,K0,M0,P0,.bool j0.fo] 61 :: .obj z0 (lpO C0 .busy none) :: .obj k0 (.deferred (some [])) :: .cells s0 [vI a0.fj.fe,vI a0.fj.fc,vI a0.fj.fh,v0_3,vI a0.fu] 97 :: .cells x0 [.map (some c0)] 120 :: .obj c0 (mapO (pmD (A0 ++ ((d0,g0),u0) :: B0))) :: .cells t0 [v1_0] 33 :: .cells q0 [vI a0.fj.fe,vI a0.fj.fc,vI a0.fj.fh,v0_3,vI a0.fu] 97 :: (boxes 90 bx_Tparent (A0 ++ B0) ++ []))) (fun E1=>E1) h ?_ ?_
 rintro E1 c3 ⟨Y1,p6⟩ h
 try dsimp only at h
 refine Al<|Ab rfl<|Bf 0 rfl<|Bf 3 rfl<|Ac (AJ rfl ((mem_from (Y1.memA (.tl (.tl (.tl (.tl (.tl (.tl (.tl (.tl .hd))))))))) 0) 3 _ rfl))<|Ab rfl ?_
 have g8:=Bn h0_3 Y1
 obtain ⟨E00,q01,Z6,z7,G01,c9,d8⟩:=AS g8 V2
 obtain ⟨P02,Q02,R02,rfl,D02,E02,F02⟩:=op_TUnit c9
 refine Ac (AY 6 H0 rfl Z6 rfl rfl z7)<|Bf 1 rfl<|AN rfl (d8 1 _ rfl)<|Ab rfl<|BE (fst:=[]) (cap:=[]) (vs:=[vP u0,vI j0.fp,vI E1]) .plain body74 Tryz.func74 rfl rfl rfl rfl (e3 rfl rfl rfl) rfl (fun H01 D6 x02=>?_)
 refine Ae<|Ab rfl<|Ac (BB rfl)<|Bf 1 rfl<|AN rfl ((Y1.memA .hd) 1 _ rfl)<|Ab rfl ?_
 obtain ⟨W0,z9,h⟩:=bi h
 refine Ac (By (i:=g0.fy) (j:=j0.fp) rfl rfl z9)<|Ac (BB rfl)<|Bf 1 rfl<|RG.now .plain (BH (j:=1) (old:=[vI g0.fA,vI g0.fy,.int .u8 (g0.fq.toNat:Int)]) (news:=[vI W0]) (new' :=[vI g0.fA,vI W0,.int .u8 (g0.fq.toNat:Int)]) Y1 .hd rfl rfl rfl rfl rfl rfl (o1 rfl) rfl) (fun k03 A3 q6=>?_)
 refine Aa<|dt 9 tb74_1 (fun p1 y1=>?_)
 refine Ai 0 1 p1 rfl y1 (fun _=>Ah rfl) rfl<|Ai 1 3 p1 rfl y1 (fun _=>BB rfl) rfl<|Ai 2 7 p1 rfl y1 (fun _=>Br 2 rfl) rfl<|AV 3 15 960 p1 rfl y1 (AJ rfl ((A3.memA .hd) 2 _ rfl)) rfl<|Ai 4 31 p1 rfl y1 (fun _=>Ah rfl) rfl ?_
 obtain ⟨b1,A7,h⟩:=bi h
 refine Ai 5 63 p1 rfl y1 (fun _=>FV.shl8I (a:=(1:UInt8)) (i:=E1) rfl rfl A7) rfl<|Ai 6 127 p1 rfl y1 (fun _=>FV.or8 (a:=g0.fq) (b:=shl8 (1:UInt8) b1) rfl rfl) rfl<|Ai 7 255 p1 rfl y1 (fun _=>BB rfl) rfl<|Ai 8 511 p1 rfl y1 (fun _=>Br 2 rfl) rfl<|RD.nw 9 1023 p1 rfl rfl .plain (BH (j:=2) (old:=[vI g0.fA,vI W0,.int .u8 (g0.fq.toNat:Int)]) (news:=[.int .u8 ((g0.fq ||| (shl8 (1:UInt8) b1)).toNat:Int)]) (new' :=[vI g0.fA,vI W0,.int .u8 ((g0.fq ||| (shl8 (1:UInt8) b1)).toNat:Int)]) A3 .hd rfl rfl rfl rfl rfl rfl (o1 rfl) rfl) (fun p03 D5 s6=>?_)
 refine AX (dk p1)<|MX.fin rfl<|AB (u:=.tuple #[]) D6 Tryz.func74 rfl .nil rfl<|Aa<|Aq<|MX.roundEnd J3 D5 (.tl (.tl .hd)) (fun W1 E5 t6=>?_)
 refine Ar (Be rfl)<|AG rfl rfl<|Aa<|Bv rfl<|Am<|Aq<|Al<|Ac (AT (i:=H0) (j:=1) rfl rfl (by omega))<|Ab rfl<|Aa ?_
 obtain ⟨H8,I8⟩:=St.boxShut (Q:=fun D9=>[.cells Q0 [.string j0.ft,vI j0.fp,K0,M0,P0,.bool j0.fo] 61,.obj z0 (lpO C0 .ready none),.obj k0 (.deferred (some [])),.cells s0 [vI a0.fj.fe,vI a0.fj.fc,vI a0.fj.fh,v0_3,vI a0.fu] 97,.cells x0 [.map (some c0)] 120,.obj c0 (mapO D9),.cells t0 [v1_0] 33,.cells q0 [vI a0.fj.fe,vI a0.fj.fc,vI a0.fj.fh,v0_3,vI a0.fu] 97]) (t:=90) (f:=bx_Tparent) (T:=[]) (k:=d0) (y' :=(⟨g0.fA,W0,g0.fq ||| (shl8 (1:UInt8) b1)⟩:Tparent)) (b:=u0) (Z1:=A0) (Z2:=B0) (y:=g0) E5
 have B3:St _ W1 (.cells Q0 [.string j0.ft,vI j0.fp,K0,M0,P0,.bool j0.fo] 61 :: .obj z0 (lpO C0 .ready none) :: .obj k0 (.deferred (some [])) :: .cells s0 [vI a0.fj.fe,vI a0.fj.fc,vI a0.fj.fh,v0_3,vI a0.fu] 97 :: .cells x0 [.map (some c0)] 120 :: .obj c0 (mapO (pmD (A0 ++ ((d0,(⟨g0.fA,W0,g0.fq ||| (shl8 (1:UInt8) b1)⟩:Tparent)),u0) :: B0))) :: .cells t0 [v1_0] 33 :: .cells q0 [vI a0.fj.fe,vI a0.fj.fc,vI a0.fj.fh,v0_3,vI a0.fu] 97 :: (boxes 90 bx_Tparent (A0 ++ ((d0,(⟨g0.fA,W0,g0.fq ||| (shl8 (1:UInt8) b1)⟩:Tparent)),u0) :: B0) ++ [])):=H8
 have u6:Tr W1 _ W1 (.cells Q0 [.string j0.ft,vI j0.fp,K0,M0,P0,.bool j0.fo] 61 :: .obj z0 (lpO C0 .ready none) :: .obj k0 (.deferred (some [])) :: .cells s0 [vI a0.fj.fe,vI a0.fj.fc,vI a0.fj.fh,v0_3,vI a0.fu] 97 :: .cells x0 [.map (some c0)] 120 :: .obj c0 (mapO (pmD (A0 ++ ((d0,(⟨g0.fA,W0,g0.fq ||| (shl8 (1:UInt8) b1)⟩:Tparent)),u0) :: B0))) :: .cells t0 [v1_0] 33 :: .cells q0 [vI a0.fj.fe,vI a0.fj.fc,vI a0.fj.fh,v0_3,vI a0.fu] 97 :: (boxes 90 bx_Tparent (A0 ++ ((d0,(⟨g0.fA,W0,g0.fq ||| (shl8 (1:UInt8) b1)⟩:Tparent)),u0) :: B0) ++ [])):=I8
 try rw [Q2] at h
 have F5:St _ _ (.obj z0 (lpO C0 .ready none) :: .obj k0 (.deferred (some [])) :: .cells s0 [vI a0.fj.fe,vI a0.fj.fc,vI a0.fj.fh,v0_3,vI a0.fu] 97 :: .cells x0 [.map (some c0)] 120 :: .obj c0 (mapO (pmD (A0 ++ ((d0,(⟨g0.fA,W0,g0.fq ||| (shl8 (1:UInt8) b1)⟩:Tparent)),u0) :: B0))) :: .cells t0 [v1_0] 33 :: .cells q0 [vI a0.fj.fe,vI a0.fj.fc,vI a0.fj.fh,v0_3,vI a0.fu] 97 :: (boxes 90 bx_Tparent (A0 ++ ((d0,(⟨g0.fA,W0,g0.fq ||| (shl8 (1:UInt8) b1)⟩:Tparent)),u0) :: B0) ++ [])):=B3.arr2 (.one (.tl .hd) (.one (.tl .hd) (.one (.tl .hd) (.one (.tl .hd) (.one (.tl .hd) (.one (.tl .hd) (.one (.tl .hd) (.drop .hd .rest))))))))
 have v6:Tr W1 _ W1 (.obj z0 (lpO C0 .ready none) :: .obj k0 (.deferred (some [])) :: .cells s0 [vI a0.fj.fe,vI a0.fj.fc,vI a0.fj.fh,v0_3,vI a0.fu] 97 :: .cells x0 [.map (some c0)] 120 :: .obj c0 (mapO (pmD (A0 ++ ((d0,(⟨g0.fA,W0,g0.fq ||| (shl8 (1:UInt8) b1)⟩:Tparent)),u0) :: B0))) :: .cells t0 [v1_0] 33 :: .cells q0 [vI a0.fj.fe,vI a0.fj.fc,vI a0.fj.fh,v0_3,vI a0.fu] 97 :: (boxes 90 bx_Tparent (A0 ++ ((d0,(⟨g0.fA,W0,g0.fq ||| (shl8 (1:UInt8) b1)⟩:Tparent)),u0) :: B0) ++ [])):=Tr.arr2 (St.arr2Of B3 (.one (.tl .hd) (.one (.tl .hd) (.one (.tl .hd) (.one (.tl .hd) (.one (.tl .hd) (.one (.tl .hd) (.one (.tl .hd) (.drop .hd .rest)))))))))
 have J8:=Tt C1 (Tt c2 (Tt H3 (Tt k6 (Tt p6 (Tt q6 (Tt s6 (Tt t6 (Tt u6 v6))))))))
 exact v2 (H0 + 1,(A0 ++ ((d0,(⟨g0.fA,W0,g0.fq ||| (shl8 (1:UInt8) b1)⟩:Tparent)),u0) :: B0)) _ _ ⟨rfl,rfl,rfl,rfl,rfl,trivial⟩ ⟨F5,(Tt G2 J8)⟩ h
 intro Q00 q3 h
 try dsimp only at h
 refine AM rfl h (fun W4 h=>?_) (fun W4 h=>?_)
 refine Al<|Ac (AJ rfl ((M1.memA (.tl (.tl (.tl (.tl (.tl (.tl (.tl .hd)))))))) 0 _ rfl))<|Ab rfl ?_
 obtain ⟨x4,Q9,h⟩:=bi h
 obtain ⟨F00,s01,b7,B7,b5,d9,j8⟩:=AS U2 Q9
 have c7:b5 = [vI x4]:=d9; subst c7
 refine Ac (AY 1 H0 rfl b7 rfl rfl B7)<|AN rfl (j8 0 _ rfl)<|Af rfl<|Aa ?_
 exact q3 x4 _ _ ⟨rfl,rfl,rfl,rfl,trivial⟩ ⟨M1,AA _ _⟩ h
 refine Am ?_
 exact q3 0 _ _ ⟨rfl,rfl,rfl,rfl,trivial⟩ ⟨M1,AA _ _⟩ h
 refine AR rfl ?_
 have h:=j7 _ h
 try dsimp only at h
 refine MX.fin rfl<|AB (u:=.tuple #[]) B6 Tryz.func78 rfl .nil rfl<|MX.endRange0 B2 .hd (by intro h9; cases h9) (fun u4 C3 Y01=>?_)
 have D3:St _ _ (.obj k0 (.deferred (some [])) :: .cells s0 [vI a0.fj.fe,vI a0.fj.fc,vI a0.fj.fh,v0_3,vI a0.fu] 97 :: .cells x0 [.map (some c0)] 120 :: .obj c0 (mapO (pmD b0)) :: .cells t0 [v1_0] 33 :: .cells q0 [vI a0.fj.fe,vI a0.fj.fc,vI a0.fj.fh,v0_3,vI a0.fu] 97 :: (boxes 90 bx_Tparent b0 ++ [])):=C3.arr2 (.one (.tl .hd) (.one (.tl .hd) (.one (.tl .hd) (.one (.tl .hd) (.one (.tl .hd) (.one (.tl .hd) (.drop .hd .rest)))))))
 have Z01:Tr u4 _ u4 (.obj k0 (.deferred (some [])) :: .cells s0 [vI a0.fj.fe,vI a0.fj.fc,vI a0.fj.fh,v0_3,vI a0.fu] 97 :: .cells x0 [.map (some c0)] 120 :: .obj c0 (mapO (pmD b0)) :: .cells t0 [v1_0] 33 :: .cells q0 [vI a0.fj.fe,vI a0.fj.fc,vI a0.fj.fh,v0_3,vI a0.fu] 97 :: (boxes 90 bx_Tparent b0 ++ [])):=Tr.arr2 (St.arr2Of C3 (.one (.tl .hd) (.one (.tl .hd) (.one (.tl .hd) (.one (.tl .hd) (.one (.tl .hd) (.one (.tl .hd) (.drop .hd .rest))))))))
 refine Aq<|Ae<|Af rfl<|Aa<|Aj<|Ae<|AN rfl ((D3.memA (.tl (.tl .hd))) 0 _ rfl)<|Az .plain rfl (Does.range (D:=(pmD b0)) D3 (.tl (.tl (.tl .hd))) Tryz.underlying120 rfl) (fun X2 y0 E3 b02=>?_)
 refine Aa<|Au ?_
 have D2:=E3.nilRow 90 (Rep.size Tparent)
 have c02:=BF E3 90 (Rep.size Tparent)
 have K6:=Av (cs:=[]) (xs:=([]:List Tparent)) D2 L (AC _ _)
 have G5:St _ _ (.row w.heap.size 90 (Rep.size Tparent) vN (([]:List Tparent).length) [] :: .obj y0 (iterO c0 (pmD b0).length #[]) :: .obj k0 (.deferred (some [])) :: .obj c0 (mapO (pmD b0)) :: (boxes 90 bx_Tparent b0 ++ [])):=D2.arr2 (.one .hd (.one .hd (.one .hd (.one (.tl (.tl .hd)) (.drop .hd (.drop .hd (.drop .hd (.drop .hd .rest))))))))
 have x6:Tr X2 _ X2 (.row w.heap.size 90 (Rep.size Tparent) vN (([]:List Tparent).length) [] :: .obj y0 (iterO c0 (pmD b0).length #[]) :: .obj k0 (.deferred (some [])) :: .obj c0 (mapO (pmD b0)) :: (boxes 90 bx_Tparent b0 ++ [])):=Tr.arr2 (St.arr2Of D2 (.one .hd (.one .hd (.one .hd (.one (.tl (.tl .hd)) (.drop .hd (.drop .hd (.drop .hd (.drop .hd .rest)))))))))
 have k8:=Ap K6 x6
 have y8:=h
 refine MX.mloop (α:=(List Tparent) × Value × (List Value) × (Array Nat) × (List ((Int × Tparent) × Nat))) (fun ⟨J0,p0,Z0,v0,U1⟩=>[(10,p0),(47,vP y0)]) (fun d4 ⟨J0,p0,Z0,v0,U1⟩ s2=>St w s2 (.row w.heap.size 90 (Rep.size Tparent) p0 J0.length Z0 :: .obj y0 (iterO c0 (pmD b0).length v0) :: .obj k0 (.deferred (some [])) :: .obj c0 (mapO (pmD b0)) :: (boxes 90 bx_Tparent b0 ++ []))∧Tr X2 (.row w.heap.size 90 (Rep.size Tparent) vN (([]:List Tparent).length) [] :: .obj y0 (iterO c0 (pmD b0).length #[]) :: .obj k0 (.deferred (some [])) :: .obj c0 (mapO (pmD b0)) :: (boxes 90 bx_Tparent b0 ++ [])) s2 (.row w.heap.size 90 (Rep.size Tparent) p0 J0.length Z0 :: .obj y0 (iterO c0 (pmD b0).length v0) :: .obj k0 (.deferred (some [])) :: .obj c0 (mapO (pmD b0)) :: (boxes 90 bx_Tparent b0 ++ []))∧Cells s2 (bl (.row w.heap.size 90 (Rep.size Tparent) p0 J0.length Z0 :: .obj y0 (iterO c0 (pmD b0).length v0) :: .obj k0 (.deferred (some [])) :: .obj c0 (mapO (pmD b0)) :: (boxes 90 bx_Tparent b0 ++ [])) ++ L) Z0 J0∧left b0 v0 = U1∧d4 = pmM U1) (fun ⟨J0,p0,Z0,v0,U1⟩=>J0) (([]:List Tparent),vN,[],#[],b0) y8 ⟨rfl,rfl,trivial⟩ ⟨G5,AA _ _,k8,(left_nil _),rfl⟩ ?_
 rintro d4 ⟨J0,p0,Z0,v0,U1⟩ s2 R00 g5 ⟨H5,y6,P3,C7,D7⟩ p8 M6
 subst D7
 refine Ae<|RG.nextP (W:=b0) H5 (.tl (.tl (.tl .hd))) (fun _=>(.tl .hd)) rfl rfl C7 (fun u00 q8 b2 z6=>?_) (fun v00 g2 z00 g4 V3 z8 E7 E2 I3=>?_)
 have h:=p8 (congrArg pmM q8)
 try dsimp only at h
 refine Ac (Ak rfl rfl)<|Aa<|Aj<|Bv rfl<|AR rfl<|Ae<|Ab rfl<|BE (fst:=[]) (cap:=[]) (vs:=[p0,.func (.func 76) #[] #[]]) .plain body75 Tryz.func75 rfl rfl rfl rfl (e2 rfl rfl) rfl (fun I01 E6 y02=>?_)
 refine Ae<|Ab rfl ?_
 have p02:J0.length ≤ 4294967296:=St.rowLe (α:=Tparent) b2 .hd
 obtain ⟨G00,t01,d7⟩:=St.rowV (α:=Tparent) b2 .hd
 refine Ac (FV.lenV Tryz.underlying83 rfl d7)<|Af rfl<|Aa<|Al<|Ab rfl<|Ab rfl<|Ab rfl<|Ac (FV.convU (i:=((J0.length:Nat):Int)) Tryz.underlying3 Tryz.underlying143 rfl) ?_
 obtain ⟨j3,X9,h⟩:=bi h
 refine Bp (vI j3) body92 rfl (e1 rfl) (fun w9 hw9=>math_bits_Len_c n _ w9 (b2.hL0 hL hw9) (u64of ((J0.length:Nat):Int)) X9) rfl<|Ab rfl<|BE (fst:=[]) (cap:=[]) (vs:=[p0,vI 0,vI ((J0.length:Nat):Int),vI j3,.func (.func 76) #[] #[]]) .plain body91 Tryz.func91 rfl rfl rfl rfl (e5 rfl rfl rfl rfl rfl) rfl (fun J01 F6 z02=>?_)
 refine Ae<|Af rfl<|Aa<|Ae<|Af rfl<|Aa<|Au ?_
 have s8:=h
 refine AW (α:=Nat × Nat × Int × Bool × Bool) (fun ⟨g1,j1,H1,Q1,R1⟩=>[(0,p0),(1,vI ((g1:Nat):Int)),(2,vI ((j1:Nat):Int)),(3,vI H1),(4,.func (.func 76) #[] #[]),(10,.bool Q1),(11,.bool R1)]) (fun ⟨g1,j1,H1,Q1,R1⟩ k2=>St w k2 (.row w.heap.size 90 (Rep.size Tparent) p0 J0.length Z0 :: .obj y0 (iterO c0 (pmD b0).length v0) :: .obj k0 (.deferred (some [])) :: .obj c0 (mapO (pmD b0)) :: (boxes 90 bx_Tparent b0 ++ []))∧Tr u00 (.row w.heap.size 90 (Rep.size Tparent) p0 J0.length Z0 :: .obj y0 (iterO c0 (pmD b0).length v0) :: .obj k0 (.deferred (some [])) :: .obj c0 (mapO (pmD b0)) :: (boxes 90 bx_Tparent b0 ++ [])) k2 (.row w.heap.size 90 (Rep.size Tparent) p0 J0.length Z0 :: .obj y0 (iterO c0 (pmD b0).length v0) :: .obj k0 (.deferred (some [])) :: .obj c0 (mapO (pmD b0)) :: (boxes 90 bx_Tparent b0 ++ []))) (fun ⟨g1,j1,H1,Q1,R1⟩=>(g1,j1,H1,Q1,R1)) (0,J0.length,j3,true,true) s8 ⟨rfl,rfl,rfl,rfl,rfl,rfl,rfl,trivial⟩ ⟨b2,AA _ _⟩ ?_
 rintro H00 ⟨g1,j1,H1,Q1,R1⟩ k2 K01 ⟨j5,I5⟩ h
 unfold split_view_parents_l3 at h
 try dsimp only at h
 refine Au<|Ae<|Ab rfl<|Ab rfl ?_
 obtain ⟨b00,g9,h⟩:=bi h
 refine Ac (FV.subc (i:=((j1:Nat):Int)) (j:=((g1:Nat):Int)) rfl rfl g9)<|Af rfl<|Aa<|Aj<|Ae<|Ab rfl<|Ac (FV.leq (i:=b00) (j:=12) rfl rfl)<|Aa<|AM rfl h (fun I4 h=>?_) (fun I4 h=>?_)
 refine Ae<|Ab rfl<|Ab rfl<|Ab rfl<|Ab rfl<|BE (fst:=[]) (cap:=[]) (vs:=[p0,vI ((g1:Nat):Int),vI ((j1:Nat):Int),.func (.func 76) #[] #[]]) .plain body100 Tryz.func100 rfl rfl rfl rfl (e4 rfl rfl rfl rfl) rfl (fun u01 A6 s02=>?_)
 refine Ae<|Ab rfl ?_
 obtain ⟨c00,k9,h⟩:=bi h
 refine Ac (By (i:=((g1:Nat):Int)) (j:=1) rfl rfl k9)<|Af rfl<|Aa<|Au ?_
 have G7:=Ap P3 (Tt z6 I5)
 obtain ⟨G02,t8,g7⟩:=bind_in2 h
 refine AW (α:=Int × (List Tparent) × (List Value)) (fun ⟨u1,X0,d1⟩=>[(0,p0),(1,vI ((g1:Nat):Int)),(2,vI ((j1:Nat):Int)),(3,.func (.func 76) #[] #[]),(8,vI u1)]) (fun ⟨u1,X0,d1⟩ G1=>St w G1 (.row w.heap.size 90 (Rep.size Tparent) p0 X0.length d1 :: .obj y0 (iterO c0 (pmD b0).length v0) :: .obj k0 (.deferred (some [])) :: .obj c0 (mapO (pmD b0)) :: (boxes 90 bx_Tparent b0 ++ []))∧Tr k2 (.row w.heap.size 90 (Rep.size Tparent) p0 J0.length Z0 :: .obj y0 (iterO c0 (pmD b0).length v0) :: .obj k0 (.deferred (some [])) :: .obj c0 (mapO (pmD b0)) :: (boxes 90 bx_Tparent b0 ++ [])) G1 (.row w.heap.size 90 (Rep.size Tparent) p0 X0.length d1 :: .obj y0 (iterO c0 (pmD b0).length v0) :: .obj k0 (.deferred (some [])) :: .obj c0 (mapO (pmD b0)) :: (boxes 90 bx_Tparent b0 ++ []))∧Cells G1 (bl (.row w.heap.size 90 (Rep.size Tparent) p0 X0.length d1 :: .obj y0 (iterO c0 (pmD b0).length v0) :: .obj k0 (.deferred (some [])) :: .obj c0 (mapO (pmD b0)) :: (boxes 90 bx_Tparent b0 ++ [])) ++ L) d1 X0) (fun ⟨u1,X0,d1⟩=>(u1,X0)) (c00,J0,Z0) t8 ⟨rfl,rfl,rfl,rfl,rfl,trivial⟩ ⟨j5,AA _ _,G7⟩ ?_
 rintro I00 ⟨u1,X0,d1⟩ G1 c5 ⟨t3,J5,K3⟩ h
 unfold split_view_parents_l2 at h
 try dsimp only at h
 refine Aj<|Ae<|Ab rfl<|Ab rfl<|Ac (FV.lss (i:=u1) (j:=((j1:Nat):Int)) rfl rfl)<|Aa<|AM rfl h (fun J4 h=>?_) (fun J4 h=>?_)
 refine Am<|Aj<|Au<|Ae<|Ab rfl<|Af rfl<|Aa<|Au<|MX.joinx (α:=(List Tparent) × (List Value)) (fun ⟨z1,A1⟩=>[(0,p0),(1,vI ((g1:Nat):Int)),(2,vI ((j1:Nat):Int)),(3,.func (.func 76) #[] #[]),(8,vI u1)]) (fun ⟨z1,A1⟩ p2=>St w p2 (.row w.heap.size 90 (Rep.size Tparent) p0 z1.length A1 :: .obj y0 (iterO c0 (pmD b0).length v0) :: .obj k0 (.deferred (some [])) :: .obj c0 (mapO (pmD b0)) :: (boxes 90 bx_Tparent b0 ++ []))∧Tr G1 (.row w.heap.size 90 (Rep.size Tparent) p0 X0.length d1 :: .obj y0 (iterO c0 (pmD b0).length v0) :: .obj k0 (.deferred (some [])) :: .obj c0 (mapO (pmD b0)) :: (boxes 90 bx_Tparent b0 ++ [])) p2 (.row w.heap.size 90 (Rep.size Tparent) p0 z1.length A1 :: .obj y0 (iterO c0 (pmD b0).length v0) :: .obj k0 (.deferred (some [])) :: .obj c0 (mapO (pmD b0)) :: (boxes 90 bx_Tparent b0 ++ []))∧Cells p2 (bl (.row w.heap.size 90 (Rep.size Tparent) p0 z1.length A1 :: .obj y0 (iterO c0 (pmD b0).length v0) :: .obj k0 (.deferred (some [])) :: .obj c0 (mapO (pmD b0)) :: (boxes 90 bx_Tparent b0 ++ [])) ++ L) A1 z1) (fun ⟨z1,A1⟩=>z1) (id:=2) rfl h ?_ ?_
 rintro ⟨z1,A1⟩ p2 ⟨q5,M5,G6⟩ h
 try dsimp only at h
 refine Aq<|Al<|Ab rfl ?_
 obtain ⟨d00,p9,h⟩:=bi h
 refine Ac (By (i:=u1) (j:=1) rfl rfl p9)<|Af rfl<|Aa ?_
 exact c5 (d00,z1,A1) _ _ ⟨rfl,rfl,rfl,rfl,rfl,trivial⟩ ⟨q5,(Tt J5 M5),G6⟩ h
 intro J00 k3 h
 try dsimp only at h
 obtain ⟨H02,v8,U3⟩:=bind_in2 h
 refine AW (α:=Int × (List Tparent) × (List Value)) (fun ⟨Y0,s1,v1⟩=>[(0,p0),(1,vI ((g1:Nat):Int)),(2,vI ((j1:Nat):Int)),(3,.func (.func 76) #[] #[]),(8,vI u1),(9,vI Y0)]) (fun ⟨Y0,s1,v1⟩ q2=>St w q2 (.row w.heap.size 90 (Rep.size Tparent) p0 s1.length v1 :: .obj y0 (iterO c0 (pmD b0).length v0) :: .obj k0 (.deferred (some [])) :: .obj c0 (mapO (pmD b0)) :: (boxes 90 bx_Tparent b0 ++ []))∧Tr G1 (.row w.heap.size 90 (Rep.size Tparent) p0 X0.length d1 :: .obj y0 (iterO c0 (pmD b0).length v0) :: .obj k0 (.deferred (some [])) :: .obj c0 (mapO (pmD b0)) :: (boxes 90 bx_Tparent b0 ++ [])) q2 (.row w.heap.size 90 (Rep.size Tparent) p0 s1.length v1 :: .obj y0 (iterO c0 (pmD b0).length v0) :: .obj k0 (.deferred (some [])) :: .obj c0 (mapO (pmD b0)) :: (boxes 90 bx_Tparent b0 ++ []))∧Cells q2 (bl (.row w.heap.size 90 (Rep.size Tparent) p0 s1.length v1 :: .obj y0 (iterO c0 (pmD b0).length v0) :: .obj k0 (.deferred (some [])) :: .obj c0 (mapO (pmD b0)) :: (boxes 90 bx_Tparent b0 ++ [])) ++ L) v1 s1) (fun ⟨Y0,s1,v1⟩=>(Y0,s1)) (u1,X0,d1) v8 ⟨rfl,rfl,rfl,rfl,rfl,rfl,trivial⟩ ⟨t3,AA _ _,K3⟩ ?_
 rintro K00 ⟨Y0,s1,v1⟩ q2 d5 ⟨q1,F2,F1⟩ h
 unfold split_view_parents_l1 at h
 try dsimp only at h
 refine Aj<|Aj<|dt 17 tb100_4 (fun E0 I0=>?_)
 refine Ai 0 1 E0 rfl I0 (fun _=>Ah rfl) rfl<|Ai 1 3 E0 rfl I0 (fun _=>Ah rfl) rfl<|Ai 2 7 E0 rfl I0 (fun _=>FV.gtr (i:=Y0) (j:=((g1:Nat):Int)) rfl rfl) rfl<|Ai 3 15 E0 rfl I0 (fun _=>Ah rfl) rfl<|RD.ifd (s:=21) rfl h (fun K4 h=>?_) (fun K4 h=>?_)
 refine Bb 4 31 E0 rfl I0 (.yes rfl rfl) (fun _=>Ah rfl) rfl<|Bb 5 63 E0 rfl I0 (.yes rfl rfl) (fun _=>Ah rfl) rfl<|Bb 6 127 E0 rfl I0 (.yes rfl rfl) (fun _=>Ah rfl) rfl ?_
 obtain ⟨t2,B9,h⟩:=bi h
 obtain ⟨P2,C9⟩:=idx_in B9
 obtain ⟨z4,V00,P1,d2,v01,K8,Z3⟩:=St.nth (α:=Tparent) q1 .hd F1 C9
 obtain ⟨D4,W00,Q3⟩:=St.nthOwn (α:=Tparent) q1 .hd d2
 obtain rfl:z4 = ⟨D4,0,none⟩:=by rw [Q3] at P1; cases P1; rfl
 obtain rfl:=op_Tparent K8
 refine Bb 7 255 E0 rfl I0 (.yes rfl rfl) (fun _=>AY 3 (Y0.toNat) rfl P1 rfl P2 d2) rfl<|RD.val (i:=8) (m' :=511) (W:=114688) (tk E0) rfl I0 (.yes rfl rfl) (AE rfl Z3) rfl<|Bb 9 1023 E0 rfl I0 (.yes rfl rfl) (fun _=>Ah rfl) rfl<|Bb 10 2047 E0 rfl I0 (.yes rfl rfl) (fun _=>Ah rfl) rfl ?_
 obtain ⟨g00,q9,h⟩:=bi h
 refine Bb 11 4095 E0 rfl I0 (.yes rfl rfl) (fun _=>FV.subc (i:=Y0) (j:=1) rfl rfl q9) rfl ?_
 obtain ⟨x00,E9,h⟩:=bi h
 obtain ⟨k7,F9⟩:=idx_in E9
 obtain ⟨A4,X00,I2,W3,x01,M8,H7⟩:=St.nth (α:=Tparent) q1 .hd F1 F9
 obtain ⟨E4,Y00,P6⟩:=St.nthOwn (α:=Tparent) q1 .hd W3
 obtain rfl:A4 = ⟨E4,0,none⟩:=by rw [P6] at I2; cases I2; rfl
 obtain rfl:=op_Tparent M8
 refine Bb 12 8191 E0 rfl I0 (.yes rfl rfl) (fun _=>AY 3 (g00.toNat) rfl I2 rfl k7 W3) rfl<|RD.val (i:=13) (m' :=16383) (W:=114688) (tk E0) rfl I0 (.yes rfl rfl) (AE rfl H7) rfl ?_
 obtain ⟨y4,W9,h⟩:=bi h
 refine RD.callq (i:=14) (m' :=32767) (W:=98304) (tk E0) rfl I0 (v:=vI y4) (fst:=[]) (cap:=[]) (.yes rfl rfl) body76 rfl (e2 rfl rfl) (fun w9 hw9=>split_view_parents_1_c n _ w9 (q1.hL0 hL hw9) t2 x00 W9) rfl<|Bb 15 65535 E0 rfl I0 (.yes rfl rfl) (fun _=>FV.lss (i:=y4) (j:=0) rfl rfl) rfl<|Ai 16 131071 E0 rfl I0 (fun _=>Bz rfl rfl) rfl<|AX (dk E0)<|AM rfl h (fun M4 h=>?_) (fun M4 h=>?_)
 refine Am<|Aj<|Au<|dt 15 tb100_6 (fun F0 R0=>?_)
 refine Ai 0 1 F0 rfl R0 (fun _=>Ah rfl) rfl<|Ai 1 3 F0 rfl R0 (fun _=>Ah rfl) rfl<|Ai 2 7 F0 rfl R0 (fun _=>Ah rfl) rfl<|Ai 3 15 F0 rfl R0 (fun _=>Ah rfl) rfl ?_
 obtain ⟨j4,s9,h⟩:=bi h
 refine Ai 4 31 F0 rfl R0 (fun _=>FV.subc (i:=Y0) (j:=1) rfl rfl s9) rfl<|Ai 5 63 F0 rfl R0 (fun _=>Ah rfl) rfl<|Ai 6 127 F0 rfl R0 (fun _=>Ah rfl) rfl ?_
 obtain ⟨j00,t9,h⟩:=bi h
 refine Ai 7 255 F0 rfl R0 (fun _=>FV.subc (i:=Y0) (j:=1) rfl rfl t9) rfl ?_
 obtain ⟨d3,G9,h⟩:=bi h
 obtain ⟨p7,H9⟩:=idx_in G9
 obtain ⟨B4,Z00,J2,X3,y01,P8,I7⟩:=St.nth (α:=Tparent) q1 .hd F1 H9
 obtain ⟨F4,b01,Q6⟩:=St.nthOwn (α:=Tparent) q1 .hd X3
 obtain rfl:B4 = ⟨F4,0,none⟩:=by rw [Q6] at J2; cases J2; rfl
 obtain rfl:=op_Tparent P8
 refine Ai 8 511 F0 rfl R0 (fun _=>AY 3 (j00.toNat) rfl J2 rfl p7 X3) rfl<|AV 9 1023 245760 F0 rfl R0 (AE rfl I7) rfl<|Ai 10 2047 F0 rfl R0 (fun _=>Ah rfl) rfl<|Ai 11 4095 F0 rfl R0 (fun _=>Ah rfl) rfl<|Ai 12 8191 F0 rfl R0 (fun _=>AY 3 (Y0.toNat) rfl P1 rfl P2 d2) rfl<|AV 13 16383 245760 F0 rfl R0 (AE rfl Z3) rfl<|Ai 14 32767 F0 rfl R0 (fun _=>AY 3 (Y0.toNat) rfl P1 rfl P2 d2) rfl ?_
 obtain ⟨s03,R9,h⟩:=bi h
 refine RD.one (i:=15) (rk F0) (RO.acts (m' :=65535) (sk F0) rfl rfl .plain (Acts.set (α:=Tparent) (i:=Y0.toNat) R9 q1 Q3 (fun _=>.hd) F1 rfl rfl rfl rfl (mk_Tparent d3.fA d3.fy d3.fq) (by kernel_rfl)) (fun W02 ⟨z01,x2,P5,M3⟩=>?_))
 obtain ⟨q03,I9,h⟩:=bi h
 obtain ⟨q7,J9⟩:=idx_in I9
 obtain ⟨C4,c01,K2,Y3,A01,Q8,q02⟩:=St.nth (α:=Tparent) x2 .hd M3 J9
 obtain ⟨G4,d01,R3⟩:=St.nthOwn (α:=Tparent) x2 .hd Y3
 obtain rfl:C4 = ⟨G4,0,none⟩:=by rw [R3] at K2; cases K2; rfl
 obtain rfl:=op_Tparent Q8
 refine Ai 16 131071 F0 rfl R0 (fun _=>AY 3 (j4.toNat) rfl K2 rfl q7 Y3) rfl ?_
 obtain ⟨y00,U9,h⟩:=bi h
 refine RD.one (i:=17) (rk F0) (RO.acts (m' :=262143) (sk F0) rfl rfl .plain (Acts.set (α:=Tparent) (i:=j4.toNat) U9 x2 R3 (fun _=>.hd) M3 rfl rfl rfl rfl (mk_Tparent t2.fA t2.fy t2.fq) (by kernel_rfl)) (fun X02 ⟨X4,t5,Q5,H6⟩=>?_))
 refine AX (dk F0)<|Aq<|Al<|Ab rfl ?_
 obtain ⟨k00,u9,h⟩:=bi h
 refine Ac (FV.subc (i:=Y0) (j:=1) rfl rfl u9)<|Af rfl<|Aa ?_
 exact d5 (k00,y00,X4) _ _ ⟨rfl,rfl,rfl,rfl,rfl,rfl,trivial⟩ ⟨t5,(Tt F2 (Tt P5 Q5)),H6⟩ h
 refine AR rfl ?_
 have h:=U3 _ h
 try dsimp only at h
 exact k3 (s1,v1) _ _ ⟨rfl,rfl,rfl,rfl,rfl,trivial⟩ ⟨q1,F2,F1⟩ h
 refine Bo 65535 1 [(4,22),(5,23),(6,24),(7,25),(8,26),(9,27),(10,28),(11,29),(12,30),(13,31),(14,32),(15,33)] (F:=[(21,false)]) (U:=[]) E0 I0 (.cons rfl .nil) .nil ?_
 dsimp only [offS,List.map]
 refine Ai 16 131071 E0 rfl I0 (fun _=>AP rfl rfl) rfl<|AX (dk E0)<|Bv rfl<|AR rfl ?_
 have h:=U3 _ h
 try dsimp only at h
 exact k3 (s1,v1) _ _ ⟨rfl,rfl,rfl,rfl,rfl,trivial⟩ ⟨q1,F2,F1⟩ h
 refine AR rfl ?_
 have h:=g7 _ h
 try dsimp only at h
 refine MX.fin rfl<|AB (u:=.tuple #[]) A6 Tryz.func100 rfl .nil rfl<|Aa<|Ao rfl<|AB (u:=.tuple #[]) F6 Tryz.func91 rfl .nil rfl<|Aa<|MX.fin rfl<|AB (u:=.tuple #[]) E6 Tryz.func75 rfl .nil rfl<|Aa<|Ae<|Ab rfl<|Af rfl<|Aa<|Ao rfl<|RT.take t3 (.tl (.tl .hd)) (fun q4 u3 R5=>?_)
 have y2:St _ _ (.row w.heap.size 90 (Rep.size Tparent) p0 X0.length d1 :: .obj y0 (iterO c0 (pmD b0).length v0) :: .obj c0 (mapO (pmD b0)) :: (boxes 90 bx_Tparent b0 ++ [])):=u3.arr2 (.one .hd (.one .hd (.one (.tl .hd) (.drop .hd .rest))))
 have U5:Tr q4 _ q4 (.row w.heap.size 90 (Rep.size Tparent) p0 X0.length d1 :: .obj y0 (iterO c0 (pmD b0).length v0) :: .obj c0 (mapO (pmD b0)) :: (boxes 90 bx_Tparent b0 ++ [])):=Tr.arr2 (St.arr2Of u3 (.one .hd (.one .hd (.one (.tl .hd) (.drop .hd .rest)))))
 have J7:=Ap K3 (Tt R5 U5)
 have R8:=AU (α:=Tparent) y2 .hd J7 hL
 have z2:=Bk y2 .hd
 have R01:=Bl y2 .hd
 have U8:=Bm (α:=Tparent) (v:=p0) (xs:=X0) z2 L R8
 refine AL hb0 Tryz.func55 rfl rfl ?_
 cases h
 exact ⟨z2.ag,fun w9 hw9=>⟨p0,rfl,z2.kd U8 hw9⟩⟩
 refine Am<|Aj<|Ae<|Ab rfl<|Ac (FV.eql (i:=H1) (j:=0) rfl rfl)<|Aa<|AM rfl h (fun P4 h=>?_) (fun P4 h=>?_)
 refine Ae<|Ab rfl<|Ab rfl<|Ab rfl<|Ab rfl ?_
 cases h
 refine Am<|Aj<|Ae<|Ab rfl<|Ac (Be rfl)<|Aa<|MX.ifnb rfl h (fun Q4 h=>?_) (fun Q4 h=>?_)
 refine Am<|Ae<|Ab rfl<|Ab rfl<|Ab rfl<|Ab rfl ?_
 cases h
 refine Ae<|Ab rfl<|Ab rfl<|Ab rfl<|Ab rfl ?_
 cases h
 obtain ⟨D0,H4⟩:=z00
 have h:=M6 _ _ (picks_map (·.1) z8)
 unfold split_view_parents_b762 at h
 try dsimp only at h
 refine Ac (Ak rfl rfl)<|Aa<|Aj<|Bq rfl<|Am<|Au<|Ae<|Ac (FV.entry (D:=pmD b0) E2 (.tl (.tl (.tl .hd))) (.tl .hd) (pmD_at V3) rfl)<|Ac (Ak rfl rfl)<|Af rfl<|Aa<|Al<|Ab rfl<|Ab rfl<|Ac (BB rfl) ?_
 have K7:∀ j9 v9,([vI D0.2.fA,vI D0.2.fy,.int .u8 (D0.2.fq.toNat:Int)]:List Value)[j9]? = some v9 → v00.cell? ((⟨H4,0,none⟩:Addr).add j9) = some v9:=St.memA E2 (At.box (pre:=[.row w.heap.size 90 (Rep.size Tparent) p0 J0.length Z0,.obj y0 (iterO c0 (pmD b0).length (v0.push g2)),.obj k0 (.deferred (some [])),.obj c0 (mapO (pmD b0))]) (t:=90) (f:=bx_Tparent) (T:=[]) V3)
 refine Ac (AE rfl K7)<|Az .plain rfl (AF (α:=Tparent) (xs:=([D0.2]:List Tparent)) (vs:=[.agg #[vI D0.2.fA,vI D0.2.fy,.int .u8 (D0.2.fq.toNat:Int)]]) (ds' :=[vI D0.2.fA,vI D0.2.fy,.int .u8 (D0.2.fq.toNat:Int)]) rfl E2 el83 rfl (e1 rfl) (by kernel_rfl) rfl) (fun Y02 U00 A2 F3=>?_)
 have I6:=Av (cs:=[vI D0.2.fA,vI D0.2.fy,.int .u8 (D0.2.fq.toNat:Int)]) (xs:=(([D0.2]:List Tparent):List Tparent)) A2 L (Ax (cs:=[vI D0.2.fA,vI D0.2.fy,.int .u8 (D0.2.fq.toNat:Int)]) (ds:=[]) (mk_Tparent D0.2.fA D0.2.fy D0.2.fq) (AC _ _))
 obtain ⟨g3,V9,h⟩:=bi h
 have M7:=Ap P3 (Tt I3 F3)
 refine RG.doesL .plain rfl (Bc (α:=Tparent) (ys:=([D0.2]:List Tparent)) V9 A2 (fun _ _=>(.tl .hd)) el83 rfl rfl M7 (Src.row (α:=Tparent) A2 .hd I6)) (fun W2 s4 ⟨u2,v3,V5,J6⟩=>?_)
 refine Af rfl<|Aa<|Aq ?_
 have u5:St _ _ (.row w.heap.size 90 (Rep.size Tparent) W2 g3.length u2 :: .obj y0 (iterO c0 (pmD b0).length (v0.push g2)) :: .obj k0 (.deferred (some [])) :: .obj c0 (mapO (pmD b0)) :: (boxes 90 bx_Tparent b0 ++ [])):=v3.arr2 (.one (.tl .hd) (.one (.tl .hd) (.one (.tl .hd) (.one (.tl .hd) (.drop .hd .rest)))))
 have G3:Tr s4 _ s4 (.row w.heap.size 90 (Rep.size Tparent) W2 g3.length u2 :: .obj y0 (iterO c0 (pmD b0).length (v0.push g2)) :: .obj k0 (.deferred (some [])) :: .obj c0 (mapO (pmD b0)) :: (boxes 90 bx_Tparent b0 ++ [])):=Tr.arr2 (St.arr2Of v3 (.one (.tl .hd) (.one (.tl .hd) (.one (.tl .hd) (.one (.tl .hd) (.drop .hd .rest))))))
 have P7:=Ap J6 G3
 have A8:=Tt I3 (Tt F3 (Tt V5 G3))
 exact g5 (pmM g4) (g3,W2,u2,(v0.push g2),g4) _ _ ⟨rfl,rfl,trivial⟩ ⟨u5,(Tt y6 A8),P7,E7,rfl⟩ h
structure Tbroken where
  fD:Int
  deriving DecidableEq
instance:Rep Tbroken:=Rep.via (β:=Int) fun x=>x.fD
def balance_need_p (_n:Nat) (a0:Int):Option (Except Tbroken Unit):=
  (if a0 = 0 then some (.ok ()) else some (.error (⟨a0⟩:Tbroken)))
theorem balance_need_c (n:Nat) (L:List Nat) (w:World) (_hL:∀ b ∈ L,b < w.heap.size) (a0:Int)  {r:Except Tbroken Unit} (h:balance_need_p n a0 = some r) :
    Calls Tryz.prog 81 #[vI a0] w (PGives w (fun (_y:Unit) _ u=>u = .tuple #[]) (fun e=>.iface 129 (.agg #[vI e.fD])) r):=by
 unfold balance_need_p at h
 have hS0:=AD w
 refine MX.startP Tryz.func81 rfl rfl rfl (fun _ cs0 hb0 hp0=>?_)
 refine Ae<|Ab rfl<|Ac (Bs (i:=a0) (j:=0) rfl rfl)<|Aa<|MX.ifn rfl h (fun c1 h=>?_) (fun c1 h=>?_)
 refine Am<|MX.fin rfl<|AB hb0 Tryz.func81 rfl .nil rfl ?_
 cases h
 exact ⟨hS0.ag,fun w9 hw9=>okOf_in rfl⟩
 refine Al<|Ab rfl<|Ac (Bh (vs:=[vI a0]) (u:=.agg #[vI a0]) (e1 rfl) (fun w9=>by kernel_rfl))<|Ac (FV.makeInterface (by kernel_rfl) rfl)<|RG.panic .plain rfl ?_
 cases h
 exact PN.leave hp0 Tryz.func81 ⟨hS0.ag,rfl⟩
theorem body81:bodyB Tryz.prog 81 = true:=by kernel_rfl
def balance_fail_p (n:Nat) (a0:Bool) (a1:Int):Option (Except Tbroken Unit):=
  (if a0 = true then (balance_need_p n a1).bind fun y2=>exc y2 (fun _y11=>some (.ok ())) (fun b0=>some (.error b0)) else some (.ok ()))
theorem balance_fail_c (n:Nat) (L:List Nat) (w:World) (hL:∀ b ∈ L,b < w.heap.size) (a0:Bool) (a1:Int)  {r:Except Tbroken Unit} (h:balance_fail_p n a0 a1 = some r) :
    Calls Tryz.prog 82 #[.bool a0,vI a1] w (PGives w (fun (_y:Unit) _ u=>u = .tuple #[]) (fun e=>.iface 129 (.agg #[vI e.fD])) r):=by
 unfold balance_fail_p at h
 have hS0:=AD w
 refine MX.startP Tryz.func82 rfl rfl rfl (fun _ cs0 hb0 hp0=>?_)
 refine Ae<|Ab rfl<|Aa<|MX.ifb rfl h (fun c1 h=>?_) (fun c1 h=>?_)
 refine Al<|Ab rfl ?_
 obtain ⟨y2,hy2,h⟩:=bi h
 rcases y2 with d0 | k0
 have h:=exc_e h
 try dsimp only at h
 refine RG.callE (fst:=[]) (cap:=[]) .plain body81 rfl (e1 rfl) (fun w9 hw9=>balance_need_c n _ w9 (hS0.hL0 hL hw9) a1 hy2) (fun j0 c0=>?_)
 obtain ⟨b0,g0⟩:=hS0.agr c0
 cases h
 exact PN.leave hp0 Tryz.func82 ⟨b0.ag,rfl⟩
 have h:=exc_o h
 try dsimp only at h
 refine Bp (.tuple #[]) body81 rfl (e1 rfl) (fun w9 hw9=>Calls.okp (balance_need_c n _ w9 (hS0.hL0 hL hw9) a1 hy2)) rfl<|Aa<|MX.fin rfl<|AB hb0 Tryz.func82 rfl .nil rfl ?_
 cases h
 exact ⟨hS0.ag,fun w9 hw9=>okOf_in rfl⟩
 refine Am<|MX.fin rfl<|AB hb0 Tryz.func82 rfl .nil rfl ?_
 cases h
 exact ⟨hS0.ag,fun w9 hw9=>okOf_in rfl⟩
structure Tcount where
  fj:TRoll
  fk:Int
  deriving DecidableEq
instance:Rep Tcount:=Rep.via (β:=TRoll × Int) fun x=>(x.fj,x.fk)
theorem body82:bodyB Tryz.prog 82 = true:=by kernel_rfl
def balance_counted_p (n:Nat) (a0:TRoll) (a1:Int):Option (Except Tbroken Tcount):=
  (units_CheckRoll_p n a0).bind fun g0=>(balance_need_p n g0).bind fun j0=>exc j0 (fun _y23=>(if a1 < 1 then (balance_fail_p n true (2:Int)).bind fun k0=>exc k0 (fun _y32=>some (.ok (⟨a0,a1⟩:Tcount))) (fun c0=>some (.error c0)) else (balance_fail_p n (decide (8 < a1)) (2:Int)).bind fun p0=>exc p0 (fun _y47=>some (.ok (⟨a0,a1⟩:Tcount))) (fun d0=>some (.error d0)))) (fun b0=>some (.error b0))
theorem balance_counted_c (n:Nat) (L:List Nat) (w:World) (hL:∀ b ∈ L,b < w.heap.size) (a0:TRoll) {v0_3:Value} (h0_3:Rep.R w L [v0_3] a0.fm) (a1:Int)  {r:Except Tbroken Tcount} (h:balance_counted_p n a0 a1 = some r) :
    Calls Tryz.prog 66 #[.agg #[vI a0.fe,vI a0.fc,vI a0.fh,v0_3],vI a1] w (PGives w (fun (y:Tcount) w' u=>∃ v0_3:Value,u = .agg #[vI y.fj.fe,vI y.fj.fc,vI y.fj.fh,v0_3,vI y.fk]∧Rep.R w' L [v0_3] y.fj.fm) (fun e=>.iface 129 (.agg #[vI e.fD])) r):=by
 unfold balance_counted_p at h
 have hS0:=AD w
 refine MX.startP Tryz.func66 rfl rfl rfl (fun _ cs0 hb0 hp0=>?_)
 refine Ae<|Az .plain rfl (AK hS0 rfl rfl) (fun j1 M0 v0 X0=>?_)
 refine Az .plain rfl (Ba [vI 0,vI 0,vI 0,vN,vI 0] v0) (fun k1 P0 b0 Y0=>?_)
 refine Aa<|Ae<|Ac (AE rfl (b0.memA (.tl .hd))) ?_
 obtain ⟨g0,F0,h⟩:=bi h
 refine Bp (vI g0) body73 rfl (e1 rfl) (fun w9 hw9=>units_CheckRoll_c n _ w9 (b0.hL0 hL hw9) a0 (b0.k0 h0_3 hw9) F0) rfl ?_
 obtain ⟨G0,q0,h⟩:=bi h
 rcases G0 with U0 | v1
 have h:=exc_e h
 try dsimp only at h
 refine RG.callE (fst:=[]) (cap:=[]) .plain body81 rfl (e1 rfl) (fun w9 hw9=>balance_need_c n _ w9 (b0.hL0 hL hw9) g0 q0) (fun p1 A0=>?_)
 obtain ⟨x0,Z0⟩:=b0.agr A0
 cases h
 exact PN.leave hp0 Tryz.func66 ⟨x0.ag,rfl⟩
 have h:=exc_o h
 try dsimp only at h
 refine Bp (.tuple #[]) body81 rfl (e1 rfl) (fun w9 hw9=>Calls.okp (balance_need_c n _ w9 (b0.hL0 hL hw9) g0 q0)) rfl<|Aa<|Ae<|Ab rfl<|Ac (FV.lss (i:=a1) (j:=1) rfl rfl)<|Ab rfl<|Bx (s:=10) rfl h (fun u0 h=>?_) (fun u0 h=>?_)
 refine Ag<|Ag<|AG rfl rfl ?_
 obtain ⟨H0,s0,h⟩:=bi h
 rcases H0 with V0 | x1
 have h:=exc_e h
 try dsimp only at h
 refine RG.callE (fst:=[]) (cap:=[]) .plain body82 rfl (e2 rfl rfl) (fun w9 hw9=>balance_fail_c n _ w9 (b0.hL0 hL hw9) true (2:Int) s0) (fun q1 B0=>?_)
 obtain ⟨y0,b1⟩:=b0.agr B0
 cases h
 exact PN.leave hp0 Tryz.func66 ⟨y0.ag,rfl⟩
 have h:=exc_o h
 try dsimp only at h
 refine Bp (.tuple #[]) body82 rfl (e2 rfl rfl) (fun w9 hw9=>Calls.okp (balance_fail_c n _ w9 (b0.hL0 hL hw9) true (2:Int) s0)) rfl<|Aa<|Ae<|Ac (AE rfl (b0.memA (.tl .hd)))<|Ab rfl ?_
 have j0:=Bn h0_3 b0
 obtain ⟨J0,Q0,D0,_⟩:=Rep.sl j0
 refine Ac (Bh (vs:=[.agg #[vI a0.fe,vI a0.fc,vI a0.fh,v0_3],vI a1]) (u:=.agg #[vI a0.fe,vI a0.fc,vI a0.fh,v0_3,vI a1]) (e2 rfl rfl) (fun w9=>by rw [D0]; try kernel_rfl))<|Bu [vI a0.fe,vI a0.fc,vI a0.fh,v0_3,vI a1] b0 .hd (o5 rfl rfl rfl (BI j0) rfl) (fun s1 c0 c1=>?_)
 refine Aa<|Ao rfl<|AB hb0 Tryz.func66 rfl (.cons (.many (cs:=[vI a0.fe,vI a0.fc,vI a0.fh,v0_3,vI a1]) (by kernel_rfl) rfl (c0.memA .hd)) .nil) rfl ?_
 cases h
 exact ⟨c0.ag,fun w9 hw9=>okOf_in ⟨v0_3,rfl,c0.k0 h0_3 hw9⟩⟩
 refine Ar (Ah rfl)<|Ar (FV.gtr (i:=a1) (j:=8) rfl rfl)<|Bd rfl rfl ?_
 obtain ⟨I0,t0,h⟩:=bi h
 rcases I0 with W0 | y1
 have h:=exc_e h
 try dsimp only at h
 refine RG.callE (fst:=[]) (cap:=[]) .plain body82 rfl (e2 rfl rfl) (fun w9 hw9=>balance_fail_c n _ w9 (b0.hL0 hL hw9) (decide (8 < a1)) (2:Int) t0) (fun t1 C0=>?_)
 obtain ⟨z0,d1⟩:=b0.agr C0
 cases h
 exact PN.leave hp0 Tryz.func66 ⟨z0.ag,rfl⟩
 have h:=exc_o h
 try dsimp only at h
 refine Bp (.tuple #[]) body82 rfl (e2 rfl rfl) (fun w9 hw9=>Calls.okp (balance_fail_c n _ w9 (b0.hL0 hL hw9) (decide (8 < a1)) (2:Int) t0)) rfl<|Aa<|Ae<|Ac (AE rfl (b0.memA (.tl .hd)))<|Ab rfl ?_
 have p0:=Bn h0_3 b0
 obtain ⟨K0,R0,E0,_⟩:=Rep.sl p0
 refine Ac (Bh (vs:=[.agg #[vI a0.fe,vI a0.fc,vI a0.fh,v0_3],vI a1]) (u:=.agg #[vI a0.fe,vI a0.fc,vI a0.fh,v0_3,vI a1]) (e2 rfl rfl) (fun w9=>by rw [E0]; try kernel_rfl))<|Bu [vI a0.fe,vI a0.fc,vI a0.fh,v0_3,vI a1] b0 .hd (o5 rfl rfl rfl (BI p0) rfl) (fun u1 d0 g1=>?_)
 refine Aa<|Ao rfl<|AB hb0 Tryz.func66 rfl (.cons (.many (cs:=[vI a0.fe,vI a0.fc,vI a0.fh,v0_3,vI a1]) (by kernel_rfl) rfl (d0.memA .hd)) .nil) rfl ?_
 cases h
 exact ⟨d0.ag,fun w9 hw9=>okOf_in ⟨v0_3,rfl,d0.k0 h0_3 hw9⟩⟩
theorem balance_count_land_c (_n:Nat) (L:List Nat) (w:World) (_hL:∀ b ∈ L,b < w.heap.size) (a0:Tcount) {v0_3:Value} (_h0_3:Rep.R w L [v0_3] a0.fj.fm)  :
    Calls Tryz.prog 84 #[.agg #[vI a0.fj.fe,vI a0.fj.fc,vI a0.fj.fh,v0_3,vI a0.fk]] w (Gives w fun w' u=>∃ b0:Nat,u = .func (.func 95) #[] #[vP b0]∧St w w' [.cells b0 [vI a0.fj.fe,vI a0.fj.fc,vI a0.fj.fh,v0_3,vI a0.fk] 110]):=by
 have hS0:=AD w
 refine AI Tryz.func84 rfl rfl rfl (fun _ cs0 hb0=>?_)
 refine Ae<|Az .plain rfl (AK hS0 rfl rfl) (fun g0 b0 c0 d0=>?_)
 refine Af rfl<|Aa<|Ae<|Ac (FV.makeFunc (vs:=[]) (us:=[vP b0]) evs_nil (e1 rfl))<|Af rfl<|Aa<|Ao rfl<|AB (u:=.func (.func 95) #[] #[vP b0]) hb0 Tryz.func84 rfl (.cons (.tmp rfl) .nil) rfl ?_
 exact ⟨c0.ag,fun w9 hw9=>⟨b0,rfl,c0.agree hw9⟩⟩
theorem body84:bodyB Tryz.prog 84 = true:=by kernel_rfl
theorem body95:bodyB Tryz.prog 95 = true:=by kernel_rfl
def balance_count_check_l1 (n:Nat) (a1:List Int) (a0:Tcount) (g0:Nat × (List (Int × Bool)) → Option ((Except Tbroken Unit) ⊕ (List (Int × Bool)))):Nat × (List (Int × Bool)) → Option ((Except Tbroken Unit) ⊕ (List (Int × Bool)))
  | (b0,d0)=>(if b0 < a1.length then (a1[b0]?).bind fun c0=>(if c0 < 0 then (balance_fail_p n true (220:Int)).bind fun p0=>exc p0 (fun _y289=>g0 (b0 + 1,mset d0 c0 true)) (fun j0=>some (.inl (.error j0))) else (balance_fail_p n (decide (a0.fk ≤ c0)) (220:Int)).bind fun q0=>exc q0 (fun _y305=>g0 (b0 + 1,mset d0 c0 true)) (fun k0=>some (.inl (.error k0)))) else some (.inr d0))
def balance_count_check_l2 (n:Nat) (a1:List Int) (a0:Tcount) (g0:Nat × (List (Int × Bool)) → Option ((Except Tbroken Unit) ⊕ (List (Int × Bool)))):Nat × (List (Int × Bool)) → Option ((Except Tbroken Unit) ⊕ (List (Int × Bool)))
  | (b0,d0)=>(if b0 < a1.length then (a1[b0]?).bind fun c0=>(if c0 < 0 then (balance_fail_p n true (220:Int)).bind fun p0=>exc p0 (fun _y467=>g0 (b0 + 1,mset d0 c0 true)) (fun j0=>some (.inl (.error j0))) else (balance_fail_p n (decide (a0.fk ≤ c0)) (220:Int)).bind fun q0=>exc q0 (fun _y483=>g0 (b0 + 1,mset d0 c0 true)) (fun k0=>some (.inl (.error k0)))) else some (.inr d0))
def balance_count_check_l3 (n:Nat) (a0:Tcount) (a1:List Int) (g0:Nat × Int → Option ((Except Tbroken Unit) ⊕ Int)):Nat × Int → Option ((Except Tbroken Unit) ⊕ Int)
  | (b0,c0)=>(if b0 < a0.fj.fm.length then (a0.fj.fm[b0]?).bind fun q0=>(if q0.fo = true then ((balance_fail_p n (!(decide (((a1.length:Nat):Int) = c0))) (220:Int)).bind fun s0=>exc s0 (fun _y184=>thn (loopF (balance_count_check_l1 n a1 a0) n (0,([]:List (Int × Bool)))) (fun d0=>(balance_fail_p n (!(decide (((d0.length:Nat):Int) = a0.fk))) (220:Int)).bind fun t0=>exc t0 (fun _y321=>some (.ok ())) (fun k0=>some (.error k0)))) (fun j0=>some (.error j0))).map .inl else (chk (c0 + 1)).bind fun p0=>g0 (b0 + 1,p0)) else some (.inr c0))
def balance_count_check_p (n:Nat) (a0:Tcount) (a1:List Int):Option (Except Tbroken Unit):=
  thn (loopF (balance_count_check_l3 n a0 a1) n (0,0)) (fun k0=>(balance_fail_p n (!(decide (((a1.length:Nat):Int) = k0))) (220:Int)).bind fun g0=>exc g0 (fun _y362=>thn (loopF (balance_count_check_l2 n a1 a0) n (0,([]:List (Int × Bool)))) (fun b0=>(balance_fail_p n (!(decide (((b0.length:Nat):Int) = a0.fk))) (220:Int)).bind fun j0=>exc j0 (fun _y499=>some (.ok ())) (fun d0=>some (.error d0)))) (fun c0=>some (.error c0)))
theorem balance_count_check_c (n:Nat) (L:List Nat) (w:World) (hL:∀ b ∈ L,b < w.heap.size) (a0:Tcount) {v0_3:Value} (h0_3:Rep.R w L [v0_3] a0.fj.fm) (a1:List Int) {v1_0:Value} (h1_0:Rep.R w L [v1_0] a1)  {r:Except Tbroken Unit} (h:balance_count_check_p n a0 a1 = some r) :
    Calls Tryz.prog 83 #[.agg #[vI a0.fj.fe,vI a0.fj.fc,vI a0.fj.fh,v0_3,vI a0.fk],v1_0] w (PGives w (fun (_y:Unit) _ u=>u = .tuple #[]) (fun e=>.iface 129 (.agg #[vI e.fD])) r):=by
 unfold balance_count_check_p at h
 have hS0:=AD w
 refine MX.startP Tryz.func83 rfl rfl rfl (fun _ cs0 hb0 hp0=>?_)
 refine Ae<|Az .plain rfl (AK hS0 rfl rfl) (fun U6 k0 R1 A5=>?_)
 refine Aa<|Ae<|Az .plain rfl (Ba [vI 0] R1) (fun V6 H0 V1 D5=>?_)
 refine Bu [vI 0] V1 .hd (o1 rfl) (fun E4 C0 I5=>?_)
 refine Aa<|Aj<|Ae<|Ac (AE rfl (C0.memA (.tl .hd)))<|AQ (fst:=[]) (cap:=[]) .plain body84 rfl (e1 rfl) (fun w9 hw9=>BC (balance_count_land_c n _ w9 (C0.hL hL hw9) a0 (C0.km h0_3 hw9)) fun (w8:World) (u8:Value) ⟨b0_,hu_,s_⟩=>(⟨b0_,hu_,s_.from hw9⟩:∃ x0:Nat,u8 = Value.func (.func 95) #[] #[vP x0]∧St E4 w8 [.cells x0 [vI a0.fj.fe,vI a0.fj.fc,vI a0.fj.fh,v0_3,vI a0.fk] 110])) rfl (fun c7 R6 F6 ⟨x0,y4,A1⟩=>?_)
 subst y4
 have j2:=mk_push1 C0 A1
 have R5:=mk_tr1 C0 A1
 refine Aa<|Au<|MX.rangeP (lb:=[vP x0]) rfl j2 rfl body95 Tryz.func95 rfl rfl rfl (fun F4 G0 t0 P0 p5 J0 c6 C4 d1 K6=>?_)
 refine Ae<|Bf 0 rfl<|Bf 3 rfl<|Ac (AJ rfl ((mem_from (J0.memA (.tl (.tl .hd))) 0) 3 _ rfl)) ?_
 have p1:=Bn h0_3 J0
 have I6:a0.fj.fm.length ≤ 281474976710656:=AO p1
 refine Ac (AZ (xs:=a0.fj.fm) Tryz.underlying36 rfl p1)<|Ab rfl<|Aa<|Au ?_
 obtain ⟨M6,d4,g1⟩:=thn_in h
 refine AW (α:=Nat × Int) (fun ⟨s0,d0⟩=>[(0,.func (.yield G0) #[] #[]),(7,v0_3),(8,vI ((a0.fj.fm.length:Nat):Int)),(9,vI ((s0:Nat):Int))]) (fun ⟨s0,d0⟩ Q0=>St w Q0 [.obj G0 (lpO P0 .ready none),.obj t0 (.deferred (some [])),.cells x0 [vI a0.fj.fe,vI a0.fj.fc,vI a0.fj.fh,v0_3,vI a0.fk] 110,.cells H0 [vI d0] 3,.cells k0 [vI a0.fj.fe,vI a0.fj.fc,vI a0.fj.fh,v0_3,vI a0.fk] 110]∧Tr F4 [.obj G0 (lpO P0 .ready none),.obj t0 (.deferred (some [])),.cells x0 [vI a0.fj.fe,vI a0.fj.fc,vI a0.fj.fh,v0_3,vI a0.fk] 110,.cells H0 [vI 0] 3,.cells k0 [vI a0.fj.fe,vI a0.fj.fc,vI a0.fj.fh,v0_3,vI a0.fk] 110] Q0 [.obj G0 (lpO P0 .ready none),.obj t0 (.deferred (some [])),.cells x0 [vI a0.fj.fe,vI a0.fj.fc,vI a0.fj.fh,v0_3,vI a0.fk] 110,.cells H0 [vI d0] 3,.cells k0 [vI a0.fj.fe,vI a0.fj.fc,vI a0.fj.fh,v0_3,vI a0.fk] 110]) (fun ⟨s0,d0⟩=>(s0,d0)) (0,0) d4 ⟨rfl,rfl,rfl,rfl,trivial⟩ ⟨J0,AA _ _⟩ ?_
 rintro X4 ⟨s0,d0⟩ Q0 Q1 ⟨I0,b3⟩ h
 unfold balance_count_check_l3 at h
 try dsimp only at h
 refine Ae<|Ac (Bg (i:=s0) (j:=a0.fj.fm.length) rfl rfl)<|Aa<|Aj<|AM rfl h (fun F1 h=>?_) (fun F1 h=>?_)
 refine Am<|Aj<|Au<|Ae<|Ab rfl ?_
 obtain ⟨A0,z4,h⟩:=bi h
 have Q3:=Bn h0_3 I0
 obtain ⟨U4,c5,E3,J3,j5,p4,P3⟩:=AS Q3 z4
 obtain ⟨C1,D1,E1,rfl,q4,s4,t4⟩:=op_TUnit p4
 refine Ac (AY 6 s0 rfl E3 rfl rfl J3)<|Ac (AE rfl P3)<|Az .plain rfl (Ba [.string ⟨#[]⟩,vI 0,vN,vN,vN,.bool false] I0) (fun W6 b5 U1 F0=>?_)
 refine Af rfl ?_
 have R3:=Aw q4 F0
 have U3:=Aw s4 F0
 have V3:=Aw t4 F0
 refine Bu [.string A0.ft,vI A0.fp,C1,D1,E1,.bool A0.fo] U1 .hd (o6 rfl rfl (BI R3) (BI U3) (BI V3) rfl) (fun X6 B0 c3=>?_)
 refine Aa<|Ae<|Bf 5 rfl<|AN rfl ((B0.memA .hd) 5 _ rfl)<|Ab rfl<|RG.ifb (s:=16) rfl h (fun G1 h=>?_) (fun G1 h=>?_)
 refine Ag<|Ag<|Ag<|Ag<|Ag<|AG rfl rfl<|Aa<|Bq rfl ?_
 have h:=thn_map h g1
 refine Ao rfl<|AB (u:=.tuple #[]) d1 Tryz.func95 rfl .nil rfl<|MX.endRange0 B0 (.tl .hd) (by intro h9; cases h9) (fun Y6 W1 B5=>?_)
 obtain ⟨y0,C5⟩:=Ay W1 (.one .hd (.one (.tl .hd) (.one (.tl .hd) (.one (.tl .hd) (.one (.tl .hd) .done)))))
 refine Aq<|Ae<|Ab rfl ?_
 have j1:=Bn h1_0 y0
 have G6:a1.length ≤ 281474976710656:=AO j1
 refine Ac (AZ (xs:=a1) Tryz.underlying33 rfl j1)<|Ac (AJ rfl ((y0.memA (.tl (.tl (.tl .hd)))) 0 _ rfl))<|Ac (Bs (i:=((a1.length:Nat):Int)) (j:=d0) rfl rfl) ?_
 obtain ⟨H4,q1,h⟩:=bi h
 rcases H4 with q5 | M7
 have h:=exc_e h
 try dsimp only at h
 refine RG.callE (fst:=[]) (cap:=[]) .plain body82 rfl (e2 rfl rfl) (fun w9 hw9=>balance_fail_c n _ w9 (y0.hL0 hL hw9) (!(decide (((a1.length:Nat):Int) = d0))) (220:Int) q1) (fun Z6 u3=>?_)
 obtain ⟨X1,E5⟩:=y0.agr u3
 refine PN.take X1 (.tl .hd) (fun b7 Y1 F5=>?_)
 obtain ⟨Z1,G5⟩:=Ay Y1 (.one .hd (.one (.tl .hd) (.one (.tl .hd) (.one (.tl .hd) .done))))
 cases h
 exact PN.leave hp0 Tryz.func83 ⟨Z1.ag,rfl⟩
 have h:=exc_o h
 try dsimp only at h
 refine Bp (.tuple #[]) body82 rfl (e2 rfl rfl) (fun w9 hw9=>Calls.okp (balance_fail_c n _ w9 (y0.hL0 hL hw9) (!(decide (((a1.length:Nat):Int) = d0))) (220:Int) q1)) rfl<|Aa<|Ae<|Az .plain rfl (Does.makeMap (κ:=Int) (ν:=Bool) y0) (fun D4 D0 X0 H5=>?_)
 refine Af rfl<|Aa<|Aj<|Ae<|Ab rfl ?_
 have W3:=Bn h1_0 X0
 refine Ac (AZ (xs:=a1) Tryz.underlying33 rfl W3)<|Ab rfl<|Aa<|Au ?_
 obtain ⟨b2,J5⟩:=Ay X0 (.one .hd (.one (.tl .hd) (.one (.tl (.tl (.tl .hd))) .done)))
 obtain ⟨P6,g4,K0⟩:=thn_in h
 refine AW (α:=Nat × (List (Int × Bool))) (fun ⟨p0,g0⟩=>[(2,vP k0),(5,.map (some D0)),(20,v1_0),(21,vI ((a1.length:Nat):Int)),(22,vI ((p0:Nat):Int))]) (fun ⟨p0,g0⟩ R0=>St w R0 [.obj D0 (mapO (g0:List (Int × Bool))),.obj t0 (.deferred (some [])),.cells k0 [vI a0.fj.fe,vI a0.fj.fc,vI a0.fj.fh,v0_3,vI a0.fk] 110]∧Tr D4 [.obj D0 (mapO ([]:List (Int × Bool))),.obj t0 (.deferred (some [])),.cells k0 [vI a0.fj.fe,vI a0.fj.fc,vI a0.fj.fh,v0_3,vI a0.fk] 110] R0 [.obj D0 (mapO (g0:List (Int × Bool))),.obj t0 (.deferred (some [])),.cells k0 [vI a0.fj.fe,vI a0.fj.fc,vI a0.fj.fh,v0_3,vI a0.fk] 110]) (fun ⟨p0,g0⟩=>(p0,g0)) (0,([]:List (Int × Bool))) g4 ⟨rfl,rfl,rfl,rfl,rfl,trivial⟩ ⟨b2,AA _ _⟩ ?_
 rintro Y4 ⟨p0,g0⟩ R0 V0 ⟨b0,b1⟩ h
 unfold balance_count_check_l1 at h
 try dsimp only at h
 refine Ae<|Ac (Bg (i:=p0) (j:=a1.length) rfl rfl)<|Aa<|Aj<|AM rfl h (fun H1 h=>?_) (fun H1 h=>?_)
 refine Am<|Aj<|Au<|Ae ?_
 obtain ⟨u0,A4,h⟩:=bi h
 have Y3:=Bn h1_0 b0
 obtain ⟨V4,d5,F3,K3,M1,u4,X3⟩:=AS Y3 A4
 have G3:M1 = [vI u0]:=u4; subst G3
 refine Ac (AY 1 p0 rfl F3 rfl rfl K3)<|AN rfl (X3 0 _ rfl)<|Af rfl<|Aa<|Ae<|Ab rfl<|Ac (FV.lss (i:=u0) (j:=0) rfl rfl)<|Ab rfl<|Bx (s:=28) rfl h (fun I1 h=>?_) (fun I1 h=>?_)
 refine Ag<|Ag<|Ag<|Ag<|AG rfl rfl ?_
 obtain ⟨I4,s1,h⟩:=bi h
 rcases I4 with s5 | P7
 have h:=exc_e h
 try dsimp only at h
 have h:=thn_inl h K0
 refine RG.callE (fst:=[]) (cap:=[]) .plain body82 rfl (e2 rfl rfl) (fun w9 hw9=>balance_fail_c n _ w9 (b0.hL0 hL hw9) true (220:Int) s1) (fun d7 v3=>?_)
 obtain ⟨c2,K5⟩:=b0.agr v3
 refine PN.take c2 (.tl .hd) (fun g7 d2 M5=>?_)
 obtain ⟨g2,P5⟩:=Ay d2 (.one .hd (.one (.tl .hd) .done))
 cases h
 exact PN.leave hp0 Tryz.func83 ⟨g2.ag,rfl⟩
 have h:=exc_o h
 try dsimp only at h
 refine Bp (.tuple #[]) body82 rfl (e2 rfl rfl) (fun w9 hw9=>Calls.okp (balance_fail_c n _ w9 (b0.hL0 hL hw9) true (220:Int) s1)) rfl<|Aa<|Al<|Ab rfl<|Ab rfl<|RG.now .plain (Acts.mapUpdate (kv:=u0) (vv:=true) b0 .hd Tryz.underlying144 Tryz.underlying3 rfl rfl rfl rfl) (fun j7 k2 d3=>?_)
 refine Aa<|Aq<|Al<|Ac (AT (i:=p0) (j:=1) rfl rfl (by omega))<|Ab rfl<|Aa ?_
 exact V0 (p0 + 1,mset g0 u0 true) _ _ ⟨rfl,rfl,rfl,rfl,rfl,trivial⟩ ⟨k2,(Tt b1 d3)⟩ h
 refine Ar (Ah rfl)<|RG.fg 4 rfl<|Ar (AJ rfl ((b0.memA (.tl (.tl .hd))) 4 _ rfl))<|Ar (FV.geq (i:=u0) (j:=a0.fk) rfl rfl)<|Bd rfl rfl ?_
 obtain ⟨J4,t1,h⟩:=bi h
 rcases J4 with t5 | Q7
 have h:=exc_e h
 try dsimp only at h
 have h:=thn_inl h K0
 refine RG.callE (fst:=[]) (cap:=[]) .plain body82 rfl (e2 rfl rfl) (fun w9 hw9=>balance_fail_c n _ w9 (b0.hL0 hL hw9) (decide (a0.fk ≤ u0)) (220:Int) t1) (fun k7 x3=>?_)
 obtain ⟨p2,Q5⟩:=b0.agr x3
 refine PN.take p2 (.tl .hd) (fun p7 q2 U5=>?_)
 obtain ⟨s2,V5⟩:=Ay q2 (.one .hd (.one (.tl .hd) .done))
 cases h
 exact PN.leave hp0 Tryz.func83 ⟨s2.ag,rfl⟩
 have h:=exc_o h
 try dsimp only at h
 refine Bp (.tuple #[]) body82 rfl (e2 rfl rfl) (fun w9 hw9=>Calls.okp (balance_fail_c n _ w9 (b0.hL0 hL hw9) (decide (a0.fk ≤ u0)) (220:Int) t1)) rfl<|Aa<|Al<|Ab rfl<|Ab rfl<|RG.now .plain (Acts.mapUpdate (kv:=u0) (vv:=true) b0 .hd Tryz.underlying144 Tryz.underlying3 rfl rfl rfl rfl) (fun q7 t2 g3=>?_)
 refine Aa<|Aq<|Al<|Ac (AT (i:=p0) (j:=1) rfl rfl (by omega))<|Ab rfl<|Aa ?_
 exact V0 (p0 + 1,mset g0 u0 true) _ _ ⟨rfl,rfl,rfl,rfl,rfl,trivial⟩ ⟨t2,(Tt b1 g3)⟩ h
 refine AR rfl ?_
 have h:=thn_inr h K0
 try dsimp only at h
 refine Al<|Ab rfl<|Ac (FV.len_map (D:=g0) b0 .hd Tryz.underlying144 rfl)<|Bf 4 rfl<|AN rfl ((b0.memA (.tl (.tl .hd))) 4 _ rfl)<|Ac (Bs (i:=((g0.length:Nat):Int)) (j:=a0.fk) rfl rfl) ?_
 obtain ⟨K4,u1,h⟩:=bi h
 rcases K4 with u5 | R7
 have h:=exc_e h
 try dsimp only at h
 refine RG.callE (fst:=[]) (cap:=[]) .plain body82 rfl (e2 rfl rfl) (fun w9 hw9=>balance_fail_c n _ w9 (b0.hL0 hL hw9) (!(decide (((g0.length:Nat):Int) = a0.fk))) (220:Int) u1) (fun s7 y3=>?_)
 obtain ⟨u2,W5⟩:=b0.agr y3
 refine PN.take u2 (.tl .hd) (fun t7 v2 X5=>?_)
 obtain ⟨x2,Y5⟩:=Ay v2 (.one .hd (.one (.tl .hd) .done))
 cases h
 exact PN.leave hp0 Tryz.func83 ⟨x2.ag,rfl⟩
 have h:=exc_o h
 try dsimp only at h
 refine Bp (.tuple #[]) body82 rfl (e2 rfl rfl) (fun w9 hw9=>Calls.okp (balance_fail_c n _ w9 (b0.hL0 hL hw9) (!(decide (((g0.length:Nat):Int) = a0.fk))) (220:Int) u1)) rfl<|Aa<|MX.fin rfl<|RT.take b0 (.tl .hd) (fun u7 y2 Z5=>?_)
 obtain ⟨z2,b6⟩:=Ay y2 (.one .hd (.one (.tl .hd) .done))
 refine AB hb0 Tryz.func83 rfl .nil rfl ?_
 cases h
 exact ⟨z2.ag,fun w9 hw9=>okOf_in rfl⟩
 refine Ar (Ah rfl)<|Ar (Ah rfl)<|Ar (AE rfl (B0.memA .hd))<|RG.yieldP (fd:=83) (vs:=[vI ((s0:Nat):Int),.agg #[.string A0.ft,vI A0.fp,C1,D1,E1,.bool A0.fo]]) (.yes rfl rfl) rfl (e2 rfl rfl) B0 (.tl .hd) C4 rfl rfl rfl (fun k5 D3 J6=>?_)
 refine Am<|MX.begin B0 (.tl .hd) (fun v7 Y0 j3=>?_)
 refine Au<|Al<|Ac (AJ rfl ((Y0.memA (.tl (.tl (.tl (.tl .hd))))) 0 _ rfl)) ?_
 obtain ⟨B1,x4,h⟩:=bi h
 refine Ac (By (i:=d0) (j:=1) rfl rfl x4)<|Bu [vI B1] Y0 (.tl (.tl (.tl (.tl .hd)))) (o1 rfl) (fun x7 A2 k3=>?_)
 refine Aa<|Aq<|MX.roundEnd D3 A2 (.tl .hd) (fun y7 B2 p3=>?_)
 refine Ar (Be rfl)<|Bd rfl rfl<|Aa<|Bv rfl<|Am<|Aq<|Al<|Ac (AT (i:=s0) (j:=1) rfl rfl (by omega))<|Ab rfl<|Aa ?_
 obtain ⟨C2,q3⟩:=Ay B2 (.one (.tl .hd) (.one (.tl .hd) (.one (.tl .hd) (.one (.tl .hd) (.one (.tl .hd) .done)))))
 have k4:=Tt F0 (Tt c3 (Tt j3 (Tt k3 (Tt p3 q3))))
 exact Q1 (s0 + 1,B1) _ _ ⟨rfl,rfl,rfl,rfl,trivial⟩ ⟨C2,(Tt b3 k4)⟩ h
 refine AR rfl ?_
 have h:=thn_inr h g1
 try dsimp only at h
 refine MX.fin rfl<|AB (u:=.tuple #[]) d1 Tryz.func95 rfl .nil rfl<|MX.endRange0 I0 .hd (by intro h9; cases h9) (fun z7 D2 d6=>?_)
 obtain ⟨z0,g6⟩:=Ay D2 (.one (.tl .hd) (.one (.tl .hd) (.one (.tl .hd) (.one (.tl .hd) .done))))
 refine Aq<|Ae<|Ab rfl ?_
 have k1:=Bn h1_0 z0
 have H6:a1.length ≤ 281474976710656:=AO k1
 refine Ac (AZ (xs:=a1) Tryz.underlying33 rfl k1)<|AN rfl ((z0.memA (.tl (.tl .hd))) 0 _ rfl)<|Ac (Bs (i:=((a1.length:Nat):Int)) (j:=d0) rfl rfl) ?_
 obtain ⟨M4,v1,h⟩:=bi h
 rcases M4 with v5 | U7
 have h:=exc_e h
 try dsimp only at h
 refine RG.callE (fst:=[]) (cap:=[]) .plain body82 rfl (e2 rfl rfl) (fun w9 hw9=>balance_fail_c n _ w9 (z0.hL0 hL hw9) (!(decide (((a1.length:Nat):Int) = d0))) (220:Int) v1) (fun A7 z3=>?_)
 obtain ⟨E2,j6⟩:=z0.agr z3
 refine PN.take E2 .hd (fun B7 F2 k6=>?_)
 obtain ⟨G2,p6⟩:=Ay F2 (.one (.tl .hd) (.one (.tl .hd) (.one (.tl .hd) .done)))
 cases h
 exact PN.leave hp0 Tryz.func83 ⟨G2.ag,rfl⟩
 have h:=exc_o h
 try dsimp only at h
 refine Bp (.tuple #[]) body82 rfl (e2 rfl rfl) (fun w9 hw9=>Calls.okp (balance_fail_c n _ w9 (z0.hL0 hL hw9) (!(decide (((a1.length:Nat):Int) = d0))) (220:Int) v1)) rfl<|Aa<|Ae<|Az .plain rfl (Does.makeMap (κ:=Int) (ν:=Bool) z0) (fun G4 E0 Z0 q6=>?_)
 refine Af rfl<|Aa<|Aj<|Ae<|Ab rfl ?_
 have Z3:=Bn h1_0 Z0
 refine Ac (AZ (xs:=a1) Tryz.underlying33 rfl Z3)<|Ab rfl<|Aa<|Au ?_
 obtain ⟨H2,s6⟩:=Ay Z0 (.one .hd (.one .hd (.one (.tl (.tl .hd)) .done)))
 obtain ⟨Q6,j4,M0⟩:=thn_in h
 refine AW (α:=Nat × (List (Int × Bool))) (fun ⟨q0,j0⟩=>[(2,vP k0),(5,.map (some E0)),(20,v1_0),(21,vI ((a1.length:Nat):Int)),(22,vI ((q0:Nat):Int))]) (fun ⟨q0,j0⟩ U0=>St w U0 [.obj E0 (mapO (j0:List (Int × Bool))),.obj t0 (.deferred (some [])),.cells k0 [vI a0.fj.fe,vI a0.fj.fc,vI a0.fj.fh,v0_3,vI a0.fk] 110]∧Tr G4 [.obj E0 (mapO ([]:List (Int × Bool))),.obj t0 (.deferred (some [])),.cells k0 [vI a0.fj.fe,vI a0.fj.fc,vI a0.fj.fh,v0_3,vI a0.fk] 110] U0 [.obj E0 (mapO (j0:List (Int × Bool))),.obj t0 (.deferred (some [])),.cells k0 [vI a0.fj.fe,vI a0.fj.fc,vI a0.fj.fh,v0_3,vI a0.fk] 110]) (fun ⟨q0,j0⟩=>(q0,j0)) (0,([]:List (Int × Bool))) j4 ⟨rfl,rfl,rfl,rfl,rfl,trivial⟩ ⟨H2,AA _ _⟩ ?_
 rintro Z4 ⟨q0,j0⟩ U0 W0 ⟨c0,c1⟩ h
 unfold balance_count_check_l2 at h
 try dsimp only at h
 refine Ae<|Ac (Bg (i:=q0) (j:=a1.length) rfl rfl)<|Aa<|Aj<|AM rfl h (fun J1 h=>?_) (fun J1 h=>?_)
 refine Am<|Aj<|Au<|Ae ?_
 obtain ⟨v0,B4,h⟩:=bi h
 have c4:=Bn h1_0 c0
 obtain ⟨W4,g5,H3,M3,P1,v4,b4⟩:=AS c4 B4
 have I3:P1 = [vI v0]:=v4; subst I3
 refine Ac (AY 1 q0 rfl H3 rfl rfl M3)<|AN rfl (b4 0 _ rfl)<|Af rfl<|Aa<|Ae<|Ab rfl<|Ac (FV.lss (i:=v0) (j:=0) rfl rfl)<|Ab rfl<|Bx (s:=28) rfl h (fun K1 h=>?_) (fun K1 h=>?_)
 refine Ag<|Ag<|Ag<|Ag<|AG rfl rfl ?_
 obtain ⟨P4,x1,h⟩:=bi h
 rcases P4 with x5 | V7
 have h:=exc_e h
 try dsimp only at h
 have h:=thn_inl h M0
 refine RG.callE (fst:=[]) (cap:=[]) .plain body82 rfl (e2 rfl rfl) (fun w9 hw9=>balance_fail_c n _ w9 (c0.hL0 hL hw9) true (220:Int) x1) (fun C7 A3=>?_)
 obtain ⟨I2,t6⟩:=c0.agr A3
 refine PN.take I2 (.tl .hd) (fun D7 J2 u6=>?_)
 obtain ⟨K2,v6⟩:=Ay J2 (.one .hd (.one (.tl .hd) .done))
 cases h
 exact PN.leave hp0 Tryz.func83 ⟨K2.ag,rfl⟩
 have h:=exc_o h
 try dsimp only at h
 refine Bp (.tuple #[]) body82 rfl (e2 rfl rfl) (fun w9 hw9=>Calls.okp (balance_fail_c n _ w9 (c0.hL0 hL hw9) true (220:Int) x1)) rfl<|Aa<|Al<|Ab rfl<|Ab rfl<|RG.now .plain (Acts.mapUpdate (kv:=v0) (vv:=true) c0 .hd Tryz.underlying144 Tryz.underlying3 rfl rfl rfl rfl) (fun E7 M2 s3=>?_)
 refine Aa<|Aq<|Al<|Ac (AT (i:=q0) (j:=1) rfl rfl (by omega))<|Ab rfl<|Aa ?_
 exact W0 (q0 + 1,mset j0 v0 true) _ _ ⟨rfl,rfl,rfl,rfl,rfl,trivial⟩ ⟨M2,(Tt c1 s3)⟩ h
 refine Ar (Ah rfl)<|RG.fg 4 rfl<|Ar (AJ rfl ((c0.memA (.tl (.tl .hd))) 4 _ rfl))<|Ar (FV.geq (i:=v0) (j:=a0.fk) rfl rfl)<|Bd rfl rfl ?_
 obtain ⟨Q4,y1,h⟩:=bi h
 rcases Q4 with y5 | W7
 have h:=exc_e h
 try dsimp only at h
 have h:=thn_inl h M0
 refine RG.callE (fst:=[]) (cap:=[]) .plain body82 rfl (e2 rfl rfl) (fun w9 hw9=>balance_fail_c n _ w9 (c0.hL0 hL hw9) (decide (a0.fk ≤ v0)) (220:Int) y1) (fun F7 B3=>?_)
 obtain ⟨P2,x6⟩:=c0.agr B3
 refine PN.take P2 (.tl .hd) (fun G7 Q2 y6=>?_)
 obtain ⟨R2,z6⟩:=Ay Q2 (.one .hd (.one (.tl .hd) .done))
 cases h
 exact PN.leave hp0 Tryz.func83 ⟨R2.ag,rfl⟩
 have h:=exc_o h
 try dsimp only at h
 refine Bp (.tuple #[]) body82 rfl (e2 rfl rfl) (fun w9 hw9=>Calls.okp (balance_fail_c n _ w9 (c0.hL0 hL hw9) (decide (a0.fk ≤ v0)) (220:Int) y1)) rfl<|Aa<|Al<|Ab rfl<|Ab rfl<|RG.now .plain (Acts.mapUpdate (kv:=v0) (vv:=true) c0 .hd Tryz.underlying144 Tryz.underlying3 rfl rfl rfl rfl) (fun H7 U2 t3=>?_)
 refine Aa<|Aq<|Al<|Ac (AT (i:=q0) (j:=1) rfl rfl (by omega))<|Ab rfl<|Aa ?_
 exact W0 (q0 + 1,mset j0 v0 true) _ _ ⟨rfl,rfl,rfl,rfl,rfl,trivial⟩ ⟨U2,(Tt c1 t3)⟩ h
 refine AR rfl ?_
 have h:=thn_inr h M0
 try dsimp only at h
 refine Al<|Ab rfl<|Ac (FV.len_map (D:=j0) c0 .hd Tryz.underlying144 rfl)<|Bf 4 rfl<|AN rfl ((c0.memA (.tl (.tl .hd))) 4 _ rfl)<|Ac (Bs (i:=((j0.length:Nat):Int)) (j:=a0.fk) rfl rfl) ?_
 obtain ⟨R4,z1,h⟩:=bi h
 rcases R4 with z5 | X7
 have h:=exc_e h
 try dsimp only at h
 refine RG.callE (fst:=[]) (cap:=[]) .plain body82 rfl (e2 rfl rfl) (fun w9 hw9=>balance_fail_c n _ w9 (c0.hL0 hL hw9) (!(decide (((j0.length:Nat):Int) = a0.fk))) (220:Int) z1) (fun I7 C3=>?_)
 obtain ⟨V2,A6⟩:=c0.agr C3
 refine PN.take V2 (.tl .hd) (fun J7 W2 B6=>?_)
 obtain ⟨X2,C6⟩:=Ay W2 (.one .hd (.one (.tl .hd) .done))
 cases h
 exact PN.leave hp0 Tryz.func83 ⟨X2.ag,rfl⟩
 have h:=exc_o h
 try dsimp only at h
 refine Bp (.tuple #[]) body82 rfl (e2 rfl rfl) (fun w9 hw9=>Calls.okp (balance_fail_c n _ w9 (c0.hL0 hL hw9) (!(decide (((j0.length:Nat):Int) = a0.fk))) (220:Int) z1)) rfl<|Aa<|MX.fin rfl<|RT.take c0 (.tl .hd) (fun K7 Y2 D6=>?_)
 obtain ⟨Z2,E6⟩:=Ay Y2 (.one .hd (.one (.tl .hd) .done))
 refine AB hb0 Tryz.func83 rfl .nil rfl ?_
 cases h
 exact ⟨Z2.ag,fun w9 hw9=>okOf_in rfl⟩
def tb86_1:List (Nat × Nat × Nat):=[(0,16,1),(0,32,2),(3,64,48),(0,128,4),(12,256,192)]
theorem body66:bodyB Tryz.prog 66 = true:=by kernel_rfl
theorem body83:bodyB Tryz.prog 83 = true:=by kernel_rfl
def balance_Check_1_p (n:Nat) (a0:TRoll) (a1:Int) (a2:List Int):Option (Except Tbroken Bool):=
  (balance_counted_p n a0 a1).bind fun y3=>exc y3 (fun d0=>(balance_count_check_p n d0 a2).bind fun g0=>exc g0 (fun _y26=>some (.ok true)) (fun c0=>some (.error c0))) (fun b0=>some (.error b0))
theorem balance_Check_1_c (n:Nat) (L:List Nat) (w:World) (hL:∀ b ∈ L,b < w.heap.size) (a0:TRoll) {v0_3:Value} (h0_3:Rep.R w L [v0_3] a0.fm) {p0:Nat} (m0:∀ j9 v9,([vI a0.fe,vI a0.fc,vI a0.fh,v0_3]:List Value)[j9]? = some v9 → w.cell? ((⟨p0,0,none⟩:Addr).add j9) = some v9) (a1:Int) {p1:Nat} (m1:∀ j9 v9,([vI a1]:List Value)[j9]? = some v9 → w.cell? ((⟨p1,0,none⟩:Addr).add j9) = some v9) (a2:List Int) {v2_0:Value} (h2_0:Rep.R w L [v2_0] a2) {p2:Nat} (m2:∀ j9 v9,([v2_0]:List Value)[j9]? = some v9 → w.cell? ((⟨p2,0,none⟩:Addr).add j9) = some v9)  {r:Except Tbroken Bool} (h:balance_Check_1_p n a0 a1 a2 = some r) :
    Calls Tryz.prog 86 #[.pointer (some ⟨p0,0,none⟩),.pointer (some ⟨p1,0,none⟩),.pointer (some ⟨p2,0,none⟩)] w (PGives w (fun (y:Bool) _ u=>u = .bool y) (fun e=>.iface 129 (.agg #[vI e.fD])) r):=by
 unfold balance_Check_1_p at h
 have hS0:=AD w
 refine MX.startP Tryz.func86 rfl rfl rfl (fun _ cs0 hb0 hp0=>?_)
 refine Ae<|Af rfl<|Aa<|Aj<|dt 5 tb86_1 (fun kt1 kp2=>?_)
 refine AV 0 1 20 kt1 rfl kp2 (AE rfl (fun j9 v9 h9=>hS0.ag.cell0 (m0 j9 v9 h9))) rfl<|AV 1 3 20 kt1 rfl kp2 (AJ rfl ((fun j9 v9 h9=>hS0.ag.cell0 (m1 j9 v9 h9)) 0 _ rfl)) rfl ?_
 obtain ⟨y3,hy3,h⟩:=bi h
 rcases y3 with x0 | g0
 have h:=exc_e h
 try dsimp only at h
 refine AV 3 11 16 kt1 rfl kp2 (AJ rfl ((fun j9 v9 h9=>hS0.ag.cell0 (m2 j9 v9 h9)) 0 _ rfl)) rfl<|RD.one (i:=2) (rk kt1) (RO.callE (fst:=[]) (cap:=[]) rfl .plain body66 rfl (e2 rfl rfl) (fun w9 hw9=>balance_counted_c n _ w9 (hS0.hL hL hw9) a0 (AH h0_3 hw9) a1 hy3) (fun E0 s0=>?_))
 obtain ⟨j0,z0⟩:=hS0.agr s0
 cases h
 exact PN.leave hp0 Tryz.func86 ⟨j0.ag,rfl⟩
 have h:=exc_o h
 try dsimp only at h
 refine AV 3 11 16 kt1 rfl kp2 (AJ rfl ((fun j9 v9 h9=>hS0.ag.cell0 (m2 j9 v9 h9)) 0 _ rfl)) rfl<|RD.cl 2 15 kt1 rfl .plain body66 rfl (e2 rfl rfl) (fun w9 hw9=>Calls.okp (balance_counted_c n _ w9 (hS0.hL hL hw9) a0 (AH h0_3 hw9) a1 hy3)) rfl (fun F0 D0 t0 ⟨C0,hu_,c0⟩=>?_)
 subst hu_
 obtain ⟨b0,A0⟩:=hS0.agr t0
 obtain ⟨v0,d0,h⟩:=bi h
 rcases v0 with y0 | H0
 have h:=exc_e h
 try dsimp only at h
 refine RD.one (i:=4) (rk kt1) (RO.callE (fst:=[]) (cap:=[]) rfl .plain body83 rfl (e2 rfl rfl) (fun w9 hw9=>balance_count_check_c n _ w9 (b0.hL0 hL hw9) g0 (b0.kd c0 hw9) a2 (b0.k0 h2_0 hw9) d0) (fun G0 u0=>?_))
 obtain ⟨q0,B0⟩:=b0.agr u0
 cases h
 exact PN.leave hp0 Tryz.func86 ⟨q0.ag,rfl⟩
 have h:=exc_o h
 try dsimp only at h
 refine RD.cq 4 31 0 (.tuple #[]) kt1 rfl kp2 body83 rfl (e2 rfl rfl) (fun w9 hw9=>Calls.okp (balance_count_check_c n _ w9 (b0.hL0 hL hw9) g0 (b0.kd c0 hw9) a2 (b0.k0 h2_0 hw9) d0)) rfl<|AX (dk kt1)<|Ae<|Af rfl<|Aa<|Ao rfl<|AL hb0 Tryz.func86 rfl rfl ?_
 cases h
 exact ⟨b0.ag,fun w9 hw9=>okOf_in rfl⟩
def tb96_6:List (Nat × Nat × Nat):=[(0,131072,32),(0,262144,8),(2,524288,262144),(1,0,131073),(15,0,524290)]
theorem body85:bodyB Tryz.prog 85 = true:=by kernel_rfl
theorem body86:bodyB Tryz.prog 86 = true:=by kernel_rfl
theorem body96:bodyB Tryz.prog 96 = true:=by kernel_rfl
def balance_Check_p (n:Nat) (a0:TRoll) (a1:List Int) (a2:Int):Option Int:=
  (balance_Check_1_p n a0 a2 a1).bind fun c0=>exc c0 (fun _y41=>some (0:Int)) (fun b0=>some b0.fD)
theorem balance_Check_c (n:Nat) (L:List Nat) (w:World) (hL:∀ b ∈ L,b < w.heap.size) (a0:TRoll) {v0_3:Value} (h0_3:Rep.R w L [v0_3] a0.fm) (a1:List Int) {v1_0:Value} (h1_0:Rep.R w L [v1_0] a1) (a2:Int)  {r:Int} (h:balance_Check_p n a0 a1 a2 = some r) :
    Calls Tryz.prog 70 #[.agg #[vI a0.fe,vI a0.fc,vI a0.fh,v0_3],v1_0,vI a2] w (Gives w fun _ u=>u = vI r):=by
 unfold balance_Check_p at h
 have hS0:=AD w
 refine AI Tryz.func70 rfl rfl rfl (fun _ cs0 hb0=>?_)
 refine Ae<|Az .plain rfl (AK hS0 rfl rfl) (fun J1 g0 D0 A1=>?_)
 have g1:=Bn h1_0 D0
 refine Az .plain rfl (AK D0 rfl (Rep.c1 g1)) (fun Q1 j0 P0 B1=>?_)
 refine Az .plain rfl (AK P0 rfl rfl) (fun R1 p0 Q0 C1=>?_)
 refine Af rfl<|Aa<|Ae<|Ac (FV.makeFunc (vs:=[]) (us:=[vP g0,vP p0,vP j0]) evs_nil (e3 rfl rfl rfl))<|BE (fst:=[]) (cap:=[]) (vs:=[.func (.func 86) #[] #[vP g0,vP p0,vP j0]]) .plain body85 Tryz.func85 rfl rfl rfl rfl (e1 rfl) rfl (fun u1 E0 I1=>?_)
 refine Ae<|Az .plain rfl (Ba [.bool false] Q0) (fun U1 q0 R0 D1=>?_)
 refine Az .plain rfl (Ba [vI 0] R0) (fun V1 d0 b0 E1=>?_)
 refine Aa<|Ae<|Ac (FV.makeFunc (vs:=[]) (us:=[vP q0,vP d0]) evs_nil (e2 rfl rfl))<|RG.defer (fst:=[]) (cap:=[vP q0,vP d0]) (vs:=[]) rfl .plain rfl evs_nil<|Aa<|Ae<|Ab rfl ?_
 obtain ⟨p1,G0,h⟩:=bi h
 rcases p1 with s0 | B0
 have h:=exc_e h
 try dsimp only at h
 refine RG.callE (fst:=[]) (cap:=[vP g0,vP p0,vP j0]) .plain body86 rfl evs_nil (fun w9 hw9=>balance_Check_1_c n _ w9 (b0.hL0 hL hw9) a0 (b0.k0 h0_3 hw9) (fun j9 v9 h9=>hw9.cell0 ((b0.memA (.tl (.tl (.tl (.tl .hd))))) j9 v9 h9)) a2 (fun j9 v9 h9=>hw9.cell0 ((b0.memA (.tl (.tl .hd))) j9 v9 h9)) a1 (b0.k0 h1_0 hw9) (fun j9 v9 h9=>hw9.cell0 ((b0.memA (.tl (.tl (.tl .hd)))) j9 v9 h9)) G0) (fun W1 Y0=>?_)
 obtain ⟨U0,F1⟩:=b0.agr Y0
 refine PN.callD (vs:=[]) (cap:=[vP q0,vP d0]) body96 Tryz.func96 rfl rfl rfl (fun s1 Z0 d1=>?_)
 refine Ae<|RG.recover1 .plain Z0 rfl<|Af rfl<|Aa<|Ae<|Ab rfl<|Ac (FV.neqI Tryz.underlying20 rfl rfl)<|Aa<|Bq rfl<|Ae<|Ab rfl<|Ac (FV.assertT (by kernel_rfl) rfl)<|Ab rfl<|Ac (Ak rfl rfl)<|Ac (Ak rfl rfl)<|Az .plain rfl (Ba [vI 0] U0) (fun X1 H0 V0 G1=>?_)
 refine Bu [vI s0.fD] V0 .hd (o1 rfl) (fun j1 x0 H1=>?_)
 refine Af rfl<|Aa<|Aj<|Ae<|Ab rfl<|Ac (Be rfl)<|Aa<|Bv rfl<|Am<|Ae<|Af rfl<|Aa<|dt 3 tb96_6 (fun c0 z0=>?_)
 refine Ai 0 1 c0 rfl z0 (fun _=>Ah rfl) rfl<|Ai 1 3 c0 rfl z0 (fun _=>Br 0 rfl) rfl<|RD.meet (α:=Unit) (fun ()=>[(1,vP d0),(19,vI s0.fD)]) (fun () A0=>St w A0 [.cells d0 [vI 0] 46,.cells q0 [.bool false] 4,.cells p0 [vI a2] 3,.cells j0 [v1_0] 33,.cells g0 [vI a0.fe,vI a0.fc,vI a0.fh,v0_3] 38]∧Tr j1 [.cells H0 [vI s0.fD] 129,.cells d0 [vI 0] 46,.cells q0 [.bool false] 4,.cells p0 [vI a2] 3,.cells j0 [v1_0] 33,.cells g0 [vI a0.fe,vI a0.fc,vI a0.fh,v0_3] 38] A0 [.cells d0 [vI 0] 46,.cells q0 [.bool false] 4,.cells p0 [vI a2] 3,.cells j0 [v1_0] 33,.cells g0 [vI a0.fe,vI a0.fc,vI a0.fh,v0_3] 38]) 1 15 ?_ ?_
 rintro ⟨⟩ A0 ⟨I0,v1⟩
 try dsimp only
 refine RD.nw 4 31 c0 rfl rfl .plain (Acts.storeAll (news:=[vI s0.fD]) I0 .hd rfl rfl rfl rfl rfl rfl (o1 rfl)) (fun K1 u0 x1=>?_)
 refine AX (dk c0)<|MX.fin rfl<|RT.leaveD1 d1 Tryz.func96 rfl .nil<|AB (u:=.tuple #[.bool false,vI s0.fD]) E0 Tryz.func85 rfl (.cons (.one (by kernel_rfl) rfl ((u0.memA (.tl .hd)) 0 _ rfl)) (.cons (.one (by kernel_rfl) rfl ((u0.memA .hd) 0 _ rfl)) .nil)) rfl<|Ab rfl<|Ac (Ak rfl rfl)<|Ac (Ak rfl rfl)<|Af rfl<|Af rfl<|Aa<|Ae<|Ab rfl<|Af rfl<|Aa<|Ao rfl<|AL hb0 Tryz.func70 rfl rfl ?_
 cases h
 exact u0.gv
 intro C0
 refine RD.each [2,3] (rk c0) ⟨?_,?_,trivial⟩
 refine RO.val (m' :=7) (sk c0) rfl .plain rfl (AJ rfl ((x0.memA .hd) 0 _ rfl))<|RD.nw 3 15 c0 rfl rfl .plain (Acts.storeAll (news:=[.bool false]) x0 (.tl (.tl .hd)) rfl rfl rfl rfl rfl rfl (o1 rfl)) (fun k1 t0 y0=>?_)
 obtain ⟨J0,W0⟩:=Ay t0 (.one (.tl .hd) (.one (.tl .hd) (.one (.tl .hd) (.one (.tl .hd) (.one (.tl .hd) .done)))))
 exact C0 () _ _ ⟨rfl,rfl,trivial⟩ ⟨J0,(Tt y0 W0)⟩
 refine RO.now (m' :=11) (sk c0) rfl rfl .plain (Acts.storeAll (news:=[.bool false]) x0 (.tl (.tl .hd)) rfl rfl rfl rfl rfl rfl (o1 rfl)) (fun k1 t0 y0=>?_)
 refine AV 2 15 16 c0 rfl z0 (AJ rfl ((t0.memA .hd) 0 _ rfl)) rfl ?_
 obtain ⟨K0,X0⟩:=Ay t0 (.one (.tl .hd) (.one (.tl .hd) (.one (.tl .hd) (.one (.tl .hd) (.one (.tl .hd) .done)))))
 exact C0 () _ _ ⟨rfl,rfl,trivial⟩ ⟨K0,(Tt y0 X0)⟩
 have h:=exc_o h
 try dsimp only at h
 refine RG.callq' (v:=.bool B0) (fst:=[]) (cap:=[vP g0,vP p0,vP j0]) .plain body86 rfl evs_nil (fun w9 hw9=>Calls.okp (balance_Check_1_c n _ w9 (b0.hL0 hL hw9) a0 (b0.k0 h0_3 hw9) (fun j9 v9 h9=>hw9.cell0 ((b0.memA (.tl (.tl (.tl (.tl .hd))))) j9 v9 h9)) a2 (fun j9 v9 h9=>hw9.cell0 ((b0.memA (.tl (.tl .hd))) j9 v9 h9)) a1 (b0.k0 h1_0 hw9) (fun j9 v9 h9=>hw9.cell0 ((b0.memA (.tl (.tl (.tl .hd)))) j9 v9 h9)) G0)) rfl<|Bu [.bool B0] b0 (.tl .hd) (o1 rfl) (fun M1 M0 y1=>?_)
 refine Bu [vI 0] M0 .hd (o1 rfl) (fun P1 v0 z1=>?_)
 refine Aa<|Ao rfl<|RT.callD (vs:=[]) (cap:=[vP q0,vP d0]) body96 Tryz.func96 rfl rfl rfl (fun q1 F0 b1=>?_)
 refine Ae<|RG.recover0 .plain F0 rfl<|Af rfl<|Aa<|Ae<|Ab rfl<|Ac (FV.neqI0 Tryz.underlying20 rfl rfl)<|Aa<|Bv rfl<|Am<|MX.fin rfl<|RT.leaveD0 F0 b1 Tryz.func96 rfl .nil<|AB (u:=.tuple #[.bool B0,vI 0]) E0 Tryz.func85 rfl (.cons (.one (by kernel_rfl) rfl ((v0.memA (.tl .hd)) 0 _ rfl)) (.cons (.one (by kernel_rfl) rfl ((v0.memA .hd) 0 _ rfl)) .nil)) rfl<|Ab rfl<|Ac (Ak rfl rfl)<|Ac (Ak rfl rfl)<|Af rfl<|Af rfl<|Aa<|Ae<|Ab rfl<|Af rfl<|Aa<|Ao rfl ?_
 refine AL hb0 Tryz.func70 rfl rfl ?_
 cases h
 exact v0.gv
theorem body54:bodyB Tryz.prog 54 = true:=by kernel_rfl
theorem body55:bodyB Tryz.prog 55 = true:=by kernel_rfl
theorem body70:bodyB Tryz.prog 70 = true:=by kernel_rfl
def split_planned_p (n:Nat) (a0:TRoll) (a1:List Int) (a2:Int) (a3:Int):Option ((List Tparent) × Int):=
  (balance_Check_p n a0 a1 a2).bind fun c0=>(if c0 = 0 then (split_seen_p n a0 a3).bind fun b0=>(if b0.2 = 0 then (split_view_parents_p n b0.1 a1).bind fun d0=>some (d0,(0:Int)) else some (([]:List Tparent),b0.2)) else some (([]:List Tparent),c0))
theorem split_planned_c (n:Nat) (L:List Nat) (w:World) (hL:∀ b ∈ L,b < w.heap.size) (a0:TRoll) {v0_3:Value} (h0_3:Rep.R w L [v0_3] a0.fm) (a1:List Int) {v1_0:Value} (h1_0:Rep.R w L [v1_0] a1) (a2:Int) (a3:Int)  {r:(List Tparent) × Int} (h:split_planned_p n a0 a1 a2 a3 = some r) :
    Calls Tryz.prog 43 #[.agg #[vI a0.fe,vI a0.fc,vI a0.fh,v0_3],v1_0,vI a2,vI a3] w (Gives w fun w' u=>∃ v0_0:Value,u = .tuple #[v0_0,vI r.2]∧Rep.R w' L [v0_0] r.1):=by
 unfold split_planned_p at h
 have hS0:=AD w
 refine AI Tryz.func43 rfl rfl rfl (fun _ cs0 hb0=>?_)
 refine Ae<|Az .plain rfl (AK hS0 rfl rfl) (fun W0 K0 b0 P0=>?_)
 refine Af rfl<|Af rfl<|Aa<|Aj<|Ae<|Ac (AE rfl (b0.memA .hd))<|Ab rfl<|Ab rfl ?_
 obtain ⟨q0,F0,h⟩:=bi h
 refine Bp (vI q0) body70 rfl (e3 rfl rfl rfl) (fun w9 hw9=>balance_Check_c n _ w9 (b0.hL0 hL hw9) a0 (b0.k0 h0_3 hw9) a1 (b0.k0 h1_0 hw9) a2 F0) rfl<|Af rfl<|Aa<|Ae<|Ab rfl<|Ac (Bs (i:=q0) (j:=0) rfl rfl)<|Aa<|MX.ifn rfl h (fun s0 h=>?_) (fun s0 h=>?_)
 refine Am<|Ae<|Ac (AE rfl (b0.memA .hd))<|Ab rfl ?_
 obtain ⟨d0,G0,h⟩:=bi h
 refine AQ (fst:=[]) (cap:=[]) .plain body54 rfl (e2 rfl rfl) (fun w9 hw9=>split_seen_c n _ w9 (b0.hL hL hw9) a0 (b0.km h0_3 hw9) a3 G0) rfl (fun X0 V0 y0 ⟨I0,hu_,p0⟩=>?_)
 subst hu_
 obtain ⟨u0,Q0⟩:=b0.agr y0
 refine Ab rfl<|Ac (Ak rfl rfl)<|Ac (Ak rfl rfl)<|Az .plain rfl (Ba [vI 0,vI 0,vI 0,vN,vI 0] u0) (fun Y0 M0 v0 j0=>?_)
 have A0:=Aw p0 j0
 refine Bu [vI d0.1.fj.fe,vI d0.1.fj.fc,vI d0.1.fj.fh,I0,vI d0.1.fu] v0 .hd (o5 rfl rfl rfl (BI A0) rfl) (fun Z0 c0 x0=>?_)
 refine Af rfl<|Aa<|Aj<|Ae<|Ab rfl<|Ac (Bs (i:=d0.2) (j:=0) rfl rfl)<|Aa<|MX.ifn rfl h (fun t0 h=>?_) (fun t0 h=>?_)
 refine Am<|Ae<|Ac (AE rfl (c0.memA .hd))<|Ab rfl ?_
 obtain ⟨c1,H0,h⟩:=bi h
 have B0:=Aw p0 (Tt j0 x0)
 refine AQ (fst:=[]) (cap:=[]) .plain body55 rfl (e2 rfl rfl) (fun w9 hw9=>split_view_parents_c n _ w9 (c0.hL hL hw9) d0.1 (AH B0 hw9) a1 (c0.km h1_0 hw9) H0) rfl (fun b1 J0 z0 ⟨U0,hu_,C0⟩=>?_)
 subst hu_
 obtain ⟨g0,R0⟩:=c0.agr z0
 refine Af rfl<|Af rfl<|Aa<|Ao rfl<|AB hb0 Tryz.func43 rfl (.cons (.tmp rfl) (.cons (.tmp rfl) .nil)) rfl ?_
 cases h
 exact ⟨g0.ag,fun w9 hw9=>⟨J0,rfl,g0.kd C0 hw9⟩⟩
 refine Ae<|Ab rfl<|Af rfl<|Af rfl<|Aa<|Ao rfl ?_
 have D0:=Bt (α:=Tparent) c0 L
 refine AB hb0 Tryz.func43 rfl (.cons (.tmp rfl) (.cons (.tmp rfl) .nil)) rfl ?_
 cases h
 exact ⟨c0.ag,fun w9 hw9=>⟨vN,rfl,c0.kd D0 hw9⟩⟩
 refine Ae<|Ab rfl<|Af rfl<|Af rfl<|Aa<|Ao rfl ?_
 have E0:=Bt (α:=Tparent) b0 L
 refine AB hb0 Tryz.func43 rfl (.cons (.tmp rfl) (.cons (.tmp rfl) .nil)) rfl ?_
 cases h
 exact ⟨b0.ag,fun w9 hw9=>⟨vN,rfl,b0.kd E0 hw9⟩⟩
def split_every_p (_n:Nat) (_a0:Tparent):Option Bool:=
  some true
theorem split_every_c (n:Nat) (L:List Nat) (w:World) (_hL:∀ b ∈ L,b < w.heap.size) (a0:Tparent)  {r:Bool} (h:split_every_p n a0 = some r) :
    Calls Tryz.prog 45 #[.agg #[vI a0.fA,vI a0.fy,.int .u8 (a0.fq.toNat:Int)]] w (Gives w fun _ u=>u = .bool r):=by
 unfold split_every_p at h
 have hS0:=AD w
 refine AI Tryz.func45 rfl rfl rfl (fun _ cs0 hb0=>?_)
 refine Ae<|Az .plain rfl (AK hS0 rfl rfl) (fun g0 c0 b0 d0=>?_)
 refine Af rfl<|Aa<|Ae<|Af rfl<|Aa<|Ao rfl<|AL hb0 Tryz.func45 rfl rfl ?_
 cases h
 exact b0.gv
def stab1:List UInt8:=[0,1,1,2,1,2,2,3,1,2,2,3,2,3,3,4,1,2,2,3,2,3,3,4,2,3,3,4,3,4,4,5,1,2,2,3,2,3,3,4,2,3,3,4,3,4,4,5,2,3,3,4,3,4,4,5,3,4,4,5,4,5,5,6,1,2,2,3,2,3,3,4,2,3,3,4,3,4,4,5,2,3,3,4,3,4,4,5,3,4,4,5,4,5,5,6,2,3,3,4,3,4,4,5,3,4,4,5,4,5,5,6,3,4,4,5,4,5,5,6,4,5,5,6,5,6,6,7,1,2,2,3,2,3,3,4,2,3,3,4,3,4,4,5,2,3,3,4,3,4,4,5,3,4,4,5,4,5,5,6,2,3,3,4,3,4,4,5,3,4,4,5,4,5,5,6,3,4,4,5,4,5,5,6,4,5,5,6,5,6,6,7,2,3,3,4,3,4,4,5,3,4,4,5,4,5,5,6,3,4,4,5,4,5,5,6,4,5,5,6,5,6,6,7,3,4,4,5,4,5,5,6,4,5,5,6,5,6,6,7,4,5,5,6,5,6,6,7,5,6,6,7,6,7,7,8]
def math_bits_OnesCount8_p (_n:Nat) (a0:UInt8):Option Int:=
  (stab1[a0.toNat]?).bind fun z1=>some ((z1.toNat:Nat):Int)
theorem math_bits_OnesCount8_c (n:Nat) (L:List Nat) (w:World) (_hL:∀ b ∈ L,b < w.heap.size) (a0:UInt8)  {r:Int} (h:math_bits_OnesCount8_p n a0 = some r) :
    Calls Tryz.prog 71 #[.int .u8 (a0.toNat:Int)] w (Gives w fun _ u=>u = vI r):=by
 unfold math_bits_OnesCount8_p at h
 have hS0:=AD w
 refine AI Tryz.func71 rfl rfl rfl (fun _ cs0 hb0=>?_)
 refine Ae<|Af rfl<|Aa<|Ae<|Ab rfl ?_
 obtain ⟨z1,hz1,h⟩:=bi h
 refine Ac (FV.strIdx (k:=a0.toNat) (tab:=stab1) Tryz.underlying9 rfl rfl rfl rfl hz1) ?_
 have hu2:=z1.toNat_lt
 refine Ac (FV.convN (i:=z1.toNat) Tryz.underlying5 Tryz.underlying3 rfl (by omega))<|Af rfl<|Aa<|Ao rfl<|AL hb0 Tryz.func71 rfl rfl ?_
 cases h
 exact hS0.gv
theorem body71:bodyB Tryz.prog 71 = true:=by kernel_rfl
def split_parent_pieces_p (n:Nat) (a0:Tparent):Option Int:=
  (math_bits_OnesCount8_p n a0.fq).bind fun b0=>some b0
theorem split_parent_pieces_c (n:Nat) (L:List Nat) (w:World) (hL:∀ b ∈ L,b < w.heap.size) (a0:Tparent)  {r:Int} (h:split_parent_pieces_p n a0 = some r) :
    Calls Tryz.prog 46 #[.agg #[vI a0.fA,vI a0.fy,.int .u8 (a0.fq.toNat:Int)]] w (Gives w fun _ u=>u = vI r):=by
 unfold split_parent_pieces_p at h
 have hS0:=AD w
 refine AI Tryz.func46 rfl rfl rfl (fun _ cs0 hb0=>?_)
 refine Ae<|Az .plain rfl (AK hS0 rfl rfl) (fun k0 g0 b0 j0=>?_)
 refine Af rfl<|Aa<|Ae<|Bf 2 rfl<|AN rfl ((b0.memA .hd) 2 _ rfl) ?_
 obtain ⟨d0,c0,h⟩:=bi h
 refine Bp (vI d0) body71 rfl (e1 rfl) (fun w9 hw9=>math_bits_OnesCount8_c n _ w9 (b0.hL0 hL hw9) a0.fq c0) rfl<|Af rfl<|Aa<|Ao rfl<|AL hb0 Tryz.func46 rfl rfl ?_
 cases h
 exact b0.gv
theorem el32:ElT Tryz.prog 32 3 (Rep.size Int) 8 (vI 0) [vI 0]:=⟨Tryz.underlying32,by kernel_rfl,rfl,rfl,rfl,rfl⟩
theorem body43:bodyB Tryz.prog 43 = true:=by kernel_rfl
theorem body44:bodyB Tryz.prog 44 = true:=by kernel_rfl
theorem body45:bodyB Tryz.prog 45 = true:=by kernel_rfl
theorem body46:bodyB Tryz.prog 46 = true:=by kernel_rfl
def split_Pieces_l1 (n:Nat) (j0:(List Tparent) × Int) (d0:Nat × (List Int) → Option (List Int)):Nat × (List Int) → Option (List Int)
  | (b0,c0)=>(if b0 < j0.1.length then (j0.1[b0]?).bind fun g0=>(split_every_p n g0).bind fun p0=>(if p0 = true then (split_parent_pieces_p n g0).bind fun q0=>(app c0 ([q0]:List Int)).bind fun k0=>d0 (b0 + 1,k0) else d0 (b0 + 1,c0)) else some c0)
def split_Pieces_p (n:Nat) (a0:TRoll) (a1:List Int) (a2:Int) (a3:Int):Option ((List Int) × Int):=
  (split_planned_p n a0 a1 a2 a3).bind fun b0=>(if b0.2 = 0 then Option.bind (loopF (split_Pieces_l1 n b0) n (0,([]:List Int))) (fun c0=>some (c0,(0:Int))) else some (([]:List Int),b0.2))
theorem split_Pieces_c (n:Nat) (L:List Nat) (w:World) (hL:∀ b ∈ L,b < w.heap.size) (a0:TRoll) {v0_3:Value} (h0_3:Rep.R w L [v0_3] a0.fm) (a1:List Int) {v1_0:Value} (h1_0:Rep.R w L [v1_0] a1) (a2:Int) (a3:Int)  {r:(List Int) × Int} (h:split_Pieces_p n a0 a1 a2 a3 = some r) :
    Calls Tryz.prog 15 #[.agg #[vI a0.fe,vI a0.fc,vI a0.fh,v0_3],v1_0,vI a2,vI a3] w (Gives w fun w' u=>∃ v0_0:Value,u = .tuple #[v0_0,vI r.2]∧Rep.R w' L [v0_0] r.1):=by
 unfold split_Pieces_p at h
 have hS0:=AD w
 refine AI Tryz.func15 rfl rfl rfl (fun _ cs0 hb0=>?_)
 refine Ae<|Az .plain rfl (AK hS0 rfl rfl) (fun s2 u0 p0 c2=>?_)
 refine Af rfl<|Af rfl<|Aa<|Ae<|Ac (AE rfl (p0.memA .hd))<|Ab rfl<|Ab rfl<|Ab rfl ?_
 obtain ⟨t0,I1,h⟩:=bi h
 refine AQ (fst:=[]) (cap:=[]) .plain body43 rfl (e4 rfl rfl rfl rfl) (fun w9 hw9=>split_planned_c n _ w9 (p0.hL hL hw9) a0 (p0.km h0_3 hw9) a1 (p0.km h1_0 hw9) a2 a3 I1) rfl (fun P1 q2 d1 ⟨K0,hu_,C0⟩=>?_)
 subst hu_
 obtain ⟨q0,g2⟩:=p0.agr d1
 refine Ab rfl<|Ac (Ak rfl rfl)<|Ac (Ak rfl rfl)<|Af rfl<|Af rfl<|Aa<|Aj<|Ae<|Ab rfl<|Ac (Bs (i:=t0.2) (j:=0) rfl rfl)<|Aa<|MX.ifn rfl h (fun Q0 h=>?_) (fun Q0 h=>?_)
 refine Am<|Ae<|Ab rfl<|BE (fst:=[]) (cap:=[]) (vs:=[K0,.func (.func 45) #[] #[],.func (.func 46) #[] #[]]) .plain body44 Tryz.func44 rfl rfl rfl rfl (e3 rfl rfl rfl) rfl (fun b2 g1 k2=>?_)
 refine Ae<|Af rfl<|Aa<|Aj<|Ae<|Ab rfl ?_
 have j2:t0.1.length ≤ 281474976710656:=AO C0
 refine Ac (AZ (xs:=t0.1) Tryz.underlying83 rfl C0)<|Ab rfl<|Aa<|Au ?_
 have E0:=q0.nilRow 3 (Rep.size Int)
 have c1:=BF q0 3 (Rep.size Int)
 have p1:=Av (cs:=[]) (xs:=([]:List Int)) E0 L (AC _ _)
 obtain ⟨p2,A1,s1⟩:=bind_in2 h
 refine AW (α:=Nat × (List Int) × Value × (List Value)) (fun ⟨b0,d0,c0,g0⟩=>[(1,.func (.func 45) #[] #[]),(2,.func (.func 46) #[] #[]),(6,c0),(9,K0),(10,vI ((t0.1.length:Nat):Int)),(11,vI ((b0:Nat):Int))]) (fun ⟨b0,d0,c0,g0⟩ x0=>St w x0 [.row w.heap.size 3 (Rep.size Int) c0 d0.length g0,.cells u0 [vI a0.fe,vI a0.fc,vI a0.fh,v0_3] 38]∧Tr P1 [.row w.heap.size 3 (Rep.size Int) vN (([]:List Int).length) [],.cells u0 [vI a0.fe,vI a0.fc,vI a0.fh,v0_3] 38] x0 [.row w.heap.size 3 (Rep.size Int) c0 d0.length g0,.cells u0 [vI a0.fe,vI a0.fc,vI a0.fh,v0_3] 38]∧Cells x0 (bl [.row w.heap.size 3 (Rep.size Int) c0 d0.length g0,.cells u0 [vI a0.fe,vI a0.fc,vI a0.fh,v0_3] 38] ++ L) g0 d0) (fun ⟨b0,d0,c0,g0⟩=>(b0,d0)) (0,([]:List Int),vN,[]) A1 ⟨rfl,rfl,rfl,rfl,rfl,rfl,trivial⟩ ⟨E0,AA _ _,p1⟩ ?_
 rintro V1 ⟨b0,d0,c0,g0⟩ x0 D0 ⟨v0,A0,B0⟩ h
 unfold split_Pieces_l1 at h
 try dsimp only at h
 refine Ae<|Ac (Bg (i:=b0) (j:=t0.1.length) rfl rfl)<|Aa<|Aj<|AM rfl h (fun M0 h=>?_) (fun M0 h=>?_)
 refine Am<|Aj<|Au<|Ae ?_
 obtain ⟨s0,G1,h⟩:=bi h
 have v1:=Aw C0 (Tt c1 A0)
 obtain ⟨U1,Y1,q1,t1,Z1,C1,u1⟩:=AS v1 G1
 obtain rfl:=op_Tparent C1
 refine Ac (AY 3 b0 rfl q1 rfl rfl t1)<|Ac (AE rfl u1)<|Az .plain rfl (Ba [vI 0,vI 0,.int .u8 0] v0) (fun t2 W1 U0 F0=>?_)
 refine Bu [vI s0.fA,vI s0.fy,.int .u8 (s0.fq.toNat:Int)] U0 .hd (onesB rfl) (fun u2 k0 G0=>?_)
 refine Aa<|Ae<|Ab rfl<|Ac (AE rfl (k0.memA .hd)) ?_
 obtain ⟨R1,J1,h⟩:=bi h
 refine Bp (.bool R1) body45 rfl (e1 rfl) (fun w9 hw9=>split_every_c n _ w9 (k0.hL0 hL hw9) s0 J1) rfl<|Aa<|MX.ifb rfl h (fun P0 h=>?_) (fun P0 h=>?_)
 refine Al<|Ab rfl<|Ab rfl<|Ac (AE rfl (k0.memA .hd)) ?_
 obtain ⟨j0,K1,h⟩:=bi h
 refine Bp (vI j0) body46 rfl (e1 rfl) (fun w9 hw9=>split_parent_pieces_c n _ w9 (k0.hL0 hL hw9) s0 K1) rfl<|Az .plain rfl (AF (α:=Int) (xs:=([j0]:List Int)) (vs:=[vI j0]) (ds' :=[vI j0]) rfl k0 el32 rfl (e1 rfl) (by kernel_rfl) rfl) (fun v2 X1 y0 Y0=>?_)
 have j1:=Av (cs:=[vI j0]) (xs:=(([j0]:List Int):List Int)) y0 L (Ax (cs:=[vI j0]) (ds:=[]) rfl (AC _ _))
 obtain ⟨Q1,H1,h⟩:=bi h
 have I0:=Tt F0 (Tt G0 Y0)
 have x1:=Ap B0 I0
 refine RG.doesL .plain rfl (Bc (α:=Int) (ys:=([j0]:List Int)) H1 y0 (fun _ _=>(.tl (.tl .hd))) el32 rfl rfl x1 (Src.row (α:=Int) y0 .hd j1)) (fun M1 x2 ⟨R0,V0,Z0,k1⟩=>?_)
 refine Af rfl<|Aa<|Aq<|Al<|Ac (AT (i:=b0) (j:=1) rfl rfl (by omega))<|Ab rfl<|Aa ?_
 obtain ⟨W0,H0⟩:=Ay V0 (.one (.tl (.tl .hd)) (.one (.tl (.tl .hd)) .done))
 have y1:=Ap k1 H0
 have B1:=Tt I0 (Tt Z0 H0)
 exact D0 (b0 + 1,Q1,M1,R0) _ _ ⟨rfl,rfl,rfl,rfl,rfl,rfl,trivial⟩ ⟨W0,(Tt A0 B1),y1⟩ h
 refine Am<|Aq<|Al<|Ac (AT (i:=b0) (j:=1) rfl rfl (by omega))<|Ab rfl<|Aa ?_
 obtain ⟨X0,b1⟩:=Ay k0 (.one (.tl .hd) (.one (.tl .hd) .done))
 have J0:=Tt F0 (Tt G0 b1)
 have z1:=Ap B0 J0
 exact D0 (b0 + 1,d0,c0,g0) _ _ ⟨rfl,rfl,rfl,rfl,rfl,rfl,trivial⟩ ⟨X0,(Tt A0 J0),z1⟩ h
 refine AR rfl ?_
 have h:=s1 _ h
 try dsimp only at h
 refine Ae<|Ab rfl<|Af rfl<|Aa<|Ao rfl<|AB (u:=c0) g1 Tryz.func44 rfl (.cons (.tmp rfl) .nil) rfl<|Af rfl<|Af rfl<|Aa<|Ao rfl ?_
 have D1:=AU (α:=Int) v0 .hd B0 hL
 have z0:=Bk v0 .hd
 have d2:=Bl v0 .hd
 have E1:=Bm (α:=Int) (v:=c0) (xs:=d0) z0 L D1
 refine AB hb0 Tryz.func15 rfl (.cons (.tmp rfl) (.cons (.tmp rfl) .nil)) rfl ?_
 cases h
 exact ⟨z0.ag,fun w9 hw9=>⟨c0,rfl,z0.kd E1 hw9⟩⟩
 refine Ae<|Ab rfl<|Af rfl<|Af rfl<|Aa<|Ao rfl ?_
 have F1:=Bt (α:=Int) q0 L
 refine AB hb0 Tryz.func15 rfl (.cons (.tmp rfl) (.cons (.tmp rfl) .nil)) rfl ?_
 cases h
 exact ⟨q0.ag,fun w9 hw9=>⟨vN,rfl,q0.kd F1 hw9⟩⟩
def split_Splits_1_p (n:Nat) (a0:Tparent):Option Bool:=
  (split_parent_pieces_p n a0).bind fun b0=>some (decide (1 < b0))
theorem split_Splits_1_c (n:Nat) (L:List Nat) (w:World) (hL:∀ b ∈ L,b < w.heap.size) (a0:Tparent)  {r:Bool} (h:split_Splits_1_p n a0 = some r) :
    Calls Tryz.prog 50 #[.agg #[vI a0.fA,vI a0.fy,.int .u8 (a0.fq.toNat:Int)]] w (Gives w fun _ u=>u = .bool r):=by
 unfold split_Splits_1_p at h
 have hS0:=AD w
 refine AI Tryz.func50 rfl rfl rfl (fun _ cs0 hb0=>?_)
 refine Ae<|Az .plain rfl (AK hS0 rfl rfl) (fun k0 g0 b0 j0=>?_)
 refine Af rfl<|Aa<|Ae<|Ac (AE rfl (b0.memA .hd)) ?_
 obtain ⟨c0,d0,h⟩:=bi h
 refine Bp (vI c0) body46 rfl (e1 rfl) (fun w9 hw9=>split_parent_pieces_c n _ w9 (b0.hL0 hL hw9) a0 d0) rfl<|Ac (FV.gtr (i:=c0) (j:=1) rfl rfl)<|Af rfl<|Aa<|Ao rfl<|AL hb0 Tryz.func50 rfl rfl ?_
 cases h
 exact b0.gv
def split_name_p (_n:Nat) (a0:Tparent):Option Int:=
  some a0.fA
theorem split_name_c (n:Nat) (L:List Nat) (w:World) (_hL:∀ b ∈ L,b < w.heap.size) (a0:Tparent)  {r:Int} (h:split_name_p n a0 = some r) :
    Calls Tryz.prog 51 #[.agg #[vI a0.fA,vI a0.fy,.int .u8 (a0.fq.toNat:Int)]] w (Gives w fun _ u=>u = vI r):=by
 unfold split_name_p at h
 have hS0:=AD w
 refine AI Tryz.func51 rfl rfl rfl (fun _ cs0 hb0=>?_)
 refine Ae<|Az .plain rfl (AK hS0 rfl rfl) (fun g0 c0 b0 d0=>?_)
 refine Af rfl<|Aa<|Ae<|Bf 0 rfl<|AN rfl ((b0.memA .hd) 0 _ rfl)<|Af rfl<|Aa<|Ao rfl<|AL hb0 Tryz.func51 rfl rfl ?_
 cases h
 exact b0.gv
def split_sum_l1 (_n:Nat) (a0:List Int) (d0:Int × Nat → Option Int):Int × Nat → Option Int
  | (c0,b0)=>(if b0 < a0.length then (a0[b0]?).bind fun j0=>(chk (c0 + j0)).bind fun g0=>d0 (g0,b0 + 1) else some c0)
def split_sum_p (n:Nat) (a0:List Int):Option Int:=
  Option.bind (loopF (split_sum_l1 n a0) n (0,0)) (fun b0=>some b0)
theorem split_sum_c (n:Nat) (L:List Nat) (w:World) (_hL:∀ b ∈ L,b < w.heap.size) (a0:List Int) {v0_0:Value} (h0_0:Rep.R w L [v0_0] a0)  {r:Int} (h:split_sum_p n a0 = some r) :
    Calls Tryz.prog 52 #[v0_0] w (Gives w fun _ u=>u = vI r):=by
 unfold split_sum_p at h
 have hS0:=AD w
 refine AI Tryz.func52 rfl rfl rfl (fun _ cs0 hb0=>?_)
 refine Ae<|Af rfl<|Aa<|Aj<|Ae<|Ab rfl ?_
 have hl1:a0.length ≤ 281474976710656:=AO h0_0
 refine Ac (AZ (xs:=a0) Tryz.underlying32 rfl h0_0)<|Ab rfl<|Aa<|Au ?_
 obtain ⟨I0,A0,v0⟩:=bind_in2 h
 refine AW (α:=Int × Nat) (fun ⟨c0,b0⟩=>[(2,vI c0),(5,v0_0),(6,vI ((a0.length:Nat):Int)),(7,vI ((b0:Nat):Int))]) (fun ⟨c0,b0⟩ g0=>St w g0 []∧Tr w [] g0 []) (fun ⟨c0,b0⟩=>(c0,b0)) (0,0) A0 ⟨rfl,rfl,rfl,rfl,trivial⟩ ⟨hS0,AA _ _⟩ ?_
 rintro G0 ⟨c0,b0⟩ g0 q0 ⟨d0,s0⟩ h
 unfold split_sum_l1 at h
 try dsimp only at h
 refine Ae<|Ac (Bg (i:=b0) (j:=a0.length) rfl rfl)<|Aa<|Aj<|AM rfl h (fun k0 h=>?_) (fun k0 h=>?_)
 refine Am<|Aj<|Au<|Ae ?_
 obtain ⟨j0,D0,h⟩:=bi h
 have z0:=Bn h0_0 d0
 obtain ⟨F0,H0,t0,x0,p0,B0,y0⟩:=AS z0 D0
 have u0:p0 = [vI j0]:=B0; subst u0
 refine Ac (AY 1 b0 rfl t0 rfl rfl x0)<|AN rfl (y0 0 _ rfl)<|Af rfl<|Aa<|Al<|Ab rfl<|Ab rfl ?_
 obtain ⟨E0,C0,h⟩:=bi h
 refine Ac (By (i:=c0) (j:=j0) rfl rfl C0)<|Af rfl<|Aa<|Aq<|Al<|Ac (AT (i:=b0) (j:=1) rfl rfl (by omega))<|Ab rfl<|Aa ?_
 exact q0 (E0,b0 + 1) _ _ ⟨rfl,rfl,rfl,rfl,trivial⟩ ⟨d0,s0⟩ h
 refine AR rfl ?_
 have h:=v0 _ h
 try dsimp only at h
 refine Ae<|Ab rfl<|Af rfl<|Aa<|Ao rfl<|AL hb0 Tryz.func52 rfl rfl ?_
 cases h
 exact d0.gv
structure TSplits where
  fx:Int
  fv:Int
  deriving DecidableEq
instance:Rep TSplits:=Rep.via (β:=Int × Int) fun x=>(x.fx,x.fv)
theorem body50:bodyB Tryz.prog 50 = true:=by kernel_rfl
theorem body51:bodyB Tryz.prog 51 = true:=by kernel_rfl
theorem body52:bodyB Tryz.prog 52 = true:=by kernel_rfl
def split_Splits_l1 (n:Nat) (j0:(List Tparent) × Int) (d0:Nat × (List Int) → Option (List Int)):Nat × (List Int) → Option (List Int)
  | (b0,c0)=>(if b0 < j0.1.length then (j0.1[b0]?).bind fun g0=>(split_every_p n g0).bind fun p0=>(if p0 = true then (split_parent_pieces_p n g0).bind fun q0=>(app c0 ([q0]:List Int)).bind fun k0=>d0 (b0 + 1,k0) else d0 (b0 + 1,c0)) else some c0)
def split_Splits_l2 (n:Nat) (j0:(List Tparent) × Int) (d0:Nat × (List Int) → Option (List Int)):Nat × (List Int) → Option (List Int)
  | (b0,c0)=>(if b0 < j0.1.length then (j0.1[b0]?).bind fun g0=>(split_Splits_1_p n g0).bind fun p0=>(if p0 = true then (split_name_p n g0).bind fun q0=>(app c0 ([q0]:List Int)).bind fun k0=>d0 (b0 + 1,k0) else d0 (b0 + 1,c0)) else some c0)
def split_Splits_p (n:Nat) (a0:TRoll) (a1:List Int) (a2:Int) (a3:Int):Option (TSplits × Int):=
  (split_planned_p n a0 a1 a2 a3).bind fun b0=>(if b0.2 = 0 then Option.bind (loopF (split_Splits_l2 n b0) n (0,([]:List Int))) (fun c0=>Option.bind (loopF (split_Splits_l1 n b0) n (0,([]:List Int))) (fun d0=>(split_sum_p n d0).bind fun g0=>some ((⟨((c0.length:Nat):Int),g0⟩:TSplits),(0:Int)))) else some ((⟨(0:Int),(0:Int)⟩:TSplits),b0.2))
theorem split_Splits_c (n:Nat) (L:List Nat) (w:World) (hL:∀ b ∈ L,b < w.heap.size) (a0:TRoll) {v0_3:Value} (h0_3:Rep.R w L [v0_3] a0.fm) (a1:List Int) {v1_0:Value} (h1_0:Rep.R w L [v1_0] a1) (a2:Int) (a3:Int)  {r:TSplits × Int} (h:split_Splits_p n a0 a1 a2 a3 = some r) :
    Calls Tryz.prog 17 #[.agg #[vI a0.fe,vI a0.fc,vI a0.fh,v0_3],v1_0,vI a2,vI a3] w (Gives w fun _ u=>u = .tuple #[.agg #[vI r.1.fx,vI r.1.fv],vI r.2]):=by
 unfold split_Splits_p at h
 have hS0:=AD w
 refine AI Tryz.func17 rfl rfl rfl (fun _ cs0 hb0=>?_)
 refine Ae<|Az .plain rfl (AK hS0 rfl rfl) (fun q4 q0 F1 V3=>?_)
 refine Az .plain rfl (Ba [vI 0,vI 0] F1) (fun v4 s0 B0 W3=>?_)
 refine Af rfl<|Aa<|Ae<|Ac (AE rfl (B0.memA (.tl .hd)))<|Ab rfl<|Ab rfl<|Ab rfl ?_
 obtain ⟨v0,j3,h⟩:=bi h
 refine AQ (fst:=[]) (cap:=[]) .plain body43 rfl (e4 rfl rfl rfl rfl) (fun w9 hw9=>split_planned_c n _ w9 (B0.hL hL hw9) a0 (B0.km h0_3 hw9) a1 (B0.km h1_0 hw9) a2 a3 j3) rfl (fun u3 p4 b2 ⟨J0,hu_,D0⟩=>?_)
 subst hu_
 obtain ⟨P0,X3⟩:=B0.agr b2
 refine Ab rfl<|Ac (Ak rfl rfl)<|Ac (Ak rfl rfl)<|Af rfl<|Af rfl<|Aa<|Aj<|Ae<|Ab rfl<|Ac (Bs (i:=v0.2) (j:=0) rfl rfl)<|Aa<|MX.ifn rfl h (fun A1 h=>?_) (fun A1 h=>?_)
 refine Am<|Ae<|Af rfl<|Aa<|Ae<|Ab rfl<|Ab rfl<|BE (fst:=[]) (cap:=[]) (vs:=[J0,.func (.func 50) #[] #[],.func (.func 51) #[] #[]]) .plain body44 Tryz.func44 rfl rfl rfl rfl (e3 rfl rfl rfl) rfl (fun R3 d2 g4=>?_)
 refine Ae<|Af rfl<|Aa<|Aj<|Ae<|Ab rfl ?_
 have c4:v0.1.length ≤ 281474976710656:=AO D0
 refine Ac (AZ (xs:=v0.1) Tryz.underlying83 rfl D0)<|Ab rfl<|Aa<|Au ?_
 have Z0:=P0.nilRow 3 (Rep.size Int)
 have U0:=BF P0 3 (Rep.size Int)
 have s2:=Av (cs:=[]) (xs:=([]:List Int)) Z0 L (AC _ _)
 obtain ⟨j4,P2,x2⟩:=bind_in2 h
 refine AW (α:=Nat × (List Int) × Value × (List Value)) (fun ⟨g0,b0,c0,d0⟩=>[(1,.func (.func 50) #[] #[]),(2,.func (.func 51) #[] #[]),(6,c0),(9,J0),(10,vI ((v0.1.length:Nat):Int)),(11,vI ((g0:Nat):Int))]) (fun ⟨g0,b0,c0,d0⟩ E0=>St w E0 [.row w.heap.size 3 (Rep.size Int) c0 b0.length d0,.cells s0 [vI 0,vI 0] 50,.cells q0 [vI a0.fe,vI a0.fc,vI a0.fh,v0_3] 38]∧Tr u3 [.row w.heap.size 3 (Rep.size Int) vN (([]:List Int).length) [],.cells s0 [vI 0,vI 0] 50,.cells q0 [vI a0.fe,vI a0.fc,vI a0.fh,v0_3] 38] E0 [.row w.heap.size 3 (Rep.size Int) c0 b0.length d0,.cells s0 [vI 0,vI 0] 50,.cells q0 [vI a0.fe,vI a0.fc,vI a0.fh,v0_3] 38]∧Cells E0 (bl [.row w.heap.size 3 (Rep.size Int) c0 b0.length d0,.cells s0 [vI 0,vI 0] 50,.cells q0 [vI a0.fe,vI a0.fc,vI a0.fh,v0_3] 38] ++ L) d0 b0) (fun ⟨g0,b0,c0,d0⟩=>(g0,b0)) (0,([]:List Int),vN,[]) P2 ⟨rfl,rfl,rfl,rfl,rfl,rfl,trivial⟩ ⟨Z0,AA _ _,s2⟩ ?_
 rintro D3 ⟨g0,b0,c0,d0⟩ E0 W0 ⟨A0,C0,s1⟩ h
 unfold split_Splits_l2 at h
 try dsimp only at h
 refine Ae<|Ac (Bg (i:=g0) (j:=v0.1.length) rfl rfl)<|Aa<|Aj<|AM rfl h (fun y1 h=>?_) (fun y1 h=>?_)
 refine Am<|Aj<|Au<|Ae ?_
 obtain ⟨F0,Y2,h⟩:=bi h
 have C2:=Aw D0 (Tt U0 C0)
 obtain ⟨A3,J3,t2,z2,P3,W2,B2⟩:=AS C2 Y2
 obtain rfl:=op_Tparent W2
 refine Ac (AY 3 g0 rfl t2 rfl rfl z2)<|Ac (AE rfl B2)<|Az .plain rfl (Ba [vI 0,vI 0,.int .u8 0] A0) (fun s4 F3 G1 d1=>?_)
 refine Bu [vI F0.fA,vI F0.fy,.int .u8 (F0.fq.toNat:Int)] G1 .hd (onesB rfl) (fun t4 y0 g1=>?_)
 refine Aa<|Ae<|Ab rfl<|Ac (AE rfl (y0.memA .hd)) ?_
 obtain ⟨y3,d3,h⟩:=bi h
 refine Bp (.bool y3) body50 rfl (e1 rfl) (fun w9 hw9=>split_Splits_1_c n _ w9 (y0.hL0 hL hw9) F0 d3) rfl<|Aa<|MX.ifb rfl h (fun z1 h=>?_) (fun z1 h=>?_)
 refine Al<|Ab rfl<|Ab rfl<|Ac (AE rfl (y0.memA .hd)) ?_
 obtain ⟨u0,g3,h⟩:=bi h
 refine Bp (vI u0) body51 rfl (e1 rfl) (fun w9 hw9=>split_name_c n _ w9 (y0.hL0 hL hw9) F0 g3) rfl<|Az .plain rfl (AF (α:=Int) (xs:=([u0]:List Int)) (vs:=[vI u0]) (ds' :=[vI u0]) rfl y0 el32 rfl (e1 rfl) (by kernel_rfl) rfl) (fun u4 G3 M0 R1=>?_)
 have g2:=Av (cs:=[vI u0]) (xs:=(([u0]:List Int):List Int)) M0 L (Ax (cs:=[vI u0]) (ds:=[]) rfl (AC _ _))
 obtain ⟨v3,b3,h⟩:=bi h
 have t1:=Tt d1 (Tt g1 R1)
 have D2:=Ap s1 t1
 refine RG.doesL .plain rfl (Bc (α:=Int) (ys:=([u0]:List Int)) b3 M0 (fun _ _=>(.tl (.tl .hd))) el32 rfl rfl D2 (Src.row (α:=Int) M0 .hd g2)) (fun s3 x4 ⟨D1,H1,U1,j2⟩=>?_)
 refine Af rfl<|Aa<|Aq<|Al<|Ac (AT (i:=g0) (j:=1) rfl rfl (by omega))<|Ab rfl<|Aa ?_
 obtain ⟨I1,j1⟩:=Ay H1 (.one (.tl (.tl .hd)) (.one (.tl (.tl .hd)) (.one (.tl (.tl .hd)) .done)))
 have E2:=Ap j2 j1
 have R2:=Tt t1 (Tt U1 j1)
 exact W0 (g0 + 1,v3,s3,D1) _ _ ⟨rfl,rfl,rfl,rfl,rfl,rfl,trivial⟩ ⟨I1,(Tt C0 R2),E2⟩ h
 refine Am<|Aq<|Al<|Ac (AT (i:=g0) (j:=1) rfl rfl (by omega))<|Ab rfl<|Aa ?_
 obtain ⟨J1,V1⟩:=Ay y0 (.one (.tl .hd) (.one (.tl .hd) (.one (.tl .hd) .done)))
 have u1:=Tt d1 (Tt g1 V1)
 have F2:=Ap s1 u1
 exact W0 (g0 + 1,b0,c0,d0) _ _ ⟨rfl,rfl,rfl,rfl,rfl,rfl,trivial⟩ ⟨J1,(Tt C0 u1),F2⟩ h
 refine AR rfl ?_
 have h:=x2 _ h
 try dsimp only at h
 refine Ae<|Ab rfl<|Af rfl<|Aa<|Ao rfl<|AB (u:=c0) d2 Tryz.func44 rfl (.cons (.tmp rfl) .nil) rfl ?_
 have b4:b0.length ≤ 4294967296:=St.rowLe (α:=Int) A0 .hd
 obtain ⟨B3,K3,u2⟩:=St.rowV (α:=Int) A0 .hd
 refine Ac (FV.lenV Tryz.underlying32 rfl u2)<|Ab rfl<|BE (fst:=[]) (cap:=[]) (vs:=[J0,.func (.func 45) #[] #[],.func (.func 46) #[] #[]]) .plain body44 Tryz.func44 rfl rfl rfl rfl (e3 rfl rfl rfl) rfl (fun Q3 c2 d4=>?_)
 refine Ae<|Af rfl<|Aa<|Aj<|Ae<|Ab rfl ?_
 have G2:=Aw D0 (Tt U0 C0)
 refine Ac (AZ (xs:=v0.1) Tryz.underlying83 rfl G2)<|Ab rfl<|Aa<|Au ?_
 have Y0:=A0.nilRow 3 (Rep.size Int)
 have W1:=BF A0 3 (Rep.size Int)
 have k2:=Av (cs:=[]) (xs:=([]:List Int)) Y0 L (AC _ _)
 obtain ⟨k4,Q2,y2⟩:=bind_in2 h
 refine AW (α:=Nat × (List Int) × Value × (List Value)) (fun ⟨j0,k0,p0,t0⟩=>[(1,.func (.func 45) #[] #[]),(2,.func (.func 46) #[] #[]),(6,p0),(9,J0),(10,vI ((v0.1.length:Nat):Int)),(11,vI ((j0:Nat):Int))]) (fun ⟨j0,k0,p0,t0⟩ K0=>St w K0 [.row w.heap.size 3 (Rep.size Int) p0 k0.length t0,.row w.heap.size 3 (Rep.size Int) c0 b0.length d0,.cells s0 [vI 0,vI 0] 50,.cells q0 [vI a0.fe,vI a0.fc,vI a0.fh,v0_3] 38]∧Tr E0 [.row w.heap.size 3 (Rep.size Int) vN (([]:List Int).length) [],.row w.heap.size 3 (Rep.size Int) c0 b0.length d0,.cells s0 [vI 0,vI 0] 50,.cells q0 [vI a0.fe,vI a0.fc,vI a0.fh,v0_3] 38] K0 [.row w.heap.size 3 (Rep.size Int) p0 k0.length t0,.row w.heap.size 3 (Rep.size Int) c0 b0.length d0,.cells s0 [vI 0,vI 0] 50,.cells q0 [vI a0.fe,vI a0.fc,vI a0.fh,v0_3] 38]∧Cells K0 (bl [.row w.heap.size 3 (Rep.size Int) p0 k0.length t0,.row w.heap.size 3 (Rep.size Int) c0 b0.length d0,.cells s0 [vI 0,vI 0] 50,.cells q0 [vI a0.fe,vI a0.fc,vI a0.fh,v0_3] 38] ++ L) t0 k0) (fun ⟨j0,k0,p0,t0⟩=>(j0,k0)) (0,([]:List Int),vN,[]) Q2 ⟨rfl,rfl,rfl,rfl,rfl,rfl,trivial⟩ ⟨Y0,AA _ _,k2⟩ ?_
 rintro E3 ⟨j0,k0,p0,t0⟩ K0 X0 ⟨I0,R0,V0⟩ h
 unfold split_Splits_l1 at h
 try dsimp only at h
 refine Ae<|Ac (Bg (i:=j0) (j:=v0.1.length) rfl rfl)<|Aa<|Aj<|AM rfl h (fun B1 h=>?_) (fun B1 h=>?_)
 refine Am<|Aj<|Au<|Ae ?_
 obtain ⟨G0,Z2,h⟩:=bi h
 have U2:=Tt U0 (Tt C0 (Tt W1 R0))
 have I2:=Aw D0 U2
 obtain ⟨C3,M3,v2,A2,U3,X2,H2⟩:=AS I2 Z2
 obtain rfl:=op_Tparent X2
 refine Ac (AY 3 j0 rfl v2 rfl rfl A2)<|Ac (AE rfl H2)<|Az .plain rfl (Ba [vI 0,vI 0,.int .u8 0] I0) (fun y4 H3 K1 k1=>?_)
 refine Bu [vI G0.fA,vI G0.fy,.int .u8 (G0.fq.toNat:Int)] K1 .hd (onesB rfl) (fun z4 z0 p1=>?_)
 refine Aa<|Ae<|Ab rfl<|Ac (AE rfl (z0.memA .hd)) ?_
 obtain ⟨z3,k3,h⟩:=bi h
 refine Bp (.bool z3) body45 rfl (e1 rfl) (fun w9 hw9=>split_every_c n _ w9 (z0.hL0 hL hw9) G0 k3) rfl<|Aa<|MX.ifb rfl h (fun C1 h=>?_) (fun C1 h=>?_)
 refine Al<|Ab rfl<|Ab rfl<|Ac (AE rfl (z0.memA .hd)) ?_
 obtain ⟨x0,p3,h⟩:=bi h
 refine Bp (vI x0) body46 rfl (e1 rfl) (fun w9 hw9=>split_parent_pieces_c n _ w9 (z0.hL0 hL hw9) G0 p3) rfl<|Az .plain rfl (AF (α:=Int) (xs:=([x0]:List Int)) (vs:=[vI x0]) (ds' :=[vI x0]) rfl z0 el32 rfl (e1 rfl) (by kernel_rfl) rfl) (fun A4 I3 Q0 X1=>?_)
 have p2:=Av (cs:=[vI x0]) (xs:=(([x0]:List Int):List Int)) Q0 L (Ax (cs:=[vI x0]) (ds:=[]) rfl (AC _ _))
 obtain ⟨x3,c3,h⟩:=bi h
 have v1:=Tt k1 (Tt p1 X1)
 have J2:=Ap V0 v1
 refine RG.doesL .plain rfl (Bc (α:=Int) (ys:=([x0]:List Int)) c3 Q0 (fun _ _=>(.tl (.tl .hd))) el32 rfl rfl J2 (Src.row (α:=Int) Q0 .hd p2)) (fun t3 B4 ⟨E1,M1,Y1,q2⟩=>?_)
 refine Af rfl<|Aa<|Aq<|Al<|Ac (AT (i:=j0) (j:=1) rfl rfl (by omega))<|Ab rfl<|Aa ?_
 obtain ⟨P1,q1⟩:=Ay M1 (.one (.tl (.tl .hd)) (.one (.tl (.tl .hd)) (.one (.tl (.tl .hd)) (.one (.tl (.tl .hd)) .done))))
 have K2:=Ap q2 q1
 have V2:=Tt v1 (Tt Y1 q1)
 exact X0 (j0 + 1,x3,t3,E1) _ _ ⟨rfl,rfl,rfl,rfl,rfl,rfl,trivial⟩ ⟨P1,(Tt R0 V2),K2⟩ h
 refine Am<|Aq<|Al<|Ac (AT (i:=j0) (j:=1) rfl rfl (by omega))<|Ab rfl<|Aa ?_
 obtain ⟨Q1,Z1⟩:=Ay z0 (.one (.tl .hd) (.one (.tl .hd) (.one (.tl .hd) (.one (.tl .hd) .done))))
 have x1:=Tt k1 (Tt p1 Z1)
 have M2:=Ap V0 x1
 exact X0 (j0 + 1,k0,p0,t0) _ _ ⟨rfl,rfl,rfl,rfl,rfl,rfl,trivial⟩ ⟨Q1,(Tt R0 x1),M2⟩ h
 refine AR rfl ?_
 have h:=y2 _ h
 try dsimp only at h
 refine Ae<|Ab rfl<|Af rfl<|Aa<|Ao rfl<|AB (u:=p0) c2 Tryz.func44 rfl (.cons (.tmp rfl) .nil) rfl ?_
 obtain ⟨H0,q3,h⟩:=bi h
 refine Bp (vI H0) body52 rfl (e1 rfl) (fun w9 hw9=>split_sum_c n _ w9 (I0.hL0 hL hw9) k0 (AH (St.lend (α:=Int) (L:=L) I0 .hd V0 hL) hw9) q3) rfl<|Ac (Bh (vs:=[vI ((b0.length:Nat):Int),vI H0]) (u:=.agg #[vI ((b0.length:Nat):Int),vI H0]) (e2 rfl rfl) (fun w9=>by kernel_rfl))<|Bu [vI ((b0.length:Nat):Int),vI H0] I0 (.tl (.tl .hd)) (onesB rfl) (fun C4 b1 Y3=>?_)
 refine Af rfl<|Aa<|Ao rfl<|AB hb0 Tryz.func17 rfl (.cons (.many (cs:=[vI ((b0.length:Nat):Int),vI H0]) (by kernel_rfl) rfl (b1.memA (.tl (.tl .hd)))) (.cons (.tmp rfl) .nil)) rfl ?_
 cases h
 exact b1.gv
 refine Ae<|Ac (Bh (vs:=[]) (u:=.agg #[vI 0,vI 0]) evs_nil (fun w9=>by kernel_rfl))<|Ab rfl<|Bu [vI 0,vI 0] P0 .hd (onesB rfl) (fun D4 c1 Z3=>?_)
 refine Af rfl<|Aa<|Ao rfl<|AB hb0 Tryz.func17 rfl (.cons (.many (cs:=[vI 0,vI 0]) (by kernel_rfl) rfl (c1.memA .hd)) (.cons (.tmp rfl) .nil)) rfl ?_
 cases h
 exact c1.gv
end Go.Proofs.YtfncplndfpgngaaGreatDoor
