/- Functions of the program, and what they give: part 5. -/
import Derived.Test.YtbgcdbblaadokaaGreatDoorRV4
namespace Go.Proofs.YtbgcdbblaadokaaGreatDoor
open Go Go.RowKit
set_option maxRecDepth 4000
set_option maxHeartbeats 4000000

theorem body67:bodyB Tryz.prog 67 = true:=by kernel_rfl
def minority_div_p (n:Nat) (a0:TShare) (a1:TShare):Option (Except Tbroken TShare):=
  (share_Div_p n a0 a1).bind fun b0=>(minority_must_api_Share_p n b0.1 b0.2).bind fun d0=>exc d0 (fun g0=>some (.ok g0)) (fun c0=>some (.error c0))
theorem minority_div_c (n:Nat) (L:List Nat) (w:World) (hL:∀ b ∈ L,b < w.heap.size) (a0:TShare) (a1:TShare)  {r:Except Tbroken TShare} (h:minority_div_p n a0 a1 = some r) :
    Calls Tryz.prog 28 #[.agg ((cs_TShare a0)).toArray,.agg ((cs_TShare a1)).toArray] w (PGives w (fun (y:TShare) _ u=>u = .agg ((cs_TShare y)).toArray) (fun e=>.iface 110 (.agg #[vI e.fH])) r):=by
 unfold minority_div_p at h
 have hS0:=Ax w
 refine Bz Tryz.func28 rfl rfl rfl (fun _ cs0 hb0 hp0=>?_)
 refine Ac<|Ai .plain rfl (Ar hS0 rfl rfl) (fun F0 v0 k0 A0=>?_)
 refine Ai .plain rfl (Ar k0 rfl rfl) (fun G0 x0 p0 B0=>?_)
 refine Ai .plain rfl (Au zL p0) (fun H0 y0 b0 C0=>?_)
 refine Aa<|Ac<|Ab (Az rfl (b0.memA (.tl (.tl .hd))))<|Ab (Az rfl (b0.memA (.tl .hd))) ?_
 obtain ⟨c0,t0,h⟩:=bi h
 refine Ba (.tuple #[.agg ((cs_TShare c0.1)).toArray,vI c0.2]) body67 rfl (e2 rfl rfl) (fun w9 hw9=>share_Div_c n _ w9 (b0.hL0 hL hw9) a0 a1 t0) rfl<|Ab (Ag rfl rfl)<|Ab (Ag rfl rfl) ?_
 obtain ⟨u0,j0,h⟩:=bi h
 rcases u0 with z0 | d0
 have h:=exc_e h
 try dsimp only at h
 refine Bg (fst:=[]) (cap:=[]) .plain body56 rfl (e2 rfl rfl) (fun w9 hw9=>minority_must_api_Share_c n _ w9 (b0.hL0 hL hw9) c0.1 c0.2 j0) (fun I0 s0=>?_)
 obtain ⟨q0,D0⟩:=b0.agr s0
 cases h
 exact AG hp0 Tryz.func28 ⟨q0.ag,rfl⟩
 have h:=exc_o h
 try dsimp only at h
 refine Ba (.agg ((cs_TShare d0)).toArray) body56 rfl (e2 rfl rfl) (fun w9 hw9=>AD (minority_must_api_Share_c n _ w9 (b0.hL0 hL hw9) c0.1 c0.2 j0)) rfl<|AL (cs_TShare d0) b0 .hd (onesB rfl) (fun J0 g0 E0=>?_)
 refine Aa<|Am rfl<|Al hb0 Tryz.func28 rfl (.cons (.many (cs:=(cs_TShare d0)) (by kernel_rfl) rfl (g0.memA .hd)) .nil) rfl ?_
 cases h
 exact ⟨g0.ag,fun w9 hw9=>okOf_in rfl⟩
def tb26_3:List (Nat × Nat × Nat):=[(0,32768,32),(0,65536,16),(2,131072,65536),(4,262144,131072),(0,524288,32),(0,1048576,16),(32,2097152,1048576),(64,4194304,2097152),(128,8388608,4194304),(272,16777216,8912896),(520,33554432,17039360),(0,67108864,16),(2048,134217728,67108864),(4096,268435456,134217728),(9216,536870912,268435456),(17408,1073741824,570425344),(32769,2147483648,1073774592),(131071,0,2147483656)]
theorem body27:bodyB Tryz.prog 27 = true:=by kernel_rfl
theorem body28:bodyB Tryz.prog 28 = true:=by kernel_rfl
def minority_Line_1_p (n:Nat) (a0:TRoll) (a1:Int) (a2:Int):Option (Except Tbroken Ttold):=
  (minority_fitted_p n a0 a1 a2).bind fun j0=>exc j0 (fun b0=>(minority_div_p n b0.fn b0.fd).bind fun k0=>exc k0 (fun c0=>(minority_of_p n b0.fK.fx (1:Int)).bind fun p0=>exc p0 (fun q0=>(minority_mul_p n c0 q0).bind fun s0=>exc s0 (fun t0=>(minority_sub_p n b0.fK.fy t0).bind fun u0=>exc u0 (fun v0=>(minority_of_p n b0.fK.fw (1:Int)).bind fun x0=>exc x0 (fun y0=>(minority_div_p n v0 y0).bind fun z0=>exc z0 (fun A0=>some (.ok (⟨c0,A0⟩:Ttold))) (fun F0=>none)) (fun E0=>none)) (fun D0=>none)) (fun C0=>none)) (fun B0=>none)) (fun g0=>some (.error g0))) (fun d0=>some (.error d0))
theorem minority_Line_1_c (n:Nat) (L:List Nat) (w:World) (hL:∀ b ∈ L,b < w.heap.size) (a0:TRoll) {v0_3:Value} (h0_3:Rep.R w L [v0_3] a0.fE) {p0:Nat} (m0:∀ j9 v9,([vI a0.fj,vI a0.fh,vI a0.fl,v0_3]:List Value)[j9]? = some v9 → w.cell? ((⟨p0,0,none⟩:Addr).add j9) = some v9) (a1:Int) {p1:Nat} (m1:∀ j9 v9,([vI a1]:List Value)[j9]? = some v9 → w.cell? ((⟨p1,0,none⟩:Addr).add j9) = some v9) (a2:Int) {p2:Nat} (m2:∀ j9 v9,([vI a2]:List Value)[j9]? = some v9 → w.cell? ((⟨p2,0,none⟩:Addr).add j9) = some v9)  {r:Except Tbroken Ttold} (h:minority_Line_1_p n a0 a1 a2 = some r) :
    Calls Tryz.prog 26 #[.pointer (some ⟨p0,0,none⟩),.pointer (some ⟨p1,0,none⟩),.pointer (some ⟨p2,0,none⟩)] w (PGives w (fun (y:Ttold) _ u=>u = .agg ((cs_Ttold y)).toArray) (fun e=>.iface 110 (.agg #[vI e.fH])) r):=by
 unfold minority_Line_1_p at h
 have hS0:=Ax w
 refine Bz Tryz.func26 rfl rfl rfl (fun _ cs0 hb0 hp0=>?_)
 refine Ac<|Ai .plain rfl (Au [vW 0,vW 0,vW 0,vW 0,vW 0,vW 0,vW 0,vW 0,vW 0,vW 0,vW 0,vW 0,vW 0,vW 0,vW 0,vW 0,vW 0,vW 0,vW 0,vW 0,vW 0,vW 0,vW 0,vW 0,vW 0,vW 0,vW 0,vW 0,vW 0,vW 0,vW 0,vW 0] hS0) (fun D1 Z0 j0 u1=>?_)
 refine Aa<|Ac<|Ab (Az rfl (fun j9 v9 h9=>j0.ag.cell0 (m0 j9 v9 h9)))<|AZ rfl ((fun j9 v9 h9=>j0.ag.cell0 (m1 j9 v9 h9)) 0 _ rfl)<|AZ rfl ((fun j9 v9 h9=>j0.ag.cell0 (m2 j9 v9 h9)) 0 _ rfl) ?_
 obtain ⟨Q0,v0,h⟩:=bi h
 rcases Q0 with d1 | b0
 have h:=exc_e h
 try dsimp only at h
 refine Bg (fst:=[]) (cap:=[]) .plain body27 rfl (e3 rfl rfl rfl) (fun w9 hw9=>minority_fitted_c n _ w9 (j0.hL0 hL hw9) a0 (j0.k0 h0_3 hw9) a1 a2 v0) (fun E1 G0=>?_)
 obtain ⟨C0,v1⟩:=j0.agr G0
 cases h
 exact AG hp0 Tryz.func26 ⟨C0.ag,rfl⟩
 have h:=exc_o h
 try dsimp only at h
 refine Ba (.agg ((([vI b0.fK.fw,vI b0.fK.fx]:List Value) ++ cs_TShare b0.fK.fy ++ cs_TShare b0.fK.fa ++ cs_TShare b0.fK.fb ++ cs_TShare b0.fK.fc ++ cs_TShare b0.fd ++ cs_TShare b0.fn)).toArray) body27 rfl (e3 rfl rfl rfl) (fun w9 hw9=>AD (minority_fitted_c n _ w9 (j0.hL0 hL hw9) a0 (j0.k0 h0_3 hw9) a1 a2 v0)) rfl<|Ai .plain rfl (Au [vI 0,vI 0,vW 0,vW 0,vW 0,vW 0,vW 0,vW 0,vW 0,vW 0,vW 0,vW 0,vW 0,vW 0,vW 0,vW 0,vW 0,vW 0,vW 0,vW 0,vW 0,vW 0,vW 0,vW 0,vW 0,vW 0,vW 0,vW 0,vW 0,vW 0,vW 0,vW 0,vW 0,vW 0,vW 0,vW 0,vW 0,vW 0,vW 0,vW 0,vW 0,vW 0,vW 0,vW 0,vW 0,vW 0,vW 0,vW 0,vW 0,vW 0,vW 0,vW 0,vW 0,vW 0,vW 0,vW 0,vW 0,vW 0,vW 0,vW 0,vW 0,vW 0,vW 0,vW 0,vW 0,vW 0,vW 0,vW 0,vW 0,vW 0,vW 0,vW 0,vW 0,vW 0,vW 0,vW 0,vW 0,vW 0,vW 0,vW 0,vW 0,vW 0,vW 0,vW 0,vW 0,vW 0,vW 0,vW 0,vW 0,vW 0,vW 0,vW 0,vW 0,vW 0,vW 0,vW 0,vW 0,vW 0] j0) (fun F1 b1 D0 x1=>?_)
 refine AL (([vI b0.fK.fw,vI b0.fK.fx]:List Value) ++ cs_TShare b0.fK.fy ++ cs_TShare b0.fK.fa ++ cs_TShare b0.fK.fb ++ cs_TShare b0.fK.fc ++ cs_TShare b0.fd ++ cs_TShare b0.fn) D0 .hd (onesB rfl) (fun G1 s0 y1=>?_)
 refine Aa<|Ac<|Bf 82 rfl<|Ab (AR (cs:=(cs_TShare b0.fn)) (by kernel_rfl) rfl (mem_part (s0.memA .hd) 82 16))<|Bf 66 rfl<|Ab (AR (cs:=(cs_TShare b0.fd)) (by kernel_rfl) rfl (mem_part (s0.memA .hd) 66 16)) ?_
 obtain ⟨R0,x0,h⟩:=bi h
 rcases R0 with g1 | q0
 have h:=exc_e h
 try dsimp only at h
 refine Bg (fst:=[]) (cap:=[]) .plain body28 rfl (e2 rfl rfl) (fun w9 hw9=>minority_div_c n _ w9 (s0.hL0 hL hw9) b0.fn b0.fd x0) (fun H1 H0=>?_)
 obtain ⟨E0,z1⟩:=s0.agr H0
 cases h
 exact AG hp0 Tryz.func26 ⟨E0.ag,rfl⟩
 have h:=exc_o h
 try dsimp only at h
 refine Ba (.agg ((cs_TShare q0)).toArray) body28 rfl (e2 rfl rfl) (fun w9 hw9=>AD (minority_div_c n _ w9 (s0.hL0 hL hw9) b0.fn b0.fd x0)) rfl<|Ai .plain rfl (Au zL s0) (fun I1 c1 F0 A1=>?_)
 refine AL (cs_TShare q0) F0 .hd (onesB rfl) (fun J1 g0 B1=>?_)
 refine Aa<|Ak<|dt 17 tb26_3 (fun c0 d0=>?_)
 refine AA 0 1 196608 c0 rfl d0 (Az rfl (g0.memA .hd)) rfl<|Af 1 3 c0 rfl d0 (fun _=>AQ 0 rfl) rfl<|Af 2 7 c0 rfl d0 (fun _=>AQ 2 rfl) rfl<|AA 3 15 246784 c0 rfl d0 (AR (cs:=(cs_TShare b0.fK.fy)) (by kernel_rfl) rfl (mem_part (mem_from (g0.memA (.tl .hd)) 0) 2 16)) rfl<|AA 4 31 247296 c0 rfl d0 (Az rfl (g0.memA .hd)) rfl<|Af 5 63 c0 rfl d0 (fun _=>AQ 0 rfl) rfl<|Af 6 127 c0 rfl d0 (fun _=>AQ 1 rfl) rfl<|AA 7 255 247552 c0 rfl d0 (AJ rfl ((mem_from (g0.memA (.tl .hd)) 0) 1 _ rfl)) rfl ?_
 obtain ⟨U0,I0,h⟩:=bi h
 rcases U0 with j1 | y0
 have h:=exc_e h
 try dsimp only at h
 cases h
 have h:=exc_o h
 try dsimp only at h
 refine BA 8 511 247296 (.agg ((cs_TShare y0)).toArray) c0 rfl d0 body31 rfl (e2 rfl rfl) (fun w9 hw9=>AD (minority_of_c n _ w9 (g0.hL0 hL hw9) b0.fK.fx (1:Int) I0)) rfl ?_
 obtain ⟨V0,J0,h⟩:=bi h
 rcases V0 with k1 | z0
 have h:=exc_e h
 try dsimp only at h
 cases h
 have h:=exc_o h
 try dsimp only at h
 refine BA 9 1023 246784 (.agg ((cs_TShare z0)).toArray) c0 rfl d0 body30 rfl (e2 rfl rfl) (fun w9 hw9=>AD (minority_mul_c n _ w9 (g0.hL0 hL hw9) q0 y0 J0)) rfl ?_
 obtain ⟨W0,K0,h⟩:=bi h
 rcases W0 with q1 | A0
 have h:=exc_e h
 try dsimp only at h
 cases h
 have h:=exc_o h
 try dsimp only at h
 refine BA 10 2047 245760 (.agg ((cs_TShare A0)).toArray) c0 rfl d0 body29 rfl (e2 rfl rfl) (fun w9 hw9=>AD (minority_sub_c n _ w9 (g0.hL0 hL hw9) b0.fK.fy z0 K0)) rfl<|Af 11 4095 c0 rfl d0 (fun _=>AQ 0 rfl) rfl<|Af 12 8191 c0 rfl d0 (fun _=>AQ 0 rfl) rfl<|AA 13 16383 245760 c0 rfl d0 (AJ rfl ((mem_from (g0.memA (.tl .hd)) 0) 0 _ rfl)) rfl ?_
 obtain ⟨X0,M0,h⟩:=bi h
 rcases X0 with s1 | B0
 have h:=exc_e h
 try dsimp only at h
 cases h
 have h:=exc_o h
 try dsimp only at h
 refine BA 14 32767 229376 (.agg ((cs_TShare B0)).toArray) c0 rfl d0 body31 rfl (e2 rfl rfl) (fun w9 hw9=>AD (minority_of_c n _ w9 (g0.hL0 hL hw9) b0.fK.fw (1:Int) M0)) rfl ?_
 obtain ⟨Y0,P0,h⟩:=bi h
 rcases Y0 with t1 | t0
 have h:=exc_e h
 try dsimp only at h
 cases h
 have h:=exc_o h
 try dsimp only at h
 refine BA 15 65535 196608 (.agg ((cs_TShare t0)).toArray) c0 rfl d0 body28 rfl (e2 rfl rfl) (fun w9 hw9=>AD (minority_div_c n _ w9 (g0.hL0 hL hw9) A0 B0 P0)) rfl<|Af 16 131071 c0 rfl d0 (fun _=>AK (vs:=[.agg ((cs_TShare q0)).toArray,.agg ((cs_TShare t0)).toArray]) (u:=.agg ((cs_TShare q0 ++ cs_TShare t0)).toArray) (e2 rfl rfl) (fun w9=>by kernel_rfl)) rfl<|Bq 17 262143 c0 rfl rfl .plain (Aw (news:=(cs_TShare q0 ++ cs_TShare t0)) g0 (.tl (.tl .hd)) rfl rfl rfl rfl rfl rfl (onesB rfl)) (fun K1 u0 C1=>?_)
 refine AH (dk c0)<|Am rfl<|Al hb0 Tryz.func26 rfl (.cons (.many (cs:=(cs_TShare q0 ++ cs_TShare t0)) (by kernel_rfl) rfl (u0.memA (.tl (.tl .hd)))) .nil) rfl ?_
 cases h
 exact ⟨u0.ag,fun w9 hw9=>okOf_in rfl⟩
def tb62_6:List (Nat × Nat × Nat):=[(0,131072,32),(0,262144,8),(2,524288,262144),(1,0,131073),(15,0,524290)]
def tb8_2:List (Nat × Nat × Nat):=[(0,32768,512),(1,65536,32768),(0,131072,512),(4,262144,131072),(0,524288,256),(3,0,65600),(47,0,262272),(127,256,524288)]
theorem body25:bodyB Tryz.prog 25 = true:=by kernel_rfl
theorem body26:bodyB Tryz.prog 26 = true:=by kernel_rfl
theorem body62:bodyB Tryz.prog 62 = true:=by kernel_rfl
def minority_Line_p (n:Nat) (a0:TRoll) (a1:Int) (a2:Int):Option (TShare × TShare × Int):=
  (minority_Line_1_p n a0 a1 a2).bind fun d0=>exc d0 (fun b0=>some (b0.fM,b0.fO,(0:Int))) (fun c0=>some ((⟨((0:UInt64),(0:UInt64),(0:UInt64),(0:UInt64),(0:UInt64),(0:UInt64),(0:UInt64),(0:UInt64)),((0:UInt64),(0:UInt64),(0:UInt64),(0:UInt64),(0:UInt64),(0:UInt64),(0:UInt64),(0:UInt64))⟩:TShare),(⟨((0:UInt64),(0:UInt64),(0:UInt64),(0:UInt64),(0:UInt64),(0:UInt64),(0:UInt64),(0:UInt64)),((0:UInt64),(0:UInt64),(0:UInt64),(0:UInt64),(0:UInt64),(0:UInt64),(0:UInt64),(0:UInt64))⟩:TShare),c0.fH))
theorem minority_Line_c (n:Nat) (L:List Nat) (w:World) (hL:∀ b ∈ L,b < w.heap.size) (a0:TRoll) {v0_3:Value} (h0_3:Rep.R w L [v0_3] a0.fE) (a1:Int) (a2:Int)  {r:TShare × TShare × Int} (h:minority_Line_p n a0 a1 a2 = some r) :
    Calls Tryz.prog 8 #[.agg #[vI a0.fj,vI a0.fh,vI a0.fl,v0_3],vI a1,vI a2] w (Gives w fun _ u=>u = .tuple #[.agg ((cs_TShare r.1)).toArray,.agg ((cs_TShare r.2.1)).toArray,vI r.2.2]):=by
 unfold minority_Line_p at h
 have hS0:=Ax w
 refine AE Tryz.func8 rfl rfl rfl (fun _ cs0 hb0=>?_)
 refine Ac<|Ai .plain rfl (Ar hS0 rfl rfl) (fun b3 s0 q1 B2=>?_)
 refine Ai .plain rfl (Ar q1 rfl rfl) (fun g3 t0 u1 C2=>?_)
 refine Ai .plain rfl (Ar u1 rfl rfl) (fun j3 u0 v1 D2=>?_)
 refine Ai .plain rfl (Au zL v1) (fun t3 j0 E1 K2=>?_)
 refine Ai .plain rfl (Au zL E1) (fun u3 p0 F1 M2=>?_)
 refine Ah rfl<|Aa<|Ac<|Ab (BB (vs:=[]) (us:=[vP s0,vP t0,vP u0]) evs_nil (e3 rfl rfl rfl))<|Bc (fst:=[]) (cap:=[]) (vs:=[.func (.func 26) #[] #[vP s0,vP t0,vP u0]]) .plain body25 Tryz.func25 rfl rfl rfl rfl (e1 rfl) rfl (fun v2 b1 Z2=>?_)
 refine Ac<|Ai .plain rfl (Au [vW 0,vW 0,vW 0,vW 0,vW 0,vW 0,vW 0,vW 0,vW 0,vW 0,vW 0,vW 0,vW 0,vW 0,vW 0,vW 0,vW 0,vW 0,vW 0,vW 0,vW 0,vW 0,vW 0,vW 0,vW 0,vW 0,vW 0,vW 0,vW 0,vW 0,vW 0,vW 0] F1) (fun x3 v0 J1 R2=>?_)
 refine Ai .plain rfl (Au [vI 0] J1) (fun y3 q0 g0 U2=>?_)
 refine Aa<|Ac<|Ab (BB (vs:=[]) (us:=[vP v0,vP q0]) evs_nil (e2 rfl rfl))<|RG.defer (fst:=[]) (cap:=[vP v0,vP q0]) (vs:=[]) rfl .plain rfl evs_nil<|Aa<|Ac<|Ae rfl ?_
 obtain ⟨s2,d1,h⟩:=bi h
 rcases s2 with y0 | b0
 have h:=exc_e h
 try dsimp only at h
 refine Bg (fst:=[]) (cap:=[vP s0,vP t0,vP u0]) .plain body26 rfl evs_nil (fun w9 hw9=>minority_Line_1_c n _ w9 (g0.hL0 hL hw9) a0 (g0.k0 h0_3 hw9) (fun j9 v9 h9=>hw9.cell0 ((g0.memA (.tl (.tl (.tl (.tl (.tl (.tl .hd))))))) j9 v9 h9)) a1 (fun j9 v9 h9=>hw9.cell0 ((g0.memA (.tl (.tl (.tl (.tl (.tl .hd)))))) j9 v9 h9)) a2 (fun j9 v9 h9=>hw9.cell0 ((g0.memA (.tl (.tl (.tl (.tl .hd))))) j9 v9 h9)) d1) (fun z3 Y1=>?_)
 obtain ⟨K1,V2⟩:=g0.agr Y1
 refine PN.callD (vs:=[]) (cap:=[vP v0,vP q0]) body62 Tryz.func62 rfl rfl rfl (fun u2 Z1 c2=>?_)
 refine Ac<|RG.recover1 .plain Z1 rfl<|Ah rfl<|Aa<|Ac<|Ae rfl<|Ab (FV.neqI Tryz.underlying20 rfl rfl)<|Aa<|AV rfl<|Ac<|Ae rfl<|Ab (FV.assertT (by kernel_rfl) rfl)<|Ae rfl<|Ab (Ag rfl rfl)<|Ab (Ag rfl rfl)<|Ai .plain rfl (Au [vI 0] K1) (fun A3 k1 M1 W2=>?_)
 refine AL [vI y0.fH] M1 .hd (o1 rfl) (fun B3 P1 X2=>?_)
 refine Ah rfl<|Aa<|Ak<|Ac<|Ae rfl<|Ab (FV.not rfl)<|Aa<|Bu rfl<|Av<|Ac<|Ai .plain rfl (Au [vW 0,vW 0,vW 0,vW 0,vW 0,vW 0,vW 0,vW 0,vW 0,vW 0,vW 0,vW 0,vW 0,vW 0,vW 0,vW 0,vW 0,vW 0,vW 0,vW 0,vW 0,vW 0,vW 0,vW 0,vW 0,vW 0,vW 0,vW 0,vW 0,vW 0,vW 0,vW 0] P1) (fun p2 p1 G0 Y2=>?_)
 refine Aa<|dt 3 tb62_6 (fun x0 R0=>?_)
 refine AA 0 1 24 x0 rfl R0 (Az rfl (G0.memA .hd)) rfl<|Af 1 3 x0 rfl R0 (fun _=>AQ 0 rfl) rfl<|RD.meet (α:=Unit) (fun ()=>[(1,vP q0),(19,vI y0.fH)]) (fun () U0=>St w U0 [.cells q0 [vI 0] 35,.cells v0 [vW 0,vW 0,vW 0,vW 0,vW 0,vW 0,vW 0,vW 0,vW 0,vW 0,vW 0,vW 0,vW 0,vW 0,vW 0,vW 0,vW 0,vW 0,vW 0,vW 0,vW 0,vW 0,vW 0,vW 0,vW 0,vW 0,vW 0,vW 0,vW 0,vW 0,vW 0,vW 0] 72,.cells p0 zL 34,.cells j0 zL 34,.cells u0 [vI a2] 3,.cells t0 [vI a1] 3,.cells s0 [vI a0.fj,vI a0.fh,vI a0.fl,v0_3] 28]∧Tr p2 [.cells p1 [vW 0,vW 0,vW 0,vW 0,vW 0,vW 0,vW 0,vW 0,vW 0,vW 0,vW 0,vW 0,vW 0,vW 0,vW 0,vW 0,vW 0,vW 0,vW 0,vW 0,vW 0,vW 0,vW 0,vW 0,vW 0,vW 0,vW 0,vW 0,vW 0,vW 0,vW 0,vW 0] 72,.cells k1 [vI y0.fH] 110,.cells q0 [vI 0] 35,.cells v0 [vW 0,vW 0,vW 0,vW 0,vW 0,vW 0,vW 0,vW 0,vW 0,vW 0,vW 0,vW 0,vW 0,vW 0,vW 0,vW 0,vW 0,vW 0,vW 0,vW 0,vW 0,vW 0,vW 0,vW 0,vW 0,vW 0,vW 0,vW 0,vW 0,vW 0,vW 0,vW 0] 72,.cells p0 zL 34,.cells j0 zL 34,.cells u0 [vI a2] 3,.cells t0 [vI a1] 3,.cells s0 [vI a0.fj,vI a0.fh,vI a0.fl,v0_3] 28] U0 [.cells q0 [vI 0] 35,.cells v0 [vW 0,vW 0,vW 0,vW 0,vW 0,vW 0,vW 0,vW 0,vW 0,vW 0,vW 0,vW 0,vW 0,vW 0,vW 0,vW 0,vW 0,vW 0,vW 0,vW 0,vW 0,vW 0,vW 0,vW 0,vW 0,vW 0,vW 0,vW 0,vW 0,vW 0,vW 0,vW 0] 72,.cells p0 zL 34,.cells j0 zL 34,.cells u0 [vI a2] 3,.cells t0 [vI a1] 3,.cells s0 [vI a0.fj,vI a0.fh,vI a0.fl,v0_3] 28]) 1 15 ?_ ?_
 rintro ⟨⟩ U0 ⟨s1,x2⟩
 try dsimp only
 refine Bq 4 31 x0 rfl rfl .plain (Aw (news:=[vI y0.fH]) s1 .hd rfl rfl rfl rfl rfl rfl (o1 rfl)) (fun c3 H0 y2=>?_)
 refine AH (dk x0)<|MX.fin rfl<|RT.leaveD1 c2 Tryz.func62 rfl .nil<|Al (u:=.tuple #[.agg #[vW 0,vW 0,vW 0,vW 0,vW 0,vW 0,vW 0,vW 0,vW 0,vW 0,vW 0,vW 0,vW 0,vW 0,vW 0,vW 0,vW 0,vW 0,vW 0,vW 0,vW 0,vW 0,vW 0,vW 0,vW 0,vW 0,vW 0,vW 0,vW 0,vW 0,vW 0,vW 0],vI y0.fH]) b1 Tryz.func25 rfl (.cons (.many (cs:=[vW 0,vW 0,vW 0,vW 0,vW 0,vW 0,vW 0,vW 0,vW 0,vW 0,vW 0,vW 0,vW 0,vW 0,vW 0,vW 0,vW 0,vW 0,vW 0,vW 0,vW 0,vW 0,vW 0,vW 0,vW 0,vW 0,vW 0,vW 0,vW 0,vW 0,vW 0,vW 0]) (by kernel_rfl) rfl (H0.memA (.tl .hd))) (.cons (.one (by kernel_rfl) rfl ((H0.memA .hd) 0 _ rfl)) .nil)) rfl<|Ae rfl<|Ab (Ag rfl rfl)<|Ab (Ag rfl rfl)<|Ai .plain rfl (Au [vW 0,vW 0,vW 0,vW 0,vW 0,vW 0,vW 0,vW 0,vW 0,vW 0,vW 0,vW 0,vW 0,vW 0,vW 0,vW 0,vW 0,vW 0,vW 0,vW 0,vW 0,vW 0,vW 0,vW 0,vW 0,vW 0,vW 0,vW 0,vW 0,vW 0,vW 0,vW 0] H0) (fun d3 g1 t1 z2=>?_)
 refine AL [vW 0,vW 0,vW 0,vW 0,vW 0,vW 0,vW 0,vW 0,vW 0,vW 0,vW 0,vW 0,vW 0,vW 0,vW 0,vW 0,vW 0,vW 0,vW 0,vW 0,vW 0,vW 0,vW 0,vW 0,vW 0,vW 0,vW 0,vW 0,vW 0,vW 0,vW 0,vW 0] t1 .hd (onesB rfl) (fun d2 B0 A2=>?_)
 refine Ah rfl<|Aa<|Ak<|dt 5 tb8_2 (fun c0 z0=>?_)
 refine Af 0 1 c0 rfl z0 (fun _=>AQ 0 rfl) rfl<|AA 1 3 224 c0 rfl z0 (AR (cs:=zL) (by kernel_rfl) rfl (mem_part (B0.memA .hd) 0 16)) rfl<|Af 2 7 c0 rfl z0 (fun _=>AQ 16 rfl) rfl<|Af 4 23 c0 rfl z0 (fun _=>Aj rfl) rfl<|RD.meet (α:=Unit) (fun ()=>[(6,vP j0),(7,vP p0),(8,vI y0.fH),(19,vI y0.fH),(18,.agg zM)]) (fun () V0=>St w V0 [.cells p0 zL 34,.cells j0 zL 34]∧Tr d2 [.cells g1 [vW 0,vW 0,vW 0,vW 0,vW 0,vW 0,vW 0,vW 0,vW 0,vW 0,vW 0,vW 0,vW 0,vW 0,vW 0,vW 0,vW 0,vW 0,vW 0,vW 0,vW 0,vW 0,vW 0,vW 0,vW 0,vW 0,vW 0,vW 0,vW 0,vW 0,vW 0,vW 0] 72,.cells q0 [vI y0.fH] 35,.cells v0 [vW 0,vW 0,vW 0,vW 0,vW 0,vW 0,vW 0,vW 0,vW 0,vW 0,vW 0,vW 0,vW 0,vW 0,vW 0,vW 0,vW 0,vW 0,vW 0,vW 0,vW 0,vW 0,vW 0,vW 0,vW 0,vW 0,vW 0,vW 0,vW 0,vW 0,vW 0,vW 0] 72,.cells p0 zL 34,.cells j0 zL 34,.cells u0 [vI a2] 3,.cells t0 [vI a1] 3,.cells s0 [vI a0.fj,vI a0.fh,vI a0.fl,v0_3] 28] V0 [.cells p0 zL 34,.cells j0 zL 34]) 2 63 ?_ ?_
 rintro ⟨⟩ V0 ⟨x1,E2⟩
 try dsimp only
 refine Bq 6 127 c0 rfl rfl .plain (Aw (news:=zL) x1 .hd rfl rfl rfl rfl rfl rfl (onesB rfl)) (fun k3 I0 F2=>?_)
 refine BC (i:=7) (rk c0) (RO.val (m' :=255) (sk c0) rfl .plain rfl (AY rfl) ?_)
 refine AH (dk c0)<|Am rfl<|Al hb0 Tryz.func8 rfl (.cons (.many (cs:=zL) (by kernel_rfl) rfl (I0.memA (.tl .hd))) (.cons (.many (cs:=zL) (by kernel_rfl) rfl (I0.memA .hd)) (.cons (.tmp rfl) .nil))) rfl ?_
 cases h
 exact I0.gv
 intro X0
 refine RD.each [3,5] (rk c0) ⟨?_,?_,trivial⟩
 refine RO.val (m' :=31) (sk c0) rfl .plain rfl (AR (cs:=zL) (by kernel_rfl) rfl (mem_part (B0.memA .hd) 16 16))<|Bq 5 63 c0 rfl rfl .plain (Aw (news:=zL) B0 (.tl (.tl (.tl (.tl .hd)))) rfl rfl rfl rfl rfl rfl (onesB rfl)) (fun g2 C0 M0=>?_)
 obtain ⟨y1,Q1⟩:=AN C0 (.one (.tl (.tl (.tl .hd))) (.one (.tl (.tl (.tl .hd))) .done))
 exact X0 () _ _ ⟨rfl,rfl,rfl,rfl,rfl,trivial⟩ ⟨y1,(Tt M0 Q1)⟩
 refine RO.now (m' :=55) (sk c0) rfl rfl .plain (Aw (news:=zL) B0 (.tl (.tl (.tl (.tl .hd)))) rfl rfl rfl rfl rfl rfl (onesB rfl)) (fun g2 C0 M0=>?_)
 refine AA 3 63 192 c0 rfl z0 (AR (cs:=zL) (by kernel_rfl) rfl (mem_part (C0.memA .hd) 16 16)) rfl ?_
 obtain ⟨z1,R1⟩:=AN C0 (.one (.tl (.tl (.tl .hd))) (.one (.tl (.tl (.tl .hd))) .done))
 exact X0 () _ _ ⟨rfl,rfl,rfl,rfl,rfl,trivial⟩ ⟨z1,(Tt M0 R1)⟩
 intro Y0
 refine RD.each [2,3] (rk x0) ⟨?_,?_,trivial⟩
 refine RO.val (m' :=7) (sk x0) rfl .plain rfl (AJ rfl ((G0.memA (.tl .hd)) 0 _ rfl))<|Bq 3 15 x0 rfl rfl .plain (Aw (news:=[vW 0,vW 0,vW 0,vW 0,vW 0,vW 0,vW 0,vW 0,vW 0,vW 0,vW 0,vW 0,vW 0,vW 0,vW 0,vW 0,vW 0,vW 0,vW 0,vW 0,vW 0,vW 0,vW 0,vW 0,vW 0,vW 0,vW 0,vW 0,vW 0,vW 0,vW 0,vW 0]) G0 (.tl (.tl (.tl .hd))) rfl rfl rfl rfl rfl rfl (onesB rfl)) (fun q2 F0 Q0=>?_)
 obtain ⟨A1,U1⟩:=AN F0 (.one (.tl (.tl .hd)) (.one (.tl (.tl .hd)) (.one (.tl (.tl .hd)) (.one (.tl (.tl .hd)) (.one (.tl (.tl .hd)) (.one (.tl (.tl .hd)) (.one (.tl (.tl .hd)) .done)))))))
 exact Y0 () _ _ ⟨rfl,rfl,trivial⟩ ⟨A1,(Tt Q0 U1)⟩
 refine RO.now (m' :=11) (sk x0) rfl rfl .plain (Aw (news:=[vW 0,vW 0,vW 0,vW 0,vW 0,vW 0,vW 0,vW 0,vW 0,vW 0,vW 0,vW 0,vW 0,vW 0,vW 0,vW 0,vW 0,vW 0,vW 0,vW 0,vW 0,vW 0,vW 0,vW 0,vW 0,vW 0,vW 0,vW 0,vW 0,vW 0,vW 0,vW 0]) G0 (.tl (.tl (.tl .hd))) rfl rfl rfl rfl rfl rfl (onesB rfl)) (fun q2 F0 Q0=>?_)
 refine AA 2 15 16 x0 rfl R0 (AJ rfl ((F0.memA (.tl .hd)) 0 _ rfl)) rfl ?_
 obtain ⟨B1,V1⟩:=AN F0 (.one (.tl (.tl .hd)) (.one (.tl (.tl .hd)) (.one (.tl (.tl .hd)) (.one (.tl (.tl .hd)) (.one (.tl (.tl .hd)) (.one (.tl (.tl .hd)) (.one (.tl (.tl .hd)) .done)))))))
 exact Y0 () _ _ ⟨rfl,rfl,trivial⟩ ⟨B1,(Tt Q0 V1)⟩
 have h:=exc_o h
 try dsimp only at h
 refine RG.callq' (v:=.agg ((cs_Ttold b0)).toArray) (fst:=[]) (cap:=[vP s0,vP t0,vP u0]) .plain body26 rfl evs_nil (fun w9 hw9=>AD (minority_Line_1_c n _ w9 (g0.hL0 hL hw9) a0 (g0.k0 h0_3 hw9) (fun j9 v9 h9=>hw9.cell0 ((g0.memA (.tl (.tl (.tl (.tl (.tl (.tl .hd))))))) j9 v9 h9)) a1 (fun j9 v9 h9=>hw9.cell0 ((g0.memA (.tl (.tl (.tl (.tl (.tl .hd)))))) j9 v9 h9)) a2 (fun j9 v9 h9=>hw9.cell0 ((g0.memA (.tl (.tl (.tl (.tl .hd))))) j9 v9 h9)) d1)) rfl<|AL (cs_Ttold b0) g0 (.tl .hd) (onesB rfl) (fun p3 C1 G2=>?_)
 refine AL [vI 0] C1 .hd (o1 rfl) (fun q3 J0 H2=>?_)
 refine Aa<|Am rfl<|RT.callD (vs:=[]) (cap:=[vP v0,vP q0]) body62 Tryz.func62 rfl rfl rfl (fun t2 c1 b2=>?_)
 refine Ac<|RG.recover0 .plain c1 rfl<|Ah rfl<|Aa<|Ac<|Ae rfl<|Ab (FV.neqI0 Tryz.underlying20 rfl rfl)<|Aa<|Bu rfl<|Av<|MX.fin rfl<|RT.leaveD0 c1 b2 Tryz.func62 rfl .nil<|Al (u:=.tuple #[.agg ((cs_Ttold b0)).toArray,vI 0]) b1 Tryz.func25 rfl (.cons (.many (cs:=(cs_Ttold b0)) (by kernel_rfl) rfl (J0.memA (.tl .hd))) (.cons (.one (by kernel_rfl) rfl ((J0.memA .hd) 0 _ rfl)) .nil)) rfl<|Ae rfl<|Ab (Ag rfl rfl)<|Ab (Ag rfl rfl)<|Ai .plain rfl (Au [vW 0,vW 0,vW 0,vW 0,vW 0,vW 0,vW 0,vW 0,vW 0,vW 0,vW 0,vW 0,vW 0,vW 0,vW 0,vW 0,vW 0,vW 0,vW 0,vW 0,vW 0,vW 0,vW 0,vW 0,vW 0,vW 0,vW 0,vW 0,vW 0,vW 0,vW 0,vW 0] J0) (fun s3 j1 D1 I2=>?_)
 refine AL (cs_Ttold b0) D1 .hd (onesB rfl) (fun j2 D0 J2=>?_)
 refine Ah rfl<|Aa<|Ak<|dt 5 tb8_2 (fun d0 A0=>?_)
 refine Af 0 1 d0 rfl A0 (fun _=>AQ 0 rfl) rfl<|AA 1 3 224 d0 rfl A0 (AR (cs:=(cs_TShare b0.fM)) (by kernel_rfl) rfl (mem_part (D0.memA .hd) 0 16)) rfl<|Af 2 7 d0 rfl A0 (fun _=>AQ 16 rfl) rfl<|Af 4 23 d0 rfl A0 (fun _=>Aj rfl) rfl<|RD.meet (α:=Unit) (fun ()=>[(6,vP j0),(7,vP p0),(8,vI 0),(19,vI 0),(18,.agg ((cs_TShare b0.fO)).toArray)]) (fun () W0=>St w W0 [.cells p0 zL 34,.cells j0 (cs_TShare b0.fM) 34]∧Tr j2 [.cells j1 (cs_Ttold b0) 72,.cells q0 [vI 0] 35,.cells v0 (cs_Ttold b0) 72,.cells p0 zL 34,.cells j0 zL 34,.cells u0 [vI a2] 3,.cells t0 [vI a1] 3,.cells s0 [vI a0.fj,vI a0.fh,vI a0.fl,v0_3] 28] W0 [.cells p0 zL 34,.cells j0 (cs_TShare b0.fM) 34]) 2 63 ?_ ?_
 rintro ⟨⟩ W0 ⟨G1,P2⟩
 try dsimp only
 refine Bq 6 127 d0 rfl rfl .plain (Aw (news:=(cs_TShare b0.fO)) G1 .hd rfl rfl rfl rfl rfl rfl (onesB rfl)) (fun v3 K0 Q2=>?_)
 refine BC (i:=7) (rk d0) (RO.val (m' :=255) (sk d0) rfl .plain rfl (AY rfl) ?_)
 refine AH (dk d0)<|Am rfl<|Al hb0 Tryz.func8 rfl (.cons (.many (cs:=(cs_TShare b0.fM)) (by kernel_rfl) rfl (K0.memA (.tl .hd))) (.cons (.many (cs:=(cs_TShare b0.fO)) (by kernel_rfl) rfl (K0.memA .hd)) (.cons (.tmp rfl) .nil))) rfl ?_
 cases h
 exact K0.gv
 intro Z0
 refine RD.each [3,5] (rk d0) ⟨?_,?_,trivial⟩
 refine RO.val (m' :=31) (sk d0) rfl .plain rfl (AR (cs:=(cs_TShare b0.fO)) (by kernel_rfl) rfl (mem_part (D0.memA .hd) 16 16))<|Bq 5 63 d0 rfl rfl .plain (Aw (news:=(cs_TShare b0.fM)) D0 (.tl (.tl (.tl (.tl .hd)))) rfl rfl rfl rfl rfl rfl (onesB rfl)) (fun k2 E0 P0=>?_)
 obtain ⟨H1,W1⟩:=AN E0 (.one (.tl (.tl (.tl .hd))) (.one (.tl (.tl (.tl .hd))) .done))
 exact Z0 () _ _ ⟨rfl,rfl,rfl,rfl,rfl,trivial⟩ ⟨H1,(Tt P0 W1)⟩
 refine RO.now (m' :=55) (sk d0) rfl rfl .plain (Aw (news:=(cs_TShare b0.fM)) D0 (.tl (.tl (.tl (.tl .hd)))) rfl rfl rfl rfl rfl rfl (onesB rfl)) (fun k2 E0 P0=>?_)
 refine AA 3 63 192 d0 rfl A0 (AR (cs:=(cs_TShare b0.fO)) (by kernel_rfl) rfl (mem_part (E0.memA .hd) 16 16)) rfl ?_
 obtain ⟨I1,X1⟩:=AN E0 (.one (.tl (.tl (.tl .hd))) (.one (.tl (.tl (.tl .hd))) .done))
 exact Z0 () _ _ ⟨rfl,rfl,rfl,rfl,rfl,trivial⟩ ⟨I1,(Tt P0 X1)⟩
def wardmotelaw29_of_p (n:Nat) (a0:Int) (a1:Int):Option TShare:=
  (share_Of_p n a0 a1).bind fun b0=>some b0.1
theorem wardmotelaw29_of_c (n:Nat) (L:List Nat) (w:World) (hL:∀ b ∈ L,b < w.heap.size) (a0:Int) (a1:Int)  {r:TShare} (h:wardmotelaw29_of_p n a0 a1 = some r) :
    Calls Tryz.prog 9 #[vI a0,vI a1] w (Gives w fun _ u=>u = .agg ((cs_TShare r)).toArray):=by
 unfold wardmotelaw29_of_p at h
 have hS0:=Ax w
 refine AE Tryz.func9 rfl rfl rfl (fun _ cs0 hb0=>?_)
 refine Ac<|Ai .plain rfl (Au zL hS0) (fun x0 p0 c0 s0=>?_)
 refine Aa<|Ac<|Ae rfl<|Ae rfl ?_
 obtain ⟨b0,k0,h⟩:=bi h
 refine Ba (.tuple #[.agg ((cs_TShare b0.1)).toArray,vI b0.2]) body32 rfl (e2 rfl rfl) (fun w9 hw9=>share_Of_c n _ w9 (c0.hL0 hL hw9) a0 a1 k0) rfl<|Ae rfl<|Ab (Ag rfl rfl)<|Ab (Ag rfl rfl)<|Ai .plain rfl (Au zL c0) (fun y0 q0 j0 t0=>?_)
 refine AL (cs_TShare b0.1) j0 .hd (onesB rfl) (fun z0 d0 u0=>?_)
 refine Ah rfl<|Aa<|Ac<|Ab (Az rfl (d0.memA .hd))<|AL (cs_TShare b0.1) d0 (.tl .hd) (onesB rfl) (fun A0 g0 v0=>?_)
 refine Aa<|Am rfl<|Al hb0 Tryz.func9 rfl (.cons (.many (cs:=(cs_TShare b0.1)) (by kernel_rfl) rfl (g0.memA (.tl .hd))) .nil) rfl ?_
 cases h
 exact g0.gv
def tb38_2:List (Nat × Nat × Nat):=[(0,4096,16),(1,8192,4096),(2,16384,8192),(4,32768,16384),(0,65536,16),(16,131072,65536),(32,262144,131072),(72,524288,294912),(0,32,0),(511,0,524320)]
def tb38_3:List (Nat × Nat × Nat):=[(0,1048576,32),(0,2097152,16),(2,4194304,2097152),(4,8388608,4194304),(0,16777216,16),(16,33554432,16777216),(32,67108864,33554432),(72,134217728,75497472),(129,268435456,135266304),(0,64,0),(1023,0,268435520)]
def tb38_4:List (Nat × Nat × Nat):=[(0,536870912,64),(0,1073741824,0),(3,2147483648,1610612736),(6,4294967296,2147483648)]
def tb38_6:List (Nat × Nat × Nat):=[(0,274877906944,128),(0,549755813888,16),(2,1099511627776,549755813888),(0,2199023255552,64),(12,4398046511104,3298534883328),(17,8796093022208,4672924418048),(63,0,8796093022216)]
def minority_Fit_1_p (n:Nat) (a0:TRoll) (a1:Int) (a2:Int):Option (Except Tbroken TShare):=
  (minority_fitted_p n a0 a1 a2).bind fun q0=>exc q0 (fun b0=>(minority_of_p n b0.fK.fw (1:Int)).bind fun s0=>exc s0 (fun t0=>(minority_mul_p n t0 b0.fK.fc).bind fun u0=>exc u0 (fun v0=>(minority_mul_p n b0.fK.fy b0.fK.fy).bind fun x0=>exc x0 (fun y0=>(minority_sub_p n v0 y0).bind fun z0=>exc z0 (fun c0=>(minority_of_p n (0:Int) (1:Int)).bind fun A0=>exc A0 (fun B0=>(if c0 = B0 then some (.error (⟨(7:Int)⟩:Tbroken)) else (minority_mul_p n b0.fn b0.fn).bind fun C0=>exc C0 (fun D0=>(minority_mul_p n b0.fd c0).bind fun E0=>exc E0 (fun j0=>(minority_div_p n D0 j0).bind fun k0=>exc k0 (fun p0=>some (.ok p0)) (fun F0=>none)) (fun M0=>none)) (fun g0=>some (.error g0)))) (fun K0=>none)) (fun J0=>none)) (fun I0=>none)) (fun H0=>none)) (fun G0=>none)) (fun d0=>some (.error d0))
theorem minority_Fit_1_c (n:Nat) (L:List Nat) (w:World) (hL:∀ b ∈ L,b < w.heap.size) (a0:TRoll) {v0_3:Value} (h0_3:Rep.R w L [v0_3] a0.fE) {p0:Nat} (m0:∀ j9 v9,([vI a0.fj,vI a0.fh,vI a0.fl,v0_3]:List Value)[j9]? = some v9 → w.cell? ((⟨p0,0,none⟩:Addr).add j9) = some v9) (a1:Int) {p1:Nat} (m1:∀ j9 v9,([vI a1]:List Value)[j9]? = some v9 → w.cell? ((⟨p1,0,none⟩:Addr).add j9) = some v9) (a2:Int) {p2:Nat} (m2:∀ j9 v9,([vI a2]:List Value)[j9]? = some v9 → w.cell? ((⟨p2,0,none⟩:Addr).add j9) = some v9)  {r:Except Tbroken TShare} (h:minority_Fit_1_p n a0 a1 a2 = some r) :
    Calls Tryz.prog 38 #[.pointer (some ⟨p0,0,none⟩),.pointer (some ⟨p1,0,none⟩),.pointer (some ⟨p2,0,none⟩)] w (PGives w (fun (y:TShare) _ u=>u = .agg ((cs_TShare y)).toArray) (fun e=>.iface 110 (.agg #[vI e.fH])) r):=by
 unfold minority_Fit_1_p at h
 have hS0:=Ax w
 refine Bz Tryz.func38 rfl rfl rfl (fun _ cs0 hb0 hp0=>?_)
 refine Ac<|Ai .plain rfl (Au zL hS0) (fun A2 F1 g0 c2=>?_)
 refine Aa<|Ac<|Ab (Az rfl (fun j9 v9 h9=>g0.ag.cell0 (m0 j9 v9 h9)))<|AZ rfl ((fun j9 v9 h9=>g0.ag.cell0 (m1 j9 v9 h9)) 0 _ rfl)<|AZ rfl ((fun j9 v9 h9=>g0.ag.cell0 (m2 j9 v9 h9)) 0 _ rfl) ?_
 obtain ⟨x1,H0,h⟩:=bi h
 rcases x1 with Q1 | b0
 have h:=exc_e h
 try dsimp only at h
 refine Bg (fst:=[]) (cap:=[]) .plain body27 rfl (e3 rfl rfl rfl) (fun w9 hw9=>minority_fitted_c n _ w9 (g0.hL0 hL hw9) a0 (g0.k0 h0_3 hw9) a1 a2 H0) (fun B2 Y0=>?_)
 obtain ⟨Q0,d2⟩:=g0.agr Y0
 cases h
 exact AG hp0 Tryz.func38 ⟨Q0.ag,rfl⟩
 have h:=exc_o h
 try dsimp only at h
 refine Ba (.agg ((([vI b0.fK.fw,vI b0.fK.fx]:List Value) ++ cs_TShare b0.fK.fy ++ cs_TShare b0.fK.fa ++ cs_TShare b0.fK.fb ++ cs_TShare b0.fK.fc ++ cs_TShare b0.fd ++ cs_TShare b0.fn)).toArray) body27 rfl (e3 rfl rfl rfl) (fun w9 hw9=>AD (minority_fitted_c n _ w9 (g0.hL0 hL hw9) a0 (g0.k0 h0_3 hw9) a1 a2 H0)) rfl<|Ai .plain rfl (Au [vI 0,vI 0,vW 0,vW 0,vW 0,vW 0,vW 0,vW 0,vW 0,vW 0,vW 0,vW 0,vW 0,vW 0,vW 0,vW 0,vW 0,vW 0,vW 0,vW 0,vW 0,vW 0,vW 0,vW 0,vW 0,vW 0,vW 0,vW 0,vW 0,vW 0,vW 0,vW 0,vW 0,vW 0,vW 0,vW 0,vW 0,vW 0,vW 0,vW 0,vW 0,vW 0,vW 0,vW 0,vW 0,vW 0,vW 0,vW 0,vW 0,vW 0,vW 0,vW 0,vW 0,vW 0,vW 0,vW 0,vW 0,vW 0,vW 0,vW 0,vW 0,vW 0,vW 0,vW 0,vW 0,vW 0,vW 0,vW 0,vW 0,vW 0,vW 0,vW 0,vW 0,vW 0,vW 0,vW 0,vW 0,vW 0,vW 0,vW 0,vW 0,vW 0,vW 0,vW 0,vW 0,vW 0,vW 0,vW 0,vW 0,vW 0,vW 0,vW 0,vW 0,vW 0,vW 0,vW 0,vW 0,vW 0] g0) (fun C2 G1 R0 g2=>?_)
 refine AL (([vI b0.fK.fw,vI b0.fK.fx]:List Value) ++ cs_TShare b0.fK.fy ++ cs_TShare b0.fK.fa ++ cs_TShare b0.fK.fb ++ cs_TShare b0.fK.fc ++ cs_TShare b0.fd ++ cs_TShare b0.fn) R0 .hd (onesB rfl) (fun D2 A0 j2=>?_)
 refine Aa<|Ak<|dt 9 tb38_2 (fun d0 s0=>?_)
 refine Af 0 1 d0 rfl s0 (fun _=>AQ 0 rfl) rfl<|Af 1 3 d0 rfl s0 (fun _=>AQ 0 rfl) rfl<|AA 2 7 648 d0 rfl s0 (AJ rfl ((mem_from (A0.memA .hd) 0) 0 _ rfl)) rfl ?_
 obtain ⟨y1,j1,h⟩:=bi h
 rcases y1 with R1 | K0
 have h:=exc_e h
 try dsimp only at h
 cases h
 have h:=exc_o h
 try dsimp only at h
 refine BA 3 15 640 (.agg ((cs_TShare K0)).toArray) d0 rfl s0 body31 rfl (e2 rfl rfl) (fun w9 hw9=>AD (minority_of_c n _ w9 (A0.hL0 hL hw9) b0.fK.fw (1:Int) j1)) rfl<|Af 4 31 d0 rfl s0 (fun _=>AQ 0 rfl) rfl<|Af 5 63 d0 rfl s0 (fun _=>AQ 50 rfl) rfl<|AA 6 127 640 d0 rfl s0 (AR (cs:=(cs_TShare b0.fK.fc)) (by kernel_rfl) rfl (mem_part (mem_from (A0.memA .hd) 0) 50 16)) rfl ?_
 obtain ⟨z1,k1,h⟩:=bi h
 rcases z1 with U1 | E0
 have h:=exc_e h
 try dsimp only at h
 cases h
 have h:=exc_o h
 try dsimp only at h
 refine BA 7 255 512 (.agg ((cs_TShare E0)).toArray) d0 rfl s0 body30 rfl (e2 rfl rfl) (fun w9 hw9=>AD (minority_mul_c n _ w9 (A0.hL0 hL hw9) K0 b0.fK.fc k1)) rfl<|RD.nu 8 511 d0 rfl .plain rfl (Au zL A0) (fun E2 H1 U0 k2=>?_)
 refine Bq 9 1023 d0 rfl rfl .plain (Aw (news:=(cs_TShare E0)) U0 .hd rfl rfl rfl rfl rfl rfl (onesB rfl)) (fun F2 u0 q2=>?_)
 refine AH (dk d0)<|Ak<|dt 10 tb38_3 (fun c0 q0=>?_)
 refine AA 0 1 1280 c0 rfl q0 (Az rfl (u0.memA .hd)) rfl<|Af 1 3 c0 rfl q0 (fun _=>AQ 0 rfl) rfl<|Af 2 7 c0 rfl q0 (fun _=>AQ 2 rfl) rfl<|AA 3 15 1408 c0 rfl q0 (AR (cs:=(cs_TShare b0.fK.fy)) (by kernel_rfl) rfl (mem_part (mem_from (u0.memA (.tl .hd)) 0) 2 16)) rfl<|Af 4 31 c0 rfl q0 (fun _=>AQ 0 rfl) rfl<|Af 5 63 c0 rfl q0 (fun _=>AQ 2 rfl) rfl<|AA 6 127 1408 c0 rfl q0 (AR (cs:=(cs_TShare b0.fK.fy)) (by kernel_rfl) rfl (mem_part (mem_from (u0.memA (.tl .hd)) 0) 2 16)) rfl ?_
 obtain ⟨A1,q1,h⟩:=bi h
 rcases A1 with V1 | M0
 have h:=exc_e h
 try dsimp only at h
 cases h
 have h:=exc_o h
 try dsimp only at h
 refine BA 7 255 1280 (.agg ((cs_TShare M0)).toArray) c0 rfl q0 body30 rfl (e2 rfl rfl) (fun w9 hw9=>AD (minority_mul_c n _ w9 (u0.hL0 hL hw9) b0.fK.fy b0.fK.fy q1)) rfl ?_
 obtain ⟨B1,s1,h⟩:=bi h
 rcases B1 with W1 | z0
 have h:=exc_e h
 try dsimp only at h
 cases h
 have h:=exc_o h
 try dsimp only at h
 refine BA 8 511 1024 (.agg ((cs_TShare z0)).toArray) c0 rfl q0 body29 rfl (e2 rfl rfl) (fun w9 hw9=>AD (minority_sub_c n _ w9 (u0.hL0 hL hw9) E0 M0 s1)) rfl<|RD.nu 9 1023 c0 rfl .plain rfl (Au zL u0) (fun G2 I1 V0 s2=>?_)
 refine Bq 10 2047 c0 rfl rfl .plain (Aw (news:=(cs_TShare z0)) V0 .hd rfl rfl rfl rfl rfl rfl (onesB rfl)) (fun H2 j0 t2=>?_)
 refine AH (dk c0)<|Ak<|dt 3 tb38_4 (fun y0 C0=>?_)
 obtain ⟨C1,t1,h⟩:=bi h
 rcases C1 with X1 | B0
 have h:=exc_e h
 try dsimp only at h
 cases h
 have h:=exc_o h
 try dsimp only at h
 refine AA 0 1 12 y0 rfl C0 (Az rfl (j0.memA .hd)) rfl<|BA 1 3 12 (.agg ((cs_TShare B0)).toArray) y0 rfl C0 body31 rfl (e2 rfl rfl) (fun w9 hw9=>AD (minority_of_c n _ w9 (j0.hL0 hL hw9) (0:Int) (1:Int) t1)) rfl<|Af 2 7 y0 rfl C0 (fun _=>FV.eqlV (v:=.agg ((cs_TShare z0)).toArray) (u:=.agg ((cs_TShare B0)).toArray) rfl rfl (eqlD_34 z0 B0)) rfl<|BC (i:=3) (rk y0) (RO.enterPT (m' :=15) (fst:=[]) (cap:=[]) (vs:=[.bool (decide (z0 = B0)),vI 7]) (sk y0) rfl rfl .plain body39 Tryz.func39 rfl rfl rfl rfl (e2 rfl rfl) rfl (fun _ K1 b1 c1=>?_))
 refine Ac<|Ae rfl<|Aa<|AX rfl h (fun P0 h=>?_) (fun P0 h=>?_)
 refine Ao<|Ae rfl<|Bc (fst:=[]) (cap:=[]) (vs:=[vI 7]) .plain body50 Tryz.func50 rfl rfl rfl rfl (e1 rfl) rfl (fun M1 y2 d1=>?_)
 refine Ac<|Ae rfl<|Ab (FV.neqN (i:=7) (j:=0) rfl rfl)<|Aa<|AV rfl<|Ao<|Ae rfl<|Ab (AK (vs:=[vI 7]) (u:=.agg #[vI 7]) (e1 rfl) (fun w9=>by kernel_rfl))<|Ab (Bn (by kernel_rfl) rfl)<|RG.panic .plain rfl<|AG d1 Tryz.func50<|AG c1 Tryz.func39 ?_
 cases h
 exact AG hp0 Tryz.func38 ⟨j0.ag,rfl⟩
 refine Av<|MX.fin rfl<|Al (u:=.tuple #[]) b1 Tryz.func39 rfl .nil rfl<|AH (dk y0)<|Ac<|Bf 82 rfl<|Ab (AR (cs:=(cs_TShare b0.fn)) (by kernel_rfl) rfl (mem_part (j0.memA (.tl (.tl .hd))) 82 16))<|Bf 82 rfl<|Ab (AR (cs:=(cs_TShare b0.fn)) (by kernel_rfl) rfl (mem_part (j0.memA (.tl (.tl .hd))) 82 16)) ?_
 obtain ⟨D1,I0,h⟩:=bi h
 rcases D1 with Y1 | F0
 have h:=exc_e h
 try dsimp only at h
 refine Bg (fst:=[]) (cap:=[]) .plain body30 rfl (e2 rfl rfl) (fun w9 hw9=>minority_mul_c n _ w9 (j0.hL0 hL hw9) b0.fn b0.fn I0) (fun I2 Z0=>?_)
 obtain ⟨W0,u2⟩:=j0.agr Z0
 cases h
 exact AG hp0 Tryz.func38 ⟨W0.ag,rfl⟩
 have h:=exc_o h
 try dsimp only at h
 refine Ba (.agg ((cs_TShare F0)).toArray) body30 rfl (e2 rfl rfl) (fun w9 hw9=>AD (minority_mul_c n _ w9 (j0.hL0 hL hw9) b0.fn b0.fn I0)) rfl<|Ai .plain rfl (Au zL j0) (fun J2 J1 X0 v2=>?_)
 refine AL (cs_TShare F0) X0 .hd (onesB rfl) (fun K2 v0 x2=>?_)
 refine Aa<|Ak<|dt 6 tb38_6 (fun t0 x0=>?_)
 refine AA 0 1 96 t0 rfl x0 (Az rfl (v0.memA .hd)) rfl<|Af 1 3 t0 rfl x0 (fun _=>AQ 66 rfl) rfl<|AA 2 7 112 t0 rfl x0 (AR (cs:=(cs_TShare b0.fd)) (by kernel_rfl) rfl (mem_part (v0.memA (.tl (.tl (.tl .hd)))) 66 16)) rfl<|AA 3 15 112 t0 rfl x0 (Az rfl (v0.memA (.tl .hd))) rfl ?_
 obtain ⟨E1,u1,h⟩:=bi h
 rcases E1 with Z1 | J0
 have h:=exc_e h
 try dsimp only at h
 cases h
 have h:=exc_o h
 try dsimp only at h
 refine BA 4 31 96 (.agg ((cs_TShare J0)).toArray) t0 rfl x0 body30 rfl (e2 rfl rfl) (fun w9 hw9=>AD (minority_mul_c n _ w9 (v0.hL0 hL hw9) b0.fd z0 u1)) rfl ?_
 obtain ⟨v1,g1,h⟩:=bi h
 rcases v1 with P1 | D0
 have h:=exc_e h
 try dsimp only at h
 cases h
 have h:=exc_o h
 try dsimp only at h
 refine BA 5 63 64 (.agg ((cs_TShare D0)).toArray) t0 rfl x0 body28 rfl (e2 rfl rfl) (fun w9 hw9=>AD (minority_div_c n _ w9 (v0.hL0 hL hw9) F0 J0 g1)) rfl<|Bq 6 127 t0 rfl rfl .plain (Aw (news:=(cs_TShare D0)) v0 (.tl (.tl (.tl (.tl .hd)))) rfl rfl rfl rfl rfl rfl (onesB rfl)) (fun z2 G0 b2=>?_)
 refine AH (dk t0)<|Am rfl<|Al hb0 Tryz.func38 rfl (.cons (.many (cs:=(cs_TShare D0)) (by kernel_rfl) rfl (G0.memA (.tl (.tl (.tl (.tl .hd)))))) .nil) rfl ?_
 cases h
 exact ⟨G0.ag,fun w9 hw9=>okOf_in rfl⟩
def tb75_6:List (Nat × Nat × Nat):=[(0,131072,32),(0,262144,8),(2,524288,262144),(1,0,131073),(15,0,524290)]
theorem body37:bodyB Tryz.prog 37 = true:=by kernel_rfl
theorem body38:bodyB Tryz.prog 38 = true:=by kernel_rfl
theorem body75:bodyB Tryz.prog 75 = true:=by kernel_rfl
def minority_Fit_p (n:Nat) (a0:TRoll) (a1:Int) (a2:Int):Option (TShare × Int):=
  (minority_Fit_1_p n a0 a1 a2).bind fun c0=>exc c0 (fun d0=>some (d0,(0:Int))) (fun b0=>some ((⟨((0:UInt64),(0:UInt64),(0:UInt64),(0:UInt64),(0:UInt64),(0:UInt64),(0:UInt64),(0:UInt64)),((0:UInt64),(0:UInt64),(0:UInt64),(0:UInt64),(0:UInt64),(0:UInt64),(0:UInt64),(0:UInt64))⟩:TShare),b0.fH))
theorem minority_Fit_c (n:Nat) (L:List Nat) (w:World) (hL:∀ b ∈ L,b < w.heap.size) (a0:TRoll) {v0_3:Value} (h0_3:Rep.R w L [v0_3] a0.fE) (a1:Int) (a2:Int)  {r:TShare × Int} (h:minority_Fit_p n a0 a1 a2 = some r) :
    Calls Tryz.prog 13 #[.agg #[vI a0.fj,vI a0.fh,vI a0.fl,v0_3],vI a1,vI a2] w (Gives w fun _ u=>u = .tuple #[.agg ((cs_TShare r.1)).toArray,vI r.2]):=by
 unfold minority_Fit_p at h
 have hS0:=Ax w
 refine AE Tryz.func13 rfl rfl rfl (fun _ cs0 hb0=>?_)
 refine Ac<|Ai .plain rfl (Ar hS0 rfl rfl) (fun V1 g0 M0 F1=>?_)
 refine Ai .plain rfl (Ar M0 rfl rfl) (fun c2 j0 V0 G1=>?_)
 refine Ai .plain rfl (Ar V0 rfl rfl) (fun d2 p0 W0 H1=>?_)
 refine Ai .plain rfl (Au zL W0) (fun g2 x0 X0 I1=>?_)
 refine Ah rfl<|Aa<|Ac<|Ab (BB (vs:=[]) (us:=[vP g0,vP j0,vP p0]) evs_nil (e3 rfl rfl rfl))<|Bc (fst:=[]) (cap:=[]) (vs:=[.func (.func 38) #[] #[vP g0,vP j0,vP p0]]) .plain body37 Tryz.func37 rfl rfl rfl rfl (e1 rfl) rfl (fun y1 G0 U1=>?_)
 refine Ac<|Ai .plain rfl (Au zL X0) (fun j2 q0 Y0 J1=>?_)
 refine Ai .plain rfl (Au [vI 0] Y0) (fun k2 d0 b0 K1=>?_)
 refine Aa<|Ac<|Ab (BB (vs:=[]) (us:=[vP q0,vP d0]) evs_nil (e2 rfl rfl))<|RG.defer (fst:=[]) (cap:=[vP q0,vP d0]) (vs:=[]) rfl .plain rfl evs_nil<|Aa<|Ac<|Ae rfl ?_
 obtain ⟨u1,I0,h⟩:=bi h
 rcases u1 with t0 | s0
 have h:=exc_e h
 try dsimp only at h
 refine Bg (fst:=[]) (cap:=[vP g0,vP j0,vP p0]) .plain body38 rfl evs_nil (fun w9 hw9=>minority_Fit_1_c n _ w9 (b0.hL0 hL hw9) a0 (b0.k0 h0_3 hw9) (fun j9 v9 h9=>hw9.cell0 ((b0.memA (.tl (.tl (.tl (.tl (.tl .hd)))))) j9 v9 h9)) a1 (fun j9 v9 h9=>hw9.cell0 ((b0.memA (.tl (.tl (.tl (.tl .hd))))) j9 v9 h9)) a2 (fun j9 v9 h9=>hw9.cell0 ((b0.memA (.tl (.tl (.tl .hd)))) j9 v9 h9)) I0) (fun p2 j1=>?_)
 obtain ⟨Z0,M1⟩:=b0.agr j1
 refine PN.callD (vs:=[]) (cap:=[vP q0,vP d0]) body75 Tryz.func75 rfl rfl rfl (fun x1 k1 q1=>?_)
 refine Ac<|RG.recover1 .plain k1 rfl<|Ah rfl<|Aa<|Ac<|Ae rfl<|Ab (FV.neqI Tryz.underlying20 rfl rfl)<|Aa<|AV rfl<|Ac<|Ae rfl<|Ab (FV.assertT (by kernel_rfl) rfl)<|Ae rfl<|Ab (Ag rfl rfl)<|Ab (Ag rfl rfl)<|Ai .plain rfl (Au [vI 0] Z0) (fun q2 J0 b1 P1=>?_)
 refine AL [vI t0.fH] b1 .hd (o1 rfl) (fun s2 c1 Q1=>?_)
 refine Ah rfl<|Aa<|Ak<|Ac<|Ae rfl<|Ab (FV.not rfl)<|Aa<|Bu rfl<|Av<|Ac<|Ai .plain rfl (Au zL c1) (fun s1 K0 u0 R1=>?_)
 refine Aa<|dt 3 tb75_6 (fun c0 B0=>?_)
 refine AA 0 1 24 c0 rfl B0 (Az rfl (u0.memA .hd)) rfl<|Af 1 3 c0 rfl B0 (fun _=>AQ 0 rfl) rfl<|RD.meet (α:=Unit) (fun ()=>[(1,vP d0),(19,vI t0.fH)]) (fun () C0=>St w C0 [.cells d0 [vI 0] 35,.cells q0 zL 34,.cells x0 zL 34,.cells p0 [vI a2] 3,.cells j0 [vI a1] 3,.cells g0 [vI a0.fj,vI a0.fh,vI a0.fl,v0_3] 28]∧Tr s1 [.cells K0 zL 34,.cells J0 [vI t0.fH] 110,.cells d0 [vI 0] 35,.cells q0 zL 34,.cells x0 zL 34,.cells p0 [vI a2] 3,.cells j0 [vI a1] 3,.cells g0 [vI a0.fj,vI a0.fh,vI a0.fl,v0_3] 28] C0 [.cells d0 [vI 0] 35,.cells q0 zL 34,.cells x0 zL 34,.cells p0 [vI a2] 3,.cells j0 [vI a1] 3,.cells g0 [vI a0.fj,vI a0.fh,vI a0.fl,v0_3] 28]) 1 15 ?_ ?_
 rintro ⟨⟩ C0 ⟨P0,z1⟩
 try dsimp only
 refine Bq 4 31 c0 rfl rfl .plain (Aw (news:=[vI t0.fH]) P0 .hd rfl rfl rfl rfl rfl rfl (o1 rfl)) (fun W1 y0 A1=>?_)
 refine AH (dk c0)<|MX.fin rfl<|RT.leaveD1 q1 Tryz.func75 rfl .nil<|Al (u:=.tuple #[.agg zM,vI t0.fH]) G0 Tryz.func37 rfl (.cons (.many (cs:=zL) (by kernel_rfl) rfl (y0.memA (.tl .hd))) (.cons (.one (by kernel_rfl) rfl ((y0.memA .hd) 0 _ rfl)) .nil)) rfl<|Ab (Ag rfl rfl)<|Ab (Ag rfl rfl)<|AL zL y0 (.tl (.tl .hd)) (onesB rfl) (fun X1 E0 B1=>?_)
 refine Ah rfl<|Aa<|Am rfl<|Al hb0 Tryz.func13 rfl (.cons (.many (cs:=zL) (by kernel_rfl) rfl (E0.memA (.tl (.tl .hd)))) (.cons (.tmp rfl) .nil)) rfl ?_
 cases h
 exact E0.gv
 intro D0
 refine RD.each [2,3] (rk c0) ⟨?_,?_,trivial⟩
 refine RO.val (m' :=7) (sk c0) rfl .plain rfl (AJ rfl ((u0.memA (.tl .hd)) 0 _ rfl))<|Bq 3 15 c0 rfl rfl .plain (Aw (news:=zL) u0 (.tl (.tl (.tl .hd))) rfl rfl rfl rfl rfl rfl (onesB rfl)) (fun t1 v0 A0=>?_)
 obtain ⟨Q0,d1⟩:=AN v0 (.one (.tl (.tl .hd)) (.one (.tl (.tl .hd)) (.one (.tl (.tl .hd)) (.one (.tl (.tl .hd)) (.one (.tl (.tl .hd)) (.one (.tl (.tl .hd)) .done))))))
 exact D0 () _ _ ⟨rfl,rfl,trivial⟩ ⟨Q0,(Tt A0 d1)⟩
 refine RO.now (m' :=11) (sk c0) rfl rfl .plain (Aw (news:=zL) u0 (.tl (.tl (.tl .hd))) rfl rfl rfl rfl rfl rfl (onesB rfl)) (fun t1 v0 A0=>?_)
 refine AA 2 15 16 c0 rfl B0 (AJ rfl ((v0.memA (.tl .hd)) 0 _ rfl)) rfl ?_
 obtain ⟨R0,g1⟩:=AN v0 (.one (.tl (.tl .hd)) (.one (.tl (.tl .hd)) (.one (.tl (.tl .hd)) (.one (.tl (.tl .hd)) (.one (.tl (.tl .hd)) (.one (.tl (.tl .hd)) .done))))))
 exact D0 () _ _ ⟨rfl,rfl,trivial⟩ ⟨R0,(Tt A0 g1)⟩
 have h:=exc_o h
 try dsimp only at h
 refine RG.callq' (v:=.agg ((cs_TShare s0)).toArray) (fst:=[]) (cap:=[vP g0,vP j0,vP p0]) .plain body38 rfl evs_nil (fun w9 hw9=>AD (minority_Fit_1_c n _ w9 (b0.hL0 hL hw9) a0 (b0.k0 h0_3 hw9) (fun j9 v9 h9=>hw9.cell0 ((b0.memA (.tl (.tl (.tl (.tl (.tl .hd)))))) j9 v9 h9)) a1 (fun j9 v9 h9=>hw9.cell0 ((b0.memA (.tl (.tl (.tl (.tl .hd))))) j9 v9 h9)) a2 (fun j9 v9 h9=>hw9.cell0 ((b0.memA (.tl (.tl (.tl .hd)))) j9 v9 h9)) I0)) rfl<|AL (cs_TShare s0) b0 (.tl .hd) (onesB rfl) (fun Y1 U0 C1=>?_)
 refine AL [vI 0] U0 .hd (o1 rfl) (fun Z1 z0 D1=>?_)
 refine Aa<|Am rfl<|RT.callD (vs:=[]) (cap:=[vP q0,vP d0]) body75 Tryz.func75 rfl rfl rfl (fun v1 H0 p1=>?_)
 refine Ac<|RG.recover0 .plain H0 rfl<|Ah rfl<|Aa<|Ac<|Ae rfl<|Ab (FV.neqI0 Tryz.underlying20 rfl rfl)<|Aa<|Bu rfl<|Av<|MX.fin rfl<|RT.leaveD0 H0 p1 Tryz.func75 rfl .nil<|Al (u:=.tuple #[.agg ((cs_TShare s0)).toArray,vI 0]) G0 Tryz.func37 rfl (.cons (.many (cs:=(cs_TShare s0)) (by kernel_rfl) rfl (z0.memA (.tl .hd))) (.cons (.one (by kernel_rfl) rfl ((z0.memA .hd) 0 _ rfl)) .nil)) rfl<|Ab (Ag rfl rfl)<|Ab (Ag rfl rfl)<|AL (cs_TShare s0) z0 (.tl (.tl .hd)) (onesB rfl) (fun b2 F0 E1=>?_)
 refine Ah rfl<|Aa<|Am rfl<|Al hb0 Tryz.func13 rfl (.cons (.many (cs:=(cs_TShare s0)) (by kernel_rfl) rfl (F0.memA (.tl (.tl .hd)))) (.cons (.tmp rfl) .nil)) rfl ?_
 cases h
 exact F0.gv
def tb41_1:List (Nat × Nat × Nat):=[(0,128,16),(0,256,4),(0,512,8),(6,1024,768),(9,2048,1152),(24,4096,2048),(32,8192,4098),(96,16384,12288),(160,32768,20480),(511,64,32768)]
theorem body9:bodyB Tryz.prog 9 = true:=by kernel_rfl
def wardmotelaw29_is_1_p (n:Nat) (a0:TShare) (a1:Int) (a2:Int) (a3:Int):Option Bool:=
  (wardmotelaw29_of_p n a2 a3).bind fun b0=>(if a0 = b0 then some (decide (a1 = 0)) else some false)
theorem wardmotelaw29_is_1_c (n:Nat) (L:List Nat) (w:World) (hL:∀ b ∈ L,b < w.heap.size) (a0:TShare) (a1:Int) (a2:Int) {p2:Nat} (m2:∀ j9 v9,([vI a2]:List Value)[j9]? = some v9 → w.cell? ((⟨p2,0,none⟩:Addr).add j9) = some v9) (a3:Int) {p3:Nat} (m3:∀ j9 v9,([vI a3]:List Value)[j9]? = some v9 → w.cell? ((⟨p3,0,none⟩:Addr).add j9) = some v9)  {r:Bool} (h:wardmotelaw29_is_1_p n a0 a1 a2 a3 = some r) :
    Calls Tryz.prog 41 #[.agg ((cs_TShare a0)).toArray,vI a1,.pointer (some ⟨p2,0,none⟩),.pointer (some ⟨p3,0,none⟩)] w (Gives w fun _ u=>u = .bool r):=by
 unfold wardmotelaw29_is_1_p at h
 have hS0:=Ax w
 refine AE Tryz.func41 rfl rfl rfl (fun _ cs0 hb0=>?_)
 refine Ac<|Ai .plain rfl (Ar hS0 rfl rfl) (fun s0 p0 d0 q0=>?_)
 refine Ah rfl<|Aa<|Ak<|dt 10 tb41_1 (fun b0 c0=>?_)
 refine AA 0 1 1008 b0 rfl c0 (Az rfl (d0.memA .hd)) rfl<|AA 1 3 1016 b0 rfl c0 (AJ rfl ((fun j9 v9 h9=>d0.ag.cell0 (m2 j9 v9 h9)) 0 _ rfl)) rfl<|AA 2 7 1016 b0 rfl c0 (AJ rfl ((fun j9 v9 h9=>d0.ag.cell0 (m3 j9 v9 h9)) 0 _ rfl)) rfl ?_
 obtain ⟨g0,k0,h⟩:=bi h
 refine BA 3 15 1008 (.agg ((cs_TShare g0)).toArray) b0 rfl c0 body9 rfl (e2 rfl rfl) (fun w9 hw9=>wardmotelaw29_of_c n _ w9 (d0.hL0 hL hw9) a2 a3 k0) rfl<|Af 4 31 b0 rfl c0 (fun _=>FV.eqlV (v:=.agg ((cs_TShare a0)).toArray) (u:=.agg ((cs_TShare g0)).toArray) rfl rfl (eqlD_34 a0 g0)) rfl<|Af 5 63 b0 rfl c0 (fun _=>Aj rfl) rfl<|RD.ifd (s:=12) rfl h (fun j0 h=>?_) (fun j0 h=>?_)
 refine RD.vP 6 127 b0 rfl c0 (.yes rfl rfl) (fun _=>Aj rfl) rfl<|RD.vP 7 255 b0 rfl c0 (.yes rfl rfl) (fun _=>FV.eql (i:=a1) (j:=0) rfl rfl) rfl<|Af 8 511 b0 rfl c0 (fun _=>FV.pick_t rfl rfl) rfl<|Af 9 1023 b0 rfl c0 (fun _=>AY rfl) rfl<|AH (dk b0)<|Am rfl<|Be hb0 Tryz.func41 rfl rfl ?_
 cases h
 exact d0.gv
 refine Bs 255 2 [(6,13),(7,14)] (F:=[(12,false)]) (U:=[]) b0 c0 (.cons rfl .nil) .nil ?_
 dsimp only [offS,List.map]
 refine Af 8 511 b0 rfl c0 (fun _=>Bh rfl rfl) rfl<|Af 9 1023 b0 rfl c0 (fun _=>AY rfl) rfl<|AH (dk b0)<|Am rfl<|Be hb0 Tryz.func41 rfl rfl ?_
 cases h
 exact d0.gv
theorem wardmotelaw29_is_c (n:Nat) (L:List Nat) (w:World) (_hL:∀ b ∈ L,b < w.heap.size) (a0:Int) (a1:Int)  :
    Calls Tryz.prog 16 #[vI a0,vI a1] w (Gives w fun w' u=>∃ b0 c0:Nat,u = .func (.func 41) #[] #[vP b0,vP c0]∧St w w' [.cells b0 [vI a0] 3,.cells c0 [vI a1] 3]):=by
 have hS0:=Ax w
 refine AE Tryz.func16 rfl rfl rfl (fun _ cs0 hb0=>?_)
 refine Ac<|Ai .plain rfl (Ar hS0 rfl rfl) (fun s0 b0 g0 k0=>?_)
 refine Ai .plain rfl (Ar g0 rfl rfl) (fun t0 c0 j0 p0=>?_)
 refine Ah rfl<|Aa<|Ac<|Ab (BB (vs:=[]) (us:=[vP b0,vP c0]) evs_nil (e2 rfl rfl))<|Ah rfl<|Aa<|Am rfl<|Al (u:=.func (.func 41) #[] #[vP b0,vP c0]) hb0 Tryz.func16 rfl (.cons (.tmp rfl) .nil) rfl ?_
 obtain ⟨d0,q0⟩:=AN j0 (.one (.tl .hd) (.one .hd .done))
 exact ⟨d0.ag,fun w9 hw9=>⟨b0,c0,rfl,d0.agree hw9⟩⟩
theorem el42:ElT Tryz.prog 42 3 (Rep.size Int) 8 (vI 0) [vI 0]:=⟨Tryz.underlying42,by kernel_rfl,rfl,rfl,rfl,rfl⟩
theorem el26:ElT Tryz.prog 26 44 (Rep.size TUnit) 104 (.agg #[.string ⟨#[]⟩,vI 0,vN,vN,vN,.bool false]) [.string ⟨#[]⟩,vI 0,vN,vN,vN,.bool false]:=⟨Tryz.underlying26,by kernel_rfl,rfl,rfl,rfl,rfl⟩
def wardmotelaw29_example_p (_n:Nat):Option TRoll:=
  (sadd ⟨#[117]⟩ ⟨#[97]⟩).bind fun c0=>(app ([]:List TUnit) ([(⟨c0,(10:Int),([(1:Int)]:List Int),([(2:Int),(8:Int)]:List Int),([]:List Int),false⟩:TUnit)]:List TUnit)).bind fun k0=>(sadd ⟨#[117]⟩ ⟨#[98]⟩).bind fun d0=>(app k0 ([(⟨d0,(10:Int),([(4:Int)]:List Int),([(3:Int),(2:Int)]:List Int),([]:List Int),false⟩:TUnit)]:List TUnit)).bind fun g0=>(sadd ⟨#[117]⟩ ⟨#[99]⟩).bind fun b0=>(app g0 ([(⟨b0,(20:Int),([(2:Int)]:List Int),([(1:Int),(9:Int)]:List Int),([]:List Int),false⟩:TUnit)]:List TUnit)).bind fun j0=>some (⟨(1:Int),(2:Int),(0:Int),j0⟩:TRoll)
theorem wardmotelaw29_example_c (n:Nat) (L:List Nat) (w:World) (hL:∀ b ∈ L,b < w.heap.size)  {r:TRoll} (h:wardmotelaw29_example_p n = some r) :
    Calls Tryz.prog 17 #[] w (Gives w fun w' u=>∃ (v0_3:Value) (cs0_3:List Value),u = .agg #[vI r.fj,vI r.fh,vI r.fl,v0_3]∧St w w' (rowsOf w.heap.size [(44,Rep.size TUnit,v0_3,r.fE.length,cs0_3)])∧Cells w' (bl (rowsOf w.heap.size [(44,Rep.size TUnit,v0_3,r.fE.length,cs0_3)]) ++ L) cs0_3 (r.fE:List TUnit)):=by
 unfold wardmotelaw29_example_p at h
 have hS0:=Ax w
 refine AE Tryz.func17 rfl rfl rfl (fun _ cs0 hb0=>?_)
 refine Ac<|Ai .plain rfl (Au [vI 0,vI 0,vI 0,vN] hS0) (fun v4 I3 B1 W3=>?_)
 refine Aa<|Ac<|Ab (AK (vs:=[vI 1,vI 2]) (u:=.agg #[vI 1,vI 2,vI 0,vN]) (e2 rfl rfl) (fun w9=>by kernel_rfl))<|Ai .plain rfl (Au [vI 0,vI 0,vI 0,vN] B1) (fun E4 M3 F1 Y3=>?_)
 refine AL [vI 1,vI 2,vI 0,vN] F1 .hd (onesB rfl) (fun J4 H1 b4=>?_)
 refine Aa<|Ak<|Ac<|Ab (AK (vs:=[vI 10,vI 1,vI 2,vI 8]) (u:=.agg #[vI 10,vI 1,vI 2,vI 8]) (e4 rfl rfl rfl rfl) (fun w9=>by kernel_rfl))<|Ab (AK (vs:=[vI 10,vI 4,vI 3,vI 2]) (u:=.agg #[vI 10,vI 4,vI 3,vI 2]) (e4 rfl rfl rfl rfl) (fun w9=>by kernel_rfl))<|Ab (AK (vs:=[vI 20,vI 2,vI 1,vI 9]) (u:=.agg #[vI 20,vI 2,vI 1,vI 9]) (e4 rfl rfl rfl rfl) (fun w9=>by kernel_rfl))<|Ab (AK (vs:=[.agg #[vI 10,vI 1,vI 2,vI 8],.agg #[vI 10,vI 4,vI 3,vI 2],.agg #[vI 20,vI 2,vI 1,vI 9]]) (u:=.agg #[vI 10,vI 1,vI 2,vI 8,vI 10,vI 4,vI 3,vI 2,vI 20,vI 2,vI 1,vI 9]) (e3 rfl rfl rfl) (fun w9=>by kernel_rfl))<|Ae rfl<|Aa<|AB<|MX.loop1<|Ac<|Ab (Bm (i:=0) (j:=3) rfl rfl)<|Aa<|Ak<|AV rfl<|Av<|Ak<|AB<|Ac<|Ae rfl<|Ab (FV.idxN (cs:=[vI 10,vI 1,vI 2,vI 8,vI 10,vI 4,vI 3,vI 2,vI 20,vI 2,vI 1,vI 9]) (k:=0) (m:=4) (len:=3) (by kernel_rfl) (by kernel_rfl) rfl rfl rfl (by omega) rfl)<|Ai .plain rfl (Au [vI 0,vI 0,vI 0,vI 0] H1) (fun K4 P3 I1 c4=>?_)
 refine Ah rfl<|AL [vI 10,vI 1,vI 2,vI 8] I1 .hd (onesB rfl) (fun M4 D0 d4=>?_)
 refine Aa<|Ao<|Bf 3 rfl<|AZ rfl ((D0.memA (.tl .hd)) 3 _ rfl)<|Ae rfl<|Ab (FV.add (i:=97) (j:=0) (r:=97) rfl rfl (by decide))<|Ab (FV.conv (i:=97) Tryz.underlying3 Tryz.underlying21 rfl (by decide))<|Ab (FV.convIS (i:=97) (r:=⟨#[97]⟩) Tryz.underlying21 Tryz.underlying9 rfl (by kernel_rfl)) ?_
 obtain ⟨c0,C3,h⟩:=bi h
 refine Ab (FV.addS C3 rfl rfl)<|Ab (AI (m:=1) (k:=0) (len:=4) (by kernel_rfl) rfl rfl rfl (by omega))<|AZ rfl ((D0.memA .hd) 0 _ rfl)<|Ab (AI (m:=1) (k:=1) (len:=4) (by kernel_rfl) rfl rfl rfl (by omega))<|AZ rfl ((D0.memA .hd) 1 _ rfl)<|Ai .plain rfl (AT (α:=Int) (xs:=([(1:Int)]:List Int)) (vs:=[vI 1]) (ds' :=[vI 1]) rfl D0 el42 rfl (e1 rfl) (by kernel_rfl) rfl) (fun P4 p0 E0 g4=>?_)
 have A2:=AM (cs:=[vI 1]) (xs:=(([(1:Int)]:List Int):List Int)) E0 L (Ap (cs:=[vI 1]) (ds:=[]) rfl (AS _ _))
 refine Ab (AI (m:=1) (k:=2) (len:=4) (by kernel_rfl) rfl rfl rfl (by omega))<|AZ rfl ((E0.memA (.tl .hd)) 2 _ rfl)<|Ab (AI (m:=1) (k:=3) (len:=4) (by kernel_rfl) rfl rfl rfl (by omega))<|AZ rfl ((E0.memA (.tl .hd)) 3 _ rfl)<|Ai .plain rfl (AT (α:=Int) (xs:=([(2:Int),(8:Int)]:List Int)) (vs:=[vI 2,vI 8]) (ds' :=[vI 2,vI 8]) rfl E0 el42 rfl (e2 rfl rfl) (by kernel_rfl) rfl) (fun Q4 q0 F0 b2=>?_)
 have B2:=AM (cs:=[vI 2,vI 8]) (xs:=(([(2:Int),(8:Int)]:List Int):List Int)) F0 L (Ap (cs:=[vI 2]) (ds:=[vI 8]) rfl (Ap (cs:=[vI 8]) (ds:=[]) rfl (AS _ _)))
 refine Ab (AK (vs:=[.string c0,vI 10,(vS p0 1),(vS q0 2)]) (u:=.agg #[.string c0,vI 10,(vS p0 1),(vS q0 2),vN,.bool false]) (e4 rfl rfl rfl rfl) (fun w9=>by kernel_rfl)) ?_
 have W2:=Bb A2 b2
 have x3:=Br (α:=Int) F0 (.tl .hd) W2 hL
 have G0:=St.delS F0 (.tl .hd)
 have c2:=St.delT F0 (.tl .hd)
 have z1:=Rep.at_ (α:=Int) (v:=(vS p0 1)) (xs:=([(1:Int)]:List Int)) G0 L x3
 have X2:=Bb B2 c2
 have y3:=Br (α:=Int) G0 .hd X2 hL
 have U0:=St.delS G0 .hd
 have u1:=St.delT G0 .hd
 have z3:=Rep.at_ (α:=Int) (v:=(vS q0 2)) (xs:=([(2:Int),(8:Int)]:List Int)) U0 L y3
 have u4:=Rep.nilAt (α:=Int) U0 L
 have q4:=Ay z1 u1
 refine Ai .plain rfl (AT (α:=TUnit) (xs:=([(⟨c0,(10:Int),([(1:Int)]:List Int),([(2:Int),(8:Int)]:List Int),([]:List Int),false⟩:TUnit)]:List TUnit)) (vs:=[.agg #[.string c0,vI 10,(vS p0 1),(vS q0 2),vN,.bool false]]) (ds' :=[.string c0,vI 10,(vS p0 1),(vS q0 2),vN,.bool false]) rfl U0 el26 rfl (e1 rfl) (by kernel_rfl) rfl) (fun R4 Q3 H0 v1=>?_)
 have Y2:=Ay z1 (Tt u1 v1)
 have Z2:=Ay z3 v1
 have A3:=Rep.nilAt (α:=Int) H0 L
 have C2:=AM (cs:=[.string c0,vI 10,(vS p0 1),(vS q0 2),vN,.bool false]) (xs:=(([(⟨c0,(10:Int),([(1:Int)]:List Int),([(2:Int),(8:Int)]:List Int),([]:List Int),false⟩:TUnit)]:List TUnit):List TUnit)) H0 L (Ap (cs:=[.string c0,vI 10,(vS p0 1),(vS q0 2),vN,.bool false]) (ds:=[]) (mk_TUnit c0 (10:Int) ([(1:Int)]:List Int) Y2 ([(2:Int),(8:Int)]:List Int) Z2 ([]:List Int) A3 false) (AS _ _))
 have V0:=H0.nilRow 44 (Rep.size TUnit)
 have d2:=St.nilRowT H0 44 (Rep.size TUnit)
 have D2:=AM (cs:=[]) (xs:=([]:List TUnit)) V0 L (AS _ _)
 obtain ⟨d5,G3,h⟩:=bi h
 have b3:=Bb C2 d2
 refine RG.doesL .plain rfl (DoesL.app (α:=TUnit) (ys:=([(⟨c0,(10:Int),([(1:Int)]:List Int),([(2:Int),(8:Int)]:List Int),([]:List Int),false⟩:TUnit)]:List TUnit)) G3 V0 (fun _ _=>.hd) el26 rfl rfl D2 (Src.row (α:=TUnit) V0 (.tl .hd) b3)) (fun g1 U4 ⟨V3,W0,j4,E2⟩=>?_)
 refine Bf 3 rfl<|RG.now .plain (Bv (j:=3) (old:=[vI 1,vI 2,vI 0,vN]) (news:=[g1]) (new' :=[vI 1,vI 2,vI 0,g1]) W0 (.tl (.tl (.tl .hd))) rfl rfl rfl (St.c1 (α:=TUnit) W0 .hd) rfl rfl (o1 (St.o1 (α:=TUnit) W0 .hd)) rfl) (fun V4 J1 g2=>?_)
 refine Aa<|AC<|Ao<|Ab (FV.add (i:=0) (j:=1) (r:=1) rfl rfl (by decide))<|Ae rfl<|Aa<|MX.again1 ?_
 obtain ⟨K1,j2⟩:=AN J1 (.one .hd (.one (.tl (.tl .hd)) (.one (.tl (.tl .hd)) .done)))
 refine Ac<|Ab (Bm (i:=1) (j:=3) rfl rfl)<|Aa<|Ak<|AV rfl<|Av<|Ak<|AB<|Ac<|Ae rfl<|Ab (FV.idxN (cs:=[vI 10,vI 1,vI 2,vI 8,vI 10,vI 4,vI 3,vI 2,vI 20,vI 2,vI 1,vI 9]) (k:=1) (m:=4) (len:=3) (by kernel_rfl) (by kernel_rfl) rfl rfl rfl (by omega) rfl)<|Ai .plain rfl (Au [vI 0,vI 0,vI 0,vI 0] K1) (fun W4 R3 M1 k2=>?_)
 refine Ah rfl<|AL [vI 10,vI 4,vI 3,vI 2] M1 .hd (onesB rfl) (fun X4 I0 p2=>?_)
 refine Aa<|Ao<|Bf 3 rfl<|AZ rfl ((I0.memA (.tl (.tl .hd))) 3 _ rfl)<|Ae rfl<|Ab (FV.add (i:=97) (j:=1) (r:=98) rfl rfl (by decide))<|Ab (FV.conv (i:=98) Tryz.underlying3 Tryz.underlying21 rfl (by decide))<|Ab (FV.convIS (i:=98) (r:=⟨#[98]⟩) Tryz.underlying21 Tryz.underlying9 rfl (by kernel_rfl)) ?_
 obtain ⟨d0,D3,h⟩:=bi h
 refine Ab (FV.addS D3 rfl rfl)<|Ab (AI (m:=1) (k:=0) (len:=4) (by kernel_rfl) rfl rfl rfl (by omega))<|AZ rfl ((I0.memA .hd) 0 _ rfl)<|Ab (AI (m:=1) (k:=1) (len:=4) (by kernel_rfl) rfl rfl rfl (by omega))<|AZ rfl ((I0.memA .hd) 1 _ rfl)<|Ai .plain rfl (AT (α:=Int) (xs:=([(4:Int)]:List Int)) (vs:=[vI 4]) (ds' :=[vI 4]) rfl I0 el42 rfl (e1 rfl) (by kernel_rfl) rfl) (fun Y4 s0 J0 q2=>?_)
 have F2:=AM (cs:=[vI 4]) (xs:=(([(4:Int)]:List Int):List Int)) J0 L (Ap (cs:=[vI 4]) (ds:=[]) rfl (AS _ _))
 refine Ab (AI (m:=1) (k:=2) (len:=4) (by kernel_rfl) rfl rfl rfl (by omega))<|AZ rfl ((J0.memA (.tl .hd)) 2 _ rfl)<|Ab (AI (m:=1) (k:=3) (len:=4) (by kernel_rfl) rfl rfl rfl (by omega))<|AZ rfl ((J0.memA (.tl .hd)) 3 _ rfl)<|Ai .plain rfl (AT (α:=Int) (xs:=([(3:Int),(2:Int)]:List Int)) (vs:=[vI 3,vI 2]) (ds' :=[vI 3,vI 2]) rfl J0 el42 rfl (e2 rfl rfl) (by kernel_rfl) rfl) (fun Z4 g0 u0 p1=>?_)
 have s2:=AM (cs:=[vI 3,vI 2]) (xs:=(([(3:Int),(2:Int)]:List Int):List Int)) u0 L (Ap (cs:=[vI 3]) (ds:=[vI 2]) rfl (Ap (cs:=[vI 2]) (ds:=[]) rfl (AS _ _)))
 refine Ab (AK (vs:=[.string d0,vI 10,(vS s0 1),(vS g0 2)]) (u:=.agg #[.string d0,vI 10,(vS s0 1),(vS g0 2),vN,.bool false]) (e4 rfl rfl rfl rfl) (fun w9=>by kernel_rfl)) ?_
 have G2:=Bb F2 p1
 have j3:=Br (α:=Int) u0 (.tl .hd) G2 hL
 have v0:=St.delS u0 (.tl .hd)
 have q1:=St.delT u0 (.tl .hd)
 have x1:=Rep.at_ (α:=Int) (v:=(vS s0 1)) (xs:=([(4:Int)]:List Int)) v0 L j3
 have H2:=Bb s2 q1
 have k3:=Br (α:=Int) v0 .hd H2 hL
 have K0:=St.delS v0 .hd
 have X0:=St.delT v0 .hd
 have p3:=Rep.at_ (α:=Int) (v:=(vS g0 2)) (xs:=([(3:Int),(2:Int)]:List Int)) K0 L k3
 have s4:=Rep.nilAt (α:=Int) K0 L
 have k4:=Ay x1 X0
 refine Ai .plain rfl (AT (α:=TUnit) (xs:=([(⟨d0,(10:Int),([(4:Int)]:List Int),([(3:Int),(2:Int)]:List Int),([]:List Int),false⟩:TUnit)]:List TUnit)) (vs:=[.agg #[.string d0,vI 10,(vS s0 1),(vS g0 2),vN,.bool false]]) (ds' :=[.string d0,vI 10,(vS s0 1),(vS g0 2),vN,.bool false]) rfl K0 el26 rfl (e1 rfl) (by kernel_rfl) rfl) (fun x4 H3 x0 Y0=>?_)
 have I2:=Ay x1 (Tt X0 Y0)
 have J2:=Ay p3 Y0
 have q3:=Rep.nilAt (α:=Int) x0 L
 have t2:=AM (cs:=[.string d0,vI 10,(vS s0 1),(vS g0 2),vN,.bool false]) (xs:=(([(⟨d0,(10:Int),([(4:Int)]:List Int),([(3:Int),(2:Int)]:List Int),([]:List Int),false⟩:TUnit)]:List TUnit):List TUnit)) x0 L (Ap (cs:=[.string d0,vI 10,(vS s0 1),(vS g0 2),vN,.bool false]) (ds:=[]) (mk_TUnit d0 (10:Int) ([(4:Int)]:List Int) I2 ([(3:Int),(2:Int)]:List Int) J2 ([]:List Int) q3 false) (AS _ _))
 obtain ⟨b5,E3,h⟩:=bi h
 have c3:=Tt g2 (Tt j2 (Tt k2 (Tt p2 (Tt q2 (Tt p1 (Tt q1 (Tt X0 Y0)))))))
 have K2:=Bb E2 c3
 refine RG.doesL .plain rfl (DoesL.app (α:=TUnit) (ys:=([(⟨d0,(10:Int),([(4:Int)]:List Int),([(3:Int),(2:Int)]:List Int),([]:List Int),false⟩:TUnit)]:List TUnit)) E3 x0 (fun _ _=>(.tl (.tl .hd))) el26 rfl rfl K2 (Src.row (α:=TUnit) x0 .hd t2)) (fun d1 y4 ⟨U3,M0,X3,u2⟩=>?_)
 refine Bf 3 rfl<|RG.now .plain (Bv (j:=3) (old:=[vI 1,vI 2,vI 0,g1]) (news:=[d1]) (new' :=[vI 1,vI 2,vI 0,d1]) M0 (.tl (.tl (.tl .hd))) rfl rfl rfl (St.c1 (α:=TUnit) M0 (.tl (.tl .hd))) rfl rfl (o1 (St.o1 (α:=TUnit) M0 (.tl (.tl .hd)))) rfl) (fun z4 C1 P1=>?_)
 refine Aa<|AC<|Ao<|Ab (FV.add (i:=1) (j:=1) (r:=2) rfl rfl (by decide))<|Ae rfl<|Aa<|MX.again1 ?_
 obtain ⟨D1,Q1⟩:=AN C1 (.one (.tl (.tl .hd)) (.one (.tl (.tl .hd)) (.one (.tl (.tl .hd)) .done)))
 refine Ac<|Ab (Bm (i:=2) (j:=3) rfl rfl)<|Aa<|Ak<|AV rfl<|Av<|Ak<|AB<|Ac<|Ae rfl<|Ab (FV.idxN (cs:=[vI 10,vI 1,vI 2,vI 8,vI 10,vI 4,vI 3,vI 2,vI 20,vI 2,vI 1,vI 9]) (k:=2) (m:=4) (len:=3) (by kernel_rfl) (by kernel_rfl) rfl rfl rfl (by omega) rfl)<|Ai .plain rfl (Au [vI 0,vI 0,vI 0,vI 0] D1) (fun A4 J3 E1 R1=>?_)
 refine Ah rfl<|AL [vI 20,vI 2,vI 1,vI 9] E1 .hd (onesB rfl) (fun B4 y0 U1=>?_)
 refine Aa<|Ao<|Bf 3 rfl<|AZ rfl ((y0.memA (.tl (.tl .hd))) 3 _ rfl)<|Ae rfl<|Ab (FV.add (i:=97) (j:=2) (r:=99) rfl rfl (by decide))<|Ab (FV.conv (i:=99) Tryz.underlying3 Tryz.underlying21 rfl (by decide))<|Ab (FV.convIS (i:=99) (r:=⟨#[99]⟩) Tryz.underlying21 Tryz.underlying9 rfl (by kernel_rfl)) ?_
 obtain ⟨b0,B3,h⟩:=bi h
 refine Ab (FV.addS B3 rfl rfl)<|Ab (AI (m:=1) (k:=0) (len:=4) (by kernel_rfl) rfl rfl rfl (by omega))<|AZ rfl ((y0.memA .hd) 0 _ rfl)<|Ab (AI (m:=1) (k:=1) (len:=4) (by kernel_rfl) rfl rfl rfl (by omega))<|AZ rfl ((y0.memA .hd) 1 _ rfl)<|Ai .plain rfl (AT (α:=Int) (xs:=([(2:Int)]:List Int)) (vs:=[vI 2]) (ds' :=[vI 2]) rfl y0 el42 rfl (e1 rfl) (by kernel_rfl) rfl) (fun C4 j0 z0 V1=>?_)
 have v2:=AM (cs:=[vI 2]) (xs:=(([(2:Int)]:List Int):List Int)) z0 L (Ap (cs:=[vI 2]) (ds:=[]) rfl (AS _ _))
 refine Ab (AI (m:=1) (k:=2) (len:=4) (by kernel_rfl) rfl rfl rfl (by omega))<|AZ rfl ((z0.memA (.tl .hd)) 2 _ rfl)<|Ab (AI (m:=1) (k:=3) (len:=4) (by kernel_rfl) rfl rfl rfl (by omega))<|AZ rfl ((z0.memA (.tl .hd)) 3 _ rfl)<|Ai .plain rfl (AT (α:=Int) (xs:=([(1:Int),(9:Int)]:List Int)) (vs:=[vI 1,vI 9]) (ds' :=[vI 1,vI 9]) rfl z0 el42 rfl (e2 rfl rfl) (by kernel_rfl) rfl) (fun D4 k0 A0 s1=>?_)
 have x2:=AM (cs:=[vI 1,vI 9]) (xs:=(([(1:Int),(9:Int)]:List Int):List Int)) A0 L (Ap (cs:=[vI 1]) (ds:=[vI 9]) rfl (Ap (cs:=[vI 9]) (ds:=[]) rfl (AS _ _)))
 refine Ab (AK (vs:=[.string b0,vI 20,(vS j0 1),(vS k0 2)]) (u:=.agg #[.string b0,vI 20,(vS j0 1),(vS k0 2),vN,.bool false]) (e4 rfl rfl rfl rfl) (fun w9=>by kernel_rfl)) ?_
 have M2:=Bb v2 s1
 have s3:=Br (α:=Int) A0 (.tl .hd) M2 hL
 have B0:=St.delS A0 (.tl .hd)
 have t1:=St.delT A0 (.tl .hd)
 have y1:=Rep.at_ (α:=Int) (v:=(vS j0 1)) (xs:=([(2:Int)]:List Int)) B0 L s3
 have P2:=Bb x2 t1
 have t3:=Br (α:=Int) B0 .hd P2 hL
 have P0:=St.delS B0 .hd
 have Z0:=St.delT B0 .hd
 have u3:=Rep.at_ (α:=Int) (v:=(vS k0 2)) (xs:=([(1:Int),(9:Int)]:List Int)) P0 L t3
 have t4:=Rep.nilAt (α:=Int) P0 L
 have p4:=Ay y1 Z0
 refine Ai .plain rfl (AT (α:=TUnit) (xs:=([(⟨b0,(20:Int),([(2:Int)]:List Int),([(1:Int),(9:Int)]:List Int),([]:List Int),false⟩:TUnit)]:List TUnit)) (vs:=[.agg #[.string b0,vI 20,(vS j0 1),(vS k0 2),vN,.bool false]]) (ds' :=[.string b0,vI 20,(vS j0 1),(vS k0 2),vN,.bool false]) rfl P0 el26 rfl (e1 rfl) (by kernel_rfl) rfl) (fun F4 K3 C0 b1=>?_)
 have Q2:=Ay y1 (Tt Z0 b1)
 have R2:=Ay u3 b1
 have v3:=Rep.nilAt (α:=Int) C0 L
 have y2:=AM (cs:=[.string b0,vI 20,(vS j0 1),(vS k0 2),vN,.bool false]) (xs:=(([(⟨b0,(20:Int),([(2:Int)]:List Int),([(1:Int),(9:Int)]:List Int),([]:List Int),false⟩:TUnit)]:List TUnit):List TUnit)) C0 L (Ap (cs:=[.string b0,vI 20,(vS j0 1),(vS k0 2),vN,.bool false]) (ds:=[]) (mk_TUnit b0 (20:Int) ([(2:Int)]:List Int) Q2 ([(1:Int),(9:Int)]:List Int) R2 ([]:List Int) v3 false) (AS _ _))
 obtain ⟨c5,F3,h⟩:=bi h
 have d3:=Tt P1 (Tt Q1 (Tt R1 (Tt U1 (Tt V1 (Tt s1 (Tt t1 (Tt Z0 b1)))))))
 have U2:=Bb u2 d3
 refine RG.doesL .plain rfl (DoesL.app (α:=TUnit) (ys:=([(⟨b0,(20:Int),([(2:Int)]:List Int),([(1:Int),(9:Int)]:List Int),([]:List Int),false⟩:TUnit)]:List TUnit)) F3 C0 (fun _ _=>(.tl (.tl .hd))) el26 rfl rfl U2 (Src.row (α:=TUnit) C0 .hd y2)) (fun t0 G4 ⟨A1,Q0,Z3,z2⟩=>?_)
 refine Bf 3 rfl<|RG.now .plain (Bv (j:=3) (old:=[vI 1,vI 2,vI 0,d1]) (news:=[t0]) (new' :=[vI 1,vI 2,vI 0,t0]) Q0 (.tl (.tl (.tl .hd))) rfl rfl rfl (St.c1 (α:=TUnit) Q0 (.tl (.tl .hd))) rfl rfl (o1 (St.o1 (α:=TUnit) Q0 (.tl (.tl .hd)))) rfl) (fun H4 G1 W1=>?_)
 refine Aa<|AC<|Ao<|Ab (FV.add (i:=2) (j:=1) (r:=3) rfl rfl (by decide))<|Ae rfl<|Aa<|MX.again1 ?_
 obtain ⟨R0,X1⟩:=AN G1 (.one (.tl (.tl .hd)) (.one (.tl (.tl .hd)) (.one (.tl (.tl .hd)) .done)))
 refine Ac<|Ab (Bm (i:=3) (j:=3) rfl rfl)<|Aa<|Ak<|Bu rfl<|Bj rfl<|Ac<|Ab (Az rfl (R0.memA (.tl .hd)))<|AL [vI 1,vI 2,vI 0,t0] R0 (.tl (.tl .hd)) (o4 rfl rfl rfl (St.o1 (α:=TUnit) R0 .hd)) (fun I4 j1 Y1=>?_)
 refine Aa<|Am rfl<|Al (u:=.agg #[vI 1,vI 2,vI 0,t0]) hb0 Tryz.func17 rfl (.cons (.many (cs:=[vI 1,vI 2,vI 0,t0]) (by kernel_rfl) rfl (j1.memA (.tl (.tl .hd)))) .nil) rfl ?_
 obtain ⟨k1,Z1⟩:=AN j1 (.one .hd .done)
 cases h
 have g3:=Tt W1 (Tt X1 (Tt Y1 Z1))
 have V2:=Bb z2 g3
 exact ⟨k1.ag,fun w9 hw9=>⟨t0,A1,rfl,k1.agree hw9,Cells.keep0 V2 hw9⟩⟩
def minority_must_list_int_p (_n:Nat) (a0:List Int) (a1:Int):Option (Except Tbroken (List Int)):=
  (if a1 = 0 then some (.ok a0) else some (.error (⟨a1⟩:Tbroken)))
theorem minority_must_list_int_c (n:Nat) (L:List Nat) (w:World) (_hL:∀ b ∈ L,b < w.heap.size) (a0:List Int) {v0_0:Value} (h0_0:Rep.R w L [v0_0] a0) (a1:Int)  {r:Except Tbroken (List Int)} (h:minority_must_list_int_p n a0 a1 = some r) :
    Calls Tryz.prog 79 #[v0_0,vI a1] w (PGives w (fun (y:List Int) w' u=>∃ v0_0:Value,u = v0_0∧Rep.R w' L [v0_0] y) (fun e=>.iface 110 (.agg #[vI e.fH])) r):=by
 unfold minority_must_list_int_p at h
 have hS0:=Ax w
 refine Bz Tryz.func79 rfl rfl rfl (fun _ cs0 hb0 hp0=>?_)
 refine Ac<|Ah rfl<|Aa<|Ak<|Ac<|Ae rfl<|Ab (FV.neq (i:=a1) (j:=0) rfl rfl)<|Aa<|MX.ifn rfl h (fun c1 h=>?_) (fun c1 h=>?_)
 refine Av<|Ac<|Ae rfl<|Ah rfl<|Aa<|Am rfl<|Be hb0 Tryz.func79 rfl rfl ?_
 cases h
 exact ⟨hS0.ag,fun w9 hw9=>okOf_in ⟨v0_0,rfl,hS0.kd h0_0 hw9⟩⟩
 refine Ao<|Ae rfl<|Ab (AK (vs:=[vI a1]) (u:=.agg #[vI a1]) (e1 rfl) (fun w9=>by kernel_rfl))<|Ab (Bn (by kernel_rfl) rfl)<|RG.panic .plain rfl ?_
 cases h
 exact AG hp0 Tryz.func79 ⟨hS0.ag,rfl⟩
def balance_need_p (_n:Nat) (a0:Int):Option (Except Tbroken Unit):=
  (if a0 = 0 then some (.ok ()) else some (.error (⟨a0⟩:Tbroken)))
theorem balance_need_c (n:Nat) (L:List Nat) (w:World) (_hL:∀ b ∈ L,b < w.heap.size) (a0:Int)  {r:Except Tbroken Unit} (h:balance_need_p n a0 = some r) :
    Calls Tryz.prog 122 #[vI a0] w (PGives w (fun (y:Unit) _ u=>u = .tuple #[]) (fun e=>.iface 175 (.agg #[vI e.fH])) r):=by
 unfold balance_need_p at h
 have hS0:=Ax w
 refine Bz Tryz.func122 rfl rfl rfl (fun _ cs0 hb0 hp0=>?_)
 refine Ac<|Ae rfl<|Ab (FV.neq (i:=a0) (j:=0) rfl rfl)<|Aa<|MX.ifn rfl h (fun c1 h=>?_) (fun c1 h=>?_)
 refine Av<|MX.fin rfl<|Al hb0 Tryz.func122 rfl .nil rfl ?_
 cases h
 exact ⟨hS0.ag,fun w9 hw9=>okOf_in rfl⟩
 refine Ao<|Ae rfl<|Ab (AK (vs:=[vI a0]) (u:=.agg #[vI a0]) (e1 rfl) (fun w9=>by kernel_rfl))<|Ab (Bn (by kernel_rfl) rfl)<|RG.panic .plain rfl ?_
 cases h
 exact AG hp0 Tryz.func122 ⟨hS0.ag,rfl⟩
theorem body122:bodyB Tryz.prog 122 = true:=by kernel_rfl
def balance_fail_p (n:Nat) (a0:Bool) (a1:Int):Option (Except Tbroken Unit):=
  (if a0 = true then (balance_need_p n a1).bind fun y2=>exc y2 (fun c0=>some (.ok ())) (fun b0=>some (.error b0)) else some (.ok ()))
theorem balance_fail_c (n:Nat) (L:List Nat) (w:World) (hL:∀ b ∈ L,b < w.heap.size) (a0:Bool) (a1:Int)  {r:Except Tbroken Unit} (h:balance_fail_p n a0 a1 = some r) :
    Calls Tryz.prog 123 #[.bool a0,vI a1] w (PGives w (fun (y:Unit) _ u=>u = .tuple #[]) (fun e=>.iface 175 (.agg #[vI e.fH])) r):=by
 unfold balance_fail_p at h
 have hS0:=Ax w
 refine Bz Tryz.func123 rfl rfl rfl (fun _ cs0 hb0 hp0=>?_)
 refine Ac<|Ae rfl<|Aa<|MX.ifb rfl h (fun c1 h=>?_) (fun c1 h=>?_)
 refine Ao<|Ae rfl ?_
 obtain ⟨y2,hy2,h⟩:=bi h
 rcases y2 with d0 | k0
 have h:=exc_e h
 try dsimp only at h
 refine Bg (fst:=[]) (cap:=[]) .plain body122 rfl (e1 rfl) (fun w9 hw9=>balance_need_c n _ w9 (hS0.hL0 hL hw9) a1 hy2) (fun j0 c0=>?_)
 obtain ⟨b0,g0⟩:=hS0.agr c0
 cases h
 exact AG hp0 Tryz.func123 ⟨b0.ag,rfl⟩
 have h:=exc_o h
 try dsimp only at h
 refine Ba (.tuple #[]) body122 rfl (e1 rfl) (fun w9 hw9=>AD (balance_need_c n _ w9 (hS0.hL0 hL hw9) a1 hy2)) rfl<|Aa<|MX.fin rfl<|Al hb0 Tryz.func123 rfl .nil rfl ?_
 cases h
 exact ⟨hS0.ag,fun w9 hw9=>okOf_in rfl⟩
 refine Av<|MX.fin rfl<|Al hb0 Tryz.func123 rfl .nil rfl ?_
 cases h
 exact ⟨hS0.ag,fun w9 hw9=>okOf_in rfl⟩
structure Tcount where
  fF:TRoll
  fk:Int
  deriving DecidableEq
instance:Rep Tcount:=Rep.via (β:=TRoll × Int) fun x=>(x.fF,x.fk)
theorem body123:bodyB Tryz.prog 123 = true:=by kernel_rfl
def balance_counted_p (n:Nat) (a0:TRoll) (a1:Int):Option (Except Tbroken Tcount):=
  (units_CheckRoll_p n a0).bind fun g0=>(balance_need_p n g0).bind fun j0=>exc j0 (fun q0=>(if a1 < 1 then (balance_fail_p n true (2:Int)).bind fun k0=>exc k0 (fun s0=>some (.ok (⟨a0,a1⟩:Tcount))) (fun c0=>some (.error c0)) else (balance_fail_p n (decide (8 < a1)) (2:Int)).bind fun p0=>exc p0 (fun t0=>some (.ok (⟨a0,a1⟩:Tcount))) (fun d0=>some (.error d0)))) (fun b0=>some (.error b0))
theorem balance_counted_c (n:Nat) (L:List Nat) (w:World) (hL:∀ b ∈ L,b < w.heap.size) (a0:TRoll) {v0_3:Value} (h0_3:Rep.R w L [v0_3] a0.fE) (a1:Int)  {r:Except Tbroken Tcount} (h:balance_counted_p n a0 a1 = some r) :
    Calls Tryz.prog 102 #[.agg #[vI a0.fj,vI a0.fh,vI a0.fl,v0_3],vI a1] w (PGives w (fun (y:Tcount) w' u=>∃ v0_3:Value,u = .agg #[vI y.fF.fj,vI y.fF.fh,vI y.fF.fl,v0_3,vI y.fk]∧Rep.R w' L [v0_3] y.fF.fE) (fun e=>.iface 175 (.agg #[vI e.fH])) r):=by
 unfold balance_counted_p at h
 have hS0:=Ax w
 refine Bz Tryz.func102 rfl rfl rfl (fun _ cs0 hb0 hp0=>?_)
 refine Ac<|Ai .plain rfl (Ar hS0 rfl rfl) (fun j1 M0 v0 X0=>?_)
 refine Ai .plain rfl (Au [vI 0,vI 0,vI 0,vN,vI 0] v0) (fun k1 P0 b0 Y0=>?_)
 refine Aa<|Ac<|Ab (Az rfl (b0.memA (.tl .hd))) ?_
 obtain ⟨g0,F0,h⟩:=bi h
 refine Ba (vI g0) body63 rfl (e1 rfl) (fun w9 hw9=>units_CheckRoll_c n _ w9 (b0.hL0 hL hw9) a0 (b0.k0 h0_3 hw9) F0) rfl ?_
 obtain ⟨G0,q0,h⟩:=bi h
 rcases G0 with U0 | v1
 have h:=exc_e h
 try dsimp only at h
 refine Bg (fst:=[]) (cap:=[]) .plain body122 rfl (e1 rfl) (fun w9 hw9=>balance_need_c n _ w9 (b0.hL0 hL hw9) g0 q0) (fun p1 A0=>?_)
 obtain ⟨x0,Z0⟩:=b0.agr A0
 cases h
 exact AG hp0 Tryz.func102 ⟨x0.ag,rfl⟩
 have h:=exc_o h
 try dsimp only at h
 refine Ba (.tuple #[]) body122 rfl (e1 rfl) (fun w9 hw9=>AD (balance_need_c n _ w9 (b0.hL0 hL hw9) g0 q0)) rfl<|Aa<|Ac<|Ae rfl<|Ab (FV.lss (i:=a1) (j:=1) rfl rfl)<|Ae rfl<|RG.ifd (s:=10) rfl h (fun u0 h=>?_) (fun u0 h=>?_)
 refine AO<|AO<|RG.pt rfl rfl ?_
 obtain ⟨H0,s0,h⟩:=bi h
 rcases H0 with V0 | x1
 have h:=exc_e h
 try dsimp only at h
 refine Bg (fst:=[]) (cap:=[]) .plain body123 rfl (e2 rfl rfl) (fun w9 hw9=>balance_fail_c n _ w9 (b0.hL0 hL hw9) true (2:Int) s0) (fun q1 B0=>?_)
 obtain ⟨y0,b1⟩:=b0.agr B0
 cases h
 exact AG hp0 Tryz.func102 ⟨y0.ag,rfl⟩
 have h:=exc_o h
 try dsimp only at h
 refine Ba (.tuple #[]) body123 rfl (e2 rfl rfl) (fun w9 hw9=>AD (balance_fail_c n _ w9 (b0.hL0 hL hw9) true (2:Int) s0)) rfl<|Aa<|Ac<|Ab (Az rfl (b0.memA (.tl .hd)))<|Ae rfl ?_
 have j0:=AP h0_3 b0
 obtain ⟨J0,Q0,D0,_⟩:=Rep.sl j0
 refine Ab (AK (vs:=[.agg #[vI a0.fj,vI a0.fh,vI a0.fl,v0_3],vI a1]) (u:=.agg #[vI a0.fj,vI a0.fh,vI a0.fl,v0_3,vI a1]) (e2 rfl rfl) (fun w9=>by rw [D0]; try kernel_rfl))<|AL [vI a0.fj,vI a0.fh,vI a0.fl,v0_3,vI a1] b0 .hd (o5 rfl rfl rfl (AU j0) rfl) (fun s1 c0 c1=>?_)
 refine Aa<|Am rfl<|Al hb0 Tryz.func102 rfl (.cons (.many (cs:=[vI a0.fj,vI a0.fh,vI a0.fl,v0_3,vI a1]) (by kernel_rfl) rfl (c0.memA .hd)) .nil) rfl ?_
 cases h
 exact ⟨c0.ag,fun w9 hw9=>okOf_in ⟨v0_3,rfl,c0.k0 h0_3 hw9⟩⟩
 refine AW (Aj rfl)<|AW (FV.gtr (i:=a1) (j:=8) rfl rfl)<|RG.pf rfl rfl ?_
 obtain ⟨I0,t0,h⟩:=bi h
 rcases I0 with W0 | y1
 have h:=exc_e h
 try dsimp only at h
 refine Bg (fst:=[]) (cap:=[]) .plain body123 rfl (e2 rfl rfl) (fun w9 hw9=>balance_fail_c n _ w9 (b0.hL0 hL hw9) (decide (8 < a1)) (2:Int) t0) (fun t1 C0=>?_)
 obtain ⟨z0,d1⟩:=b0.agr C0
 cases h
 exact AG hp0 Tryz.func102 ⟨z0.ag,rfl⟩
 have h:=exc_o h
 try dsimp only at h
 refine Ba (.tuple #[]) body123 rfl (e2 rfl rfl) (fun w9 hw9=>AD (balance_fail_c n _ w9 (b0.hL0 hL hw9) (decide (8 < a1)) (2:Int) t0)) rfl<|Aa<|Ac<|Ab (Az rfl (b0.memA (.tl .hd)))<|Ae rfl ?_
 have p0:=AP h0_3 b0
 obtain ⟨K0,R0,E0,_⟩:=Rep.sl p0
 refine Ab (AK (vs:=[.agg #[vI a0.fj,vI a0.fh,vI a0.fl,v0_3],vI a1]) (u:=.agg #[vI a0.fj,vI a0.fh,vI a0.fl,v0_3,vI a1]) (e2 rfl rfl) (fun w9=>by rw [E0]; try kernel_rfl))<|AL [vI a0.fj,vI a0.fh,vI a0.fl,v0_3,vI a1] b0 .hd (o5 rfl rfl rfl (AU p0) rfl) (fun u1 d0 g1=>?_)
 refine Aa<|Am rfl<|Al hb0 Tryz.func102 rfl (.cons (.many (cs:=[vI a0.fj,vI a0.fh,vI a0.fl,v0_3,vI a1]) (by kernel_rfl) rfl (d0.memA .hd)) .nil) rfl ?_
 cases h
 exact ⟨d0.ag,fun w9 hw9=>okOf_in ⟨v0_3,rfl,d0.k0 h0_3 hw9⟩⟩
theorem balance_count_land_c (n:Nat) (L:List Nat) (w:World) (_hL:∀ b ∈ L,b < w.heap.size) (a0:Tcount) {v0_3:Value} (h0_3:Rep.R w L [v0_3] a0.fF.fE)  :
    Calls Tryz.prog 125 #[.agg #[vI a0.fF.fj,vI a0.fF.fh,vI a0.fF.fl,v0_3,vI a0.fk]] w (Gives w fun w' u=>∃ b0:Nat,u = .func (.func 144) #[] #[vP b0]∧St w w' [.cells b0 [vI a0.fF.fj,vI a0.fF.fh,vI a0.fF.fl,v0_3,vI a0.fk] 152]):=by
 have hS0:=Ax w
 refine AE Tryz.func125 rfl rfl rfl (fun _ cs0 hb0=>?_)
 refine Ac<|Ai .plain rfl (Ar hS0 rfl rfl) (fun g0 b0 c0 d0=>?_)
 refine Ah rfl<|Aa<|Ac<|Ab (BB (vs:=[]) (us:=[vP b0]) evs_nil (e1 rfl))<|Ah rfl<|Aa<|Am rfl<|Al (u:=.func (.func 144) #[] #[vP b0]) hb0 Tryz.func125 rfl (.cons (.tmp rfl) .nil) rfl ?_
 exact ⟨c0.ag,fun w9 hw9=>⟨b0,rfl,c0.agree hw9⟩⟩
theorem body125:bodyB Tryz.prog 125 = true:=by kernel_rfl
theorem body144:bodyB Tryz.prog 144 = true:=by kernel_rfl
def balance_count_check_l1 (n:Nat) (a1:List Int) (a0:Tcount) (g0:Nat × (List (Int × Bool)) → Option ((Except Tbroken Unit) ⊕ (List (Int × Bool)))):Nat × (List (Int × Bool)) → Option ((Except Tbroken Unit) ⊕ (List (Int × Bool)))
  | (b0,d0)=>(if b0 < a1.length then (a1[b0]?).bind fun c0=>(if c0 < 0 then (balance_fail_p n true (220:Int)).bind fun p0=>exc p0 (fun s0=>g0 (b0 + 1,mset d0 c0 true)) (fun j0=>some (.inl (.error j0))) else (balance_fail_p n (decide (a0.fk ≤ c0)) (220:Int)).bind fun q0=>exc q0 (fun t0=>g0 (b0 + 1,mset d0 c0 true)) (fun k0=>some (.inl (.error k0)))) else some (.inr d0))
def balance_count_check_l2 (n:Nat) (a1:List Int) (a0:Tcount) (g0:Nat × (List (Int × Bool)) → Option ((Except Tbroken Unit) ⊕ (List (Int × Bool)))):Nat × (List (Int × Bool)) → Option ((Except Tbroken Unit) ⊕ (List (Int × Bool)))
  | (b0,d0)=>(if b0 < a1.length then (a1[b0]?).bind fun c0=>(if c0 < 0 then (balance_fail_p n true (220:Int)).bind fun p0=>exc p0 (fun s0=>g0 (b0 + 1,mset d0 c0 true)) (fun j0=>some (.inl (.error j0))) else (balance_fail_p n (decide (a0.fk ≤ c0)) (220:Int)).bind fun q0=>exc q0 (fun t0=>g0 (b0 + 1,mset d0 c0 true)) (fun k0=>some (.inl (.error k0)))) else some (.inr d0))
def balance_count_check_l3 (n:Nat) (a0:Tcount) (a1:List Int) (g0:Nat × Int → Option ((Except Tbroken Unit) ⊕ Int)):Nat × Int → Option ((Except Tbroken Unit) ⊕ Int)
  | (b0,c0)=>(if b0 < a0.fF.fE.length then (a0.fF.fE[b0]?).bind fun q0=>(if q0.fJ = true then ((balance_fail_p n (!(decide (((a1.length:Nat):Int) = c0))) (220:Int)).bind fun s0=>exc s0 (fun u0=>thn (loopF (balance_count_check_l1 n a1 a0) n (0,([]:List (Int × Bool)))) (fun d0=>(balance_fail_p n (!(decide (((d0.length:Nat):Int) = a0.fk))) (220:Int)).bind fun t0=>exc t0 (fun v0=>some (.ok ())) (fun k0=>some (.error k0)))) (fun j0=>some (.error j0))).map .inl else (chk (c0 + 1)).bind fun p0=>g0 (b0 + 1,p0)) else some (.inr c0))
def balance_count_check_p (n:Nat) (a0:Tcount) (a1:List Int):Option (Except Tbroken Unit):=
  thn (loopF (balance_count_check_l3 n a0 a1) n (0,0)) (fun k0=>(balance_fail_p n (!(decide (((a1.length:Nat):Int) = k0))) (220:Int)).bind fun g0=>exc g0 (fun p0=>thn (loopF (balance_count_check_l2 n a1 a0) n (0,([]:List (Int × Bool)))) (fun b0=>(balance_fail_p n (!(decide (((b0.length:Nat):Int) = a0.fk))) (220:Int)).bind fun j0=>exc j0 (fun q0=>some (.ok ())) (fun d0=>some (.error d0)))) (fun c0=>some (.error c0)))
theorem balance_count_check_c (n:Nat) (L:List Nat) (w:World) (hL:∀ b ∈ L,b < w.heap.size) (a0:Tcount) {v0_3:Value} (h0_3:Rep.R w L [v0_3] a0.fF.fE) (a1:List Int) {v1_0:Value} (h1_0:Rep.R w L [v1_0] a1)  {r:Except Tbroken Unit} (h:balance_count_check_p n a0 a1 = some r) :
    Calls Tryz.prog 124 #[.agg #[vI a0.fF.fj,vI a0.fF.fh,vI a0.fF.fl,v0_3,vI a0.fk],v1_0] w (PGives w (fun (y:Unit) _ u=>u = .tuple #[]) (fun e=>.iface 175 (.agg #[vI e.fH])) r):=by
 unfold balance_count_check_p at h
 have hS0:=Ax w
 refine Bz Tryz.func124 rfl rfl rfl (fun _ cs0 hb0 hp0=>?_)
 refine Ac<|Ai .plain rfl (Ar hS0 rfl rfl) (fun U6 k0 R1 A5=>?_)
 refine Aa<|Ac<|Ai .plain rfl (Au [vI 0] R1) (fun V6 H0 V1 D5=>?_)
 refine AL [vI 0] V1 .hd (o1 rfl) (fun E4 C0 I5=>?_)
 refine Aa<|Ak<|Ac<|Ab (Az rfl (C0.memA (.tl .hd)))<|By (fst:=[]) (cap:=[]) .plain body125 rfl (e1 rfl) (fun w9 hw9=>Calls.gives (balance_count_land_c n _ w9 (C0.hL hL hw9) a0 (C0.km h0_3 hw9)) fun (w8:World) (u8:Value) ⟨b0_,hu_,s_⟩=>(⟨b0_,hu_,s_.from hw9⟩:∃ x0:Nat,u8 = Value.func (.func 144) #[] #[vP x0]∧St E4 w8 [.cells x0 [vI a0.fF.fj,vI a0.fF.fh,vI a0.fF.fl,v0_3,vI a0.fk] 152])) rfl (fun c7 R6 F6 ⟨x0,y4,A1⟩=>?_)
 subst y4
 have j2:=mk_push1 C0 A1
 have R5:=mk_tr1 C0 A1
 refine Aa<|AB<|MX.rangeP (lb:=[vP x0]) rfl j2 rfl body144 Tryz.func144 rfl rfl rfl (fun F4 G0 t0 P0 p5 J0 c6 C4 d1 K6=>?_)
 refine Ac<|Bf 0 rfl<|Bf 3 rfl<|Ab (AJ rfl ((mem_from (J0.memA (.tl (.tl .hd))) 0) 3 _ rfl)) ?_
 have p1:=AP h0_3 J0
 have I6:a0.fF.fE.length ≤ 281474976710656:=Bi p1
 refine Ab (Bk (xs:=a0.fF.fE) Tryz.underlying26 rfl p1)<|Ae rfl<|Aa<|AB ?_
 obtain ⟨M6,d4,g1⟩:=thn_in h
 refine Bw (α:=Nat × Int) (fun ⟨s0,d0⟩=>[(0,.func (.yield G0) #[] #[]),(7,v0_3),(8,vI ((a0.fF.fE.length:Nat):Int)),(9,vI ((s0:Nat):Int))]) (fun ⟨s0,d0⟩ Q0=>St w Q0 [.obj G0 (lpO P0 .ready none),.obj t0 (.deferred (some [])),.cells x0 [vI a0.fF.fj,vI a0.fF.fh,vI a0.fF.fl,v0_3,vI a0.fk] 152,.cells H0 [vI d0] 3,.cells k0 [vI a0.fF.fj,vI a0.fF.fh,vI a0.fF.fl,v0_3,vI a0.fk] 152]∧Tr F4 [.obj G0 (lpO P0 .ready none),.obj t0 (.deferred (some [])),.cells x0 [vI a0.fF.fj,vI a0.fF.fh,vI a0.fF.fl,v0_3,vI a0.fk] 152,.cells H0 [vI 0] 3,.cells k0 [vI a0.fF.fj,vI a0.fF.fh,vI a0.fF.fl,v0_3,vI a0.fk] 152] Q0 [.obj G0 (lpO P0 .ready none),.obj t0 (.deferred (some [])),.cells x0 [vI a0.fF.fj,vI a0.fF.fh,vI a0.fF.fl,v0_3,vI a0.fk] 152,.cells H0 [vI d0] 3,.cells k0 [vI a0.fF.fj,vI a0.fF.fh,vI a0.fF.fl,v0_3,vI a0.fk] 152]) (fun ⟨s0,d0⟩=>(s0,d0)) (0,0) d4 ⟨rfl,rfl,rfl,rfl,trivial⟩ ⟨J0,Bd _ _⟩ ?_
 rintro X4 ⟨s0,d0⟩ Q0 Q1 ⟨I0,b3⟩ h
 unfold balance_count_check_l3 at h
 try dsimp only at h
 refine Ac<|Ab (Bm (i:=s0) (j:=a0.fF.fE.length) rfl rfl)<|Aa<|Ak<|AX rfl h (fun F1 h=>?_) (fun F1 h=>?_)
 refine Av<|Ak<|AB<|Ac<|Ae rfl ?_
 obtain ⟨A0,z4,h⟩:=bi h
 have Q3:=AP h0_3 I0
 obtain ⟨U4,c5,E3,J3,j5,p4,P3⟩:=Bo Q3 z4
 obtain ⟨C1,D1,E1,rfl,q4,s4,t4⟩:=op_TUnit p4
 refine Ab (Bx 6 s0 rfl E3 rfl rfl J3)<|Ab (Az rfl P3)<|Ai .plain rfl (Au [.string ⟨#[]⟩,vI 0,vN,vN,vN,.bool false] I0) (fun W6 b5 U1 F0=>?_)
 refine Ah rfl ?_
 have R3:=Ay q4 F0
 have U3:=Ay s4 F0
 have V3:=Ay t4 F0
 refine AL [.string A0.fI,vI A0.fG,C1,D1,E1,.bool A0.fJ] U1 .hd (o6 rfl rfl (AU R3) (AU U3) (AU V3) rfl) (fun X6 B0 c3=>?_)
 refine Aa<|Ac<|Bf 5 rfl<|AZ rfl ((B0.memA .hd) 5 _ rfl)<|Ae rfl<|RG.ifb (s:=16) rfl h (fun G1 h=>?_) (fun G1 h=>?_)
 refine AO<|AO<|AO<|AO<|AO<|RG.pt rfl rfl<|Aa<|AV rfl ?_
 have h:=thn_map h g1
 refine Am rfl<|Al (u:=.tuple #[]) d1 Tryz.func144 rfl .nil rfl<|MX.endRange0 B0 (.tl .hd) (by intro h9; cases h9) (fun Y6 W1 B5=>?_)
 obtain ⟨y0,C5⟩:=AN W1 (.one .hd (.one (.tl .hd) (.one (.tl .hd) (.one (.tl .hd) (.one (.tl .hd) .done)))))
 refine AC<|Ac<|Ae rfl ?_
 have j1:=AP h1_0 y0
 have G6:a1.length ≤ 281474976710656:=Bi j1
 refine Ab (Bk (xs:=a1) Tryz.underlying59 rfl j1)<|Ab (AJ rfl ((y0.memA (.tl (.tl (.tl .hd)))) 0 _ rfl))<|Ab (FV.neq (i:=((a1.length:Nat):Int)) (j:=d0) rfl rfl) ?_
 obtain ⟨H4,q1,h⟩:=bi h
 rcases H4 with q5 | M7
 have h:=exc_e h
 try dsimp only at h
 refine Bg (fst:=[]) (cap:=[]) .plain body123 rfl (e2 rfl rfl) (fun w9 hw9=>balance_fail_c n _ w9 (y0.hL0 hL hw9) (!(decide (((a1.length:Nat):Int) = d0))) (220:Int) q1) (fun Z6 u3=>?_)
 obtain ⟨X1,E5⟩:=y0.agr u3
 refine PN.take X1 (.tl .hd) (fun b7 Y1 F5=>?_)
 obtain ⟨Z1,G5⟩:=AN Y1 (.one .hd (.one (.tl .hd) (.one (.tl .hd) (.one (.tl .hd) .done))))
 cases h
 exact AG hp0 Tryz.func124 ⟨Z1.ag,rfl⟩
 have h:=exc_o h
 try dsimp only at h
 refine Ba (.tuple #[]) body123 rfl (e2 rfl rfl) (fun w9 hw9=>AD (balance_fail_c n _ w9 (y0.hL0 hL hw9) (!(decide (((a1.length:Nat):Int) = d0))) (220:Int) q1)) rfl<|Aa<|Ac<|Ai .plain rfl (Does.makeMap (κ:=Int) (ν:=Bool) y0) (fun D4 D0 X0 H5=>?_)
 refine Ah rfl<|Aa<|Ak<|Ac<|Ae rfl ?_
 have W3:=AP h1_0 X0
 refine Ab (Bk (xs:=a1) Tryz.underlying59 rfl W3)<|Ae rfl<|Aa<|AB ?_
 obtain ⟨b2,J5⟩:=AN X0 (.one .hd (.one (.tl .hd) (.one (.tl (.tl (.tl .hd))) .done)))
 obtain ⟨P6,g4,K0⟩:=thn_in h
 refine Bw (α:=Nat × (List (Int × Bool))) (fun ⟨p0,g0⟩=>[(2,vP k0),(5,.map (some D0)),(20,v1_0),(21,vI ((a1.length:Nat):Int)),(22,vI ((p0:Nat):Int))]) (fun ⟨p0,g0⟩ R0=>St w R0 [.obj D0 (mapO (g0:List (Int × Bool))),.obj t0 (.deferred (some [])),.cells k0 [vI a0.fF.fj,vI a0.fF.fh,vI a0.fF.fl,v0_3,vI a0.fk] 152]∧Tr D4 [.obj D0 (mapO ([]:List (Int × Bool))),.obj t0 (.deferred (some [])),.cells k0 [vI a0.fF.fj,vI a0.fF.fh,vI a0.fF.fl,v0_3,vI a0.fk] 152] R0 [.obj D0 (mapO (g0:List (Int × Bool))),.obj t0 (.deferred (some [])),.cells k0 [vI a0.fF.fj,vI a0.fF.fh,vI a0.fF.fl,v0_3,vI a0.fk] 152]) (fun ⟨p0,g0⟩=>(p0,g0)) (0,([]:List (Int × Bool))) g4 ⟨rfl,rfl,rfl,rfl,rfl,trivial⟩ ⟨b2,Bd _ _⟩ ?_
 rintro Y4 ⟨p0,g0⟩ R0 V0 ⟨b0,b1⟩ h
 unfold balance_count_check_l1 at h
 try dsimp only at h
 refine Ac<|Ab (Bm (i:=p0) (j:=a1.length) rfl rfl)<|Aa<|Ak<|AX rfl h (fun H1 h=>?_) (fun H1 h=>?_)
 refine Av<|Ak<|AB<|Ac ?_
 obtain ⟨u0,A4,h⟩:=bi h
 have Y3:=AP h1_0 b0
 obtain ⟨V4,d5,F3,K3,M1,u4,X3⟩:=Bo Y3 A4
 have G3:M1 = [vI u0]:=u4; subst G3
 refine Ab (Bx 1 p0 rfl F3 rfl rfl K3)<|AZ rfl (X3 0 _ rfl)<|Ah rfl<|Aa<|Ac<|Ae rfl<|Ab (FV.lss (i:=u0) (j:=0) rfl rfl)<|Ae rfl<|RG.ifd (s:=28) rfl h (fun I1 h=>?_) (fun I1 h=>?_)
 refine AO<|AO<|AO<|AO<|RG.pt rfl rfl ?_
 obtain ⟨I4,s1,h⟩:=bi h
 rcases I4 with s5 | P7
 have h:=exc_e h
 try dsimp only at h
 have h:=thn_inl h K0
 refine Bg (fst:=[]) (cap:=[]) .plain body123 rfl (e2 rfl rfl) (fun w9 hw9=>balance_fail_c n _ w9 (b0.hL0 hL hw9) true (220:Int) s1) (fun d7 v3=>?_)
 obtain ⟨c2,K5⟩:=b0.agr v3
 refine PN.take c2 (.tl .hd) (fun g7 d2 M5=>?_)
 obtain ⟨g2,P5⟩:=AN d2 (.one .hd (.one (.tl .hd) .done))
 cases h
 exact AG hp0 Tryz.func124 ⟨g2.ag,rfl⟩
 have h:=exc_o h
 try dsimp only at h
 refine Ba (.tuple #[]) body123 rfl (e2 rfl rfl) (fun w9 hw9=>AD (balance_fail_c n _ w9 (b0.hL0 hL hw9) true (220:Int) s1)) rfl<|Aa<|Ao<|Ae rfl<|Ae rfl<|RG.now .plain (Acts.mapUpdate (kv:=u0) (vv:=true) b0 .hd Tryz.underlying198 Tryz.underlying3 rfl rfl rfl rfl) (fun j7 k2 d3=>?_)
 refine Aa<|AC<|Ao<|Ab (Bl (i:=p0) (j:=1) rfl rfl (by omega))<|Ae rfl<|Aa ?_
 exact V0 (p0 + 1,mset g0 u0 true) _ _ ⟨rfl,rfl,rfl,rfl,rfl,trivial⟩ ⟨k2,(Tt b1 d3)⟩ h
 refine AW (Aj rfl)<|RG.fg 4 rfl<|AW (AJ rfl ((b0.memA (.tl (.tl .hd))) 4 _ rfl))<|AW (FV.geq (i:=u0) (j:=a0.fk) rfl rfl)<|RG.pf rfl rfl ?_
 obtain ⟨J4,t1,h⟩:=bi h
 rcases J4 with t5 | Q7
 have h:=exc_e h
 try dsimp only at h
 have h:=thn_inl h K0
 refine Bg (fst:=[]) (cap:=[]) .plain body123 rfl (e2 rfl rfl) (fun w9 hw9=>balance_fail_c n _ w9 (b0.hL0 hL hw9) (decide (a0.fk ≤ u0)) (220:Int) t1) (fun k7 x3=>?_)
 obtain ⟨p2,Q5⟩:=b0.agr x3
 refine PN.take p2 (.tl .hd) (fun p7 q2 U5=>?_)
 obtain ⟨s2,V5⟩:=AN q2 (.one .hd (.one (.tl .hd) .done))
 cases h
 exact AG hp0 Tryz.func124 ⟨s2.ag,rfl⟩
 have h:=exc_o h
 try dsimp only at h
 refine Ba (.tuple #[]) body123 rfl (e2 rfl rfl) (fun w9 hw9=>AD (balance_fail_c n _ w9 (b0.hL0 hL hw9) (decide (a0.fk ≤ u0)) (220:Int) t1)) rfl<|Aa<|Ao<|Ae rfl<|Ae rfl<|RG.now .plain (Acts.mapUpdate (kv:=u0) (vv:=true) b0 .hd Tryz.underlying198 Tryz.underlying3 rfl rfl rfl rfl) (fun q7 t2 g3=>?_)
 refine Aa<|AC<|Ao<|Ab (Bl (i:=p0) (j:=1) rfl rfl (by omega))<|Ae rfl<|Aa ?_
 exact V0 (p0 + 1,mset g0 u0 true) _ _ ⟨rfl,rfl,rfl,rfl,rfl,trivial⟩ ⟨t2,(Tt b1 g3)⟩ h
 refine Bj rfl ?_
 have h:=thn_inr h K0
 try dsimp only at h
 refine Ao<|Ae rfl<|Ab (FV.len_map (D:=g0) b0 .hd Tryz.underlying198 rfl)<|Bf 4 rfl<|AZ rfl ((b0.memA (.tl (.tl .hd))) 4 _ rfl)<|Ab (FV.neq (i:=((g0.length:Nat):Int)) (j:=a0.fk) rfl rfl) ?_
 obtain ⟨K4,u1,h⟩:=bi h
 rcases K4 with u5 | R7
 have h:=exc_e h
 try dsimp only at h
 refine Bg (fst:=[]) (cap:=[]) .plain body123 rfl (e2 rfl rfl) (fun w9 hw9=>balance_fail_c n _ w9 (b0.hL0 hL hw9) (!(decide (((g0.length:Nat):Int) = a0.fk))) (220:Int) u1) (fun s7 y3=>?_)
 obtain ⟨u2,W5⟩:=b0.agr y3
 refine PN.take u2 (.tl .hd) (fun t7 v2 X5=>?_)
 obtain ⟨x2,Y5⟩:=AN v2 (.one .hd (.one (.tl .hd) .done))
 cases h
 exact AG hp0 Tryz.func124 ⟨x2.ag,rfl⟩
 have h:=exc_o h
 try dsimp only at h
 refine Ba (.tuple #[]) body123 rfl (e2 rfl rfl) (fun w9 hw9=>AD (balance_fail_c n _ w9 (b0.hL0 hL hw9) (!(decide (((g0.length:Nat):Int) = a0.fk))) (220:Int) u1)) rfl<|Aa<|MX.fin rfl<|RT.take b0 (.tl .hd) (fun u7 y2 Z5=>?_)
 obtain ⟨z2,b6⟩:=AN y2 (.one .hd (.one (.tl .hd) .done))
 refine Al hb0 Tryz.func124 rfl .nil rfl ?_
 cases h
 exact ⟨z2.ag,fun w9 hw9=>okOf_in rfl⟩
 refine AW (Aj rfl)<|AW (Aj rfl)<|AW (Az rfl (B0.memA .hd))<|RG.yieldP (fd:=124) (vs:=[vI ((s0:Nat):Int),.agg #[.string A0.fI,vI A0.fG,C1,D1,E1,.bool A0.fJ]]) (.yes rfl rfl) rfl (e2 rfl rfl) B0 (.tl .hd) C4 rfl rfl rfl (fun k5 D3 J6=>?_)
 refine Av<|MX.begin B0 (.tl .hd) (fun v7 Y0 j3=>?_)
 refine AB<|Ao<|Ab (AJ rfl ((Y0.memA (.tl (.tl (.tl (.tl .hd))))) 0 _ rfl)) ?_
 obtain ⟨B1,x4,h⟩:=bi h
 refine Ab (FV.addc (i:=d0) (j:=1) rfl rfl x4)<|AL [vI B1] Y0 (.tl (.tl (.tl (.tl .hd)))) (o1 rfl) (fun x7 A2 k3=>?_)
 refine Aa<|AC<|MX.roundEnd D3 A2 (.tl .hd) (fun y7 B2 p3=>?_)
 refine AW (FV.not rfl)<|RG.pf rfl rfl<|Aa<|Bu rfl<|Av<|AC<|Ao<|Ab (Bl (i:=s0) (j:=1) rfl rfl (by omega))<|Ae rfl<|Aa ?_
 obtain ⟨C2,q3⟩:=AN B2 (.one (.tl .hd) (.one (.tl .hd) (.one (.tl .hd) (.one (.tl .hd) (.one (.tl .hd) .done)))))
 have k4:=Tt F0 (Tt c3 (Tt j3 (Tt k3 (Tt p3 q3))))
 exact Q1 (s0 + 1,B1) _ _ ⟨rfl,rfl,rfl,rfl,trivial⟩ ⟨C2,(Tt b3 k4)⟩ h
 refine Bj rfl ?_
 have h:=thn_inr h g1
 try dsimp only at h
 refine MX.fin rfl<|Al (u:=.tuple #[]) d1 Tryz.func144 rfl .nil rfl<|MX.endRange0 I0 .hd (by intro h9; cases h9) (fun z7 D2 d6=>?_)
 obtain ⟨z0,g6⟩:=AN D2 (.one (.tl .hd) (.one (.tl .hd) (.one (.tl .hd) (.one (.tl .hd) .done))))
 refine AC<|Ac<|Ae rfl ?_
 have k1:=AP h1_0 z0
 have H6:a1.length ≤ 281474976710656:=Bi k1
 refine Ab (Bk (xs:=a1) Tryz.underlying59 rfl k1)<|AZ rfl ((z0.memA (.tl (.tl .hd))) 0 _ rfl)<|Ab (FV.neq (i:=((a1.length:Nat):Int)) (j:=d0) rfl rfl) ?_
 obtain ⟨M4,v1,h⟩:=bi h
 rcases M4 with v5 | U7
 have h:=exc_e h
 try dsimp only at h
 refine Bg (fst:=[]) (cap:=[]) .plain body123 rfl (e2 rfl rfl) (fun w9 hw9=>balance_fail_c n _ w9 (z0.hL0 hL hw9) (!(decide (((a1.length:Nat):Int) = d0))) (220:Int) v1) (fun A7 z3=>?_)
 obtain ⟨E2,j6⟩:=z0.agr z3
 refine PN.take E2 .hd (fun B7 F2 k6=>?_)
 obtain ⟨G2,p6⟩:=AN F2 (.one (.tl .hd) (.one (.tl .hd) (.one (.tl .hd) .done)))
 cases h
 exact AG hp0 Tryz.func124 ⟨G2.ag,rfl⟩
 have h:=exc_o h
 try dsimp only at h
 refine Ba (.tuple #[]) body123 rfl (e2 rfl rfl) (fun w9 hw9=>AD (balance_fail_c n _ w9 (z0.hL0 hL hw9) (!(decide (((a1.length:Nat):Int) = d0))) (220:Int) v1)) rfl<|Aa<|Ac<|Ai .plain rfl (Does.makeMap (κ:=Int) (ν:=Bool) z0) (fun G4 E0 Z0 q6=>?_)
 refine Ah rfl<|Aa<|Ak<|Ac<|Ae rfl ?_
 have Z3:=AP h1_0 Z0
 refine Ab (Bk (xs:=a1) Tryz.underlying59 rfl Z3)<|Ae rfl<|Aa<|AB ?_
 obtain ⟨H2,s6⟩:=AN Z0 (.one .hd (.one .hd (.one (.tl (.tl .hd)) .done)))
 obtain ⟨Q6,j4,M0⟩:=thn_in h
 refine Bw (α:=Nat × (List (Int × Bool))) (fun ⟨q0,j0⟩=>[(2,vP k0),(5,.map (some E0)),(20,v1_0),(21,vI ((a1.length:Nat):Int)),(22,vI ((q0:Nat):Int))]) (fun ⟨q0,j0⟩ U0=>St w U0 [.obj E0 (mapO (j0:List (Int × Bool))),.obj t0 (.deferred (some [])),.cells k0 [vI a0.fF.fj,vI a0.fF.fh,vI a0.fF.fl,v0_3,vI a0.fk] 152]∧Tr G4 [.obj E0 (mapO ([]:List (Int × Bool))),.obj t0 (.deferred (some [])),.cells k0 [vI a0.fF.fj,vI a0.fF.fh,vI a0.fF.fl,v0_3,vI a0.fk] 152] U0 [.obj E0 (mapO (j0:List (Int × Bool))),.obj t0 (.deferred (some [])),.cells k0 [vI a0.fF.fj,vI a0.fF.fh,vI a0.fF.fl,v0_3,vI a0.fk] 152]) (fun ⟨q0,j0⟩=>(q0,j0)) (0,([]:List (Int × Bool))) j4 ⟨rfl,rfl,rfl,rfl,rfl,trivial⟩ ⟨H2,Bd _ _⟩ ?_
 rintro Z4 ⟨q0,j0⟩ U0 W0 ⟨c0,c1⟩ h
 unfold balance_count_check_l2 at h
 try dsimp only at h
 refine Ac<|Ab (Bm (i:=q0) (j:=a1.length) rfl rfl)<|Aa<|Ak<|AX rfl h (fun J1 h=>?_) (fun J1 h=>?_)
 refine Av<|Ak<|AB<|Ac ?_
 obtain ⟨v0,B4,h⟩:=bi h
 have c4:=AP h1_0 c0
 obtain ⟨W4,g5,H3,M3,P1,v4,b4⟩:=Bo c4 B4
 have I3:P1 = [vI v0]:=v4; subst I3
 refine Ab (Bx 1 q0 rfl H3 rfl rfl M3)<|AZ rfl (b4 0 _ rfl)<|Ah rfl<|Aa<|Ac<|Ae rfl<|Ab (FV.lss (i:=v0) (j:=0) rfl rfl)<|Ae rfl<|RG.ifd (s:=28) rfl h (fun K1 h=>?_) (fun K1 h=>?_)
 refine AO<|AO<|AO<|AO<|RG.pt rfl rfl ?_
 obtain ⟨P4,x1,h⟩:=bi h
 rcases P4 with x5 | V7
 have h:=exc_e h
 try dsimp only at h
 have h:=thn_inl h M0
 refine Bg (fst:=[]) (cap:=[]) .plain body123 rfl (e2 rfl rfl) (fun w9 hw9=>balance_fail_c n _ w9 (c0.hL0 hL hw9) true (220:Int) x1) (fun C7 A3=>?_)
 obtain ⟨I2,t6⟩:=c0.agr A3
 refine PN.take I2 (.tl .hd) (fun D7 J2 u6=>?_)
 obtain ⟨K2,v6⟩:=AN J2 (.one .hd (.one (.tl .hd) .done))
 cases h
 exact AG hp0 Tryz.func124 ⟨K2.ag,rfl⟩
 have h:=exc_o h
 try dsimp only at h
 refine Ba (.tuple #[]) body123 rfl (e2 rfl rfl) (fun w9 hw9=>AD (balance_fail_c n _ w9 (c0.hL0 hL hw9) true (220:Int) x1)) rfl<|Aa<|Ao<|Ae rfl<|Ae rfl<|RG.now .plain (Acts.mapUpdate (kv:=v0) (vv:=true) c0 .hd Tryz.underlying198 Tryz.underlying3 rfl rfl rfl rfl) (fun E7 M2 s3=>?_)
 refine Aa<|AC<|Ao<|Ab (Bl (i:=q0) (j:=1) rfl rfl (by omega))<|Ae rfl<|Aa ?_
 exact W0 (q0 + 1,mset j0 v0 true) _ _ ⟨rfl,rfl,rfl,rfl,rfl,trivial⟩ ⟨M2,(Tt c1 s3)⟩ h
 refine AW (Aj rfl)<|RG.fg 4 rfl<|AW (AJ rfl ((c0.memA (.tl (.tl .hd))) 4 _ rfl))<|AW (FV.geq (i:=v0) (j:=a0.fk) rfl rfl)<|RG.pf rfl rfl ?_
 obtain ⟨Q4,y1,h⟩:=bi h
 rcases Q4 with y5 | W7
 have h:=exc_e h
 try dsimp only at h
 have h:=thn_inl h M0
 refine Bg (fst:=[]) (cap:=[]) .plain body123 rfl (e2 rfl rfl) (fun w9 hw9=>balance_fail_c n _ w9 (c0.hL0 hL hw9) (decide (a0.fk ≤ v0)) (220:Int) y1) (fun F7 B3=>?_)
 obtain ⟨P2,x6⟩:=c0.agr B3
 refine PN.take P2 (.tl .hd) (fun G7 Q2 y6=>?_)
 obtain ⟨R2,z6⟩:=AN Q2 (.one .hd (.one (.tl .hd) .done))
 cases h
 exact AG hp0 Tryz.func124 ⟨R2.ag,rfl⟩
 have h:=exc_o h
 try dsimp only at h
 refine Ba (.tuple #[]) body123 rfl (e2 rfl rfl) (fun w9 hw9=>AD (balance_fail_c n _ w9 (c0.hL0 hL hw9) (decide (a0.fk ≤ v0)) (220:Int) y1)) rfl<|Aa<|Ao<|Ae rfl<|Ae rfl<|RG.now .plain (Acts.mapUpdate (kv:=v0) (vv:=true) c0 .hd Tryz.underlying198 Tryz.underlying3 rfl rfl rfl rfl) (fun H7 U2 t3=>?_)
 refine Aa<|AC<|Ao<|Ab (Bl (i:=q0) (j:=1) rfl rfl (by omega))<|Ae rfl<|Aa ?_
 exact W0 (q0 + 1,mset j0 v0 true) _ _ ⟨rfl,rfl,rfl,rfl,rfl,trivial⟩ ⟨U2,(Tt c1 t3)⟩ h
 refine Bj rfl ?_
 have h:=thn_inr h M0
 try dsimp only at h
 refine Ao<|Ae rfl<|Ab (FV.len_map (D:=j0) c0 .hd Tryz.underlying198 rfl)<|Bf 4 rfl<|AZ rfl ((c0.memA (.tl (.tl .hd))) 4 _ rfl)<|Ab (FV.neq (i:=((j0.length:Nat):Int)) (j:=a0.fk) rfl rfl) ?_
 obtain ⟨R4,z1,h⟩:=bi h
 rcases R4 with z5 | X7
 have h:=exc_e h
 try dsimp only at h
 refine Bg (fst:=[]) (cap:=[]) .plain body123 rfl (e2 rfl rfl) (fun w9 hw9=>balance_fail_c n _ w9 (c0.hL0 hL hw9) (!(decide (((j0.length:Nat):Int) = a0.fk))) (220:Int) z1) (fun I7 C3=>?_)
 obtain ⟨V2,A6⟩:=c0.agr C3
 refine PN.take V2 (.tl .hd) (fun J7 W2 B6=>?_)
 obtain ⟨X2,C6⟩:=AN W2 (.one .hd (.one (.tl .hd) .done))
 cases h
 exact AG hp0 Tryz.func124 ⟨X2.ag,rfl⟩
 have h:=exc_o h
 try dsimp only at h
 refine Ba (.tuple #[]) body123 rfl (e2 rfl rfl) (fun w9 hw9=>AD (balance_fail_c n _ w9 (c0.hL0 hL hw9) (!(decide (((j0.length:Nat):Int) = a0.fk))) (220:Int) z1)) rfl<|Aa<|MX.fin rfl<|RT.take c0 (.tl .hd) (fun K7 Y2 D6=>?_)
 obtain ⟨Z2,E6⟩:=AN Y2 (.one .hd (.one (.tl .hd) .done))
 refine Al hb0 Tryz.func124 rfl .nil rfl ?_
 cases h
 exact ⟨Z2.ag,fun w9 hw9=>okOf_in rfl⟩
def tb103_6:List (Nat × Nat × Nat):=[(0,262144,32),(0,524288,8),(0,1048576,64),(6,2097152,1572864),(8,4194304,2097152),(17,8388608,4456448),(32,16777216,8388608),(0,33554432,128),(128,67108864,33554432),(320,134217728,83886080),(1023,268435456,4456448),(2047,0,402653184)]
theorem body124:bodyB Tryz.prog 124 = true:=by kernel_rfl
def balance_count_totals_l1 (_n:Nat) (a0:Tcount) (a1:List Int) (j0:Nat × (List Int) → Option ((Except Tbroken (List Int)) ⊕ (List Int))):Nat × (List Int) → Option ((Except Tbroken (List Int)) ⊕ (List Int))
  | (b0,c0)=>(if b0 < a0.fF.fE.length then (a0.fF.fE[b0]?).bind fun d0=>(if d0.fJ = true then some (.inl (.ok c0)) else (a1[b0]?).bind fun g0=>(idx c0 g0).bind fun p0=>(chk (p0 + d0.fG)).bind fun k0=>(put c0 ((g0.toNat:Nat):Int) k0).bind fun q0=>j0 (b0 + 1,q0)) else some (.inr c0))
def balance_count_totals_p (n:Nat) (a0:Tcount) (a1:List Int):Option (Except Tbroken (List Int)):=
  (balance_count_check_p n a0 a1).bind fun g0=>exc g0 (fun j0=>(mk a0.fk (0:Int)).bind fun d0=>thn (loopF (balance_count_totals_l1 n a0 a1) n (0,d0)) (fun c0=>some (.ok c0))) (fun b0=>some (.error b0))
theorem balance_count_totals_c (n:Nat) (L:List Nat) (w:World) (hL:∀ b ∈ L,b < w.heap.size) (a0:Tcount) {v0_3:Value} (h0_3:Rep.R w L [v0_3] a0.fF.fE) (a1:List Int) {v1_0:Value} (h1_0:Rep.R w L [v1_0] a1)  {r:Except Tbroken (List Int)} (h:balance_count_totals_p n a0 a1 = some r) :
    Calls Tryz.prog 103 #[.agg #[vI a0.fF.fj,vI a0.fF.fh,vI a0.fF.fl,v0_3,vI a0.fk],v1_0] w (PGives w (fun (y:List Int) w' u=>∃ v0_0:Value,u = v0_0∧Rep.R w' L [v0_0] y) (fun e=>.iface 175 (.agg #[vI e.fH])) r):=by
 unfold balance_count_totals_p at h
 have hS0:=Ax w
 refine Bz Tryz.func103 rfl rfl rfl (fun _ cs0 hb0 hp0=>?_)
 refine Ac<|Ai .plain rfl (Ar hS0 rfl rfl) (fun R4 B0 d1 B4=>?_)
 have Z2:=AP h1_0 d1
 refine Ai .plain rfl (Ar d1 rfl (Rep.c1 Z2)) (fun U4 C0 d0 C4=>?_)
 refine Ah rfl<|Aa<|Ac<|Ab (Az rfl (d0.memA (.tl .hd)))<|AZ rfl ((d0.memA .hd) 0 _ rfl) ?_
 obtain ⟨d4,G1,h⟩:=bi h
 rcases d4 with A4 | u5
 have h:=exc_e h
 try dsimp only at h
 refine Bg (fst:=[]) (cap:=[]) .plain body124 rfl (e2 rfl rfl) (fun w9 hw9=>balance_count_check_c n _ w9 (d0.hL0 hL hw9) a0 (d0.k0 h0_3 hw9) a1 (d0.k0 h1_0 hw9) G1) (fun V4 K2=>?_)
 obtain ⟨W1,D4⟩:=d0.agr K2
 cases h
 exact AG hp0 Tryz.func103 ⟨W1.ag,rfl⟩
 have h:=exc_o h
 try dsimp only at h
 refine Ba (.tuple #[]) body124 rfl (e2 rfl rfl) (fun w9 hw9=>AD (balance_count_check_c n _ w9 (d0.hL0 hL hw9) a0 (d0.k0 h0_3 hw9) a1 (d0.k0 h1_0 hw9) G1)) rfl<|Aa<|Ac<|Bf 4 rfl<|AZ rfl ((d0.memA (.tl .hd)) 4 _ rfl) ?_
 obtain ⟨b1,F1,h⟩:=bi h
 refine Ai .plain rfl (Does.mk (α:=Int) F1 d0 el42 rfl) (fun c5 c0 j1 F4=>?_)
 have P2:=AM (cs:=(List.replicate a0.fk.toNat [vI 0]).flatten) (xs:=b1) j1 L (Cells.mk F1 rfl)
 refine Ai .plain rfl (Au [vN] j1) (fun q5 D0 R0 G2=>?_)
 refine RG.now .plain (Aw (news:=[(.slice (some ⟨c0,0,none⟩) a0.fk.toNat a0.fk.toNat)]) R0 .hd rfl rfl rfl (St.c1 (α:=Int) R0 (.tl .hd)) rfl rfl (o1 (St.o1 (α:=Int) R0 (.tl .hd)))) (fun Z3 x0 H2=>?_)
 refine Aa<|Ak<|Ac<|Ab (Az rfl (x0.memA (.tl (.tl (.tl .hd)))))<|By (fst:=[]) (cap:=[]) .plain body125 rfl (e1 rfl) (fun w9 hw9=>Calls.gives (balance_count_land_c n _ w9 (x0.hL hL hw9) a0 (x0.km h0_3 hw9)) fun (w8:World) (u8:Value) ⟨b0_,hu_,s_⟩=>(⟨b0_,hu_,s_.from hw9⟩:∃ s0:Nat,u8 = Value.func (.func 144) #[] #[vP s0]∧St Z3 w8 [.cells s0 [vI a0.fF.fj,vI a0.fF.fh,vI a0.fF.fl,v0_3,vI a0.fk] 152])) rfl (fun t5 Q4 H4 ⟨s0,Q3,H1⟩=>?_)
 subst Q3
 have q2:=mk_push1 x0 H1
 have I2:=mk_tr1 x0 H1
 refine Aa<|AB<|MX.rangeP (lb:=[vP s0]) rfl q2 rfl body144 Tryz.func144 rfl rfl rfl (fun b4 z0 A0 G0 z4 U0 J2 Y3 u1 K4=>?_)
 refine Ac<|Bf 0 rfl<|Bf 3 rfl<|Ab (AJ rfl ((mem_from (U0.memA (.tl (.tl .hd))) 0) 3 _ rfl)) ?_
 have A1:=AP h0_3 U0
 have I4:a0.fF.fE.length ≤ 281474976710656:=Bi A1
 refine Ab (Bk (xs:=a0.fF.fE) Tryz.underlying26 rfl A1)<|Ae rfl<|Aa<|AB ?_
 have B3:=Tt G2 (Tt H2 (Tt I2 J2))
 have b3:=Bb P2 B3
 obtain ⟨M4,A3,x1⟩:=thn_in h
 refine Bw (α:=Nat × (List Int) × (List Value)) (fun ⟨g0,q0,t0⟩=>[(0,.func (.yield z0) #[] #[]),(7,v0_3),(8,vI ((a0.fF.fE.length:Nat):Int)),(9,vI ((g0:Nat):Int))]) (fun ⟨g0,q0,t0⟩ H0=>St w H0 [.obj z0 (lpO G0 .ready none),.obj A0 (.deferred (some [])),.cells s0 [vI a0.fF.fj,vI a0.fF.fh,vI a0.fF.fl,v0_3,vI a0.fk] 152,.cells D0 [(.slice (some ⟨c0,0,none⟩) a0.fk.toNat a0.fk.toNat)] 42,.row w.heap.size 3 (Rep.size Int) (.slice (some ⟨c0,0,none⟩) a0.fk.toNat a0.fk.toNat) q0.length t0,.cells C0 [v1_0] 59,.cells B0 [vI a0.fF.fj,vI a0.fF.fh,vI a0.fF.fl,v0_3,vI a0.fk] 152]∧Tr b4 [.obj z0 (lpO G0 .ready none),.obj A0 (.deferred (some [])),.cells s0 [vI a0.fF.fj,vI a0.fF.fh,vI a0.fF.fl,v0_3,vI a0.fk] 152,.cells D0 [(.slice (some ⟨c0,0,none⟩) a0.fk.toNat a0.fk.toNat)] 42,.row w.heap.size 3 (Rep.size Int) (.slice (some ⟨c0,0,none⟩) a0.fk.toNat a0.fk.toNat) b1.length ((List.replicate a0.fk.toNat [vI 0]).flatten),.cells C0 [v1_0] 59,.cells B0 [vI a0.fF.fj,vI a0.fF.fh,vI a0.fF.fl,v0_3,vI a0.fk] 152] H0 [.obj z0 (lpO G0 .ready none),.obj A0 (.deferred (some [])),.cells s0 [vI a0.fF.fj,vI a0.fF.fh,vI a0.fF.fl,v0_3,vI a0.fk] 152,.cells D0 [(.slice (some ⟨c0,0,none⟩) a0.fk.toNat a0.fk.toNat)] 42,.row w.heap.size 3 (Rep.size Int) (.slice (some ⟨c0,0,none⟩) a0.fk.toNat a0.fk.toNat) q0.length t0,.cells C0 [v1_0] 59,.cells B0 [vI a0.fF.fj,vI a0.fF.fh,vI a0.fF.fl,v0_3,vI a0.fk] 152]∧Cells H0 (bl [.obj z0 (lpO G0 .ready none),.obj A0 (.deferred (some [])),.cells s0 [vI a0.fF.fj,vI a0.fF.fh,vI a0.fF.fl,v0_3,vI a0.fk] 152,.cells D0 [(.slice (some ⟨c0,0,none⟩) a0.fk.toNat a0.fk.toNat)] 42,.row w.heap.size 3 (Rep.size Int) (.slice (some ⟨c0,0,none⟩) a0.fk.toNat a0.fk.toNat) q0.length t0,.cells C0 [v1_0] 59,.cells B0 [vI a0.fF.fj,vI a0.fF.fh,vI a0.fF.fl,v0_3,vI a0.fk] 152] ++ L) t0 q0) (fun ⟨g0,q0,t0⟩=>(g0,q0)) (0,b1,(List.replicate a0.fk.toNat [vI 0]).flatten) A3 ⟨rfl,rfl,rfl,rfl,trivial⟩ ⟨U0,Bd _ _,b3⟩ ?_
 rintro k4 ⟨g0,q0,t0⟩ H0 V1 ⟨J0,s2,V0⟩ h
 unfold balance_count_totals_l1 at h
 try dsimp only at h
 refine Ac<|Ab (Bm (i:=g0) (j:=a0.fF.fE.length) rfl rfl)<|Aa<|Ak<|AX rfl h (fun M1 h=>?_) (fun M1 h=>?_)
 refine Av<|Ak<|AB<|Ac<|Ae rfl ?_
 obtain ⟨p0,R3,h⟩:=bi h
 have d3:=AP h0_3 J0
 obtain ⟨g4,s4,R2,X2,x4,F3,c3⟩:=Bo d3 R3
 obtain ⟨X0,Y0,Z0,rfl,C1,D1,E1⟩:=op_TUnit F3
 refine Ab (Bx 6 g0 rfl R2 rfl rfl X2)<|Ab (Az rfl c3)<|Ai .plain rfl (Au [.string ⟨#[]⟩,vI 0,vN,vN,vN,.bool false] J0) (fun W4 p4 X1 y0=>?_)
 refine Ah rfl ?_
 have g3:=Ay C1 y0
 have j3:=Ay D1 y0
 have k3:=Ay E1 y0
 refine AL [.string p0.fI,vI p0.fG,X0,Y0,Z0,.bool p0.fJ] X1 .hd (o6 rfl rfl (AU g3) (AU j3) (AU k3) rfl) (fun X4 v0 p1=>?_)
 refine Aa<|Ac<|Bf 5 rfl<|AZ rfl ((v0.memA .hd) 5 _ rfl)<|Ae rfl<|RG.ifb (s:=16) rfl h (fun P1 h=>?_) (fun P1 h=>?_)
 refine AO<|AO<|AO<|AO<|AO<|RG.pt rfl rfl<|Aa<|AV rfl ?_
 have h:=thn_inl h x1
 refine Am rfl<|Al (u:=.tuple #[]) u1 Tryz.func144 rfl .nil rfl<|MX.endRange0 v0 (.tl .hd) (by intro h9; cases h9) (fun Y4 Y1 t2=>?_)
 obtain ⟨g1,u2⟩:=AN Y1 (.one .hd (.one (.tl .hd) (.one (.tl .hd) (.one (.tl .hd) (.one (.tl .hd) (.one (.tl .hd) (.one (.tl .hd) .done)))))))
 refine AC<|Ac<|Ab (AJ rfl ((g1.memA (.tl (.tl (.tl .hd)))) 0 _ rfl))<|Ah rfl<|Aa<|Am rfl<|RT.take g1 (.tl .hd) (fun Z4 Z1 v2=>?_)
 obtain ⟨K0,x2⟩:=AN Z1 (.one .hd (.one (.tl .hd) (.one (.tl .hd) (.one (.tl .hd) (.one (.tl .hd) (.one (.tl .hd) .done))))))
 have C3:=Tt y0 (Tt p1 (Tt t2 (Tt u2 (Tt v2 x2))))
 have p3:=Bb V0 C3
 have G3:=Br (α:=Int) K0 (.tl (.tl (.tl .hd))) p3 hL
 have M0:=St.delS K0 (.tl (.tl (.tl .hd)))
 have E4:=St.delT K0 (.tl (.tl (.tl .hd)))
 have H3:=Rep.at_ (α:=Int) (v:=(.slice (some ⟨c0,0,none⟩) a0.fk.toNat a0.fk.toNat)) (xs:=q0) M0 L G3
 refine Be hb0 Tryz.func103 rfl rfl ?_
 cases h
 exact ⟨M0.ag,fun w9 hw9=>okOf_in ⟨(.slice (some ⟨c0,0,none⟩) a0.fk.toNat a0.fk.toNat),rfl,M0.kd H3 hw9⟩⟩
 refine AW (Aj rfl)<|AW (Aj rfl)<|AW (Az rfl (v0.memA .hd))<|RG.yieldP (fd:=103) (vs:=[vI ((g0:Nat):Int),.agg #[.string p0.fI,vI p0.fG,X0,Y0,Z0,.bool p0.fJ]]) (.yes rfl rfl) rfl (e2 rfl rfl) v0 (.tl .hd) Y3 rfl rfl rfl (fun y4 M2 J4=>?_)
 refine Ac<|Ah rfl<|Aa<|Ao<|Ai .plain rfl (Au [.string ⟨#[]⟩,vI 0,vN,vN,vN,.bool false] v0) (fun b5 q4 b2 y2=>?_)
 have F0:=Tt y0 (Tt p1 y2)
 have q3:=Ay C1 F0
 have s3:=Ay D1 F0
 have t3:=Ay E1 F0
 refine AL [.string p0.fI,vI p0.fG,X0,Y0,Z0,.bool p0.fJ] b2 .hd (o6 rfl rfl (AU q3) (AU s3) (AU t3) rfl) (fun d5 c2 z2=>?_)
 refine Aa<|MX.begin c2 (.tl (.tl .hd)) (fun g5 u0 A2=>?_)
 refine AB<|dt 11 tb103_6 (fun b0 j0=>?_)
 refine AA 0 1 3680 b0 rfl j0 (AJ rfl ((u0.memA (.tl (.tl (.tl (.tl (.tl .hd)))))) 0 _ rfl)) rfl<|AA 1 3 3704 b0 rfl j0 (AJ rfl ((u0.memA (.tl (.tl (.tl (.tl (.tl (.tl (.tl .hd)))))))) 0 _ rfl)) rfl<|Af 2 7 b0 rfl j0 (fun _=>Aj rfl) rfl ?_
 obtain ⟨I0,U3,h⟩:=bi h
 have v3:=AP h1_0 u0
 obtain ⟨j4,t4,U2,Y2,Q1,I3,u3⟩:=Bo v3 U3
 have V2:Q1 = [vI I0]:=I3; subst V2
 refine Af 3 15 b0 rfl j0 (fun _=>Bx 1 g0 rfl U2 rfl rfl Y2) rfl<|AA 4 31 3680 b0 rfl j0 (AJ rfl (u3 0 _ rfl)) rfl ?_
 obtain ⟨I1,V3,h⟩:=bi h
 obtain ⟨y1,W3⟩:=idx_in V3
 have B1:=Tt F0 (Tt z2 A2)
 have z1:=Bb V0 B1
 obtain ⟨J1,u4,E0,W0,R1,J3,x3⟩:=St.nth (α:=Int) u0 (.tl (.tl (.tl (.tl (.tl (.tl .hd)))))) z1 W3
 obtain ⟨K1,v4,v1⟩:=St.nthOwn (α:=Int) u0 (.tl (.tl (.tl (.tl (.tl (.tl .hd)))))) W0
 obtain rfl:J1 = ⟨K1,0,none⟩:=by rw [v1] at E0; cases E0; rfl
 have W2:R1 = [vI I1]:=J3; subst W2
 refine Af 5 63 b0 rfl j0 (fun _=>Bx 1 (I0.toNat) rfl E0 rfl y1 W0) rfl<|AA 6 127 3584 b0 rfl j0 (AJ rfl (x3 0 _ rfl)) rfl<|Af 7 255 b0 rfl j0 (fun _=>AQ 1 rfl) rfl<|AA 8 511 3584 b0 rfl j0 (AJ rfl ((u0.memA .hd) 1 _ rfl)) rfl ?_
 obtain ⟨P4,P3,h⟩:=bi h
 refine Af 9 1023 b0 rfl j0 (fun _=>FV.addc (i:=I1) (j:=p0.fG) rfl rfl P3) rfl<|Af 10 2047 b0 rfl j0 (fun _=>Bx 1 (I0.toNat) rfl E0 rfl y1 W0) rfl ?_
 obtain ⟨c4,X3,h⟩:=bi h
 refine BC (i:=11) (rk b0) (RO.acts (m' :=4095) (sk b0) rfl rfl .plain (Acts.set (α:=Int) (i:=I0.toNat) X3 u0 v1 (fun _=>(.tl (.tl (.tl (.tl (.tl (.tl .hd))))))) z1 rfl rfl rfl rfl rfl (by kernel_rfl)) (fun j5 ⟨U1,d2,B2,Q2⟩=>?_))
 refine AH (dk b0)<|AC<|MX.roundEnd M2 d2 (.tl (.tl .hd)) (fun k5 g2 q1=>?_)
 refine AW (FV.not rfl)<|RG.pf rfl rfl<|Aa<|Bu rfl<|Av<|AC<|Ao<|Ab (Bl (i:=g0) (j:=1) rfl rfl (by omega))<|Ae rfl<|Aa ?_
 obtain ⟨j2,s1⟩:=AN g2 (.one (.tl (.tl .hd)) (.one (.tl (.tl .hd)) (.one (.tl (.tl .hd)) (.one (.tl (.tl .hd)) (.one (.tl (.tl .hd)) (.one (.tl (.tl .hd)) (.one (.tl (.tl .hd)) .done)))))))
 have y3:=Bb Q2 (Tt q1 s1)
 have D3:=Tt B1 (Tt B2 (Tt q1 s1))
 exact V1 (g0 + 1,c4,U1) _ _ ⟨rfl,rfl,rfl,rfl,trivial⟩ ⟨j2,(Tt s2 D3),y3⟩ h
 refine Bj rfl ?_
 have h:=thn_inr h x1
 try dsimp only at h
 refine MX.fin rfl<|Al (u:=.tuple #[]) u1 Tryz.func144 rfl .nil rfl<|MX.endRange0 J0 .hd (by intro h9; cases h9) (fun p5 k2 C2=>?_)
 obtain ⟨k1,D2⟩:=AN k2 (.one (.tl .hd) (.one (.tl .hd) (.one (.tl .hd) (.one (.tl .hd) (.one (.tl .hd) (.one (.tl .hd) .done))))))
 refine AC<|Ac<|AZ rfl ((k1.memA (.tl (.tl .hd))) 0 _ rfl)<|Ah rfl<|Aa<|Am rfl<|RT.take k1 .hd (fun s5 p2 E2=>?_)
 obtain ⟨P0,F2⟩:=AN p2 (.one (.tl .hd) (.one (.tl .hd) (.one (.tl .hd) (.one (.tl .hd) (.one (.tl .hd) .done)))))
 have E3:=Tt C2 (Tt D2 (Tt E2 F2))
 have z3:=Bb V0 E3
 have K3:=Br (α:=Int) P0 (.tl (.tl .hd)) z3 hL
 have Q0:=St.delS P0 (.tl (.tl .hd))
 have G4:=St.delT P0 (.tl (.tl .hd))
 have M3:=Rep.at_ (α:=Int) (v:=(.slice (some ⟨c0,0,none⟩) a0.fk.toNat a0.fk.toNat)) (xs:=q0) Q0 L K3
 refine Be hb0 Tryz.func103 rfl rfl ?_
 cases h
 exact ⟨Q0.ag,fun w9 hw9=>okOf_in ⟨(.slice (some ⟨c0,0,none⟩) a0.fk.toNat a0.fk.toNat),rfl,Q0.kd M3 hw9⟩⟩
def tb101_1:List (Nat × Nat × Nat):=[(0,16,1),(0,32,2),(3,64,48),(0,128,4),(12,256,192),(31,8,256)]
theorem body102:bodyB Tryz.prog 102 = true:=by kernel_rfl
theorem body103:bodyB Tryz.prog 103 = true:=by kernel_rfl
def balance_Totals_1_p (n:Nat) (a0:TRoll) (a1:Int) (a2:List Int):Option (Except Tbroken (List Int)):=
  (balance_counted_p n a0 a1).bind fun y3=>exc y3 (fun d0=>(balance_count_totals_p n d0 a2).bind fun g0=>exc g0 (fun j0=>some (.ok j0)) (fun c0=>some (.error c0))) (fun b0=>some (.error b0))
theorem balance_Totals_1_c (n:Nat) (L:List Nat) (w:World) (hL:∀ b ∈ L,b < w.heap.size) (a0:TRoll) {v0_3:Value} (h0_3:Rep.R w L [v0_3] a0.fE) {p0:Nat} (m0:∀ j9 v9,([vI a0.fj,vI a0.fh,vI a0.fl,v0_3]:List Value)[j9]? = some v9 → w.cell? ((⟨p0,0,none⟩:Addr).add j9) = some v9) (a1:Int) {p1:Nat} (m1:∀ j9 v9,([vI a1]:List Value)[j9]? = some v9 → w.cell? ((⟨p1,0,none⟩:Addr).add j9) = some v9) (a2:List Int) {v2_0:Value} (h2_0:Rep.R w L [v2_0] a2) {p2:Nat} (m2:∀ j9 v9,([v2_0]:List Value)[j9]? = some v9 → w.cell? ((⟨p2,0,none⟩:Addr).add j9) = some v9)  {r:Except Tbroken (List Int)} (h:balance_Totals_1_p n a0 a1 a2 = some r) :
    Calls Tryz.prog 101 #[.pointer (some ⟨p0,0,none⟩),.pointer (some ⟨p1,0,none⟩),.pointer (some ⟨p2,0,none⟩)] w (PGives w (fun (y:List Int) w' u=>∃ v0_0:Value,u = v0_0∧Rep.R w' L [v0_0] y) (fun e=>.iface 175 (.agg #[vI e.fH])) r):=by
 unfold balance_Totals_1_p at h
 have hS0:=Ax w
 refine Bz Tryz.func101 rfl rfl rfl (fun _ cs0 hb0 hp0=>?_)
 refine Ac<|Ah rfl<|Aa<|Ak<|dt 6 tb101_1 (fun kt1 kp2=>?_)
 refine AA 0 1 52 kt1 rfl kp2 (Az rfl (fun j9 v9 h9=>hS0.ag.cell0 (m0 j9 v9 h9))) rfl<|AA 1 3 52 kt1 rfl kp2 (AJ rfl ((fun j9 v9 h9=>hS0.ag.cell0 (m1 j9 v9 h9)) 0 _ rfl)) rfl ?_
 obtain ⟨y3,hy3,h⟩:=bi h
 rcases y3 with A0 | j0
 have h:=exc_e h
 try dsimp only at h
 refine AA 3 11 48 kt1 rfl kp2 (AJ rfl ((fun j9 v9 h9=>hS0.ag.cell0 (m2 j9 v9 h9)) 0 _ rfl)) rfl<|BC (i:=2) (rk kt1) (RO.callE (fst:=[]) (cap:=[]) rfl .plain body102 rfl (e2 rfl rfl) (fun w9 hw9=>balance_counted_c n _ w9 (hS0.hL hL hw9) a0 (Aq h0_3 hw9) a1 hy3) (fun J0 s0=>?_))
 obtain ⟨k0,C0⟩:=hS0.agr s0
 cases h
 exact AG hp0 Tryz.func101 ⟨k0.ag,rfl⟩
 have h:=exc_o h
 try dsimp only at h
 refine AA 3 11 48 kt1 rfl kp2 (AJ rfl ((fun j9 v9 h9=>hS0.ag.cell0 (m2 j9 v9 h9)) 0 _ rfl)) rfl<|Bp 2 15 kt1 rfl .plain body102 rfl (e2 rfl rfl) (fun w9 hw9=>AD (balance_counted_c n _ w9 (hS0.hL hL hw9) a0 (Aq h0_3 hw9) a1 hy3)) rfl (fun K0 I0 t0 ⟨G0,hu_,d0⟩=>?_)
 subst hu_
 obtain ⟨b0,D0⟩:=hS0.agr t0
 obtain ⟨z0,g0,h⟩:=bi h
 rcases z0 with B0 | Q0
 have h:=exc_e h
 try dsimp only at h
 refine BC (i:=4) (rk kt1) (RO.callE (fst:=[]) (cap:=[]) rfl .plain body103 rfl (e2 rfl rfl) (fun w9 hw9=>balance_count_totals_c n _ w9 (b0.hL hL hw9) j0 (Aq d0 hw9) a2 (b0.km h2_0 hw9) g0) (fun M0 u0=>?_))
 obtain ⟨q0,E0⟩:=b0.agr u0
 cases h
 exact AG hp0 Tryz.func101 ⟨q0.ag,rfl⟩
 have h:=exc_o h
 try dsimp only at h
 refine Bp 4 31 kt1 rfl .plain body103 rfl (e2 rfl rfl) (fun w9 hw9=>AD (balance_count_totals_c n _ w9 (b0.hL hL hw9) j0 (Aq d0 hw9) a2 (b0.km h2_0 hw9) g0)) rfl (fun P0 y0 v0 ⟨H0,hu_,x0⟩=>?_)
 subst hu_
 obtain ⟨c0,F0⟩:=b0.agr v0
 refine Af 5 63 kt1 rfl kp2 (fun _=>AY rfl) rfl<|AH (dk kt1)<|Am rfl<|Be hb0 Tryz.func101 rfl rfl ?_
 cases h
 exact ⟨c0.ag,fun w9 hw9=>okOf_in ⟨y0,rfl,c0.kd x0 hw9⟩⟩
end Go.Proofs.YtbgcdbblaadokaaGreatDoor
