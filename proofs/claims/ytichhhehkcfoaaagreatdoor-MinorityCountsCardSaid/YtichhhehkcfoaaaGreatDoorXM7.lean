/- Functions of the program, and what they give: part 7. -/
import Derived.Test.YtichhhehkcfoaaaGreatDoorXM6
namespace Go.Proofs.YtichhhehkcfoaaaGreatDoor
open Go Go.RowKit
set_option maxRecDepth 4000
set_option maxHeartbeats 4000000

def tb107_6:List (Nat × Nat × Nat):=[(0,131072,32),(0,262144,8),(2,524288,262144),(1,0,131073),(15,0,524290)]
def tb23_2:List (Nat × Nat × Nat):=[(0,32768,512),(1,65536,32768),(0,131072,512),(4,262144,131072),(0,524288,256),(3,0,65600),(47,0,262272),(127,256,524288)]
theorem body66:bodyB Tryz.prog 66 = true:=by kernel_rfl
theorem body67:bodyB Tryz.prog 67 = true:=by kernel_rfl
theorem body107:bodyB Tryz.prog 107 = true:=by kernel_rfl
def minority_Line_p (n:Nat) (a0:TRoll) (a1:Int) (a2:Int):Option (TShare × TShare × Int):=
  (minority_Line_1_p n a0 a1 a2).bind fun d0=>exc d0 (fun b0=>some (b0.fG,b0.fI,(0:Int))) (fun c0=>some ((⟨((0:UInt64),(0:UInt64),(0:UInt64),(0:UInt64),(0:UInt64),(0:UInt64),(0:UInt64),(0:UInt64)),((0:UInt64),(0:UInt64),(0:UInt64),(0:UInt64),(0:UInt64),(0:UInt64),(0:UInt64),(0:UInt64))⟩:TShare),(⟨((0:UInt64),(0:UInt64),(0:UInt64),(0:UInt64),(0:UInt64),(0:UInt64),(0:UInt64),(0:UInt64)),((0:UInt64),(0:UInt64),(0:UInt64),(0:UInt64),(0:UInt64),(0:UInt64),(0:UInt64),(0:UInt64))⟩:TShare),c0.fB))
theorem minority_Line_c (n:Nat) (L:List Nat) (w:World) (hL:∀ b ∈ L,b < w.heap.size) (a0:TRoll) {v0_3:Value} (h0_3:Rep.R w L [v0_3] a0.fu) (a1:Int) (a2:Int)  {r:TShare × TShare × Int} (h:minority_Line_p n a0 a1 a2 = some r) :
    Calls Tryz.prog 23 #[.agg #[vI a0.fj,vI a0.fh,vI a0.fl,v0_3],vI a1,vI a2] w (Gives w fun _ u=>u = .tuple #[.agg ((cs_TShare r.1)).toArray,.agg ((cs_TShare r.2.1)).toArray,vI r.2.2]):=by
 unfold minority_Line_p at h
 have hS0:=Ay w
 refine AD Tryz.func23 rfl rfl rfl (fun _ cs0 hb0=>?_)
 refine Ac<|Ai .plain rfl (Av hS0 rfl rfl) (fun b3 s0 q1 B2=>?_)
 refine Ai .plain rfl (Av q1 rfl rfl) (fun g3 t0 u1 C2=>?_)
 refine Ai .plain rfl (Av u1 rfl rfl) (fun j3 u0 v1 D2=>?_)
 refine Ai .plain rfl (Ar zL v1) (fun t3 j0 E1 K2=>?_)
 refine Ai .plain rfl (Ar zL E1) (fun u3 p0 F1 M2=>?_)
 refine Af rfl<|Aa<|Ac<|Ab (BF (vs:=[]) (us:=[vP s0,vP t0,vP u0]) evs_nil (e3 rfl rfl rfl))<|Bj (fst:=[]) (cap:=[]) (vs:=[.func (.func 67) #[] #[vP s0,vP t0,vP u0]]) .plain body66 Tryz.func66 rfl rfl rfl rfl (e1 rfl) rfl (fun v2 b1 Z2=>?_)
 refine Ac<|Ai .plain rfl (Ar [vW 0,vW 0,vW 0,vW 0,vW 0,vW 0,vW 0,vW 0,vW 0,vW 0,vW 0,vW 0,vW 0,vW 0,vW 0,vW 0,vW 0,vW 0,vW 0,vW 0,vW 0,vW 0,vW 0,vW 0,vW 0,vW 0,vW 0,vW 0,vW 0,vW 0,vW 0,vW 0] F1) (fun x3 v0 J1 R2=>?_)
 refine Ai .plain rfl (Ar [vI 0] J1) (fun y3 q0 g0 U2=>?_)
 refine Aa<|Ac<|Ab (BF (vs:=[]) (us:=[vP v0,vP q0]) evs_nil (e2 rfl rfl))<|RG.defer (fst:=[]) (cap:=[vP v0,vP q0]) (vs:=[]) rfl .plain rfl evs_nil<|Aa<|Ac<|Ae rfl ?_
 obtain ⟨s2,d1,h⟩:=bi h
 rcases s2 with y0 | b0
 have h:=exc_e h
 try dsimp only at h
 refine Bt (fst:=[]) (cap:=[vP s0,vP t0,vP u0]) .plain body67 rfl evs_nil (fun w9 hw9=>minority_Line_1_c n _ w9 (g0.hL0 hL hw9) a0 (g0.k0 h0_3 hw9) (fun j9 v9 h9=>hw9.cell0 ((g0.memA (.tl (.tl (.tl (.tl (.tl (.tl .hd))))))) j9 v9 h9)) a1 (fun j9 v9 h9=>hw9.cell0 ((g0.memA (.tl (.tl (.tl (.tl (.tl .hd)))))) j9 v9 h9)) a2 (fun j9 v9 h9=>hw9.cell0 ((g0.memA (.tl (.tl (.tl (.tl .hd))))) j9 v9 h9)) d1) (fun z3 Y1=>?_)
 obtain ⟨K1,V2⟩:=g0.agr Y1
 refine PN.callD (vs:=[]) (cap:=[vP v0,vP q0]) body107 Tryz.func107 rfl rfl rfl (fun u2 Z1 c2=>?_)
 refine Ac<|RG.recover1 .plain Z1 rfl<|Af rfl<|Aa<|Ac<|Ae rfl<|Ab (FV.neqI Tryz.underlying20 rfl rfl)<|Aa<|Bh rfl<|Ac<|Ae rfl<|Ab (FV.assertT (by kernel_rfl) rfl)<|Ae rfl<|Ab (Ah rfl rfl)<|Ab (Ah rfl rfl)<|Ai .plain rfl (Ar [vI 0] K1) (fun A3 k1 M1 W2=>?_)
 refine AJ [vI y0.fB] M1 .hd (o1 rfl) (fun B3 P1 X2=>?_)
 refine Af rfl<|Aa<|Aj<|Ac<|Ae rfl<|Ab (BG rfl)<|Aa<|BB rfl<|Au<|Ac<|Ai .plain rfl (Ar [vW 0,vW 0,vW 0,vW 0,vW 0,vW 0,vW 0,vW 0,vW 0,vW 0,vW 0,vW 0,vW 0,vW 0,vW 0,vW 0,vW 0,vW 0,vW 0,vW 0,vW 0,vW 0,vW 0,vW 0,vW 0,vW 0,vW 0,vW 0,vW 0,vW 0,vW 0,vW 0] P1) (fun p2 p1 G0 Y2=>?_)
 refine Aa<|dt 3 tb107_6 (fun x0 R0=>?_)
 refine AC 0 1 24 x0 rfl R0 (AA rfl (G0.memA .hd)) rfl<|Ag 1 3 x0 rfl R0 (fun _=>AX 0 rfl) rfl<|RD.meet (α:=Unit) (fun ()=>[(1,vP q0),(19,vI y0.fB)]) (fun () U0=>St w U0 [.cells q0 [vI 0] 41,.cells v0 [vW 0,vW 0,vW 0,vW 0,vW 0,vW 0,vW 0,vW 0,vW 0,vW 0,vW 0,vW 0,vW 0,vW 0,vW 0,vW 0,vW 0,vW 0,vW 0,vW 0,vW 0,vW 0,vW 0,vW 0,vW 0,vW 0,vW 0,vW 0,vW 0,vW 0,vW 0,vW 0] 116,.cells p0 zL 53,.cells j0 zL 53,.cells u0 [vI a2] 3,.cells t0 [vI a1] 3,.cells s0 [vI a0.fj,vI a0.fh,vI a0.fl,v0_3] 38]∧Tr p2 [.cells p1 [vW 0,vW 0,vW 0,vW 0,vW 0,vW 0,vW 0,vW 0,vW 0,vW 0,vW 0,vW 0,vW 0,vW 0,vW 0,vW 0,vW 0,vW 0,vW 0,vW 0,vW 0,vW 0,vW 0,vW 0,vW 0,vW 0,vW 0,vW 0,vW 0,vW 0,vW 0,vW 0] 116,.cells k1 [vI y0.fB] 128,.cells q0 [vI 0] 41,.cells v0 [vW 0,vW 0,vW 0,vW 0,vW 0,vW 0,vW 0,vW 0,vW 0,vW 0,vW 0,vW 0,vW 0,vW 0,vW 0,vW 0,vW 0,vW 0,vW 0,vW 0,vW 0,vW 0,vW 0,vW 0,vW 0,vW 0,vW 0,vW 0,vW 0,vW 0,vW 0,vW 0] 116,.cells p0 zL 53,.cells j0 zL 53,.cells u0 [vI a2] 3,.cells t0 [vI a1] 3,.cells s0 [vI a0.fj,vI a0.fh,vI a0.fl,v0_3] 38] U0 [.cells q0 [vI 0] 41,.cells v0 [vW 0,vW 0,vW 0,vW 0,vW 0,vW 0,vW 0,vW 0,vW 0,vW 0,vW 0,vW 0,vW 0,vW 0,vW 0,vW 0,vW 0,vW 0,vW 0,vW 0,vW 0,vW 0,vW 0,vW 0,vW 0,vW 0,vW 0,vW 0,vW 0,vW 0,vW 0,vW 0] 116,.cells p0 zL 53,.cells j0 zL 53,.cells u0 [vI a2] 3,.cells t0 [vI a1] 3,.cells s0 [vI a0.fj,vI a0.fh,vI a0.fl,v0_3] 38]) 1 15 ?_ ?_
 rintro ⟨⟩ U0 ⟨s1,x2⟩
 try dsimp only
 refine Bq 4 31 x0 rfl rfl .plain (Aw (news:=[vI y0.fB]) s1 .hd rfl rfl rfl rfl rfl rfl (o1 rfl)) (fun c3 H0 y2=>?_)
 refine AE (dk x0)<|MX.fin rfl<|RT.leaveD1 c2 Tryz.func107 rfl .nil<|Am (u:=.tuple #[.agg #[vW 0,vW 0,vW 0,vW 0,vW 0,vW 0,vW 0,vW 0,vW 0,vW 0,vW 0,vW 0,vW 0,vW 0,vW 0,vW 0,vW 0,vW 0,vW 0,vW 0,vW 0,vW 0,vW 0,vW 0,vW 0,vW 0,vW 0,vW 0,vW 0,vW 0,vW 0,vW 0],vI y0.fB]) b1 Tryz.func66 rfl (.cons (.many (cs:=[vW 0,vW 0,vW 0,vW 0,vW 0,vW 0,vW 0,vW 0,vW 0,vW 0,vW 0,vW 0,vW 0,vW 0,vW 0,vW 0,vW 0,vW 0,vW 0,vW 0,vW 0,vW 0,vW 0,vW 0,vW 0,vW 0,vW 0,vW 0,vW 0,vW 0,vW 0,vW 0]) (by kernel_rfl) rfl (H0.memA (.tl .hd))) (.cons (.one (by kernel_rfl) rfl ((H0.memA .hd) 0 _ rfl)) .nil)) rfl<|Ae rfl<|Ab (Ah rfl rfl)<|Ab (Ah rfl rfl)<|Ai .plain rfl (Ar [vW 0,vW 0,vW 0,vW 0,vW 0,vW 0,vW 0,vW 0,vW 0,vW 0,vW 0,vW 0,vW 0,vW 0,vW 0,vW 0,vW 0,vW 0,vW 0,vW 0,vW 0,vW 0,vW 0,vW 0,vW 0,vW 0,vW 0,vW 0,vW 0,vW 0,vW 0,vW 0] H0) (fun d3 g1 t1 z2=>?_)
 refine AJ [vW 0,vW 0,vW 0,vW 0,vW 0,vW 0,vW 0,vW 0,vW 0,vW 0,vW 0,vW 0,vW 0,vW 0,vW 0,vW 0,vW 0,vW 0,vW 0,vW 0,vW 0,vW 0,vW 0,vW 0,vW 0,vW 0,vW 0,vW 0,vW 0,vW 0,vW 0,vW 0] t1 .hd (onesB rfl) (fun d2 B0 A2=>?_)
 refine Af rfl<|Aa<|Aj<|dt 5 tb23_2 (fun c0 z0=>?_)
 refine Ag 0 1 c0 rfl z0 (fun _=>AX 0 rfl) rfl<|AC 1 3 224 c0 rfl z0 (Bc (cs:=zL) (by kernel_rfl) rfl (mem_part (B0.memA .hd) 0 16)) rfl<|Ag 2 7 c0 rfl z0 (fun _=>AX 16 rfl) rfl<|Ag 4 23 c0 rfl z0 (fun _=>Ak rfl) rfl<|RD.meet (α:=Unit) (fun ()=>[(6,vP j0),(7,vP p0),(8,vI y0.fB),(19,vI y0.fB),(18,.agg zM)]) (fun () V0=>St w V0 [.cells p0 zL 53,.cells j0 zL 53]∧Tr d2 [.cells g1 [vW 0,vW 0,vW 0,vW 0,vW 0,vW 0,vW 0,vW 0,vW 0,vW 0,vW 0,vW 0,vW 0,vW 0,vW 0,vW 0,vW 0,vW 0,vW 0,vW 0,vW 0,vW 0,vW 0,vW 0,vW 0,vW 0,vW 0,vW 0,vW 0,vW 0,vW 0,vW 0] 116,.cells q0 [vI y0.fB] 41,.cells v0 [vW 0,vW 0,vW 0,vW 0,vW 0,vW 0,vW 0,vW 0,vW 0,vW 0,vW 0,vW 0,vW 0,vW 0,vW 0,vW 0,vW 0,vW 0,vW 0,vW 0,vW 0,vW 0,vW 0,vW 0,vW 0,vW 0,vW 0,vW 0,vW 0,vW 0,vW 0,vW 0] 116,.cells p0 zL 53,.cells j0 zL 53,.cells u0 [vI a2] 3,.cells t0 [vI a1] 3,.cells s0 [vI a0.fj,vI a0.fh,vI a0.fl,v0_3] 38] V0 [.cells p0 zL 53,.cells j0 zL 53]) 2 63 ?_ ?_
 rintro ⟨⟩ V0 ⟨x1,E2⟩
 try dsimp only
 refine Bq 6 127 c0 rfl rfl .plain (Aw (news:=zL) x1 .hd rfl rfl rfl rfl rfl rfl (onesB rfl)) (fun k3 I0 F2=>?_)
 refine BC (i:=7) (rk c0) (BK (m' :=255) (sk c0) rfl .plain rfl (Bi rfl) ?_)
 refine AE (dk c0)<|Al rfl<|Am hb0 Tryz.func23 rfl (.cons (.many (cs:=zL) (by kernel_rfl) rfl (I0.memA (.tl .hd))) (.cons (.many (cs:=zL) (by kernel_rfl) rfl (I0.memA .hd)) (.cons (.tmp rfl) .nil))) rfl ?_
 cases h
 exact I0.gv
 intro X0
 refine BJ [3,5] (rk c0) ⟨?_,?_,trivial⟩
 refine BK (m' :=31) (sk c0) rfl .plain rfl (Bc (cs:=zL) (by kernel_rfl) rfl (mem_part (B0.memA .hd) 16 16))<|Bq 5 63 c0 rfl rfl .plain (Aw (news:=zL) B0 (.tl (.tl (.tl (.tl .hd)))) rfl rfl rfl rfl rfl rfl (onesB rfl)) (fun g2 C0 M0=>?_)
 obtain ⟨y1,Q1⟩:=AG C0 (.one (.tl (.tl (.tl .hd))) (.one (.tl (.tl (.tl .hd))) .done))
 exact X0 () _ _ ⟨rfl,rfl,rfl,rfl,rfl,trivial⟩ ⟨y1,(Tt M0 Q1)⟩
 refine RO.now (m' :=55) (sk c0) rfl rfl .plain (Aw (news:=zL) B0 (.tl (.tl (.tl (.tl .hd)))) rfl rfl rfl rfl rfl rfl (onesB rfl)) (fun g2 C0 M0=>?_)
 refine AC 3 63 192 c0 rfl z0 (Bc (cs:=zL) (by kernel_rfl) rfl (mem_part (C0.memA .hd) 16 16)) rfl ?_
 obtain ⟨z1,R1⟩:=AG C0 (.one (.tl (.tl (.tl .hd))) (.one (.tl (.tl (.tl .hd))) .done))
 exact X0 () _ _ ⟨rfl,rfl,rfl,rfl,rfl,trivial⟩ ⟨z1,(Tt M0 R1)⟩
 intro Y0
 refine BJ [2,3] (rk x0) ⟨?_,?_,trivial⟩
 refine BK (m' :=7) (sk x0) rfl .plain rfl (AL rfl ((G0.memA (.tl .hd)) 0 _ rfl))<|Bq 3 15 x0 rfl rfl .plain (Aw (news:=[vW 0,vW 0,vW 0,vW 0,vW 0,vW 0,vW 0,vW 0,vW 0,vW 0,vW 0,vW 0,vW 0,vW 0,vW 0,vW 0,vW 0,vW 0,vW 0,vW 0,vW 0,vW 0,vW 0,vW 0,vW 0,vW 0,vW 0,vW 0,vW 0,vW 0,vW 0,vW 0]) G0 (.tl (.tl (.tl .hd))) rfl rfl rfl rfl rfl rfl (onesB rfl)) (fun q2 F0 Q0=>?_)
 obtain ⟨A1,U1⟩:=AG F0 (.one (.tl (.tl .hd)) (.one (.tl (.tl .hd)) (.one (.tl (.tl .hd)) (.one (.tl (.tl .hd)) (.one (.tl (.tl .hd)) (.one (.tl (.tl .hd)) (.one (.tl (.tl .hd)) .done)))))))
 exact Y0 () _ _ ⟨rfl,rfl,trivial⟩ ⟨A1,(Tt Q0 U1)⟩
 refine RO.now (m' :=11) (sk x0) rfl rfl .plain (Aw (news:=[vW 0,vW 0,vW 0,vW 0,vW 0,vW 0,vW 0,vW 0,vW 0,vW 0,vW 0,vW 0,vW 0,vW 0,vW 0,vW 0,vW 0,vW 0,vW 0,vW 0,vW 0,vW 0,vW 0,vW 0,vW 0,vW 0,vW 0,vW 0,vW 0,vW 0,vW 0,vW 0]) G0 (.tl (.tl (.tl .hd))) rfl rfl rfl rfl rfl rfl (onesB rfl)) (fun q2 F0 Q0=>?_)
 refine AC 2 15 16 x0 rfl R0 (AL rfl ((F0.memA (.tl .hd)) 0 _ rfl)) rfl ?_
 obtain ⟨B1,V1⟩:=AG F0 (.one (.tl (.tl .hd)) (.one (.tl (.tl .hd)) (.one (.tl (.tl .hd)) (.one (.tl (.tl .hd)) (.one (.tl (.tl .hd)) (.one (.tl (.tl .hd)) (.one (.tl (.tl .hd)) .done)))))))
 exact Y0 () _ _ ⟨rfl,rfl,trivial⟩ ⟨B1,(Tt Q0 V1)⟩
 have h:=exc_o h
 try dsimp only at h
 refine RG.callq' (v:=.agg ((cs_Ttold b0)).toArray) (fst:=[]) (cap:=[vP s0,vP t0,vP u0]) .plain body67 rfl evs_nil (fun w9 hw9=>AK (minority_Line_1_c n _ w9 (g0.hL0 hL hw9) a0 (g0.k0 h0_3 hw9) (fun j9 v9 h9=>hw9.cell0 ((g0.memA (.tl (.tl (.tl (.tl (.tl (.tl .hd))))))) j9 v9 h9)) a1 (fun j9 v9 h9=>hw9.cell0 ((g0.memA (.tl (.tl (.tl (.tl (.tl .hd)))))) j9 v9 h9)) a2 (fun j9 v9 h9=>hw9.cell0 ((g0.memA (.tl (.tl (.tl (.tl .hd))))) j9 v9 h9)) d1)) rfl<|AJ (cs_Ttold b0) g0 (.tl .hd) (onesB rfl) (fun p3 C1 G2=>?_)
 refine AJ [vI 0] C1 .hd (o1 rfl) (fun q3 J0 H2=>?_)
 refine Aa<|Al rfl<|RT.callD (vs:=[]) (cap:=[vP v0,vP q0]) body107 Tryz.func107 rfl rfl rfl (fun t2 c1 b2=>?_)
 refine Ac<|RG.recover0 .plain c1 rfl<|Af rfl<|Aa<|Ac<|Ae rfl<|Ab (FV.neqI0 Tryz.underlying20 rfl rfl)<|Aa<|BB rfl<|Au<|MX.fin rfl<|RT.leaveD0 c1 b2 Tryz.func107 rfl .nil<|Am (u:=.tuple #[.agg ((cs_Ttold b0)).toArray,vI 0]) b1 Tryz.func66 rfl (.cons (.many (cs:=(cs_Ttold b0)) (by kernel_rfl) rfl (J0.memA (.tl .hd))) (.cons (.one (by kernel_rfl) rfl ((J0.memA .hd) 0 _ rfl)) .nil)) rfl<|Ae rfl<|Ab (Ah rfl rfl)<|Ab (Ah rfl rfl)<|Ai .plain rfl (Ar [vW 0,vW 0,vW 0,vW 0,vW 0,vW 0,vW 0,vW 0,vW 0,vW 0,vW 0,vW 0,vW 0,vW 0,vW 0,vW 0,vW 0,vW 0,vW 0,vW 0,vW 0,vW 0,vW 0,vW 0,vW 0,vW 0,vW 0,vW 0,vW 0,vW 0,vW 0,vW 0] J0) (fun s3 j1 D1 I2=>?_)
 refine AJ (cs_Ttold b0) D1 .hd (onesB rfl) (fun j2 D0 J2=>?_)
 refine Af rfl<|Aa<|Aj<|dt 5 tb23_2 (fun d0 A0=>?_)
 refine Ag 0 1 d0 rfl A0 (fun _=>AX 0 rfl) rfl<|AC 1 3 224 d0 rfl A0 (Bc (cs:=(cs_TShare b0.fG)) (by kernel_rfl) rfl (mem_part (D0.memA .hd) 0 16)) rfl<|Ag 2 7 d0 rfl A0 (fun _=>AX 16 rfl) rfl<|Ag 4 23 d0 rfl A0 (fun _=>Ak rfl) rfl<|RD.meet (α:=Unit) (fun ()=>[(6,vP j0),(7,vP p0),(8,vI 0),(19,vI 0),(18,.agg ((cs_TShare b0.fI)).toArray)]) (fun () W0=>St w W0 [.cells p0 zL 53,.cells j0 (cs_TShare b0.fG) 53]∧Tr j2 [.cells j1 (cs_Ttold b0) 116,.cells q0 [vI 0] 41,.cells v0 (cs_Ttold b0) 116,.cells p0 zL 53,.cells j0 zL 53,.cells u0 [vI a2] 3,.cells t0 [vI a1] 3,.cells s0 [vI a0.fj,vI a0.fh,vI a0.fl,v0_3] 38] W0 [.cells p0 zL 53,.cells j0 (cs_TShare b0.fG) 53]) 2 63 ?_ ?_
 rintro ⟨⟩ W0 ⟨G1,P2⟩
 try dsimp only
 refine Bq 6 127 d0 rfl rfl .plain (Aw (news:=(cs_TShare b0.fI)) G1 .hd rfl rfl rfl rfl rfl rfl (onesB rfl)) (fun v3 K0 Q2=>?_)
 refine BC (i:=7) (rk d0) (BK (m' :=255) (sk d0) rfl .plain rfl (Bi rfl) ?_)
 refine AE (dk d0)<|Al rfl<|Am hb0 Tryz.func23 rfl (.cons (.many (cs:=(cs_TShare b0.fG)) (by kernel_rfl) rfl (K0.memA (.tl .hd))) (.cons (.many (cs:=(cs_TShare b0.fI)) (by kernel_rfl) rfl (K0.memA .hd)) (.cons (.tmp rfl) .nil))) rfl ?_
 cases h
 exact K0.gv
 intro Z0
 refine BJ [3,5] (rk d0) ⟨?_,?_,trivial⟩
 refine BK (m' :=31) (sk d0) rfl .plain rfl (Bc (cs:=(cs_TShare b0.fI)) (by kernel_rfl) rfl (mem_part (D0.memA .hd) 16 16))<|Bq 5 63 d0 rfl rfl .plain (Aw (news:=(cs_TShare b0.fG)) D0 (.tl (.tl (.tl (.tl .hd)))) rfl rfl rfl rfl rfl rfl (onesB rfl)) (fun k2 E0 P0=>?_)
 obtain ⟨H1,W1⟩:=AG E0 (.one (.tl (.tl (.tl .hd))) (.one (.tl (.tl (.tl .hd))) .done))
 exact Z0 () _ _ ⟨rfl,rfl,rfl,rfl,rfl,trivial⟩ ⟨H1,(Tt P0 W1)⟩
 refine RO.now (m' :=55) (sk d0) rfl rfl .plain (Aw (news:=(cs_TShare b0.fG)) D0 (.tl (.tl (.tl (.tl .hd)))) rfl rfl rfl rfl rfl rfl (onesB rfl)) (fun k2 E0 P0=>?_)
 refine AC 3 63 192 d0 rfl A0 (Bc (cs:=(cs_TShare b0.fI)) (by kernel_rfl) rfl (mem_part (E0.memA .hd) 16 16)) rfl ?_
 obtain ⟨I1,X1⟩:=AG E0 (.one (.tl (.tl (.tl .hd))) (.one (.tl (.tl (.tl .hd))) .done))
 exact Z0 () _ _ ⟨rfl,rfl,rfl,rfl,rfl,trivial⟩ ⟨I1,(Tt P0 X1)⟩
def tb24_6:List (Nat × Nat × Nat):=[(0,65536,1),(0,131072,32),(3,262144,196608),(4,524288,262144),(0,1048576,2),(0,2097152,32),(48,4194304,3145728),(64,8388608,4194304),(136,16777216,8912896)]
def slices_Equal_api_Share_api_Share_l1 (_n:Nat) (a0:List TShare) (a1:List TShare) (c0:Nat → Option (Bool ⊕ Unit)):Nat → Option (Bool ⊕ Unit)
  | b0=>(if b0 < a0.length then (a0[b0]?).bind fun d0=>(a1[b0]?).bind fun g0=>(if d0 = g0 then c0 (b0 + 1) else some (.inl false)) else some (.inr ()))
def slices_Equal_api_Share_api_Share_p (n:Nat) (a0:List TShare) (a1:List TShare):Option Bool:=
  (if a0.length = a1.length then thn (loopF (slices_Equal_api_Share_api_Share_l1 n a0 a1) n 0) (fun _=>some true) else some false)
theorem slices_Equal_api_Share_api_Share_c (n:Nat) (L:List Nat) (w:World) (_hL:∀ b ∈ L,b < w.heap.size) (a0:List TShare) {v0_0:Value} (h0_0:Rep.R w L [v0_0] a0) (a1:List TShare) {v1_0:Value} (h1_0:Rep.R w L [v1_0] a1)  {r:Bool} (h:slices_Equal_api_Share_api_Share_p n a0 a1 = some r) :
    Calls Tryz.prog 24 #[v0_0,v1_0] w (Gives w fun _ u=>u = .bool r):=by
 unfold slices_Equal_api_Share_api_Share_p at h
 have hS0:=Ay w
 refine AD Tryz.func24 rfl rfl rfl (fun _ cs0 hb0=>?_)
 refine Ac<|Af rfl<|Aa<|Aj<|Ac<|Ae rfl ?_
 have hl1:a0.length ≤ 281474976710656:=AU h0_0
 refine Ab (Bd (xs:=a0) Tryz.underlying40 rfl h0_0)<|Ae rfl ?_
 have hl2:a1.length ≤ 281474976710656:=AU h1_0
 refine Ab (Bd (xs:=a1) Tryz.underlying40 rfl h1_0)<|Ab (FV.neqN (i:=a0.length) (j:=a1.length) rfl rfl)<|Aa<|MX.ifn rfl h (fun c3 h=>?_) (fun c3 h=>?_)
 refine Au<|Aj<|Ac<|Ae rfl<|Ab (Bd (xs:=a0) Tryz.underlying40 rfl h0_0)<|Ae rfl<|Aa<|Az ?_
 obtain ⟨W0,F0,k0⟩:=thn_in h
 refine Bm (α:=Nat) (fun b0=>[(0,v0_0),(1,v1_0),(12,vI ((a0.length:Nat):Int)),(13,vI ((b0:Nat):Int))]) (fun b0 j0=>St w j0 []∧Tr w [] j0 []) (fun b0=>b0) 0 F0 ⟨rfl,rfl,rfl,rfl,trivial⟩ ⟨hS0,AQ _ _⟩ ?_
 rintro P0 b0 j0 u0 ⟨g0,v0⟩ h
 unfold slices_Equal_api_Share_api_Share_l1 at h
 try dsimp only at h
 refine Ac<|Ab (Br (i:=b0) (j:=a0.length) rfl rfl)<|Aa<|Aj<|AV rfl h (fun s0 h=>?_) (fun s0 h=>?_)
 refine Au<|Aj<|Az<|Ac<|Ae rfl<|Af rfl<|Aa<|Aj<|dt 9 tb24_6 (fun c0 d0=>?_)
 refine Ag 0 1 c0 rfl d0 (fun _=>Ak rfl) rfl<|Ag 1 3 c0 rfl d0 (fun _=>Ak rfl) rfl ?_
 obtain ⟨p0,I0,h⟩:=bi h
 have C0:=AO h0_0 g0
 obtain ⟨K0,Q0,x0,z0,U0,G0,B0⟩:=Bk C0 I0
 obtain rfl:=op_TShare G0
 refine Ag 2 7 c0 rfl d0 (fun _=>Bp 16 b0 rfl x0 rfl rfl z0) rfl<|AC 3 15 256 c0 rfl d0 (AA rfl B0) rfl<|Ag 4 31 c0 rfl d0 (fun _=>Ak rfl) rfl<|Ag 5 63 c0 rfl d0 (fun _=>Ak rfl) rfl ?_
 obtain ⟨q0,J0,h⟩:=bi h
 have E0:=AO h1_0 g0
 obtain ⟨M0,R0,y0,A0,V0,H0,D0⟩:=Bk E0 J0
 obtain rfl:=op_TShare H0
 refine Ag 6 127 c0 rfl d0 (fun _=>Bp 16 b0 rfl y0 rfl rfl A0) rfl<|AC 7 255 256 c0 rfl d0 (AA rfl D0) rfl<|Ag 8 511 c0 rfl d0 (fun _=>FV.neqV (xs:=((cs_TShare p0)).toArray) (ys:=((cs_TShare q0)).toArray) rfl rfl (by kernel_rfl) (eqlD_53 p0 q0)) rfl<|AE (dk c0)<|MX.ifn rfl h (fun t0 h=>?_) (fun t0 h=>?_)
 refine Au<|AB<|Ao<|Ab (Bl (i:=b0) (j:=1) rfl rfl (by omega))<|Ae rfl<|Aa ?_
 exact u0 (b0 + 1) _ _ ⟨rfl,rfl,rfl,rfl,trivial⟩ ⟨g0,v0⟩ h
 refine Ac<|Af rfl<|Aa ?_
 have h:=thn_inl h k0
 refine Al rfl<|Bb hb0 Tryz.func24 rfl rfl ?_
 cases h
 exact g0.gv
 refine Be rfl ?_
 have h:=thn_inr h k0
 try dsimp only at h
 refine Ac<|Af rfl<|Aa<|Al rfl<|Bb hb0 Tryz.func24 rfl rfl ?_
 cases h
 exact g0.gv
 refine Ac<|Af rfl<|Aa<|Al rfl<|Bb hb0 Tryz.func24 rfl rfl ?_
 cases h
 exact hS0.gv
def tb70_1:List (Nat × Nat × Nat):=[(0,128,16),(0,256,4),(0,512,8),(6,1024,768),(9,2048,1152),(24,4096,2048),(32,8192,4098),(96,16384,12288),(160,32768,20480),(511,64,32768)]
theorem body10:bodyB Tryz.prog 10 = true:=by kernel_rfl
def wardmotelaw29_is_1_p (n:Nat) (a0:TShare) (a1:Int) (a2:Int) (a3:Int):Option Bool:=
  (wardmotelaw29_of_p n a2 a3).bind fun b0=>(if a0 = b0 then some (decide (a1 = 0)) else some false)
theorem wardmotelaw29_is_1_c (n:Nat) (L:List Nat) (w:World) (hL:∀ b ∈ L,b < w.heap.size) (a0:TShare) (a1:Int) (a2:Int) {p2:Nat} (m2:∀ j9 v9,([vI a2]:List Value)[j9]? = some v9 → w.cell? ((⟨p2,0,none⟩:Addr).add j9) = some v9) (a3:Int) {p3:Nat} (m3:∀ j9 v9,([vI a3]:List Value)[j9]? = some v9 → w.cell? ((⟨p3,0,none⟩:Addr).add j9) = some v9)  {r:Bool} (h:wardmotelaw29_is_1_p n a0 a1 a2 a3 = some r) :
    Calls Tryz.prog 70 #[.agg ((cs_TShare a0)).toArray,vI a1,.pointer (some ⟨p2,0,none⟩),.pointer (some ⟨p3,0,none⟩)] w (Gives w fun _ u=>u = .bool r):=by
 unfold wardmotelaw29_is_1_p at h
 have hS0:=Ay w
 refine AD Tryz.func70 rfl rfl rfl (fun _ cs0 hb0=>?_)
 refine Ac<|Ai .plain rfl (Av hS0 rfl rfl) (fun s0 p0 d0 q0=>?_)
 refine Af rfl<|Aa<|Aj<|dt 10 tb70_1 (fun b0 c0=>?_)
 refine AC 0 1 1008 b0 rfl c0 (AA rfl (d0.memA .hd)) rfl<|AC 1 3 1016 b0 rfl c0 (AL rfl ((fun j9 v9 h9=>d0.ag.cell0 (m2 j9 v9 h9)) 0 _ rfl)) rfl<|AC 2 7 1016 b0 rfl c0 (AL rfl ((fun j9 v9 h9=>d0.ag.cell0 (m3 j9 v9 h9)) 0 _ rfl)) rfl ?_
 obtain ⟨g0,k0,h⟩:=bi h
 refine BA 3 15 1008 (.agg ((cs_TShare g0)).toArray) b0 rfl c0 body10 rfl (e2 rfl rfl) (fun w9 hw9=>wardmotelaw29_of_c n _ w9 (d0.hL0 hL hw9) a2 a3 k0) rfl<|Ag 4 31 b0 rfl c0 (fun _=>FV.eqlV (v:=.agg ((cs_TShare a0)).toArray) (u:=.agg ((cs_TShare g0)).toArray) rfl rfl (eqlD_53 a0 g0)) rfl<|Ag 5 63 b0 rfl c0 (fun _=>Ak rfl) rfl<|RD.ifd (s:=12) rfl h (fun j0 h=>?_) (fun j0 h=>?_)
 refine RD.vP 6 127 b0 rfl c0 (.yes rfl rfl) (fun _=>Ak rfl) rfl<|RD.vP 7 255 b0 rfl c0 (.yes rfl rfl) (fun _=>FV.eql (i:=a1) (j:=0) rfl rfl) rfl<|Ag 8 511 b0 rfl c0 (fun _=>BL rfl rfl) rfl<|Ag 9 1023 b0 rfl c0 (fun _=>Bi rfl) rfl<|AE (dk b0)<|Al rfl<|Bb hb0 Tryz.func70 rfl rfl ?_
 cases h
 exact d0.gv
 refine Bz 255 2 [(6,13),(7,14)] (F:=[(12,false)]) (U:=[]) b0 c0 (.cons rfl .nil) .nil ?_
 dsimp only [offS,List.map]
 refine Ag 8 511 b0 rfl c0 (fun _=>Bs rfl rfl) rfl<|Ag 9 1023 b0 rfl c0 (fun _=>Bi rfl) rfl<|AE (dk b0)<|Al rfl<|Bb hb0 Tryz.func70 rfl rfl ?_
 cases h
 exact d0.gv
theorem wardmotelaw29_is_c (n:Nat) (L:List Nat) (w:World) (_hL:∀ b ∈ L,b < w.heap.size) (a0:Int) (a1:Int)  :
    Calls Tryz.prog 25 #[vI a0,vI a1] w (Gives w fun w' u=>∃ b0 c0:Nat,u = .func (.func 70) #[] #[vP b0,vP c0]∧St w w' [.cells b0 [vI a0] 3,.cells c0 [vI a1] 3]):=by
 have hS0:=Ay w
 refine AD Tryz.func25 rfl rfl rfl (fun _ cs0 hb0=>?_)
 refine Ac<|Ai .plain rfl (Av hS0 rfl rfl) (fun s0 b0 g0 k0=>?_)
 refine Ai .plain rfl (Av g0 rfl rfl) (fun t0 c0 j0 p0=>?_)
 refine Af rfl<|Aa<|Ac<|Ab (BF (vs:=[]) (us:=[vP b0,vP c0]) evs_nil (e2 rfl rfl))<|Af rfl<|Aa<|Al rfl<|Am (u:=.func (.func 70) #[] #[vP b0,vP c0]) hb0 Tryz.func25 rfl (.cons (.tmp rfl) .nil) rfl ?_
 obtain ⟨d0,q0⟩:=AG j0 (.one (.tl .hd) (.one .hd .done))
 exact ⟨d0.ag,fun w9 hw9=>⟨b0,c0,rfl,d0.agree hw9⟩⟩
def wardmotelaw29_line_1_p (_n:Nat) (a0:TShare) (a1:TShare) (a2:Int) (a3:TShare) (a4:TShare):Option Bool:=
  (if a0 = a3 then (if a1 = a4 then some (decide (a2 = 0)) else some false) else some false)
theorem wardmotelaw29_line_1_c (n:Nat) (L:List Nat) (w:World) (_hL:∀ b ∈ L,b < w.heap.size) (a0:TShare) (a1:TShare) (a2:Int) (a3:TShare) {p3:Nat} (m3:∀ j9 v9,((cs_TShare a3):List Value)[j9]? = some v9 → w.cell? ((⟨p3,0,none⟩:Addr).add j9) = some v9) (a4:TShare) {p4:Nat} (m4:∀ j9 v9,((cs_TShare a4):List Value)[j9]? = some v9 → w.cell? ((⟨p4,0,none⟩:Addr).add j9) = some v9)  {r:Bool} (h:wardmotelaw29_line_1_p n a0 a1 a2 a3 a4 = some r) :
    Calls Tryz.prog 71 #[.agg ((cs_TShare a0)).toArray,.agg ((cs_TShare a1)).toArray,vI a2,.pointer (some ⟨p3,0,none⟩),.pointer (some ⟨p4,0,none⟩)] w (Gives w fun _ u=>u = .bool r):=by
 unfold wardmotelaw29_line_1_p at h
 have hS0:=Ay w
 refine AD Tryz.func71 rfl rfl rfl (fun _ cs0 hb0=>?_)
 refine Ac<|Ai .plain rfl (Av hS0 rfl rfl) (fun s0 j0 g0 p0=>?_)
 refine Ai .plain rfl (Av g0 rfl rfl) (fun t0 k0 b0 q0=>?_)
 refine Af rfl<|Aa<|Ac<|Ab (AA rfl (b0.memA (.tl .hd)))<|Ab (AA rfl (fun j9 v9 h9=>b0.ag.cell0 (m3 j9 v9 h9)))<|Ab (FV.eqlV (v:=.agg ((cs_TShare a0)).toArray) (u:=.agg ((cs_TShare a3)).toArray) rfl rfl (eqlD_53 a0 a3))<|Ae rfl<|RG.ifd (s:=12) rfl h (fun c0 h=>?_) (fun c0 h=>?_)
 refine AS (AA rfl (b0.memA .hd))<|AS (AA rfl (fun j9 v9 h9=>b0.ag.cell0 (m4 j9 v9 h9)))<|AS (FV.eqlV (v:=.agg ((cs_TShare a1)).toArray) (u:=.agg ((cs_TShare a4)).toArray) rfl rfl (eqlD_53 a1 a4))<|BI rfl rfl<|Ae rfl<|RG.ifd (s:=17) rfl h (fun d0 h=>?_) (fun d0 h=>?_)
 refine AS (Ak rfl)<|AS (FV.eql (i:=a2) (j:=0) rfl rfl)<|BI rfl rfl<|Af rfl<|Aa<|Al rfl<|Bb hb0 Tryz.func71 rfl rfl ?_
 cases h
 exact b0.gv
 refine AI<|AI<|RG.pf rfl rfl<|Af rfl<|Aa<|Al rfl<|Bb hb0 Tryz.func71 rfl rfl ?_
 cases h
 exact b0.gv
 refine AI<|AI<|AI<|RG.pf rfl rfl<|Ae rfl<|AI<|AI<|RG.pf rfl rfl<|Af rfl<|Aa<|Al rfl<|Bb hb0 Tryz.func71 rfl rfl ?_
 cases h
 exact b0.gv
theorem wardmotelaw29_line_c (n:Nat) (L:List Nat) (w:World) (_hL:∀ b ∈ L,b < w.heap.size) (a0:TShare) (a1:TShare)  :
    Calls Tryz.prog 26 #[.agg ((cs_TShare a0)).toArray,.agg ((cs_TShare a1)).toArray] w (Gives w fun w' u=>∃ b0 c0:Nat,u = .func (.func 71) #[] #[vP b0,vP c0]∧St w w' [.cells b0 (cs_TShare a0) 53,.cells c0 (cs_TShare a1) 53]):=by
 have hS0:=Ay w
 refine AD Tryz.func26 rfl rfl rfl (fun _ cs0 hb0=>?_)
 refine Ac<|Ai .plain rfl (Av hS0 rfl rfl) (fun s0 b0 g0 k0=>?_)
 refine Ai .plain rfl (Av g0 rfl rfl) (fun t0 c0 j0 p0=>?_)
 refine Af rfl<|Aa<|Ac<|Ab (BF (vs:=[]) (us:=[vP b0,vP c0]) evs_nil (e2 rfl rfl))<|Af rfl<|Aa<|Al rfl<|Am (u:=.func (.func 71) #[] #[vP b0,vP c0]) hb0 Tryz.func26 rfl (.cons (.tmp rfl) .nil) rfl ?_
 obtain ⟨d0,q0⟩:=AG j0 (.one (.tl .hd) (.one .hd .done))
 exact ⟨d0.ag,fun w9 hw9=>⟨b0,c0,rfl,d0.agree hw9⟩⟩
def tb72_2:List (Nat × Nat × Nat):=[(0,4096,16),(1,8192,4096),(2,16384,8192),(4,32768,16384),(0,65536,16),(16,131072,65536),(32,262144,131072),(72,524288,294912),(0,32,0),(511,0,524320)]
def tb72_3:List (Nat × Nat × Nat):=[(0,1048576,32),(0,2097152,16),(2,4194304,2097152),(4,8388608,4194304),(0,16777216,16),(16,33554432,16777216),(32,67108864,33554432),(72,134217728,75497472),(129,268435456,135266304),(0,64,0),(1023,0,268435520)]
def tb72_4:List (Nat × Nat × Nat):=[(0,536870912,64),(0,1073741824,0),(3,2147483648,1610612736),(6,4294967296,2147483648)]
def tb72_6:List (Nat × Nat × Nat):=[(0,274877906944,128),(0,549755813888,16),(2,1099511627776,549755813888),(0,2199023255552,64),(12,4398046511104,3298534883328),(17,8796093022208,4672924418048),(63,0,8796093022216)]
def minority_Fit_1_p (n:Nat) (a0:TRoll) (a1:Int) (a2:Int):Option (Except Tbroken TShare):=
  (minority_fitted_p n a0 a1 a2).bind fun q0=>exc q0 (fun b0=>(minority_of_p n b0.fE.fw (1:Int)).bind fun s0=>exc s0 (fun t0=>(minority_mul_p n t0 b0.fE.fc).bind fun u0=>exc u0 (fun v0=>(minority_mul_p n b0.fE.fy b0.fE.fy).bind fun x0=>exc x0 (fun y0=>(minority_sub_p n v0 y0).bind fun z0=>exc z0 (fun c0=>(minority_of_p n (0:Int) (1:Int)).bind fun A0=>exc A0 (fun B0=>(if c0 = B0 then some (.error (⟨(7:Int)⟩:Tbroken)) else (minority_mul_p n b0.fn b0.fn).bind fun C0=>exc C0 (fun D0=>(minority_mul_p n b0.fd c0).bind fun E0=>exc E0 (fun j0=>(minority_div_p n D0 j0).bind fun k0=>exc k0 (fun p0=>some (.ok p0)) (fun F0=>none)) (fun M0=>none)) (fun g0=>some (.error g0)))) (fun K0=>none)) (fun J0=>none)) (fun I0=>none)) (fun H0=>none)) (fun G0=>none)) (fun d0=>some (.error d0))
theorem minority_Fit_1_c (n:Nat) (L:List Nat) (w:World) (hL:∀ b ∈ L,b < w.heap.size) (a0:TRoll) {v0_3:Value} (h0_3:Rep.R w L [v0_3] a0.fu) {p0:Nat} (m0:∀ j9 v9,([vI a0.fj,vI a0.fh,vI a0.fl,v0_3]:List Value)[j9]? = some v9 → w.cell? ((⟨p0,0,none⟩:Addr).add j9) = some v9) (a1:Int) {p1:Nat} (m1:∀ j9 v9,([vI a1]:List Value)[j9]? = some v9 → w.cell? ((⟨p1,0,none⟩:Addr).add j9) = some v9) (a2:Int) {p2:Nat} (m2:∀ j9 v9,([vI a2]:List Value)[j9]? = some v9 → w.cell? ((⟨p2,0,none⟩:Addr).add j9) = some v9)  {r:Except Tbroken TShare} (h:minority_Fit_1_p n a0 a1 a2 = some r) :
    Calls Tryz.prog 72 #[.pointer (some ⟨p0,0,none⟩),.pointer (some ⟨p1,0,none⟩),.pointer (some ⟨p2,0,none⟩)] w (PGives w (fun (y:TShare) _ u=>u = .agg ((cs_TShare y)).toArray) (fun e=>.iface 128 (.agg #[vI e.fB])) r):=by
 unfold minority_Fit_1_p at h
 have hS0:=Ay w
 refine BE Tryz.func72 rfl rfl rfl (fun _ cs0 hb0 hp0=>?_)
 refine Ac<|Ai .plain rfl (Ar zL hS0) (fun A2 F1 g0 c2=>?_)
 refine Aa<|Ac<|Ab (AA rfl (fun j9 v9 h9=>g0.ag.cell0 (m0 j9 v9 h9)))<|AY rfl ((fun j9 v9 h9=>g0.ag.cell0 (m1 j9 v9 h9)) 0 _ rfl)<|AY rfl ((fun j9 v9 h9=>g0.ag.cell0 (m2 j9 v9 h9)) 0 _ rfl) ?_
 obtain ⟨x1,H0,h⟩:=bi h
 rcases x1 with Q1 | b0
 have h:=exc_e h
 try dsimp only at h
 refine Bt (fst:=[]) (cap:=[]) .plain body68 rfl (e3 rfl rfl rfl) (fun w9 hw9=>minority_fitted_c n _ w9 (g0.hL0 hL hw9) a0 (g0.k0 h0_3 hw9) a1 a2 H0) (fun B2 Y0=>?_)
 obtain ⟨Q0,d2⟩:=g0.agr Y0
 cases h
 exact AP hp0 Tryz.func72 ⟨Q0.ag,rfl⟩
 have h:=exc_o h
 try dsimp only at h
 refine Bg (.agg ((([vI b0.fE.fw,vI b0.fE.fx]:List Value) ++ cs_TShare b0.fE.fy ++ cs_TShare b0.fE.fa ++ cs_TShare b0.fE.fb ++ cs_TShare b0.fE.fc ++ cs_TShare b0.fd ++ cs_TShare b0.fn)).toArray) body68 rfl (e3 rfl rfl rfl) (fun w9 hw9=>AK (minority_fitted_c n _ w9 (g0.hL0 hL hw9) a0 (g0.k0 h0_3 hw9) a1 a2 H0)) rfl<|Ai .plain rfl (Ar [vI 0,vI 0,vW 0,vW 0,vW 0,vW 0,vW 0,vW 0,vW 0,vW 0,vW 0,vW 0,vW 0,vW 0,vW 0,vW 0,vW 0,vW 0,vW 0,vW 0,vW 0,vW 0,vW 0,vW 0,vW 0,vW 0,vW 0,vW 0,vW 0,vW 0,vW 0,vW 0,vW 0,vW 0,vW 0,vW 0,vW 0,vW 0,vW 0,vW 0,vW 0,vW 0,vW 0,vW 0,vW 0,vW 0,vW 0,vW 0,vW 0,vW 0,vW 0,vW 0,vW 0,vW 0,vW 0,vW 0,vW 0,vW 0,vW 0,vW 0,vW 0,vW 0,vW 0,vW 0,vW 0,vW 0,vW 0,vW 0,vW 0,vW 0,vW 0,vW 0,vW 0,vW 0,vW 0,vW 0,vW 0,vW 0,vW 0,vW 0,vW 0,vW 0,vW 0,vW 0,vW 0,vW 0,vW 0,vW 0,vW 0,vW 0,vW 0,vW 0,vW 0,vW 0,vW 0,vW 0,vW 0,vW 0] g0) (fun C2 G1 R0 g2=>?_)
 refine AJ (([vI b0.fE.fw,vI b0.fE.fx]:List Value) ++ cs_TShare b0.fE.fy ++ cs_TShare b0.fE.fa ++ cs_TShare b0.fE.fb ++ cs_TShare b0.fE.fc ++ cs_TShare b0.fd ++ cs_TShare b0.fn) R0 .hd (onesB rfl) (fun D2 A0 j2=>?_)
 refine Aa<|Aj<|dt 9 tb72_2 (fun d0 s0=>?_)
 refine Ag 0 1 d0 rfl s0 (fun _=>AX 0 rfl) rfl<|Ag 1 3 d0 rfl s0 (fun _=>AX 0 rfl) rfl<|AC 2 7 648 d0 rfl s0 (AL rfl ((mem_from (A0.memA .hd) 0) 0 _ rfl)) rfl ?_
 obtain ⟨y1,j1,h⟩:=bi h
 rcases y1 with R1 | K0
 have h:=exc_e h
 try dsimp only at h
 cases h
 have h:=exc_o h
 try dsimp only at h
 refine BA 3 15 640 (.agg ((cs_TShare K0)).toArray) d0 rfl s0 body63 rfl (e2 rfl rfl) (fun w9 hw9=>AK (minority_of_c n _ w9 (A0.hL0 hL hw9) b0.fE.fw (1:Int) j1)) rfl<|Ag 4 31 d0 rfl s0 (fun _=>AX 0 rfl) rfl<|Ag 5 63 d0 rfl s0 (fun _=>AX 50 rfl) rfl<|AC 6 127 640 d0 rfl s0 (Bc (cs:=(cs_TShare b0.fE.fc)) (by kernel_rfl) rfl (mem_part (mem_from (A0.memA .hd) 0) 50 16)) rfl ?_
 obtain ⟨z1,k1,h⟩:=bi h
 rcases z1 with U1 | E0
 have h:=exc_e h
 try dsimp only at h
 cases h
 have h:=exc_o h
 try dsimp only at h
 refine BA 7 255 512 (.agg ((cs_TShare E0)).toArray) d0 rfl s0 body69 rfl (e2 rfl rfl) (fun w9 hw9=>AK (minority_mul_c n _ w9 (A0.hL0 hL hw9) K0 b0.fE.fc k1)) rfl<|RD.nu 8 511 d0 rfl .plain rfl (Ar zL A0) (fun E2 H1 U0 k2=>?_)
 refine Bq 9 1023 d0 rfl rfl .plain (Aw (news:=(cs_TShare E0)) U0 .hd rfl rfl rfl rfl rfl rfl (onesB rfl)) (fun F2 u0 q2=>?_)
 refine AE (dk d0)<|Aj<|dt 10 tb72_3 (fun c0 q0=>?_)
 refine AC 0 1 1280 c0 rfl q0 (AA rfl (u0.memA .hd)) rfl<|Ag 1 3 c0 rfl q0 (fun _=>AX 0 rfl) rfl<|Ag 2 7 c0 rfl q0 (fun _=>AX 2 rfl) rfl<|AC 3 15 1408 c0 rfl q0 (Bc (cs:=(cs_TShare b0.fE.fy)) (by kernel_rfl) rfl (mem_part (mem_from (u0.memA (.tl .hd)) 0) 2 16)) rfl<|Ag 4 31 c0 rfl q0 (fun _=>AX 0 rfl) rfl<|Ag 5 63 c0 rfl q0 (fun _=>AX 2 rfl) rfl<|AC 6 127 1408 c0 rfl q0 (Bc (cs:=(cs_TShare b0.fE.fy)) (by kernel_rfl) rfl (mem_part (mem_from (u0.memA (.tl .hd)) 0) 2 16)) rfl ?_
 obtain ⟨A1,q1,h⟩:=bi h
 rcases A1 with V1 | M0
 have h:=exc_e h
 try dsimp only at h
 cases h
 have h:=exc_o h
 try dsimp only at h
 refine BA 7 255 1280 (.agg ((cs_TShare M0)).toArray) c0 rfl q0 body69 rfl (e2 rfl rfl) (fun w9 hw9=>AK (minority_mul_c n _ w9 (u0.hL0 hL hw9) b0.fE.fy b0.fE.fy q1)) rfl ?_
 obtain ⟨B1,s1,h⟩:=bi h
 rcases B1 with W1 | z0
 have h:=exc_e h
 try dsimp only at h
 cases h
 have h:=exc_o h
 try dsimp only at h
 refine BA 8 511 1024 (.agg ((cs_TShare z0)).toArray) c0 rfl q0 body62 rfl (e2 rfl rfl) (fun w9 hw9=>AK (minority_sub_c n _ w9 (u0.hL0 hL hw9) E0 M0 s1)) rfl<|RD.nu 9 1023 c0 rfl .plain rfl (Ar zL u0) (fun G2 I1 V0 s2=>?_)
 refine Bq 10 2047 c0 rfl rfl .plain (Aw (news:=(cs_TShare z0)) V0 .hd rfl rfl rfl rfl rfl rfl (onesB rfl)) (fun H2 j0 t2=>?_)
 refine AE (dk c0)<|Aj<|dt 3 tb72_4 (fun y0 C0=>?_)
 obtain ⟨C1,t1,h⟩:=bi h
 rcases C1 with X1 | B0
 have h:=exc_e h
 try dsimp only at h
 cases h
 have h:=exc_o h
 try dsimp only at h
 refine AC 0 1 12 y0 rfl C0 (AA rfl (j0.memA .hd)) rfl<|BA 1 3 12 (.agg ((cs_TShare B0)).toArray) y0 rfl C0 body63 rfl (e2 rfl rfl) (fun w9 hw9=>AK (minority_of_c n _ w9 (j0.hL0 hL hw9) (0:Int) (1:Int) t1)) rfl<|Ag 2 7 y0 rfl C0 (fun _=>FV.eqlV (v:=.agg ((cs_TShare z0)).toArray) (u:=.agg ((cs_TShare B0)).toArray) rfl rfl (eqlD_53 z0 B0)) rfl<|BC (i:=3) (rk y0) (RO.enterPT (m' :=15) (fst:=[]) (cap:=[]) (vs:=[.bool (decide (z0 = B0)),vI 7]) (sk y0) rfl rfl .plain body59 Tryz.func59 rfl rfl rfl rfl (e2 rfl rfl) rfl (fun _ K1 b1 c1=>?_))
 refine Ac<|Ae rfl<|Aa<|AV rfl h (fun P0 h=>?_) (fun P0 h=>?_)
 refine Ao<|Ae rfl<|Bj (fst:=[]) (cap:=[]) (vs:=[vI 7]) .plain body48 Tryz.func48 rfl rfl rfl rfl (e1 rfl) rfl (fun M1 y2 d1=>?_)
 refine Ac<|Ae rfl<|Ab (FV.neqN (i:=7) (j:=0) rfl rfl)<|Aa<|Bh rfl<|Ao<|Ae rfl<|Ab (AM (vs:=[vI 7]) (u:=.agg #[vI 7]) (e1 rfl) (fun w9=>by kernel_rfl))<|Ab (Bv (by kernel_rfl) rfl)<|RG.panic .plain rfl<|AP d1 Tryz.func48<|AP c1 Tryz.func59 ?_
 cases h
 exact AP hp0 Tryz.func72 ⟨j0.ag,rfl⟩
 refine Au<|MX.fin rfl<|Am (u:=.tuple #[]) b1 Tryz.func59 rfl .nil rfl<|AE (dk y0)<|Ac<|AZ 82 rfl<|Ab (Bc (cs:=(cs_TShare b0.fn)) (by kernel_rfl) rfl (mem_part (j0.memA (.tl (.tl .hd))) 82 16))<|AZ 82 rfl<|Ab (Bc (cs:=(cs_TShare b0.fn)) (by kernel_rfl) rfl (mem_part (j0.memA (.tl (.tl .hd))) 82 16)) ?_
 obtain ⟨D1,I0,h⟩:=bi h
 rcases D1 with Y1 | F0
 have h:=exc_e h
 try dsimp only at h
 refine Bt (fst:=[]) (cap:=[]) .plain body69 rfl (e2 rfl rfl) (fun w9 hw9=>minority_mul_c n _ w9 (j0.hL0 hL hw9) b0.fn b0.fn I0) (fun I2 Z0=>?_)
 obtain ⟨W0,u2⟩:=j0.agr Z0
 cases h
 exact AP hp0 Tryz.func72 ⟨W0.ag,rfl⟩
 have h:=exc_o h
 try dsimp only at h
 refine Bg (.agg ((cs_TShare F0)).toArray) body69 rfl (e2 rfl rfl) (fun w9 hw9=>AK (minority_mul_c n _ w9 (j0.hL0 hL hw9) b0.fn b0.fn I0)) rfl<|Ai .plain rfl (Ar zL j0) (fun J2 J1 X0 v2=>?_)
 refine AJ (cs_TShare F0) X0 .hd (onesB rfl) (fun K2 v0 x2=>?_)
 refine Aa<|Aj<|dt 6 tb72_6 (fun t0 x0=>?_)
 refine AC 0 1 96 t0 rfl x0 (AA rfl (v0.memA .hd)) rfl<|Ag 1 3 t0 rfl x0 (fun _=>AX 66 rfl) rfl<|AC 2 7 112 t0 rfl x0 (Bc (cs:=(cs_TShare b0.fd)) (by kernel_rfl) rfl (mem_part (v0.memA (.tl (.tl (.tl .hd)))) 66 16)) rfl<|AC 3 15 112 t0 rfl x0 (AA rfl (v0.memA (.tl .hd))) rfl ?_
 obtain ⟨E1,u1,h⟩:=bi h
 rcases E1 with Z1 | J0
 have h:=exc_e h
 try dsimp only at h
 cases h
 have h:=exc_o h
 try dsimp only at h
 refine BA 4 31 96 (.agg ((cs_TShare J0)).toArray) t0 rfl x0 body69 rfl (e2 rfl rfl) (fun w9 hw9=>AK (minority_mul_c n _ w9 (v0.hL0 hL hw9) b0.fd z0 u1)) rfl ?_
 obtain ⟨v1,g1,h⟩:=bi h
 rcases v1 with P1 | D0
 have h:=exc_e h
 try dsimp only at h
 cases h
 have h:=exc_o h
 try dsimp only at h
 refine BA 5 63 64 (.agg ((cs_TShare D0)).toArray) t0 rfl x0 body64 rfl (e2 rfl rfl) (fun w9 hw9=>AK (minority_div_c n _ w9 (v0.hL0 hL hw9) F0 J0 g1)) rfl<|Bq 6 127 t0 rfl rfl .plain (Aw (news:=(cs_TShare D0)) v0 (.tl (.tl (.tl (.tl .hd)))) rfl rfl rfl rfl rfl rfl (onesB rfl)) (fun z2 G0 b2=>?_)
 refine AE (dk t0)<|Al rfl<|Am hb0 Tryz.func72 rfl (.cons (.many (cs:=(cs_TShare D0)) (by kernel_rfl) rfl (G0.memA (.tl (.tl (.tl (.tl .hd)))))) .nil) rfl ?_
 cases h
 exact ⟨G0.ag,fun w9 hw9=>okOf_in rfl⟩
theorem body72:bodyB Tryz.prog 72 = true:=by kernel_rfl
def minority_Fit_p (n:Nat) (a0:TRoll) (a1:Int) (a2:Int):Option (TShare × Int):=
  (minority_Fit_1_p n a0 a1 a2).bind fun c0=>exc c0 (fun d0=>some (d0,(0:Int))) (fun b0=>some ((⟨((0:UInt64),(0:UInt64),(0:UInt64),(0:UInt64),(0:UInt64),(0:UInt64),(0:UInt64),(0:UInt64)),((0:UInt64),(0:UInt64),(0:UInt64),(0:UInt64),(0:UInt64),(0:UInt64),(0:UInt64),(0:UInt64))⟩:TShare),b0.fB))
theorem minority_Fit_c (n:Nat) (L:List Nat) (w:World) (hL:∀ b ∈ L,b < w.heap.size) (a0:TRoll) {v0_3:Value} (h0_3:Rep.R w L [v0_3] a0.fu) (a1:Int) (a2:Int)  {r:TShare × Int} (h:minority_Fit_p n a0 a1 a2 = some r) :
    Calls Tryz.prog 27 #[.agg #[vI a0.fj,vI a0.fh,vI a0.fl,v0_3],vI a1,vI a2] w (Gives w fun _ u=>u = .tuple #[.agg ((cs_TShare r.1)).toArray,vI r.2]):=by
 unfold minority_Fit_p at h
 have hS0:=Ay w
 refine AD Tryz.func27 rfl rfl rfl (fun _ cs0 hb0=>?_)
 refine Ac<|Ai .plain rfl (Av hS0 rfl rfl) (fun V1 g0 M0 F1=>?_)
 refine Ai .plain rfl (Av M0 rfl rfl) (fun c2 j0 V0 G1=>?_)
 refine Ai .plain rfl (Av V0 rfl rfl) (fun d2 p0 W0 H1=>?_)
 refine Ai .plain rfl (Ar zL W0) (fun g2 x0 X0 I1=>?_)
 refine Af rfl<|Aa<|Ac<|Ab (BF (vs:=[]) (us:=[vP g0,vP j0,vP p0]) evs_nil (e3 rfl rfl rfl))<|Bj (fst:=[]) (cap:=[]) (vs:=[.func (.func 72) #[] #[vP g0,vP j0,vP p0]]) .plain body57 Tryz.func57 rfl rfl rfl rfl (e1 rfl) rfl (fun y1 G0 U1=>?_)
 refine Ac<|Ai .plain rfl (Ar zL X0) (fun j2 q0 Y0 J1=>?_)
 refine Ai .plain rfl (Ar [vI 0] Y0) (fun k2 d0 b0 K1=>?_)
 refine Aa<|Ac<|Ab (BF (vs:=[]) (us:=[vP q0,vP d0]) evs_nil (e2 rfl rfl))<|RG.defer (fst:=[]) (cap:=[vP q0,vP d0]) (vs:=[]) rfl .plain rfl evs_nil<|Aa<|Ac<|Ae rfl ?_
 obtain ⟨u1,I0,h⟩:=bi h
 rcases u1 with t0 | s0
 have h:=exc_e h
 try dsimp only at h
 refine Bt (fst:=[]) (cap:=[vP g0,vP j0,vP p0]) .plain body72 rfl evs_nil (fun w9 hw9=>minority_Fit_1_c n _ w9 (b0.hL0 hL hw9) a0 (b0.k0 h0_3 hw9) (fun j9 v9 h9=>hw9.cell0 ((b0.memA (.tl (.tl (.tl (.tl (.tl .hd)))))) j9 v9 h9)) a1 (fun j9 v9 h9=>hw9.cell0 ((b0.memA (.tl (.tl (.tl (.tl .hd))))) j9 v9 h9)) a2 (fun j9 v9 h9=>hw9.cell0 ((b0.memA (.tl (.tl (.tl .hd)))) j9 v9 h9)) I0) (fun p2 j1=>?_)
 obtain ⟨Z0,M1⟩:=b0.agr j1
 refine PN.callD (vs:=[]) (cap:=[vP q0,vP d0]) body100 Tryz.func100 rfl rfl rfl (fun x1 k1 q1=>?_)
 refine Ac<|RG.recover1 .plain k1 rfl<|Af rfl<|Aa<|Ac<|Ae rfl<|Ab (FV.neqI Tryz.underlying20 rfl rfl)<|Aa<|Bh rfl<|Ac<|Ae rfl<|Ab (FV.assertT (by kernel_rfl) rfl)<|Ae rfl<|Ab (Ah rfl rfl)<|Ab (Ah rfl rfl)<|Ai .plain rfl (Ar [vI 0] Z0) (fun q2 J0 b1 P1=>?_)
 refine AJ [vI t0.fB] b1 .hd (o1 rfl) (fun s2 c1 Q1=>?_)
 refine Af rfl<|Aa<|Aj<|Ac<|Ae rfl<|Ab (BG rfl)<|Aa<|BB rfl<|Au<|Ac<|Ai .plain rfl (Ar zL c1) (fun s1 K0 u0 R1=>?_)
 refine Aa<|dt 3 tb100_6 (fun c0 B0=>?_)
 refine AC 0 1 24 c0 rfl B0 (AA rfl (u0.memA .hd)) rfl<|Ag 1 3 c0 rfl B0 (fun _=>AX 0 rfl) rfl<|RD.meet (α:=Unit) (fun ()=>[(1,vP d0),(19,vI t0.fB)]) (fun () C0=>St w C0 [.cells d0 [vI 0] 41,.cells q0 zL 53,.cells x0 zL 53,.cells p0 [vI a2] 3,.cells j0 [vI a1] 3,.cells g0 [vI a0.fj,vI a0.fh,vI a0.fl,v0_3] 38]∧Tr s1 [.cells K0 zL 53,.cells J0 [vI t0.fB] 128,.cells d0 [vI 0] 41,.cells q0 zL 53,.cells x0 zL 53,.cells p0 [vI a2] 3,.cells j0 [vI a1] 3,.cells g0 [vI a0.fj,vI a0.fh,vI a0.fl,v0_3] 38] C0 [.cells d0 [vI 0] 41,.cells q0 zL 53,.cells x0 zL 53,.cells p0 [vI a2] 3,.cells j0 [vI a1] 3,.cells g0 [vI a0.fj,vI a0.fh,vI a0.fl,v0_3] 38]) 1 15 ?_ ?_
 rintro ⟨⟩ C0 ⟨P0,z1⟩
 try dsimp only
 refine Bq 4 31 c0 rfl rfl .plain (Aw (news:=[vI t0.fB]) P0 .hd rfl rfl rfl rfl rfl rfl (o1 rfl)) (fun W1 y0 A1=>?_)
 refine AE (dk c0)<|MX.fin rfl<|RT.leaveD1 q1 Tryz.func100 rfl .nil<|Am (u:=.tuple #[.agg zM,vI t0.fB]) G0 Tryz.func57 rfl (.cons (.many (cs:=zL) (by kernel_rfl) rfl (y0.memA (.tl .hd))) (.cons (.one (by kernel_rfl) rfl ((y0.memA .hd) 0 _ rfl)) .nil)) rfl<|Ab (Ah rfl rfl)<|Ab (Ah rfl rfl)<|AJ zL y0 (.tl (.tl .hd)) (onesB rfl) (fun X1 E0 B1=>?_)
 refine Af rfl<|Aa<|Al rfl<|Am hb0 Tryz.func27 rfl (.cons (.many (cs:=zL) (by kernel_rfl) rfl (E0.memA (.tl (.tl .hd)))) (.cons (.tmp rfl) .nil)) rfl ?_
 cases h
 exact E0.gv
 intro D0
 refine BJ [2,3] (rk c0) ⟨?_,?_,trivial⟩
 refine BK (m' :=7) (sk c0) rfl .plain rfl (AL rfl ((u0.memA (.tl .hd)) 0 _ rfl))<|Bq 3 15 c0 rfl rfl .plain (Aw (news:=zL) u0 (.tl (.tl (.tl .hd))) rfl rfl rfl rfl rfl rfl (onesB rfl)) (fun t1 v0 A0=>?_)
 obtain ⟨Q0,d1⟩:=AG v0 (.one (.tl (.tl .hd)) (.one (.tl (.tl .hd)) (.one (.tl (.tl .hd)) (.one (.tl (.tl .hd)) (.one (.tl (.tl .hd)) (.one (.tl (.tl .hd)) .done))))))
 exact D0 () _ _ ⟨rfl,rfl,trivial⟩ ⟨Q0,(Tt A0 d1)⟩
 refine RO.now (m' :=11) (sk c0) rfl rfl .plain (Aw (news:=zL) u0 (.tl (.tl (.tl .hd))) rfl rfl rfl rfl rfl rfl (onesB rfl)) (fun t1 v0 A0=>?_)
 refine AC 2 15 16 c0 rfl B0 (AL rfl ((v0.memA (.tl .hd)) 0 _ rfl)) rfl ?_
 obtain ⟨R0,g1⟩:=AG v0 (.one (.tl (.tl .hd)) (.one (.tl (.tl .hd)) (.one (.tl (.tl .hd)) (.one (.tl (.tl .hd)) (.one (.tl (.tl .hd)) (.one (.tl (.tl .hd)) .done))))))
 exact D0 () _ _ ⟨rfl,rfl,trivial⟩ ⟨R0,(Tt A0 g1)⟩
 have h:=exc_o h
 try dsimp only at h
 refine RG.callq' (v:=.agg ((cs_TShare s0)).toArray) (fst:=[]) (cap:=[vP g0,vP j0,vP p0]) .plain body72 rfl evs_nil (fun w9 hw9=>AK (minority_Fit_1_c n _ w9 (b0.hL0 hL hw9) a0 (b0.k0 h0_3 hw9) (fun j9 v9 h9=>hw9.cell0 ((b0.memA (.tl (.tl (.tl (.tl (.tl .hd)))))) j9 v9 h9)) a1 (fun j9 v9 h9=>hw9.cell0 ((b0.memA (.tl (.tl (.tl (.tl .hd))))) j9 v9 h9)) a2 (fun j9 v9 h9=>hw9.cell0 ((b0.memA (.tl (.tl (.tl .hd)))) j9 v9 h9)) I0)) rfl<|AJ (cs_TShare s0) b0 (.tl .hd) (onesB rfl) (fun Y1 U0 C1=>?_)
 refine AJ [vI 0] U0 .hd (o1 rfl) (fun Z1 z0 D1=>?_)
 refine Aa<|Al rfl<|RT.callD (vs:=[]) (cap:=[vP q0,vP d0]) body100 Tryz.func100 rfl rfl rfl (fun v1 H0 p1=>?_)
 refine Ac<|RG.recover0 .plain H0 rfl<|Af rfl<|Aa<|Ac<|Ae rfl<|Ab (FV.neqI0 Tryz.underlying20 rfl rfl)<|Aa<|BB rfl<|Au<|MX.fin rfl<|RT.leaveD0 H0 p1 Tryz.func100 rfl .nil<|Am (u:=.tuple #[.agg ((cs_TShare s0)).toArray,vI 0]) G0 Tryz.func57 rfl (.cons (.many (cs:=(cs_TShare s0)) (by kernel_rfl) rfl (z0.memA (.tl .hd))) (.cons (.one (by kernel_rfl) rfl ((z0.memA .hd) 0 _ rfl)) .nil)) rfl<|Ab (Ah rfl rfl)<|Ab (Ah rfl rfl)<|AJ (cs_TShare s0) z0 (.tl (.tl .hd)) (onesB rfl) (fun b2 F0 E1=>?_)
 refine Af rfl<|Aa<|Al rfl<|Am hb0 Tryz.func27 rfl (.cons (.many (cs:=(cs_TShare s0)) (by kernel_rfl) rfl (F0.memA (.tl (.tl .hd)))) (.cons (.tmp rfl) .nil)) rfl ?_
 cases h
 exact F0.gv
def tb5_5:List (Nat × Nat × Nat):=[(0,8589934592,16),(1,17179869184,8589934592),(2,34359738368,17179869184),(4,68719476736,34359738376),(4,137438953472,34359738368),(20,274877906944,34359738368),(52,549755813888,446676598784),(108,1099511627776,652835028992),(132,2199023255552,1133871366144),(384,4398046511104,2199023255552),(512,8796093022208,4398046511104),(1536,17592186044416,13194139533312),(512,35184372088832,4398046511106),(512,70368744177664,4398046511108),(2560,140737488355328,4398046511104),(29184,281474976710656,250688651132928),(33280,562949953421312,285873023221760),(33280,1125899906842624,285873023221760),(231936,2251799813685248,1710840092819456),(262656,4503599627370496,2256197860196352),(786432,9007199254740992,4503599627370496),(1048576,18014398509481984,9007199254740992),(1048576,36028797018963968,9007199254740994),(1048576,72057594037927936,9007199254740996),(15728640,144115188075855872,117093590311632896),(17825792,288230376151711744,153122387330596864),(17825792,576460752303423488,153122387330596864),(120586240,1152921504606846976,891712726219358208),(135266304,2305843009213693952,1161928703861587968),(402653184,4611686018427387904,2305843009213693952),(536870912,9223372036854775808,4611686018427387904),(1610612736,18446744073709551616,4611686018427387904),(3758096384,36893488147419103232,32281802128991715328),(536870912,73786976294838206464,4611686018427387906),(13421772800,147573952589676412928,78398662313265594368),(17716740096,295147905179352825856,152185638608103800832),(17716740096,590295810358705651712,152185638608103800832),(17716740096,1180591620717411303424,152185638608103800832),(262529875968,2361183241434822606848,2107540510421316272128),(275414777856,4722366482869645213696,2365794927453249994752),(824633720832,9444732965739290427392,4722366482869645213696),(1099511627776,18889465931478580854784,9444732965739290427392),(1099511627776,37778931862957161709568,9444732965739290427394),(7696581394432,75557863725914323419136,47223664828696452136960),(9895604649984,151115727451828646838272,85002596691653613846528),(9895604649984,302231454903657293676544,85002596691653613846528),(64871186038784,604462909807314587353088,481681381252703811796992),(71468255805440,1208925819614629174706176,613907642773053877780480),(211106232532992,2417851639229258349412352,1208925819614629174706176),(281474976710656,4835703278458516698824704,2417851639229258349412480),(844424930131968,9671406556917033397649408,7253554917687775048237056),(1407374883553280,19342813113834066795298816,12089258196146291747061760),(2533274790395904,38685626227668133590597632,19342813113834066795298816),(4503599627370496,77371252455336267181195264,38685626227668133590598144),(13510798882111488,154742504910672534362390528,116056878683004400771792896),(22517998136852480,309485009821345068724781056,193428131138340667952988160),(72057594037927935,1,309485009821345068724781056)]
theorem el33:ElT Tryz.prog 33 3 (Rep.size Int) 8 (vI 0) [vI 0]:=⟨Tryz.underlying33,by kernel_rfl,rfl,rfl,rfl,rfl⟩
theorem body8:bodyB Tryz.prog 8 = true:=by kernel_rfl
theorem body15:bodyB Tryz.prog 15 = true:=by kernel_rfl
theorem body18:bodyB Tryz.prog 18 = true:=by kernel_rfl
theorem body20:bodyB Tryz.prog 20 = true:=by kernel_rfl
theorem body22:bodyB Tryz.prog 22 = true:=by kernel_rfl
theorem body23:bodyB Tryz.prog 23 = true:=by kernel_rfl
theorem body24:bodyB Tryz.prog 24 = true:=by kernel_rfl
theorem body25:bodyB Tryz.prog 25 = true:=by kernel_rfl
theorem body26:bodyB Tryz.prog 26 = true:=by kernel_rfl
theorem body27:bodyB Tryz.prog 27 = true:=by kernel_rfl
theorem body55:bodyB Tryz.prog 55 = true:=by kernel_rfl
theorem body70:bodyB Tryz.prog 70 = true:=by kernel_rfl
theorem body71:bodyB Tryz.prog 71 = true:=by kernel_rfl
def wardmotelaw29_works_p (n:Nat):Option Bool:=
  (wardmotelaw29_example_p n).bind fun y1=>(minority_Shares_p n y1 ([(0:Int),(0:Int),(1:Int)]:List Int) (2:Int) (0:Int)).bind fun j0=>(minority_Line_p n y1 (1:Int) (0:Int)).bind fun A0=>(minority_Shares_p n (⟨(0:Int),(0:Int),(0:Int),([(⟨⟨#[97]⟩,(0:Int),([]:List Int),([]:List Int),([]:List Int),false⟩:TUnit),(⟨⟨#[98]⟩,(0:Int),([]:List Int),([]:List Int),([]:List Int),false⟩:TUnit)]:List TUnit)⟩:TRoll) ([(0:Int),(1:Int)]:List Int) (2:Int) (0:Int)).bind fun B0=>(if j0.2 = 0 then (wardmotelaw29_of_p n (1:Int) (4:Int)).bind fun k0=>(wardmotelaw29_of_p n (1:Int) (10:Int)).bind fun p0=>(slices_Equal_api_Share_api_Share_p n j0.1 ([k0,p0]:List TShare)).bind fun q0=>(if q0 = true then (wardmotelaw29_of_p n (1:Int) (5:Int)).bind fun s0=>(minority_Majority_p n y1 ([(0:Int),(0:Int),(1:Int)]:List Int) (2:Int) (0:Int) s0).bind fun c0=>(wardmotelaw29_lists_1_p n c0.1 c0.2 ([(0:Int)]:List Int)).bind fun t0=>(if t0 = true then (minority_Index_p n y1 ([(0:Int),(0:Int),(1:Int)]:List Int) (2:Int) (0:Int)).bind fun d0=>(wardmotelaw29_is_1_p n d0.1 d0.2 (20:Int) (77:Int)).bind fun u0=>(if u0 = true then (wardmotelaw29_of_p n (14:Int) (9:Int)).bind fun v0=>(wardmotelaw29_of_p n (-1:Int) (45:Int)).bind fun x0=>(minority_Line_p n y1 (0:Int) (0:Int)).bind fun b0=>(wardmotelaw29_line_1_p n b0.1 b0.2.1 b0.2.2 v0 x0).bind fun y0=>(if y0 = true then (minority_Fit_p n y1 (0:Int) (0:Int)).bind fun g0=>(wardmotelaw29_is_1_p n g0.1 g0.2 (49:Int) (51:Int)).bind fun z0=>(if z0 = true then (if A0.2.2 = 2 then some (decide (B0.2 = 2)) else some false) else some false) else some false) else some false) else some false) else some false) else some false)
theorem wardmotelaw29_works_c (n:Nat) (L:List Nat) (w:World) (hL:∀ b ∈ L,b < w.heap.size)  {r:Bool} (h:wardmotelaw29_works_p n = some r) :
    Calls Tryz.prog 5 #[] w (Gives w fun _ u=>u = .bool r):=by
 unfold wardmotelaw29_works_p at h
 have hS0:=Ay w
 refine AD Tryz.func5 rfl rfl rfl (fun _ cs0 hb0=>?_)
 refine Ac<|Af rfl<|Aa<|Ac ?_
 obtain ⟨y1,hy1,h⟩:=bi h
 refine Bf (fst:=[]) (cap:=[]) .plain body22 rfl evs_nil (fun w9 hw9=>own_gives (b0:=w.heap.size) (wardmotelaw29_example_c n _ w9 (hS0.hL hL hw9)  hy1) hw9 (Nat.le_trans hS0.ag.size hw9.size)) rfl (fun w2 vu3 hag4 ⟨v9,y2,hu6,s5,I2⟩=>?_)
 subst hu6
 have hS7:=own_push hS0 s5
 have hT8:=own_tr hS0 s5
 have M2:=AH (cs:=y2) (xs:=(y1.fu:List TUnit)) hS7 L (own_cells I2)
 refine Ai .plain rfl (Ba (α:=Int) (xs:=([(0:Int),(0:Int),(1:Int)]:List Int)) (vs:=[vI 0,vI 0,vI 1]) (ds' :=[vI 0,vI 0,vI 1]) rfl hS7 el33 rfl (e3 rfl rfl rfl) (by kernel_rfl) rfl) (fun j5 j2 G1 C2=>?_)
 have P2:=AH (cs:=[vI 0,vI 0,vI 1]) (xs:=(([(0:Int),(0:Int),(1:Int)]:List Int):List Int)) G1 L (Ax (cs:=[vI 0]) (ds:=[vI 0,vI 1]) rfl (Ax (cs:=[vI 0]) (ds:=[vI 1]) rfl (Ax (cs:=[vI 1]) (ds:=[]) rfl (AT _ _))))
 refine Ai .plain rfl (Ar [vI 0,vI 0,vI 0,vN] G1) (fun p5 E4 H1 Q1=>?_)
 refine AJ [vI y1.fj,vI y1.fh,vI y1.fl,v9] H1 .hd (o4 rfl rfl rfl (St.o1 (α:=TUnit) H1 (.tl (.tl .hd)))) (fun q5 I0 R1=>?_)
 refine Af rfl<|Aa<|Ac<|Ab (AA rfl (I0.memA .hd))<|Ae rfl ?_
 have x3:=Tt C2 (Tt Q1 R1)
 have d3:=AR M2 x3
 have B3:=Bn (α:=TUnit) I0 (.tl (.tl .hd)) d3 hL
 have J0:=Bw I0 (.tl (.tl .hd))
 have E2:=Bx I0 (.tl (.tl .hd))
 have u0:=By (α:=TUnit) (v:=v9) (xs:=y1.fu) J0 L B3
 have y3:=Tt Q1 (Tt R1 E2)
 have g3:=AR P2 y3
 have C3:=Bn (α:=Int) J0 (.tl .hd) g3 hL
 have d1:=Bw J0 (.tl .hd)
 have s1:=Bx J0 (.tl .hd)
 have E1:=By (α:=Int) (v:=(vS j2 3)) (xs:=([(0:Int),(0:Int),(1:Int)]:List Int)) d1 L C3
 obtain ⟨g2,k4,h⟩:=bi h
 have j3:=Aq u0 s1
 refine Bf (fst:=[]) (cap:=[]) .plain body8 rfl (e4 rfl rfl rfl rfl) (fun w9 hw9=>minority_Shares_c n _ w9 (d1.hL hL hw9) y1 (Ap j3 hw9) ([(0:Int),(0:Int),(1:Int)]:List Int) (Ap E1 hw9) (2:Int) (0:Int) k4) rfl (fun t5 b5 G2 ⟨R4,hu_,D3⟩=>?_)
 subst hu_
 obtain ⟨K0,u1⟩:=d1.agr G2
 refine Ae rfl<|Ab (Ah rfl rfl)<|Ab (Ah rfl rfl)<|Af rfl<|Af rfl<|Aa<|Ac<|Ab (AA rfl (K0.memA .hd)) ?_
 obtain ⟨y0,p4,h⟩:=bi h
 have k3:=Aq u0 (Tt s1 u1)
 refine Bg (.tuple #[.agg ((cs_TShare y0.1)).toArray,.agg ((cs_TShare y0.2.1)).toArray,vI y0.2.2]) body23 rfl (e3 rfl rfl rfl) (fun w9 hw9=>minority_Line_c n _ w9 (K0.hL0 hL hw9) y1 (K0.kd k3 hw9) (1:Int) (0:Int) p4) rfl<|Ae rfl<|Ab (Ah rfl rfl)<|Ab (Ah rfl rfl)<|Ab (Ah rfl rfl)<|Ai .plain rfl (Ar zL K0) (fun u5 F4 z2 v1=>?_)
 refine Ai .plain rfl (Ar zL z2) (fun v5 G4 A2 x1=>?_)
 refine AJ (cs_TShare y0.1) A2 (.tl .hd) (onesB rfl) (fun x5 B2 z1=>?_)
 refine AJ (cs_TShare y0.2.1) B2 .hd (onesB rfl) (fun y5 I1 A1=>?_)
 refine Af rfl<|Aa<|Ac<|Ab (AM (vs:=[.string ⟨#[97]⟩]) (u:=.agg #[.string ⟨#[97]⟩,vI 0,vN,vN,vN,.bool false]) (e1 rfl) (fun w9=>by kernel_rfl))<|Ab (AM (vs:=[.string ⟨#[98]⟩]) (u:=.agg #[.string ⟨#[98]⟩,vI 0,vN,vN,vN,.bool false]) (e1 rfl) (fun w9=>by kernel_rfl)) ?_
 have M4:=Rep.nilAt (α:=Int) I1 L
 refine Ai .plain rfl (Ba (α:=TUnit) (xs:=([(⟨⟨#[97]⟩,(0:Int),([]:List Int),([]:List Int),([]:List Int),false⟩:TUnit),(⟨⟨#[98]⟩,(0:Int),([]:List Int),([]:List Int),([]:List Int),false⟩:TUnit)]:List TUnit)) (vs:=[.agg #[.string ⟨#[97]⟩,vI 0,vN,vN,vN,.bool false],.agg #[.string ⟨#[98]⟩,vI 0,vN,vN,vN,.bool false]]) (ds' :=[.string ⟨#[97]⟩,vI 0,vN,vN,vN,.bool false,.string ⟨#[98]⟩,vI 0,vN,vN,vN,.bool false]) rfl I1 el36 rfl (e2 rfl rfl) (by kernel_rfl) rfl) (fun z5 b1 g1 B1=>?_)
 have v0:=Rep.nilAt (α:=Int) g1 L
 have Q2:=AH (cs:=[.string ⟨#[97]⟩,vI 0,vN,vN,vN,.bool false,.string ⟨#[98]⟩,vI 0,vN,vN,vN,.bool false]) (xs:=(([(⟨⟨#[97]⟩,(0:Int),([]:List Int),([]:List Int),([]:List Int),false⟩:TUnit),(⟨⟨#[98]⟩,(0:Int),([]:List Int),([]:List Int),([]:List Int),false⟩:TUnit)]:List TUnit):List TUnit)) g1 L (Ax (cs:=[.string ⟨#[97]⟩,vI 0,vN,vN,vN,.bool false]) (ds:=[.string ⟨#[98]⟩,vI 0,vN,vN,vN,.bool false]) (mk_TUnit ⟨#[97]⟩ (0:Int) ([]:List Int) v0 ([]:List Int) v0 ([]:List Int) v0 false) (Ax (cs:=[.string ⟨#[98]⟩,vI 0,vN,vN,vN,.bool false]) (ds:=[]) (mk_TUnit ⟨#[98]⟩ (0:Int) ([]:List Int) v0 ([]:List Int) v0 ([]:List Int) v0 false) (AT _ _)))
 refine Ab (AM (vs:=[(vS b1 2)]) (u:=.agg #[vI 0,vI 0,vI 0,(vS b1 2)]) (e1 rfl) (fun w9=>by kernel_rfl))<|Ai .plain rfl (Ba (α:=Int) (xs:=([(0:Int),(1:Int)]:List Int)) (vs:=[vI 0,vI 1]) (ds' :=[vI 0,vI 1]) rfl g1 el33 rfl (e2 rfl rfl) (by kernel_rfl) rfl) (fun A5 k2 M0 R0=>?_)
 have R2:=AH (cs:=[vI 0,vI 1]) (xs:=(([(0:Int),(1:Int)]:List Int):List Int)) M0 L (Ax (cs:=[vI 0]) (ds:=[vI 1]) rfl (Ax (cs:=[vI 1]) (ds:=[]) rfl (AT _ _)))
 have p3:=AR Q2 R0
 have E3:=Bn (α:=TUnit) M0 (.tl .hd) p3 hL
 have P0:=Bw M0 (.tl .hd)
 have U0:=Bx M0 (.tl .hd)
 have F3:=By (α:=TUnit) (v:=(vS b1 2)) (xs:=([(⟨⟨#[97]⟩,(0:Int),([]:List Int),([]:List Int),([]:List Int),false⟩:TUnit),(⟨⟨#[98]⟩,(0:Int),([]:List Int),([]:List Int),([]:List Int),false⟩:TUnit)]:List TUnit)) P0 L E3
 have q3:=AR R2 U0
 have G3:=Bn (α:=Int) P0 .hd q3 hL
 have j1:=Bw P0 .hd
 have V0:=Bx P0 .hd
 have H3:=By (α:=Int) (v:=(vS k2 2)) (xs:=([(0:Int),(1:Int)]:List Int)) j1 L G3
 obtain ⟨C4,q4,h⟩:=bi h
 have s3:=Aq F3 V0
 refine Bf (fst:=[]) (cap:=[]) .plain body8 rfl (e4 rfl rfl rfl rfl) (fun w9 hw9=>minority_Shares_c n _ w9 (j1.hL hL hw9) (⟨(0:Int),(0:Int),(0:Int),([(⟨⟨#[97]⟩,(0:Int),([]:List Int),([]:List Int),([]:List Int),false⟩:TUnit),(⟨⟨#[98]⟩,(0:Int),([]:List Int),([]:List Int),([]:List Int),false⟩:TUnit)]:List TUnit)⟩:TRoll) (Ap s3 hw9) ([(0:Int),(1:Int)]:List Int) (Ap H3 hw9) (2:Int) (0:Int) q4) rfl (fun B5 c5 H2 ⟨U4,hu_,P4⟩=>?_)
 subst hu_
 obtain ⟨Q0,C1⟩:=j1.agr H2
 refine Ae rfl<|Ab (Ah rfl rfl)<|Ab (Ah rfl rfl)<|Af rfl<|Af rfl<|Aa<|Aj<|dt 57 tb5_5 (fun c0 d0=>?_)
 refine Ag 0 1 c0 rfl d0 (fun _=>Ak rfl) rfl<|Ag 1 3 c0 rfl d0 (fun _=>FV.eql (i:=g2.2) (j:=0) rfl rfl) rfl<|Ag 2 7 c0 rfl d0 (fun _=>Ak rfl) rfl<|RD.ifd (s:=35) rfl h (fun p2 h=>?_) (fun p2 h=>?_)
 refine RD.vP 3 15 c0 rfl d0 (.yes rfl rfl) (fun _=>Ak rfl) rfl ?_
 obtain ⟨p0,P3,h⟩:=bi h
 refine RD.callq (i:=4) (m' :=31) (W:=144115188075855840) (tk c0) rfl d0 (v:=.agg ((cs_TShare p0)).toArray) (fst:=[]) (cap:=[]) (.yes rfl rfl) body10 rfl (e2 rfl rfl) (fun w9 hw9=>wardmotelaw29_of_c n _ w9 (Q0.hL0 hL hw9) (1:Int) (4:Int) P3) rfl ?_
 obtain ⟨j0,Q3,h⟩:=bi h
 refine RD.callq (i:=5) (m' :=63) (W:=144115188075855808) (tk c0) rfl d0 (v:=.agg ((cs_TShare j0)).toArray) (fst:=[]) (cap:=[]) (.yes rfl rfl) body10 rfl (e2 rfl rfl) (fun w9 hw9=>wardmotelaw29_of_c n _ w9 (Q0.hL0 hL hw9) (1:Int) (10:Int) Q3) rfl<|RD.nu 6 127 c0 rfl (.yes rfl rfl) rfl (Ba (α:=TShare) (xs:=([p0,j0]:List TShare)) (vs:=[.agg ((cs_TShare p0)).toArray,.agg ((cs_TShare j0)).toArray]) (ds' :=(cs_TShare p0 ++ cs_TShare j0)) rfl Q0 el40 rfl (e2 rfl rfl) (by kernel_rfl) rfl) (fun d5 D4 t0 k1=>?_)
 have J2:=AH (cs:=(cs_TShare p0 ++ cs_TShare j0)) (xs:=(([p0,j0]:List TShare):List TShare)) t0 L (Ax (cs:=(cs_TShare p0)) (ds:=(cs_TShare j0)) (mk_TShare p0.fN p0.fD) (Ax (cs:=(cs_TShare j0)) (ds:=[]) (mk_TShare j0.fN j0.fD) (AT _ _)))
 obtain ⟨x4,R3,h⟩:=bi h
 have t3:=Tt v1 (Tt x1 (Tt z1 (Tt A1 (Tt B1 (Tt R0 (Tt U0 (Tt V0 (Tt C1 k1))))))))
 have U2:=Aq D3 t3
 refine RD.callq (i:=7) (m' :=255) (W:=144115188075855616) (tk c0) rfl d0 (v:=.bool x4) (fst:=[]) (cap:=[]) (.yes rfl rfl) body24 rfl (e2 rfl rfl) (fun w9 hw9=>slices_Equal_api_Share_api_Share_c n _ w9 (t0.hL0 hL hw9) g2.1 (t0.kd U2 hw9) ([p0,j0]:List TShare) (Ap (St.lend (α:=TShare) (L:=L) t0 .hd J2 hL) hw9) R3) rfl<|Ag 8 511 c0 rfl d0 (fun _=>BL rfl rfl) rfl<|Ag 9 1023 c0 rfl d0 (fun _=>Ak rfl) rfl<|RD.ifb (s:=42) rfl h (fun q2 h=>?_) (fun q2 h=>?_)
 refine RD.val (i:=12) (m' :=5119) (W:=144115188075823104) (tk c0) rfl d0 (.yes rfl rfl) (AA rfl (t0.memA (.tl (.tl (.tl .hd))))) rfl<|RD.vP 13 13311 c0 rfl d0 (.yes rfl rfl) (fun _=>Ak rfl) rfl<|RD.nu 10 14335 c0 rfl (.yes rfl rfl) rfl (Ba (α:=Int) (xs:=([(0:Int)]:List Int)) (vs:=[vI 0]) (ds' :=[vI 0]) rfl t0 el32 rfl (e1 rfl) (by kernel_rfl) rfl) (fun s4 F1 G0 J1=>?_)
 have K2:=AH (cs:=[vI 0]) (xs:=(([(0:Int)]:List Int):List Int)) G0 L (Ax (cs:=[vI 0]) (ds:=[]) rfl (AT _ _))
 have z3:=Bn (α:=Int) G0 .hd K2 hL
 have H0:=Bw G0 .hd
 have K1:=Bx G0 .hd
 have W1:=By (α:=Int) (v:=(vS F1 1)) (xs:=([(0:Int)]:List Int)) H0 L z3
 refine Bu 11 16383 c0 rfl (.yes rfl rfl) body18 rfl (e1 rfl) (fun w9 hw9=>Calls.gives (wardmotelaw29_lists_c n _ w9 (H0.hL hL hw9) ([(0:Int)]:List Int) (Ap W1 hw9)) fun (w8:World) (u8:Value) ⟨b0_,hu_,s_⟩=>(⟨b0_,hu_,s_.from hw9⟩:∃ z0:Nat,u8 = Value.func (.func 55) #[] #[vP z0]∧St s4 w8 [.cells z0 [(vS F1 1)] 32])) rfl (fun g5 V4 H4 ⟨z0,I3,X1⟩=>?_)
 subst I3
 have c1:=mk_push1 H0 X1
 have p1:=mk_tr1 H0 X1
 obtain ⟨c2,U3,h⟩:=bi h
 refine RD.callq (i:=14) (m' :=32767) (W:=144115188075823104) (tk c0) rfl d0 (v:=.agg ((cs_TShare c2)).toArray) (fst:=[]) (cap:=[]) (.yes rfl rfl) body10 rfl (e2 rfl rfl) (fun w9 hw9=>wardmotelaw29_of_c n _ w9 (c1.hL0 hL hw9) (1:Int) (5:Int) U3) rfl ?_
 obtain ⟨d2,V3,h⟩:=bi h
 have U1:=Tt s1 (Tt u1 (Tt v1 (Tt x1 (Tt z1 (Tt A1 (Tt B1 (Tt R0 (Tt U0 (Tt V0 (Tt C1 (Tt k1 (Tt J1 (Tt K1 p1)))))))))))))
 have V2:=Aq u0 U1
 have V1:=Tt u1 (Tt v1 (Tt x1 (Tt z1 (Tt A1 (Tt B1 (Tt R0 (Tt U0 (Tt V0 (Tt C1 (Tt k1 (Tt J1 (Tt K1 p1))))))))))))
 have W2:=Aq E1 V1
 refine Bu 15 65535 c0 rfl (.yes rfl rfl) body15 rfl (e5 rfl rfl rfl rfl rfl) (fun w9 hw9=>minority_Majority_c n _ w9 (c1.hL hL hw9) y1 (Ap V2 hw9) ([(0:Int),(0:Int),(1:Int)]:List Int) (Ap W2 hw9) (2:Int) (0:Int) c2 V3) rfl (fun t4 W4 F2 ⟨Q4,hu_,A3⟩=>?_)
 subst hu_
 obtain ⟨q0,q1⟩:=c1.agr F2
 refine RD.vP 16 131071 c0 rfl d0 (.yes rfl rfl) (fun _=>Ah rfl rfl) rfl<|RD.vP 17 262143 c0 rfl d0 (.yes rfl rfl) (fun _=>Ah rfl rfl) rfl ?_
 obtain ⟨y4,W3,h⟩:=bi h
 have X2:=Aq W1 (Tt p1 q1)
 refine RD.callq (i:=18) (m' :=524287) (W:=144115188075331584) (tk c0) rfl d0 (v:=.bool y4) (fst:=[]) (cap:=[vP z0]) (.yes rfl rfl) body55 rfl (e2 rfl rfl) (fun w9 hw9=>wardmotelaw29_lists_1_c n _ w9 (q0.hL0 hL hw9) d2.1 (q0.kd A3 hw9) d2.2 ([(0:Int)]:List Int) (q0.kd X2 hw9) (fun j9 v9 h9=>hw9.cell0 ((q0.memA .hd) j9 v9 h9)) W3) rfl<|Ag 19 1048575 c0 rfl d0 (fun _=>BL rfl rfl) rfl<|Ag 20 2097151 c0 rfl d0 (fun _=>Ak rfl) rfl<|RD.ifb (s:=53) rfl h (fun s2 h=>?_) (fun s2 h=>?_)
 refine RD.val (i:=22) (m' :=6291455) (W:=144115188059078656) (tk c0) rfl d0 (.yes rfl rfl) (AA rfl (q0.memA (.tl (.tl (.tl (.tl .hd)))))) rfl<|RD.vP 23 14680063 c0 rfl d0 (.yes rfl rfl) (fun _=>Ak rfl) rfl<|Bu 21 16777215 c0 rfl (.yes rfl rfl) body25 rfl (e2 rfl rfl) (fun w9 hw9=>Calls.gives (wardmotelaw29_is_c n _ w9 (q0.hL hL hw9) (20:Int) (77:Int)) fun (w8:World) (u8:Value) ⟨b0_,b1_,hu_,s_⟩=>(⟨b0_,b1_,hu_,s_.from hw9⟩:∃ A0 B0:Nat,u8 = Value.func (.func 70) #[] #[vP A0,vP B0]∧St t4 w8 [.cells A0 [vI 20] 3,.cells B0 [vI 77] 3])) rfl (fun u4 X4 I4 ⟨A0,B0,J3,Y1⟩=>?_)
 subst J3
 have g0:=mk_push2 q0 Y1
 have M1:=mk_tr2 q0 Y1
 obtain ⟨W0,X3,h⟩:=bi h
 have D1:=Tt U1 (Tt q1 M1)
 have Y2:=Aq u0 D1
 have u3:=Tt V1 (Tt q1 M1)
 have Z2:=Aq E1 u3
 refine RD.callq (i:=24) (m' :=33554431) (W:=144115188042301440) (tk c0) rfl d0 (v:=.tuple #[.agg ((cs_TShare W0.1)).toArray,vI W0.2]) (fst:=[]) (cap:=[]) (.yes rfl rfl) body20 rfl (e4 rfl rfl rfl rfl) (fun w9 hw9=>minority_Index_c n _ w9 (g0.hL0 hL hw9) y1 (g0.kd Y2 hw9) ([(0:Int),(0:Int),(1:Int)]:List Int) (g0.kd Z2 hw9) (2:Int) (0:Int) X3) rfl<|RD.vP 25 67108863 c0 rfl d0 (.yes rfl rfl) (fun _=>Ah rfl rfl) rfl<|RD.vP 26 134217727 c0 rfl d0 (.yes rfl rfl) (fun _=>Ah rfl rfl) rfl ?_
 obtain ⟨z4,Y3,h⟩:=bi h
 refine RD.callq (i:=27) (m' :=268435455) (W:=144115187807420416) (tk c0) rfl d0 (v:=.bool z4) (fst:=[]) (cap:=[vP A0,vP B0]) (.yes rfl rfl) body70 rfl (e2 rfl rfl) (fun w9 hw9=>wardmotelaw29_is_1_c n _ w9 (g0.hL0 hL hw9) W0.1 W0.2 (20:Int) (fun j9 v9 h9=>hw9.cell0 ((g0.memA .hd) j9 v9 h9)) (77:Int) (fun j9 v9 h9=>hw9.cell0 ((g0.memA (.tl .hd)) j9 v9 h9)) Y3) rfl<|Ag 28 536870911 c0 rfl d0 (fun _=>BL rfl rfl) rfl<|Ag 29 1073741823 c0 rfl d0 (fun _=>Ak rfl) rfl<|RD.ifb (s:=62) rfl h (fun t2 h=>?_) (fun t2 h=>?_)
 obtain ⟨X0,Z3,h⟩:=bi h
 refine RD.callq (i:=30) (m' :=2147483647) (W:=144115177338437632) (tk c0) rfl d0 (v:=.agg ((cs_TShare X0)).toArray) (fst:=[]) (cap:=[]) (.yes rfl rfl) body10 rfl (e2 rfl rfl) (fun w9 hw9=>wardmotelaw29_of_c n _ w9 (g0.hL0 hL hw9) (14:Int) (9:Int) Z3) rfl ?_
 obtain ⟨Y0,b4,h⟩:=bi h
 refine RD.callq (i:=31) (m' :=4294967295) (W:=144115175190953984) (tk c0) rfl d0 (v:=.agg ((cs_TShare Y0)).toArray) (fst:=[]) (cap:=[]) (.yes rfl rfl) body10 rfl (e2 rfl rfl) (fun w9 hw9=>wardmotelaw29_of_c n _ w9 (g0.hL0 hL hw9) (-1:Int) (45:Int) b4) rfl<|RD.val (i:=33) (m' :=12884901887) (W:=144115170895986688) (tk c0) rfl d0 (.yes rfl rfl) (AA rfl (g0.memA (.tl (.tl (.tl (.tl (.tl (.tl .hd)))))))) rfl<|Bu 32 17179869183 c0 rfl (.yes rfl rfl) body26 rfl (e2 rfl rfl) (fun w9 hw9=>Calls.gives (wardmotelaw29_line_c n _ w9 (g0.hL hL hw9) X0 Y0) fun (w8:World) (u8:Value) ⟨b0_,b1_,hu_,s_⟩=>(⟨b0_,b1_,hu_,s_.from hw9⟩:∃ C0 D0:Nat,u8 = Value.func (.func 71) #[] #[vP C0,vP D0]∧St u4 w8 [.cells C0 (cs_TShare X0) 53,.cells D0 (cs_TShare Y0) 53])) rfl (fun v4 Y4 J4 ⟨C0,D0,K3,Z1⟩=>?_)
 subst K3
 have k0:=mk_push2 g0 Z1
 have P1:=mk_tr2 g0 Z1
 obtain ⟨x0,c4,h⟩:=bi h
 have b3:=Aq u0 (Tt D1 P1)
 refine RD.callq (i:=34) (m' :=34359738367) (W:=144115153716117504) (tk c0) rfl d0 (v:=.tuple #[.agg ((cs_TShare x0.1)).toArray,.agg ((cs_TShare x0.2.1)).toArray,vI x0.2.2]) (fst:=[]) (cap:=[]) (.yes rfl rfl) body23 rfl (e3 rfl rfl rfl) (fun w9 hw9=>minority_Line_c n _ w9 (k0.hL0 hL hw9) y1 (k0.kd b3 hw9) (0:Int) (0:Int) c4) rfl<|RD.vP 35 68719476735 c0 rfl d0 (.yes rfl rfl) (fun _=>Ah rfl rfl) rfl<|RD.vP 36 137438953471 c0 rfl d0 (.yes rfl rfl) (fun _=>Ah rfl rfl) rfl<|RD.vP 37 274877906943 c0 rfl d0 (.yes rfl rfl) (fun _=>Ah rfl rfl) rfl ?_
 obtain ⟨A4,d4,h⟩:=bi h
 refine RD.callq (i:=38) (m' :=549755813887) (W:=144114638320041984) (tk c0) rfl d0 (v:=.bool A4) (fst:=[]) (cap:=[vP C0,vP D0]) (.yes rfl rfl) body71 rfl (e3 rfl rfl rfl) (fun w9 hw9=>wardmotelaw29_line_1_c n _ w9 (k0.hL0 hL hw9) x0.1 x0.2.1 x0.2.2 X0 (fun j9 v9 h9=>hw9.cell0 ((k0.memA .hd) j9 v9 h9)) Y0 (fun j9 v9 h9=>hw9.cell0 ((k0.memA (.tl .hd)) j9 v9 h9)) d4) rfl<|Ag 39 1099511627775 c0 rfl d0 (fun _=>BL rfl rfl) rfl<|Ag 40 2199023255551 c0 rfl d0 (fun _=>Ak rfl) rfl<|RD.ifb (s:=73) rfl h (fun u2 h=>?_) (fun u2 h=>?_)
 refine RD.val (i:=42) (m' :=6597069766655) (W:=144106391982833664) (tk c0) rfl d0 (.yes rfl rfl) (AA rfl (k0.memA (.tl (.tl (.tl (.tl (.tl (.tl (.tl (.tl .hd)))))))))) rfl<|Bu 41 8796093022207 c0 rfl (.yes rfl rfl) body25 rfl (e2 rfl rfl) (fun w9 hw9=>Calls.gives (wardmotelaw29_is_c n _ w9 (k0.hL hL hw9) (49:Int) (51:Int)) fun (w8:World) (u8:Value) ⟨b0_,b1_,hu_,s_⟩=>(⟨b0_,b1_,hu_,s_.from hw9⟩:∃ E0 F0:Nat,u8 = Value.func (.func 70) #[] #[vP E0,vP F0]∧St v4 w8 [.cells E0 [vI 49] 3,.cells F0 [vI 51] 3])) rfl (fun k5 Z4 K4 ⟨E0,F0,M3,b2⟩=>?_)
 subst M3
 have s0:=mk_push2 k0 b2
 have D2:=mk_tr2 k0 b2
 obtain ⟨Z0,g4,h⟩:=bi h
 have v3:=Tt D1 (Tt P1 D2)
 have c3:=Aq u0 v3
 refine RD.callq (i:=43) (m' :=17592186044415) (W:=144097595889811456) (tk c0) rfl d0 (v:=.tuple #[.agg ((cs_TShare Z0.1)).toArray,vI Z0.2]) (fst:=[]) (cap:=[]) (.yes rfl rfl) body27 rfl (e3 rfl rfl rfl) (fun w9 hw9=>minority_Fit_c n _ w9 (s0.hL0 hL hw9) y1 (s0.kd c3 hw9) (0:Int) (0:Int) g4) rfl<|RD.vP 44 35184372088831 c0 rfl d0 (.yes rfl rfl) (fun _=>Ah rfl rfl) rfl<|RD.vP 45 70368744177663 c0 rfl d0 (.yes rfl rfl) (fun _=>Ah rfl rfl) rfl ?_
 obtain ⟨B4,j4,h⟩:=bi h
 refine RD.callq (i:=46) (m' :=140737488355327) (W:=143974450587500544) (tk c0) rfl d0 (v:=.bool B4) (fst:=[]) (cap:=[vP E0,vP F0]) (.yes rfl rfl) body70 rfl (e2 rfl rfl) (fun w9 hw9=>wardmotelaw29_is_1_c n _ w9 (s0.hL0 hL hw9) Z0.1 Z0.2 (49:Int) (fun j9 v9 h9=>hw9.cell0 ((s0.memA .hd) j9 v9 h9)) (51:Int) (fun j9 v9 h9=>hw9.cell0 ((s0.memA (.tl .hd)) j9 v9 h9)) j4) rfl<|Ag 47 281474976710655 c0 rfl d0 (fun _=>BL rfl rfl) rfl<|Ag 48 562949953421311 c0 rfl d0 (fun _=>Ak rfl) rfl<|RD.ifb (s:=81) rfl h (fun v2 h=>?_) (fun v2 h=>?_)
 refine RD.vP 49 1125899906842623 c0 rfl d0 (.yes rfl rfl) (fun _=>Ak rfl) rfl<|RD.vP 50 2251799813685247 c0 rfl d0 (.yes rfl rfl) (fun _=>FV.eql (i:=y0.2.2) (j:=2) rfl rfl) rfl<|Ag 51 4503599627370495 c0 rfl d0 (fun _=>BL rfl rfl) rfl<|Ag 52 9007199254740991 c0 rfl d0 (fun _=>Ak rfl) rfl<|RD.ifd (s:=85) rfl h (fun x2 h=>?_) (fun x2 h=>?_)
 refine RD.vP 53 18014398509481983 c0 rfl d0 (.yes rfl rfl) (fun _=>Ak rfl) rfl<|RD.vP 54 36028797018963967 c0 rfl d0 (.yes rfl rfl) (fun _=>FV.eql (i:=C4.2) (j:=2) rfl rfl) rfl<|Ag 55 72057594037927935 c0 rfl d0 (fun _=>BL rfl rfl) rfl<|Ag 56 144115188075855871 c0 rfl d0 (fun _=>Bi rfl) rfl<|AE (dk c0)<|Al rfl<|Bb hb0 Tryz.func5 rfl rfl ?_
 cases h
 exact s0.gv
 refine Bz 36028797018963967 2 [(53,86),(54,87)] (F:=[(85,false)]) (U:=[]) c0 d0 (.cons rfl .nil) .nil ?_
 dsimp only [offS,List.map]
 refine Ag 55 72057594037927935 c0 rfl d0 (fun _=>Bs rfl rfl) rfl<|Ag 56 144115188075855871 c0 rfl d0 (fun _=>Bi rfl) rfl<|AE (dk c0)<|Al rfl<|Bb hb0 Tryz.func5 rfl rfl ?_
 cases h
 exact s0.gv
 refine Bz 2251799813685247 6 [(49,82),(50,83)] (F:=[(81,false)]) (U:=[]) c0 d0 (.cons rfl .nil) .nil ?_
 dsimp only [offS,List.map]
 refine Ag 51 4503599627370495 c0 rfl d0 (fun _=>Bs rfl rfl) rfl<|Ag 52 9007199254740991 c0 rfl d0 (fun _=>Ak rfl) rfl<|Bz 36028797018963967 2 [(53,86),(54,87)] (F:=[(85,false)]) (U:=[]) c0 d0 (.cons rfl .nil) .nil ?_
 dsimp only [offS,List.map]
 refine Ag 55 72057594037927935 c0 rfl d0 (fun _=>Bs rfl rfl) rfl<|Ag 56 144115188075855871 c0 rfl d0 (fun _=>Bi rfl) rfl<|AE (dk c0)<|Al rfl<|Bb hb0 Tryz.func5 rfl rfl ?_
 cases h
 exact s0.gv
 refine Bz 140737488355327 10 [(41,74),(42,75),(43,76),(44,77),(45,78),(46,79)] (F:=[(73,false)]) (U:=[]) c0 d0 (.cons rfl .nil) .nil ?_
 dsimp only [offS,List.map]
 refine Ag 47 281474976710655 c0 rfl d0 (fun _=>Bs rfl rfl) rfl<|Ag 48 562949953421311 c0 rfl d0 (fun _=>Ak rfl) rfl<|Bz 2251799813685247 6 [(49,82),(50,83)] (F:=[(81,false)]) (U:=[]) c0 d0 (.cons rfl .nil) .nil ?_
 dsimp only [offS,List.map]
 refine Ag 51 4503599627370495 c0 rfl d0 (fun _=>Bs rfl rfl) rfl<|Ag 52 9007199254740991 c0 rfl d0 (fun _=>Ak rfl) rfl<|Bz 36028797018963967 2 [(53,86),(54,87)] (F:=[(85,false)]) (U:=[]) c0 d0 (.cons rfl .nil) .nil ?_
 dsimp only [offS,List.map]
 refine Ag 55 72057594037927935 c0 rfl d0 (fun _=>Bs rfl rfl) rfl<|Ag 56 144115188075855871 c0 rfl d0 (fun _=>Bi rfl) rfl<|AE (dk c0)<|Al rfl<|Bb hb0 Tryz.func5 rfl rfl ?_
 cases h
 exact k0.gv
 refine Bz 549755813887 18 [(30,63),(31,64),(32,65),(33,66),(34,67),(35,68),(36,69),(37,70),(38,71)] (F:=[(62,false)]) (U:=[]) c0 d0 (.cons rfl .nil) .nil ?_
 dsimp only [offS,List.map]
 refine Ag 39 1099511627775 c0 rfl d0 (fun _=>Bs rfl rfl) rfl<|Ag 40 2199023255551 c0 rfl d0 (fun _=>Ak rfl) rfl<|Bz 140737488355327 10 [(41,74),(42,75),(43,76),(44,77),(45,78),(46,79)] (F:=[(73,false)]) (U:=[]) c0 d0 (.cons rfl .nil) .nil ?_
 dsimp only [offS,List.map]
 refine Ag 47 281474976710655 c0 rfl d0 (fun _=>Bs rfl rfl) rfl<|Ag 48 562949953421311 c0 rfl d0 (fun _=>Ak rfl) rfl<|Bz 2251799813685247 6 [(49,82),(50,83)] (F:=[(81,false)]) (U:=[]) c0 d0 (.cons rfl .nil) .nil ?_
 dsimp only [offS,List.map]
 refine Ag 51 4503599627370495 c0 rfl d0 (fun _=>Bs rfl rfl) rfl<|Ag 52 9007199254740991 c0 rfl d0 (fun _=>Ak rfl) rfl<|Bz 36028797018963967 2 [(53,86),(54,87)] (F:=[(85,false)]) (U:=[]) c0 d0 (.cons rfl .nil) .nil ?_
 dsimp only [offS,List.map]
 refine Ag 55 72057594037927935 c0 rfl d0 (fun _=>Bs rfl rfl) rfl<|Ag 56 144115188075855871 c0 rfl d0 (fun _=>Bi rfl) rfl<|AE (dk c0)<|Al rfl<|Bb hb0 Tryz.func5 rfl rfl ?_
 cases h
 exact g0.gv
 refine Bz 268435455 29 [(21,54),(22,55),(23,56),(24,57),(25,58),(26,59),(27,60)] (F:=[(53,false)]) (U:=[]) c0 d0 (.cons rfl .nil) .nil ?_
 dsimp only [offS,List.map]
 refine Ag 28 536870911 c0 rfl d0 (fun _=>Bs rfl rfl) rfl<|Ag 29 1073741823 c0 rfl d0 (fun _=>Ak rfl) rfl<|Bz 549755813887 18 [(30,63),(31,64),(32,65),(33,66),(34,67),(35,68),(36,69),(37,70),(38,71)] (F:=[(62,false)]) (U:=[]) c0 d0 (.cons rfl .nil) .nil ?_
 dsimp only [offS,List.map]
 refine Ag 39 1099511627775 c0 rfl d0 (fun _=>Bs rfl rfl) rfl<|Ag 40 2199023255551 c0 rfl d0 (fun _=>Ak rfl) rfl<|Bz 140737488355327 10 [(41,74),(42,75),(43,76),(44,77),(45,78),(46,79)] (F:=[(73,false)]) (U:=[]) c0 d0 (.cons rfl .nil) .nil ?_
 dsimp only [offS,List.map]
 refine Ag 47 281474976710655 c0 rfl d0 (fun _=>Bs rfl rfl) rfl<|Ag 48 562949953421311 c0 rfl d0 (fun _=>Ak rfl) rfl<|Bz 2251799813685247 6 [(49,82),(50,83)] (F:=[(81,false)]) (U:=[]) c0 d0 (.cons rfl .nil) .nil ?_
 dsimp only [offS,List.map]
 refine Ag 51 4503599627370495 c0 rfl d0 (fun _=>Bs rfl rfl) rfl<|Ag 52 9007199254740991 c0 rfl d0 (fun _=>Ak rfl) rfl<|Bz 36028797018963967 2 [(53,86),(54,87)] (F:=[(85,false)]) (U:=[]) c0 d0 (.cons rfl .nil) .nil ?_
 dsimp only [offS,List.map]
 refine Ag 55 72057594037927935 c0 rfl d0 (fun _=>Bs rfl rfl) rfl<|Ag 56 144115188075855871 c0 rfl d0 (fun _=>Bi rfl) rfl<|AE (dk c0)<|Al rfl<|Bb hb0 Tryz.func5 rfl rfl ?_
 cases h
 exact q0.gv
 refine Bz 524287 38 [(10,43),(11,44),(12,45),(13,46),(14,47),(15,48),(16,49),(17,50),(18,51)] (F:=[(42,false)]) (U:=[]) c0 d0 (.cons rfl .nil) .nil ?_
 dsimp only [offS,List.map]
 refine Ag 19 1048575 c0 rfl d0 (fun _=>Bs rfl rfl) rfl<|Ag 20 2097151 c0 rfl d0 (fun _=>Ak rfl) rfl<|Bz 268435455 29 [(21,54),(22,55),(23,56),(24,57),(25,58),(26,59),(27,60)] (F:=[(53,false)]) (U:=[]) c0 d0 (.cons rfl .nil) .nil ?_
 dsimp only [offS,List.map]
 refine Ag 28 536870911 c0 rfl d0 (fun _=>Bs rfl rfl) rfl<|Ag 29 1073741823 c0 rfl d0 (fun _=>Ak rfl) rfl<|Bz 549755813887 18 [(30,63),(31,64),(32,65),(33,66),(34,67),(35,68),(36,69),(37,70),(38,71)] (F:=[(62,false)]) (U:=[]) c0 d0 (.cons rfl .nil) .nil ?_
 dsimp only [offS,List.map]
 refine Ag 39 1099511627775 c0 rfl d0 (fun _=>Bs rfl rfl) rfl<|Ag 40 2199023255551 c0 rfl d0 (fun _=>Ak rfl) rfl<|Bz 140737488355327 10 [(41,74),(42,75),(43,76),(44,77),(45,78),(46,79)] (F:=[(73,false)]) (U:=[]) c0 d0 (.cons rfl .nil) .nil ?_
 dsimp only [offS,List.map]
 refine Ag 47 281474976710655 c0 rfl d0 (fun _=>Bs rfl rfl) rfl<|Ag 48 562949953421311 c0 rfl d0 (fun _=>Ak rfl) rfl<|Bz 2251799813685247 6 [(49,82),(50,83)] (F:=[(81,false)]) (U:=[]) c0 d0 (.cons rfl .nil) .nil ?_
 dsimp only [offS,List.map]
 refine Ag 51 4503599627370495 c0 rfl d0 (fun _=>Bs rfl rfl) rfl<|Ag 52 9007199254740991 c0 rfl d0 (fun _=>Ak rfl) rfl<|Bz 36028797018963967 2 [(53,86),(54,87)] (F:=[(85,false)]) (U:=[]) c0 d0 (.cons rfl .nil) .nil ?_
 dsimp only [offS,List.map]
 refine Ag 55 72057594037927935 c0 rfl d0 (fun _=>Bs rfl rfl) rfl<|Ag 56 144115188075855871 c0 rfl d0 (fun _=>Bi rfl) rfl<|AE (dk c0)<|Al rfl<|Bb hb0 Tryz.func5 rfl rfl ?_
 cases h
 exact t0.gv
 refine Bz 255 49 [(3,36),(4,37),(5,38),(6,39),(7,40)] (F:=[(35,false)]) (U:=[]) c0 d0 (.cons rfl .nil) .nil ?_
 dsimp only [offS,List.map]
 refine Ag 8 511 c0 rfl d0 (fun _=>Bs rfl rfl) rfl<|Ag 9 1023 c0 rfl d0 (fun _=>Ak rfl) rfl<|Bz 524287 38 [(10,43),(11,44),(12,45),(13,46),(14,47),(15,48),(16,49),(17,50),(18,51)] (F:=[(42,false)]) (U:=[]) c0 d0 (.cons rfl .nil) .nil ?_
 dsimp only [offS,List.map]
 refine Ag 19 1048575 c0 rfl d0 (fun _=>Bs rfl rfl) rfl<|Ag 20 2097151 c0 rfl d0 (fun _=>Ak rfl) rfl<|Bz 268435455 29 [(21,54),(22,55),(23,56),(24,57),(25,58),(26,59),(27,60)] (F:=[(53,false)]) (U:=[]) c0 d0 (.cons rfl .nil) .nil ?_
 dsimp only [offS,List.map]
 refine Ag 28 536870911 c0 rfl d0 (fun _=>Bs rfl rfl) rfl<|Ag 29 1073741823 c0 rfl d0 (fun _=>Ak rfl) rfl<|Bz 549755813887 18 [(30,63),(31,64),(32,65),(33,66),(34,67),(35,68),(36,69),(37,70),(38,71)] (F:=[(62,false)]) (U:=[]) c0 d0 (.cons rfl .nil) .nil ?_
 dsimp only [offS,List.map]
 refine Ag 39 1099511627775 c0 rfl d0 (fun _=>Bs rfl rfl) rfl<|Ag 40 2199023255551 c0 rfl d0 (fun _=>Ak rfl) rfl<|Bz 140737488355327 10 [(41,74),(42,75),(43,76),(44,77),(45,78),(46,79)] (F:=[(73,false)]) (U:=[]) c0 d0 (.cons rfl .nil) .nil ?_
 dsimp only [offS,List.map]
 refine Ag 47 281474976710655 c0 rfl d0 (fun _=>Bs rfl rfl) rfl<|Ag 48 562949953421311 c0 rfl d0 (fun _=>Ak rfl) rfl<|Bz 2251799813685247 6 [(49,82),(50,83)] (F:=[(81,false)]) (U:=[]) c0 d0 (.cons rfl .nil) .nil ?_
 dsimp only [offS,List.map]
 refine Ag 51 4503599627370495 c0 rfl d0 (fun _=>Bs rfl rfl) rfl<|Ag 52 9007199254740991 c0 rfl d0 (fun _=>Ak rfl) rfl<|Bz 36028797018963967 2 [(53,86),(54,87)] (F:=[(85,false)]) (U:=[]) c0 d0 (.cons rfl .nil) .nil ?_
 dsimp only [offS,List.map]
 refine Ag 55 72057594037927935 c0 rfl d0 (fun _=>Bs rfl rfl) rfl<|Ag 56 144115188075855871 c0 rfl d0 (fun _=>Bi rfl) rfl<|AE (dk c0)<|Al rfl<|Bb hb0 Tryz.func5 rfl rfl ?_
 cases h
 exact Q0.gv
structure TDraft where
  fN:UInt8
  fH:List UInt8
  fMore:List (UInt8 × UInt8)
  fLabels:List UInt8
  fK:UInt8
  deriving DecidableEq
instance:Rep TDraft:=Rep.via (β:=UInt8 × (List UInt8) × (List (UInt8 × UInt8)) × (List UInt8) × UInt8) fun x=>(x.fN,x.fH,x.fMore,x.fLabels,x.fK)
def wardmoteref21_Draft_Units_p (_n:Nat) (a0:TDraft):Option Int:=
  some ((1 + ((a0.fN % (9:UInt8)).toNat):Nat):Int)
theorem wardmoteref21_Draft_Units_c (n:Nat) (L:List Nat) (w:World) (_hL:∀ b ∈ L,b < w.heap.size) (a0:TDraft) {v0_1:Value} (h0_1:Rep.R w L [v0_1] a0.fH) {v0_2:Value} (h0_2:Rep.R w L [v0_2] a0.fMore) {v0_3:Value} (h0_3:Rep.R w L [v0_3] a0.fLabels)  {r:Int} (h:wardmoteref21_Draft_Units_p n a0 = some r) :
    Calls Tryz.prog 28 #[.agg #[.int .u8 (a0.fN.toNat:Int),v0_1,v0_2,v0_3,.int .u8 (a0.fK.toNat:Int)]] w (Gives w fun _ u=>u = vI r):=by
 unfold wardmoteref21_Draft_Units_p at h
 have hS0:=Ay w
 refine AD Tryz.func28 rfl rfl rfl (fun _ cs0 hb0=>?_)
 refine Ac<|Ai .plain rfl (Av hS0 rfl rfl) (fun j0 c0 b0 d0=>?_)
 refine Af rfl<|Aa<|Ac<|AZ 0 rfl<|AY rfl ((b0.memA .hd) 0 _ rfl)<|Ab (FV.rem8 (a:=a0.fN) (b:=(9:UInt8)) rfl rfl (by decide)) ?_
 have g0:=(a0.fN % (9:UInt8)).toNat_lt
 refine Ab (FV.convN (i:=(a0.fN % (9:UInt8)).toNat) Tryz.underlying5 Tryz.underlying3 rfl (by omega))<|Ab (Bl (i:=1) (j:=(a0.fN % (9:UInt8)).toNat) rfl rfl (by omega))<|Af rfl<|Aa<|Al rfl<|Bb hb0 Tryz.func28 rfl rfl ?_
 cases h
 exact b0.gv
def wardmoteref21_Draft_label_p (_n:Nat) (a0:TDraft) (a1:Int):Option Int:=
  (if a1 < ((a0.fLabels.length:Nat):Int) then (idx a0.fLabels a1).bind fun b0=>some ((b0.toNat:Nat):Int) else some (0:Int))
theorem wardmoteref21_Draft_label_c (n:Nat) (L:List Nat) (w:World) (_hL:∀ b ∈ L,b < w.heap.size) (a0:TDraft) {v0_1:Value} (h0_1:Rep.R w L [v0_1] a0.fH) {v0_2:Value} (h0_2:Rep.R w L [v0_2] a0.fMore) {v0_3:Value} (h0_3:Rep.R w L [v0_3] a0.fLabels) (a1:Int)  {r:Int} (h:wardmoteref21_Draft_label_p n a0 a1 = some r) :
    Calls Tryz.prog 29 #[.agg #[.int .u8 (a0.fN.toNat:Int),v0_1,v0_2,v0_3,.int .u8 (a0.fK.toNat:Int)],vI a1] w (Gives w fun _ u=>u = vI r):=by
 unfold wardmoteref21_Draft_label_p at h
 have hS0:=Ay w
 refine AD Tryz.func29 rfl rfl rfl (fun _ cs0 hb0=>?_)
 refine Ac<|Ai .plain rfl (Av hS0 rfl rfl) (fun E0 z0 b0 B0=>?_)
 refine Af rfl<|Aa<|Aj<|Ac<|Ae rfl<|AZ 3 rfl<|AY rfl ((b0.memA .hd) 3 _ rfl) ?_
 have c0:=AO h0_3 b0
 have C0:a0.fLabels.length ≤ 281474976710656:=AU c0
 refine Ab (Bd (xs:=a0.fLabels) Tryz.underlying22 rfl c0)<|Ab (FV.lss (i:=a1) (j:=((a0.fLabels.length:Nat):Int)) rfl rfl)<|Aa<|AV rfl h (fun g0 h=>?_) (fun g0 h=>?_)
 refine Ac<|AZ 3 rfl<|AY rfl ((b0.memA .hd) 3 _ rfl)<|Ae rfl ?_
 obtain ⟨d0,v0,h⟩:=bi h
 obtain ⟨q0,x0⟩:=idx_in v0
 obtain ⟨y0,A0,k0,s0,j0,u0,t0⟩:=Bk c0 x0
 have p0:j0 = [.int .u8 (d0.toNat:Int)]:=u0; subst p0
 refine Ab (Bp 1 (a1.toNat) rfl k0 rfl q0 s0)<|AY rfl (t0 0 _ rfl) ?_
 have D0:=d0.toNat_lt
 refine Ab (FV.convN (i:=d0.toNat) Tryz.underlying5 Tryz.underlying3 rfl (by omega))<|Af rfl<|Aa<|Al rfl<|Bb hb0 Tryz.func29 rfl rfl ?_
 cases h
 exact b0.gv
 refine Au<|Ac<|Af rfl<|Aa<|Al rfl<|Bb hb0 Tryz.func29 rfl rfl ?_
 cases h
 exact b0.gv
def wardmoteref21_Labels_l1 (_n:Nat) (a0:List Int) (a1:Int) (d0:Nat → Option (Bool ⊕ Unit)):Nat → Option (Bool ⊕ Unit)
  | b0=>(if b0 < a0.length then (a0[b0]?).bind fun c0=>(if c0 < 0 then some (.inl false) else (if a1 ≤ c0 then some (.inl false) else d0 (b0 + 1))) else some (.inr ()))
def wardmoteref21_Labels_p (n:Nat) (a0:List Int) (a1:Int):Option Bool:=
  thn (loopF (wardmoteref21_Labels_l1 n a0 a1) n 0) (fun _=>(if 1 ≤ a0.length then some (decide (a0.length ≤ 64)) else some false))
theorem wardmoteref21_Labels_c (n:Nat) (L:List Nat) (w:World) (_hL:∀ b ∈ L,b < w.heap.size) (a0:List Int) {v0_0:Value} (h0_0:Rep.R w L [v0_0] a0) (a1:Int)  {r:Bool} (h:wardmoteref21_Labels_p n a0 a1 = some r) :
    Calls Tryz.prog 73 #[v0_0,vI a1] w (Gives w fun _ u=>u = .bool r):=by
 unfold wardmoteref21_Labels_p at h
 have hS0:=Ay w
 refine AD Tryz.func73 rfl rfl rfl (fun _ cs0 hb0=>?_)
 refine Ac<|Af rfl<|Aa<|Aj<|Ac<|Af rfl<|Aa<|Az ?_
 obtain ⟨J0,C0,g0⟩:=thn_in h
 refine Bm (α:=Nat) (fun b0=>[(0,v0_0),(1,vI a1),(5,vI ((b0:Nat):Int))]) (fun b0 j0=>St w j0 []∧Tr w [] j0 []) (fun b0=>b0) 0 C0 ⟨rfl,rfl,rfl,trivial⟩ ⟨hS0,AQ _ _⟩ ?_
 rintro G0 b0 j0 z0 ⟨c0,A0⟩ h
 unfold wardmoteref21_Labels_l1 at h
 try dsimp only at h
 refine Aj<|Ac<|Ae rfl<|Ae rfl ?_
 have d0:=AO h0_0 c0
 have I0:a0.length ≤ 281474976710656:=AU d0
 refine Ab (Bd (xs:=a0) Tryz.underlying33 rfl d0)<|Ab (Br (i:=b0) (j:=a0.length) rfl rfl)<|Aa<|AV rfl h (fun t0 h=>?_) (fun t0 h=>?_)
 refine Au<|Aj<|Az<|Ac<|Ae rfl<|Ae rfl ?_
 obtain ⟨k0,E0,h⟩:=bi h
 obtain ⟨F0,H0,p0,q0,y0,D0,s0⟩:=Bk d0 E0
 have B0:y0 = [vI k0]:=D0; subst B0
 refine Ab (Bp 1 b0 rfl p0 rfl rfl q0)<|AY rfl (s0 0 _ rfl)<|Ab (FV.lss (i:=k0) (j:=0) rfl rfl)<|Ae rfl<|RG.ifd (s:=17) rfl h (fun u0 h=>?_) (fun u0 h=>?_)
 refine AI<|AI<|AI<|AI<|AI<|AI<|BI rfl rfl<|Aa<|Bh rfl<|Ac<|Af rfl<|Aa ?_
 have h:=thn_inl h g0
 refine Al rfl<|Bb hb0 Tryz.func73 rfl rfl ?_
 cases h
 exact c0.gv
 refine AS (Ak rfl)<|AS (Ak rfl)<|AS (Bp 1 b0 rfl p0 rfl rfl q0)<|AS (AL rfl (s0 0 _ rfl))<|AS (Ak rfl)<|AS (FV.geq (i:=k0) (j:=a1) rfl rfl)<|RG.pf rfl rfl<|Aa<|AV rfl h (fun v0 h=>?_) (fun v0 h=>?_)
 refine Ac<|Af rfl<|Aa ?_
 have h:=thn_inl h g0
 refine Al rfl<|Bb hb0 Tryz.func73 rfl rfl ?_
 cases h
 exact c0.gv
 refine Au<|AB<|Ao<|Ae rfl<|Ab (Bl (i:=b0) (j:=1) rfl rfl (by omega))<|Af rfl<|Aa ?_
 exact z0 (b0 + 1) _ _ ⟨rfl,rfl,rfl,trivial⟩ ⟨c0,A0⟩ h
 refine Be rfl ?_
 have h:=thn_inr h g0
 try dsimp only at h
 refine Ac<|Ae rfl<|Ab (Bd (xs:=a0) Tryz.underlying33 rfl d0)<|Ab (FV.geqN (i:=a0.length) (j:=1) rfl rfl)<|Ae rfl<|RG.ifd (s:=28) rfl h (fun x0 h=>?_) (fun x0 h=>?_)
 refine AS (Ak rfl)<|AS (Bd (xs:=a0) Tryz.underlying33 rfl d0)<|AS (FV.leqN (i:=a0.length) (j:=64) rfl rfl)<|BI rfl rfl<|Af rfl<|Aa<|Al rfl<|Bb hb0 Tryz.func73 rfl rfl ?_
 cases h
 exact c0.gv
 refine AI<|AI<|AI<|RG.pf rfl rfl<|Af rfl<|Aa<|Al rfl<|Bb hb0 Tryz.func73 rfl rfl ?_
 cases h
 exact c0.gv
theorem body73:bodyB Tryz.prog 73 = true:=by kernel_rfl
def wardmoteref21_Canon_l1 (_n:Nat) (a0:List Int) (q0:Int × Nat × (List Int) × (List Int) → Option (List Int)):Int × Nat × (List Int) × (List Int) → Option (List Int)
  | (g0,b0,k0,d0)=>(if b0 < a0.length then (a0[b0]?).bind fun c0=>(idx d0 c0).bind fun t0=>jn (fun (y0,p0)=>(idx p0 c0).bind fun u0=>(app k0 ([u0]:List Int)).bind fun v0=>q0 (y0,b0 + 1,v0,p0)) (fun j0=>(if t0 < 0 then (put d0 ((c0.toNat:Nat):Int) g0).bind fun x0=>(chk (g0 + 1)).bind fun s0=>j0 (s0,x0) else j0 (g0,d0))) else some k0)
def wardmoteref21_Canon_p (n:Nat) (a0:List Int):Option ((List Int) × Int):=
  (wardmoteref21_Labels_p n a0 (8:Int)).bind fun y1=>(if y1 = true then Option.bind (loopF (wardmoteref21_Canon_l1 n a0) n (0,0,([]:List Int),([(-1:Int),(-1:Int),(-1:Int),(-1:Int),(-1:Int),(-1:Int),(-1:Int),(-1:Int)]:List Int))) (fun b0=>some (b0,(0:Int))) else some (([]:List Int),(210:Int)))
theorem wardmoteref21_Canon_c (n:Nat) (L:List Nat) (w:World) (hL:∀ b ∈ L,b < w.heap.size) (a0:List Int) {v0_0:Value} (h0_0:Rep.R w L [v0_0] a0)  {r:(List Int) × Int} (h:wardmoteref21_Canon_p n a0 = some r) :
    Calls Tryz.prog 30 #[v0_0] w (Gives w fun w' u=>∃ v0_0:Value,u = .tuple #[v0_0,vI r.2]∧Rep.R w' L [v0_0] r.1):=by
 unfold wardmoteref21_Canon_p at h
 have hS0:=Ay w
 refine AD Tryz.func30 rfl rfl rfl (fun _ cs0 hb0=>?_)
 refine Ac<|Af rfl<|Af rfl<|Aa<|Aj<|Ac<|Ae rfl ?_
 obtain ⟨y1,hy1,h⟩:=bi h
 refine Bg (.bool y1) body73 rfl (e2 rfl rfl) (fun w9 hw9=>wardmoteref21_Labels_c n _ w9 (hS0.hL0 hL hw9) a0 (hS0.kd h0_0 hw9) (8:Int) hy1) rfl<|Ab (BG rfl)<|Aa<|MX.ifnb rfl h (fun c2 h=>?_) (fun c2 h=>?_)
 refine Au<|Ac<|Ai .plain rfl (Ba (α:=Int) (xs:=([(-1:Int),(-1:Int),(-1:Int),(-1:Int),(-1:Int),(-1:Int),(-1:Int),(-1:Int)]:List Int)) (vs:=[vI (-1),vI (-1),vI (-1),vI (-1),vI (-1),vI (-1),vI (-1),vI (-1)]) (ds' :=[vI (-1),vI (-1),vI (-1),vI (-1),vI (-1),vI (-1),vI (-1),vI (-1)]) rfl hS0 el32 rfl (e8 rfl rfl rfl rfl rfl rfl rfl rfl) (by kernel_rfl) rfl) (fun U2 j0 D0 s3=>?_)
 have M1:=AH (cs:=[vI (-1),vI (-1),vI (-1),vI (-1),vI (-1),vI (-1),vI (-1),vI (-1)]) (xs:=(([(-1:Int),(-1:Int),(-1:Int),(-1:Int),(-1:Int),(-1:Int),(-1:Int),(-1:Int)]:List Int):List Int)) D0 L (Ax (cs:=[vI (-1)]) (ds:=[vI (-1),vI (-1),vI (-1),vI (-1),vI (-1),vI (-1),vI (-1)]) rfl (Ax (cs:=[vI (-1)]) (ds:=[vI (-1),vI (-1),vI (-1),vI (-1),vI (-1),vI (-1)]) rfl (Ax (cs:=[vI (-1)]) (ds:=[vI (-1),vI (-1),vI (-1),vI (-1),vI (-1)]) rfl (Ax (cs:=[vI (-1)]) (ds:=[vI (-1),vI (-1),vI (-1),vI (-1)]) rfl (Ax (cs:=[vI (-1)]) (ds:=[vI (-1),vI (-1),vI (-1)]) rfl (Ax (cs:=[vI (-1)]) (ds:=[vI (-1),vI (-1)]) rfl (Ax (cs:=[vI (-1)]) (ds:=[vI (-1)]) rfl (Ax (cs:=[vI (-1)]) (ds:=[]) rfl (AT _ _)))))))))
 refine Af rfl<|Aa<|Ac<|Af rfl<|Aa<|Ac<|Af rfl<|Aa<|Aj<|Ac<|Af rfl<|Aa<|Az ?_
 have M0:=D0.nilRow 3 (Rep.size Int)
 have H1:=St.nilRowT D0 3 (Rep.size Int)
 have P1:=AH (cs:=[]) (xs:=([]:List Int)) M0 L (AT _ _)
 have k2:=AR M1 H1
 obtain ⟨v3,y2,d2⟩:=bind_in2 h
 refine Bm (α:=Int × Nat × (List Int) × (List Int) × Value × (List Value) × (List Value)) (fun ⟨v0,g0,c0,k0,b0,d0,p0⟩=>[(0,v0_0),(4,(vS j0 8)),(5,vI v0),(6,b0),(7,vI ((g0:Nat):Int))]) (fun ⟨v0,g0,c0,k0,b0,d0,p0⟩ x0=>St w x0 [.row w.heap.size 3 (Rep.size Int) b0 c0.length d0,.row w.heap.size 3 (Rep.size Int) (vS j0 8) k0.length p0]∧Tr U2 [.row w.heap.size 3 (Rep.size Int) vN (([]:List Int).length) [],.row w.heap.size 3 (Rep.size Int) (vS j0 8) (([(-1:Int),(-1:Int),(-1:Int),(-1:Int),(-1:Int),(-1:Int),(-1:Int),(-1:Int)]:List Int).length) [vI (-1),vI (-1),vI (-1),vI (-1),vI (-1),vI (-1),vI (-1),vI (-1)]] x0 [.row w.heap.size 3 (Rep.size Int) b0 c0.length d0,.row w.heap.size 3 (Rep.size Int) (vS j0 8) k0.length p0]∧Cells x0 (bl [.row w.heap.size 3 (Rep.size Int) b0 c0.length d0,.row w.heap.size 3 (Rep.size Int) (vS j0 8) k0.length p0] ++ L) d0 c0∧Cells x0 (bl [.row w.heap.size 3 (Rep.size Int) b0 c0.length d0,.row w.heap.size 3 (Rep.size Int) (vS j0 8) k0.length p0] ++ L) p0 k0) (fun ⟨v0,g0,c0,k0,b0,d0,p0⟩=>(v0,g0,c0,k0)) (0,0,([]:List Int),([(-1:Int),(-1:Int),(-1:Int),(-1:Int),(-1:Int),(-1:Int),(-1:Int),(-1:Int)]:List Int),vN,[],[vI (-1),vI (-1),vI (-1),vI (-1),vI (-1),vI (-1),vI (-1),vI (-1)]) y2 ⟨rfl,rfl,rfl,rfl,rfl,trivial⟩ ⟨M0,AQ _ _,P1,k2⟩ ?_
 rintro Z2 ⟨v0,g0,c0,k0,b0,d0,p0⟩ x0 D1 ⟨t0,I1,U0,G0⟩ h
 unfold wardmoteref21_Canon_l1 at h
 try dsimp only at h
 refine Aj<|Ac<|Ae rfl<|Ae rfl ?_
 have J0:=AO h0_0 t0
 have u3:a0.length ≤ 281474976710656:=AU J0
 refine Ab (Bd (xs:=a0) Tryz.underlying33 rfl J0)<|Ab (Br (i:=g0) (j:=a0.length) rfl rfl)<|Aa<|AV rfl h (fun t1 h=>?_) (fun t1 h=>?_)
 refine Au<|Aj<|Az<|Aj<|Ac<|Ae rfl<|Ae rfl<|Ae rfl ?_
 obtain ⟨y0,g1,h⟩:=bi h
 obtain ⟨X2,d3,W0,Z0,v1,z2,c1⟩:=Bk J0 g1
 have V1:v1 = [vI y0]:=z2; subst V1
 refine Ab (Bp 1 g0 rfl W0 rfl rfl Z0)<|AY rfl (c1 0 _ rfl) ?_
 obtain ⟨j1,H2,h⟩:=bi h
 obtain ⟨Y0,I2⟩:=idx_in H2
 obtain ⟨k1,g3,B0,I0,x1,A2,p2⟩:=St.nth (α:=Int) t0 (.tl .hd) G0 I2
 obtain ⟨q1,j3,X0⟩:=St.nthOwn (α:=Int) t0 (.tl .hd) I0
 obtain rfl:k1 = ⟨q1,0,none⟩:=by rw [X0] at B0; cases B0; rfl
 have W1:x1 = [vI j1]:=A2; subst W1
 refine Ab (Bp 1 (y0.toNat) rfl B0 rfl Y0 I0)<|AY rfl (p2 0 _ rfl)<|Ab (FV.lss (i:=j1) (j:=0) rfl rfl)<|Aa<|MX.join (α:=Int × (List Int) × (List Value)) (fun ⟨z0,q0,s0⟩=>[(0,v0_0),(4,(vS j0 8)),(5,vI z0),(6,b0),(7,vI ((g0:Nat):Int))]) (fun ⟨z0,q0,s0⟩ C0=>St w C0 [.row w.heap.size 3 (Rep.size Int) b0 c0.length d0,.row w.heap.size 3 (Rep.size Int) (vS j0 8) q0.length s0]∧Tr x0 [.row w.heap.size 3 (Rep.size Int) b0 c0.length d0,.row w.heap.size 3 (Rep.size Int) (vS j0 8) k0.length p0] C0 [.row w.heap.size 3 (Rep.size Int) b0 c0.length d0,.row w.heap.size 3 (Rep.size Int) (vS j0 8) q0.length s0]∧Cells C0 (bl [.row w.heap.size 3 (Rep.size Int) b0 c0.length d0,.row w.heap.size 3 (Rep.size Int) (vS j0 8) q0.length s0] ++ L) s0 q0) (fun ⟨z0,q0,s0⟩=>(z0,q0)) h ?_ ?_
 rintro ⟨z0,q0,s0⟩ C0 ⟨A0,P0,V0⟩ h
 try dsimp only at h
 refine Ao<|Ae rfl<|Ae rfl<|Ae rfl<|Ae rfl ?_
 have s2:=AO h0_0 A0
 obtain ⟨Y2,k3,X1,j2,z1,B2,q2⟩:=Bk s2 g1
 have Y1:z1 = [vI y0]:=B2; subst Y1
 refine Ab (Bp 1 g0 rfl X1 rfl rfl j2)<|AY rfl (q2 0 _ rfl) ?_
 obtain ⟨u0,J2,h⟩:=bi h
 obtain ⟨g2,K2⟩:=idx_in J2
 obtain ⟨p1,p3,H0,b1,A1,C2,t2⟩:=St.nth (α:=Int) A0 (.tl .hd) V0 K2
 obtain ⟨s1,q3,Z1⟩:=St.nthOwn (α:=Int) A0 (.tl .hd) b1
 obtain rfl:p1 = ⟨s1,0,none⟩:=by rw [Z1] at H0; cases H0; rfl
 have b2:A1 = [vI u0]:=C2; subst b2
 refine Ab (Bp 1 (y0.toNat) rfl H0 rfl g2 b1)<|AY rfl (t2 0 _ rfl)<|Ai .plain rfl (Ba (α:=Int) (xs:=([u0]:List Int)) (vs:=[vI u0]) (ds' :=[vI u0]) rfl A0 el33 rfl (e1 rfl) (by kernel_rfl) rfl) (fun x3 c3 E0 Q0=>?_)
 have Q1:=AH (cs:=[vI u0]) (xs:=(([u0]:List Int):List Int)) E0 L (Ax (cs:=[vI u0]) (ds:=[]) rfl (AT _ _))
 obtain ⟨V2,M2,h⟩:=bi h
 have u2:=AR U0 (Tt P0 Q0)
 refine RG.doesL .plain rfl (DoesL.app (α:=Int) (ys:=([u0]:List Int)) M2 E0 (fun _ _=>(.tl .hd)) el33 rfl rfl u2 (Src.row (α:=Int) E0 .hd Q1)) (fun R2 y3 ⟨B1,E1,J1,R1⟩=>?_)
 refine Af rfl<|Aa<|AB<|Ao<|Ae rfl<|Ab (Bl (i:=g0) (j:=1) rfl rfl (by omega))<|Af rfl<|Aa ?_
 obtain ⟨F1,R0⟩:=AG E1 (.one (.tl .hd) (.one (.tl .hd) .done))
 have v2:=AR R1 R0
 have d1:=Tt Q0 (Tt J1 R0)
 have x2:=AR V0 d1
 exact D1 (z0,g0 + 1,V2,q0,R2,B1,s0) _ _ ⟨rfl,rfl,rfl,rfl,rfl,trivial⟩ ⟨F1,(Tt I1 (Tt P0 d1)),v2,x2⟩ h
 intro b3 K0 h
 try dsimp only at h
 refine AV rfl h (fun u1 h=>?_) (fun u1 h=>?_)
 refine Ac<|Ae rfl<|Ae rfl<|Ae rfl<|Ab (Bp 1 g0 rfl W0 rfl rfl Z0)<|AY rfl (c1 0 _ rfl)<|Ae rfl<|Ab (Bp 1 (y0.toNat) rfl B0 rfl Y0 I0) ?_
 obtain ⟨W2,P2,h⟩:=bi h
 refine RG.acts' .plain (Acts.set (α:=Int) (i:=y0.toNat) P2 t0 X0 (fun _=>(.tl .hd)) G0 rfl rfl rfl rfl rfl (by kernel_rfl)) (fun z3 ⟨C1,G1,K1,U1⟩=>?_)
 refine Aa<|Ao<|Ae rfl ?_
 obtain ⟨Q2,G2,h⟩:=bi h
 refine Ab (BD (i:=v0) (j:=1) rfl rfl G2)<|Af rfl<|Aa ?_
 exact K0 (Q2,W2,C1) _ _ ⟨rfl,rfl,rfl,rfl,rfl,trivial⟩ ⟨G1,K1,U1⟩ h
 refine Au ?_
 exact K0 (v0,k0,p0) _ _ ⟨rfl,rfl,rfl,rfl,rfl,trivial⟩ ⟨t0,AQ _ _,G0⟩ h
 refine Be rfl ?_
 have h:=d2 _ h
 try dsimp only at h
 refine Ac<|Ae rfl<|Af rfl<|Af rfl<|Aa<|Al rfl ?_
 have D2:=Bn (α:=Int) t0 .hd U0 hL
 have F0:=Bw t0 .hd
 have t3:=Bx t0 .hd
 have E2:=By (α:=Int) (v:=b0) (xs:=c0) F0 L D2
 refine Am hb0 Tryz.func30 rfl (.cons (.tmp rfl) (.cons (.tmp rfl) .nil)) rfl ?_
 cases h
 exact ⟨F0.ag,fun w9 hw9=>⟨b0,rfl,F0.kd E2 hw9⟩⟩
 refine Ac<|Af rfl<|Af rfl<|Aa<|Al rfl ?_
 have F2:=Rep.nilAt (α:=Int) hS0 L
 refine Am hb0 Tryz.func30 rfl (.cons (.tmp rfl) (.cons (.tmp rfl) .nil)) rfl ?_
 cases h
 exact ⟨hS0.ag,fun w9 hw9=>⟨vN,rfl,hS0.kd F2 hw9⟩⟩
def tb6_5:List (Nat × Nat × Nat):=[(0,16384,16),(0,32768,2),(0,65536,32),(6,131072,98304),(0,262144,2),(16,524288,262144),(32,1048576,524288),(64,2097152,1048576),(128,4194304,2097152),(264,8388608,4325376),(512,16777216,8388608),(1033,33554432,16793600),(4095,16,33554432)]
theorem body28:bodyB Tryz.prog 28 = true:=by kernel_rfl
theorem body29:bodyB Tryz.prog 29 = true:=by kernel_rfl
theorem body30:bodyB Tryz.prog 30 = true:=by kernel_rfl
def wardmoteref21_Draft_Loose_l1 (_n:Nat) (c0:(List Int) × Int) (g0:Int × Nat → Option Int):Int × Nat → Option Int
  | (d0,b0)=>(if b0 < c0.1.length then (c0.1[b0]?).bind fun k0=>(chk (k0 + 1)).bind fun j0=>g0 (max d0 j0,b0 + 1) else some d0)
def wardmoteref21_Draft_Loose_l2 (n:Nat) (a0:TDraft) (d0:Int × (List Int) → Option (List Int)):Int × (List Int) → Option (List Int)
  | (b0,c0)=>(wardmoteref21_Draft_Units_p n a0).bind fun p0=>(if b0 < p0 then (wardmoteref21_Draft_label_p n a0 b0).bind fun q0=>(remI q0 ((1 + ((a0.fK % (8:UInt8)).toNat):Nat):Int)).bind fun j0=>(app c0 ([j0]:List Int)).bind fun k0=>(chk (b0 + 1)).bind fun g0=>d0 (g0,k0) else some c0)
def wardmoteref21_Draft_Loose_p (n:Nat) (a0:TDraft):Option ((List Int) × Int):=
  Option.bind (loopF (wardmoteref21_Draft_Loose_l2 n a0) n (0,([]:List Int))) (fun c0=>(wardmoteref21_Canon_p n c0).bind fun b0=>Option.bind (loopF (wardmoteref21_Draft_Loose_l1 n b0) n (0,0)) (fun d0=>some (b0.1,d0)))
theorem wardmoteref21_Draft_Loose_c (n:Nat) (L:List Nat) (w:World) (hL:∀ b ∈ L,b < w.heap.size) (a0:TDraft) {v0_1:Value} (h0_1:Rep.R w L [v0_1] a0.fH) {v0_2:Value} (h0_2:Rep.R w L [v0_2] a0.fMore) {v0_3:Value} (h0_3:Rep.R w L [v0_3] a0.fLabels)  {r:(List Int) × Int} (h:wardmoteref21_Draft_Loose_p n a0 = some r) :
    Calls Tryz.prog 6 #[.agg #[.int .u8 (a0.fN.toNat:Int),v0_1,v0_2,v0_3,.int .u8 (a0.fK.toNat:Int)]] w (Gives w fun w' u=>∃ v0_0:Value,u = .tuple #[v0_0,vI r.2]∧Rep.R w' L [v0_0] r.1):=by
 unfold wardmoteref21_Draft_Loose_p at h
 have hS0:=Ay w
 refine AD Tryz.func6 rfl rfl rfl (fun _ cs0 hb0=>?_)
 refine Ac<|Ai .plain rfl (Av hS0 rfl rfl) (fun b2 v0 E0 u2=>?_)
 refine Af rfl<|Af rfl<|Aa<|Ac<|Af rfl<|Aa<|Aj<|Ac<|Af rfl<|Aa<|Az ?_
 have F0:=E0.nilRow 3 (Rep.size Int)
 have v2:=St.nilRowT E0 3 (Rep.size Int)
 have u1:=AH (cs:=[]) (xs:=([]:List Int)) F0 L (AT _ _)
 obtain ⟨A2,F1,z1⟩:=bind_in2 h
 refine Bm (α:=Int × (List Int) × Value × (List Value)) (fun ⟨q0,g0,p0,s0⟩=>[(1,vP v0),(4,p0),(5,vI q0)]) (fun ⟨q0,g0,p0,s0⟩ y0=>St w y0 [.row w.heap.size 3 (Rep.size Int) p0 g0.length s0,.cells v0 [.int .u8 (a0.fN.toNat:Int),v0_1,v0_2,v0_3,.int .u8 (a0.fK.toNat:Int)] 25]∧Tr b2 [.row w.heap.size 3 (Rep.size Int) vN (([]:List Int).length) [],.cells v0 [.int .u8 (a0.fN.toNat:Int),v0_1,v0_2,v0_3,.int .u8 (a0.fK.toNat:Int)] 25] y0 [.row w.heap.size 3 (Rep.size Int) p0 g0.length s0,.cells v0 [.int .u8 (a0.fN.toNat:Int),v0_1,v0_2,v0_3,.int .u8 (a0.fK.toNat:Int)] 25]∧Cells y0 (bl [.row w.heap.size 3 (Rep.size Int) p0 g0.length s0,.cells v0 [.int .u8 (a0.fN.toNat:Int),v0_1,v0_2,v0_3,.int .u8 (a0.fK.toNat:Int)] 25] ++ L) s0 g0) (fun ⟨q0,g0,p0,s0⟩=>(q0,g0)) (0,([]:List Int),vN,[]) F1 ⟨rfl,rfl,rfl,trivial⟩ ⟨F0,AQ _ _,u1⟩ ?_
 rintro k2 ⟨q0,g0,p0,s0⟩ y0 Z0 ⟨c0,p1,J0⟩ h
 unfold wardmoteref21_Draft_Loose_l2 at h
 try dsimp only at h
 refine Aj<|Ac<|Ae rfl<|Ab (AA rfl (c0.memA (.tl .hd))) ?_
 obtain ⟨Q0,W1,h⟩:=bi h
 refine Bg (vI Q0) body28 rfl (e1 rfl) (fun w9 hw9=>wardmoteref21_Draft_Units_c n _ w9 (c0.hL0 hL hw9) a0 (c0.k0 h0_1 hw9) (c0.k0 h0_2 hw9) (c0.k0 h0_3 hw9) W1) rfl<|Ab (FV.lss (i:=q0) (j:=Q0) rfl rfl)<|Aa<|AV rfl h (fun V0 h=>?_) (fun V0 h=>?_)
 refine Au<|Aj<|Az<|dt 11 tb6_5 (fun b0 d0=>?_)
 refine Ag 0 1 b0 rfl d0 (fun _=>Ak rfl) rfl<|AC 1 3 7688 b0 rfl d0 (AA rfl (c0.memA (.tl .hd))) rfl<|Ag 2 7 b0 rfl d0 (fun _=>Ak rfl) rfl ?_
 obtain ⟨R0,X1,h⟩:=bi h
 refine BA 3 15 7680 (vI R0) b0 rfl d0 body29 rfl (e2 rfl rfl) (fun w9 hw9=>wardmoteref21_Draft_label_c n _ w9 (c0.hL0 hL hw9) a0 (c0.k0 h0_1 hw9) (c0.k0 h0_2 hw9) (c0.k0 h0_3 hw9) q0 X1) rfl<|Ag 4 31 b0 rfl d0 (fun _=>AX 4 rfl) rfl<|AC 5 63 8128 b0 rfl d0 (AL rfl ((c0.memA (.tl .hd)) 4 _ rfl)) rfl<|Ag 6 127 b0 rfl d0 (fun _=>FV.rem8 (a:=a0.fK) (b:=(8:UInt8)) rfl rfl (by decide)) rfl ?_
 have y2:=(a0.fK % (8:UInt8)).toNat_lt
 refine Ag 7 255 b0 rfl d0 (fun _=>FV.convN (i:=(a0.fK % (8:UInt8)).toNat) Tryz.underlying5 Tryz.underlying3 rfl (by omega)) rfl<|Ag 8 511 b0 rfl d0 (fun _=>Bl (i:=1) (j:=(a0.fK % (8:UInt8)).toNat) rfl rfl (by omega)) rfl ?_
 obtain ⟨t0,Q1,h⟩:=bi h
 refine Ag 9 1023 b0 rfl d0 (fun _=>FV.remc (i:=R0) (j:=((1 + ((a0.fK % (8:UInt8)).toNat):Nat):Int)) rfl rfl Q1) rfl<|RD.nu 10 2047 b0 rfl .plain rfl (Ba (α:=Int) (xs:=([t0]:List Int)) (vs:=[vI t0]) (ds' :=[vI t0]) rfl c0 el33 rfl (e1 rfl) (by kernel_rfl) rfl) (fun D2 p2 z0 G0=>?_)
 have s1:=AH (cs:=[vI t0]) (xs:=(([t0]:List Int):List Int)) z0 L (Ax (cs:=[vI t0]) (ds:=[]) rfl (AT _ _))
 obtain ⟨d2,U1,h⟩:=bi h
 have B1:=AR J0 G0
 refine BC (i:=11) (rk b0) (RO.doesL (m' :=4095) (sk b0) rfl rfl .plain rfl (DoesL.app (α:=Int) (ys:=([t0]:List Int)) U1 z0 (fun _ _=>(.tl .hd)) el33 rfl rfl B1 (Src.row (α:=Int) z0 .hd s1)) (fun Z1 C2 ⟨W0,b1,j1,t1⟩=>?_))
 refine BC (i:=12) (rk b0) (BK (m' :=8191) (sk b0) rfl .plain rfl (Bi rfl) ?_)
 refine AE (dk b0)<|AB<|Ao<|Ae rfl ?_
 obtain ⟨Y1,M1,h⟩:=bi h
 refine Ab (BD (i:=q0) (j:=1) rfl rfl M1)<|Af rfl<|Aa ?_
 obtain ⟨c1,H0⟩:=AG b1 (.one (.tl .hd) (.one (.tl .hd) .done))
 have C1:=AR t1 H0
 have G1:=Tt G0 (Tt j1 H0)
 exact Z0 (Y1,d2,Z1,W0) _ _ ⟨rfl,rfl,rfl,trivial⟩ ⟨c1,(Tt p1 G1),C1⟩ h
 refine Be rfl ?_
 have h:=z1 _ h
 try dsimp only at h
 refine Ac<|Ae rfl ?_
 have H1:=Bn (α:=Int) c0 .hd J0 hL
 have A0:=Bw c0 .hd
 have s2:=Bx c0 .hd
 have I1:=By (α:=Int) (v:=p0) (xs:=g0) A0 L H1
 obtain ⟨D0,V1,h⟩:=bi h
 refine Bf (fst:=[]) (cap:=[]) .plain body30 rfl (e1 rfl) (fun w9 hw9=>wardmoteref21_Canon_c n _ w9 (A0.hL hL hw9) g0 (Ap I1 hw9) V1) rfl (fun c2 B2 q1 ⟨M0,hu_,J1⟩=>?_)
 subst hu_
 obtain ⟨d1,t2⟩:=A0.agr q1
 refine Ae rfl<|Ab (Ah rfl rfl)<|Ab (Ah rfl rfl)<|Af rfl<|Aa<|Ac<|Af rfl<|Aa<|Aj<|Ac<|Af rfl<|Aa<|Az ?_
 obtain ⟨g1,k1⟩:=AG d1 .done
 obtain ⟨z2,E1,y1⟩:=bind_in2 h
 refine Bm (α:=Int × Nat) (fun ⟨u0,j0⟩=>[(4,M0),(6,vI u0),(7,vI ((j0:Nat):Int))]) (fun ⟨u0,j0⟩ C0=>St w C0 []∧Tr c2 [] C0 []) (fun ⟨u0,j0⟩=>(u0,j0)) (0,0) E1 ⟨rfl,rfl,rfl,trivial⟩ ⟨g1,AQ _ _⟩ ?_
 rintro j2 ⟨u0,j0⟩ C0 Y0 ⟨B0,I0⟩ h
 unfold wardmoteref21_Draft_Loose_l1 at h
 try dsimp only at h
 refine Aj<|Ac<|Ae rfl<|Ae rfl ?_
 have x0:=Aq J1 (Tt k1 I0)
 have x2:D0.1.length ≤ 281474976710656:=AU x0
 refine Ab (Bd (xs:=D0.1) Tryz.underlying33 rfl x0)<|Ab (Br (i:=j0) (j:=D0.1.length) rfl rfl)<|Aa<|AV rfl h (fun U0 h=>?_) (fun U0 h=>?_)
 refine Au<|Aj<|Az<|Ao<|Ae rfl<|Ae rfl<|Ae rfl ?_
 obtain ⟨P0,R1,h⟩:=bi h
 obtain ⟨g2,q2,v1,A1,X0,K1,D1⟩:=Bk x0 R1
 have x1:X0 = [vI P0]:=K1; subst x1
 refine Ab (Bp 1 j0 rfl v1 rfl rfl A1)<|AY rfl (D1 0 _ rfl) ?_
 obtain ⟨K0,P1,h⟩:=bi h
 refine Ab (BD (i:=P0) (j:=1) rfl rfl P1)<|Ab (FV.max2 (i:=u0) (j:=K0) rfl rfl)<|Af rfl<|Aa<|AB<|Ao<|Ae rfl<|Ab (Bl (i:=j0) (j:=1) rfl rfl (by omega))<|Af rfl<|Aa ?_
 exact Y0 (max u0 K0,j0 + 1) _ _ ⟨rfl,rfl,rfl,trivial⟩ ⟨B0,I0⟩ h
 refine Be rfl ?_
 have h:=y1 _ h
 try dsimp only at h
 refine Ac<|Ae rfl<|Ae rfl<|Af rfl<|Af rfl<|Aa<|Al rfl<|Am hb0 Tryz.func6 rfl (.cons (.tmp rfl) (.cons (.tmp rfl) .nil)) rfl ?_
 cases h
 exact ⟨B0.ag,fun w9 hw9=>⟨M0,rfl,B0.kd x0 hw9⟩⟩
structure TDraft26 where
  fj:UInt8
  fh:UInt8
  fl:UInt8
  fq:UInt8
  fNums:List UInt8
  deriving DecidableEq
instance:Rep TDraft26:=Rep.via (β:=UInt8 × UInt8 × UInt8 × UInt8 × (List UInt8)) fun x=>(x.fj,x.fh,x.fl,x.fq,x.fNums)
def tb74_3:List (Nat × Nat × Nat):=[(0,512,4),(1,1024,512),(0,2048,2),(0,4096,4),(8,8192,4096),(16,16384,8192),(36,32768,18432),(66,65536,33792),(128,131072,65536),(256,262144,131072),(1023,16,262144)]
def wardmoteref22_Draft_num_p (_n:Nat) (a0:TDraft26) (a1:Int):Option Int:=
  (if a0.fNums.length = 0 then some (1:Int) else (remI a1 ((a0.fNums.length:Nat):Int)).bind fun b0=>(idx a0.fNums b0).bind fun c0=>some ((c0.toNat:Nat):Int))
theorem wardmoteref22_Draft_num_c (n:Nat) (L:List Nat) (w:World) (_hL:∀ b ∈ L,b < w.heap.size) (a0:TDraft26) {v0_4:Value} (h0_4:Rep.R w L [v0_4] a0.fNums) (a1:Int)  {r:Int} (h:wardmoteref22_Draft_num_p n a0 a1 = some r) :
    Calls Tryz.prog 74 #[.agg #[.int .u8 (a0.fj.toNat:Int),.int .u8 (a0.fh.toNat:Int),.int .u8 (a0.fl.toNat:Int),.int .u8 (a0.fq.toNat:Int),v0_4],vI a1] w (Gives w fun _ u=>u = vI r):=by
 unfold wardmoteref22_Draft_num_p at h
 have hS0:=Ay w
 refine AD Tryz.func74 rfl rfl rfl (fun _ cs0 hb0=>?_)
 refine Ac<|Ai .plain rfl (Av hS0 rfl rfl) (fun I0 D0 d0 F0=>?_)
 refine Af rfl<|Aa<|Aj<|Ac<|AZ 4 rfl<|AY rfl ((d0.memA .hd) 4 _ rfl) ?_
 have g0:=AO h0_4 d0
 have G0:a0.fNums.length ≤ 281474976710656:=AU g0
 refine Ab (Bd (xs:=a0.fNums) Tryz.underlying22 rfl g0)<|Ab (FV.eqlN (i:=a0.fNums.length) (j:=0) rfl rfl)<|Aa<|AV rfl h (fun k0 h=>?_) (fun k0 h=>?_)
 refine Ac<|Af rfl<|Aa<|Al rfl<|Bb hb0 Tryz.func74 rfl rfl ?_
 cases h
 exact d0.gv
 refine Au<|Aj<|dt 11 tb74_3 (fun b0 c0=>?_)
 refine Ag 0 1 b0 rfl c0 (fun _=>AX 4 rfl) rfl<|AC 1 3 1920 b0 rfl c0 (AL rfl ((d0.memA .hd) 4 _ rfl)) rfl<|Ag 2 7 b0 rfl c0 (fun _=>Ak rfl) rfl<|Ag 3 15 b0 rfl c0 (fun _=>AX 4 rfl) rfl<|AC 4 31 2016 b0 rfl c0 (AL rfl ((d0.memA .hd) 4 _ rfl)) rfl<|AC 5 63 1984 b0 rfl c0 (Bd (xs:=a0.fNums) Tryz.underlying22 rfl g0) rfl ?_
 obtain ⟨B0,y0,h⟩:=bi h
 refine Ag 6 127 b0 rfl c0 (fun _=>FV.remc (i:=a1) (j:=((a0.fNums.length:Nat):Int)) rfl rfl y0) rfl ?_
 obtain ⟨j0,z0,h⟩:=bi h
 obtain ⟨t0,A0⟩:=idx_in z0
 obtain ⟨C0,E0,q0,u0,p0,x0,v0⟩:=Bk g0 A0
 have s0:p0 = [.int .u8 (j0.toNat:Int)]:=x0; subst s0
 refine Ag 7 255 b0 rfl c0 (fun _=>Bp 1 (B0.toNat) rfl q0 rfl t0 u0) rfl<|AC 8 511 1536 b0 rfl c0 (AL rfl (v0 0 _ rfl)) rfl ?_
 have H0:=j0.toNat_lt
 refine Ag 9 1023 b0 rfl c0 (fun _=>FV.convN (i:=j0.toNat) Tryz.underlying5 Tryz.underlying3 rfl (by omega)) rfl<|Ag 10 2047 b0 rfl c0 (fun _=>Bi rfl) rfl<|AE (dk b0)<|Al rfl<|Bb hb0 Tryz.func74 rfl rfl ?_
 cases h
 exact d0.gv
theorem body74:bodyB Tryz.prog 74 = true:=by kernel_rfl
def wardmoteref22_Draft_list_l1 (n:Nat) (a1:Int) (a2:Int) (a0:TDraft26) (a3:Int) (d0:Int × (List Int) → Option (List Int)):Int × (List Int) → Option (List Int)
  | (b0,c0)=>(if b0 < a1 then (chk (a2 + b0)).bind fun j0=>(wardmoteref22_Draft_num_p n a0 j0).bind fun p0=>(app c0 ([min p0 a3]:List Int)).bind fun k0=>(chk (b0 + 1)).bind fun g0=>d0 (g0,k0) else some c0)
def wardmoteref22_Draft_list_p (n:Nat) (a0:TDraft26) (a1:Int) (a2:Int) (a3:Int):Option (List Int):=
  Option.bind (loopF (wardmoteref22_Draft_list_l1 n a1 a2 a0 a3) n (0,([]:List Int))) (fun b0=>some b0)
theorem wardmoteref22_Draft_list_c (n:Nat) (L:List Nat) (w:World) (hL:∀ b ∈ L,b < w.heap.size) (a0:TDraft26) {v0_4:Value} (h0_4:Rep.R w L [v0_4] a0.fNums) (a1:Int) (a2:Int) (a3:Int)  {r:List Int} (h:wardmoteref22_Draft_list_p n a0 a1 a2 a3 = some r) :
    Calls Tryz.prog 75 #[.agg #[.int .u8 (a0.fj.toNat:Int),.int .u8 (a0.fh.toNat:Int),.int .u8 (a0.fl.toNat:Int),.int .u8 (a0.fq.toNat:Int),v0_4],vI a1,vI a2,vI a3] w (Gives w fun w' u=>∃ v0_0:Value,u = v0_0∧Rep.R w' L [v0_0] r):=by
 unfold wardmoteref22_Draft_list_p at h
 have hS0:=Ay w
 refine AD Tryz.func75 rfl rfl rfl (fun _ cs0 hb0=>?_)
 refine Ac<|Ai .plain rfl (Av hS0 rfl rfl) (fun j1 q0 v0 u1=>?_)
 refine Af rfl<|Aa<|Ac<|Af rfl<|Aa<|Aj<|Ac<|Af rfl<|Aa<|Az ?_
 have x0:=v0.nilRow 3 (Rep.size Int)
 have v1:=St.nilRowT v0 3 (Rep.size Int)
 have I0:=AH (cs:=[]) (xs:=([]:List Int)) x0 L (AT _ _)
 obtain ⟨x1,R0,M0⟩:=bind_in2 h
 refine Bm (α:=Int × (List Int) × Value × (List Value)) (fun ⟨g0,c0,b0,j0⟩=>[(1,vI a1),(2,vI a2),(3,vI a3),(4,vP q0),(9,b0),(10,vI g0)]) (fun ⟨g0,c0,b0,j0⟩ s0=>St w s0 [.row w.heap.size 3 (Rep.size Int) b0 c0.length j0,.cells q0 [.int .u8 (a0.fj.toNat:Int),.int .u8 (a0.fh.toNat:Int),.int .u8 (a0.fl.toNat:Int),.int .u8 (a0.fq.toNat:Int),v0_4] 27]∧Tr j1 [.row w.heap.size 3 (Rep.size Int) vN (([]:List Int).length) [],.cells q0 [.int .u8 (a0.fj.toNat:Int),.int .u8 (a0.fh.toNat:Int),.int .u8 (a0.fl.toNat:Int),.int .u8 (a0.fq.toNat:Int),v0_4] 27] s0 [.row w.heap.size 3 (Rep.size Int) b0 c0.length j0,.cells q0 [.int .u8 (a0.fj.toNat:Int),.int .u8 (a0.fh.toNat:Int),.int .u8 (a0.fl.toNat:Int),.int .u8 (a0.fq.toNat:Int),v0_4] 27]∧Cells s0 (bl [.row w.heap.size 3 (Rep.size Int) b0 c0.length j0,.cells q0 [.int .u8 (a0.fj.toNat:Int),.int .u8 (a0.fh.toNat:Int),.int .u8 (a0.fl.toNat:Int),.int .u8 (a0.fq.toNat:Int),v0_4] 27] ++ L) j0 c0) (fun ⟨g0,c0,b0,j0⟩=>(g0,c0)) (0,([]:List Int),vN,[]) R0 ⟨rfl,rfl,rfl,rfl,rfl,rfl,trivial⟩ ⟨x0,AQ _ _,I0⟩ ?_
 rintro p1 ⟨g0,c0,b0,j0⟩ s0 D0 ⟨p0,G0,A0⟩ h
 unfold wardmoteref22_Draft_list_l1 at h
 try dsimp only at h
 refine Aj<|Ac<|Ae rfl<|Ae rfl<|Ab (FV.lss (i:=g0) (j:=a1) rfl rfl)<|Aa<|AV rfl h (fun B0 h=>?_) (fun B0 h=>?_)
 refine Au<|Aj<|Az<|Ao<|Ae rfl<|Ab (AA rfl (p0.memA (.tl .hd)))<|Ae rfl<|Ae rfl ?_
 obtain ⟨d1,Y0,h⟩:=bi h
 refine Ab (BD (i:=a2) (j:=g0) rfl rfl Y0) ?_
 obtain ⟨d0,b1,h⟩:=bi h
 refine Bg (vI d0) body74 rfl (e2 rfl rfl) (fun w9 hw9=>wardmoteref22_Draft_num_c n _ w9 (p0.hL0 hL hw9) a0 (p0.k0 h0_4 hw9) d1 b1) rfl<|Ae rfl<|Ab (FV.min2 (i:=d0) (j:=a3) rfl rfl)<|Ai .plain rfl (Ba (α:=Int) (xs:=([min d0 a3]:List Int)) (vs:=[vI (min d0 a3)]) (ds' :=[vI (min d0 a3)]) rfl p0 el32 rfl (e1 rfl) (by kernel_rfl) rfl) (fun y1 q1 u0 z0=>?_)
 have J0:=AH (cs:=[vI (min d0 a3)]) (xs:=(([min d0 a3]:List Int):List Int)) u0 L (Ax (cs:=[vI (min d0 a3)]) (ds:=[]) rfl (AT _ _))
 obtain ⟨k1,Z0,h⟩:=bi h
 have Q0:=AR A0 z0
 refine RG.doesL .plain rfl (DoesL.app (α:=Int) (ys:=([min d0 a3]:List Int)) Z0 u0 (fun _ _=>(.tl .hd)) el32 rfl rfl Q0 (Src.row (α:=Int) u0 .hd J0)) (fun g1 z1 ⟨C0,F0,H0,K0⟩=>?_)
 refine Af rfl<|Aa<|AB<|Ao<|Ae rfl ?_
 obtain ⟨c1,X0,h⟩:=bi h
 refine Ab (BD (i:=g0) (j:=1) rfl rfl X0)<|Af rfl<|Aa ?_
 obtain ⟨E0,y0⟩:=AG F0 (.one (.tl .hd) (.one (.tl .hd) .done))
 have P0:=AR K0 y0
 have U0:=Tt z0 (Tt H0 y0)
 exact D0 (c1,k1,g1,C0) _ _ ⟨rfl,rfl,rfl,rfl,rfl,rfl,trivial⟩ ⟨E0,(Tt G0 U0),P0⟩ h
 refine Be rfl ?_
 have h:=M0 _ h
 try dsimp only at h
 refine Ac<|Ae rfl<|Af rfl<|Aa<|Al rfl ?_
 have V0:=Bn (α:=Int) p0 .hd A0 hL
 have t0:=Bw p0 .hd
 have s1:=Bx p0 .hd
 have W0:=By (α:=Int) (v:=b0) (xs:=c0) t0 L V0
 refine Bb hb0 Tryz.func75 rfl rfl ?_
 cases h
 exact ⟨t0.ag,fun w9 hw9=>⟨b0,rfl,t0.kd W0 hw9⟩⟩
end Go.Proofs.YtichhhehkcfoaaaGreatDoor
