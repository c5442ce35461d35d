/- Functions of the program, and what they give: part 4. -/
import Derived.Test.YtfccehcnajelgaaGreatDoorSL3
namespace Go.Proofs.YtfccehcnajelgaaGreatDoor
open Go Go.RowKit
set_option maxRecDepth 4000
set_option maxHeartbeats 4000000

def tb128_6:List (Nat × Nat × Nat):=[(0,131072,32),(0,262144,8),(2,524288,262144),(1,0,131073),(15,0,524290)]
theorem op_TShare {w:World} {L:List Nat} {cs:List Value} {x:TShare} (h:Rep.R w L cs x):cs = [vU x.fN.1,vU x.fN.2.1,vU x.fN.2.2.1,vU x.fN.2.2.2.1,vU x.fN.2.2.2.2.1,vU x.fN.2.2.2.2.2.1,vU x.fN.2.2.2.2.2.2.1,vU x.fN.2.2.2.2.2.2.2,vU x.fD.1,vU x.fD.2.1,vU x.fD.2.2.1,vU x.fD.2.2.2.1,vU x.fD.2.2.2.2.1,vU x.fD.2.2.2.2.2.1,vU x.fD.2.2.2.2.2.2.1,vU x.fD.2.2.2.2.2.2.2]:=by
  obtain ⟨c0,r0,rfl,h0,h⟩:=h
  obtain rfl:=op_A39 (x:=x.fN) h0
  obtain rfl:=op_A39 (x:=x.fD) h
  rfl
theorem mk_TShare {w:World} {L:List Nat} (a0:UInt64 × UInt64 × UInt64 × UInt64 × UInt64 × UInt64 × UInt64 × UInt64) (a1:UInt64 × UInt64 × UInt64 × UInt64 × UInt64 × UInt64 × UInt64 × UInt64):Rep.R w L [vU a0.1,vU a0.2.1,vU a0.2.2.1,vU a0.2.2.2.1,vU a0.2.2.2.2.1,vU a0.2.2.2.2.2.1,vU a0.2.2.2.2.2.2.1,vU a0.2.2.2.2.2.2.2,vU a1.1,vU a1.2.1,vU a1.2.2.1,vU a1.2.2.2.1,vU a1.2.2.2.2.1,vU a1.2.2.2.2.2.1,vU a1.2.2.2.2.2.2.1,vU a1.2.2.2.2.2.2.2] (⟨a0,a1⟩:TShare):=⟨[vU a0.1,vU a0.2.1,vU a0.2.2.1,vU a0.2.2.2.1,vU a0.2.2.2.2.1,vU a0.2.2.2.2.2.1,vU a0.2.2.2.2.2.2.1,vU a0.2.2.2.2.2.2.2],[vU a1.1,vU a1.2.1,vU a1.2.2.1,vU a1.2.2.2.1,vU a1.2.2.2.2.1,vU a1.2.2.2.2.2.1,vU a1.2.2.2.2.2.2.1,vU a1.2.2.2.2.2.2.2],rfl,mk_A39 a0.1 a0.2.1 a0.2.2.1 a0.2.2.2.1 a0.2.2.2.2.1 a0.2.2.2.2.2.1 a0.2.2.2.2.2.2.1 a0.2.2.2.2.2.2.2,mk_A39 a1.1 a1.2.1 a1.2.2.1 a1.2.2.2.1 a1.2.2.2.2.1 a1.2.2.2.2.2.1 a1.2.2.2.2.2.2.1 a1.2.2.2.2.2.2.2⟩
theorem el60:ElT Tryz.prog 60 42 (Rep.size TShare) 128 (.agg zM) zL:=⟨Tryz.underlying60,by kernel_rfl,rfl,rfl,rfl,rfl⟩
theorem body13:bodyB Tryz.prog 13 = true:=by kernel_rfl
theorem body54:bodyB Tryz.prog 54 = true:=by kernel_rfl
theorem body55:bodyB Tryz.prog 55 = true:=by kernel_rfl
theorem body92:bodyB Tryz.prog 92 = true:=by kernel_rfl
theorem body93:bodyB Tryz.prog 93 = true:=by kernel_rfl
theorem body94:bodyB Tryz.prog 94 = true:=by kernel_rfl
theorem body95:bodyB Tryz.prog 95 = true:=by kernel_rfl
theorem body128:bodyB Tryz.prog 128 = true:=by kernel_rfl
def interest_Largest_l1 (n:Nat) (a0:List TInterest) (a1:TRoll) (a2:List Int) (a3:Int) (d0:Nat × (List TShare) → Option (((List TShare) × Int) ⊕ (List TShare))):Nat × (List TShare) → Option (((List TShare) × Int) ⊕ (List TShare))
  | (b0,c0)=>(if b0 < a0.length then (a0[b0]?).bind fun j0=>(interest_view_largest_p n (⟨a1,a2,a3⟩:Tview) j0).bind fun p0=>exc p0 (fun q0=>(app c0 ([q0]:List TShare)).bind fun k0=>d0 (b0 + 1,k0)) (fun g0=>some (.inl (([]:List TShare),g0.fw))) else some (.inr c0))
def interest_Largest_p (n:Nat) (a0:List TInterest) (a1:TRoll) (a2:List Int) (a3:Int):Option ((List TShare) × Int):=
  (balance_Check_p n a1 a2 a3).bind fun k0=>(interest_need_p n k0).bind fun p0=>exc p0 (fun _y64=>(interest_Check_p n ((a2.length:Nat):Int) a0).bind fun g0=>(interest_need_p n g0).bind fun j0=>exc j0 (fun _y1303=>thn (loopF (interest_Largest_l1 n a0 a1 a2 a3) n (0,([]:List TShare))) (fun d0=>some (d0,(0:Int)))) (fun b0=>some (([]:List TShare),b0.fw))) (fun c0=>some (([]:List TShare),c0.fw))
theorem interest_Largest_c (n:Nat) (L:List Nat) (w:World) (hL:∀ b ∈ L,b < w.heap.size) (a0:List TInterest) {v0_0:Value} (h0_0:Rep.R w L [v0_0] a0) (a1:TRoll) {v1_3:Value} (h1_3:Rep.R w L [v1_3] a1.fo) (a2:List Int) {v2_0:Value} (h2_0:Rep.R w L [v2_0] a2) (a3:Int) (hG0:Glob 0 tab0 w)  {r:(List TShare) × Int} (h:interest_Largest_p n a0 a1 a2 a3 = some r) :
    Calls Tryz.prog 19 #[v0_0,.agg #[vI a1.fh,vI a1.fc,vI a1.fe,v1_3],v2_0,vI a3] w (Gives w fun w' u=>∃ v0_0:Value,u = .tuple #[v0_0,vI r.2]∧Rep.R w' L [v0_0] r.1):=by
 unfold interest_Largest_p at h
 have hS0:=Ay w
 refine AC Tryz.func19 rfl rfl rfl (fun _ cs0 hb0=>?_)
 refine Ac<|Al .plain rfl (Ax hS0 rfl rfl) (fun X5 v0 Y0 j5=>?_)
 refine Af rfl<|Af rfl<|Aa<|Ac<|Ae rfl<|Ab (AJ rfl (Y0.memA .hd))<|Ae rfl<|Ae rfl<|Bs (fst:=[]) (cap:=[]) (vs:=[v0_0,.agg #[vI a1.fh,vI a1.fc,vI a1.fe,v1_3],v2_0,vI a3,.func (.func 55) #[] #[]]) .plain body54 Tryz.func54 rfl rfl rfl rfl (e5 rfl rfl rfl rfl rfl) rfl (fun Y4 V0 U5=>?_)
 refine Ac ?_
 have H3:=AH h0_0 Y0
 refine Al .plain rfl (Ax Y0 rfl (Rep.c1 H3)) (fun c6 t0 t2 s5=>?_)
 refine Al .plain rfl (Ax t2 rfl rfl) (fun d6 g0 H1 y5=>?_)
 have Q3:=AH h2_0 H1
 refine Al .plain rfl (Ax H1 rfl (Rep.c1 Q3)) (fun s6 j0 B2 B5=>?_)
 refine Al .plain rfl (Ax B2 rfl rfl) (fun t6 p0 C2 C5=>?_)
 refine Al .plain rfl (Ax C2 rfl rfl) (fun A6 q0 J2 G5=>?_)
 refine Af rfl<|Af rfl<|Aa<|Ac<|Ab (FV.makeFunc (vs:=[]) (us:=[vP g0,vP j0,vP p0,vP t0,vP q0]) evs_nil (e5 rfl rfl rfl rfl rfl))<|Bs (fst:=[]) (cap:=[]) (vs:=[.func (.func 93) #[] #[vP g0,vP j0,vP p0,vP t0,vP q0]]) .plain body92 Tryz.func92 rfl rfl rfl rfl (e1 rfl) rfl (fun b5 W0 V5=>?_)
 refine Ac<|Al .plain rfl (AA [vN] J2) (fun B6 d0 K2 H5=>?_)
 refine Al .plain rfl (AA [vI 0] K2) (fun A4 b0 c0 I5=>?_)
 refine Aa<|Ac<|Ab (FV.makeFunc (vs:=[]) (us:=[vP d0,vP b0]) evs_nil (e2 rfl rfl))<|RG.defer (fst:=[]) (cap:=[vP d0,vP b0]) (vs:=[]) rfl .plain rfl evs_nil<|Aa<|Ac<|Ae rfl<|Bs (fst:=[]) (cap:=[vP g0,vP j0,vP p0,vP t0,vP q0]) (vs:=[]) .plain body93 Tryz.func93 rfl rfl rfl rfl evs_nil rfl (fun c5 t3 t1=>?_)
 refine Ac<|Af rfl<|Aa<|Ac<|Ab (AJ rfl (c0.memA (.tl (.tl (.tl (.tl (.tl .hd)))))))<|Ab (AG rfl ((c0.memA (.tl (.tl (.tl (.tl .hd))))) 0 _ rfl))<|Ab (AG rfl ((c0.memA (.tl (.tl (.tl .hd)))) 0 _ rfl)) ?_
 obtain ⟨C1,t4,h⟩:=bi h
 refine Bc (vI C1) body95 rfl (e3 rfl rfl rfl) (fun w9 hw9=>balance_Check_c n _ w9 (c0.hL0 hL hw9) a1 (c0.k0 h1_3 hw9) a2 (c0.k0 h2_0 hw9) a3 t4) rfl ?_
 obtain ⟨G4,W1,h⟩:=bi h
 rcases G4 with H0 | F6
 have h:=exc_e h
 try dsimp only at h
 refine Bw (fst:=[]) (cap:=[]) .plain body94 rfl (e1 rfl) (fun w9 hw9=>interest_need_c n _ w9 (c0.hL0 hL hw9) C1 W1) (fun C6 s3=>?_)
 obtain ⟨M2,J5⟩:=c0.agr s3
 refine Bm t1 Tryz.func93<|PN.callD (vs:=[]) (cap:=[vP d0,vP b0]) body128 Tryz.func128 rfl rfl rfl (fun X4 A3 G3=>?_)
 refine Ac<|RG.recover1 .plain A3 rfl<|Af rfl<|Aa<|Ac<|Ae rfl<|Ab (FV.neqI Tryz.underlying20 rfl rfl)<|Aa<|Bj rfl<|Ac<|Ae rfl<|Ab (FV.assertT (by kernel_rfl) rfl)<|Ae rfl<|Ab (Ah rfl rfl)<|Ab (Ah rfl rfl)<|Al .plain rfl (AA [vI 0] M2) (fun D6 b2 P2 K5=>?_)
 refine AX [vI H0.fw] P2 .hd (o1 rfl) (fun C4 k1 M5=>?_)
 refine Af rfl<|Aa<|Aj<|Ac<|Ae rfl<|Ab (Bz rfl)<|Aa<|Bn rfl<|Ao<|Ac<|Af rfl<|Aa<|dt 3 tb128_6 (fun C0 x1=>?_)
 refine Ag 0 1 C0 rfl x1 (fun _=>Ai rfl) rfl<|Ag 1 3 C0 rfl x1 (fun _=>Bi 0 rfl) rfl<|RD.meet (α:=Unit) (fun ()=>[(1,vP b0),(19,vI H0.fw)]) (fun () y1=>St w y1 [.cells b0 [vI 0] 35,.cells d0 [vN] 60,.cells q0 [.func (.func 55) #[] #[]] 116,.cells p0 [vI a3] 3,.cells j0 [v2_0] 53,.cells g0 [vI a1.fh,vI a1.fc,vI a1.fe,v1_3] 58,.cells t0 [v0_0] 30,.cells v0 [vI a1.fh,vI a1.fc,vI a1.fe,v1_3] 58]∧Tr C4 [.cells b2 [vI H0.fw] 176,.cells b0 [vI 0] 35,.cells d0 [vN] 60,.cells q0 [.func (.func 55) #[] #[]] 116,.cells p0 [vI a3] 3,.cells j0 [v2_0] 53,.cells g0 [vI a1.fh,vI a1.fc,vI a1.fe,v1_3] 58,.cells t0 [v0_0] 30,.cells v0 [vI a1.fh,vI a1.fc,vI a1.fe,v1_3] 58] y1 [.cells b0 [vI 0] 35,.cells d0 [vN] 60,.cells q0 [.func (.func 55) #[] #[]] 116,.cells p0 [vI a3] 3,.cells j0 [v2_0] 53,.cells g0 [vI a1.fh,vI a1.fc,vI a1.fe,v1_3] 58,.cells t0 [v0_0] 30,.cells v0 [vI a1.fh,vI a1.fc,vI a1.fe,v1_3] 58]) 1 15 ?_ ?_
 rintro ⟨⟩ y1 ⟨j2,d5⟩
 try dsimp only
 refine Bv 4 31 C0 rfl rfl .plain (Av (news:=[vI H0.fw]) j2 .hd rfl rfl rfl rfl rfl rfl (o1 rfl)) (fun Y5 I0 g5=>?_)
 refine AK (dk C0)<|MX.fin rfl<|RT.leaveD1 G3 Tryz.func128 rfl .nil<|Ap (u:=.tuple #[vN,vI H0.fw]) W0 Tryz.func92 rfl (.cons (.one (by kernel_rfl) rfl ((I0.memA (.tl .hd)) 0 _ rfl)) (.cons (.one (by kernel_rfl) rfl ((I0.memA .hd) 0 _ rfl)) .nil)) rfl<|Ab (Ah rfl rfl)<|Ab (Ah rfl rfl)<|Af rfl<|Af rfl<|Aa<|Ak rfl<|Ap (u:=.tuple #[vN,vI H0.fw]) V0 Tryz.func54 rfl (.cons (.tmp rfl) (.cons (.tmp rfl) .nil)) rfl<|Ab (Ah rfl rfl)<|Ab (Ah rfl rfl)<|Af rfl<|Af rfl<|Aa<|Ak rfl ?_
 have Y3:=Rep.nilAt (α:=TShare) I0 L
 refine Ap hb0 Tryz.func19 rfl (.cons (.tmp rfl) (.cons (.tmp rfl) .nil)) rfl ?_
 cases h
 exact ⟨I0.ag,fun w9 hw9=>⟨vN,rfl,I0.kd Y3 hw9⟩⟩
 intro D1
 refine RD.each [2,3] (rk C0) ⟨?_,?_,trivial⟩
 refine RO.val (m' :=7) (sk C0) rfl .plain rfl (AG rfl ((k1.memA .hd) 0 _ rfl))<|Bv 3 15 C0 rfl rfl .plain (Av (news:=[vN]) k1 (.tl (.tl .hd)) rfl rfl rfl rfl rfl rfl (o1 rfl)) (fun B4 U0 s1=>?_)
 obtain ⟨k2,Q2⟩:=AL U0 (.one (.tl .hd) (.one (.tl .hd) (.one (.tl .hd) (.one (.tl .hd) (.one (.tl .hd) (.one (.tl .hd) (.one (.tl .hd) (.one (.tl .hd) .done))))))))
 exact D1 () _ _ ⟨rfl,rfl,trivial⟩ ⟨k2,(Tt s1 Q2)⟩
 refine RO.now (m' :=11) (sk C0) rfl rfl .plain (Av (news:=[vN]) k1 (.tl (.tl .hd)) rfl rfl rfl rfl rfl rfl (o1 rfl)) (fun B4 U0 s1=>?_)
 refine AF 2 15 16 C0 rfl x1 (AG rfl ((U0.memA .hd) 0 _ rfl)) rfl ?_
 obtain ⟨p2,R2⟩:=AL U0 (.one (.tl .hd) (.one (.tl .hd) (.one (.tl .hd) (.one (.tl .hd) (.one (.tl .hd) (.one (.tl .hd) (.one (.tl .hd) (.one (.tl .hd) .done))))))))
 exact D1 () _ _ ⟨rfl,rfl,trivial⟩ ⟨p2,(Tt s1 R2)⟩
 have h:=exc_o h
 try dsimp only at h
 refine Bc (.tuple #[]) body94 rfl (e1 rfl) (fun w9 hw9=>Bl (interest_need_c n _ w9 (c0.hL0 hL hw9) C1 W1)) rfl<|Aa<|Ac<|Ab (AG rfl ((c0.memA (.tl (.tl (.tl (.tl .hd))))) 0 _ rfl)) ?_
 have P1:=AH h2_0 c0
 have Q5:a2.length ≤ 281474976710656:=AQ P1
 refine Ab (Bb (xs:=a2) Tryz.underlying53 rfl P1)<|Ab (AG rfl ((c0.memA (.tl (.tl (.tl (.tl (.tl (.tl .hd))))))) 0 _ rfl)) ?_
 obtain ⟨B1,s4,h⟩:=bi h
 refine Bc (vI B1) body13 rfl (e2 rfl rfl) (fun w9 hw9=>interest_Check_c n _ w9 (c0.hL0 hL hw9) ((a2.length:Nat):Int) a0 (c0.k0 h0_0 hw9) s4) rfl ?_
 obtain ⟨E4,U1,h⟩:=bi h
 rcases E4 with F0 | E6
 have h:=exc_e h
 try dsimp only at h
 refine Bw (fst:=[]) (cap:=[]) .plain body94 rfl (e1 rfl) (fun w9 hw9=>interest_need_c n _ w9 (c0.hL0 hL hw9) B1 U1) (fun Z5 p3=>?_)
 obtain ⟨q2,k5⟩:=c0.agr p3
 refine Bm t1 Tryz.func93<|PN.callD (vs:=[]) (cap:=[vP d0,vP b0]) body128 Tryz.func128 rfl rfl rfl (fun P4 u3 C3=>?_)
 refine Ac<|RG.recover1 .plain u3 rfl<|Af rfl<|Aa<|Ac<|Ae rfl<|Ab (FV.neqI Tryz.underlying20 rfl rfl)<|Aa<|Bj rfl<|Ac<|Ae rfl<|Ab (FV.assertT (by kernel_rfl) rfl)<|Ae rfl<|Ab (Ah rfl rfl)<|Ab (Ah rfl rfl)<|Al .plain rfl (AA [vI 0] q2) (fun b6 X1 s2 p5=>?_)
 refine AX [vI F0.fw] s2 .hd (o1 rfl) (fun v4 Z0 q5=>?_)
 refine Af rfl<|Aa<|Aj<|Ac<|Ae rfl<|Ab (Bz rfl)<|Aa<|Bn rfl<|Ao<|Ac<|Af rfl<|Aa<|dt 3 tb128_6 (fun A0 u1=>?_)
 refine Ag 0 1 A0 rfl u1 (fun _=>Ai rfl) rfl<|Ag 1 3 A0 rfl u1 (fun _=>Bi 0 rfl) rfl<|RD.meet (α:=Unit) (fun ()=>[(1,vP b0),(19,vI F0.fw)]) (fun () z1=>St w z1 [.cells b0 [vI 0] 35,.cells d0 [vN] 60,.cells q0 [.func (.func 55) #[] #[]] 116,.cells p0 [vI a3] 3,.cells j0 [v2_0] 53,.cells g0 [vI a1.fh,vI a1.fc,vI a1.fe,v1_3] 58,.cells t0 [v0_0] 30,.cells v0 [vI a1.fh,vI a1.fc,vI a1.fe,v1_3] 58]∧Tr v4 [.cells X1 [vI F0.fw] 176,.cells b0 [vI 0] 35,.cells d0 [vN] 60,.cells q0 [.func (.func 55) #[] #[]] 116,.cells p0 [vI a3] 3,.cells j0 [v2_0] 53,.cells g0 [vI a1.fh,vI a1.fc,vI a1.fe,v1_3] 58,.cells t0 [v0_0] 30,.cells v0 [vI a1.fh,vI a1.fc,vI a1.fe,v1_3] 58] z1 [.cells b0 [vI 0] 35,.cells d0 [vN] 60,.cells q0 [.func (.func 55) #[] #[]] 116,.cells p0 [vI a3] 3,.cells j0 [v2_0] 53,.cells g0 [vI a1.fh,vI a1.fc,vI a1.fe,v1_3] 58,.cells t0 [v0_0] 30,.cells v0 [vI a1.fh,vI a1.fc,vI a1.fe,v1_3] 58]) 1 15 ?_ ?_
 rintro ⟨⟩ z1 ⟨u2,t5⟩
 try dsimp only
 refine Bv 4 31 A0 rfl rfl .plain (Av (news:=[vI F0.fw]) u2 .hd rfl rfl rfl rfl rfl rfl (o1 rfl)) (fun g6 J0 u5=>?_)
 refine AK (dk A0)<|MX.fin rfl<|RT.leaveD1 C3 Tryz.func128 rfl .nil<|Ap (u:=.tuple #[vN,vI F0.fw]) W0 Tryz.func92 rfl (.cons (.one (by kernel_rfl) rfl ((J0.memA (.tl .hd)) 0 _ rfl)) (.cons (.one (by kernel_rfl) rfl ((J0.memA .hd) 0 _ rfl)) .nil)) rfl<|Ab (Ah rfl rfl)<|Ab (Ah rfl rfl)<|Af rfl<|Af rfl<|Aa<|Ak rfl<|Ap (u:=.tuple #[vN,vI F0.fw]) V0 Tryz.func54 rfl (.cons (.tmp rfl) (.cons (.tmp rfl) .nil)) rfl<|Ab (Ah rfl rfl)<|Ab (Ah rfl rfl)<|Af rfl<|Af rfl<|Aa<|Ak rfl ?_
 have Z3:=Rep.nilAt (α:=TShare) J0 L
 refine Ap hb0 Tryz.func19 rfl (.cons (.tmp rfl) (.cons (.tmp rfl) .nil)) rfl ?_
 cases h
 exact ⟨J0.ag,fun w9 hw9=>⟨vN,rfl,J0.kd Z3 hw9⟩⟩
 intro E1
 refine RD.each [2,3] (rk A0) ⟨?_,?_,trivial⟩
 refine RO.val (m' :=7) (sk A0) rfl .plain rfl (AG rfl ((Z0.memA .hd) 0 _ rfl))<|Bv 3 15 A0 rfl rfl .plain (Av (news:=[vN]) Z0 (.tl (.tl .hd)) rfl rfl rfl rfl rfl rfl (o1 rfl)) (fun x4 Q0 p1=>?_)
 obtain ⟨v2,U2⟩:=AL Q0 (.one (.tl .hd) (.one (.tl .hd) (.one (.tl .hd) (.one (.tl .hd) (.one (.tl .hd) (.one (.tl .hd) (.one (.tl .hd) (.one (.tl .hd) .done))))))))
 exact E1 () _ _ ⟨rfl,rfl,trivial⟩ ⟨v2,(Tt p1 U2)⟩
 refine RO.now (m' :=11) (sk A0) rfl rfl .plain (Av (news:=[vN]) Z0 (.tl (.tl .hd)) rfl rfl rfl rfl rfl rfl (o1 rfl)) (fun x4 Q0 p1=>?_)
 refine AF 2 15 16 A0 rfl u1 (AG rfl ((Q0.memA .hd) 0 _ rfl)) rfl ?_
 obtain ⟨x2,V2⟩:=AL Q0 (.one (.tl .hd) (.one (.tl .hd) (.one (.tl .hd) (.one (.tl .hd) (.one (.tl .hd) (.one (.tl .hd) (.one (.tl .hd) (.one (.tl .hd) .done))))))))
 exact E1 () _ _ ⟨rfl,rfl,trivial⟩ ⟨x2,(Tt p1 V2)⟩
 have h:=exc_o h
 try dsimp only at h
 refine Bc (.tuple #[]) body94 rfl (e1 rfl) (fun w9 hw9=>Bl (interest_need_c n _ w9 (c0.hL0 hL hw9) B1 U1)) rfl<|Aa<|Aj<|Ac<|Ab (AG rfl ((c0.memA (.tl (.tl (.tl (.tl (.tl (.tl .hd))))))) 0 _ rfl)) ?_
 have Q1:=AH h0_0 c0
 have R5:a0.length ≤ 281474976710656:=AQ Q1
 refine Ab (Bb (xs:=a0) Tryz.underlying30 rfl Q1)<|Ae rfl<|Aa<|Ar ?_
 have b1:=c0.nilRow 42 (Rep.size TShare)
 have v5:=St.nilRowT c0 42 (Rep.size TShare)
 have v3:=AB (cs:=[]) (xs:=([]:List TShare)) b1 L (AN _ _)
 have G1:=b1.nilRow 42 (Rep.size TShare)
 have W2:=St.nilRowT b1 42 (Rep.size TShare)
 have P5:=AB (cs:=[]) (xs:=([]:List TShare)) G1 L (AN _ _)
 have I3:=AD v3 W2
 obtain ⟨W5,W3,M1⟩:=thn_in h
 refine Be (α:=Nat × (List TShare) × Value × (List Value)) (fun ⟨z0,x0,u0,D0⟩=>[(0,vP g0),(1,vP j0),(2,vP p0),(4,vP q0),(5,u0),(18,v0_0),(19,vI ((a0.length:Nat):Int)),(20,vI ((z0:Nat):Int))]) (fun ⟨z0,x0,u0,D0⟩ X0=>St w X0 [.row w.heap.size 42 (Rep.size TShare) vN (([]:List TShare).length) [],.row w.heap.size 42 (Rep.size TShare) u0 x0.length D0,.cells b0 [vI 0] 35,.cells d0 [vN] 60,.cells q0 [.func (.func 55) #[] #[]] 116,.cells p0 [vI a3] 3,.cells j0 [v2_0] 53,.cells g0 [vI a1.fh,vI a1.fc,vI a1.fe,v1_3] 58,.cells t0 [v0_0] 30,.cells v0 [vI a1.fh,vI a1.fc,vI a1.fe,v1_3] 58]∧Tr A4 [.row w.heap.size 42 (Rep.size TShare) vN (([]:List TShare).length) [],.row w.heap.size 42 (Rep.size TShare) vN (([]:List TShare).length) [],.cells b0 [vI 0] 35,.cells d0 [vN] 60,.cells q0 [.func (.func 55) #[] #[]] 116,.cells p0 [vI a3] 3,.cells j0 [v2_0] 53,.cells g0 [vI a1.fh,vI a1.fc,vI a1.fe,v1_3] 58,.cells t0 [v0_0] 30,.cells v0 [vI a1.fh,vI a1.fc,vI a1.fe,v1_3] 58] X0 [.row w.heap.size 42 (Rep.size TShare) vN (([]:List TShare).length) [],.row w.heap.size 42 (Rep.size TShare) u0 x0.length D0,.cells b0 [vI 0] 35,.cells d0 [vN] 60,.cells q0 [.func (.func 55) #[] #[]] 116,.cells p0 [vI a3] 3,.cells j0 [v2_0] 53,.cells g0 [vI a1.fh,vI a1.fc,vI a1.fe,v1_3] 58,.cells t0 [v0_0] 30,.cells v0 [vI a1.fh,vI a1.fc,vI a1.fe,v1_3] 58]∧Cells X0 (bl [.row w.heap.size 42 (Rep.size TShare) vN (([]:List TShare).length) [],.row w.heap.size 42 (Rep.size TShare) u0 x0.length D0,.cells b0 [vI 0] 35,.cells d0 [vN] 60,.cells q0 [.func (.func 55) #[] #[]] 116,.cells p0 [vI a3] 3,.cells j0 [v2_0] 53,.cells g0 [vI a1.fh,vI a1.fc,vI a1.fe,v1_3] 58,.cells t0 [v0_0] 30,.cells v0 [vI a1.fh,vI a1.fc,vI a1.fe,v1_3] 58] ++ L) D0 x0) (fun ⟨z0,x0,u0,D0⟩=>(z0,x0)) (0,([]:List TShare),vN,[]) W3 ⟨rfl,rfl,rfl,rfl,rfl,rfl,rfl,rfl,trivial⟩ ⟨G1,AT _ _,I3⟩ ?_
 rintro K4 ⟨z0,x0,u0,D0⟩ X0 g2 ⟨K0,X2,J1⟩ h
 unfold interest_Largest_l1 at h
 try dsimp only at h
 refine Ac<|Ab (Bf (i:=z0) (j:=a0.length) rfl rfl)<|Aa<|Aj<|AO rfl h (fun c2 h=>?_) (fun c2 h=>?_)
 refine Ao<|Aj<|Ar<|Ac ?_
 obtain ⟨E0,p4,h⟩:=bi h
 have K3:=AH h0_0 K0
 obtain ⟨H4,Q4,B3,D3,Z4,b4,J3⟩:=Bk K3 p4
 obtain rfl:=op_TInterest b4
 refine Ab (Bo 3 z0 rfl B3 rfl rfl D3)<|Ab (AJ rfl J3)<|Al .plain rfl (AA [.string ⟨#[]⟩,vI 0,vW 0] K0) (fun j6 Y1 y2 Y2=>?_)
 refine AX [.string E0.fp,vI E0.fx,vU E0.fo] y2 .hd (onesB rfl) (fun k6 s0 Z2=>?_)
 refine Aa<|Am<|Ae rfl<|Ab (AG rfl ((s0.memA (.tl (.tl (.tl (.tl (.tl .hd)))))) 0 _ rfl))<|Ab (AJ rfl (s0.memA (.tl (.tl (.tl (.tl (.tl (.tl (.tl (.tl .hd))))))))))<|Ab (AG rfl ((s0.memA (.tl (.tl (.tl (.tl (.tl (.tl (.tl .hd)))))))) 0 _ rfl))<|Ab (AG rfl ((s0.memA (.tl (.tl (.tl (.tl (.tl (.tl .hd))))))) 0 _ rfl)) ?_
 have M3:=AH h1_3 s0
 obtain ⟨I4,R4,j4,_⟩:=Rep.sl M3
 have P3:=AH h2_0 s0
 obtain ⟨J4,U4,k4,_⟩:=Rep.sl P3
 refine Ab (AV (vs:=[.agg #[vI a1.fh,vI a1.fc,vI a1.fe,v1_3],v2_0,vI a3]) (u:=.agg #[vI a1.fh,vI a1.fc,vI a1.fe,v1_3,v2_0,vI a3]) (e3 rfl rfl rfl) (fun w9=>by rw [j4,k4]; try kernel_rfl))<|Ab (AJ rfl (s0.memA .hd)) ?_
 obtain ⟨F4,V1,h⟩:=bi h
 rcases F4 with G0 | y0
 have h:=exc_e h
 try dsimp only at h
 have h:=thn_inl h M1
 refine Bw (fst:=[]) (cap:=[]) .plain body55 rfl (e2 rfl rfl) (fun w9 hw9=>interest_view_largest_c n _ w9 (s0.hL0 hL hw9) (⟨a1,a2,a3⟩:Tview) (s0.k0 h1_3 hw9) (s0.k0 h2_0 hw9) E0 (hG0.keep (s0.ag.trans hw9)) V1) (fun p6 q3=>?_)
 obtain ⟨z2,x5⟩:=s0.agr q3
 refine Bm t1 Tryz.func93<|PN.callD (vs:=[]) (cap:=[vP d0,vP b0]) body128 Tryz.func128 rfl rfl rfl (fun V4 x3 E3=>?_)
 refine Ac<|RG.recover1 .plain x3 rfl<|Af rfl<|Aa<|Ac<|Ae rfl<|Ab (FV.neqI Tryz.underlying20 rfl rfl)<|Aa<|Bj rfl<|Ac<|Ae rfl<|Ab (FV.assertT (by kernel_rfl) rfl)<|Ae rfl<|Ab (Ah rfl rfl)<|Ab (Ah rfl rfl)<|Al .plain rfl (AA [vI 0] z2) (fun q6 Z1 A2 z5=>?_)
 refine AX [vI G0.fw] A2 .hd (o1 rfl) (fun y4 d1 A5=>?_)
 refine Af rfl<|Aa<|Aj<|Ac<|Ae rfl<|Ab (Bz rfl)<|Aa<|Bn rfl<|Ao<|Ac<|Af rfl<|Aa<|dt 3 tb128_6 (fun B0 v1=>?_)
 refine Ag 0 1 B0 rfl v1 (fun _=>Ai rfl) rfl<|Ag 1 3 B0 rfl v1 (fun _=>Bi 0 rfl) rfl<|RD.meet (α:=Unit) (fun ()=>[(1,vP b0),(19,vI G0.fw)]) (fun () A1=>St w A1 [.cells b0 [vI 0] 35,.cells d0 [vN] 60,.cells q0 [.func (.func 55) #[] #[]] 116,.cells p0 [vI a3] 3,.cells j0 [v2_0] 53,.cells g0 [vI a1.fh,vI a1.fc,vI a1.fe,v1_3] 58,.cells t0 [v0_0] 30,.cells v0 [vI a1.fh,vI a1.fc,vI a1.fe,v1_3] 58]∧Tr y4 [.cells Z1 [vI G0.fw] 176,.cells Y1 [.string E0.fp,vI E0.fx,vU E0.fo] 65,.row w.heap.size 42 (Rep.size TShare) vN (([]:List TShare).length) [],.row w.heap.size 42 (Rep.size TShare) u0 x0.length D0,.cells b0 [vI 0] 35,.cells d0 [vN] 60,.cells q0 [.func (.func 55) #[] #[]] 116,.cells p0 [vI a3] 3,.cells j0 [v2_0] 53,.cells g0 [vI a1.fh,vI a1.fc,vI a1.fe,v1_3] 58,.cells t0 [v0_0] 30,.cells v0 [vI a1.fh,vI a1.fc,vI a1.fe,v1_3] 58] A1 [.cells b0 [vI 0] 35,.cells d0 [vN] 60,.cells q0 [.func (.func 55) #[] #[]] 116,.cells p0 [vI a3] 3,.cells j0 [v2_0] 53,.cells g0 [vI a1.fh,vI a1.fc,vI a1.fe,v1_3] 58,.cells t0 [v0_0] 30,.cells v0 [vI a1.fh,vI a1.fc,vI a1.fe,v1_3] 58]) 1 15 ?_ ?_
 rintro ⟨⟩ A1 ⟨D2,D5⟩
 try dsimp only
 refine Bv 4 31 B0 rfl rfl .plain (Av (news:=[vI G0.fw]) D2 .hd rfl rfl rfl rfl rfl rfl (o1 rfl)) (fun u6 M0 E5=>?_)
 refine AK (dk B0)<|MX.fin rfl<|RT.leaveD1 E3 Tryz.func128 rfl .nil<|Ap (u:=.tuple #[vN,vI G0.fw]) W0 Tryz.func92 rfl (.cons (.one (by kernel_rfl) rfl ((M0.memA (.tl .hd)) 0 _ rfl)) (.cons (.one (by kernel_rfl) rfl ((M0.memA .hd) 0 _ rfl)) .nil)) rfl<|Ab (Ah rfl rfl)<|Ab (Ah rfl rfl)<|Af rfl<|Af rfl<|Aa<|Ak rfl<|Ap (u:=.tuple #[vN,vI G0.fw]) V0 Tryz.func54 rfl (.cons (.tmp rfl) (.cons (.tmp rfl) .nil)) rfl<|Ab (Ah rfl rfl)<|Ab (Ah rfl rfl)<|Af rfl<|Af rfl<|Aa<|Ak rfl ?_
 have c4:=Rep.nilAt (α:=TShare) M0 L
 refine Ap hb0 Tryz.func19 rfl (.cons (.tmp rfl) (.cons (.tmp rfl) .nil)) rfl ?_
 cases h
 exact ⟨M0.ag,fun w9 hw9=>⟨vN,rfl,M0.kd c4 hw9⟩⟩
 intro F1
 refine RD.each [2,3] (rk B0) ⟨?_,?_,trivial⟩
 refine RO.val (m' :=7) (sk B0) rfl .plain rfl (AG rfl ((d1.memA .hd) 0 _ rfl))<|Bv 3 15 B0 rfl rfl .plain (Av (news:=[vN]) d1 (.tl (.tl (.tl (.tl (.tl .hd))))) rfl rfl rfl rfl rfl rfl (o1 rfl)) (fun z4 R0 q1=>?_)
 obtain ⟨E2,b3⟩:=AL R0 (.one (.tl (.tl (.tl (.tl .hd)))) (.one (.tl (.tl (.tl (.tl .hd)))) (.one (.tl (.tl (.tl (.tl .hd)))) (.one (.tl (.tl (.tl (.tl .hd)))) (.one (.tl (.tl (.tl (.tl .hd)))) (.one (.tl (.tl (.tl (.tl .hd)))) (.one (.tl (.tl (.tl (.tl .hd)))) (.one (.tl (.tl (.tl (.tl .hd)))) .done))))))))
 exact F1 () _ _ ⟨rfl,rfl,trivial⟩ ⟨E2,(Tt q1 b3)⟩
 refine RO.now (m' :=11) (sk B0) rfl rfl .plain (Av (news:=[vN]) d1 (.tl (.tl (.tl (.tl (.tl .hd))))) rfl rfl rfl rfl rfl rfl (o1 rfl)) (fun z4 R0 q1=>?_)
 refine AF 2 15 16 B0 rfl v1 (AG rfl ((R0.memA .hd) 0 _ rfl)) rfl ?_
 obtain ⟨F2,c3⟩:=AL R0 (.one (.tl (.tl (.tl (.tl .hd)))) (.one (.tl (.tl (.tl (.tl .hd)))) (.one (.tl (.tl (.tl (.tl .hd)))) (.one (.tl (.tl (.tl (.tl .hd)))) (.one (.tl (.tl (.tl (.tl .hd)))) (.one (.tl (.tl (.tl (.tl .hd)))) (.one (.tl (.tl (.tl (.tl .hd)))) (.one (.tl (.tl (.tl (.tl .hd)))) .done))))))))
 exact F1 () _ _ ⟨rfl,rfl,trivial⟩ ⟨F2,(Tt q1 c3)⟩
 have h:=exc_o h
 try dsimp only at h
 refine Bc (.agg ((cs_TShare y0)).toArray) body55 rfl (e2 rfl rfl) (fun w9 hw9=>Bl (interest_view_largest_c n _ w9 (s0.hL0 hL hw9) (⟨a1,a2,a3⟩:Tview) (s0.k0 h1_3 hw9) (s0.k0 h2_0 hw9) E0 (hG0.keep (s0.ag.trans hw9)) V1)) rfl<|Al .plain rfl (AY (α:=TShare) (xs:=([y0]:List TShare)) (vs:=[.agg ((cs_TShare y0)).toArray]) (ds' :=(cs_TShare y0)) rfl s0 el60 rfl (e1 rfl) (by kernel_rfl) rfl) (fun v6 M4 g1 d3=>?_)
 have y3:=AB (cs:=(cs_TShare y0)) (xs:=(([y0]:List TShare):List TShare)) g1 L (Aq (cs:=(cs_TShare y0)) (ds:=[]) (mk_TShare y0.fN y0.fD) (AN _ _))
 obtain ⟨D4,q4,h⟩:=bi h
 have R1:=Tt Y2 (Tt Z2 d3)
 have R3:=AD J1 R1
 refine RG.doesL .plain rfl (DoesL.app (α:=TShare) (ys:=([y0]:List TShare)) q4 g1 (fun _ _=>(.tl (.tl (.tl .hd)))) el60 rfl rfl R3 (Src.row (α:=TShare) g1 .hd y3)) (fun u4 x6 ⟨d2,G2,g3,z3⟩=>?_)
 refine Af rfl<|Aa<|Au<|Am<|Ab (Bh (i:=z0) (j:=1) rfl rfl (by omega))<|Ae rfl<|Aa ?_
 obtain ⟨H2,I1⟩:=AL G2 (.one (.tl (.tl .hd)) (.one (.tl (.tl .hd)) (.one (.tl (.tl .hd)) (.one (.tl (.tl .hd)) (.one (.tl (.tl .hd)) (.one (.tl (.tl .hd)) (.one (.tl (.tl .hd)) (.one (.tl (.tl .hd)) (.one (.tl (.tl .hd)) (.one (.tl (.tl .hd)) .done))))))))))
 have U3:=AD z3 I1
 have X3:=Tt R1 (Tt g3 I1)
 exact g2 (z0 + 1,D4,u4,d2) _ _ ⟨rfl,rfl,rfl,rfl,rfl,rfl,rfl,rfl,trivial⟩ ⟨H2,(Tt X2 X3),U3⟩ h
 refine AW rfl ?_
 have h:=thn_inr h M1
 try dsimp only at h
 refine Ac<|Ae rfl<|Af rfl<|Aa<|Ak rfl<|Ap (u:=u0) t3 Tryz.func93 rfl (.cons (.tmp rfl) .nil) rfl<|RG.now .plain (Av (news:=[u0]) K0 (.tl (.tl (.tl .hd))) rfl rfl rfl (St.c1 (α:=TShare) K0 (.tl .hd)) rfl rfl (o1 (St.o1 (α:=TShare) K0 (.tl .hd)))) (fun y6 I2 j3=>?_)
 refine AX [vI 0] I2 (.tl (.tl .hd)) (o1 rfl) (fun z6 P0 k3=>?_)
 refine Aa<|Ak rfl<|RT.callD (vs:=[]) (cap:=[vP d0,vP b0]) body128 Tryz.func128 rfl rfl rfl (fun W4 K1 F3=>?_)
 refine Ac<|RG.recover0 .plain K1 rfl<|Af rfl<|Aa<|Ac<|Ae rfl<|Ab (FV.neqI0 Tryz.underlying20 rfl rfl)<|Aa<|Bn rfl<|Ao<|MX.fin rfl<|RT.leaveD0 K1 F3 Tryz.func128 rfl .nil<|Ap (u:=.tuple #[u0,vI 0]) W0 Tryz.func92 rfl (.cons (.one (by kernel_rfl) rfl ((P0.memA (.tl (.tl (.tl .hd)))) 0 _ rfl)) (.cons (.one (by kernel_rfl) rfl ((P0.memA (.tl (.tl .hd))) 0 _ rfl)) .nil)) rfl<|Ab (Ah rfl rfl)<|Ab (Ah rfl rfl)<|Af rfl<|Af rfl<|Aa<|Ak rfl<|Ap (u:=.tuple #[u0,vI 0]) V0 Tryz.func54 rfl (.cons (.tmp rfl) (.cons (.tmp rfl) .nil)) rfl<|Ab (Ah rfl rfl)<|Ab (Ah rfl rfl)<|Af rfl<|Af rfl ?_
 refine Aa<|Ak rfl ?_
 have V3:=AD J1 (Tt j3 k3)
 have d4:=Bu (α:=TShare) P0 (.tl .hd) V3 hL
 have j1:=St.delS P0 (.tl .hd)
 have F5:=St.delT P0 (.tl .hd)
 have g4:=Rep.at_ (α:=TShare) (v:=u0) (xs:=x0) j1 L d4
 refine Ap hb0 Tryz.func19 rfl (.cons (.tmp rfl) (.cons (.tmp rfl) .nil)) rfl ?_
 cases h
 exact ⟨j1.ag,fun w9 hw9=>⟨u0,rfl,j1.kd g4 hw9⟩⟩
def wardmotelaw27_of_p (n:Nat) (a0:Int) (a1:Int):Option TShare:=
  (share_Of_p n a0 a1).bind fun b0=>some b0.1
theorem wardmotelaw27_of_c (n:Nat) (L:List Nat) (w:World) (hL:∀ b ∈ L,b < w.heap.size) (a0:Int) (a1:Int)  {r:TShare} (h:wardmotelaw27_of_p n a0 a1 = some r) :
    Calls Tryz.prog 20 #[vI a0,vI a1] w (Gives w fun _ u=>u = .agg ((cs_TShare r)).toArray):=by
 unfold wardmotelaw27_of_p at h
 have hS0:=Ay w
 refine AC Tryz.func20 rfl rfl rfl (fun _ cs0 hb0=>?_)
 refine Ac<|Al .plain rfl (AA zL hS0) (fun x0 p0 c0 s0=>?_)
 refine Aa<|Ac<|Ae rfl<|Ae rfl ?_
 obtain ⟨b0,k0,h⟩:=bi h
 refine Bc (.tuple #[.agg ((cs_TShare b0.1)).toArray,vI b0.2]) body45 rfl (e2 rfl rfl) (fun w9 hw9=>share_Of_c n _ w9 (c0.hL0 hL hw9) a0 a1 k0) rfl<|Ae rfl<|Ab (Ah rfl rfl)<|Ab (Ah rfl rfl)<|Al .plain rfl (AA zL c0) (fun y0 q0 j0 t0=>?_)
 refine AX (cs_TShare b0.1) j0 .hd (onesB rfl) (fun z0 d0 u0=>?_)
 refine Af rfl<|Aa<|Ac<|Ab (AJ rfl (d0.memA .hd))<|AX (cs_TShare b0.1) d0 (.tl .hd) (onesB rfl) (fun A0 g0 v0=>?_)
 refine Aa<|Ak rfl<|Ap hb0 Tryz.func20 rfl (.cons (.many (cs:=(cs_TShare b0.1)) (by kernel_rfl) rfl (g0.memA (.tl .hd))) .nil) rfl ?_
 cases h
 exact g0.gv
def share_told_p (n:Nat) (a0:TRatio) (a1:Int):Option (TShare × Int):=
  (if a1 = 0 then (share_Ratio_Told_p n a0).bind fun b0=>some (b0.1,b0.2) else some ((⟨((0:UInt64),(0:UInt64),(0:UInt64),(0:UInt64),(0:UInt64),(0:UInt64),(0:UInt64),(0:UInt64)),((0:UInt64),(0:UInt64),(0:UInt64),(0:UInt64),(0:UInt64),(0:UInt64),(0:UInt64),(0:UInt64))⟩:TShare),a1))
theorem share_told_c (n:Nat) (L:List Nat) (w:World) (hL:∀ b ∈ L,b < w.heap.size) (a0:TRatio) {v0_1:Value} (h0_1:Rep.R w L [v0_1] a0.fy.fm) {v0_3:Value} (h0_3:Rep.R w L [v0_3] a0.ft.fm) (a1:Int)  {r:TShare × Int} (h:share_told_p n a0 a1 = some r) :
    Calls Tryz.prog 56 #[.agg #[.bool a0.fy.fj,v0_1,.bool a0.ft.fj,v0_3],vI a1] w (Gives w fun _ u=>u = .tuple #[.agg ((cs_TShare r.1)).toArray,vI r.2]):=by
 unfold share_told_p at h
 have hS0:=Ay w
 refine AC Tryz.func56 rfl rfl rfl (fun _ cs0 hb0=>?_)
 refine Ac<|Al .plain rfl (Ax hS0 rfl rfl) (fun z0 s0 p0 u0=>?_)
 refine Al .plain rfl (AA zL p0) (fun A0 t0 b0 v0=>?_)
 refine Af rfl<|Aa<|Aj<|Ac<|Ae rfl<|Ab (FV.neq (i:=a1) (j:=0) rfl rfl)<|Aa<|MX.ifn rfl h (fun j0 h=>?_) (fun j0 h=>?_)
 refine Ao<|Ac<|Ab (AJ rfl (b0.memA (.tl .hd))) ?_
 obtain ⟨c0,q0,h⟩:=bi h
 refine Bc (.tuple #[.agg ((cs_TShare c0.1)).toArray,vI c0.2]) body98 rfl (e1 rfl) (fun w9 hw9=>share_Ratio_Told_c n _ w9 (b0.hL0 hL hw9) a0 (b0.k0 h0_1 hw9) (b0.k0 h0_3 hw9) q0) rfl<|Ab (Ah rfl rfl)<|Ab (Ah rfl rfl)<|AX (cs_TShare c0.1) b0 .hd (onesB rfl) (fun B0 d0 x0=>?_)
 refine Af rfl<|Aa<|Ak rfl<|Ap hb0 Tryz.func56 rfl (.cons (.many (cs:=(cs_TShare c0.1)) (by kernel_rfl) rfl (d0.memA .hd)) (.cons (.tmp rfl) .nil)) rfl ?_
 cases h
 exact d0.gv
 refine Ac<|Ab (AV (vs:=[]) (u:=.agg zM) evs_nil (fun w9=>by kernel_rfl))<|Ae rfl<|AX zL b0 .hd (onesB rfl) (fun C0 g0 y0=>?_)
 refine Af rfl<|Aa<|Ak rfl<|Ap hb0 Tryz.func56 rfl (.cons (.many (cs:=zL) (by kernel_rfl) rfl (g0.memA .hd)) (.cons (.tmp rfl) .nil)) rfl ?_
 cases h
 exact g0.gv
def tb100_1:List (Nat × Nat × Nat):=[(0,8,2),(1,16,8),(2,32,16),(0,64,2),(8,128,64),(20,256,128),(36,512,288),(127,0,516)]
def share_Read_p (n:Nat) (a0:TShare):Option TRatio:=
  (wide_Longer_p n a0.fN).bind fun b0=>(wide_Longer_p n a0.fD).bind fun c0=>some (⟨b0,c0⟩:TRatio)
theorem share_Read_c (n:Nat) (L:List Nat) (w:World) (hL:∀ b ∈ L,b < w.heap.size) (a0:TShare)  {r:TRatio} (h:share_Read_p n a0 = some r) :
    Calls Tryz.prog 100 #[.agg ((cs_TShare a0)).toArray] w (Gives w fun w' u=>∃ v0_1 v0_3:Value,u = .agg #[.bool r.fy.fj,v0_1,.bool r.ft.fj,v0_3]∧Rep.R w' L [v0_1] r.fy.fm∧Rep.R w' L [v0_3] r.ft.fm):=by
 unfold share_Read_p at h
 have hS0:=Ay w
 refine AC Tryz.func100 rfl rfl rfl (fun _ cs0 hb0=>?_)
 refine Ac<|Al .plain rfl (Ax hS0 rfl rfl) (fun Z0 M0 z0 U0=>?_)
 refine Al .plain rfl (AA [.bool false,vN,.bool false,vN] z0) (fun b1 P0 j0 V0=>?_)
 refine Aa<|Aj<|dt 7 tb100_1 (fun b0 c0=>?_)
 refine Ag 0 1 b0 rfl c0 (fun _=>Bi 0 rfl) rfl<|AF 1 3 228 b0 rfl c0 (Br (cs:=(cs_A39 a0.fN)) (by kernel_rfl) rfl (mem_part (j0.memA (.tl .hd)) 0 8)) rfl<|Ag 3 11 b0 rfl c0 (fun _=>Bi 8 rfl) rfl<|AF 4 27 224 b0 rfl c0 (Br (cs:=(cs_A39 a0.fD)) (by kernel_rfl) rfl (mem_part (j0.memA (.tl .hd)) 8 8)) rfl ?_
 obtain ⟨p0,H0,h⟩:=bi h
 refine RD.cl 2 31 b0 rfl .plain body126 rfl (e1 rfl) (fun w9 hw9=>wide_Longer_c n _ w9 (j0.hL hL hw9) a0.fN H0) rfl (fun c1 X0 B0 ⟨d0,hu_,y0⟩=>?_)
 subst hu_
 obtain ⟨t0,W0⟩:=j0.agr B0
 obtain ⟨q0,I0,h⟩:=bi h
 refine RD.cl 5 63 b0 rfl .plain body126 rfl (e1 rfl) (fun w9 hw9=>wide_Longer_c n _ w9 (t0.hL hL hw9) a0.fD I0) rfl (fun d1 Y0 C0 ⟨g0,hu_,s0⟩=>?_)
 subst hu_
 obtain ⟨A0,u0⟩:=t0.agr C0
 have x0:=Az y0 u0
 obtain ⟨J0,Q0,F0,_⟩:=Rep.sl x0
 obtain ⟨K0,R0,G0,_⟩:=Rep.sl s0
 refine Ag 6 127 b0 rfl c0 (fun _=>AV (vs:=[.agg #[.bool p0.fj,d0],.agg #[.bool q0.fj,g0]]) (u:=.agg #[.bool p0.fj,d0,.bool q0.fj,g0]) (e2 rfl rfl) (fun w9=>by rw [F0,G0]; try kernel_rfl)) rfl<|Bv 7 255 b0 rfl rfl .plain (Av (news:=[.bool p0.fj,d0,.bool q0.fj,g0]) A0 .hd rfl rfl rfl rfl rfl rfl (o4 rfl (Bg x0) rfl (Bg s0))) (fun g1 k0 v0=>?_)
 refine AK (dk b0)<|Ak rfl<|Ap hb0 Tryz.func100 rfl (.cons (.many (cs:=[.bool p0.fj,d0,.bool q0.fj,g0]) (by kernel_rfl) rfl (k0.memA .hd)) .nil) rfl ?_
 cases h
 have D0:=Az y0 (Tt u0 v0)
 have E0:=Az s0 v0
 exact ⟨k0.ag,fun w9 hw9=>⟨d0,g0,rfl,k0.kd D0 hw9,k0.kd E0 hw9⟩⟩
def wide_Long_Side_p (_n:Nat) (a0:TLong):Option Int:=
  (if a0.fj = true then some (-1:Int) else (if a0.fm.length = 0 then some (0:Int) else some (1:Int)))
theorem wide_Long_Side_c (n:Nat) (L:List Nat) (w:World) (_hL:∀ b ∈ L,b < w.heap.size) (a0:TLong) {v0_1:Value} (h0_1:Rep.R w L [v0_1] a0.fm)  {r:Int} (h:wide_Long_Side_p n a0 = some r) :
    Calls Tryz.prog 171 #[.agg #[.bool a0.fj,v0_1]] w (Gives w fun _ u=>u = vI r):=by
 unfold wide_Long_Side_p at h
 have hS0:=Ay w
 refine AC Tryz.func171 rfl rfl rfl (fun _ cs0 hb0=>?_)
 refine Ac<|Al .plain rfl (Ax hS0 rfl rfl) (fun q0 j0 b0 k0=>?_)
 refine Af rfl<|Aa<|Aj<|Ar<|Ac<|Bd 0 rfl<|AZ rfl ((b0.memA .hd) 0 _ rfl)<|Af rfl<|Aa<|MX.ifb rfl h (fun d0 h=>?_) (fun d0 h=>?_)
 refine Ac<|Af rfl<|Aa<|Ak rfl<|AP hb0 Tryz.func171 rfl rfl ?_
 cases h
 exact b0.gv
 refine Ac<|Bd 1 rfl<|AZ rfl ((b0.memA .hd) 1 _ rfl) ?_
 have c0:=AH h0_1 b0
 have p0:a0.fm.length ≤ 281474976710656:=AQ c0
 refine Ab (Bb (xs:=a0.fm) Tryz.underlying75 rfl c0)<|Ab (FV.eqlN (i:=a0.fm.length) (j:=0) rfl rfl)<|Af rfl<|Aa<|AO rfl h (fun g0 h=>?_) (fun g0 h=>?_)
 refine Ac<|Af rfl<|Aa<|Ak rfl<|AP hb0 Tryz.func171 rfl rfl ?_
 cases h
 exact b0.gv
 refine Ao<|Au<|Ac<|Af rfl<|Aa<|Ak rfl<|AP hb0 Tryz.func171 rfl rfl ?_
 cases h
 exact b0.gv
def tb175_1:List (Nat × Nat × Nat):=[(0,32,4),(0,64,8),(2,128,64),(5,256,160),(15,0,272)]
def wide_Long_Minus_p (n:Nat) (a0:TLong) (a1:TLong):Option TLong:=
  (wide_Long_Turned_p n a1).bind fun b0=>(wide_Long_Plus_p n a0 b0).bind fun c0=>some c0
theorem wide_Long_Minus_c (n:Nat) (L:List Nat) (w:World) (hL:∀ b ∈ L,b < w.heap.size) (a0:TLong) {v0_1:Value} (h0_1:Rep.R w L [v0_1] a0.fm) (a1:TLong) {v1_1:Value} (h1_1:Rep.R w L [v1_1] a1.fm)  {r:TLong} (h:wide_Long_Minus_p n a0 a1 = some r) :
    Calls Tryz.prog 175 #[.agg #[.bool a0.fj,v0_1],.agg #[.bool a1.fj,v1_1]] w (Gives w fun w' u=>∃ v0_1:Value,u = .agg #[.bool r.fj,v0_1]∧Rep.R w' L [v0_1] r.fm):=by
 unfold wide_Long_Minus_p at h
 have hS0:=Ay w
 refine AC Tryz.func175 rfl rfl rfl (fun _ cs0 hb0=>?_)
 refine Ac<|Al .plain rfl (Ax hS0 rfl rfl) (fun U0 E0 s0 H0=>?_)
 refine Al .plain rfl (Ax s0 rfl rfl) (fun V0 F0 t0 I0=>?_)
 refine Al .plain rfl (AA [.bool false,vN] t0) (fun W0 G0 c0 J0=>?_)
 refine Aa<|Aj<|dt 4 tb175_1 (fun b0 p0=>?_)
 refine AF 0 1 24 b0 rfl p0 (AJ rfl (c0.memA (.tl (.tl .hd)))) rfl<|AF 1 3 28 b0 rfl p0 (AJ rfl (c0.memA (.tl .hd))) rfl ?_
 obtain ⟨D0,B0,h⟩:=bi h
 refine RD.cl 2 7 b0 rfl .plain body141 rfl (e1 rfl) (fun w9 hw9=>wide_Long_Turned_c n _ w9 (c0.hL hL hw9) a1 (c0.km h1_1 hw9) B0) rfl (fun X0 Q0 x0 ⟨P0,hu_,A0⟩=>?_)
 subst hu_
 obtain ⟨d0,K0⟩:=c0.agr x0
 obtain ⟨q0,C0,h⟩:=bi h
 refine RD.cl 3 15 b0 rfl .plain body103 rfl (e2 rfl rfl) (fun w9 hw9=>wide_Long_Plus_c n _ w9 (d0.hL hL hw9) a0 (d0.km h0_1 hw9) D0 (Aw A0 hw9) C0) rfl (fun Y0 R0 y0 ⟨j0,hu_,k0⟩=>?_)
 subst hu_
 obtain ⟨u0,M0⟩:=d0.agr y0
 refine Bv 4 31 b0 rfl rfl .plain (Av (news:=[.bool q0.fj,j0]) u0 .hd rfl rfl rfl rfl rfl rfl (o2 rfl (Bg k0))) (fun Z0 g0 v0=>?_)
 refine AK (dk b0)<|Ak rfl<|Ap hb0 Tryz.func175 rfl (.cons (.many (cs:=[.bool q0.fj,j0]) (by kernel_rfl) rfl (g0.memA .hd)) .nil) rfl ?_
 cases h
 have z0:=Az k0 v0
 exact ⟨g0.ag,fun w9 hw9=>⟨j0,rfl,g0.kd z0 hw9⟩⟩
theorem body171:bodyB Tryz.prog 171 = true:=by kernel_rfl
theorem body175:bodyB Tryz.prog 175 = true:=by kernel_rfl
def wide_Long_Cmp_p (n:Nat) (a0:TLong) (a1:TLong):Option Int:=
  (wide_Long_Minus_p n a0 a1).bind fun b0=>(wide_Long_Side_p n b0).bind fun c0=>some c0
theorem wide_Long_Cmp_c (n:Nat) (L:List Nat) (w:World) (hL:∀ b ∈ L,b < w.heap.size) (a0:TLong) {v0_1:Value} (h0_1:Rep.R w L [v0_1] a0.fm) (a1:TLong) {v1_1:Value} (h1_1:Rep.R w L [v1_1] a1.fm)  {r:Int} (h:wide_Long_Cmp_p n a0 a1 = some r) :
    Calls Tryz.prog 149 #[.agg #[.bool a0.fj,v0_1],.agg #[.bool a1.fj,v1_1]] w (Gives w fun _ u=>u = vI r):=by
 unfold wide_Long_Cmp_p at h
 have hS0:=Ay w
 refine AC Tryz.func149 rfl rfl rfl (fun _ cs0 hb0=>?_)
 refine Ac<|Al .plain rfl (Ax hS0 rfl rfl) (fun B0 t0 d0 v0=>?_)
 refine Al .plain rfl (Ax d0 rfl rfl) (fun C0 u0 b0 x0=>?_)
 refine Af rfl<|Aa<|Ac<|Ab (AJ rfl (b0.memA (.tl .hd)))<|Ab (AJ rfl (b0.memA .hd)) ?_
 obtain ⟨q0,k0,h⟩:=bi h
 refine Bp (fst:=[]) (cap:=[]) .plain body175 rfl (e2 rfl rfl) (fun w9 hw9=>wide_Long_Minus_c n _ w9 (b0.hL hL hw9) a0 (b0.km h0_1 hw9) a1 (b0.km h1_1 hw9) k0) rfl (fun D0 A0 g0 ⟨z0,hu_,j0⟩=>?_)
 subst hu_
 obtain ⟨c0,y0⟩:=b0.agr g0
 obtain ⟨s0,p0,h⟩:=bi h
 refine Bc (vI s0) body171 rfl (e1 rfl) (fun w9 hw9=>wide_Long_Side_c n _ w9 (c0.hL0 hL hw9) q0 (c0.kd j0 hw9) p0) rfl<|Af rfl<|Aa<|Ak rfl<|AP hb0 Tryz.func149 rfl rfl ?_
 cases h
 exact c0.gv
def wide_From_p (n:Nat) (a0:Int):Option TLong:=
  (wide_Of_p n a0).bind fun b0=>(wide_Longer_p n b0).bind fun c0=>some c0
theorem wide_From_c (n:Nat) (L:List Nat) (w:World) (hL:∀ b ∈ L,b < w.heap.size) (a0:Int)  {r:TLong} (h:wide_From_p n a0 = some r) :
    Calls Tryz.prog 170 #[vI a0] w (Gives w fun w' u=>∃ v0_1:Value,u = .agg #[.bool r.fj,v0_1]∧Rep.R w' L [v0_1] r.fm):=by
 unfold wide_From_p at h
 have hS0:=Ay w
 refine AC Tryz.func170 rfl rfl rfl (fun _ cs0 hb0=>?_)
 refine Ac<|Al .plain rfl (AA [.bool false,vN] hS0) (fun B0 x0 b0 y0=>?_)
 refine Aa<|Ac<|Ae rfl ?_
 obtain ⟨j0,u0,h⟩:=bi h
 refine Bc (.agg ((cs_A39 j0)).toArray) body88 rfl (e1 rfl) (fun w9 hw9=>wide_Of_c n _ w9 (b0.hL0 hL hw9) a0 u0) rfl ?_
 obtain ⟨k0,v0,h⟩:=bi h
 refine Bp (fst:=[]) (cap:=[]) .plain body126 rfl (e1 rfl) (fun w9 hw9=>wide_Longer_c n _ w9 (b0.hL hL hw9) j0 v0) rfl (fun C0 A0 s0 ⟨d0,hu_,g0⟩=>?_)
 subst hu_
 obtain ⟨p0,z0⟩:=b0.agr s0
 refine AX [.bool k0.fj,d0] p0 .hd (o2 rfl (Bg g0)) (fun D0 c0 q0=>?_)
 refine Aa<|Ak rfl<|Ap hb0 Tryz.func170 rfl (.cons (.many (cs:=[.bool k0.fj,d0]) (by kernel_rfl) rfl (c0.memA .hd)) .nil) rfl ?_
 cases h
 have t0:=Az g0 q0
 exact ⟨c0.ag,fun w9 hw9=>⟨d0,rfl,c0.kd t0 hw9⟩⟩
def tb137_3:List (Nat × Nat × Nat):=[(0,256,16),(1,512,256),(2,1024,512),(4,2048,1024),(12,4096,2048),(16,8192,4112),(48,16384,12288),(16,32768,4112),(144,65536,36864),(336,131072,86016),(16,262144,4104),(1552,524288,397312),(2064,1048576,528384),(4112,2097152,1052672)]
theorem body100:bodyB Tryz.prog 100 = true:=by kernel_rfl
theorem body149:bodyB Tryz.prog 149 = true:=by kernel_rfl
theorem body170:bodyB Tryz.prog 170 = true:=by kernel_rfl
def share_Check_p (n:Nat) (a0:TShare):Option Int:=
  (wide_From_p n (1:Int)).bind fun c0=>(share_Read_p n a0).bind fun b0=>(wide_Long_Side_p n b0.ft).bind fun d0=>(if d0 ≤ 0 then some (20:Int) else (wide_Long_Common_p n b0.fy b0.ft).bind fun g0=>(wide_Long_Cmp_p n g0 c0).bind fun j0=>(if j0 = 0 then some (0:Int) else some (20:Int)))
theorem share_Check_c (n:Nat) (L:List Nat) (w:World) (hL:∀ b ∈ L,b < w.heap.size) (a0:TShare)  {r:Int} (h:share_Check_p n a0 = some r) :
    Calls Tryz.prog 137 #[.agg ((cs_TShare a0)).toArray] w (Gives w fun _ u=>u = vI r):=by
 unfold share_Check_p at h
 have hS0:=Ay w
 refine AC Tryz.func137 rfl rfl rfl (fun _ cs0 hb0=>?_)
 refine Ac<|Al .plain rfl (Ax hS0 rfl rfl) (fun E1 u1 t0 y1=>?_)
 refine Af rfl<|Aa<|Ac ?_
 obtain ⟨B0,d1,h⟩:=bi h
 refine Bp (fst:=[]) (cap:=[]) .plain body170 rfl (e1 rfl) (fun w9 hw9=>wide_From_c n _ w9 (t0.hL hL hw9) (1:Int) d1) rfl (fun F1 B1 Q0 ⟨q1,hu_,x0⟩=>?_)
 subst hu_
 obtain ⟨G0,z1⟩:=t0.agr Q0
 refine Al .plain rfl (AA [.bool false,vN] G0) (fun G1 v1 H0 u0=>?_)
 have V0:=Az x0 u0
 refine AX [.bool B0.fj,q1] H0 .hd (o2 rfl (Bg V0)) (fun H1 p0 K0=>?_)
 refine Aa<|Ac<|Ab (AJ rfl (p0.memA (.tl .hd))) ?_
 obtain ⟨g0,g1,h⟩:=bi h
 refine Bp (fst:=[]) (cap:=[]) .plain body100 rfl (e1 rfl) (fun w9 hw9=>share_Read_c n _ w9 (p0.hL hL hw9) a0 g1) rfl (fun I1 C1 R0 ⟨A0,s0,hu_,y0,z0⟩=>?_)
 subst hu_
 obtain ⟨I0,M0⟩:=p0.agr R0
 refine Al .plain rfl (AA [.bool false,vN,.bool false,vN] I0) (fun J1 x1 J0 k0=>?_)
 have W0:=Az y0 k0
 have X0:=Az z0 k0
 refine AX [.bool g0.fy.fj,A0,.bool g0.ft.fj,s0] J0 .hd (o4 rfl (Bg W0) rfl (Bg X0)) (fun K1 d0 q0=>?_)
 refine Aa<|Aj<|Aj<|dt 14 tb137_3 (fun b0 c0=>?_)
 refine Ag 0 1 b0 rfl c0 (fun _=>Bi 2 rfl) rfl<|AF 1 3 16380 b0 rfl c0 (Br (cs:=[.bool g0.ft.fj,s0]) (by kernel_rfl) rfl (mem_part (d0.memA .hd) 2 2)) rfl ?_
 obtain ⟨C0,j1,h⟩:=bi h
 have v0:=Az z0 (Tt k0 q0)
 refine RD.cq 2 7 16376 (vI C0) b0 rfl c0 body171 rfl (e1 rfl) (fun w9 hw9=>wide_Long_Side_c n _ w9 (d0.hL0 hL hw9) g0.ft (d0.kd v0 hw9) j1) rfl<|Ag 3 15 b0 rfl c0 (fun _=>FV.leq (i:=C0) (j:=0) rfl rfl) rfl<|Ag 4 31 b0 rfl c0 (fun _=>Ai rfl) rfl<|RD.ifd (s:=12) rfl h (fun E0 h=>?_) (fun E0 h=>?_)
 refine Ba 8191 1 [(5,13),(6,14),(7,15),(8,16),(9,17),(10,18),(11,19),(12,20)] (F:=[(12,true)]) (U:=[]) b0 c0 (.cons rfl .nil) .nil ?_
 dsimp only [offS,List.map]
 refine Ag 13 16383 b0 rfl c0 (fun _=>FV.pick_t rfl rfl) rfl<|AK (dk b0)<|Bj rfl<|Ac<|Af rfl<|Aa<|Ak rfl<|AP hb0 Tryz.func137 rfl rfl ?_
 cases h
 exact d0.gv
 refine RD.vP 5 63 b0 rfl c0 (.yes rfl rfl) (fun _=>Bi 0 rfl) rfl<|RD.val (i:=6) (m' :=127) (W:=14848) (tk b0) rfl c0 (.yes rfl rfl) (Br (cs:=[.bool g0.fy.fj,A0]) (by kernel_rfl) rfl (mem_part (d0.memA .hd) 0 2)) rfl<|RD.vP 7 255 b0 rfl c0 (.yes rfl rfl) (fun _=>Bi 2 rfl) rfl<|RD.val (i:=8) (m' :=511) (W:=14848) (tk b0) rfl c0 (.yes rfl rfl) (Br (cs:=[.bool g0.ft.fj,s0]) (by kernel_rfl) rfl (mem_part (d0.memA .hd) 2 2)) rfl<|RD.val (i:=10) (m' :=1535) (W:=14336) (tk b0) rfl c0 (.yes rfl rfl) (AJ rfl (d0.memA (.tl .hd))) rfl ?_
 obtain ⟨s1,k1,h⟩:=bi h
 have Y0:=Az y0 (Tt k0 q0)
 refine RD.cl 9 2047 b0 rfl (.yes rfl rfl) body139 rfl (e2 rfl rfl) (fun w9 hw9=>wide_Long_Common_c n _ w9 (d0.hL hL hw9) g0.fy (Aw Y0 hw9) g0.ft (Aw v0 hw9) k1) rfl (fun M1 D1 U0 ⟨A1,hu_,c1⟩=>?_)
 subst hu_
 obtain ⟨j0,P0⟩:=d0.agr U0
 obtain ⟨D0,p1,h⟩:=bi h
 have b1:=Tt u0 (Tt K0 (Tt M0 (Tt k0 (Tt q0 P0))))
 have Z0:=Az x0 b1
 refine RD.callq (i:=11) (m' :=4095) (W:=12288) (tk b0) rfl c0 (v:=vI D0) (fst:=[]) (cap:=[]) (.yes rfl rfl) body149 rfl (e2 rfl rfl) (fun w9 hw9=>wide_Long_Cmp_c n _ w9 (j0.hL0 hL hw9) s1 (j0.kd c1 hw9) B0 (j0.kd Z0 hw9) p1) rfl<|RD.vP 12 8191 b0 rfl c0 (.yes rfl rfl) (fun _=>FV.neq (i:=D0) (j:=0) rfl rfl) rfl<|Ag 13 16383 b0 rfl c0 (fun _=>AI rfl rfl) rfl<|AK (dk b0)<|MX.ifn rfl h (fun F0 h=>?_) (fun F0 h=>?_)
 refine Ao<|Ac<|Af rfl<|Aa<|Ak rfl<|AP hb0 Tryz.func137 rfl rfl ?_
 cases h
 exact j0.gv
 refine Ac<|Af rfl<|Aa<|Ak rfl<|AP hb0 Tryz.func137 rfl rfl ?_
 cases h
 exact j0.gv
theorem body137:bodyB Tryz.prog 137 = true:=by kernel_rfl
def share_valid_1_p (n:Nat) (a0:TShare):Option Bool:=
  (share_Check_p n a0).bind fun b0=>some (decide (b0 = 0))
theorem share_valid_1_c (n:Nat) (L:List Nat) (w:World) (hL:∀ b ∈ L,b < w.heap.size) (a0:TShare)  {r:Bool} (h:share_valid_1_p n a0 = some r) :
    Calls Tryz.prog 136 #[.agg ((cs_TShare a0)).toArray] w (Gives w fun _ u=>u = .bool r):=by
 unfold share_valid_1_p at h
 have hS0:=Ay w
 refine AC Tryz.func136 rfl rfl rfl (fun _ cs0 hb0=>?_)
 refine Ac<|Al .plain rfl (Ax hS0 rfl rfl) (fun k0 g0 b0 j0=>?_)
 refine Af rfl<|Aa<|Ac<|Ab (AJ rfl (b0.memA .hd)) ?_
 obtain ⟨c0,d0,h⟩:=bi h
 refine Bc (vI c0) body137 rfl (e1 rfl) (fun w9 hw9=>share_Check_c n _ w9 (b0.hL0 hL hw9) a0 d0) rfl<|Ab (FV.eql (i:=c0) (j:=0) rfl rfl)<|Af rfl<|Aa<|Ak rfl<|AP hb0 Tryz.func136 rfl rfl ?_
 cases h
 exact b0.gv
theorem body136:bodyB Tryz.prog 136 = true:=by kernel_rfl
theorem body138:bodyB Tryz.prog 138 = true:=by kernel_rfl
def share_valid_l1 (n:Nat) (a0:List TShare) (c0:Nat → Option (Bool ⊕ Unit)):Nat → Option (Bool ⊕ Unit)
  | b0=>(if b0 < a0.length then (a0[b0]?).bind fun d0=>(share_valid_1_p n d0).bind fun g0=>(if g0 = true then c0 (b0 + 1) else some (.inl false)) else some (.inr ()))
def share_valid_p (n:Nat) (a0:List TShare):Option Bool:=
  thn (loopF (share_valid_l1 n a0) n 0) (fun _=>some true)
theorem share_valid_c (n:Nat) (L:List Nat) (w:World) (hL:∀ b ∈ L,b < w.heap.size) (a0:List TShare) {v0_0:Value} (h0_0:Rep.R w L [v0_0] a0)  {r:Bool} (h:share_valid_p n a0 = some r) :
    Calls Tryz.prog 99 #[v0_0] w (Gives w fun _ u=>u = .bool r):=by
 unfold share_valid_p at h
 have hS0:=Ay w
 refine AC Tryz.func99 rfl rfl rfl (fun _ cs0 hb0=>?_)
 refine Ac<|Af rfl<|Aa<|Ac<|Af rfl<|Aa<|Ac<|Ae rfl<|Ae rfl<|Bs (fst:=[]) (cap:=[]) (vs:=[.func (.func 136) #[] #[],v0_0]) .plain body138 Tryz.func138 rfl rfl rfl rfl (e2 rfl rfl) rfl (fun cs2 hb1 hp3=>?_)
 refine Ac<|Af rfl<|Aa<|Aj<|Ac<|Ae rfl ?_
 have hl4:a0.length ≤ 281474976710656:=AQ h0_0
 refine Ab (Bb (xs:=a0) Tryz.underlying60 rfl h0_0)<|Ae rfl<|Aa<|Ar ?_
 obtain ⟨U0,E0,j0⟩:=thn_in h
 refine Be (α:=Nat) (fun b0=>[(0,.func (.func 136) #[] #[]),(7,v0_0),(8,vI ((a0.length:Nat):Int)),(9,vI ((b0:Nat):Int))]) (fun b0 g0=>St w g0 []∧Tr w [] g0 []) (fun b0=>b0) 0 E0 ⟨rfl,rfl,rfl,rfl,trivial⟩ ⟨hS0,AT _ _⟩ ?_
 rintro M0 b0 g0 s0 ⟨d0,v0⟩ h
 unfold share_valid_l1 at h
 try dsimp only at h
 refine Ac<|Ab (Bf (i:=b0) (j:=a0.length) rfl rfl)<|Aa<|Aj<|AO rfl h (fun p0 h=>?_) (fun p0 h=>?_)
 refine Ao<|Aj<|Ar<|Ac ?_
 obtain ⟨k0,H0,h⟩:=bi h
 have D0:=AH h0_0 d0
 obtain ⟨K0,Q0,A0,B0,R0,G0,C0⟩:=Bk D0 H0
 obtain rfl:=op_TShare G0
 refine Ab (Bo 16 b0 rfl A0 rfl rfl B0)<|Ab (AJ rfl C0)<|Al .plain rfl (AA zL d0) (fun V0 P0 t0 x0=>?_)
 refine AX (cs_TShare k0) t0 .hd (onesB rfl) (fun W0 c0 y0=>?_)
 refine Aa<|Ac<|Ae rfl<|Ab (AJ rfl (c0.memA .hd)) ?_
 obtain ⟨J0,I0,h⟩:=bi h
 refine Bc (.bool J0) body136 rfl (e1 rfl) (fun w9 hw9=>share_valid_1_c n _ w9 (c0.hL0 hL hw9) k0 I0) rfl<|Ab (Bz rfl)<|Aa<|MX.ifnb rfl h (fun q0 h=>?_) (fun q0 h=>?_)
 refine Ao<|Au<|Am<|Ab (Bh (i:=b0) (j:=1) rfl rfl (by omega))<|Ae rfl<|Aa ?_
 obtain ⟨u0,z0⟩:=AL c0 .done
 have F0:=Tt x0 (Tt y0 z0)
 exact s0 (b0 + 1) _ _ ⟨rfl,rfl,rfl,rfl,trivial⟩ ⟨u0,(Tt v0 F0)⟩ h
 refine Ac<|Af rfl<|Aa ?_
 have h:=thn_inl h j0
 refine Ak rfl<|Ap (u:=.bool false) hb1 Tryz.func138 rfl (.cons (.tmp rfl) .nil) rfl<|Af rfl<|Aa<|Ak rfl<|AP hb0 Tryz.func99 rfl rfl ?_
 cases h
 exact c0.gv
 refine AW rfl ?_
 have h:=thn_inr h j0
 try dsimp only at h
 refine Ac<|Af rfl<|Aa<|Ak rfl<|Ap (u:=.bool true) hb1 Tryz.func138 rfl (.cons (.tmp rfl) .nil) rfl<|Af rfl<|Aa<|Ak rfl<|AP hb0 Tryz.func99 rfl rfl ?_
 cases h
 exact d0.gv
def math_bits_Mul64_p (_n:Nat) (a0:UInt64) (a1:UInt64):Option (UInt64 × UInt64):=
  (some (((shrU a0 32) * (a1 &&& (4294967295:UInt64))) + (shrU ((a0 &&& (4294967295:UInt64)) * (a1 &&& (4294967295:UInt64))) 32))).bind fun u1=>(some (shrU ((u1 &&& (4294967295:UInt64)) + ((a0 &&& (4294967295:UInt64)) * (shrU a1 32))) 32)).bind fun u2=>some ((((shrU a0 32) * (shrU a1 32)) + (shrU u1 32)) + u2,a0 * a1)
theorem math_bits_Mul64_c (n:Nat) (L:List Nat) (w:World) (_hL:∀ b ∈ L,b < w.heap.size) (a0:UInt64) (a1:UInt64)  {r:UInt64 × UInt64} (h:math_bits_Mul64_p n a0 a1 = some r) :
    Calls Tryz.prog 122 #[vU a0,vU a1] w (Gives w fun _ u=>u = .tuple #[vU r.1,vU r.2]):=by
 unfold math_bits_Mul64_p at h
 have hS0:=Ay w
 refine AC Tryz.func122 rfl rfl rfl (fun _ cs0 hb0=>?_)
 refine Ac<|Af rfl<|Af rfl<|Aa<|Ac<|Ae rfl<|Ab (FV.andU (a:=a0) (b:=(4294967295:UInt64)) rfl rfl)<|Af rfl<|Aa<|Ac<|Ae rfl<|Ab (FV.shrU (a:=a0) (j:=32) rfl rfl)<|Af rfl<|Aa<|Ac<|Ae rfl<|Ab (FV.andU (a:=a1) (b:=(4294967295:UInt64)) rfl rfl)<|Af rfl<|Aa<|Ac<|Ae rfl<|Ab (FV.shrU (a:=a1) (j:=32) rfl rfl)<|Af rfl<|Aa ?_
 refine Ac<|Ae rfl<|Ae rfl<|Ab (FV.mulU (a:=a0 &&& (4294967295:UInt64)) (b:=a1 &&& (4294967295:UInt64)) rfl rfl)<|Af rfl<|Aa<|Ac<|Ae rfl<|Ae rfl<|Ab (FV.mulU (a:=shrU a0 32) (b:=a1 &&& (4294967295:UInt64)) rfl rfl)<|Ae rfl<|Ab (FV.shrU (a:=(a0 &&& (4294967295:UInt64)) * (a1 &&& (4294967295:UInt64))) (j:=32) rfl rfl) ?_
 obtain ⟨u1,hu1,h⟩:=bi h
 refine Ab (FV.as (FV.addU (a:=(shrU a0 32) * (a1 &&& (4294967295:UInt64))) (b:=shrU ((a0 &&& (4294967295:UInt64)) * (a1 &&& (4294967295:UInt64))) 32) rfl rfl) (congrArg (fun z:UInt64=>Value.int .u64 (z.toNat:Int)) (Option.some.inj hu1)))<|Af rfl<|Aa<|Ac<|Ae rfl<|Ab (FV.andU (a:=u1) (b:=(4294967295:UInt64)) rfl rfl)<|Af rfl<|Aa<|Ac<|Ae rfl<|Ab (FV.shrU (a:=u1) (j:=32) rfl rfl)<|Af rfl<|Aa<|Ac<|Ae rfl<|Ae rfl<|Ae rfl<|Ab (FV.mulU (a:=a0 &&& (4294967295:UInt64)) (b:=shrU a1 32) rfl rfl)<|Ab (FV.addU (a:=u1 &&& (4294967295:UInt64)) (b:=(a0 &&& (4294967295:UInt64)) * (shrU a1 32)) rfl rfl)<|Af rfl<|Aa<|Ac<|Ae rfl<|Ae rfl ?_
 refine Ab (FV.mulU (a:=shrU a0 32) (b:=shrU a1 32) rfl rfl)<|Ae rfl<|Ab (FV.addU (a:=(shrU a0 32) * (shrU a1 32)) (b:=shrU u1 32) rfl rfl)<|Ae rfl ?_
 obtain ⟨u2,hu2,h⟩:=bi h
 refine Ab (FV.as (FV.shrU (a:=(u1 &&& (4294967295:UInt64)) + ((a0 &&& (4294967295:UInt64)) * (shrU a1 32))) (j:=32) rfl rfl) (congrArg (fun z:UInt64=>Value.int .u64 (z.toNat:Int)) (Option.some.inj hu2)))<|Ab (FV.addU (a:=((shrU a0 32) * (shrU a1 32)) + (shrU u1 32)) (b:=u2) rfl rfl)<|Af rfl<|Aa<|Ac<|Ae rfl<|Ae rfl<|Ab (FV.mulU (a:=a0) (b:=a1) rfl rfl)<|Af rfl<|Aa<|Ak rfl<|Ap hb0 Tryz.func122 rfl (.cons (.tmp rfl) (.cons (.tmp rfl) .nil)) rfl ?_
 cases h
 exact hS0.gv
theorem body122:bodyB Tryz.prog 122 = true:=by kernel_rfl
def wide_multiplied_l1 (n:Nat) (a1:List UInt64) (s0:UInt64) (d0:Nat) (q0:UInt64 × Nat × (List UInt64) → Option ((List UInt64) × UInt64)):UInt64 × Nat × (List UInt64) → Option ((List UInt64) × UInt64)
  | (g0,b0,c0)=>(if b0 < a1.length then (a1[b0]?).bind fun t0=>(math_bits_Mul64_p n s0 t0).bind fun j0=>(c0[d0 + b0]?).bind fun u0=>(add64 u0 j0.2 (0:UInt64)).bind fun k0=>(add64 k0.1 g0 (0:UInt64)).bind fun p0=>(put c0 ((d0 + b0:Nat):Int) p0.1).bind fun v0=>q0 ((j0.1 + k0.2) + p0.2,b0 + 1,v0) else some (c0,g0))
def wide_multiplied_l2 (n:Nat) (a0:List UInt64) (a1:List UInt64) (g0:Nat × (List UInt64) → Option (List UInt64)):Nat × (List UInt64) → Option (List UInt64)
  | (b0,c0)=>(if b0 < a0.length then (a0[b0]?).bind fun k0=>Option.bind (loopF (wide_multiplied_l1 n a1 k0 b0) n ((0:UInt64),0,c0)) (fun (d0,j0)=>(d0[b0 + a1.length]?).bind fun _x490=>(put d0 ((b0 + a1.length:Nat):Int) j0).bind fun p0=>g0 (b0 + 1,p0)) else some c0)
def wide_multiplied_p (n:Nat) (a0:List UInt64) (a1:List UInt64):Option (List UInt64):=
  (mk ((a0.length + a1.length:Nat):Int) (0:UInt64)).bind fun b0=>Option.bind (loopF (wide_multiplied_l2 n a0 a1) n (0,b0)) (fun c0=>some c0)
theorem wide_multiplied_c (n:Nat) (L:List Nat) (w:World) (hL:∀ b ∈ L,b < w.heap.size) (a0:List UInt64) {v0_0:Value} (h0_0:Rep.R w L [v0_0] a0) (a1:List UInt64) {v1_0:Value} (h1_0:Rep.R w L [v1_0] a1)  {r:List UInt64} (h:wide_multiplied_p n a0 a1 = some r) :
    Calls Tryz.prog 143 #[v0_0,v1_0] w (Gives w fun w' u=>∃ v0_0:Value,u = v0_0∧Rep.R w' L [v0_0] r):=by
 unfold wide_multiplied_p at h
 have hS0:=Ay w
 refine AC Tryz.func143 rfl rfl rfl (fun _ cs0 hb0=>?_)
 refine Ac<|Af rfl<|Aa<|Ac<|Ae rfl ?_
 have hl1:a0.length ≤ 281474976710656:=AQ h0_0
 refine Ab (Bb (xs:=a0) Tryz.underlying75 rfl h0_0)<|Ae rfl ?_
 have hl2:a1.length ≤ 281474976710656:=AQ h1_0
 refine Ab (Bb (xs:=a1) Tryz.underlying75 rfl h1_0)<|Ab (Bh (i:=a0.length) (j:=a1.length) rfl rfl (by omega)) ?_
 obtain ⟨G0,P0,h⟩:=bi h
 refine Al .plain rfl (Does.mk (α:=UInt64) P0 hS0 el75 rfl) (fun C2 d0 B0 V2=>?_)
 have A1:=AB (cs:=(List.replicate ((a0.length + a1.length:Nat):Int).toNat [vW 0]).flatten) (xs:=G0) B0 L (Cells.mk P0 rfl)
 refine Af rfl<|Aa<|Aj<|Ac<|Ae rfl ?_
 have Q1:=AH h0_0 B0
 refine Ab (Bb (xs:=a0) Tryz.underlying75 rfl Q1)<|Ae rfl<|Aa<|Ar ?_
 obtain ⟨Y2,b2,J1⟩:=bind_in2 h
 refine Be (α:=Nat × (List UInt64) × (List Value)) (fun ⟨b0,g0,j0⟩=>[(1,v1_0),(5,(.slice (some ⟨d0,0,none⟩) ((a0.length + a1.length:Nat):Int).toNat ((a0.length + a1.length:Nat):Int).toNat)),(22,v0_0),(23,vI ((a0.length:Nat):Int)),(24,vI ((b0:Nat):Int))]) (fun ⟨b0,g0,j0⟩ v0=>St w v0 [.row w.heap.size 28 (Rep.size UInt64) (.slice (some ⟨d0,0,none⟩) ((a0.length + a1.length:Nat):Int).toNat ((a0.length + a1.length:Nat):Int).toNat) g0.length j0]∧Tr C2 [.row w.heap.size 28 (Rep.size UInt64) (.slice (some ⟨d0,0,none⟩) ((a0.length + a1.length:Nat):Int).toNat ((a0.length + a1.length:Nat):Int).toNat) G0.length ((List.replicate ((a0.length + a1.length:Nat):Int).toNat [vW 0]).flatten)] v0 [.row w.heap.size 28 (Rep.size UInt64) (.slice (some ⟨d0,0,none⟩) ((a0.length + a1.length:Nat):Int).toNat ((a0.length + a1.length:Nat):Int).toNat) g0.length j0]∧Cells v0 (bl [.row w.heap.size 28 (Rep.size UInt64) (.slice (some ⟨d0,0,none⟩) ((a0.length + a1.length:Nat):Int).toNat ((a0.length + a1.length:Nat):Int).toNat) g0.length j0] ++ L) j0 g0) (fun ⟨b0,g0,j0⟩=>(b0,g0)) (0,G0,(List.replicate ((a0.length + a1.length:Nat):Int).toNat [vW 0]).flatten) b2 ⟨rfl,rfl,rfl,rfl,rfl,trivial⟩ ⟨B0,AT _ _,A1⟩ ?_
 rintro I2 ⟨b0,g0,j0⟩ v0 q1 ⟨s0,x1,I0⟩ h
 unfold wide_multiplied_l2 at h
 try dsimp only at h
 refine Ac<|Ab (Bf (i:=b0) (j:=a0.length) rfl rfl)<|Aa<|Aj<|AO rfl h (fun Z0 h=>?_) (fun Z0 h=>?_)
 refine Ao<|Aj<|Ar<|Ac<|Ae rfl ?_
 obtain ⟨F0,s2,h⟩:=bi h
 have U1:=AH h0_0 s0
 obtain ⟨G2,K2,D1,M1,c1,d2,R1⟩:=Bk U1 s2
 have E1:c1 = [vU F0]:=d2; subst E1
 refine Ab (Bo 1 b0 rfl D1 rfl rfl M1)<|AZ rfl (R1 0 _ rfl)<|Af rfl<|Af rfl<|Aa<|Ac<|Af rfl<|Aa<|Aj<|Ac<|Ae rfl ?_
 have V1:=AH h1_0 s0
 refine Ab (Bb (xs:=a1) Tryz.underlying75 rfl V1)<|Ae rfl<|Aa<|Ar ?_
 obtain ⟨Z2,c2,K1⟩:=bind_in2 h
 refine Be (α:=UInt64 × Nat × (List UInt64) × (List Value)) (fun ⟨t0,c0,p0,q0⟩=>[(1,v1_0),(5,(.slice (some ⟨d0,0,none⟩) ((a0.length + a1.length:Nat):Int).toNat ((a0.length + a1.length:Nat):Int).toNat)),(22,v0_0),(23,vI ((a0.length:Nat):Int)),(24,vI ((b0:Nat):Int)),(6,vI ((b0:Nat):Int)),(7,vU F0),(8,vU t0),(29,v1_0),(30,vI ((a1.length:Nat):Int)),(31,vI ((c0:Nat):Int))]) (fun ⟨t0,c0,p0,q0⟩ z0=>St w z0 [.row w.heap.size 28 (Rep.size UInt64) (.slice (some ⟨d0,0,none⟩) ((a0.length + a1.length:Nat):Int).toNat ((a0.length + a1.length:Nat):Int).toNat) p0.length q0]∧Tr v0 [.row w.heap.size 28 (Rep.size UInt64) (.slice (some ⟨d0,0,none⟩) ((a0.length + a1.length:Nat):Int).toNat ((a0.length + a1.length:Nat):Int).toNat) g0.length j0] z0 [.row w.heap.size 28 (Rep.size UInt64) (.slice (some ⟨d0,0,none⟩) ((a0.length + a1.length:Nat):Int).toNat ((a0.length + a1.length:Nat):Int).toNat) p0.length q0]∧Cells z0 (bl [.row w.heap.size 28 (Rep.size UInt64) (.slice (some ⟨d0,0,none⟩) ((a0.length + a1.length:Nat):Int).toNat ((a0.length + a1.length:Nat):Int).toNat) p0.length q0] ++ L) q0 p0) (fun ⟨t0,c0,p0,q0⟩=>(t0,c0,p0)) ((0:UInt64),0,g0,j0) c2 ⟨rfl,rfl,rfl,rfl,rfl,rfl,rfl,rfl,rfl,rfl,rfl,trivial⟩ ⟨s0,AT _ _,I0⟩ ?_
 rintro J2 ⟨t0,c0,p0,q0⟩ z0 s1 ⟨k0,H0,x0⟩ h
 unfold wide_multiplied_l1 at h
 try dsimp only at h
 refine Ac<|Ab (Bf (i:=c0) (j:=a1.length) rfl rfl)<|Aa<|Aj<|AO rfl h (fun b1 h=>?_) (fun b1 h=>?_)
 refine Ao<|Aj<|Ar<|Ac<|Ae rfl ?_
 obtain ⟨Q0,t2,h⟩:=bi h
 have X1:=AH h1_0 k0
 obtain ⟨H2,M2,F1,P1,d1,g2,W1⟩:=Bk X1 t2
 have G1:d1 = [vU Q0]:=g2; subst G1
 refine Ab (Bo 1 c0 rfl F1 rfl rfl P1)<|AZ rfl (W1 0 _ rfl)<|Af rfl<|Af rfl<|Aa<|Ac<|Ae rfl<|Ae rfl ?_
 obtain ⟨u0,z2,h⟩:=bi h
 refine Bc (.tuple #[vU u0.1,vU u0.2]) body122 rfl (e2 rfl rfl) (fun w9 hw9=>math_bits_Mul64_c n _ w9 (k0.hL0 hL hw9) F0 Q0 z2) rfl<|Ae rfl<|Ab (Ah rfl rfl)<|Ab (Ah rfl rfl)<|Af rfl<|Af rfl<|Aa<|Ac<|Ae rfl<|Ae rfl<|Ae rfl<|Ab (Bh (i:=b0) (j:=c0) rfl rfl (by omega)) ?_
 obtain ⟨R0,u2,h⟩:=bi h
 obtain ⟨V0,P2,y0,E0,g1,j2,Y1⟩:=St.nth (α:=UInt64) k0 .hd x0 u2
 obtain ⟨X0,Q2,J0⟩:=St.nthOwn (α:=UInt64) k0 .hd E0
 obtain rfl:V0 = ⟨X0,0,none⟩:=by rw [J0] at y0; cases y0; rfl
 have H1:g1 = [vU R0]:=j2; subst H1
 refine Ab (Bo 1 (b0 + c0) rfl y0 rfl rfl E0)<|AZ rfl (Y1 0 _ rfl)<|Ae rfl ?_
 obtain ⟨A0,A2,h⟩:=bi h
 refine Ab (FV.add64 (a:=R0) (b:=u0.2) (c:=(0:UInt64)) Tryz.func173 rfl (by kernel_rfl) (by kernel_rfl) (by kernel_rfl) rfl rfl rfl A2)<|Ae rfl<|Ab (Ah rfl rfl)<|Ab (Ah rfl rfl)<|Af rfl<|Af rfl<|Aa<|Ac<|Ae rfl<|Ae rfl ?_
 obtain ⟨U0,B2,h⟩:=bi h
 refine Ab (FV.add64 (a:=A0.1) (b:=t0) (c:=(0:UInt64)) Tryz.func173 rfl (by kernel_rfl) (by kernel_rfl) (by kernel_rfl) rfl rfl rfl B2)<|Ae rfl<|Ab (Ah rfl rfl)<|Ab (Ah rfl rfl)<|Af rfl<|Af rfl<|Aa<|Am<|Ae rfl<|Ae rfl<|Ae rfl<|Ab (Bh (i:=b0) (j:=c0) rfl rfl (by omega))<|Ae rfl<|Ae rfl<|Ae rfl<|Ab (FV.addU (a:=u0.1) (b:=A0.2) rfl rfl)<|Ae rfl<|Ab (FV.addU (a:=u0.1 + A0.2) (b:=U0.2) rfl rfl)<|Ab (Bo 1 (b0 + c0) rfl y0 rfl rfl E0) ?_
 obtain ⟨E2,x2,h⟩:=bi h
 refine RG.acts' .plain (Acts.set (α:=UInt64) (i:=b0 + c0) x2 k0 J0 (fun _=>.hd) x0 rfl rfl rfl rfl rfl (by kernel_rfl)) (fun b3 ⟨j1,u1,y1,B1⟩=>?_)
 refine Af rfl<|Aa<|Au<|Am<|Ab (Bh (i:=c0) (j:=1) rfl rfl (by omega))<|Ae rfl<|Aa ?_
 exact s1 ((u0.1 + A0.2) + U0.2,c0 + 1,E2,j1) _ _ ⟨rfl,rfl,rfl,rfl,rfl,rfl,rfl,rfl,rfl,rfl,rfl,trivial⟩ ⟨u1,(Tt H0 y1),B1⟩ h
 refine AW rfl ?_
 have h:=K1 _ h
 try dsimp only at h
 refine Am<|Ae rfl<|Ae rfl<|Ae rfl ?_
 have Z1:=AH h1_0 k0
 refine Ab (Bb (xs:=a1) Tryz.underlying75 rfl Z1)<|Ab (Bh (i:=b0) (j:=a1.length) rfl rfl (by omega))<|Ae rfl ?_
 obtain ⟨D2,v2,h⟩:=bi h
 obtain ⟨W0,R2,D0,M0,k1,k2,X2⟩:=St.nth (α:=UInt64) k0 .hd x0 v2
 obtain ⟨Y0,U2,K0⟩:=St.nthOwn (α:=UInt64) k0 .hd M0
 obtain rfl:W0 = ⟨Y0,0,none⟩:=by rw [K0] at D0; cases D0; rfl
 have I1:k1 = [vU D2]:=k2; subst I1
 refine Ab (Bo 1 (b0 + a1.length) rfl D0 rfl rfl M0) ?_
 obtain ⟨F2,y2,h⟩:=bi h
 refine RG.acts' .plain (Acts.set (α:=UInt64) (i:=b0 + a1.length) y2 k0 K0 (fun _=>.hd) x0 rfl rfl rfl rfl rfl (by kernel_rfl)) (fun c3 ⟨p1,v1,z1,C1⟩=>?_)
 refine Aa<|Au<|Am<|Ab (Bh (i:=b0) (j:=1) rfl rfl (by omega))<|Ae rfl<|Aa ?_
 exact q1 (b0 + 1,F2,p1) _ _ ⟨rfl,rfl,rfl,rfl,rfl,trivial⟩ ⟨v1,(Tt x1 (Tt H0 z1)),C1⟩ h
 refine AW rfl ?_
 have h:=J1 _ h
 try dsimp only at h
 refine Ac<|Ae rfl<|Af rfl<|Aa<|Ak rfl ?_
 have p2:=Bu (α:=UInt64) s0 .hd I0 hL
 have C0:=St.delS s0 .hd
 have W2:=St.delT s0 .hd
 have q2:=Rep.at_ (α:=UInt64) (v:=(.slice (some ⟨d0,0,none⟩) ((a0.length + a1.length:Nat):Int).toNat ((a0.length + a1.length:Nat):Int).toNat)) (xs:=g0) C0 L p2
 refine AP hb0 Tryz.func143 rfl rfl ?_
 cases h
 exact ⟨C0.ag,fun w9 hw9=>⟨(.slice (some ⟨d0,0,none⟩) ((a0.length + a1.length:Nat):Int).toNat ((a0.length + a1.length:Nat):Int).toNat),rfl,C0.kd q2 hw9⟩⟩
def tb102_1:List (Nat × Nat × Nat):=[(0,32,4),(1,64,32),(0,128,8),(4,256,128),(10,512,320),(0,1024,4),(32,2048,1024),(0,4096,8),(128,8192,4096),(320,16384,10240),(528,32768,16896),(2047,0,32784)]
theorem body143:bodyB Tryz.prog 143 = true:=by kernel_rfl
def wide_Long_Times_p (n:Nat) (a0:TLong) (a1:TLong):Option TLong:=
  (wide_multiplied_p n a0.fm a1.fm).bind fun b0=>(wide_trimmed_p n (!(a0.fj == a1.fj)) b0).bind fun c0=>some c0
theorem wide_Long_Times_c (n:Nat) (L:List Nat) (w:World) (hL:∀ b ∈ L,b < w.heap.size) (a0:TLong) {v0_1:Value} (h0_1:Rep.R w L [v0_1] a0.fm) (a1:TLong) {v1_1:Value} (h1_1:Rep.R w L [v1_1] a1.fm)  {r:TLong} (h:wide_Long_Times_p n a0 a1 = some r) :
    Calls Tryz.prog 102 #[.agg #[.bool a0.fj,v0_1],.agg #[.bool a1.fj,v1_1]] w (Gives w fun w' u=>∃ v0_1:Value,u = .agg #[.bool r.fj,v0_1]∧Rep.R w' L [v0_1] r.fm):=by
 unfold wide_Long_Times_p at h
 have hS0:=Ay w
 refine AC Tryz.func102 rfl rfl rfl (fun _ cs0 hb0=>?_)
 refine Ac<|Al .plain rfl (Ax hS0 rfl rfl) (fun U0 E0 s0 H0=>?_)
 refine Al .plain rfl (Ax s0 rfl rfl) (fun V0 F0 t0 I0=>?_)
 refine Al .plain rfl (AA [.bool false,vN] t0) (fun W0 G0 d0 J0=>?_)
 refine Aa<|Aj<|dt 11 tb102_1 (fun b0 c0=>?_)
 refine Ag 0 1 b0 rfl c0 (fun _=>Bi 0 rfl) rfl<|AF 1 3 3088 b0 rfl c0 (AG rfl ((d0.memA (.tl (.tl .hd))) 0 _ rfl)) rfl<|Ag 2 7 b0 rfl c0 (fun _=>Bi 0 rfl) rfl<|AF 3 15 3088 b0 rfl c0 (AG rfl ((d0.memA (.tl .hd)) 0 _ rfl)) rfl<|Ag 4 31 b0 rfl c0 (fun _=>FV.neqB (a:=a0.fj) (b:=a1.fj) Tryz.underlying4 rfl rfl) rfl<|Ag 5 63 b0 rfl c0 (fun _=>Bi 1 rfl) rfl<|AF 6 127 3584 b0 rfl c0 (AG rfl ((d0.memA (.tl (.tl .hd))) 1 _ rfl)) rfl<|Ag 7 255 b0 rfl c0 (fun _=>Bi 1 rfl) rfl<|AF 8 511 3584 b0 rfl c0 (AG rfl ((d0.memA (.tl .hd)) 1 _ rfl)) rfl ?_
 obtain ⟨D0,B0,h⟩:=bi h
 refine RD.cl 9 1023 b0 rfl .plain body143 rfl (e2 rfl rfl) (fun w9 hw9=>wide_multiplied_c n _ w9 (d0.hL hL hw9) a0.fm (d0.km h0_1 hw9) a1.fm (d0.km h1_1 hw9) B0) rfl (fun X0 Q0 x0 ⟨P0,hu_,A0⟩=>?_)
 subst hu_
 obtain ⟨k0,K0⟩:=d0.agr x0
 obtain ⟨q0,C0,h⟩:=bi h
 refine RD.cl 10 2047 b0 rfl .plain body142 rfl (e2 rfl rfl) (fun w9 hw9=>wide_trimmed_c n _ w9 (k0.hL hL hw9) (!(a0.fj == a1.fj)) D0 (Aw A0 hw9) C0) rfl (fun Y0 R0 y0 ⟨j0,hu_,p0⟩=>?_)
 subst hu_
 obtain ⟨u0,M0⟩:=k0.agr y0
 refine Bv 11 4095 b0 rfl rfl .plain (Av (news:=[.bool q0.fj,j0]) u0 .hd rfl rfl rfl rfl rfl rfl (o2 rfl (Bg p0))) (fun Z0 g0 v0=>?_)
 refine AK (dk b0)<|Ak rfl<|Ap hb0 Tryz.func102 rfl (.cons (.many (cs:=[.bool q0.fj,j0]) (by kernel_rfl) rfl (g0.memA .hd)) .nil) rfl ?_
 cases h
 have z0:=Az p0 v0
 exact ⟨g0.ag,fun w9 hw9=>⟨j0,rfl,g0.kd z0 hw9⟩⟩
def tb58_1:List (Nat × Nat × Nat):=[(0,32,4),(1,64,32),(0,128,8),(4,256,128),(10,512,320),(0,1024,4),(32,2048,1024),(0,4096,8),(128,8192,4096),(336,16384,10240),(528,32768,16896),(2047,0,32784)]
theorem body102:bodyB Tryz.prog 102 = true:=by kernel_rfl
def share_Ratio_Times_p (n:Nat) (a0:TRatio) (a1:TRatio):Option TRatio:=
  (wide_Long_Times_p n a0.fy a1.fy).bind fun b0=>(wide_Long_Times_p n a0.ft a1.ft).bind fun c0=>(share_Lowest_p n b0 c0).bind fun d0=>some d0
theorem share_Ratio_Times_c (n:Nat) (L:List Nat) (w:World) (hL:∀ b ∈ L,b < w.heap.size) (a0:TRatio) {v0_1:Value} (h0_1:Rep.R w L [v0_1] a0.fy.fm) {v0_3:Value} (h0_3:Rep.R w L [v0_3] a0.ft.fm) (a1:TRatio) {v1_1:Value} (h1_1:Rep.R w L [v1_1] a1.fy.fm) {v1_3:Value} (h1_3:Rep.R w L [v1_3] a1.ft.fm)  {r:TRatio} (h:share_Ratio_Times_p n a0 a1 = some r) :
    Calls Tryz.prog 58 #[.agg #[.bool a0.fy.fj,v0_1,.bool a0.ft.fj,v0_3],.agg #[.bool a1.fy.fj,v1_1,.bool a1.ft.fj,v1_3]] w (Gives w fun w' u=>∃ v0_1 v0_3:Value,u = .agg #[.bool r.fy.fj,v0_1,.bool r.ft.fj,v0_3]∧Rep.R w' L [v0_1] r.fy.fm∧Rep.R w' L [v0_3] r.ft.fm):=by
 unfold share_Ratio_Times_p at h
 have hS0:=Ay w
 refine AC Tryz.func58 rfl rfl rfl (fun _ cs0 hb0=>?_)
 refine Ac<|Al .plain rfl (Ax hS0 rfl rfl) (fun p1 R0 x0 W0=>?_)
 refine Al .plain rfl (Ax x0 rfl rfl) (fun q1 U0 y0 X0=>?_)
 refine Al .plain rfl (AA [.bool false,vN,.bool false,vN] y0) (fun s1 V0 c0 Y0=>?_)
 refine Aa<|Aj<|dt 11 tb58_1 (fun b0 d0=>?_)
 refine Ag 0 1 b0 rfl d0 (fun _=>Bi 0 rfl) rfl<|AF 1 3 3600 b0 rfl d0 (Br (cs:=[.bool a0.fy.fj,v0_1]) (by kernel_rfl) rfl (mem_part (c0.memA (.tl (.tl .hd))) 0 2)) rfl<|Ag 2 7 b0 rfl d0 (fun _=>Bi 0 rfl) rfl<|AF 3 15 3600 b0 rfl d0 (Br (cs:=[.bool a1.fy.fj,v1_1]) (by kernel_rfl) rfl (mem_part (c0.memA (.tl .hd)) 0 2)) rfl<|Ag 5 47 b0 rfl d0 (fun _=>Bi 2 rfl) rfl<|AF 6 111 3584 b0 rfl d0 (Br (cs:=[.bool a0.ft.fj,v0_3]) (by kernel_rfl) rfl (mem_part (c0.memA (.tl (.tl .hd))) 2 2)) rfl<|Ag 7 239 b0 rfl d0 (fun _=>Bi 2 rfl) rfl<|AF 8 495 3584 b0 rfl d0 (Br (cs:=[.bool a1.ft.fj,v1_3]) (by kernel_rfl) rfl (mem_part (c0.memA (.tl .hd)) 2 2)) rfl ?_
 obtain ⟨P0,J0,h⟩:=bi h
 refine RD.cl 4 511 b0 rfl .plain body102 rfl (e2 rfl rfl) (fun w9 hw9=>wide_Long_Times_c n _ w9 (c0.hL hL hw9) a0.fy (c0.km h0_1 hw9) a1.fy (c0.km h1_1 hw9) J0) rfl (fun t1 g1 B0 ⟨c1,hu_,H0⟩=>?_)
 subst hu_
 obtain ⟨g0,Z0⟩:=c0.agr B0
 obtain ⟨Q0,K0,h⟩:=bi h
 refine RD.cl 9 1023 b0 rfl .plain body102 rfl (e2 rfl rfl) (fun w9 hw9=>wide_Long_Times_c n _ w9 (g0.hL hL hw9) a0.ft (g0.km h0_3 hw9) a1.ft (g0.km h1_3 hw9) K0) rfl (fun u1 j1 C0 ⟨d1,hu_,I0⟩=>?_)
 subst hu_
 obtain ⟨s0,A0⟩:=g0.agr C0
 obtain ⟨k0,M0,h⟩:=bi h
 have E0:=Az H0 A0
 refine RD.cl 10 2047 b0 rfl .plain body101 rfl (e2 rfl rfl) (fun w9 hw9=>share_Lowest_c n _ w9 (s0.hL hL hw9) P0 (Aw E0 hw9) Q0 (Aw I0 hw9) M0) rfl (fun v1 k1 D0 ⟨p0,q0,hu_,u0,v0⟩=>?_)
 subst hu_
 obtain ⟨z0,b1⟩:=s0.agr D0
 refine Bv 11 4095 b0 rfl rfl .plain (Av (news:=[.bool k0.fy.fj,p0,.bool k0.ft.fj,q0]) z0 .hd rfl rfl rfl rfl rfl rfl (o4 rfl (Bg u0) rfl (Bg v0))) (fun x1 j0 t0=>?_)
 refine AK (dk b0)<|Ak rfl<|Ap hb0 Tryz.func58 rfl (.cons (.many (cs:=[.bool k0.fy.fj,p0,.bool k0.ft.fj,q0]) (by kernel_rfl) rfl (j0.memA .hd)) .nil) rfl ?_
 cases h
 have F0:=Az u0 t0
 have G0:=Az v0 t0
 exact ⟨j0.ag,fun w9 hw9=>⟨p0,q0,rfl,j0.kd F0 hw9,j0.kd G0 hw9⟩⟩
def tb57_4:List (Nat × Nat × Nat):=[(0,32768,4),(0,65536,8),(2,131072,65536),(0,262144,16),(12,524288,262144),(21,1048576,688128),(63,0,1048640),(127,128,0)]
theorem body56:bodyB Tryz.prog 56 = true:=by kernel_rfl
theorem body57:bodyB Tryz.prog 57 = true:=by kernel_rfl
theorem body58:bodyB Tryz.prog 58 = true:=by kernel_rfl
theorem body99:bodyB Tryz.prog 99 = true:=by kernel_rfl
def share_Mul_p (n:Nat) (a0:TShare) (a1:TShare):Option (TShare × Int):=
  (share_valid_p n ([a0,a1]:List TShare)).bind fun d0=>(if d0 = true then (share_Read_p n a0).bind fun g0=>(share_Read_p n a1).bind fun j0=>(share_Ratio_Times_p n g0 j0).bind fun k0=>(share_told_p n k0 (0:Int)).bind fun c0=>some (c0.1,c0.2) else (share_told_p n (⟨(⟨false,([]:List UInt64)⟩:TLong),(⟨false,([]:List UInt64)⟩:TLong)⟩:TRatio) (20:Int)).bind fun b0=>some (b0.1,b0.2))
theorem share_Mul_c (n:Nat) (L:List Nat) (w:World) (hL:∀ b ∈ L,b < w.heap.size) (a0:TShare) (a1:TShare)  {r:TShare × Int} (h:share_Mul_p n a0 a1 = some r) :
    Calls Tryz.prog 21 #[.agg ((cs_TShare a0)).toArray,.agg ((cs_TShare a1)).toArray] w (Gives w fun _ u=>u = .tuple #[.agg ((cs_TShare r.1)).toArray,vI r.2]):=by
 unfold share_Mul_p at h
 have hS0:=Ay w
 refine AC Tryz.func21 rfl rfl rfl (fun _ cs0 hb0=>?_)
 refine Ac<|Al .plain rfl (Ax hS0 rfl rfl) (fun s2 y1 I0 J1=>?_)
 refine Al .plain rfl (Ax I0 rfl rfl) (fun t2 z1 J0 K1=>?_)
 refine Al .plain rfl (AA zL J0) (fun u2 A1 q0 M1=>?_)
 refine Af rfl<|Aa<|Ac<|Ab (AJ rfl (q0.memA (.tl (.tl .hd))))<|Ab (AJ rfl (q0.memA (.tl .hd)))<|Bs (fst:=[]) (cap:=[]) (vs:=[.agg ((cs_TShare a0)).toArray,.agg ((cs_TShare a1)).toArray,.func (.func 58) #[] #[]]) .plain body57 Tryz.func57 rfl rfl rfl rfl (e3 rfl rfl rfl) rfl (fun G1 E0 Z1=>?_)
 refine Ac<|Al .plain rfl (Ax q0 rfl rfl) (fun v2 B1 K0 P1=>?_)
 refine Al .plain rfl (Ax K0 rfl rfl) (fun x2 C1 M0 Q1=>?_)
 refine Al .plain rfl (AA [.bool false,vN,.bool false,vN] M0) (fun y2 D1 s0 R1=>?_)
 refine Af rfl<|Aa<|Aj<|Ac<|Ab (AJ rfl (s0.memA (.tl (.tl .hd))))<|Ab (AJ rfl (s0.memA (.tl .hd)))<|Al .plain rfl (AY (α:=TShare) (xs:=([a0,a1]:List TShare)) (vs:=[.agg ((cs_TShare a0)).toArray,.agg ((cs_TShare a1)).toArray]) (ds' :=(cs_TShare a0 ++ cs_TShare a1)) rfl s0 el60 rfl (e2 rfl rfl) (by kernel_rfl) rfl) (fun z2 E1 c0 U1=>?_)
 have V0:=AB (cs:=(cs_TShare a0 ++ cs_TShare a1)) (xs:=(([a0,a1]:List TShare):List TShare)) c0 L (Aq (cs:=(cs_TShare a0)) (ds:=(cs_TShare a1)) (mk_TShare a0.fN a0.fD) (Aq (cs:=(cs_TShare a1)) (ds:=[]) (mk_TShare a1.fN a1.fD) (AN _ _)))
 obtain ⟨u1,k1,h⟩:=bi h
 refine Bc (.bool u1) body99 rfl (e1 rfl) (fun w9 hw9=>share_valid_c n _ w9 (c0.hL0 hL hw9) ([a0,a1]:List TShare) (Aw (St.lend (α:=TShare) (L:=L) c0 .hd V0 hL) hw9) k1) rfl<|Ab (Bz rfl)<|Aa<|MX.ifnb rfl h (fun H0 h=>?_) (fun H0 h=>?_)
 refine Ao<|Aj<|dt 6 tb57_4 (fun b0 t0=>?_)
 refine Ag 0 1 b0 rfl t0 (fun _=>Ai rfl) rfl<|AF 1 3 244 b0 rfl t0 (AJ rfl (c0.memA (.tl (.tl (.tl .hd))))) rfl<|AF 3 11 240 b0 rfl t0 (AJ rfl (c0.memA (.tl (.tl .hd)))) rfl ?_
 obtain ⟨v1,p1,h⟩:=bi h
 refine RD.cl 2 15 b0 rfl .plain body100 rfl (e1 rfl) (fun w9 hw9=>share_Read_c n _ w9 (c0.hL hL hw9) a0 p1) rfl (fun A2 j2 Q0 ⟨b2,c2,hu_,b1,c1⟩=>?_)
 subst hu_
 obtain ⟨y0,V1⟩:=c0.agr Q0
 obtain ⟨x1,q1,h⟩:=bi h
 refine RD.cl 4 31 b0 rfl .plain body100 rfl (e1 rfl) (fun w9 hw9=>share_Read_c n _ w9 (y0.hL hL hw9) a1 q1) rfl (fun B2 k2 R0 ⟨d2,g2,hu_,d1,g1⟩=>?_)
 subst hu_
 obtain ⟨z0,C0⟩:=y0.agr R0
 obtain ⟨d0,s1,h⟩:=bi h
 have W0:=Az b1 C0
 have X0:=Az c1 C0
 refine RD.cl 5 63 b0 rfl .plain body58 rfl (e2 rfl rfl) (fun w9 hw9=>share_Ratio_Times_c n _ w9 (z0.hL hL hw9) v1 (Aw W0 hw9) (Aw X0 hw9) x1 (Aw d1 hw9) (Aw g1 hw9) s1) rfl (fun C2 p2 U0 ⟨u0,v0,hu_,F0,G0⟩=>?_)
 subst hu_
 obtain ⟨P0,W1⟩:=z0.agr U0
 refine Bv 6 127 b0 rfl rfl .plain (Av (news:=[.bool d0.fy.fj,u0,.bool d0.ft.fj,v0]) P0 (.tl .hd) rfl rfl rfl rfl rfl rfl (o4 rfl (Bg F0) rfl (Bg G0))) (fun D2 g0 D0=>?_)
 refine By (i:=7) (rk b0) (RO.val (m' :=255) (sk b0) rfl .plain rfl (AS rfl) ?_)
 refine AK (dk b0)<|Ak rfl<|Ap (u:=.tuple #[.agg #[.bool d0.fy.fj,u0,.bool d0.ft.fj,v0],vI 0]) E0 Tryz.func57 rfl (.cons (.many (cs:=[.bool d0.fy.fj,u0,.bool d0.ft.fj,v0]) (by kernel_rfl) rfl (g0.memA (.tl .hd))) (.cons (.tmp rfl) .nil)) rfl<|Ab (Ah rfl rfl)<|Ab (Ah rfl rfl) ?_
 obtain ⟨k0,t1,h⟩:=bi h
 have Y0:=Az F0 D0
 have Z0:=Az G0 D0
 refine Bc (.tuple #[.agg ((cs_TShare k0.1)).toArray,vI k0.2]) body56 rfl (e2 rfl rfl) (fun w9 hw9=>share_told_c n _ w9 (g0.hL0 hL hw9) d0 (g0.kd Y0 hw9) (g0.kd Z0 hw9) (0:Int) t1) rfl<|Ab (Ah rfl rfl)<|Ab (Ah rfl rfl)<|AX (cs_TShare k0.1) g0 (.tl (.tl (.tl (.tl .hd)))) (onesB rfl) (fun E2 A0 X1=>?_)
 refine Af rfl<|Aa<|Ak rfl<|Ap hb0 Tryz.func21 rfl (.cons (.many (cs:=(cs_TShare k0.1)) (by kernel_rfl) rfl (A0.memA (.tl (.tl (.tl (.tl .hd)))))) (.cons (.tmp rfl) .nil)) rfl ?_
 cases h
 exact A0.gv
 refine Ac<|Al .plain rfl (AA [.bool false,vN,.bool false,vN] c0) (fun F2 F1 B0 Y1=>?_)
 refine Aa<|Ac<|Ab (AJ rfl (B0.memA .hd))<|AX [.bool false,vN,.bool false,vN] B0 (.tl (.tl .hd)) (onesB rfl) (fun G2 p0 H1=>?_)
 refine Af rfl<|Aa<|Ak rfl<|Ap (u:=.tuple #[.agg #[.bool false,vN,.bool false,vN],vI 20]) E0 Tryz.func57 rfl (.cons (.many (cs:=[.bool false,vN,.bool false,vN]) (by kernel_rfl) rfl (p0.memA (.tl (.tl .hd)))) (.cons (.tmp rfl) .nil)) rfl<|Ab (Ah rfl rfl)<|Ab (Ah rfl rfl) ?_
 obtain ⟨j0,j1,h⟩:=bi h
 refine Bc (.tuple #[.agg ((cs_TShare j0.1)).toArray,vI j0.2]) body56 rfl (e2 rfl rfl) (fun w9 hw9=>share_told_c n _ w9 (p0.hL0 hL hw9) (⟨(⟨false,([]:List UInt64)⟩:TLong),(⟨false,([]:List UInt64)⟩:TLong)⟩:TRatio) (Aw (Rep.nilSlice _ _) hw9) (Aw (Rep.nilSlice _ _) hw9) (20:Int) j1) rfl<|Ab (Ah rfl rfl)<|Ab (Ah rfl rfl)<|AX (cs_TShare j0.1) p0 (.tl (.tl (.tl (.tl (.tl .hd))))) (onesB rfl) (fun q2 x0 I1=>?_)
 refine Af rfl<|Aa<|Ak rfl<|Ap hb0 Tryz.func21 rfl (.cons (.many (cs:=(cs_TShare j0.1)) (by kernel_rfl) rfl (x0.memA (.tl (.tl (.tl (.tl (.tl .hd))))))) (.cons (.tmp rfl) .nil)) rfl ?_
 cases h
 exact x0.gv
def tb59_1:List (Nat × Nat × Nat):=[(0,32,4),(1,64,32),(0,128,8),(4,256,128),(10,512,320),(0,1024,8),(32,2048,1024),(0,4096,4),(128,8192,4096),(336,16384,10240),(528,32768,16896),(0,65536,4),(2048,131072,65536),(0,262144,8),(8192,524288,262144),(21504,1048576,655360),(33792,2097152,1081344),(131071,0,2097168)]
def share_Ratio_Plus_p (n:Nat) (a0:TRatio) (a1:TRatio):Option TRatio:=
  (wide_Long_Times_p n a0.fy a1.ft).bind fun b0=>(wide_Long_Times_p n a1.fy a0.ft).bind fun c0=>(wide_Long_Plus_p n b0 c0).bind fun d0=>(wide_Long_Times_p n a0.ft a1.ft).bind fun g0=>(share_Lowest_p n d0 g0).bind fun j0=>some j0
theorem share_Ratio_Plus_c (n:Nat) (L:List Nat) (w:World) (hL:∀ b ∈ L,b < w.heap.size) (a0:TRatio) {v0_1:Value} (h0_1:Rep.R w L [v0_1] a0.fy.fm) {v0_3:Value} (h0_3:Rep.R w L [v0_3] a0.ft.fm) (a1:TRatio) {v1_1:Value} (h1_1:Rep.R w L [v1_1] a1.fy.fm) {v1_3:Value} (h1_3:Rep.R w L [v1_3] a1.ft.fm)  {r:TRatio} (h:share_Ratio_Plus_p n a0 a1 = some r) :
    Calls Tryz.prog 59 #[.agg #[.bool a0.fy.fj,v0_1,.bool a0.ft.fj,v0_3],.agg #[.bool a1.fy.fj,v1_1,.bool a1.ft.fj,v1_3]] w (Gives w fun w' u=>∃ v0_1 v0_3:Value,u = .agg #[.bool r.fy.fj,v0_1,.bool r.ft.fj,v0_3]∧Rep.R w' L [v0_1] r.fy.fm∧Rep.R w' L [v0_3] r.ft.fm):=by
 unfold share_Ratio_Plus_p at h
 have hS0:=Ay w
 refine AC Tryz.func59 rfl rfl rfl (fun _ cs0 hb0=>?_)
 refine Ac<|Al .plain rfl (Ax hS0 rfl rfl) (fun I1 k1 z0 s1=>?_)
 refine Al .plain rfl (Ax z0 rfl rfl) (fun J1 p1 A0 t1=>?_)
 refine Al .plain rfl (AA [.bool false,vN,.bool false,vN] A0) (fun K1 q1 d0 u1=>?_)
 refine Aa<|Aj<|dt 17 tb59_1 (fun b0 c0=>?_)
 refine Ag 0 1 b0 rfl c0 (fun _=>Bi 0 rfl) rfl<|AF 1 3 230928 b0 rfl c0 (Br (cs:=[.bool a0.fy.fj,v0_1]) (by kernel_rfl) rfl (mem_part (d0.memA (.tl (.tl .hd))) 0 2)) rfl<|Ag 2 7 b0 rfl c0 (fun _=>Bi 2 rfl) rfl<|AF 3 15 230928 b0 rfl c0 (Br (cs:=[.bool a1.ft.fj,v1_3]) (by kernel_rfl) rfl (mem_part (d0.memA (.tl .hd)) 2 2)) rfl<|Ag 5 47 b0 rfl c0 (fun _=>Bi 0 rfl) rfl<|AF 6 111 230912 b0 rfl c0 (Br (cs:=[.bool a1.fy.fj,v1_1]) (by kernel_rfl) rfl (mem_part (d0.memA (.tl .hd)) 0 2)) rfl<|Ag 7 239 b0 rfl c0 (fun _=>Bi 2 rfl) rfl<|AF 8 495 230912 b0 rfl c0 (Br (cs:=[.bool a0.ft.fj,v0_3]) (by kernel_rfl) rfl (mem_part (d0.memA (.tl (.tl .hd))) 2 2)) rfl<|Ag 11 2543 b0 rfl c0 (fun _=>Bi 2 rfl) rfl<|AF 12 6639 229376 b0 rfl c0 (Br (cs:=[.bool a0.ft.fj,v0_3]) (by kernel_rfl) rfl (mem_part (d0.memA (.tl (.tl .hd))) 2 2)) rfl<|Ag 13 14831 b0 rfl c0 (fun _=>Bi 2 rfl) rfl<|AF 14 31215 229376 b0 rfl c0 (Br (cs:=[.bool a1.ft.fj,v1_3]) (by kernel_rfl) rfl (mem_part (d0.memA (.tl .hd)) 2 2)) rfl ?_
 obtain ⟨c1,W0,h⟩:=bi h
 refine RD.cl 4 31231 b0 rfl .plain body102 rfl (e2 rfl rfl) (fun w9 hw9=>wide_Long_Times_c n _ w9 (d0.hL hL hw9) a0.fy (d0.km h0_1 hw9) a1.ft (d0.km h1_3 hw9) W0) rfl (fun M1 D1 E0 ⟨z1,hu_,Q0⟩=>?_)
 subst hu_
 obtain ⟨g0,v1⟩:=d0.agr E0
 obtain ⟨d1,X0,h⟩:=bi h
 refine RD.cl 9 31743 b0 rfl .plain body102 rfl (e2 rfl rfl) (fun w9 hw9=>wide_Long_Times_c n _ w9 (g0.hL hL hw9) a1.fy (g0.km h1_1 hw9) a0.ft (g0.km h0_3 hw9) X0) rfl (fun P1 E1 F0 ⟨A1,hu_,R0⟩=>?_)
 subst hu_
 obtain ⟨t0,C0⟩:=g0.agr F0
 obtain ⟨g1,Y0,h⟩:=bi h
 have J0:=Az Q0 C0
 refine RD.cl 10 32767 b0 rfl .plain body103 rfl (e2 rfl rfl) (fun w9 hw9=>wide_Long_Plus_c n _ w9 (t0.hL hL hw9) c1 (Aw J0 hw9) d1 (Aw R0 hw9) Y0) rfl (fun Q1 F1 G0 ⟨B1,hu_,U0⟩=>?_)
 subst hu_
 obtain ⟨j0,x1⟩:=t0.agr G0
 obtain ⟨j1,Z0,h⟩:=bi h
 refine RD.cl 15 65535 b0 rfl .plain body102 rfl (e2 rfl rfl) (fun w9 hw9=>wide_Long_Times_c n _ w9 (j0.hL hL hw9) a0.ft (j0.km h0_3 hw9) a1.ft (j0.km h1_3 hw9) Z0) rfl (fun R1 G1 H0 ⟨C1,hu_,V0⟩=>?_)
 subst hu_
 obtain ⟨u0,D0⟩:=j0.agr H0
 obtain ⟨p0,b1,h⟩:=bi h
 have K0:=Az U0 D0
 refine RD.cl 16 131071 b0 rfl .plain body101 rfl (e2 rfl rfl) (fun w9 hw9=>share_Lowest_c n _ w9 (u0.hL hL hw9) g1 (Aw K0 hw9) j1 (Aw V0 hw9) b1) rfl (fun U1 H1 I0 ⟨q0,s0,hu_,x0,y0⟩=>?_)
 subst hu_
 obtain ⟨B0,y1⟩:=u0.agr I0
 refine Bv 17 262143 b0 rfl rfl .plain (Av (news:=[.bool p0.fy.fj,q0,.bool p0.ft.fj,s0]) B0 .hd rfl rfl rfl rfl rfl rfl (o4 rfl (Bg x0) rfl (Bg y0))) (fun V1 k0 v0=>?_)
 refine AK (dk b0)<|Ak rfl<|Ap hb0 Tryz.func59 rfl (.cons (.many (cs:=[.bool p0.fy.fj,q0,.bool p0.ft.fj,s0]) (by kernel_rfl) rfl (k0.memA .hd)) .nil) rfl ?_
 cases h
 have M0:=Az x0 v0
 have P0:=Az y0 v0
 exact ⟨k0.ag,fun w9 hw9=>⟨q0,s0,rfl,k0.kd M0 hw9,k0.kd P0 hw9⟩⟩
theorem body59:bodyB Tryz.prog 59 = true:=by kernel_rfl
def share_Add_p (n:Nat) (a0:TShare) (a1:TShare):Option (TShare × Int):=
  (share_valid_p n ([a0,a1]:List TShare)).bind fun d0=>(if d0 = true then (share_Read_p n a0).bind fun g0=>(share_Read_p n a1).bind fun j0=>(share_Ratio_Plus_p n g0 j0).bind fun k0=>(share_told_p n k0 (0:Int)).bind fun c0=>some (c0.1,c0.2) else (share_told_p n (⟨(⟨false,([]:List UInt64)⟩:TLong),(⟨false,([]:List UInt64)⟩:TLong)⟩:TRatio) (20:Int)).bind fun b0=>some (b0.1,b0.2))
theorem share_Add_c (n:Nat) (L:List Nat) (w:World) (hL:∀ b ∈ L,b < w.heap.size) (a0:TShare) (a1:TShare)  {r:TShare × Int} (h:share_Add_p n a0 a1 = some r) :
    Calls Tryz.prog 22 #[.agg ((cs_TShare a0)).toArray,.agg ((cs_TShare a1)).toArray] w (Gives w fun _ u=>u = .tuple #[.agg ((cs_TShare r.1)).toArray,vI r.2]):=by
 unfold share_Add_p at h
 have hS0:=Ay w
 refine AC Tryz.func22 rfl rfl rfl (fun _ cs0 hb0=>?_)
 refine Ac<|Al .plain rfl (Ax hS0 rfl rfl) (fun s2 y1 I0 J1=>?_)
 refine Al .plain rfl (Ax I0 rfl rfl) (fun t2 z1 J0 K1=>?_)
 refine Al .plain rfl (AA zL J0) (fun u2 A1 q0 M1=>?_)
 refine Af rfl<|Aa<|Ac<|Ab (AJ rfl (q0.memA (.tl (.tl .hd))))<|Ab (AJ rfl (q0.memA (.tl .hd)))<|Bs (fst:=[]) (cap:=[]) (vs:=[.agg ((cs_TShare a0)).toArray,.agg ((cs_TShare a1)).toArray,.func (.func 59) #[] #[]]) .plain body57 Tryz.func57 rfl rfl rfl rfl (e3 rfl rfl rfl) rfl (fun G1 E0 Z1=>?_)
 refine Ac<|Al .plain rfl (Ax q0 rfl rfl) (fun v2 B1 K0 P1=>?_)
 refine Al .plain rfl (Ax K0 rfl rfl) (fun x2 C1 M0 Q1=>?_)
 refine Al .plain rfl (AA [.bool false,vN,.bool false,vN] M0) (fun y2 D1 s0 R1=>?_)
 refine Af rfl<|Aa<|Aj<|Ac<|Ab (AJ rfl (s0.memA (.tl (.tl .hd))))<|Ab (AJ rfl (s0.memA (.tl .hd)))<|Al .plain rfl (AY (α:=TShare) (xs:=([a0,a1]:List TShare)) (vs:=[.agg ((cs_TShare a0)).toArray,.agg ((cs_TShare a1)).toArray]) (ds' :=(cs_TShare a0 ++ cs_TShare a1)) rfl s0 el60 rfl (e2 rfl rfl) (by kernel_rfl) rfl) (fun z2 E1 c0 U1=>?_)
 have V0:=AB (cs:=(cs_TShare a0 ++ cs_TShare a1)) (xs:=(([a0,a1]:List TShare):List TShare)) c0 L (Aq (cs:=(cs_TShare a0)) (ds:=(cs_TShare a1)) (mk_TShare a0.fN a0.fD) (Aq (cs:=(cs_TShare a1)) (ds:=[]) (mk_TShare a1.fN a1.fD) (AN _ _)))
 obtain ⟨u1,k1,h⟩:=bi h
 refine Bc (.bool u1) body99 rfl (e1 rfl) (fun w9 hw9=>share_valid_c n _ w9 (c0.hL0 hL hw9) ([a0,a1]:List TShare) (Aw (St.lend (α:=TShare) (L:=L) c0 .hd V0 hL) hw9) k1) rfl<|Ab (Bz rfl)<|Aa<|MX.ifnb rfl h (fun H0 h=>?_) (fun H0 h=>?_)
 refine Ao<|Aj<|dt 6 tb57_4 (fun b0 t0=>?_)
 refine Ag 0 1 b0 rfl t0 (fun _=>Ai rfl) rfl<|AF 1 3 244 b0 rfl t0 (AJ rfl (c0.memA (.tl (.tl (.tl .hd))))) rfl<|AF 3 11 240 b0 rfl t0 (AJ rfl (c0.memA (.tl (.tl .hd)))) rfl ?_
 obtain ⟨v1,p1,h⟩:=bi h
 refine RD.cl 2 15 b0 rfl .plain body100 rfl (e1 rfl) (fun w9 hw9=>share_Read_c n _ w9 (c0.hL hL hw9) a0 p1) rfl (fun A2 j2 Q0 ⟨b2,c2,hu_,b1,c1⟩=>?_)
 subst hu_
 obtain ⟨y0,V1⟩:=c0.agr Q0
 obtain ⟨x1,q1,h⟩:=bi h
 refine RD.cl 4 31 b0 rfl .plain body100 rfl (e1 rfl) (fun w9 hw9=>share_Read_c n _ w9 (y0.hL hL hw9) a1 q1) rfl (fun B2 k2 R0 ⟨d2,g2,hu_,d1,g1⟩=>?_)
 subst hu_
 obtain ⟨z0,C0⟩:=y0.agr R0
 obtain ⟨d0,s1,h⟩:=bi h
 have W0:=Az b1 C0
 have X0:=Az c1 C0
 refine RD.cl 5 63 b0 rfl .plain body59 rfl (e2 rfl rfl) (fun w9 hw9=>share_Ratio_Plus_c n _ w9 (z0.hL hL hw9) v1 (Aw W0 hw9) (Aw X0 hw9) x1 (Aw d1 hw9) (Aw g1 hw9) s1) rfl (fun C2 p2 U0 ⟨u0,v0,hu_,F0,G0⟩=>?_)
 subst hu_
 obtain ⟨P0,W1⟩:=z0.agr U0
 refine Bv 6 127 b0 rfl rfl .plain (Av (news:=[.bool d0.fy.fj,u0,.bool d0.ft.fj,v0]) P0 (.tl .hd) rfl rfl rfl rfl rfl rfl (o4 rfl (Bg F0) rfl (Bg G0))) (fun D2 g0 D0=>?_)
 refine By (i:=7) (rk b0) (RO.val (m' :=255) (sk b0) rfl .plain rfl (AS rfl) ?_)
 refine AK (dk b0)<|Ak rfl<|Ap (u:=.tuple #[.agg #[.bool d0.fy.fj,u0,.bool d0.ft.fj,v0],vI 0]) E0 Tryz.func57 rfl (.cons (.many (cs:=[.bool d0.fy.fj,u0,.bool d0.ft.fj,v0]) (by kernel_rfl) rfl (g0.memA (.tl .hd))) (.cons (.tmp rfl) .nil)) rfl<|Ab (Ah rfl rfl)<|Ab (Ah rfl rfl) ?_
 obtain ⟨k0,t1,h⟩:=bi h
 have Y0:=Az F0 D0
 have Z0:=Az G0 D0
 refine Bc (.tuple #[.agg ((cs_TShare k0.1)).toArray,vI k0.2]) body56 rfl (e2 rfl rfl) (fun w9 hw9=>share_told_c n _ w9 (g0.hL0 hL hw9) d0 (g0.kd Y0 hw9) (g0.kd Z0 hw9) (0:Int) t1) rfl<|Ab (Ah rfl rfl)<|Ab (Ah rfl rfl)<|AX (cs_TShare k0.1) g0 (.tl (.tl (.tl (.tl .hd)))) (onesB rfl) (fun E2 A0 X1=>?_)
 refine Af rfl<|Aa<|Ak rfl<|Ap hb0 Tryz.func22 rfl (.cons (.many (cs:=(cs_TShare k0.1)) (by kernel_rfl) rfl (A0.memA (.tl (.tl (.tl (.tl .hd)))))) (.cons (.tmp rfl) .nil)) rfl ?_
 cases h
 exact A0.gv
 refine Ac<|Al .plain rfl (AA [.bool false,vN,.bool false,vN] c0) (fun F2 F1 B0 Y1=>?_)
 refine Aa<|Ac<|Ab (AJ rfl (B0.memA .hd))<|AX [.bool false,vN,.bool false,vN] B0 (.tl (.tl .hd)) (onesB rfl) (fun G2 p0 H1=>?_)
 refine Af rfl<|Aa<|Ak rfl<|Ap (u:=.tuple #[.agg #[.bool false,vN,.bool false,vN],vI 20]) E0 Tryz.func57 rfl (.cons (.many (cs:=[.bool false,vN,.bool false,vN]) (by kernel_rfl) rfl (p0.memA (.tl (.tl .hd)))) (.cons (.tmp rfl) .nil)) rfl<|Ab (Ah rfl rfl)<|Ab (Ah rfl rfl) ?_
 obtain ⟨j0,j1,h⟩:=bi h
 refine Bc (.tuple #[.agg ((cs_TShare j0.1)).toArray,vI j0.2]) body56 rfl (e2 rfl rfl) (fun w9 hw9=>share_told_c n _ w9 (p0.hL0 hL hw9) (⟨(⟨false,([]:List UInt64)⟩:TLong),(⟨false,([]:List UInt64)⟩:TLong)⟩:TRatio) (Aw (Rep.nilSlice _ _) hw9) (Aw (Rep.nilSlice _ _) hw9) (20:Int) j1) rfl<|Ab (Ah rfl rfl)<|Ab (Ah rfl rfl)<|AX (cs_TShare j0.1) p0 (.tl (.tl (.tl (.tl (.tl .hd))))) (onesB rfl) (fun q2 x0 I1=>?_)
 refine Af rfl<|Aa<|Ak rfl<|Ap hb0 Tryz.func22 rfl (.cons (.many (cs:=(cs_TShare j0.1)) (by kernel_rfl) rfl (x0.memA (.tl (.tl (.tl (.tl (.tl .hd))))))) (.cons (.tmp rfl) .nil)) rfl ?_
 cases h
 exact x0.gv
def interest_must_list_api_Share_p (_n:Nat) (a0:List TShare) (a1:Int):Option (Except Tbroken (List TShare)):=
  (if a1 = 0 then some (.ok a0) else some (.error (⟨a1⟩:Tbroken)))
theorem interest_must_list_api_Share_c (n:Nat) (L:List Nat) (w:World) (_hL:∀ b ∈ L,b < w.heap.size) (a0:List TShare) {v0_0:Value} (h0_0:Rep.R w L [v0_0] a0) (a1:Int)  {r:Except Tbroken (List TShare)} (h:interest_must_list_api_Share_p n a0 a1 = some r) :
    Calls Tryz.prog 62 #[v0_0,vI a1] w (PGives w (fun (y:List TShare) w' u=>∃ v0_0:Value,u = v0_0∧Rep.R w' L [v0_0] y) (fun e=>.iface 176 (.agg #[vI e.fw])) r):=by
 unfold interest_must_list_api_Share_p at h
 have hS0:=Ay w
 refine MX.startP Tryz.func62 rfl rfl rfl (fun _ cs0 hb0 hp0=>?_)
 refine Ac<|Af rfl<|Aa<|Aj<|Ac<|Ae rfl<|Ab (FV.neq (i:=a1) (j:=0) rfl rfl)<|Aa<|MX.ifn rfl h (fun c1 h=>?_) (fun c1 h=>?_)
 refine Ao<|Ac<|Ae rfl<|Af rfl<|Aa<|Ak rfl<|AP hb0 Tryz.func62 rfl rfl ?_
 cases h
 exact ⟨hS0.ag,fun w9 hw9=>okOf_in ⟨v0_0,rfl,hS0.kd h0_0 hw9⟩⟩
 refine Am<|Ae rfl<|Ab (AV (vs:=[vI a1]) (u:=.agg #[vI a1]) (e1 rfl) (fun w9=>by kernel_rfl))<|Ab (FV.makeInterface (by kernel_rfl) rfl)<|RG.panic .plain rfl ?_
 cases h
 exact Bm hp0 Tryz.func62 ⟨hS0.ag,rfl⟩
def interest_fail_p (n:Nat) (a0:Bool) (a1:Int):Option (Except Tbroken Unit):=
  (if a0 = true then (interest_need_p n a1).bind fun y2=>exc y2 (fun _y11=>some (.ok ())) (fun b0=>some (.error b0)) else some (.ok ()))
theorem interest_fail_c (n:Nat) (L:List Nat) (w:World) (hL:∀ b ∈ L,b < w.heap.size) (a0:Bool) (a1:Int)  {r:Except Tbroken Unit} (h:interest_fail_p n a0 a1 = some r) :
    Calls Tryz.prog 63 #[.bool a0,vI a1] w (PGives w (fun (_y:Unit) _ u=>u = .tuple #[]) (fun e=>.iface 176 (.agg #[vI e.fw])) r):=by
 unfold interest_fail_p at h
 have hS0:=Ay w
 refine MX.startP Tryz.func63 rfl rfl rfl (fun _ cs0 hb0 hp0=>?_)
 refine Ac<|Ae rfl<|Aa<|MX.ifb rfl h (fun c1 h=>?_) (fun c1 h=>?_)
 refine Am<|Ae rfl ?_
 obtain ⟨y2,hy2,h⟩:=bi h
 rcases y2 with d0 | k0
 have h:=exc_e h
 try dsimp only at h
 refine Bw (fst:=[]) (cap:=[]) .plain body94 rfl (e1 rfl) (fun w9 hw9=>interest_need_c n _ w9 (hS0.hL0 hL hw9) a1 hy2) (fun j0 c0=>?_)
 obtain ⟨b0,g0⟩:=hS0.agr c0
 cases h
 exact Bm hp0 Tryz.func63 ⟨b0.ag,rfl⟩
 have h:=exc_o h
 try dsimp only at h
 refine Bc (.tuple #[]) body94 rfl (e1 rfl) (fun w9 hw9=>Bl (interest_need_c n _ w9 (hS0.hL0 hL hw9) a1 hy2)) rfl<|Aa<|MX.fin rfl<|Ap hb0 Tryz.func63 rfl .nil rfl ?_
 cases h
 exact ⟨hS0.ag,fun w9 hw9=>okOf_in rfl⟩
 refine Ao<|MX.fin rfl<|Ap hb0 Tryz.func63 rfl .nil rfl ?_
 cases h
 exact ⟨hS0.ag,fun w9 hw9=>okOf_in rfl⟩
def tb105_1:List (Nat × Nat × Nat):=[(0,32,4),(1,64,32),(0,128,8),(4,256,128),(10,512,320),(0,1024,4),(32,2048,1024),(0,4096,8),(128,8192,4096),(336,16384,10240),(528,32768,16896),(2047,0,32784)]
def share_Ratio_Over_p (n:Nat) (a0:TRatio) (a1:TRatio):Option TRatio:=
  (wide_Long_Times_p n a0.fy a1.ft).bind fun b0=>(wide_Long_Times_p n a0.ft a1.fy).bind fun c0=>(share_Lowest_p n b0 c0).bind fun d0=>some d0
theorem share_Ratio_Over_c (n:Nat) (L:List Nat) (w:World) (hL:∀ b ∈ L,b < w.heap.size) (a0:TRatio) {v0_1:Value} (h0_1:Rep.R w L [v0_1] a0.fy.fm) {v0_3:Value} (h0_3:Rep.R w L [v0_3] a0.ft.fm) (a1:TRatio) {v1_1:Value} (h1_1:Rep.R w L [v1_1] a1.fy.fm) {v1_3:Value} (h1_3:Rep.R w L [v1_3] a1.ft.fm)  {r:TRatio} (h:share_Ratio_Over_p n a0 a1 = some r) :
    Calls Tryz.prog 105 #[.agg #[.bool a0.fy.fj,v0_1,.bool a0.ft.fj,v0_3],.agg #[.bool a1.fy.fj,v1_1,.bool a1.ft.fj,v1_3]] w (Gives w fun w' u=>∃ v0_1 v0_3:Value,u = .agg #[.bool r.fy.fj,v0_1,.bool r.ft.fj,v0_3]∧Rep.R w' L [v0_1] r.fy.fm∧Rep.R w' L [v0_3] r.ft.fm):=by
 unfold share_Ratio_Over_p at h
 have hS0:=Ay w
 refine AC Tryz.func105 rfl rfl rfl (fun _ cs0 hb0=>?_)
 refine Ac<|Al .plain rfl (Ax hS0 rfl rfl) (fun p1 R0 x0 W0=>?_)
 refine Al .plain rfl (Ax x0 rfl rfl) (fun q1 U0 y0 X0=>?_)
 refine Al .plain rfl (AA [.bool false,vN,.bool false,vN] y0) (fun s1 V0 c0 Y0=>?_)
 refine Aa<|Aj<|dt 11 tb105_1 (fun b0 d0=>?_)
 refine Ag 0 1 b0 rfl d0 (fun _=>Bi 0 rfl) rfl<|AF 1 3 3600 b0 rfl d0 (Br (cs:=[.bool a0.fy.fj,v0_1]) (by kernel_rfl) rfl (mem_part (c0.memA (.tl (.tl .hd))) 0 2)) rfl<|Ag 2 7 b0 rfl d0 (fun _=>Bi 2 rfl) rfl<|AF 3 15 3600 b0 rfl d0 (Br (cs:=[.bool a1.ft.fj,v1_3]) (by kernel_rfl) rfl (mem_part (c0.memA (.tl .hd)) 2 2)) rfl<|Ag 5 47 b0 rfl d0 (fun _=>Bi 2 rfl) rfl<|AF 6 111 3584 b0 rfl d0 (Br (cs:=[.bool a0.ft.fj,v0_3]) (by kernel_rfl) rfl (mem_part (c0.memA (.tl (.tl .hd))) 2 2)) rfl<|Ag 7 239 b0 rfl d0 (fun _=>Bi 0 rfl) rfl<|AF 8 495 3584 b0 rfl d0 (Br (cs:=[.bool a1.fy.fj,v1_1]) (by kernel_rfl) rfl (mem_part (c0.memA (.tl .hd)) 0 2)) rfl ?_
 obtain ⟨P0,J0,h⟩:=bi h
 refine RD.cl 4 511 b0 rfl .plain body102 rfl (e2 rfl rfl) (fun w9 hw9=>wide_Long_Times_c n _ w9 (c0.hL hL hw9) a0.fy (c0.km h0_1 hw9) a1.ft (c0.km h1_3 hw9) J0) rfl (fun t1 g1 B0 ⟨c1,hu_,H0⟩=>?_)
 subst hu_
 obtain ⟨g0,Z0⟩:=c0.agr B0
 obtain ⟨Q0,K0,h⟩:=bi h
 refine RD.cl 9 1023 b0 rfl .plain body102 rfl (e2 rfl rfl) (fun w9 hw9=>wide_Long_Times_c n _ w9 (g0.hL hL hw9) a0.ft (g0.km h0_3 hw9) a1.fy (g0.km h1_1 hw9) K0) rfl (fun u1 j1 C0 ⟨d1,hu_,I0⟩=>?_)
 subst hu_
 obtain ⟨s0,A0⟩:=g0.agr C0
 obtain ⟨k0,M0,h⟩:=bi h
 have E0:=Az H0 A0
 refine RD.cl 10 2047 b0 rfl .plain body101 rfl (e2 rfl rfl) (fun w9 hw9=>share_Lowest_c n _ w9 (s0.hL hL hw9) P0 (Aw E0 hw9) Q0 (Aw I0 hw9) M0) rfl (fun v1 k1 D0 ⟨p0,q0,hu_,u0,v0⟩=>?_)
 subst hu_
 obtain ⟨z0,b1⟩:=s0.agr D0
 refine Bv 11 4095 b0 rfl rfl .plain (Av (news:=[.bool k0.fy.fj,p0,.bool k0.ft.fj,q0]) z0 .hd rfl rfl rfl rfl rfl rfl (o4 rfl (Bg u0) rfl (Bg v0))) (fun x1 j0 t0=>?_)
 refine AK (dk b0)<|Ak rfl<|Ap hb0 Tryz.func105 rfl (.cons (.many (cs:=[.bool k0.fy.fj,p0,.bool k0.ft.fj,q0]) (by kernel_rfl) rfl (j0.memA .hd)) .nil) rfl ?_
 cases h
 have F0:=Az u0 t0
 have G0:=Az v0 t0
 exact ⟨j0.ag,fun w9 hw9=>⟨p0,q0,rfl,j0.kd F0 hw9,j0.kd G0 hw9⟩⟩
theorem body105:bodyB Tryz.prog 105 = true:=by kernel_rfl
def share_Div_p (n:Nat) (a0:TShare) (a1:TShare):Option (TShare × Int):=
  (share_valid_p n ([a0,a1]:List TShare)).bind fun s0=>(if s0 = true then (if a1.fN = ((0:UInt64),(0:UInt64),(0:UInt64),(0:UInt64),(0:UInt64),(0:UInt64),(0:UInt64),(0:UInt64)) then some ((⟨((0:UInt64),(0:UInt64),(0:UInt64),(0:UInt64),(0:UInt64),(0:UInt64),(0:UInt64),(0:UInt64)),((0:UInt64),(0:UInt64),(0:UInt64),(0:UInt64),(0:UInt64),(0:UInt64),(0:UInt64),(0:UInt64))⟩:TShare),(7:Int)) else (share_valid_p n ([a0,a1]:List TShare)).bind fun t0=>(if t0 = true then (share_Read_p n a0).bind fun u0=>(share_Read_p n a1).bind fun v0=>(share_Ratio_Over_p n u0 v0).bind fun x0=>(share_told_p n x0 (0:Int)).bind fun b0=>some (b0.1,b0.2) else (share_told_p n (⟨(⟨false,([]:List UInt64)⟩:TLong),(⟨false,([]:List UInt64)⟩:TLong)⟩:TRatio) (20:Int)).bind fun c0=>some (c0.1,c0.2))) else (share_valid_p n ([a0,a1]:List TShare)).bind fun j0=>(if j0 = true then (share_Read_p n a0).bind fun k0=>(share_Read_p n a1).bind fun p0=>(share_Ratio_Over_p n k0 p0).bind fun q0=>(share_told_p n q0 (0:Int)).bind fun d0=>some (d0.1,d0.2) else (share_told_p n (⟨(⟨false,([]:List UInt64)⟩:TLong),(⟨false,([]:List UInt64)⟩:TLong)⟩:TRatio) (20:Int)).bind fun g0=>some (g0.1,g0.2)))
theorem share_Div_c (n:Nat) (L:List Nat) (w:World) (hL:∀ b ∈ L,b < w.heap.size) (a0:TShare) (a1:TShare)  {r:TShare × Int} (h:share_Div_p n a0 a1 = some r) :
    Calls Tryz.prog 66 #[.agg ((cs_TShare a0)).toArray,.agg ((cs_TShare a1)).toArray] w (Gives w fun _ u=>u = .tuple #[.agg ((cs_TShare r.1)).toArray,vI r.2]):=by
 unfold share_Div_p at h
 have hS0:=Ay w
 refine AC Tryz.func66 rfl rfl rfl (fun _ cs0 hb0=>?_)
 refine Ac<|Al .plain rfl (Ax hS0 rfl rfl) (fun C4 Y2 y1 B3=>?_)
 refine Al .plain rfl (Ax y1 rfl rfl) (fun M4 b3 B1 G3=>?_)
 refine Al .plain rfl (AA zL B1) (fun X4 d3 B0 M3=>?_)
 refine Af rfl<|Aa<|Aj<|Ac<|Ab (AJ rfl (B0.memA (.tl (.tl .hd))))<|Ab (AJ rfl (B0.memA (.tl .hd)))<|Al .plain rfl (AY (α:=TShare) (xs:=([a0,a1]:List TShare)) (vs:=[.agg ((cs_TShare a0)).toArray,.agg ((cs_TShare a1)).toArray]) (ds' :=(cs_TShare a0 ++ cs_TShare a1)) rfl B0 el60 rfl (e2 rfl rfl) (by kernel_rfl) rfl) (fun Y4 g3 b0 P3=>?_)
 have Q1:=AB (cs:=(cs_TShare a0 ++ cs_TShare a1)) (xs:=(([a0,a1]:List TShare):List TShare)) b0 L (Aq (cs:=(cs_TShare a0)) (ds:=(cs_TShare a1)) (mk_TShare a0.fN a0.fD) (Aq (cs:=(cs_TShare a1)) (ds:=[]) (mk_TShare a1.fN a1.fD) (AN _ _)))
 obtain ⟨M2,D2,h⟩:=bi h
 refine Bc (.bool M2) body99 rfl (e1 rfl) (fun w9 hw9=>share_valid_c n _ w9 (b0.hL0 hL hw9) ([a0,a1]:List TShare) (Aw (St.lend (α:=TShare) (L:=L) b0 .hd Q1 hL) hw9) D2) rfl<|Ae rfl<|RG.ifb (s:=10) rfl h (fun u1 h=>?_) (fun u1 h=>?_)
 refine RG.fg 0 rfl<|AU (Br (cs:=(cs_A39 a1.fN)) (by kernel_rfl) rfl (mem_part (b0.memA (.tl (.tl .hd))) 0 8))<|AU (AV (vs:=[]) (u:=.agg zQ) evs_nil (fun w9=>by kernel_rfl))<|AU (FV.eqlV (v:=.agg ((cs_A39 a1.fN)).toArray) (u:=.agg zQ) rfl rfl (eqlD_40 a1.fN ((0:UInt64),(0:UInt64),(0:UInt64),(0:UInt64),(0:UInt64),(0:UInt64),(0:UInt64),(0:UInt64))))<|RG.pt rfl rfl<|Aa<|AO rfl h (fun v1 h=>?_) (fun v1 h=>?_)
 refine Ac<|Ab (AV (vs:=[]) (u:=.agg zM) evs_nil (fun w9=>by kernel_rfl))<|AX zL b0 (.tl .hd) (onesB rfl) (fun Z4 W0 Q3=>?_)
 refine Af rfl<|Aa<|Ak rfl<|Ap hb0 Tryz.func66 rfl (.cons (.many (cs:=zL) (by kernel_rfl) rfl (W0.memA (.tl .hd))) (.cons (.tmp rfl) .nil)) rfl ?_
 cases h
 exact W0.gv
 refine Ao<|Ac<|Ab (AJ rfl (b0.memA (.tl (.tl (.tl .hd)))))<|Ab (AJ rfl (b0.memA (.tl (.tl .hd))))<|Bs (fst:=[]) (cap:=[]) (vs:=[.agg ((cs_TShare a0)).toArray,.agg ((cs_TShare a1)).toArray,.func (.func 105) #[] #[]]) .plain body57 Tryz.func57 rfl rfl rfl rfl (e3 rfl rfl rfl) rfl (fun t3 j1 b4=>?_)
 refine Ac<|Al .plain rfl (Ax b0 rfl rfl) (fun b5 j3 D1 R3=>?_)
 refine Al .plain rfl (Ax D1 rfl rfl) (fun c5 k3 E1 U3=>?_)
 refine Al .plain rfl (AA [.bool false,vN,.bool false,vN] E1) (fun d5 p3 C0 V3=>?_)
 refine Af rfl<|Aa<|Aj<|Ac<|Ab (AJ rfl (C0.memA (.tl (.tl .hd))))<|Ab (AJ rfl (C0.memA (.tl .hd)))<|Al .plain rfl (AY (α:=TShare) (xs:=([a0,a1]:List TShare)) (vs:=[.agg ((cs_TShare a0)).toArray,.agg ((cs_TShare a1)).toArray]) (ds' :=(cs_TShare a0 ++ cs_TShare a1)) rfl C0 el60 rfl (e2 rfl rfl) (by kernel_rfl) rfl) (fun g5 q3 j0 W3=>?_)
 have R1:=AB (cs:=(cs_TShare a0 ++ cs_TShare a1)) (xs:=(([a0,a1]:List TShare):List TShare)) j0 L (Aq (cs:=(cs_TShare a0)) (ds:=(cs_TShare a1)) (mk_TShare a0.fN a0.fD) (Aq (cs:=(cs_TShare a1)) (ds:=[]) (mk_TShare a1.fN a1.fD) (AN _ _)))
 obtain ⟨P2,E2,h⟩:=bi h
 refine Bc (.bool P2) body99 rfl (e1 rfl) (fun w9 hw9=>share_valid_c n _ w9 (j0.hL0 hL hw9) ([a0,a1]:List TShare) (Aw (St.lend (α:=TShare) (L:=L) j0 .hd R1 hL) hw9) E2) rfl<|Ab (Bz rfl)<|Aa<|MX.ifnb rfl h (fun x1 h=>?_) (fun x1 h=>?_)
 refine Ao<|Aj<|dt 6 tb57_4 (fun d0 E0=>?_)
 refine Ag 0 1 d0 rfl E0 (fun _=>Ai rfl) rfl<|AF 1 3 244 d0 rfl E0 (AJ rfl (j0.memA (.tl (.tl (.tl .hd))))) rfl<|AF 3 11 240 d0 rfl E0 (AJ rfl (j0.memA (.tl (.tl .hd)))) rfl ?_
 obtain ⟨Q2,F2,h⟩:=bi h
 refine RD.cl 2 15 d0 rfl .plain body100 rfl (e1 rfl) (fun w9 hw9=>share_Read_c n _ w9 (j0.hL hL hw9) a0 F2) rfl (fun j5 x4 J1 ⟨k4,p4,hu_,p2,q2⟩=>?_)
 subst hu_
 obtain ⟨X0,X3⟩:=j0.agr J1
 obtain ⟨R2,G2,h⟩:=bi h
 refine RD.cl 4 31 d0 rfl .plain body100 rfl (e1 rfl) (fun w9 hw9=>share_Read_c n _ w9 (X0.hL hL hw9) a1 G2) rfl (fun k5 y4 K1 ⟨q4,s4,hu_,s2,t2⟩=>?_)
 subst hu_
 obtain ⟨Y0,c1⟩:=X0.agr K1
 obtain ⟨p0,H2,h⟩:=bi h
 have b2:=Az p2 c1
 have c2:=Az q2 c1
 refine RD.cl 5 63 d0 rfl .plain body105 rfl (e2 rfl rfl) (fun w9 hw9=>share_Ratio_Over_c n _ w9 (Y0.hL hL hw9) Q2 (Aw b2 hw9) (Aw c2 hw9) R2 (Aw s2 hw9) (Aw t2 hw9) H2) rfl (fun p5 z4 M1 ⟨H0,I0,hu_,q1,s1⟩=>?_)
 subst hu_
 obtain ⟨F1,Y3⟩:=Y0.agr M1
 refine Bv 6 127 d0 rfl rfl .plain (Av (news:=[.bool p0.fy.fj,H0,.bool p0.ft.fj,I0]) F1 (.tl .hd) rfl rfl rfl rfl rfl rfl (o4 rfl (Bg q1) rfl (Bg s1))) (fun q5 s0 d1=>?_)
 refine By (i:=7) (rk d0) (RO.val (m' :=255) (sk d0) rfl .plain rfl (AS rfl) ?_)
 refine AK (dk d0)<|Ak rfl<|Ap (u:=.tuple #[.agg #[.bool p0.fy.fj,H0,.bool p0.ft.fj,I0],vI 0]) j1 Tryz.func57 rfl (.cons (.many (cs:=[.bool p0.fy.fj,H0,.bool p0.ft.fj,I0]) (by kernel_rfl) rfl (s0.memA (.tl .hd))) (.cons (.tmp rfl) .nil)) rfl<|Ab (Ah rfl rfl)<|Ab (Ah rfl rfl) ?_
 obtain ⟨t0,u2,h⟩:=bi h
 have U1:=Az q1 d1
 have V1:=Az s1 d1
 refine Bc (.tuple #[.agg ((cs_TShare t0.1)).toArray,vI t0.2]) body56 rfl (e2 rfl rfl) (fun w9 hw9=>share_told_c n _ w9 (s0.hL0 hL hw9) p0 (s0.kd U1 hw9) (s0.kd V1 hw9) (0:Int) u2) rfl<|Ab (Ah rfl rfl)<|Ab (Ah rfl rfl)<|AX (cs_TShare t0.1) s0 (.tl (.tl (.tl (.tl (.tl .hd))))) (onesB rfl) (fun A4 J0 u3=>?_)
 refine Af rfl<|Aa<|Ak rfl<|Ap hb0 Tryz.func66 rfl (.cons (.many (cs:=(cs_TShare t0.1)) (by kernel_rfl) rfl (J0.memA (.tl (.tl (.tl (.tl (.tl .hd))))))) (.cons (.tmp rfl) .nil)) rfl ?_
 cases h
 exact J0.gv
 refine Ac<|Al .plain rfl (AA [.bool false,vN,.bool false,vN] j0) (fun B4 U2 K0 v3=>?_)
 refine Aa<|Ac<|Ab (AJ rfl (K0.memA .hd))<|AX [.bool false,vN,.bool false,vN] K0 (.tl (.tl .hd)) (onesB rfl) (fun D4 y0 x3=>?_)
 refine Af rfl<|Aa<|Ak rfl<|Ap (u:=.tuple #[.agg #[.bool false,vN,.bool false,vN],vI 20]) j1 Tryz.func57 rfl (.cons (.many (cs:=[.bool false,vN,.bool false,vN]) (by kernel_rfl) rfl (y0.memA (.tl (.tl .hd)))) (.cons (.tmp rfl) .nil)) rfl<|Ab (Ah rfl rfl)<|Ab (Ah rfl rfl) ?_
 obtain ⟨u0,v2,h⟩:=bi h
 refine Bc (.tuple #[.agg ((cs_TShare u0.1)).toArray,vI u0.2]) body56 rfl (e2 rfl rfl) (fun w9 hw9=>share_told_c n _ w9 (y0.hL0 hL hw9) (⟨(⟨false,([]:List UInt64)⟩:TLong),(⟨false,([]:List UInt64)⟩:TLong)⟩:TRatio) (Aw (Rep.nilSlice _ _) hw9) (Aw (Rep.nilSlice _ _) hw9) (20:Int) v2) rfl<|Ab (Ah rfl rfl)<|Ab (Ah rfl rfl)<|AX (cs_TShare u0.1) y0 (.tl (.tl (.tl (.tl (.tl (.tl .hd)))))) (onesB rfl) (fun E4 M0 y3=>?_)
 refine Af rfl<|Aa<|Ak rfl<|Ap hb0 Tryz.func66 rfl (.cons (.many (cs:=(cs_TShare u0.1)) (by kernel_rfl) rfl (M0.memA (.tl (.tl (.tl (.tl (.tl (.tl .hd)))))))) (.cons (.tmp rfl) .nil)) rfl ?_
 cases h
 exact M0.gv
 refine AE<|AE<|AE<|AE<|RG.pf rfl rfl<|Aa<|Bn rfl<|Ao<|Ac<|Ab (AJ rfl (b0.memA (.tl (.tl (.tl .hd)))))<|Ab (AJ rfl (b0.memA (.tl (.tl .hd))))<|Bs (fst:=[]) (cap:=[]) (vs:=[.agg ((cs_TShare a0)).toArray,.agg ((cs_TShare a1)).toArray,.func (.func 105) #[] #[]]) .plain body57 Tryz.func57 rfl rfl rfl rfl (e3 rfl rfl rfl) rfl (fun s3 g1 Z3=>?_)
 refine Ac<|Al .plain rfl (Ax b0 rfl rfl) (fun F4 V2 z1 z3=>?_)
 refine Al .plain rfl (Ax z1 rfl rfl) (fun G4 W2 A1 A3=>?_)
 refine Al .plain rfl (AA [.bool false,vN,.bool false,vN] A1) (fun H4 X2 z0 C3=>?_)
 refine Af rfl<|Aa<|Aj<|Ac<|Ab (AJ rfl (z0.memA (.tl (.tl .hd))))<|Ab (AJ rfl (z0.memA (.tl .hd)))<|Al .plain rfl (AY (α:=TShare) (xs:=([a0,a1]:List TShare)) (vs:=[.agg ((cs_TShare a0)).toArray,.agg ((cs_TShare a1)).toArray]) (ds' :=(cs_TShare a0 ++ cs_TShare a1)) rfl z0 el60 rfl (e2 rfl rfl) (by kernel_rfl) rfl) (fun I4 Z2 g0 D3=>?_)
 have P1:=AB (cs:=(cs_TShare a0 ++ cs_TShare a1)) (xs:=(([a0,a1]:List TShare):List TShare)) g0 L (Aq (cs:=(cs_TShare a0)) (ds:=(cs_TShare a1)) (mk_TShare a0.fN a0.fD) (Aq (cs:=(cs_TShare a1)) (ds:=[]) (mk_TShare a1.fN a1.fD) (AN _ _)))
 obtain ⟨I2,x2,h⟩:=bi h
 refine Bc (.bool I2) body99 rfl (e1 rfl) (fun w9 hw9=>share_valid_c n _ w9 (g0.hL0 hL hw9) ([a0,a1]:List TShare) (Aw (St.lend (α:=TShare) (L:=L) g0 .hd P1 hL) hw9) x2) rfl<|Ab (Bz rfl)<|Aa<|MX.ifnb rfl h (fun t1 h=>?_) (fun t1 h=>?_)
 refine Ao<|Aj<|dt 6 tb57_4 (fun c0 D0=>?_)
 refine Ag 0 1 c0 rfl D0 (fun _=>Ai rfl) rfl<|AF 1 3 244 c0 rfl D0 (AJ rfl (g0.memA (.tl (.tl (.tl .hd))))) rfl<|AF 3 11 240 c0 rfl D0 (AJ rfl (g0.memA (.tl (.tl .hd)))) rfl ?_
 obtain ⟨J2,y2,h⟩:=bi h
 refine RD.cl 2 15 c0 rfl .plain body100 rfl (e1 rfl) (fun w9 hw9=>share_Read_c n _ w9 (g0.hL hL hw9) a0 y2) rfl (fun J4 t4 G1 ⟨c4,d4,hu_,d2,g2⟩=>?_)
 subst hu_
 obtain ⟨P0,E3⟩:=g0.agr G1
 obtain ⟨K2,z2,h⟩:=bi h
 refine RD.cl 4 31 c0 rfl .plain body100 rfl (e1 rfl) (fun w9 hw9=>share_Read_c n _ w9 (P0.hL hL hw9) a1 z2) rfl (fun K4 u4 H1 ⟨g4,j4,hu_,j2,k2⟩=>?_)
 subst hu_
 obtain ⟨Q0,Z0⟩:=P0.agr H1
 obtain ⟨k0,A2,h⟩:=bi h
 have W1:=Az d2 Z0
 have X1:=Az g2 Z0
 refine RD.cl 5 63 c0 rfl .plain body105 rfl (e2 rfl rfl) (fun w9 hw9=>share_Ratio_Over_c n _ w9 (Q0.hL hL hw9) J2 (Aw W1 hw9) (Aw X1 hw9) K2 (Aw j2 hw9) (Aw k2 hw9) A2) rfl (fun P4 v4 I1 ⟨F0,G0,hu_,k1,p1⟩=>?_)
 subst hu_
 obtain ⟨C1,F3⟩:=Q0.agr I1
 refine Bv 6 127 c0 rfl rfl .plain (Av (news:=[.bool k0.fy.fj,F0,.bool k0.ft.fj,G0]) C1 (.tl .hd) rfl rfl rfl rfl rfl rfl (o4 rfl (Bg k1) rfl (Bg p1))) (fun Q4 q0 b1=>?_)
 refine By (i:=7) (rk c0) (RO.val (m' :=255) (sk c0) rfl .plain rfl (AS rfl) ?_)
 refine AK (dk c0)<|Ak rfl<|Ap (u:=.tuple #[.agg #[.bool k0.fy.fj,F0,.bool k0.ft.fj,G0],vI 0]) g1 Tryz.func57 rfl (.cons (.many (cs:=[.bool k0.fy.fj,F0,.bool k0.ft.fj,G0]) (by kernel_rfl) rfl (q0.memA (.tl .hd))) (.cons (.tmp rfl) .nil)) rfl<|Ab (Ah rfl rfl)<|Ab (Ah rfl rfl) ?_
 obtain ⟨v0,B2,h⟩:=bi h
 have Y1:=Az k1 b1
 have Z1:=Az p1 b1
 refine Bc (.tuple #[.agg ((cs_TShare v0.1)).toArray,vI v0.2]) body56 rfl (e2 rfl rfl) (fun w9 hw9=>share_told_c n _ w9 (q0.hL0 hL hw9) k0 (q0.kd Y1 hw9) (q0.kd Z1 hw9) (0:Int) B2) rfl<|Ab (Ah rfl rfl)<|Ab (Ah rfl rfl)<|AX (cs_TShare v0.1) q0 (.tl (.tl (.tl (.tl (.tl .hd))))) (onesB rfl) (fun R4 R0 H3=>?_)
 refine Af rfl<|Aa<|Ak rfl<|Ap hb0 Tryz.func66 rfl (.cons (.many (cs:=(cs_TShare v0.1)) (by kernel_rfl) rfl (R0.memA (.tl (.tl (.tl (.tl (.tl .hd))))))) (.cons (.tmp rfl) .nil)) rfl ?_
 cases h
 exact R0.gv
 refine Ac<|Al .plain rfl (AA [.bool false,vN,.bool false,vN] g0) (fun U4 c3 U0 I3=>?_)
 refine Aa<|Ac<|Ab (AJ rfl (U0.memA .hd))<|AX [.bool false,vN,.bool false,vN] U0 (.tl (.tl .hd)) (onesB rfl) (fun V4 A0 J3=>?_)
 refine Af rfl<|Aa<|Ak rfl<|Ap (u:=.tuple #[.agg #[.bool false,vN,.bool false,vN],vI 20]) g1 Tryz.func57 rfl (.cons (.many (cs:=[.bool false,vN,.bool false,vN]) (by kernel_rfl) rfl (A0.memA (.tl (.tl .hd)))) (.cons (.tmp rfl) .nil)) rfl<|Ab (Ah rfl rfl)<|Ab (Ah rfl rfl) ?_
 obtain ⟨x0,C2,h⟩:=bi h
 refine Bc (.tuple #[.agg ((cs_TShare x0.1)).toArray,vI x0.2]) body56 rfl (e2 rfl rfl) (fun w9 hw9=>share_told_c n _ w9 (A0.hL0 hL hw9) (⟨(⟨false,([]:List UInt64)⟩:TLong),(⟨false,([]:List UInt64)⟩:TLong)⟩:TRatio) (Aw (Rep.nilSlice _ _) hw9) (Aw (Rep.nilSlice _ _) hw9) (20:Int) C2) rfl<|Ab (Ah rfl rfl)<|Ab (Ah rfl rfl)<|AX (cs_TShare x0.1) A0 (.tl (.tl (.tl (.tl (.tl (.tl .hd)))))) (onesB rfl) (fun W4 V0 K3=>?_)
 refine Af rfl<|Aa<|Ak rfl<|Ap hb0 Tryz.func66 rfl (.cons (.many (cs:=(cs_TShare x0.1)) (by kernel_rfl) rfl (V0.memA (.tl (.tl (.tl (.tl (.tl (.tl .hd)))))))) (.cons (.tmp rfl) .nil)) rfl ?_
 cases h
 exact V0.gv
end Go.Proofs.YtfccehcnajelgaaGreatDoor
