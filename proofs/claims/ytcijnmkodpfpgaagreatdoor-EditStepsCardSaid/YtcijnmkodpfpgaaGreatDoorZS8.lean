/- Functions of the program, and what they give: part 8. -/
import Derived.Test.YtcijnmkodpfpgaaGreatDoorZS7
namespace Go.Proofs.YtcijnmkodpfpgaaGreatDoor
open Go Go.RowKit
set_option maxRecDepth 4000
set_option maxHeartbeats 4000000

theorem body28:bodyB Tryz.prog 28 = true:=by kernel_rfl
theorem body52:bodyB Tryz.prog 52 = true:=by kernel_rfl
def edit_Same_p (n:Nat) (a0:TSession) (a1:TSession):Option Bool:=
  (if a0.fK = a1.fK then (slices_Equal_api_Plan_int_p n a0.fPlan a1.fPlan).bind fun b0=>(if b0 = true then (slices_Equal_int_int_p n a0.fTotals a1.fTotals).bind fun c0=>(if c0 = true then (slices_Equal_api_Move_api_Move_p n a0.fDone a1.fDone).bind fun d0=>(if d0 = true then (slices_Equal_api_Move_api_Move_p n a0.fUndone a1.fUndone).bind fun g0=>some g0 else some false) else some false) else some false) else some false)
theorem edit_Same_c (n:Nat) (L:List Nat) (w:World) (hL:∀ b ∈ L,b < w.heap.size) (a0:TSession) {v0_1:Value} (h0_1:Rep.R w L [v0_1] a0.fPlan) {v0_2:Value} (h0_2:Rep.R w L [v0_2] a0.fTotals) {v0_3:Value} (h0_3:Rep.R w L [v0_3] a0.fDone) {v0_4:Value} (h0_4:Rep.R w L [v0_4] a0.fUndone) (a1:TSession) {v1_1:Value} (h1_1:Rep.R w L [v1_1] a1.fPlan) {v1_2:Value} (h1_2:Rep.R w L [v1_2] a1.fTotals) {v1_3:Value} (h1_3:Rep.R w L [v1_3] a1.fDone) {v1_4:Value} (h1_4:Rep.R w L [v1_4] a1.fUndone)  {r:Bool} (h:edit_Same_p n a0 a1 = some r) :
    Calls Tryz.prog 18 #[.agg #[vI a0.fK,v0_1,v0_2,v0_3,v0_4],.agg #[vI a1.fK,v1_1,v1_2,v1_3,v1_4]] w (Gives w fun _ u=>u = .bool r):=by
 unfold edit_Same_p at h
 have hS0:=AK w
 refine AM Tryz.func18 rfl rfl rfl (fun _ cs0 hb0=>?_)
 refine Ae<|Az .plain rfl (AI hS0 rfl rfl) (fun w2 b5 hS3 hT4=>?_)
 refine Az .plain rfl (AI hS3 rfl rfl) (fun w7 y0 hS8 hT9=>?_)
 refine Ag rfl<|Aa<|Ak<|Aw<|AH 0 rfl<|AS rfl ((hS8.memA (.tl .hd)) 0 _ rfl)<|AH 0 rfl<|AS rfl ((hS8.memA .hd) 0 _ rfl)<|Ab (FV.eql (i:=a0.fK) (j:=a1.fK) rfl rfl)<|Ac rfl<|Bi (s:=10) rfl h (fun b0 h=>?_) (fun b0 h=>?_)
 refine BB 1 rfl<|Ap (AA rfl ((hS8.memA (.tl .hd)) 1 _ rfl))<|BB 1 rfl<|Ap (AA rfl ((hS8.memA .hd) 1 _ rfl)) ?_
 obtain ⟨t0,j0,h⟩:=bi h
 refine RG.callq' (v:=.bool t0) (fst:=[]) (cap:=[]) (.yes rfl rfl) body28 rfl (e2 rfl rfl) (fun w9 hw9=>slices_Equal_api_Plan_int_c n _ w9 (hS8.hL0 hL hw9) a0.fPlan (hS8.k0 h0_1 hw9) a1.fPlan (hS8.k0 h1_1 hw9) j0) rfl<|AU rfl rfl<|Ac rfl<|RG.ifb (s:=17) rfl h (fun c0 h=>?_) (fun c0 h=>?_)
 refine BB 2 rfl<|Ap (AA rfl ((hS8.memA (.tl .hd)) 2 _ rfl))<|BB 2 rfl<|Ap (AA rfl ((hS8.memA .hd) 2 _ rfl)) ?_
 obtain ⟨u0,p0,h⟩:=bi h
 refine RG.callq' (v:=.bool u0) (fst:=[]) (cap:=[]) (.yes rfl rfl) body23 rfl (e2 rfl rfl) (fun w9 hw9=>slices_Equal_int_int_c n _ w9 (hS8.hL0 hL hw9) a0.fTotals (hS8.k0 h0_2 hw9) a1.fTotals (hS8.k0 h1_2 hw9) p0) rfl<|AU rfl rfl<|Ac rfl<|RG.ifb (s:=24) rfl h (fun d0 h=>?_) (fun d0 h=>?_)
 refine BB 3 rfl<|Ap (AA rfl ((hS8.memA (.tl .hd)) 3 _ rfl))<|BB 3 rfl<|Ap (AA rfl ((hS8.memA .hd) 3 _ rfl)) ?_
 obtain ⟨v0,q0,h⟩:=bi h
 refine RG.callq' (v:=.bool v0) (fst:=[]) (cap:=[]) (.yes rfl rfl) body52 rfl (e2 rfl rfl) (fun w9 hw9=>slices_Equal_api_Move_api_Move_c n _ w9 (hS8.hL0 hL hw9) a0.fDone (hS8.k0 h0_3 hw9) a1.fDone (hS8.k0 h1_3 hw9) q0) rfl<|AU rfl rfl<|Ac rfl<|RG.ifb (s:=31) rfl h (fun g0 h=>?_) (fun g0 h=>?_)
 refine BB 4 rfl<|Ap (AA rfl ((hS8.memA (.tl .hd)) 4 _ rfl))<|BB 4 rfl<|Ap (AA rfl ((hS8.memA .hd) 4 _ rfl)) ?_
 obtain ⟨x0,s0,h⟩:=bi h
 refine RG.callq' (v:=.bool x0) (fst:=[]) (cap:=[]) (.yes rfl rfl) body52 rfl (e2 rfl rfl) (fun w9 hw9=>slices_Equal_api_Move_api_Move_c n _ w9 (hS8.hL0 hL hw9) a0.fUndone (hS8.k0 h0_4 hw9) a1.fUndone (hS8.k0 h1_4 hw9) s0) rfl<|AU rfl rfl<|Ag rfl<|Aa<|Am rfl<|AJ hb0 Tryz.func18 rfl rfl ?_
 cases h
 exact hS8.gv
 refine Af<|Af<|Af<|Af<|Af<|AO rfl rfl<|Ag rfl<|Aa<|Am rfl<|AJ hb0 Tryz.func18 rfl rfl ?_
 cases h
 exact hS8.gv
 refine Af<|Af<|Af<|Af<|Af<|AO rfl rfl<|Ac rfl<|Af<|Af<|Af<|Af<|Af<|AO rfl rfl<|Ag rfl<|Aa<|Am rfl<|AJ hb0 Tryz.func18 rfl rfl ?_
 cases h
 exact hS8.gv
 refine Af<|Af<|Af<|Af<|Af<|AO rfl rfl<|Ac rfl<|Af<|Af<|Af<|Af<|Af<|AO rfl rfl<|Ac rfl<|Af<|Af<|Af<|Af<|Af<|AO rfl rfl<|Ag rfl<|Aa<|Am rfl<|AJ hb0 Tryz.func18 rfl rfl ?_
 cases h
 exact hS8.gv
 refine Af<|Af<|Af<|Af<|Af<|AO rfl rfl<|Ac rfl<|Af<|Af<|Af<|Af<|Af<|AO rfl rfl<|Ac rfl<|Af<|Af<|Af<|Af<|Af<|AO rfl rfl<|Ac rfl<|Af<|Af<|Af ?_
 refine Af<|Af<|AO rfl rfl<|Ag rfl<|Aa<|Am rfl<|AJ hb0 Tryz.func18 rfl rfl ?_
 cases h
 exact hS8.gv
def edit_Redo_p (n:Nat) (a0:TGraph) (a1:TRoll) (a2:TSession):Option (TSession × Int):=
  (edit_Check_p n a0 a1 a2).bind fun k0=>(if k0 = 0 then (edit_last_api_Move_p n a2.fUndone).bind fun b0=>(if b0.2.2 = true then (if 200 ≤ a2.fDone.length then some ((⟨(0:Int),([]:List Int),([]:List Int),([]:List TMove),([]:List TMove)⟩:TSession),(3:Int)) else (idx a2.fPlan b0.1.fUnit).bind fun v0=>(if v0 = b0.1.fFrom then (slices_Clone_api_Plan_int_p n a2.fPlan).bind fun p0=>(idx p0 b0.1.fUnit).bind fun A0=>(put p0 ((b0.1.fUnit.toNat:Nat):Int) b0.1.fTo).bind fun d0=>(slices_Contains_api_Plan_int_p n d0 b0.1.fFrom).bind fun y0=>(if y0 = true then (slices_Clone_int_int_p n a2.fTotals).bind fun j0=>(idx j0 b0.1.fFrom).bind fun t0=>(idx a1.fUnits b0.1.fUnit).bind fun c0=>(chk (t0 - c0.fPeople)).bind fun q0=>(put j0 ((b0.1.fFrom.toNat:Nat):Int) q0).bind fun g0=>(idx g0 b0.1.fTo).bind fun u0=>(chk (u0 + c0.fPeople)).bind fun s0=>(put g0 ((b0.1.fTo.toNat:Nat):Int) s0).bind fun x0=>(edit_more_api_Move_p n a2.fDone b0.1).bind fun z0=>some ((⟨a2.fK,d0,x0,z0,b0.2.1⟩:TSession),(0:Int)) else some ((⟨(0:Int),([]:List Int),([]:List Int),([]:List TMove),([]:List TMove)⟩:TSession),(260:Int))) else some ((⟨(0:Int),([]:List Int),([]:List Int),([]:List TMove),([]:List TMove)⟩:TSession),(260:Int)))) else some ((⟨(0:Int),([]:List Int),([]:List Int),([]:List TMove),([]:List TMove)⟩:TSession),(4:Int))) else some ((⟨(0:Int),([]:List Int),([]:List Int),([]:List TMove),([]:List TMove)⟩:TSession),k0))
theorem edit_Redo_c (n:Nat) (L:List Nat) (w:World) (hL:∀ b ∈ L,b < w.heap.size) (a0:TGraph) {v0_1:Value} (h0_1:Rep.R w L [v0_1] a0.fEdges) (a1:TRoll) {v1_3:Value} (h1_3:Rep.R w L [v1_3] a1.fUnits) (a2:TSession) {v2_1:Value} (h2_1:Rep.R w L [v2_1] a2.fPlan) {v2_2:Value} (h2_2:Rep.R w L [v2_2] a2.fTotals) {v2_3:Value} (h2_3:Rep.R w L [v2_3] a2.fDone) {v2_4:Value} (h2_4:Rep.R w L [v2_4] a2.fUndone)  {r:TSession × Int} (h:edit_Redo_p n a0 a1 a2 = some r) :
    Calls Tryz.prog 20 #[.agg #[vI a0.fN,v0_1],.agg #[vI a1.fGroups,vI a1.fParties,vI a1.fLevels,v1_3],.agg #[vI a2.fK,v2_1,v2_2,v2_3,v2_4]] w (Gives w fun w' u=>∃ v0_1 v0_2 v0_3 v0_4:Value,u = .tuple #[.agg #[vI r.1.fK,v0_1,v0_2,v0_3,v0_4],vI r.2]∧Rep.R w' L [v0_1] r.1.fPlan∧Rep.R w' L [v0_2] r.1.fTotals∧Rep.R w' L [v0_3] r.1.fDone∧Rep.R w' L [v0_4] r.1.fUndone):=by
 unfold edit_Redo_p at h
 have hS0:=AK w
 refine AM Tryz.func20 rfl rfl rfl (fun _ cs0 hb0=>?_)
 refine Ae<|Az .plain rfl (AI hS0 rfl rfl) (fun w2 b5 hS3 hT4=>?_)
 refine Az .plain rfl (AI hS3 rfl rfl) (fun w7 J5 hS8 hT9=>?_)
 refine Az .plain rfl (AI hS8 rfl rfl) (fun v7 K5 d3 z6=>?_)
 refine Az .plain rfl (AX [vI 0,vN,vN,vN,vN] d3) (fun A7 M5 d0 A6=>?_)
 refine Ag rfl<|Aa<|Ak<|Ae<|Ab (AG rfl (d0.memA (.tl (.tl (.tl .hd)))))<|Ab (AG rfl (d0.memA (.tl (.tl .hd))))<|Ab (AG rfl (d0.memA (.tl .hd))) ?_
 obtain ⟨F2,s5,h⟩:=bi h
 refine BE (vI F2) body16 rfl (e3 rfl rfl rfl) (fun w9 hw9=>edit_Check_c n _ w9 (d0.hL0 hL hw9) a0 (d0.k0 h0_1 hw9) a1 (d0.k0 h1_3 hw9) a2 (d0.k0 h2_1 hw9) (d0.k0 h2_2 hw9) (d0.k0 h2_3 hw9) (d0.k0 h2_4 hw9) s5) rfl<|Ag rfl<|Aa<|Ae<|Ac rfl<|Ab (BO (i:=F2) (j:=0) rfl rfl)<|Aa<|BV rfl h (fun Q2 h=>?_) (fun Q2 h=>?_)
 refine Ao<|Ae<|Ab (AG rfl (d0.memA (.tl .hd))) ?_
 have Y3:=Ax h2_1 d0
 obtain ⟨E5,d6,K4,_⟩:=BQ Y3
 have g4:=Ax h2_2 d0
 obtain ⟨F5,g6,M4,_⟩:=BQ g4
 have j4:=Ax h2_3 d0
 obtain ⟨G5,j6,P4,_⟩:=BQ j4
 have k4:=Ax h2_4 d0
 obtain ⟨H5,k6,Q4,_⟩:=BQ k4
 refine Ab (AV (vs:=[.agg #[vI a2.fK,v2_1,v2_2,v2_3,v2_4]]) (u:=.agg #[vI a2.fK,v2_1,v2_2,v2_3,v2_4]) (e1 rfl) (fun w9=>by rw [K4,M4,P4,Q4]; try kernel_rfl))<|Az .plain rfl (AI d0 rfl rfl) (fun P7 z1 U0 F6=>?_)
 refine Ag rfl<|Aa<|Ae<|AH 4 rfl<|AS rfl ((U0.memA (.tl (.tl .hd))) 4 _ rfl) ?_
 obtain ⟨c0,u5,h⟩:=bi h
 refine Bx (fst:=[]) (cap:=[]) .plain body51 rfl (e1 rfl) (fun w9 hw9=>edit_last_api_Move_c n _ w9 (U0.hL hL hw9) a2.fUndone (U0.km h2_4 hw9) u5) rfl (fun Q7 u7 t3 ⟨M0,hu_,y1⟩=>?_)
 subst hu_
 obtain ⟨k3,G6⟩:=U0.agr t3
 refine Ac rfl<|Ab (Au rfl rfl)<|Ab (Au rfl rfl)<|Ab (Au rfl rfl)<|Az .plain rfl (AX [vI 0,vI 0,vI 0] k3) (fun R7 P5 p3 E1=>?_)
 refine Bk [vI c0.1.fUnit,vI c0.1.fFrom,vI c0.1.fTo] p3 .hd (onesB rfl) (fun U7 E0 F1=>?_)
 refine Ag rfl<|Ag rfl<|Aa<|Ak<|AB<|Ae<|Ac rfl<|Ab (Ba rfl)<|Ag rfl<|Aa<|BS rfl h (fun R2 h=>?_) (fun R2 h=>?_)
 refine Ae<|AH 3 rfl<|Ab (AA rfl ((E0.memA (.tl (.tl (.tl .hd)))) 3 _ rfl)) ?_
 have Z1:=Ax h2_3 E0
 have K6:a2.fDone.length ≤ 281474976710656:=AZ Z1
 refine Ab (Bj (xs:=a2.fDone) Tryz.underlying46 rfl Z1)<|Ab (FV.geqN (i:=a2.fDone.length) (j:=200) rfl rfl)<|Ag rfl<|Aa<|AW rfl h (fun U2 h=>?_) (fun U2 h=>?_)
 refine Ae<|Ab (AV (vs:=[]) (u:=.agg #[vI 0,vN,vN,vN,vN]) evs_nil (fun w9=>by kernel_rfl))<|Bk [vI 0,vN,vN,vN,vN] E0 (.tl (.tl .hd)) (onesB rfl) (fun V7 B0 H6=>?_)
 refine Ag rfl<|Aa<|Am rfl ?_
 have u2:=AL (α:=Int) B0 L
 have v2:=AL (α:=TMove) B0 L
 refine Ay hb0 Tryz.func20 rfl (.cons (.many (cs:=[vI 0,vN,vN,vN,vN]) (by kernel_rfl) rfl (B0.memA (.tl (.tl .hd)))) (.cons (.tmp rfl) .nil)) rfl ?_
 cases h
 exact ⟨B0.ag,fun w9 hw9=>⟨vN,vN,vN,vN,rfl,B0.kd u2 hw9,B0.kd u2 hw9,B0.kd v2 hw9,B0.kd v2 hw9⟩⟩
 refine Ae<|Ac rfl<|Ab (AG rfl (E0.memA (.tl (.tl (.tl (.tl .hd))))))<|Ab (AG rfl (E0.memA .hd))<|BL (fst:=[]) (cap:=[]) (vs:=[vP z1,.agg #[vI a1.fGroups,vI a1.fParties,vI a1.fLevels,v1_3],.agg #[vI c0.1.fUnit,vI c0.1.fFrom,vI c0.1.fTo]]) .plain body41 Tryz.func41 rfl rfl rfl rfl (e3 rfl rfl rfl) rfl (fun x6 s1 P6=>?_)
 refine Ae<|Az .plain rfl (AI E0 rfl rfl) (fun W7 Q5 q3 G1=>?_)
 refine Az .plain rfl (AI q3 rfl rfl) (fun X7 R5 s0 H1=>?_)
 refine Ag rfl<|Aa<|Ak<|Ae<|Ac rfl<|AH 0 rfl<|AS rfl ((s0.memA .hd) 0 _ rfl)<|AH 1 rfl<|AS rfl ((s0.memA .hd) 1 _ rfl)<|AH 2 rfl<|AS rfl ((s0.memA .hd) 2 _ rfl)<|BL (fst:=[]) (cap:=[]) (vs:=[vP z1,vI c0.1.fUnit,vI c0.1.fFrom,vI c0.1.fTo]) .plain body71 Tryz.func71 rfl rfl rfl rfl (e4 rfl rfl rfl rfl) rfl (fun y6 t1 Q6=>?_)
 refine Ae<|Ag rfl<|Aa<|Ak<|Ae<|Ac rfl<|Ab (Bs rfl)<|AH 0 rfl<|AH 1 rfl<|Ab (AA rfl ((mem_from (s0.memA (.tl (.tl (.tl .hd)))) 0) 1 _ rfl))<|Ac rfl ?_
 obtain ⟨D2,c5,h⟩:=bi h
 obtain ⟨G3,d5⟩:=idx_in c5
 have q4:=Ax h2_1 s0
 obtain ⟨I5,p6,D3,J3,c3,F4,p4⟩:=Bb q4 d5
 have E3:c3 = [vI D2]:=F4; subst E3
 refine Ab (Be 1 (c0.1.fUnit.toNat) rfl D3 rfl G3 J3)<|AS rfl (p4 0 _ rfl)<|Ac rfl<|Ab (BO (i:=D2) (j:=c0.1.fFrom) rfl rfl)<|Aa<|BV rfl h (fun V2 h=>?_) (fun V2 h=>?_)
 refine Ao<|Ae<|Ac rfl<|Ab (Bs rfl)<|AH 0 rfl<|AH 1 rfl<|Ab (AA rfl ((mem_from (s0.memA (.tl (.tl (.tl .hd)))) 0) 1 _ rfl)) ?_
 obtain ⟨B5,v5,h⟩:=bi h
 refine Bx (fst:=[]) (cap:=[]) .plain body91 rfl (e1 rfl) (fun w9 hw9=>own_gives (b0:=w.heap.size) (slices_Clone_api_Plan_int_c n _ w9 (s0.hL hL hw9) a2.fPlan (s0.km h2_1 hw9) v5) hw9 (Nat.le_trans s0.ag.size hw9.size)) rfl (fun Y7 t0 I6 ⟨c7,W2,I4,y2,u3⟩=>?_)
 subst I4
 have P0:=own_push s0 y2
 have A1:=own_tr s0 y2
 have I1:=Ar (cs:=W2) (xs:=(B5:List Int)) P0 L (own_cells u3)
 refine Ag rfl<|Aa<|Ae<|Ac rfl<|Ac rfl<|Ac rfl ?_
 obtain ⟨x5,R4,h⟩:=bi h
 obtain ⟨F3,U4⟩:=idx_in R4
 obtain ⟨G2,U5,u1,X1,X2,v4,M6⟩:=St.nth (α:=Int) P0 .hd I1 U4
 obtain ⟨J2,V5,P1⟩:=BH (α:=Int) P0 .hd X1
 obtain rfl:G2 = ⟨J2,0,none⟩:=by rw [P1] at u1; cases u1; rfl
 have y3:X2 = [vI x5]:=v4; subst y3
 refine Ab (Be 1 (c0.1.fUnit.toNat) rfl u1 rfl F3 X1) ?_
 obtain ⟨E2,g5,h⟩:=bi h
 refine RG.acts' .plain (Acts.set (α:=Int) (i:=c0.1.fUnit.toNat) g5 P0 P1 (fun _=>.hd) I1 rfl rfl rfl rfl rfl (by kernel_rfl)) (fun x7 ⟨q6,G0,B1,J1⟩=>?_)
 refine Aa<|Ak<|Ae<|Ac rfl<|Ac rfl ?_
 obtain ⟨z5,p5,h⟩:=bi h
 refine BE (.bool z5) body92 rfl (e2 rfl rfl) (fun w9 hw9=>slices_Contains_api_Plan_int_c n _ w9 (G0.hL0 hL hw9) E2 (Av (St.lend (α:=Int) (L:=L) G0 .hd J1 hL) hw9) c0.1.fFrom p5) rfl<|Ab (Ba rfl)<|Aa<|BS rfl h (fun P2 h=>?_) (fun P2 h=>?_)
 refine Ao<|Ae<|Ac rfl<|Ac rfl<|Ab (Bs rfl)<|AH 0 rfl<|AH 1 rfl<|BG .plain (Br (j:=1) (old:=[vI a2.fK,v2_1,v2_2,v2_3,v2_4]) (news:=[t0]) (new' :=[vI a2.fK,t0,v2_2,v2_3,v2_4]) G0 (.tl (.tl (.tl (.tl .hd)))) rfl rfl rfl (St.c1 (α:=Int) G0 .hd) rfl rfl (o1 (Bz (α:=Int) G0 .hd)) rfl) (fun y7 H0 g1=>?_)
 refine Aa<|Ae<|Ag rfl<|Aa<|Am rfl<|Ay (u:=.bool true) t1 Tryz.func71 rfl (.cons (.tmp rfl) .nil) rfl<|Ab (Ba rfl)<|Aa<|BC rfl<|Ao<|Ae<|Ac rfl<|Ab (Bs rfl)<|AH 0 rfl<|AH 2 rfl<|Ab (AA rfl ((mem_from (H0.memA (.tl (.tl (.tl (.tl .hd))))) 0) 2 _ rfl)) ?_
 obtain ⟨A5,q5,h⟩:=bi h
 refine Bx (fst:=[]) (cap:=[]) .plain body22 rfl (e1 rfl) (fun w9 hw9=>own_gives (b0:=w.heap.size) (slices_Clone_int_int_c n _ w9 (H0.hL hL hw9) a2.fTotals (H0.km h2_2 hw9) q5) hw9 (Nat.le_trans H0.ag.size hw9.size)) rfl (fun z7 u0 J6 ⟨d7,Y2,J4,z2,v3⟩=>?_)
 subst J4
 have v0:=own_push H0 z2
 have j1:=own_tr H0 z2
 have K1:=Ar (cs:=Y2) (xs:=(A5:List Int)) v0 L (own_cells v3)
 refine Ag rfl<|Aa<|Ak<|Bm 14 tb41_4 (by kernel_rfl) (by kernel_rfl) (by kernel_rfl) (fun g0 p0=>?_)
 refine Ah 0 1 g0 rfl p0 (fun _=>Ai rfl) rfl<|Ah 1 3 g0 rfl p0 (fun _=>Bt 1 rfl) rfl<|AT 2 7 28696 g0 rfl p0 (AA rfl ((v0.memA (.tl (.tl .hd))) 1 _ rfl)) rfl ?_
 obtain ⟨A2,V4,h⟩:=bi h
 obtain ⟨U1,W4⟩:=idx_in V4
 obtain ⟨H2,W5,X0,v1,Z2,x4,K3⟩:=St.nth (α:=Int) v0 .hd K1 W4
 obtain ⟨K2,X5,Q1⟩:=BH (α:=Int) v0 .hd v1
 obtain rfl:H2 = ⟨K2,0,none⟩:=by rw [Q1] at X0; cases X0; rfl
 have z3:Z2 = [vI A2]:=x4; subst z3
 refine Ah 3 15 g0 rfl p0 (fun _=>Be 1 (c0.1.fFrom.toNat) rfl X0 rfl U1 v1) rfl<|AT 4 31 28672 g0 rfl p0 (AA rfl (K3 0 _ rfl)) rfl<|Ah 5 63 g0 rfl p0 (fun _=>Bt 3 rfl) rfl<|AT 6 127 32256 g0 rfl p0 (AA rfl ((v0.memA (.tl (.tl (.tl .hd)))) 3 _ rfl)) rfl<|Ah 7 255 g0 rfl p0 (fun _=>Bt 0 rfl) rfl<|AT 8 511 32256 g0 rfl p0 (AA rfl ((v0.memA (.tl (.tl .hd))) 0 _ rfl)) rfl ?_
 obtain ⟨B2,X4,h⟩:=bi h
 obtain ⟨V1,x2⟩:=idx_in X4
 have P3:=Ax h1_3 v0
 obtain ⟨C5,Y5,A3,H3,s6,y4,M3⟩:=Bb P3 x2
 obtain ⟨g7,j7,k7,rfl,R6,U6,V6⟩:=op_TUnit y4
 refine Ah 9 1023 g0 rfl p0 (fun _=>Be 6 (c0.1.fUnit.toNat) rfl A3 rfl V1 H3) rfl<|Ah 10 2047 g0 rfl p0 (fun _=>Bt 1 rfl) rfl<|AT 11 4095 28672 g0 rfl p0 (AA rfl (M3 1 _ rfl)) rfl ?_
 obtain ⟨Z6,G4,h⟩:=bi h
 refine Ah 12 8191 g0 rfl p0 (fun _=>FV.subc (i:=A2) (j:=B2.fPeople) rfl rfl G4) rfl<|Ah 13 16383 g0 rfl p0 (fun _=>Be 1 (c0.1.fFrom.toNat) rfl X0 rfl U1 v1) rfl ?_
 obtain ⟨Z7,j5,h⟩:=bi h
 refine BD (i:=14) (readyD_ok g0 (by kernel_rfl)) (RO.acts (m' :=32767) (stepC_ok g0 (by kernel_rfl)) rfl rfl .plain (Acts.set (α:=Int) (i:=c0.1.fFrom.toNat) j5 v0 Q1 (fun _=>.hd) K1 rfl rfl rfl rfl rfl (by kernel_rfl)) (fun B7 ⟨t6,C0,k1,M1⟩=>?_))
 refine Bc (doneD_ok g0 (by kernel_rfl))<|Ak<|Bm 14 tb41_5 (by kernel_rfl) (by kernel_rfl) (by kernel_rfl) (fun j0 q0=>?_)
 refine Ah 0 1 j0 rfl q0 (fun _=>Ai rfl) rfl<|Ah 1 3 j0 rfl q0 (fun _=>Bt 2 rfl) rfl<|AT 2 7 28696 j0 rfl q0 (AA rfl ((C0.memA (.tl (.tl .hd))) 2 _ rfl)) rfl ?_
 obtain ⟨C2,Y4,h⟩:=bi h
 obtain ⟨W1,Z4⟩:=idx_in Y4
 obtain ⟨I2,Z5,Y0,x1,b3,z4,Q3⟩:=St.nth (α:=Int) C0 .hd M1 Z4
 obtain ⟨M2,b6,R1⟩:=BH (α:=Int) C0 .hd x1
 obtain rfl:I2 = ⟨M2,0,none⟩:=by rw [R1] at Y0; cases Y0; rfl
 have B3:b3 = [vI C2]:=z4; subst B3
 refine Ah 3 15 j0 rfl q0 (fun _=>Be 1 (c0.1.fTo.toNat) rfl Y0 rfl W1 x1) rfl<|AT 4 31 28672 j0 rfl q0 (AA rfl (Q3 0 _ rfl)) rfl<|Ah 5 63 j0 rfl q0 (fun _=>Bt 3 rfl) rfl<|AT 6 127 32256 j0 rfl q0 (AA rfl ((C0.memA (.tl (.tl (.tl .hd)))) 3 _ rfl)) rfl<|Ah 7 255 j0 rfl q0 (fun _=>Bt 0 rfl) rfl<|AT 8 511 32256 j0 rfl q0 (AA rfl ((C0.memA (.tl (.tl .hd))) 0 _ rfl)) rfl ?_
 have U3:=Ax h1_3 C0
 obtain ⟨D5,c6,C3,I3,u6,A4,R3⟩:=Bb U3 x2
 obtain ⟨p7,q7,s7,rfl,W6,X6,Y6⟩:=op_TUnit A4
 refine Ah 9 1023 j0 rfl q0 (fun _=>Be 6 (c0.1.fUnit.toNat) rfl C3 rfl V1 I3) rfl<|Ah 10 2047 j0 rfl q0 (fun _=>Bt 1 rfl) rfl<|AT 11 4095 28672 j0 rfl q0 (AA rfl (R3 1 _ rfl)) rfl ?_
 obtain ⟨b7,H4,h⟩:=bi h
 refine Ah 12 8191 j0 rfl q0 (fun _=>BT (i:=C2) (j:=B2.fPeople) rfl rfl H4) rfl<|Ah 13 16383 j0 rfl q0 (fun _=>Be 1 (c0.1.fTo.toNat) rfl Y0 rfl W1 x1) rfl ?_
 obtain ⟨y5,k5,h⟩:=bi h
 refine BD (i:=14) (readyD_ok j0 (by kernel_rfl)) (RO.acts (m' :=32767) (stepC_ok j0 (by kernel_rfl)) rfl rfl .plain (Acts.set (α:=Int) (i:=c0.1.fTo.toNat) k5 C0 R1 (fun _=>.hd) M1 rfl rfl rfl rfl rfl (by kernel_rfl)) (fun C7 ⟨v6,b1,p1,x3⟩=>?_))
 refine Bc (doneD_ok j0 (by kernel_rfl))<|Ae<|Ac rfl<|Ac rfl<|Ab (Bs rfl)<|AH 0 rfl<|AH 2 rfl<|BG .plain (Br (j:=2) (old:=[vI a2.fK,t0,v2_2,v2_3,v2_4]) (news:=[u0]) (new' :=[vI a2.fK,t0,u0,v2_3,v2_4]) b1 (.tl (.tl (.tl (.tl (.tl .hd))))) rfl rfl rfl (St.c1 (α:=Int) b1 .hd) rfl rfl (o1 (Bz (α:=Int) b1 .hd)) rfl) (fun D7 I0 V0=>?_)
 refine Aa<|Ae<|Ag rfl<|Aa<|Am rfl<|Ay (u:=.bool true) s1 Tryz.func41 rfl (.cons (.tmp rfl) .nil) rfl<|Ab (Ba rfl)<|Ag rfl<|Aa<|BC rfl<|Ao<|AF<|Ae<|Ac rfl<|Ac rfl<|AH 3 rfl<|Ab (AA rfl ((I0.memA (.tl (.tl (.tl (.tl (.tl (.tl (.tl .hd)))))))) 3 _ rfl))<|Ab (AG rfl (I0.memA (.tl (.tl (.tl (.tl .hd)))))) ?_
 obtain ⟨b8,t5,h⟩:=bi h
 refine Bx (fst:=[]) (cap:=[]) .plain body42 rfl (e2 rfl rfl) (fun w9 hw9=>edit_more_api_Move_c n _ w9 (I0.hL hL hw9) a2.fDone (I0.km h2_3 hw9) c0.1 t5) rfl (fun E7 F0 s3 ⟨t7,hu_,Z0⟩=>?_)
 subst hu_
 obtain ⟨g3,W0⟩:=I0.agr s3
 refine Ac rfl<|Ab (Bs rfl)<|AH 0 rfl<|AH 3 rfl<|BG .plain (Br (j:=3) (old:=[vI a2.fK,t0,u0,v2_3,v2_4]) (news:=[F0]) (new' :=[vI a2.fK,t0,u0,F0,v2_4]) g3 (.tl (.tl (.tl (.tl (.tl .hd))))) rfl rfl rfl (Rep.c1 Z0) rfl rfl (o1 (AP Z0)) rfl) (fun F7 j3 J0=>?_)
 refine Ab (Bs rfl)<|AH 0 rfl<|AH 4 rfl ?_
 have b2:=Tt E1 (Tt F1 (Tt G1 (Tt H1 (Tt A1 (Tt B1 (Tt g1 (Tt j1 (Tt k1 (Tt p1 (Tt V0 (Tt W0 J0)))))))))))
 have Y1:=Aj y1 b2
 refine BG .plain (Br (j:=4) (old:=[vI a2.fK,t0,u0,F0,v2_4]) (news:=[M0]) (new' :=[vI a2.fK,t0,u0,F0,M0]) j3 (.tl (.tl (.tl (.tl (.tl .hd))))) rfl rfl rfl (Rep.c1 Y1) rfl rfl (o1 (AP Y1)) rfl) (fun G7 Q0 K0=>?_)
 refine Aa<|Ae<|Ac rfl<|Ab (Bs rfl)<|AH 0 rfl<|Ab (AG rfl (mem_from (Q0.memA (.tl (.tl (.tl (.tl (.tl .hd)))))) 0)) ?_
 have V3:=Aj Z0 (Tt J0 K0)
 have W3:=Aj y1 (Tt b2 K0)
 refine Bk [vI a2.fK,t0,u0,F0,M0] Q0 (.tl (.tl (.tl (.tl (.tl (.tl .hd)))))) (o5 rfl (Bz (α:=Int) Q0 (.tl .hd)) (Bz (α:=Int) Q0 .hd) (AP V3) (AP W3)) (fun H7 d1 q1=>?_)
 refine Ag rfl<|Aa<|Am rfl ?_
 have s4:=Tt g1 (Tt j1 (Tt k1 (Tt p1 (Tt V0 (Tt W0 (Tt J0 (Tt K0 q1)))))))
 have X3:=Al J1 s4
 have B4:=AQ (α:=Int) d1 (.tl .hd) X3 hL
 have R0:=Bf d1 (.tl .hd)
 have C1:=Bg d1 (.tl .hd)
 have C4:=Bh (α:=Int) (v:=t0) (xs:=E2) R0 L B4
 have t4:=Tt V0 (Tt W0 (Tt J0 (Tt K0 (Tt q1 C1))))
 have Z3:=Al x3 t4
 have D4:=AQ (α:=Int) R0 .hd Z3 hL
 have D0:=Bf R0 .hd
 have D1:=Bg R0 .hd
 have E4:=Bh (α:=Int) (v:=u0) (xs:=y5) D0 L D4
 refine Ay hb0 Tryz.func20 rfl (.cons (.many (cs:=[vI a2.fK,t0,u0,F0,M0]) (by kernel_rfl) rfl (D0.memA (.tl (.tl (.tl (.tl .hd)))))) (.cons (.tmp rfl) .nil)) rfl ?_
 cases h
 have b4:=Aj C4 D1
 have c2:=Tt J0 (Tt K0 (Tt q1 (Tt C1 D1)))
 have c4:=Aj Z0 c2
 have u4:=Tt E1 (Tt F1 (Tt G1 (Tt H1 (Tt A1 (Tt B1 (Tt g1 (Tt j1 (Tt k1 (Tt p1 (Tt V0 (Tt W0 c2)))))))))))
 have d4:=Aj y1 u4
 exact ⟨D0.ag,fun w9 hw9=>⟨t0,u0,F0,M0,rfl,D0.kd b4 hw9,D0.kd E4 hw9,D0.kd c4 hw9,D0.kd d4 hw9⟩⟩
 refine Ae<|Ag rfl<|Aa<|Am rfl<|Ay (u:=.bool false) t1 Tryz.func71 rfl (.cons (.tmp rfl) .nil) rfl<|Ab (Ba rfl)<|Aa<|AY rfl<|Ae<|Ag rfl<|Aa<|Am rfl<|Ay (u:=.bool false) s1 Tryz.func41 rfl (.cons (.tmp rfl) .nil) rfl<|Ab (Ba rfl)<|Ag rfl<|Aa<|AY rfl<|Ae<|Ab (AV (vs:=[]) (u:=.agg #[vI 0,vN,vN,vN,vN]) evs_nil (fun w9=>by kernel_rfl))<|Bk [vI 0,vN,vN,vN,vN] G0 (.tl (.tl (.tl (.tl (.tl .hd))))) (onesB rfl) (fun I7 x0 B6=>?_)
 refine Ag rfl<|Aa<|Am rfl ?_
 have d2:=AL (α:=Int) x0 L
 have g2:=AL (α:=TMove) x0 L
 refine Ay hb0 Tryz.func20 rfl (.cons (.many (cs:=[vI 0,vN,vN,vN,vN]) (by kernel_rfl) rfl (x0.memA (.tl (.tl (.tl (.tl (.tl .hd))))))) (.cons (.tmp rfl) .nil)) rfl ?_
 cases h
 exact ⟨x0.ag,fun w9 hw9=>⟨vN,vN,vN,vN,rfl,x0.kd d2 hw9,x0.kd d2 hw9,x0.kd g2 hw9,x0.kd g2 hw9⟩⟩
 refine Ae<|Ag rfl<|Aa<|Am rfl<|Ay (u:=.bool false) t1 Tryz.func71 rfl (.cons (.tmp rfl) .nil) rfl<|Ab (Ba rfl)<|Aa<|AY rfl<|Ae<|Ag rfl<|Aa<|Am rfl<|Ay (u:=.bool false) s1 Tryz.func41 rfl (.cons (.tmp rfl) .nil) rfl<|Ab (Ba rfl)<|Ag rfl<|Aa<|AY rfl<|Ae<|Ab (AV (vs:=[]) (u:=.agg #[vI 0,vN,vN,vN,vN]) evs_nil (fun w9=>by kernel_rfl))<|Bk [vI 0,vN,vN,vN,vN] s0 (.tl (.tl (.tl (.tl .hd)))) (onesB rfl) (fun J7 y0 C6=>?_)
 refine Ag rfl<|Aa<|Am rfl ?_
 have j2:=AL (α:=Int) y0 L
 have k2:=AL (α:=TMove) y0 L
 refine Ay hb0 Tryz.func20 rfl (.cons (.many (cs:=[vI 0,vN,vN,vN,vN]) (by kernel_rfl) rfl (y0.memA (.tl (.tl (.tl (.tl .hd)))))) (.cons (.tmp rfl) .nil)) rfl ?_
 cases h
 exact ⟨y0.ag,fun w9 hw9=>⟨vN,vN,vN,vN,rfl,y0.kd j2 hw9,y0.kd j2 hw9,y0.kd k2 hw9,y0.kd k2 hw9⟩⟩
 refine Ae<|Ab (AV (vs:=[]) (u:=.agg #[vI 0,vN,vN,vN,vN]) evs_nil (fun w9=>by kernel_rfl))<|Bk [vI 0,vN,vN,vN,vN] E0 (.tl (.tl .hd)) (onesB rfl) (fun K7 z0 D6=>?_)
 refine Ag rfl<|Aa<|Am rfl ?_
 have p2:=AL (α:=Int) z0 L
 have q2:=AL (α:=TMove) z0 L
 refine Ay hb0 Tryz.func20 rfl (.cons (.many (cs:=[vI 0,vN,vN,vN,vN]) (by kernel_rfl) rfl (z0.memA (.tl (.tl .hd)))) (.cons (.tmp rfl) .nil)) rfl ?_
 cases h
 exact ⟨z0.ag,fun w9 hw9=>⟨vN,vN,vN,vN,rfl,z0.kd p2 hw9,z0.kd p2 hw9,z0.kd q2 hw9,z0.kd q2 hw9⟩⟩
 refine Ae<|Ab (AV (vs:=[]) (u:=.agg #[vI 0,vN,vN,vN,vN]) evs_nil (fun w9=>by kernel_rfl))<|Ac rfl<|Bk [vI 0,vN,vN,vN,vN] d0 .hd (onesB rfl) (fun M7 A0 E6=>?_)
 refine Ag rfl<|Aa<|Am rfl ?_
 have s2:=AL (α:=Int) A0 L
 have t2:=AL (α:=TMove) A0 L
 refine Ay hb0 Tryz.func20 rfl (.cons (.many (cs:=[vI 0,vN,vN,vN,vN]) (by kernel_rfl) rfl (A0.memA .hd)) (.cons (.tmp rfl) .nil)) rfl ?_
 cases h
 exact ⟨A0.ag,fun w9 hw9=>⟨vN,vN,vN,vN,rfl,A0.kd s2 hw9,A0.kd s2 hw9,A0.kd t2 hw9,A0.kd t2 hw9⟩⟩
def cmp_Less_int_p (n:Nat) (a0:Int) (a1:Int):Option Bool:=
  (cmp_isNaN_int_p n a0).bind fun y1=>(if y1 = true then (cmp_isNaN_int_p n a1).bind fun y3=>(if y3 = true then some (decide (a0 < a1)) else some true) else some (decide (a0 < a1)))
theorem cmp_Less_int_c (n:Nat) (L:List Nat) (w:World) (hL:∀ b ∈ L,b < w.heap.size) (a0:Int) (a1:Int)  {r:Bool} (h:cmp_Less_int_p n a0 a1 = some r) :
    Calls Tryz.prog 62 #[vI a0,vI a1] w (Gives w fun _ u=>u = .bool r):=by
 unfold cmp_Less_int_p at h
 have hS0:=AK w
 refine AM Tryz.func62 rfl rfl rfl (fun _ cs0 hb0=>?_)
 refine Ae<|Ag rfl<|Aa<|Ae<|Ac rfl ?_
 obtain ⟨y1,hy1,h⟩:=bi h
 refine BE (.bool y1) body88 rfl (e1 rfl) (fun w9 hw9=>cmp_isNaN_int_c n _ w9 (hS0.hL0 hL hw9) a0 hy1) rfl<|Ac rfl<|RG.ifb (s:=7) rfl h (fun c2 h=>?_) (fun c2 h=>?_)
 refine Ap (Ai rfl) ?_
 obtain ⟨y3,hy3,h⟩:=bi h
 refine RG.callq' (v:=.bool y3) (fst:=[]) (cap:=[]) (.yes rfl rfl) body88 rfl (e1 rfl) (fun w9 hw9=>cmp_isNaN_int_c n _ w9 (hS0.hL0 hL hw9) a1 hy3) rfl<|Ap (Ba rfl)<|AU rfl rfl<|Ac rfl<|RG.ifnb (s:=12) rfl h (fun c4 h=>?_) (fun c4 h=>?_)
 refine Ap (Ai rfl)<|Ap (Ai rfl)<|Ap (BF (i:=a0) (j:=a1) rfl rfl)<|AO rfl rfl<|Ag rfl<|Aa<|Am rfl<|AJ hb0 Tryz.func62 rfl rfl ?_
 cases h
 exact hS0.gv
 refine Af<|Af<|Af<|AU rfl rfl<|Ag rfl<|Aa<|Am rfl<|AJ hb0 Tryz.func62 rfl rfl ?_
 cases h
 exact hS0.gv
 refine Af<|Af<|Af<|AO rfl rfl<|Ac rfl<|Ap (Ai rfl)<|Ap (Ai rfl)<|Ap (BF (i:=a0) (j:=a1) rfl rfl)<|AO rfl rfl<|Ag rfl<|Aa<|Am rfl<|AJ hb0 Tryz.func62 rfl rfl ?_
 cases h
 exact hS0.gv
def stab0:List UInt8:=[0,1,2,2,3,3,3,3,4,4,4,4,4,4,4,4,5,5,5,5,5,5,5,5,5,5,5,5,5,5,5,5,6,6,6,6,6,6,6,6,6,6,6,6,6,6,6,6,6,6,6,6,6,6,6,6,6,6,6,6,6,6,6,6,7,7,7,7,7,7,7,7,7,7,7,7,7,7,7,7,7,7,7,7,7,7,7,7,7,7,7,7,7,7,7,7,7,7,7,7,7,7,7,7,7,7,7,7,7,7,7,7,7,7,7,7,7,7,7,7,7,7,7,7,7,7,7,7,8,8,8,8,8,8,8,8,8,8,8,8,8,8,8,8,8,8,8,8,8,8,8,8,8,8,8,8,8,8,8,8,8,8,8,8,8,8,8,8,8,8,8,8,8,8,8,8,8,8,8,8,8,8,8,8,8,8,8,8,8,8,8,8,8,8,8,8,8,8,8,8,8,8,8,8,8,8,8,8,8,8,8,8,8,8,8,8,8,8,8,8,8,8,8,8,8,8,8,8,8,8,8,8,8,8,8,8,8,8,8,8,8,8,8,8,8,8,8,8,8,8,8,8,8,8,8,8]
def tb107_4:List (Nat × Nat × Nat):=[(0,65536,128),(0,131072,2),(3,262144,196608),(4,524288,262144),(8,1048576,524289),(8,2097152,524416),(56,4194304,3670016),(72,8388608,4718592),(8,16777216,524289),(8,33554432,524416),(520,67108864,34078720),(1288,134217728,84410368),(2056,268435456,134742016),(4232,536870912,277348352),(8200,1073741824,537395200)]
def tb107_6:List (Nat × Nat × Nat):=[(0,8589934592,1),(0,17179869184,128),(0,34359738368,1),(0,68719476736,128),(8,137438953472,68719476736),(0,274877906944,1),(0,549755813888,128),(64,1099511627776,549755813888),(160,2199023255552,1374389534720),(256,4398046511104,2199023255552),(0,8796093022208,1),(0,17592186044416,128),(3072,35184372088832,26388279066624),(4096,70368744177664,35184372088832),(9187,140737488355328,25769803776),(25571,0,145135534866432),(65535,281474976710656,171798691840),(131071,0,351843720888320)]
def tb127_3:List (Nat × Nat × Nat):=[(0,131072,512),(1,262144,131072),(0,524288,4),(6,1048576,786432),(8,2097152,1048576),(16,4194304,2097153),(16,8388608,2097160),(16,16777216,2097664),(208,33554432,27262976),(304,67108864,39845888),(528,134217728,69206016),(16,268435456,2097153),(16,536870912,2097160),(16,1073741824,2097664),(12304,2147483648,1612709888),(16400,4294967296,2149580800),(34832,8589934592,4565499904),(65552,17179869184,8592031744),(132112,34359738368,17316184064),(262160,68719476736,34361835520)]
def tb127_5:List (Nat × Nat × Nat):=[(0,549755813888,1),(0,1099511627776,8),(0,2199023255552,256),(6,4398046511104,3298534883328),(9,8796093022208,4947802324992),(16,17592186044416,8796093022208),(0,35184372088832,1),(0,70368744177664,8),(0,140737488355328,512),(384,281474976710656,211106232532992),(576,562949953421312,316659348799488),(1024,1125899906842624,562949953421312),(2080,2251799813685248,1143492092887040),(4096,4503599627370496,2251799813685248)]
def tb127_6:List (Nat × Nat × Nat):=[(0,9007199254740992,1),(0,18014398509481984,8),(0,36028797018963968,256),(6,72057594037927936,54043195528445952),(0,144115188075855872,1),(0,288230376151711744,8),(0,576460752303423488,512),(96,1152921504606846976,864691128455135232),(0,2305843009213693952,1),(0,4611686018427387904,8),(0,9223372036854775808,512),(1536,18446744073709551616,13835058055282163712),(2304,36893488147419103232,20752587082923245568),(4096,73786976294838206464,36893488147419103232),(0,147573952589676412928,1),(0,295147905179352825856,8),(0,590295810358705651712,256),(98304,1180591620717411303424,885443715538058477568),(147456,2361183241434822606848,1328165573307087716352),(262144,4722366482869645213696,2361183241434822606848),(540431,9444732965739290427392,81064793292668928),(1589007,0,9518519942034128633856),(4194303,18889465931478580854784,1297036692682702848),(8388607,0,23611832414348226068480)]
theorem body62:bodyB Tryz.prog 62 = true:=by kernel_rfl
def math_bits_Len64_p (_n:Nat) (a0:UInt64):Option Int:=
  jn (fun (u2,i3)=>jn (fun (b0,g0)=>jn (fun (q0,s0)=>(stab0[(u8of q0).toNat]?).bind fun t0=>(chk (s0 + ((t0.toNat:Nat):Int))).bind fun j0=>some j0) (fun d0=>(if (256:UInt64) ≤ b0 then (chk (g0 + 8)).bind fun k0=>d0 (shrU b0 8,k0) else d0 (b0,g0)))) (fun c0=>(if (65536:UInt64) ≤ u2 then (chk (((i3:Nat):Int) + 16)).bind fun p0=>c0 (shrU u2 16,p0) else c0 (u2,((i3:Nat):Int))))) (fun J7=>(if (4294967296:UInt64) ≤ a0 then J7 (shrU a0 32,32) else J7 (a0,0)))
theorem math_bits_Len64_c (n:Nat) (L:List Nat) (w:World) (_hL:∀ b ∈ L,b < w.heap.size) (a0:UInt64)  {r:Int} (h:math_bits_Len64_p n a0 = some r) :
    Calls Tryz.prog 116 #[.int .u64 (a0.toNat:Int)] w (Gives w fun _ u=>u = vI r):=by
 unfold math_bits_Len64_p at h
 have hS0:=AK w
 refine AM Tryz.func116 rfl rfl rfl (fun _ cs0 hb0=>?_)
 refine Ae<|Ag rfl<|Aa<|Ak<|Ae<|Ac rfl<|Ab (FV.geqU (a:=a0) (b:=(4294967296:UInt64)) rfl rfl)<|Aa<|MX.join (α:=UInt64 × Nat) (fun ⟨u2,i3⟩=>[(0,.int .u64 (u2.toNat:Int)),(2,vI ((i3:Nat):Int))]) (fun ⟨u2,i3⟩ wx3=>St w wx3 []∧Tr w [] wx3 []) (fun ⟨u2,i3⟩=>(u2,i3)) h ?_ ?_
 rintro ⟨u2,i3⟩ wx3 ⟨hS4,hT5⟩ h
 try dsimp only at h
 refine Ak<|Ae<|Ac rfl<|Ab (FV.geqU (a:=u2) (b:=(65536:UInt64)) rfl rfl)<|Aa<|MX.join (α:=UInt64 × Int) (fun ⟨b0,d0⟩=>[(0,.int .u64 (b0.toNat:Int)),(2,vI d0)]) (fun ⟨b0,d0⟩ j0=>St w j0 []∧Tr wx3 [] j0 []) (fun ⟨b0,d0⟩=>(b0,d0)) h ?_ ?_
 rintro ⟨b0,d0⟩ j0 ⟨t0,H0⟩ h
 try dsimp only at h
 refine Ak<|Ae<|Ac rfl<|Ab (FV.geqU (a:=b0) (b:=(256:UInt64)) rfl rfl)<|Aa<|MX.join (α:=UInt64 × Int) (fun ⟨c0,g0⟩=>[(0,.int .u64 (c0.toNat:Int)),(2,vI g0)]) (fun ⟨c0,g0⟩ k0=>St w k0 []∧Tr j0 [] k0 []) (fun ⟨c0,g0⟩=>(c0,g0)) h ?_ ?_
 rintro ⟨c0,g0⟩ k0 ⟨y0,I0⟩ h
 try dsimp only at h
 refine Ae<|Ac rfl<|Ac rfl<|Ab (FV.conv8 (a:=c0) Tryz.underlying174 Tryz.underlying5 rfl) ?_
 obtain ⟨p0,C0,h⟩:=bi h
 refine Ab (FV.strIdx (k:=(u8of c0).toNat) (tab:=stab0) Tryz.underlying9 rfl rfl rfl rfl C0) ?_
 have J0:=p0.toNat_lt
 refine Ab (FV.convN (i:=p0.toNat) Tryz.underlying5 Tryz.underlying3 rfl (by omega)) ?_
 obtain ⟨K0,z0,h⟩:=bi h
 refine Ab (BT (i:=g0) (j:=((p0.toNat:Nat):Int)) rfl rfl z0)<|Ag rfl<|Aa<|Am rfl<|AJ hb0 Tryz.func116 rfl rfl ?_
 cases h
 exact y0.gv
 intro G0 s0 h
 try dsimp only at h
 refine AW rfl h (fun u0 h=>?_) (fun u0 h=>?_)
 refine Ae<|Ac rfl<|Ab (FV.shrU (a:=b0) (j:=8) rfl rfl)<|Ag rfl<|Aa<|Aw<|Ac rfl ?_
 obtain ⟨D0,A0,h⟩:=bi h
 refine Ab (BT (i:=d0) (j:=8) rfl rfl A0)<|Ag rfl<|Aa ?_
 exact s0 (shrU b0 8,D0) _ _ ⟨rfl,rfl,trivial⟩ ⟨t0,AN _ _⟩ h
 refine Ao ?_
 exact s0 (b0,d0) _ _ ⟨rfl,rfl,trivial⟩ ⟨t0,AN _ _⟩ h
 intro F0 q0 h
 try dsimp only at h
 refine AW rfl h (fun v0 h=>?_) (fun v0 h=>?_)
 refine Ae<|Ac rfl<|Ab (FV.shrU (a:=u2) (j:=16) rfl rfl)<|Ag rfl<|Aa<|Aw<|Ac rfl ?_
 obtain ⟨E0,B0,h⟩:=bi h
 refine Ab (BT (i:=((i3:Nat):Int)) (j:=16) rfl rfl B0)<|Ag rfl<|Aa ?_
 exact q0 (shrU u2 16,E0) _ _ ⟨rfl,rfl,trivial⟩ ⟨hS4,AN _ _⟩ h
 refine Ao ?_
 exact q0 (u2,((i3:Nat):Int)) _ _ ⟨rfl,rfl,trivial⟩ ⟨hS4,AN _ _⟩ h
 intro J7 hJ8 h
 try dsimp only at h
 refine AW rfl h (fun x0 h=>?_) (fun x0 h=>?_)
 refine Ae<|Ac rfl<|Ab (FV.shrU (a:=a0) (j:=32) rfl rfl)<|Ag rfl<|Aa<|Aw<|Ag rfl<|Aa ?_
 exact hJ8 (shrU a0 32,32) _ _ ⟨rfl,rfl,trivial⟩ ⟨hS0,AN _ _⟩ h
 refine Ao ?_
 exact hJ8 (a0,0) _ _ ⟨rfl,rfl,trivial⟩ ⟨hS0,AN _ _⟩ h
theorem body116:bodyB Tryz.prog 116 = true:=by kernel_rfl
def math_bits_Len_p (n:Nat) (a0:UInt64):Option Int:=
  (math_bits_Len64_p n a0).bind fun y1=>some y1
theorem math_bits_Len_c (n:Nat) (L:List Nat) (w:World) (hL:∀ b ∈ L,b < w.heap.size) (a0:UInt64)  {r:Int} (h:math_bits_Len_p n a0 = some r) :
    Calls Tryz.prog 87 #[.int .u64 (a0.toNat:Int)] w (Gives w fun _ u=>u = vI r):=by
 unfold math_bits_Len_p at h
 have hS0:=AK w
 refine AM Tryz.func87 rfl rfl rfl (fun _ cs0 hb0=>?_)
 refine Ae<|Ag rfl<|Aa<|Ak<|BC rfl<|Ao<|Ae<|Ac rfl ?_
 obtain ⟨y1,hy1,h⟩:=bi h
 refine BE (vI y1) body116 rfl (e1 rfl) (fun w9 hw9=>math_bits_Len64_c n _ w9 (hS0.hL0 hL hw9) a0 hy1) rfl<|Ag rfl<|Aa<|Am rfl<|AJ hb0 Tryz.func87 rfl rfl ?_
 cases h
 exact hS0.gv
theorem body87:bodyB Tryz.prog 87 = true:=by kernel_rfl
def slices_nextPowerOfTwo_p (n:Nat) (a0:Int):Option UInt64:=
  (math_bits_Len_p n (u64of a0)).bind fun y1=>(natOf y1).bind fun k2=>some (shlU (1:UInt64) k2)
theorem slices_nextPowerOfTwo_c (n:Nat) (L:List Nat) (w:World) (hL:∀ b ∈ L,b < w.heap.size) (a0:Int)  {r:UInt64} (h:slices_nextPowerOfTwo_p n a0 = some r) :
    Calls Tryz.prog 128 #[vI a0] w (Gives w fun _ u=>u = .int .u64 (r.toNat:Int)):=by
 unfold slices_nextPowerOfTwo_p at h
 have hS0:=AK w
 refine AM Tryz.func128 rfl rfl rfl (fun _ cs0 hb0=>?_)
 refine Ae<|Ag rfl<|Aa<|Ae<|Ac rfl<|Ab (FV.convU (i:=a0) Tryz.underlying3 Tryz.underlying146 rfl) ?_
 obtain ⟨y1,hy1,h⟩:=bi h
 refine BE (vI y1) body87 rfl (e1 rfl) (fun w9 hw9=>math_bits_Len_c n _ w9 (hS0.hL0 hL hw9) (u64of a0) hy1) rfl ?_
 obtain ⟨k2,hk2,h⟩:=bi h
 refine Ab (FV.shlI (a:=(1:UInt64)) (i:=y1) rfl rfl hk2)<|Ag rfl<|Aa<|Am rfl<|AJ hb0 Tryz.func128 rfl rfl ?_
 cases h
 exact hS0.gv
def tb129_1:List (Nat × Nat × Nat):=[(0,8,1),(1,16,8),(2,32,16),(0,64,1),(8,128,64),(16,256,128),(32,512,256),(68,1024,544),(255,2048,8),(511,0,3072)]
def tb145_1:List (Nat × Nat × Nat):=[(0,1024,1),(0,2048,4),(3,4096,3072),(4,8192,4096),(0,16384,1),(0,32768,2),(48,65536,49152),(64,131072,65536),(136,262144,139264)]
def tb111_3:List (Nat × Nat × Nat):=[(0,16384,1),(0,32768,64),(0,65536,1),(0,131072,128),(0,262144,1),(0,524288,128),(48,1048576,786432),(64,2097152,1048576),(0,4194304,1),(0,8388608,64),(768,16777216,12582912),(1024,33554432,16777216),(2291,67108864,49152),(6387,0,69206016),(16383,134217728,196608),(32767,0,167772160)]
def tb112_5:List (Nat × Nat × Nat):=[(0,131072,128),(0,262144,4),(3,524288,393216),(4,1048576,524288),(8,2097152,1048577),(8,4194304,1048704),(56,8388608,7340032),(72,16777216,9437184),(8,33554432,1048577),(8,67108864,1048704),(520,134217728,68157440),(1288,268435456,168820736),(2056,536870912,269484032),(4232,1073741824,554696704),(8200,2147483648,1074790400),(16392,4294967296,2148532224)]
def tb112_11:List (Nat × Nat × Nat):=[(0,4398046511104,1),(0,8796093022208,128),(0,17592186044416,1),(0,35184372088832,128),(8,70368744177664,35184372088832),(0,140737488355328,1),(0,281474976710656,128),(64,562949953421312,281474976710656),(160,1125899906842624,703687441776640),(256,2251799813685248,1125899906842624),(0,4503599627370496,1),(0,9007199254740992,128),(3072,18014398509481984,13510798882111488),(4096,36028797018963968,18014398509481984),(9187,72057594037927936,13194139533312),(25571,0,74309393851613184),(65535,144115188075855872,87960930222080),(131071,0,180143985094819840)]
def tb113_1:List (Nat × Nat × Nat):=[(0,2048,1),(0,4096,2),(0,8192,1),(0,16384,8),(0,32768,1),(0,65536,8),(48,131072,98304),(64,262144,131072),(0,524288,1),(0,1048576,2),(768,2097152,1572864),(1024,4194304,2097152),(2291,8388608,6144),(6387,0,8650752),(16383,16777216,24576),(32767,0,20971520)]
def tb114_1:List (Nat × Nat × Nat):=[(0,4096,1),(0,8192,2),(0,16384,1),(0,32768,8),(0,65536,1),(0,131072,8),(48,262144,196608),(64,524288,262144),(0,1048576,1),(0,2097152,2),(768,4194304,3145728),(1024,8388608,4194304),(2291,16777216,12288),(6387,0,17301504),(16383,33554432,49152),(32767,0,41943040)]
theorem body61:bodyB Tryz.prog 61 = true:=by kernel_rfl
theorem body86:bodyB Tryz.prog 86 = true:=by kernel_rfl
theorem body107:bodyB Tryz.prog 107 = true:=by kernel_rfl
theorem body131:bodyB Tryz.prog 131 = true:=by kernel_rfl
theorem body145:bodyB Tryz.prog 145 = true:=by kernel_rfl
def edit_Changed_l1 (n:Nat) (p0:Nat) (k0:Int × (List Int) → Option (List Int)):Int × (List Int) → Option (List Int)
  | (b0,c0)=>(if ((p0:Nat):Int) < b0 then (idx c0 b0).bind fun g0=>(chk (b0 - 1)).bind fun q0=>(idx c0 q0).bind fun u0=>(cmp_Less_int_p n g0 u0).bind fun y0=>(if y0 = true then (chk (b0 - 1)).bind fun d0=>(chk (b0 - 1)).bind fun s0=>(idx c0 s0).bind fun v0=>(put c0 ((b0.toNat:Nat):Int) v0).bind fun j0=>(idx j0 d0).bind fun z0=>(put j0 ((d0.toNat:Nat):Int) g0).bind fun x0=>(chk (b0 - 1)).bind fun t0=>k0 (t0,x0) else some c0) else some c0)
def edit_Changed_l2 (n:Nat) (k0:Nat) (j0:Nat) (d0:Int × (List Int) → Option (List Int)):Int × (List Int) → Option (List Int)
  | (b0,c0)=>(if b0 < ((k0:Nat):Int) then jn (fun q0=>(chk (b0 + 1)).bind fun p0=>d0 (p0,q0)) (fun g0=>Option.bind (loopF (edit_Changed_l1 n j0) n (b0,c0)) (g0)) else some c0)
def edit_Changed_l3 (n:Nat) (p0:List Int) (_J1073:Nat × Nat × Int × Bool × Bool → Option (List Int)):Nat × Nat × Int × Bool × Bool → Option (List Int)
  | (b0,c0,q0,d0,s0)=>(chk (((c0:Nat):Int) - ((b0:Nat):Int))).bind fun g0=>(if g0 ≤ 12 then (chk (((b0:Nat):Int) + 1)).bind fun j0=>Option.bind (loopF (edit_Changed_l2 n c0 b0) n (j0,p0)) (fun k0=>some k0) else (if q0 = 0 then none else (if d0 = true then none else none)))
def edit_Changed_b193 (_n:Nat) (c0:Int × Bool) (b0:(List Int) → Option (List Int)):(List Int) → Option (List Int)
  | d0=>(app d0 ([c0.1]:List Int)).bind fun g0=>b0 g0
def edit_Changed_l4 (_n:Nat) (a0:TSession) (d0:Nat × (List (Int × Bool)) → Option (List (Int × Bool))):Nat × (List (Int × Bool)) → Option (List (Int × Bool))
  | (b0,c0)=>(if b0 < a0.fDone.length then (a0.fDone[b0]?).bind fun g0=>d0 (b0 + 1,mset c0 g0.fUnit true) else some c0)
def edit_Changed_p (n:Nat) (a0:TSession):Option (List Int):=
  Option.bind (loopF (edit_Changed_l4 n a0) n (0,([]:List (Int × Bool)))) (fun c0=>mloop (fun b0=>(math_bits_Len_p n (u64of ((b0.length:Nat):Int))).bind fun d0=>loopF (edit_Changed_l3 n b0) n (0,b0.length,d0,true,true)) (edit_Changed_b193 n) n c0 ([]:List Int))
theorem edit_Changed_c (n:Nat) (L:List Nat) (w:World) (hL:∀ b ∈ L,b < w.heap.size) (a0:TSession) {v0_1:Value} (h0_1:Rep.R w L [v0_1] a0.fPlan) {v0_2:Value} (h0_2:Rep.R w L [v0_2] a0.fTotals) {v0_3:Value} (h0_3:Rep.R w L [v0_3] a0.fDone) {v0_4:Value} (h0_4:Rep.R w L [v0_4] a0.fUndone)  {r:List Int} (h:edit_Changed_p n a0 = some r) :
    Calls Tryz.prog 25 #[.agg #[vI a0.fK,v0_1,v0_2,v0_3,v0_4]] w (Gives w fun w' u=>∃ v0_0:Value,u = v0_0∧Rep.R w' L [v0_0] r):=by
 unfold edit_Changed_p at h
 have hS0:=AK w
 refine AM Tryz.func25 rfl rfl rfl (fun _ cs0 hb0=>?_)
 refine Ae<|Az .plain rfl (AI hS0 rfl rfl) (fun w2 b5 hS3 hT4=>?_)
 refine Ag rfl<|Aa<|Ae<|Az .plain rfl (Does.makeMap (κ:=Int) (ν:=Bool) hS3) (fun w7 c0 hS8 hT9=>?_)
 refine Ag rfl<|Aa<|Ak<|Ae<|AH 3 rfl<|AS rfl ((hS8.memA (.tl .hd)) 3 _ rfl) ?_
 have V1:=Ax h0_3 hS8
 have I6:a0.fDone.length ≤ 281474976710656:=AZ V1
 refine Ab (Bj (xs:=a0.fDone) Tryz.underlying46 rfl V1)<|Ac rfl<|Aa<|AB ?_
 obtain ⟨W2,H6⟩:=AD hS8 (.one .hd .done)
 obtain ⟨V6,B4,V3⟩:=bind_in2 h
 refine Bp (α:=Nat × (List (Int × Bool))) (fun ⟨F0,b0⟩=>[(3,.map (some c0)),(10,v0_3),(11,vI ((a0.fDone.length:Nat):Int)),(12,vI ((F0:Nat):Int))]) (fun ⟨F0,b0⟩ x1=>St w x1 [.obj c0 (mapO (b0:List (Int × Bool)))]∧Tr w7 [.obj c0 (mapO ([]:List (Int × Bool)))] x1 [.obj c0 (mapO (b0:List (Int × Bool)))]) (fun ⟨F0,b0⟩=>(F0,b0)) (0,([]:List (Int × Bool))) B4 ⟨rfl,rfl,rfl,rfl,trivial⟩ ⟨W2,AN _ _⟩ ?_
 rintro b6 ⟨F0,b0⟩ x1 K2 ⟨k1,s3⟩ h
 unfold edit_Changed_l4 at h
 try dsimp only at h
 refine Ae<|Ab (BA (i:=F0) (j:=a0.fDone.length) rfl rfl)<|Aa<|Ak<|AW rfl h (fun A2 h=>?_) (fun A2 h=>?_)
 refine Ao<|Ak<|AB<|Ae ?_
 obtain ⟨U0,q5,h⟩:=bi h
 have t4:=Ax h0_3 k1
 obtain ⟨U5,x6,R3,b4,C6,M4,s4⟩:=Bb t4 q5
 obtain rfl:=op_TMove M4
 refine Ab (Be 3 F0 rfl R3 rfl rfl b4)<|Ab (AG rfl s4)<|Az .plain rfl (AX [vI 0,vI 0,vI 0] k1) (fun c7 d6 X2 t3=>?_)
 refine Bk [vI U0.fUnit,vI U0.fFrom,vI U0.fTo] X2 .hd (onesB rfl) (fun d7 D1 u3=>?_)
 refine Aa<|Aw<|Ac rfl<|AH 0 rfl<|AS rfl ((D1.memA .hd) 0 _ rfl)<|BG .plain (Acts.mapUpdate (kv:=U0.fUnit) (vv:=true) D1 (.tl .hd) Tryz.underlying115 Tryz.underlying3 rfl rfl rfl rfl) (fun g7 Y2 v3=>?_)
 refine Aa<|AF<|Aw<|Ab (Bu (i:=F0) (j:=1) rfl rfl (by omega))<|Ac rfl<|Aa ?_
 obtain ⟨Z2,x3⟩:=AD Y2 (.one (.tl .hd) .done)
 have D4:=Tt t3 (Tt u3 (Tt v3 x3))
 exact K2 (F0 + 1,mset b0 U0.fUnit true) _ _ ⟨rfl,rfl,rfl,rfl,trivial⟩ ⟨Z2,(Tt s3 D4)⟩ h
 refine Bd rfl ?_
 have h:=V3 _ h
 try dsimp only at h
 refine Ae<|Ag rfl<|Aa<|Ak<|Ae<|Ac rfl<|Az .plain rfl (Does.range (D:=b0) k1 .hd Tryz.underlying115 rfl) (fun H5 k0 A1 E6=>?_)
 refine Aa<|AB ?_
 have B1:=A1.nilRow 3 (Rep.size Int)
 have F6:=St.nilRowT A1 3 (Rep.size Int)
 have B3:=Ar (cs:=[]) (xs:=([]:List Int)) B1 L (AC _ _)
 have z4:=h
 refine MX.mloop (α:=(List Int) × Value × (List Value) × (Array Nat)) (fun ⟨q0,d0,v0,g0⟩=>[(6,d0),(21,vP k0)]) (fun X1 ⟨q0,d0,v0,g0⟩ Z0=>St w Z0 [.row w.heap.size 3 (Rep.size Int) d0 q0.length v0,.obj k0 (iterO c0 b0.length g0),.obj c0 (mapO (b0:List (Int × Bool)))]∧Tr H5 [.row w.heap.size 3 (Rep.size Int) vN (([]:List Int).length) [],.obj k0 (iterO c0 b0.length #[]),.obj c0 (mapO (b0:List (Int × Bool)))] Z0 [.row w.heap.size 3 (Rep.size Int) d0 q0.length v0,.obj k0 (iterO c0 b0.length g0),.obj c0 (mapO (b0:List (Int × Bool)))]∧Cells Z0 (bl [.row w.heap.size 3 (Rep.size Int) d0 q0.length v0,.obj k0 (iterO c0 b0.length g0),.obj c0 (mapO (b0:List (Int × Bool)))] ++ L) v0 q0∧left b0 g0 = X1) (fun ⟨q0,d0,v0,g0⟩=>q0) (([]:List Int),vN,[],#[]) z4 ⟨rfl,rfl,trivial⟩ ⟨B1,AN _ _,B3,(left_nil _)⟩ ?_
 rintro X1 ⟨q0,d0,v0,g0⟩ Z0 X5 I2 ⟨P2,d3,I1,c4⟩ u4 G3
 refine Ae<|RG.next (D:=b0) P2 (.tl (.tl .hd)) (fun _=>(.tl .hd)) rfl rfl c4 (fun I5 v4 W0 g3=>?_) (fun W6 y5 I0 z5 W3 C4 d4 C1 E1=>?_)
 have h:=u4 v4
 try dsimp only at h
 refine Ab (Au rfl rfl)<|Aa<|Ak<|BC rfl<|Bd rfl<|Ae<|Ac rfl<|BL (fst:=[]) (cap:=[]) (vs:=[d0]) .plain body61 Tryz.func61 rfl rfl rfl rfl (e1 rfl) rfl (fun z6 z3 P6=>?_)
 refine Ae<|Ac rfl ?_
 have J6:q0.length ≤ 4294967296:=St.rowLe (α:=Int) W0 .hd
 obtain ⟨R5,g6,H3⟩:=St.rowV (α:=Int) W0 .hd
 refine Ab (FV.lenV Tryz.underlying42 rfl H3)<|Ag rfl<|Aa<|Aw<|Ac rfl<|Ac rfl<|Ac rfl<|Ab (FV.convU (i:=((q0.length:Nat):Int)) Tryz.underlying3 Tryz.underlying146 rfl) ?_
 obtain ⟨y1,v5,h⟩:=bi h
 refine BE (vI y1) body87 rfl (e1 rfl) (fun w9 hw9=>math_bits_Len_c n _ w9 (W0.hL0 hL hw9) (u64of ((q0.length:Nat):Int)) v5) rfl<|BL (fst:=[]) (cap:=[]) (vs:=[d0,vI 0,vI ((q0.length:Nat):Int),vI y1]) .plain body86 Tryz.func86 rfl rfl rfl rfl (e4 rfl rfl rfl rfl) rfl (fun A6 A3 Q6=>?_)
 refine Ae<|Ag rfl<|Aa<|Ae<|Ag rfl<|Aa<|AB ?_
 have x4:=h
 refine Bp (α:=Nat × Nat × Int × Bool × Bool) (fun ⟨x0,z0,M0,Q0,R0⟩=>[(0,d0),(1,vI ((x0:Nat):Int)),(2,vI ((z0:Nat):Int)),(3,vI M0),(8,.bool Q0),(9,.bool R0)]) (fun ⟨x0,z0,M0,Q0,R0⟩ Y0=>St w Y0 [.row w.heap.size 3 (Rep.size Int) d0 q0.length v0,.obj k0 (iterO c0 b0.length g0),.obj c0 (mapO (b0:List (Int × Bool)))]∧Tr I5 [.row w.heap.size 3 (Rep.size Int) d0 q0.length v0,.obj k0 (iterO c0 b0.length g0),.obj c0 (mapO (b0:List (Int × Bool)))] Y0 [.row w.heap.size 3 (Rep.size Int) d0 q0.length v0,.obj k0 (iterO c0 b0.length g0),.obj c0 (mapO (b0:List (Int × Bool)))]) (fun ⟨x0,z0,M0,Q0,R0⟩=>(x0,z0,M0,Q0,R0)) (0,q0.length,y1,true,true) x4 ⟨rfl,rfl,rfl,rfl,rfl,rfl,trivial⟩ ⟨W0,AN _ _⟩ ?_
 rintro V5 ⟨x0,z0,M0,Q0,R0⟩ Y0 D6 ⟨M2,b3⟩ h
 unfold edit_Changed_l3 at h
 try dsimp only at h
 refine AB<|Ae<|Ac rfl<|Ac rfl ?_
 obtain ⟨A5,P4,h⟩:=bi h
 refine Ab (FV.subc (i:=((z0:Nat):Int)) (j:=((x0:Nat):Int)) rfl rfl P4)<|Ag rfl<|Aa<|Ak<|Ae<|Ac rfl<|Ab (FV.leq (i:=A5) (j:=12) rfl rfl)<|Aa<|AW rfl h (fun t2 h=>?_) (fun t2 h=>?_)
 refine Ae<|Ac rfl<|Ac rfl<|Ac rfl<|BL (fst:=[]) (cap:=[]) (vs:=[d0,vI ((x0:Nat):Int),vI ((z0:Nat):Int)]) .plain body107 Tryz.func107 rfl rfl rfl rfl (e3 rfl rfl rfl) rfl (fun y6 y3 M6=>?_)
 refine Ae<|Ac rfl ?_
 obtain ⟨B5,Q4,h⟩:=bi h
 refine Ab (BT (i:=((x0:Nat):Int)) (j:=1) rfl rfl Q4)<|Ag rfl<|Aa<|AB ?_
 have g4:=Al I1 (Tt g3 b3)
 obtain ⟨R6,y4,U3⟩:=bind_in2 h
 refine Bp (α:=Int × (List Int) × (List Value)) (fun ⟨D0,y0,A0⟩=>[(0,d0),(1,vI ((x0:Nat):Int)),(2,vI ((z0:Nat):Int)),(6,vI D0)]) (fun ⟨D0,y0,A0⟩ K0=>St w K0 [.row w.heap.size 3 (Rep.size Int) d0 y0.length A0,.obj k0 (iterO c0 b0.length g0),.obj c0 (mapO (b0:List (Int × Bool)))]∧Tr Y0 [.row w.heap.size 3 (Rep.size Int) d0 q0.length v0,.obj k0 (iterO c0 b0.length g0),.obj c0 (mapO (b0:List (Int × Bool)))] K0 [.row w.heap.size 3 (Rep.size Int) d0 y0.length A0,.obj k0 (iterO c0 b0.length g0),.obj c0 (mapO (b0:List (Int × Bool)))]∧Cells K0 (bl [.row w.heap.size 3 (Rep.size Int) d0 y0.length A0,.obj k0 (iterO c0 b0.length g0),.obj c0 (mapO (b0:List (Int × Bool)))] ++ L) A0 y0) (fun ⟨D0,y0,A0⟩=>(D0,y0)) (B5,q0,v0) y4 ⟨rfl,rfl,rfl,rfl,trivial⟩ ⟨M2,AN _ _,g4⟩ ?_
 rintro W5 ⟨D0,y0,A0⟩ K0 H2 ⟨V0,c3,H1⟩ h
 unfold edit_Changed_l2 at h
 try dsimp only at h
 refine Ak<|Ae<|Ac rfl<|Ac rfl<|Ab (BF (i:=D0) (j:=((z0:Nat):Int)) rfl rfl)<|Aa<|AW rfl h (fun u2 h=>?_) (fun u2 h=>?_)
 refine Ao<|Ak<|AB<|Ae<|Ac rfl<|Ag rfl<|Aa<|AB<|MX.joinx (α:=(List Int) × (List Value)) (fun ⟨G0,H0⟩=>[(0,d0),(1,vI ((x0:Nat):Int)),(2,vI ((z0:Nat):Int)),(6,vI D0)]) (fun ⟨G0,H0⟩ b1=>St w b1 [.row w.heap.size 3 (Rep.size Int) d0 G0.length H0,.obj k0 (iterO c0 b0.length g0),.obj c0 (mapO (b0:List (Int × Bool)))]∧Tr K0 [.row w.heap.size 3 (Rep.size Int) d0 y0.length A0,.obj k0 (iterO c0 b0.length g0),.obj c0 (mapO (b0:List (Int × Bool)))] b1 [.row w.heap.size 3 (Rep.size Int) d0 G0.length H0,.obj k0 (iterO c0 b0.length g0),.obj c0 (mapO (b0:List (Int × Bool)))]∧Cells b1 (bl [.row w.heap.size 3 (Rep.size Int) d0 G0.length H0,.obj k0 (iterO c0 b0.length g0),.obj c0 (mapO (b0:List (Int × Bool)))] ++ L) H0 G0) (fun ⟨G0,H0⟩=>G0) (id:=2) rfl h ?_ ?_
 rintro ⟨G0,H0⟩ b1 ⟨Q2,j3,C3⟩ h
 try dsimp only at h
 refine AF<|Aw<|Ac rfl ?_
 obtain ⟨C5,R4,h⟩:=bi h
 refine Ab (BT (i:=D0) (j:=1) rfl rfl R4)<|Ag rfl<|Aa ?_
 exact H2 (C5,G0,H0) _ _ ⟨rfl,rfl,rfl,rfl,trivial⟩ ⟨Q2,(Tt c3 j3),C3⟩ h
 intro Y5 z1 h
 try dsimp only at h
 obtain ⟨U6,A4,P1⟩:=bind_in2 h
 refine Bp (α:=Int × (List Int) × (List Value)) (fun ⟨u0,C0,E0⟩=>[(0,d0),(1,vI ((x0:Nat):Int)),(2,vI ((z0:Nat):Int)),(6,vI D0),(7,vI u0)]) (fun ⟨u0,C0,E0⟩ c1=>St w c1 [.row w.heap.size 3 (Rep.size Int) d0 C0.length E0,.obj k0 (iterO c0 b0.length g0),.obj c0 (mapO (b0:List (Int × Bool)))]∧Tr K0 [.row w.heap.size 3 (Rep.size Int) d0 y0.length A0,.obj k0 (iterO c0 b0.length g0),.obj c0 (mapO (b0:List (Int × Bool)))] c1 [.row w.heap.size 3 (Rep.size Int) d0 C0.length E0,.obj k0 (iterO c0 b0.length g0),.obj c0 (mapO (b0:List (Int × Bool)))]∧Cells c1 (bl [.row w.heap.size 3 (Rep.size Int) d0 C0.length E0,.obj k0 (iterO c0 b0.length g0),.obj c0 (mapO (b0:List (Int × Bool)))] ++ L) E0 C0) (fun ⟨u0,C0,E0⟩=>(u0,C0)) (D0,y0,A0) A4 ⟨rfl,rfl,rfl,rfl,rfl,trivial⟩ ⟨V0,AN _ _,H1⟩ ?_
 rintro Z5 ⟨u0,C0,E0⟩ c1 J2 ⟨B0,p1,J0⟩ h
 unfold edit_Changed_l1 at h
 try dsimp only at h
 refine Ak<|Ak<|Bm 15 tb107_4 (by kernel_rfl) (by kernel_rfl) (by kernel_rfl) (fun p0 s0=>?_)
 refine Ah 0 1 p0 rfl s0 (fun _=>Ai rfl) rfl<|Ah 1 3 p0 rfl s0 (fun _=>Ai rfl) rfl<|Ah 2 7 p0 rfl s0 (fun _=>FV.gtr (i:=u0) (j:=((x0:Nat):Int)) rfl rfl) rfl<|Ah 3 15 p0 rfl s0 (fun _=>Ai rfl) rfl<|RD.ifd (s:=19) rfl h (fun v2 h=>?_) (fun v2 h=>?_)
 refine BJ 4 31 p0 rfl s0 (.yes rfl rfl) (fun _=>Ai rfl) rfl<|BJ 5 63 p0 rfl s0 (.yes rfl rfl) (fun _=>Ai rfl) rfl ?_
 obtain ⟨Z1,Y4,h⟩:=bi h
 obtain ⟨v1,Z4⟩:=idx_in Y4
 obtain ⟨c2,j6,P0,X0,B2,F4,W1⟩:=St.nth (α:=Int) B0 .hd J0 Z4
 obtain ⟨k2,k6,K1⟩:=BH (α:=Int) B0 .hd X0
 obtain rfl:c2 = ⟨k2,0,none⟩:=by rw [K1] at P0; cases P0; rfl
 have I3:B2 = [vI Z1]:=F4; subst I3
 refine BJ 6 127 p0 rfl s0 (.yes rfl rfl) (fun _=>Be 1 (u0.toNat) rfl P0 rfl v1 X0) rfl<|BM (i:=7) (m' :=255) (W:=24576) (takeC_ok p0 (by kernel_rfl)) rfl s0 (.yes rfl rfl) (AA rfl (W1 0 _ rfl)) rfl<|BJ 8 511 p0 rfl s0 (.yes rfl rfl) (fun _=>Ai rfl) rfl<|BJ 9 1023 p0 rfl s0 (.yes rfl rfl) (fun _=>Ai rfl) rfl ?_
 obtain ⟨D5,U4,h⟩:=bi h
 refine BJ 10 2047 p0 rfl s0 (.yes rfl rfl) (fun _=>FV.subc (i:=u0) (j:=1) rfl rfl U4) rfl ?_
 obtain ⟨b2,c5,h⟩:=bi h
 obtain ⟨X3,d5⟩:=idx_in c5
 obtain ⟨d2,p6,q1,Q1,C2,G4,j4⟩:=St.nth (α:=Int) B0 .hd J0 d5
 obtain ⟨p2,q6,J3⟩:=BH (α:=Int) B0 .hd Q1
 obtain rfl:d2 = ⟨p2,0,none⟩:=by rw [J3] at q1; cases q1; rfl
 have K3:C2 = [vI b2]:=G4; subst K3
 refine BJ 11 4095 p0 rfl s0 (.yes rfl rfl) (fun _=>Be 1 (D5.toNat) rfl q1 rfl X3 Q1) rfl<|BM (i:=12) (m' :=8191) (W:=24576) (takeC_ok p0 (by kernel_rfl)) rfl s0 (.yes rfl rfl) (AA rfl (j4 0 _ rfl)) rfl ?_
 obtain ⟨Q5,x5,h⟩:=bi h
 refine RD.callq (i:=13) (m' :=16383) (W:=16384) (takeC_ok p0 (by kernel_rfl)) rfl s0 (v:=.bool Q5) (fst:=[]) (cap:=[]) (.yes rfl rfl) body62 rfl (e2 rfl rfl) (fun w9 hw9=>cmp_Less_int_c n _ w9 (B0.hL0 hL hw9) Z1 b2 x5) rfl<|Ah 14 32767 p0 rfl s0 (fun _=>Bl rfl rfl) rfl<|Bc (doneD_ok p0 (by kernel_rfl))<|MX.ifb rfl h (fun x2 h=>?_) (fun x2 h=>?_)
 refine Ao<|Ak<|AB<|Bm 15 tb107_6 (by kernel_rfl) (by kernel_rfl) (by kernel_rfl) (fun j0 t0=>?_)
 refine Ah 0 1 j0 rfl t0 (fun _=>Ai rfl) rfl<|Ah 1 3 j0 rfl t0 (fun _=>Ai rfl) rfl<|Ah 2 7 j0 rfl t0 (fun _=>Ai rfl) rfl<|Ah 3 15 j0 rfl t0 (fun _=>Ai rfl) rfl ?_
 obtain ⟨Y1,V4,h⟩:=bi h
 refine Ah 4 31 j0 rfl t0 (fun _=>FV.subc (i:=u0) (j:=1) rfl rfl V4) rfl<|Ah 5 63 j0 rfl t0 (fun _=>Ai rfl) rfl<|Ah 6 127 j0 rfl t0 (fun _=>Ai rfl) rfl ?_
 obtain ⟨E5,W4,h⟩:=bi h
 refine Ah 7 255 j0 rfl t0 (fun _=>FV.subc (i:=u0) (j:=1) rfl rfl W4) rfl ?_
 obtain ⟨J5,g5,h⟩:=bi h
 obtain ⟨Y3,j5⟩:=idx_in g5
 obtain ⟨g2,s6,s1,R1,D2,H4,k4⟩:=St.nth (α:=Int) B0 .hd J0 j5
 obtain ⟨q2,t6,M3⟩:=BH (α:=Int) B0 .hd R1
 obtain rfl:g2 = ⟨q2,0,none⟩:=by rw [M3] at s1; cases s1; rfl
 have P3:D2 = [vI J5]:=H4; subst P3
 refine Ah 8 511 j0 rfl t0 (fun _=>Be 1 (E5.toNat) rfl s1 rfl Y3 R1) rfl<|AT 9 1023 245760 j0 rfl t0 (AA rfl (k4 0 _ rfl)) rfl<|Ah 10 2047 j0 rfl t0 (fun _=>Ai rfl) rfl<|Ah 11 4095 j0 rfl t0 (fun _=>Ai rfl) rfl<|Ah 12 8191 j0 rfl t0 (fun _=>Be 1 (u0.toNat) rfl P0 rfl v1 X0) rfl<|AT 13 16383 245760 j0 rfl t0 (AA rfl (W1 0 _ rfl)) rfl<|Ah 14 32767 j0 rfl t0 (fun _=>Be 1 (u0.toNat) rfl P0 rfl v1 X0) rfl ?_
 obtain ⟨j7,s5,h⟩:=bi h
 refine BD (i:=15) (readyD_ok j0 (by kernel_rfl)) (RO.acts (m' :=65535) (stepC_ok j0 (by kernel_rfl)) rfl rfl .plain (Acts.set (α:=Int) (i:=u0.toNat) s5 B0 K1 (fun _=>.hd) J0 rfl rfl rfl rfl rfl (by kernel_rfl)) (fun X6 ⟨B6,d1,k3,J1⟩=>?_))
 obtain ⟨K5,k5,h⟩:=bi h
 obtain ⟨Z3,p5⟩:=idx_in k5
 obtain ⟨j2,u6,u1,U1,E2,I4,K6⟩:=St.nth (α:=Int) d1 .hd J1 p5
 obtain ⟨s2,v6,M1⟩:=BH (α:=Int) d1 .hd U1
 obtain rfl:j2 = ⟨s2,0,none⟩:=by rw [M1] at u1; cases u1; rfl
 have Q3:E2 = [vI K5]:=I4; subst Q3
 refine Ah 16 131071 j0 rfl t0 (fun _=>Be 1 (Y1.toNat) rfl u1 rfl Z3 U1) rfl ?_
 obtain ⟨M5,t5,h⟩:=bi h
 refine BD (i:=17) (readyD_ok j0 (by kernel_rfl)) (RO.acts (m' :=262143) (stepC_ok j0 (by kernel_rfl)) rfl rfl .plain (Acts.set (α:=Int) (i:=Y1.toNat) t5 d1 M1 (fun _=>.hd) J1 rfl rfl rfl rfl rfl (by kernel_rfl)) (fun Y6 ⟨F2,R2,p3,D3⟩=>?_))
 refine Bc (doneD_ok j0 (by kernel_rfl))<|AF<|Aw<|Ac rfl ?_
 obtain ⟨F5,X4,h⟩:=bi h
 refine Ab (FV.subc (i:=u0) (j:=1) rfl rfl X4)<|Ag rfl<|Aa ?_
 exact J2 (F5,M5,F2) _ _ ⟨rfl,rfl,rfl,rfl,rfl,trivial⟩ ⟨R2,(Tt p1 (Tt k3 p3)),D3⟩ h
 refine Bd rfl ?_
 have h:=P1 _ h
 try dsimp only at h
 exact z1 (C0,E0) _ _ ⟨rfl,rfl,rfl,rfl,trivial⟩ ⟨B0,p1,J0⟩ h
 refine By 16383 1 [(4,20),(5,21),(6,22),(7,23),(8,24),(9,25),(10,26),(11,27),(12,28),(13,29)] (F:=[(19,false)]) (U:=[]) p0 s0 (.cons rfl .nil) .nil ?_
 dsimp only [offS,List.map]
 refine Ah 14 32767 p0 rfl s0 (fun _=>Bn rfl rfl) rfl<|Bc (doneD_ok p0 (by kernel_rfl))<|BC rfl<|Bd rfl ?_
 have h:=P1 _ h
 try dsimp only at h
 exact z1 (C0,E0) _ _ ⟨rfl,rfl,rfl,rfl,trivial⟩ ⟨B0,p1,J0⟩ h
 refine Bd rfl ?_
 have h:=U3 _ h
 try dsimp only at h
 refine MX.fin rfl<|Ay (u:=.tuple #[]) y3 Tryz.func107 rfl .nil rfl<|Aa<|Am rfl<|Ay (u:=.tuple #[]) A3 Tryz.func86 rfl .nil rfl<|Aa<|MX.fin rfl<|Ay (u:=.tuple #[]) z3 Tryz.func61 rfl .nil rfl<|Aa<|Ae<|Ac rfl<|Ag rfl<|Aa<|Am rfl ?_
 have J4:=AQ (α:=Int) V0 .hd H1 hL
 have g1:=Bf V0 .hd
 have G6:=Bg V0 .hd
 have K4:=Bh (α:=Int) (v:=d0) (xs:=y0) g1 L J4
 refine AJ hb0 Tryz.func25 rfl rfl ?_
 cases h
 exact ⟨g1.ag,fun w9 hw9=>⟨d0,rfl,g1.kd K4 hw9⟩⟩
 refine Ao<|Ak<|Ae<|Ac rfl<|Ab (FV.eql (i:=M0) (j:=0) rfl rfl)<|Aa<|AW rfl h (fun y2 h=>?_) (fun y2 h=>?_)
 refine Ae<|Ac rfl<|Ac rfl<|Ac rfl ?_
 cases h
 refine Ao<|Ak<|Ae<|Ac rfl<|Ab (Ba rfl)<|Aa<|BS rfl h (fun z2 h=>?_) (fun z2 h=>?_)
 refine Ao<|Ae<|Ac rfl<|Ac rfl<|Ac rfl ?_
 cases h
 refine Ae<|Ac rfl<|Ac rfl<|Ac rfl ?_
 cases h
 have h:=G3 _ _ C4
 unfold edit_Changed_b193 at h
 try dsimp only at h
 refine Ab (Au rfl rfl)<|Aa<|Ak<|AY rfl<|Ao<|AB<|Ae<|Ab (FV.entry (D:=b0) C1 (.tl (.tl .hd)) (.tl .hd) W3 rfl)<|Ab (Au rfl rfl)<|Ag rfl<|Aa<|Aw<|Ac rfl<|Ac rfl<|Az .plain rfl (AE (α:=Int) (xs:=([I0.1]:List Int)) (vs:=[vI I0.1]) (ds' :=[vI I0.1]) rfl C1 el42 rfl (e1 rfl) (by kernel_rfl) rfl) (fun Z6 c6 j1 F1=>?_)
 have E3:=Ar (cs:=[vI I0.1]) (xs:=(([I0.1]:List Int):List Int)) j1 L (Aq (cs:=[vI I0.1]) (ds:=[]) rfl (AC _ _))
 obtain ⟨P5,u5,h⟩:=bi h
 have p4:=Al I1 (Tt E1 F1)
 refine RG.doesL .plain rfl (AR (α:=Int) (ys:=([I0.1]:List Int)) u5 j1 (fun _ _=>(.tl .hd)) el42 rfl rfl p4 (Src.row (α:=Int) j1 .hd E3)) (fun G5 b7 ⟨G2,U2,q3,F3⟩=>?_)
 refine Ag rfl<|Aa<|AF ?_
 obtain ⟨V2,G1⟩:=AD U2 (.one (.tl .hd) (.one (.tl .hd) (.one (.tl .hd) .done)))
 have q4:=Al F3 G1
 have E4:=Tt E1 (Tt F1 (Tt q3 G1))
 exact I2 z5 (P5,G5,G2,(g0.push y5)) _ _ ⟨rfl,rfl,trivial⟩ ⟨V2,(Tt d3 E4),q4,d4⟩ h
def tb35_6:List (Nat × Nat × Nat):=[(0,8192,32),(0,16384,8),(2,32768,16384),(5,65536,40960),(8,131072,65536),(16,262144,131080),(16,524288,131104),(112,1048576,917504),(144,2097152,1179648),(16,4194304,131074),(528,8388608,4325376),(16,16777216,131088),(3088,33554432,25296896),(4112,67108864,33685504),(8208,134217728,67239936),(16656,268435456,136445952),(32784,536870912,268566528)]
def tb35_8:List (Nat × Nat × Nat):=[(0,4294967296,32),(0,8589934592,8),(2,17179869184,8589934592),(5,34359738368,21474836480),(8,68719476736,34359738368),(16,137438953472,68719476744),(16,274877906944,68719476768),(112,549755813888,481036337152),(144,1099511627776,618475290624),(16,2199023255552,68719476738),(528,4398046511104,2267742732288),(16,8796093022208,68719476752),(3088,17592186044416,13262859010048),(4112,35184372088832,17660905521152),(8208,70368744177664,35253091565568),(16656,140737488355328,71536975282176),(32784,281474976710656,140806207832064)]
def tb35_9:List (Nat × Nat × Nat):=[(0,562949953421312,0),(0,1125899906842624,8),(0,2251799813685248,32),(6,4503599627370496,3377699720527872),(9,9007199254740992,5066549580791808),(0,18014398509481984,2),(32,36028797018963968,18014398509481984),(0,72057594037927936,16),(192,144115188075855872,108086391056891904),(256,288230376151711744,144115188075855872),(512,576460752303423488,288230376151711744),(1024,1152921504606846976,576460752303423488),(2064,2305843009213693952,1161928703861587968),(0,4611686018427387904,8),(0,9223372036854775808,32),(24576,18446744073709551616,13835058055282163712),(36864,36893488147419103232,20752587082923245568),(131071,8,36893488147419103232)]
def wardmoteref26_Changed_l1 (_n:Nat) (d0:List Int) (a0:TSession) (j0:Nat) (g0:Int → Option Int):Int → Option Int
  | b0=>jn (fun k0=>(if k0 = true then (chk (b0 + 1)).bind fun p0=>g0 p0 else some b0)) (fun c0=>(if b0 < ((d0.length:Nat):Int) then (idx d0 b0).bind fun q0=>(a0.fDone[j0]?).bind fun s0=>c0 (decide (q0 < s0.fUnit)) else c0 false))
def wardmoteref26_Changed_l2 (n:Nat) (a0:TSession) (g0:Nat × (List Int) → Option (List Int)):Nat × (List Int) → Option (List Int)
  | (c0,b0)=>(if c0 < a0.fDone.length then Option.bind (loopF (wardmoteref26_Changed_l1 n b0 a0 c0) n 0) (fun d0=>jn (fun k0=>(if k0 = true then g0 (c0 + 1,b0) else (cut b0 0 d0).bind fun t0=>(cut b0 d0 (b0.length:Int)).bind fun u0=>(app ([]:List Int) t0).bind fun v0=>(a0.fDone[c0]?).bind fun p0=>(app v0 ([p0.fUnit]:List Int)).bind fun x0=>(app x0 u0).bind fun y0=>g0 (c0 + 1,y0))) (fun j0=>(if d0 < ((b0.length:Nat):Int) then (idx b0 d0).bind fun q0=>(a0.fDone[c0]?).bind fun s0=>j0 (decide (q0 = s0.fUnit)) else j0 false))) else some b0)
def wardmoteref26_Changed_p (n:Nat) (a0:TSession):Option (List Int):=
  Option.bind (loopF (wardmoteref26_Changed_l2 n a0) n (0,([]:List Int))) (fun b0=>some b0)
theorem wardmoteref26_Changed_c (n:Nat) (L:List Nat) (w:World) (hL:∀ b ∈ L,b < w.heap.size) (a0:TSession) {v0_1:Value} (h0_1:Rep.R w L [v0_1] a0.fPlan) {v0_2:Value} (h0_2:Rep.R w L [v0_2] a0.fTotals) {v0_3:Value} (h0_3:Rep.R w L [v0_3] a0.fDone) {v0_4:Value} (h0_4:Rep.R w L [v0_4] a0.fUndone)  {r:List Int} (h:wardmoteref26_Changed_p n a0 = some r) :
    Calls Tryz.prog 35 #[.agg #[vI a0.fK,v0_1,v0_2,v0_3,v0_4]] w (Gives w fun w' u=>∃ v0_0:Value,u = v0_0∧Rep.R w' L [v0_0] r):=by
 unfold wardmoteref26_Changed_p at h
 have hS0:=AK w
 refine AM Tryz.func35 rfl rfl rfl (fun _ cs0 hb0=>?_)
 refine Ae<|Az .plain rfl (AI hS0 rfl rfl) (fun w2 b5 hS3 hT4=>?_)
 refine Ag rfl<|Aa<|Ae<|Ag rfl<|Aa<|Ak<|Ae<|Ag rfl<|Aa<|AB ?_
 have hS7:=hS3.nilRow 3 (Rep.size Int)
 have hT8:=St.nilRowT hS3 3 (Rep.size Int)
 have hc9:=Ar (cs:=[]) (xs:=([]:List Int)) hS7 L (AC _ _)
 obtain ⟨q6,E4,M3⟩:=bind_in2 h
 refine Bp (α:=Nat × (List Int) × Value × (List Value)) (fun ⟨y0,k0,j0,B0⟩=>[(1,vP b5),(3,j0),(4,vI ((y0:Nat):Int))]) (fun ⟨y0,k0,j0,B0⟩ P1=>St w P1 [.row w.heap.size 3 (Rep.size Int) j0 k0.length B0,.cells b5 [vI a0.fK,v0_1,v0_2,v0_3,v0_4] 48]∧Tr w2 [.row w.heap.size 3 (Rep.size Int) vN (([]:List Int).length) [],.cells b5 [vI a0.fK,v0_1,v0_2,v0_3,v0_4] 48] P1 [.row w.heap.size 3 (Rep.size Int) j0 k0.length B0,.cells b5 [vI a0.fK,v0_1,v0_2,v0_3,v0_4] 48]∧Cells P1 (bl [.row w.heap.size 3 (Rep.size Int) j0 k0.length B0,.cells b5 [vI a0.fK,v0_1,v0_2,v0_3,v0_4] 48] ++ L) B0 k0) (fun ⟨y0,k0,j0,B0⟩=>(y0,k0)) (0,([]:List Int),vN,[]) E4 ⟨rfl,rfl,rfl,trivial⟩ ⟨hS7,AN _ _,hc9⟩ ?_
 rintro J5 ⟨y0,k0,j0,B0⟩ P1 u2 ⟨k1,z2,A1⟩ h
 unfold wardmoteref26_Changed_l2 at h
 try dsimp only at h
 refine Ak<|Ae<|Ac rfl<|AH 3 rfl<|AS rfl ((k1.memA (.tl .hd)) 3 _ rfl) ?_
 have I2:=Ax h0_3 k1
 have j6:a0.fDone.length ≤ 281474976710656:=AZ I2
 refine Ab (Bj (xs:=a0.fDone) Tryz.underlying46 rfl I2)<|Ab (BA (i:=y0) (j:=a0.fDone.length) rfl rfl)<|Aa<|AW rfl h (fun Z2 h=>?_) (fun Z2 h=>?_)
 refine Ao<|Ak<|AB<|Ae<|Ag rfl<|Aa<|Ak<|AB ?_
 obtain ⟨s6,F4,P3⟩:=bind_in2 h
 refine Bp (α:=Int) (fun J0=>[(1,vP b5),(3,j0),(4,vI ((y0:Nat):Int)),(5,vI J0)]) (fun J0 W1=>St w W1 [.row w.heap.size 3 (Rep.size Int) j0 k0.length B0,.cells b5 [vI a0.fK,v0_1,v0_2,v0_3,v0_4] 48]∧Tr P1 [.row w.heap.size 3 (Rep.size Int) j0 k0.length B0,.cells b5 [vI a0.fK,v0_1,v0_2,v0_3,v0_4] 48] W1 [.row w.heap.size 3 (Rep.size Int) j0 k0.length B0,.cells b5 [vI a0.fK,v0_1,v0_2,v0_3,v0_4] 48]) (fun J0=>J0) 0 F4 ⟨rfl,rfl,rfl,rfl,trivial⟩ ⟨k1,AN _ _⟩ ?_
 rintro K5 J0 W1 q3 ⟨V0,z1⟩ h
 unfold wardmoteref26_Changed_l1 at h
 try dsimp only at h
 refine Ak<|Ak<|MX.join (α:=Bool) (fun J1=>[(1,vP b5),(3,j0),(4,vI ((y0:Nat):Int)),(5,vI J0),(29,.bool J1)]) (fun J1 X1=>St w X1 [.row w.heap.size 3 (Rep.size Int) j0 k0.length B0,.cells b5 [vI a0.fK,v0_1,v0_2,v0_3,v0_4] 48]∧Tr W1 [.row w.heap.size 3 (Rep.size Int) j0 k0.length B0,.cells b5 [vI a0.fK,v0_1,v0_2,v0_3,v0_4] 48] X1 [.row w.heap.size 3 (Rep.size Int) j0 k0.length B0,.cells b5 [vI a0.fK,v0_1,v0_2,v0_3,v0_4] 48]) (fun J1=>J1) h ?_ ?_
 rintro J1 X1 ⟨R0,V1⟩ h
 try dsimp only at h
 refine MX.ifb rfl h (fun b3 h=>?_) (fun b3 h=>?_)
 refine Ao<|AB<|Aw<|Ac rfl ?_
 obtain ⟨A5,j5,h⟩:=bi h
 refine Ab (BT (i:=J0) (j:=1) rfl rfl j5)<|Ag rfl<|Aa<|AF ?_
 exact q3 A5 _ _ ⟨rfl,rfl,rfl,rfl,trivial⟩ ⟨R0,(Tt z1 V1)⟩ h
 refine Bd rfl ?_
 have h:=P3 _ h
 try dsimp only at h
 refine Ak<|Ak<|MX.join (α:=Bool) (fun K1=>[(1,vP b5),(3,j0),(4,vI ((y0:Nat):Int)),(5,vI J0),(48,.bool K1)]) (fun K1 Y1=>St w Y1 [.row w.heap.size 3 (Rep.size Int) j0 k0.length B0,.cells b5 [vI a0.fK,v0_1,v0_2,v0_3,v0_4] 48]∧Tr X1 [.row w.heap.size 3 (Rep.size Int) j0 k0.length B0,.cells b5 [vI a0.fK,v0_1,v0_2,v0_3,v0_4] 48] Y1 [.row w.heap.size 3 (Rep.size Int) j0 k0.length B0,.cells b5 [vI a0.fK,v0_1,v0_2,v0_3,v0_4] 48]) (fun K1=>K1) h ?_ ?_
 rintro K1 Y1 ⟨U1,A2⟩ h
 try dsimp only at h
 refine MX.ifb rfl h (fun c3 h=>?_) (fun c3 h=>?_)
 refine Bd rfl<|Aw<|Ac rfl<|Ab (Bu (i:=y0) (j:=1) rfl rfl (by omega))<|Ag rfl<|Aa ?_
 have J2:=Tt z1 (Tt V1 A2)
 have W3:=Al A1 J2
 exact u2 (y0 + 1,k0,j0,B0) _ _ ⟨rfl,rfl,rfl,trivial⟩ ⟨U1,(Tt z2 J2),W3⟩ h
 refine Ao<|Bm 4 tb35_9 (by kernel_rfl) (by kernel_rfl) (by kernel_rfl) (fun c0 D0=>?_)
 refine Ah 1 2 c0 rfl D0 (fun _=>Ai rfl) rfl<|Ah 2 6 c0 rfl D0 (fun _=>Ai rfl) rfl ?_
 have K2:=Tt z1 (Tt V1 A2)
 have X3:=Al A1 K2
 have V4:=AQ (α:=Int) U1 .hd X3 hL
 have d1:=Bf U1 .hd
 have x3:=Bg U1 .hd
 have P2:=Bh (α:=Int) (v:=j0) (xs:=k0) d1 L V4
 obtain ⟨Q0,v5,h⟩:=bi h
 refine RD.vE 3 14 c0 rfl D0 .plain (FV.cutP (α:=Int) v5 (by kernel_rfl) rfl P2 rfl ⟨_,rfl⟩) rfl (fun t6 M0=>?_)
 refine Ah 5 46 c0 rfl D0 (fun _=>Bt 3 rfl) rfl<|Ah 7 174 c0 rfl D0 (fun _=>Ai rfl) rfl<|Ah 13 8366 c0 rfl D0 (fun _=>Ai rfl) rfl<|Ah 14 24750 c0 rfl D0 (fun _=>Ai rfl) rfl ?_
 obtain ⟨D5,x5,h⟩:=bi h
 refine RD.vE 15 57518 c0 rfl D0 .plain (FV.cutP (α:=Int) x5 (by kernel_rfl) rfl P2 ⟨_,rfl⟩ rfl) rfl (fun B5 W4=>?_)
 obtain ⟨R1,P0,h⟩:=bi h
 obtain ⟨b0,p1,h⟩:=bi h
 refine RD.meet (α:=Value × (List Value) × Value × (List Value)) (fun ⟨g1,b1,j1,c1⟩=>[(1,vP b5),(3,j0),(4,vI ((y0:Nat):Int)),(64,B5),(53,j1),(60,g1)]) (fun ⟨g1,b1,j1,c1⟩ Q1=>St w Q1 [.row w.heap.size 3 (Rep.size Int) g1 (([b0.fUnit]:List Int).length) b1,.row w.heap.size 3 (Rep.size Int) j1 R1.length c1,.cells b5 [vI a0.fK,v0_1,v0_2,v0_3,v0_4] 48]∧Tr Y1 [.cells b5 [vI a0.fK,v0_1,v0_2,v0_3,v0_4] 48] Q1 [.row w.heap.size 3 (Rep.size Int) g1 (([b0.fUnit]:List Int).length) b1,.row w.heap.size 3 (Rep.size Int) j1 R1.length c1,.cells b5 [vI a0.fK,v0_1,v0_2,v0_3,v0_4] 48]∧Cells Q1 (bl [.row w.heap.size 3 (Rep.size Int) g1 (([b0.fUnit]:List Int).length) b1,.row w.heap.size 3 (Rep.size Int) j1 R1.length c1,.cells b5 [vI a0.fK,v0_1,v0_2,v0_3,v0_4] 48] ++ L) b1 (([b0.fUnit]:List Int):List Int)∧Cells Q1 (bl [.row w.heap.size 3 (Rep.size Int) g1 (([b0.fUnit]:List Int).length) b1,.row w.heap.size 3 (Rep.size Int) j1 R1.length c1,.cells b5 [vI a0.fK,v0_1,v0_2,v0_3,v0_4] 48] ++ L) c1 (R1:List Int)) 3 61439 ?_ ?_
 rintro ⟨g1,b1,j1,c1⟩ Q1 ⟨y2,B2,z3,A3⟩
 try dsimp only
 obtain ⟨y6,y5,h⟩:=bi h
 refine BD (i:=12) (readyD_ok c0 (by kernel_rfl)) (Bo (m' :=65535) (stepC_ok c0 (by kernel_rfl)) rfl rfl .plain rfl (AR (α:=Int) (ys:=([b0.fUnit]:List Int)) y5 y2 (fun _ _=>(.tl .hd)) el42 rfl rfl A3 (Src.row (α:=Int) y2 .hd z3)) (fun u6 v6 ⟨b6,s3,C2,B3⟩=>?_))
 obtain ⟨E5,z5,h⟩:=bi h
 have Y3:=Aj W4 (Tt B2 C2)
 refine BD (i:=16) (readyD_ok c0 (by kernel_rfl)) (Bo (m' :=131071) (stepC_ok c0 (by kernel_rfl)) rfl rfl .plain rfl (AR (α:=Int) (ys:=D5) z5 s3 (fun _ _=>(.tl .hd)) el42 rfl rfl B3 (Bw Y3)) (fun C5 x6 ⟨j3,t3,y3,C3⟩=>?_))
 refine Ah 17 262143 c0 rfl D0 (fun _=>BP rfl) rfl<|Bc (doneD_ok c0 (by kernel_rfl))<|AF<|Aw<|Ac rfl<|Ab (Bu (i:=y0) (j:=1) rfl rfl (by omega))<|Ag rfl<|Aa ?_
 obtain ⟨u3,D2⟩:=AD t3 (.one (.tl .hd) (.one (.tl .hd) .done))
 have Z3:=Al C3 D2
 have G4:=Tt K2 (Tt x3 (Tt B2 (Tt C2 (Tt y3 D2))))
 exact u2 (y0 + 1,E5,C5,j3) _ _ ⟨rfl,rfl,rfl,trivial⟩ ⟨u3,(Tt z2 G4),Z3⟩ h
 intro K0
 refine Bv [0,6] (readyD_ok c0 (by kernel_rfl)) ⟨?_,?_,trivial⟩
 refine BI (m' :=57519) (stepC_ok c0 (by kernel_rfl)) rfl .plain rfl (AE (α:=Int) (xs:=([]:List Int)) (vs:=[]) (ds' :=[]) rfl d1 el42 rfl evs_nil (by kernel_rfl) rfl) (fun g2 Z1 t0 p0=>?_)
 have G0:=Ar (cs:=[]) (xs:=(([]:List Int):List Int)) t0 L (AC _ _)
 refine Bv [4,6] (readyD_ok c0 (by kernel_rfl)) ⟨?_,?_,trivial⟩
 have x0:=Aj M0 p0
 refine Bo (m' :=57535) (stepC_ok c0 (by kernel_rfl)) rfl rfl .plain rfl (AR (α:=Int) (ys:=Q0) P0 t0 (fun _ _=>.hd) el42 rfl rfl G0 (Bw x0)) (fun I0 q1 ⟨E0,C0,F0,H0⟩=>?_)
 refine BD (i:=6) (readyD_ok c0 (by kernel_rfl)) (BW (m' :=57599) (stepC_ok c0 (by kernel_rfl)) rfl .plain rfl (AA rfl ((C0.memA (.tl .hd)) 3 _ rfl)) ?_)
 have F1:=Ax h0_3 C0
 obtain ⟨s1,p2,X0,C1,s2,H1,E1⟩:=Bb F1 p1
 obtain rfl:=op_TMove H1
 refine Ah 8 57855 c0 rfl D0 (fun _=>Be 3 y0 rfl X0 rfl rfl C1) rfl<|Ah 9 58367 c0 rfl D0 (fun _=>Bt 0 rfl) rfl<|BD (i:=10) (readyD_ok c0 (by kernel_rfl)) (BW (m' :=59391) (stepC_ok c0 (by kernel_rfl)) rfl .plain rfl (AA rfl (E1 0 _ rfl)) ?_)
 refine RD.nu 11 61439 c0 rfl .plain rfl (AE (α:=Int) (xs:=([b0.fUnit]:List Int)) (vs:=[vI b0.fUnit]) (ds' :=[vI b0.fUnit]) rfl C0 el42 rfl (e1 rfl) (by kernel_rfl) rfl) (fun U0 u0 g0 d0=>?_)
 have v0:=Ar (cs:=[vI b0.fUnit]) (xs:=(([b0.fUnit]:List Int):List Int)) g0 L (Aq (cs:=[vI b0.fUnit]) (ds:=[]) rfl (AC _ _))
 have b4:=Al H0 d0
 have H4:=Tt p0 (Tt F0 d0)
 exact K0 ((vS u0 1),[vI b0.fUnit],I0,E0) _ _ ⟨rfl,rfl,rfl,rfl,rfl,rfl,trivial⟩ ⟨g0,H4,v0,b4⟩
 refine BW (m' :=57583) (stepC_ok c0 (by kernel_rfl)) rfl .plain rfl (AA rfl ((t0.memA (.tl .hd)) 3 _ rfl)) ?_
 have F1:=Ax h0_3 t0
 obtain ⟨s1,p2,X0,C1,s2,H1,E1⟩:=Bb F1 p1
 obtain rfl:=op_TMove H1
 refine Ah 8 57839 c0 rfl D0 (fun _=>Be 3 y0 rfl X0 rfl rfl C1) rfl<|Ah 9 58351 c0 rfl D0 (fun _=>Bt 0 rfl) rfl<|Bv [4,10] (readyD_ok c0 (by kernel_rfl)) ⟨?_,?_,trivial⟩
 have x0:=Aj M0 p0
 refine Bo (m' :=58367) (stepC_ok c0 (by kernel_rfl)) rfl rfl .plain rfl (AR (α:=Int) (ys:=Q0) P0 t0 (fun _ _=>.hd) el42 rfl rfl G0 (Bw x0)) (fun I0 q1 ⟨E0,C0,F0,H0⟩=>?_)
 have G1:=Ax h0_3 C0
 obtain ⟨u1,q2,Y0,F2,t2,I1,Z0⟩:=Bb G1 p1
 have x1:u1 = s1:=by rw [X0] at Y0; cases Y0; rfl
 rw [x1] at Z0
 obtain rfl:=op_TMove I1
 refine BD (i:=10) (readyD_ok c0 (by kernel_rfl)) (BW (m' :=59391) (stepC_ok c0 (by kernel_rfl)) rfl .plain rfl (AA rfl (Z0 0 _ rfl)) ?_)
 refine RD.nu 11 61439 c0 rfl .plain rfl (AE (α:=Int) (xs:=([b0.fUnit]:List Int)) (vs:=[vI b0.fUnit]) (ds' :=[vI b0.fUnit]) rfl C0 el42 rfl (e1 rfl) (by kernel_rfl) rfl) (fun U0 u0 g0 d0=>?_)
 have v0:=Ar (cs:=[vI b0.fUnit]) (xs:=(([b0.fUnit]:List Int):List Int)) g0 L (Aq (cs:=[vI b0.fUnit]) (ds:=[]) rfl (AC _ _))
 have c4:=Al H0 d0
 have I4:=Tt p0 (Tt F0 d0)
 exact K0 ((vS u0 1),[vI b0.fUnit],I0,E0) _ _ ⟨rfl,rfl,rfl,rfl,rfl,rfl,trivial⟩ ⟨g0,I4,v0,c4⟩
 refine BW (m' :=59375) (stepC_ok c0 (by kernel_rfl)) rfl .plain rfl (AA rfl (E1 0 _ rfl))<|Bv [4,11] (readyD_ok c0 (by kernel_rfl)) ⟨?_,?_,trivial⟩
 have x0:=Aj M0 p0
 refine Bo (m' :=59391) (stepC_ok c0 (by kernel_rfl)) rfl rfl .plain rfl (AR (α:=Int) (ys:=Q0) P0 t0 (fun _ _=>.hd) el42 rfl rfl G0 (Bw x0)) (fun I0 q1 ⟨E0,C0,F0,H0⟩=>?_)
 refine RD.nu 11 61439 c0 rfl .plain rfl (AE (α:=Int) (xs:=([b0.fUnit]:List Int)) (vs:=[vI b0.fUnit]) (ds' :=[vI b0.fUnit]) rfl C0 el42 rfl (e1 rfl) (by kernel_rfl) rfl) (fun U0 u0 g0 d0=>?_)
 have v0:=Ar (cs:=[vI b0.fUnit]) (xs:=(([b0.fUnit]:List Int):List Int)) g0 L (Aq (cs:=[vI b0.fUnit]) (ds:=[]) rfl (AC _ _))
 have d4:=Al H0 d0
 have J4:=Tt p0 (Tt F0 d0)
 exact K0 ((vS u0 1),[vI b0.fUnit],I0,E0) _ _ ⟨rfl,rfl,rfl,rfl,rfl,rfl,trivial⟩ ⟨g0,J4,v0,d4⟩
 refine BI (m' :=61423) (stepC_ok c0 (by kernel_rfl)) rfl .plain rfl (AE (α:=Int) (xs:=([b0.fUnit]:List Int)) (vs:=[vI b0.fUnit]) (ds' :=[vI b0.fUnit]) rfl t0 el42 rfl (e1 rfl) (by kernel_rfl) rfl) (fun U0 u0 g0 d0=>?_)
 have v0:=Ar (cs:=[vI b0.fUnit]) (xs:=(([b0.fUnit]:List Int):List Int)) g0 L (Aq (cs:=[vI b0.fUnit]) (ds:=[]) rfl (AC _ _))
 have x0:=Aj M0 (Tt p0 d0)
 have D1:=Al G0 d0
 refine BD (i:=4) (readyD_ok c0 (by kernel_rfl)) (Bo (m' :=61439) (stepC_ok c0 (by kernel_rfl)) rfl rfl .plain rfl (AR (α:=Int) (ys:=Q0) P0 g0 (fun _ _=>(.tl .hd)) el42 rfl rfl D1 (Bw x0)) (fun M1 Q2 ⟨v1,y1,W0,B1⟩=>?_))
 have g4:=Al v0 W0
 have K4:=Tt p0 (Tt d0 W0)
 exact K0 ((vS u0 1),[vI b0.fUnit],M1,v1) _ _ ⟨rfl,rfl,rfl,rfl,rfl,rfl,trivial⟩ ⟨y1,K4,g4,B1⟩
 refine BW (m' :=57582) (stepC_ok c0 (by kernel_rfl)) rfl .plain rfl (AA rfl ((d1.memA .hd) 3 _ rfl)) ?_
 have F1:=Ax h0_3 d1
 obtain ⟨s1,p2,X0,C1,s2,H1,E1⟩:=Bb F1 p1
 obtain rfl:=op_TMove H1
 refine Ah 8 57838 c0 rfl D0 (fun _=>Be 3 y0 rfl X0 rfl rfl C1) rfl<|Ah 9 58350 c0 rfl D0 (fun _=>Bt 0 rfl) rfl<|Bv [0,10] (readyD_ok c0 (by kernel_rfl)) ⟨?_,?_,trivial⟩
 refine BI (m' :=58351) (stepC_ok c0 (by kernel_rfl)) rfl .plain rfl (AE (α:=Int) (xs:=([]:List Int)) (vs:=[]) (ds' :=[]) rfl d1 el42 rfl evs_nil (by kernel_rfl) rfl) (fun g2 Z1 t0 p0=>?_)
 have G0:=Ar (cs:=[]) (xs:=(([]:List Int):List Int)) t0 L (AC _ _)
 refine Bv [4,10] (readyD_ok c0 (by kernel_rfl)) ⟨?_,?_,trivial⟩
 have x0:=Aj M0 p0
 refine Bo (m' :=58367) (stepC_ok c0 (by kernel_rfl)) rfl rfl .plain rfl (AR (α:=Int) (ys:=Q0) P0 t0 (fun _ _=>.hd) el42 rfl rfl G0 (Bw x0)) (fun I0 q1 ⟨E0,C0,F0,H0⟩=>?_)
 have G1:=Ax h0_3 C0
 obtain ⟨u1,q2,Y0,F2,t2,I1,Z0⟩:=Bb G1 p1
 have x1:u1 = s1:=by rw [X0] at Y0; cases Y0; rfl
 rw [x1] at Z0
 obtain rfl:=op_TMove I1
 refine BD (i:=10) (readyD_ok c0 (by kernel_rfl)) (BW (m' :=59391) (stepC_ok c0 (by kernel_rfl)) rfl .plain rfl (AA rfl (Z0 0 _ rfl)) ?_)
 refine RD.nu 11 61439 c0 rfl .plain rfl (AE (α:=Int) (xs:=([b0.fUnit]:List Int)) (vs:=[vI b0.fUnit]) (ds' :=[vI b0.fUnit]) rfl C0 el42 rfl (e1 rfl) (by kernel_rfl) rfl) (fun U0 u0 g0 d0=>?_)
 have v0:=Ar (cs:=[vI b0.fUnit]) (xs:=(([b0.fUnit]:List Int):List Int)) g0 L (Aq (cs:=[vI b0.fUnit]) (ds:=[]) rfl (AC _ _))
 have j4:=Al H0 d0
 have M4:=Tt p0 (Tt F0 d0)
 exact K0 ((vS u0 1),[vI b0.fUnit],I0,E0) _ _ ⟨rfl,rfl,rfl,rfl,rfl,rfl,trivial⟩ ⟨g0,M4,v0,j4⟩
 have G1:=Ax h0_3 t0
 obtain ⟨u1,q2,Y0,F2,t2,I1,Z0⟩:=Bb G1 p1
 have x1:u1 = s1:=by rw [X0] at Y0; cases Y0; rfl
 rw [x1] at Z0
 obtain rfl:=op_TMove I1
 refine BW (m' :=59375) (stepC_ok c0 (by kernel_rfl)) rfl .plain rfl (AA rfl (Z0 0 _ rfl))<|Bv [4,11] (readyD_ok c0 (by kernel_rfl)) ⟨?_,?_,trivial⟩
 have x0:=Aj M0 p0
 refine Bo (m' :=59391) (stepC_ok c0 (by kernel_rfl)) rfl rfl .plain rfl (AR (α:=Int) (ys:=Q0) P0 t0 (fun _ _=>.hd) el42 rfl rfl G0 (Bw x0)) (fun I0 q1 ⟨E0,C0,F0,H0⟩=>?_)
 refine RD.nu 11 61439 c0 rfl .plain rfl (AE (α:=Int) (xs:=([b0.fUnit]:List Int)) (vs:=[vI b0.fUnit]) (ds' :=[vI b0.fUnit]) rfl C0 el42 rfl (e1 rfl) (by kernel_rfl) rfl) (fun U0 u0 g0 d0=>?_)
 have v0:=Ar (cs:=[vI b0.fUnit]) (xs:=(([b0.fUnit]:List Int):List Int)) g0 L (Aq (cs:=[vI b0.fUnit]) (ds:=[]) rfl (AC _ _))
 have k4:=Al H0 d0
 have P4:=Tt p0 (Tt F0 d0)
 exact K0 ((vS u0 1),[vI b0.fUnit],I0,E0) _ _ ⟨rfl,rfl,rfl,rfl,rfl,rfl,trivial⟩ ⟨g0,P4,v0,k4⟩
 refine BI (m' :=61423) (stepC_ok c0 (by kernel_rfl)) rfl .plain rfl (AE (α:=Int) (xs:=([b0.fUnit]:List Int)) (vs:=[vI b0.fUnit]) (ds' :=[vI b0.fUnit]) rfl t0 el42 rfl (e1 rfl) (by kernel_rfl) rfl) (fun U0 u0 g0 d0=>?_)
 have v0:=Ar (cs:=[vI b0.fUnit]) (xs:=(([b0.fUnit]:List Int):List Int)) g0 L (Aq (cs:=[vI b0.fUnit]) (ds:=[]) rfl (AC _ _))
 have x0:=Aj M0 (Tt p0 d0)
 have D1:=Al G0 d0
 refine BD (i:=4) (readyD_ok c0 (by kernel_rfl)) (Bo (m' :=61439) (stepC_ok c0 (by kernel_rfl)) rfl rfl .plain rfl (AR (α:=Int) (ys:=Q0) P0 g0 (fun _ _=>(.tl .hd)) el42 rfl rfl D1 (Bw x0)) (fun M1 Q2 ⟨v1,y1,W0,B1⟩=>?_))
 have p4:=Al v0 W0
 have Q4:=Tt p0 (Tt d0 W0)
 exact K0 ((vS u0 1),[vI b0.fUnit],M1,v1) _ _ ⟨rfl,rfl,rfl,rfl,rfl,rfl,trivial⟩ ⟨y1,Q4,p4,B1⟩
 refine BW (m' :=59374) (stepC_ok c0 (by kernel_rfl)) rfl .plain rfl (AA rfl (E1 0 _ rfl))<|Bv [0,11] (readyD_ok c0 (by kernel_rfl)) ⟨?_,?_,trivial⟩
 refine BI (m' :=59375) (stepC_ok c0 (by kernel_rfl)) rfl .plain rfl (AE (α:=Int) (xs:=([]:List Int)) (vs:=[]) (ds' :=[]) rfl d1 el42 rfl evs_nil (by kernel_rfl) rfl) (fun g2 Z1 t0 p0=>?_)
 have G0:=Ar (cs:=[]) (xs:=(([]:List Int):List Int)) t0 L (AC _ _)
 refine Bv [4,11] (readyD_ok c0 (by kernel_rfl)) ⟨?_,?_,trivial⟩
 have x0:=Aj M0 p0
 refine Bo (m' :=59391) (stepC_ok c0 (by kernel_rfl)) rfl rfl .plain rfl (AR (α:=Int) (ys:=Q0) P0 t0 (fun _ _=>.hd) el42 rfl rfl G0 (Bw x0)) (fun I0 q1 ⟨E0,C0,F0,H0⟩=>?_)
 refine RD.nu 11 61439 c0 rfl .plain rfl (AE (α:=Int) (xs:=([b0.fUnit]:List Int)) (vs:=[vI b0.fUnit]) (ds' :=[vI b0.fUnit]) rfl C0 el42 rfl (e1 rfl) (by kernel_rfl) rfl) (fun U0 u0 g0 d0=>?_)
 have v0:=Ar (cs:=[vI b0.fUnit]) (xs:=(([b0.fUnit]:List Int):List Int)) g0 L (Aq (cs:=[vI b0.fUnit]) (ds:=[]) rfl (AC _ _))
 have q4:=Al H0 d0
 have R4:=Tt p0 (Tt F0 d0)
 exact K0 ((vS u0 1),[vI b0.fUnit],I0,E0) _ _ ⟨rfl,rfl,rfl,rfl,rfl,rfl,trivial⟩ ⟨g0,R4,v0,q4⟩
 refine BI (m' :=61423) (stepC_ok c0 (by kernel_rfl)) rfl .plain rfl (AE (α:=Int) (xs:=([b0.fUnit]:List Int)) (vs:=[vI b0.fUnit]) (ds' :=[vI b0.fUnit]) rfl t0 el42 rfl (e1 rfl) (by kernel_rfl) rfl) (fun U0 u0 g0 d0=>?_)
 have v0:=Ar (cs:=[vI b0.fUnit]) (xs:=(([b0.fUnit]:List Int):List Int)) g0 L (Aq (cs:=[vI b0.fUnit]) (ds:=[]) rfl (AC _ _))
 have x0:=Aj M0 (Tt p0 d0)
 have D1:=Al G0 d0
 refine BD (i:=4) (readyD_ok c0 (by kernel_rfl)) (Bo (m' :=61439) (stepC_ok c0 (by kernel_rfl)) rfl rfl .plain rfl (AR (α:=Int) (ys:=Q0) P0 g0 (fun _ _=>(.tl .hd)) el42 rfl rfl D1 (Bw x0)) (fun M1 Q2 ⟨v1,y1,W0,B1⟩=>?_))
 have s4:=Al v0 W0
 have U4:=Tt p0 (Tt d0 W0)
 exact K0 ((vS u0 1),[vI b0.fUnit],M1,v1) _ _ ⟨rfl,rfl,rfl,rfl,rfl,rfl,trivial⟩ ⟨y1,U4,s4,B1⟩
 refine BI (m' :=61422) (stepC_ok c0 (by kernel_rfl)) rfl .plain rfl (AE (α:=Int) (xs:=([b0.fUnit]:List Int)) (vs:=[vI b0.fUnit]) (ds' :=[vI b0.fUnit]) rfl d1 el42 rfl (e1 rfl) (by kernel_rfl) rfl) (fun U0 u0 g0 d0=>?_)
 have v0:=Ar (cs:=[vI b0.fUnit]) (xs:=(([b0.fUnit]:List Int):List Int)) g0 L (Aq (cs:=[vI b0.fUnit]) (ds:=[]) rfl (AC _ _))
 refine RD.nu 0 61423 c0 rfl .plain rfl (AE (α:=Int) (xs:=([]:List Int)) (vs:=[]) (ds' :=[]) rfl g0 el42 rfl evs_nil (by kernel_rfl) rfl) (fun g2 Z1 t0 p0=>?_)
 have G0:=Ar (cs:=[]) (xs:=(([]:List Int):List Int)) t0 L (AC _ _)
 have x0:=Aj M0 (Tt d0 p0)
 refine BD (i:=4) (readyD_ok c0 (by kernel_rfl)) (Bo (m' :=61439) (stepC_ok c0 (by kernel_rfl)) rfl rfl .plain rfl (AR (α:=Int) (ys:=Q0) P0 t0 (fun _ _=>.hd) el42 rfl rfl G0 (Bw x0)) (fun I0 q1 ⟨E0,C0,F0,H0⟩=>?_))
 obtain ⟨v3,E2⟩:=AD C0 (.one (.tl .hd) (.one .hd (.one .hd .done)))
 have M2:=Tt p0 (Tt F0 E2)
 have t4:=Al v0 M2
 have u4:=Al H0 E2
 exact K0 ((vS u0 1),[vI b0.fUnit],I0,E0) _ _ ⟨rfl,rfl,rfl,rfl,rfl,rfl,trivial⟩ ⟨v3,(Tt d0 M2),t4,u4⟩
 intro P5 x2 h
 try dsimp only at h
 refine Bm 17 tb35_8 (by kernel_rfl) (by kernel_rfl) (by kernel_rfl) (fun q0 z0=>?_)
 refine Ah 0 1 q0 rfl z0 (fun _=>Ai rfl) rfl<|Ah 1 3 q0 rfl z0 (fun _=>Ai rfl) rfl ?_
 have k6:k0.length ≤ 4294967296:=St.rowLe (α:=Int) R0 .hd
 obtain ⟨F5,Q5,D3⟩:=St.rowV (α:=Int) R0 .hd
 refine AT 2 7 131064 q0 rfl z0 (FV.lenV Tryz.underlying42 rfl D3) rfl<|Ah 3 15 q0 rfl z0 (fun _=>BF (i:=J0) (j:=((k0.length:Nat):Int)) rfl rfl) rfl<|Ah 4 31 q0 rfl z0 (fun _=>Ai rfl) rfl<|RD.ifd (s:=36) rfl h (fun d3 h=>?_) (fun d3 h=>?_)
 refine BJ 5 63 q0 rfl z0 (.yes rfl rfl) (fun _=>Ai rfl) rfl<|BJ 6 127 q0 rfl z0 (.yes rfl rfl) (fun _=>Ai rfl) rfl ?_
 obtain ⟨j2,k5,h⟩:=bi h
 obtain ⟨Q3,p5⟩:=idx_in k5
 have x4:=Al A1 (Tt z1 V1)
 obtain ⟨V2,R5,c2,G2,k3,X4,v4⟩:=St.nth (α:=Int) R0 .hd x4 p5
 obtain ⟨X2,U5,E3⟩:=BH (α:=Int) R0 .hd G2
 obtain rfl:V2 = ⟨X2,0,none⟩:=by rw [E3] at c2; cases c2; rfl
 have F3:k3 = [vI j2]:=X4; subst F3
 refine BJ 7 255 q0 rfl z0 (.yes rfl rfl) (fun _=>Be 1 (J0.toNat) rfl c2 rfl Q3 G2) rfl<|BM (i:=8) (m' :=511) (W:=98304) (takeC_ok q0 (by kernel_rfl)) rfl z0 (.yes rfl rfl) (AA rfl (v4 0 _ rfl)) rfl<|BJ 9 1023 q0 rfl z0 (.yes rfl rfl) (fun _=>Bt 3 rfl) rfl<|BM (i:=10) (m' :=2047) (W:=126976) (takeC_ok q0 (by kernel_rfl)) rfl z0 (.yes rfl rfl) (AA rfl ((R0.memA (.tl .hd)) 3 _ rfl)) rfl<|BJ 11 4095 q0 rfl z0 (.yes rfl rfl) (fun _=>Ai rfl) rfl ?_
 obtain ⟨R2,q5,h⟩:=bi h
 have z4:=Ax h0_3 R0
 obtain ⟨G5,V5,G3,U3,c6,Y4,y4⟩:=Bb z4 q5
 obtain rfl:=op_TMove Y4
 refine BJ 12 8191 q0 rfl z0 (.yes rfl rfl) (fun _=>Be 3 y0 rfl G3 rfl rfl U3) rfl<|BJ 13 16383 q0 rfl z0 (.yes rfl rfl) (fun _=>Bt 0 rfl) rfl<|BM (i:=14) (m' :=32767) (W:=98304) (takeC_ok q0 (by kernel_rfl)) rfl z0 (.yes rfl rfl) (AA rfl (y4 0 _ rfl)) rfl<|BJ 15 65535 q0 rfl z0 (.yes rfl rfl) (fun _=>FV.eql (i:=j2) (j:=R2.fUnit) rfl rfl) rfl<|Ah 16 131071 q0 rfl z0 (fun _=>Bl rfl rfl) rfl<|Bc (doneD_ok q0 (by kernel_rfl)) ?_
 exact x2 (decide (j2 = R2.fUnit)) _ _ ⟨rfl,rfl,rfl,rfl,rfl,trivial⟩ ⟨R0,AN _ _⟩ h
 refine By 65535 1 [(5,37),(6,38),(7,39),(8,40),(9,41),(10,42),(11,43),(12,44),(13,45),(14,46),(15,47)] (F:=[(36,false)]) (U:=[]) q0 z0 (.cons rfl .nil) .nil ?_
 dsimp only [offS,List.map]
 refine Ah 16 131071 q0 rfl z0 (fun _=>Bn rfl rfl) rfl<|Bc (doneD_ok q0 (by kernel_rfl)) ?_
 exact x2 false _ _ ⟨rfl,rfl,rfl,rfl,rfl,trivial⟩ ⟨R0,AN _ _⟩ h
 intro M5 v2 h
 try dsimp only at h
 refine Bm 17 tb35_6 (by kernel_rfl) (by kernel_rfl) (by kernel_rfl) (fun s0 A0=>?_)
 refine Ah 0 1 s0 rfl A0 (fun _=>Ai rfl) rfl<|Ah 1 3 s0 rfl A0 (fun _=>Ai rfl) rfl ?_
 have p6:k0.length ≤ 4294967296:=St.rowLe (α:=Int) V0 .hd
 obtain ⟨H5,W5,H3⟩:=St.rowV (α:=Int) V0 .hd
 refine AT 2 7 131064 s0 rfl A0 (FV.lenV Tryz.underlying42 rfl H3) rfl<|Ah 3 15 s0 rfl A0 (fun _=>BF (i:=J0) (j:=((k0.length:Nat):Int)) rfl rfl) rfl<|Ah 4 31 s0 rfl A0 (fun _=>Ai rfl) rfl<|RD.ifd (s:=17) rfl h (fun g3 h=>?_) (fun g3 h=>?_)
 refine BJ 5 63 s0 rfl A0 (.yes rfl rfl) (fun _=>Ai rfl) rfl<|BJ 6 127 s0 rfl A0 (.yes rfl rfl) (fun _=>Ai rfl) rfl ?_
 obtain ⟨k2,s5,h⟩:=bi h
 obtain ⟨R3,t5⟩:=idx_in s5
 have B4:=Al A1 z1
 obtain ⟨W2,X5,d2,H2,p3,Z4,A4⟩:=St.nth (α:=Int) V0 .hd B4 t5
 obtain ⟨Y2,Y5,I3⟩:=BH (α:=Int) V0 .hd H2
 obtain rfl:W2 = ⟨Y2,0,none⟩:=by rw [I3] at d2; cases d2; rfl
 have J3:p3 = [vI k2]:=Z4; subst J3
 refine BJ 7 255 s0 rfl A0 (.yes rfl rfl) (fun _=>Be 1 (J0.toNat) rfl d2 rfl R3 H2) rfl<|BM (i:=8) (m' :=511) (W:=98304) (takeC_ok s0 (by kernel_rfl)) rfl A0 (.yes rfl rfl) (AA rfl (A4 0 _ rfl)) rfl<|BJ 9 1023 s0 rfl A0 (.yes rfl rfl) (fun _=>Bt 3 rfl) rfl<|BM (i:=10) (m' :=2047) (W:=126976) (takeC_ok s0 (by kernel_rfl)) rfl A0 (.yes rfl rfl) (AA rfl ((V0.memA (.tl .hd)) 3 _ rfl)) rfl<|BJ 11 4095 s0 rfl A0 (.yes rfl rfl) (fun _=>Ai rfl) rfl ?_
 obtain ⟨U2,u5,h⟩:=bi h
 have D4:=Ax h0_3 V0
 obtain ⟨I5,Z5,K3,V3,d6,c5,C4⟩:=Bb D4 u5
 obtain rfl:=op_TMove c5
 refine BJ 12 8191 s0 rfl A0 (.yes rfl rfl) (fun _=>Be 3 y0 rfl K3 rfl rfl V3) rfl<|BJ 13 16383 s0 rfl A0 (.yes rfl rfl) (fun _=>Bt 0 rfl) rfl<|BM (i:=14) (m' :=32767) (W:=98304) (takeC_ok s0 (by kernel_rfl)) rfl A0 (.yes rfl rfl) (AA rfl (C4 0 _ rfl)) rfl<|BJ 15 65535 s0 rfl A0 (.yes rfl rfl) (fun _=>BF (i:=k2) (j:=U2.fUnit) rfl rfl) rfl<|Ah 16 131071 s0 rfl A0 (fun _=>Bl rfl rfl) rfl<|Bc (doneD_ok s0 (by kernel_rfl)) ?_
 exact v2 (decide (k2 < U2.fUnit)) _ _ ⟨rfl,rfl,rfl,rfl,rfl,trivial⟩ ⟨V0,AN _ _⟩ h
 refine By 65535 1 [(5,18),(6,19),(7,20),(8,21),(9,22),(10,23),(11,24),(12,25),(13,26),(14,27),(15,28)] (F:=[(17,false)]) (U:=[]) s0 A0 (.cons rfl .nil) .nil ?_
 dsimp only [offS,List.map]
 refine Ah 16 131071 s0 rfl A0 (fun _=>Bn rfl rfl) rfl<|Bc (doneD_ok s0 (by kernel_rfl)) ?_
 exact v2 false _ _ ⟨rfl,rfl,rfl,rfl,rfl,trivial⟩ ⟨V0,AN _ _⟩ h
 refine Bd rfl ?_
 have h:=M3 _ h
 try dsimp only at h
 refine Ae<|Ac rfl<|Ag rfl<|Aa<|Am rfl ?_
 have d5:=AQ (α:=Int) k1 .hd A1 hL
 have b2:=Bf k1 .hd
 have g6:=Bg k1 .hd
 have g5:=Bh (α:=Int) (v:=j0) (xs:=k0) b2 L d5
 refine AJ hb0 Tryz.func35 rfl rfl ?_
 cases h
 exact ⟨b2.ag,fun w9 hw9=>⟨j0,rfl,b2.kd g5 hw9⟩⟩
end Go.Proofs.YtcijnmkodpfpgaaGreatDoor
