/- Functions of the program, and what they give: part 3. -/
import Derived.Test.YtcijnmkodpfpgaaGreatDoorZS2
namespace Go.Proofs.YtcijnmkodpfpgaaGreatDoor
open Go Go.RowKit
set_option maxRecDepth 4000
set_option maxHeartbeats 4000000

theorem op_TMove {w:World} {L:List Nat} {cs:List Value} {x:TMove} (h:Rep.R w L cs x):cs = [vI x.fUnit,vI x.fFrom,vI x.fTo]:=by
  obtain ⟨c0,r0,rfl,h0,h⟩:=h
  have e0:c0 = [vI x.fUnit]:=h0; subst e0
  obtain ⟨c1,r1,rfl,h1,h⟩:=h
  have e1:c1 = [vI x.fFrom]:=h1; subst e1
  have e2:r1 = [vI x.fTo]:=h; subst e2
  rfl
theorem mk_TMove {w:World} {L:List Nat} (a0:Int) (a1:Int) (a2:Int):Rep.R w L [vI a0,vI a1,vI a2] (⟨a0,a1,a2⟩:TMove):=⟨[vI a0],[vI a1,vI a2],rfl,rfl,⟨[vI a1],[vI a2],rfl,rfl,rfl⟩⟩
theorem body23:bodyB Tryz.prog 23 = true:=by kernel_rfl
theorem body47:bodyB Tryz.prog 47 = true:=by kernel_rfl
theorem body48:bodyB Tryz.prog 48 = true:=by kernel_rfl
theorem body49:bodyB Tryz.prog 49 = true:=by kernel_rfl
theorem body50:bodyB Tryz.prog 50 = true:=by kernel_rfl
theorem body71:bodyB Tryz.prog 71 = true:=by kernel_rfl
def edit_Check_l1 (n:Nat) (a2:TSession) (g0:Bool × Nat × (List Int) → Option Bool):Bool × Nat × (List Int) → Option Bool
  | (j0,c0,d0)=>(if c0 < a2.fUndone.length then (if j0 = true then (idx a2.fUndone ((((a2.fUndone.length:Nat):Int) - 1) - ((c0:Nat):Int))).bind fun q0=>(edit_Check_1_p n q0).bind fun b0=>(idx d0 b0.fUnit).bind fun s0=>(if s0 = b0.fFrom then (slices_Clone_api_Plan_int_p n d0).bind fun p0=>(idx p0 b0.fUnit).bind fun u0=>(put p0 ((b0.fUnit.toNat:Nat):Int) b0.fTo).bind fun k0=>(slices_Contains_api_Plan_int_p n k0 b0.fFrom).bind fun t0=>(if t0 = true then g0 (true,c0 + 1,k0) else g0 (false,c0 + 1,d0)) else g0 (false,c0 + 1,d0)) else some j0) else some j0)
def edit_Check_l2 (_n:Nat) (a2:TSession) (j0:Bool × Nat → Option Bool):Bool × Nat → Option Bool
  | (g0,d0)=>(if d0 < a2.fUndone.length then (a2.fUndone[d0]?).bind fun c0=>jn (fun k0=>j0 (k0,d0 + 1)) (fun b0=>(if g0 = true then (if 0 ≤ c0.fUnit then (if c0.fUnit < ((a2.fPlan.length:Nat):Int) then (if 0 ≤ c0.fFrom then (if c0.fFrom < a2.fK then (if 0 ≤ c0.fTo then (if c0.fTo < a2.fK then b0 (!(decide (c0.fFrom = c0.fTo))) else b0 false) else b0 false) else b0 false) else b0 false) else b0 false) else b0 false) else b0 false)) else some g0)
def edit_Check_l3 (n:Nat) (a2:TSession) (g0:Bool × Nat × (List Int) → Option Bool):Bool × Nat × (List Int) → Option Bool
  | (j0,c0,d0)=>(if c0 < a2.fDone.length then (if j0 = true then (idx a2.fDone ((((a2.fDone.length:Nat):Int) - 1) - ((c0:Nat):Int))).bind fun q0=>(edit_turned_p n q0).bind fun b0=>(idx d0 b0.fUnit).bind fun s0=>(if s0 = b0.fFrom then (slices_Clone_api_Plan_int_p n d0).bind fun p0=>(idx p0 b0.fUnit).bind fun u0=>(put p0 ((b0.fUnit.toNat:Nat):Int) b0.fTo).bind fun k0=>(slices_Contains_api_Plan_int_p n k0 b0.fFrom).bind fun t0=>(if t0 = true then g0 (true,c0 + 1,k0) else g0 (false,c0 + 1,d0)) else g0 (false,c0 + 1,d0)) else some j0) else some j0)
def edit_Check_l4 (_n:Nat) (a2:TSession) (j0:Bool × Nat → Option Bool):Bool × Nat → Option Bool
  | (g0,d0)=>(if d0 < a2.fDone.length then (a2.fDone[d0]?).bind fun c0=>jn (fun k0=>j0 (k0,d0 + 1)) (fun b0=>(if g0 = true then (if 0 ≤ c0.fUnit then (if c0.fUnit < ((a2.fPlan.length:Nat):Int) then (if 0 ≤ c0.fFrom then (if c0.fFrom < a2.fK then (if 0 ≤ c0.fTo then (if c0.fTo < a2.fK then b0 (!(decide (c0.fFrom = c0.fTo))) else b0 false) else b0 false) else b0 false) else b0 false) else b0 false) else b0 false) else b0 false)) else some g0)
def edit_Check_p (n:Nat) (a0:TGraph) (a1:TRoll) (a2:TSession):Option Int:=
  (judge_Check_p n a0 a1 a2.fPlan a2.fK).bind fun c0=>(if c0 = 0 then (balance_Totals_p n a1 a2.fPlan a2.fK).bind fun b0=>(if b0.2 = 0 then (slices_Equal_int_int_p n b0.1 a2.fTotals).bind fun s0=>(if s0 = true then Option.bind (loopF (edit_Check_l4 n a2) n ((decide (a2.fDone.length ≤ 200)),0)) (fun q0=>jn (fun k0=>(if k0 = true then Option.bind (loopF (edit_Check_l2 n a2) n ((decide (a2.fUndone.length ≤ 200)),0)) (fun p0=>jn (fun j0=>(if j0 = true then some (0:Int) else some (260:Int))) (fun d0=>Option.bind (loopF (edit_Check_l1 n a2) n (p0,0,a2.fPlan)) (d0))) else some (260:Int))) (fun g0=>Option.bind (loopF (edit_Check_l3 n a2) n (q0,0,a2.fPlan)) (g0))) else some (260:Int)) else some b0.2) else some c0)
theorem edit_Check_c (n:Nat) (L:List Nat) (w:World) (hL:∀ b ∈ L,b < w.heap.size) (a0:TGraph) {v0_1:Value} (h0_1:Rep.R w L [v0_1] a0.fEdges) (a1:TRoll) {v1_3:Value} (h1_3:Rep.R w L [v1_3] a1.fUnits) (a2:TSession) {v2_1:Value} (h2_1:Rep.R w L [v2_1] a2.fPlan) {v2_2:Value} (h2_2:Rep.R w L [v2_2] a2.fTotals) {v2_3:Value} (h2_3:Rep.R w L [v2_3] a2.fDone) {v2_4:Value} (h2_4:Rep.R w L [v2_4] a2.fUndone)  {r:Int} (h:edit_Check_p n a0 a1 a2 = some r) :
    Calls Tryz.prog 16 #[.agg #[vI a0.fN,v0_1],.agg #[vI a1.fGroups,vI a1.fParties,vI a1.fLevels,v1_3],.agg #[vI a2.fK,v2_1,v2_2,v2_3,v2_4]] w (Gives w fun _ u=>u = vI r):=by
 unfold edit_Check_p at h
 have hS0:=AK w
 refine AM Tryz.func16 rfl rfl rfl (fun _ cs0 hb0=>?_)
 refine Ae<|Az .plain rfl (AI hS0 rfl rfl) (fun w2 b5 hS3 hT4=>?_)
 refine Az .plain rfl (AI hS3 rfl rfl) (fun w7 c0 hS8 hT9=>?_)
 refine Az .plain rfl (AI hS8 rfl rfl) (fun w12 d0 p0 Q00=>?_)
 refine Ag rfl<|Aa<|Ak<|Ae<|Ab (AG rfl (p0.memA (.tl (.tl .hd))))<|Ab (AG rfl (p0.memA (.tl .hd)))<|AH 1 rfl<|AS rfl ((p0.memA .hd) 1 _ rfl)<|AH 0 rfl<|AS rfl ((p0.memA .hd) 0 _ rfl) ?_
 obtain ⟨u3,c9,h⟩:=bi h
 refine BE (vI u3) body47 rfl (e4 rfl rfl rfl rfl) (fun w9 hw9=>judge_Check_c n _ w9 (p0.hL0 hL hw9) a0 (p0.k0 h0_1 hw9) a1 (p0.k0 h1_3 hw9) a2.fPlan (p0.k0 h2_1 hw9) a2.fK c9) rfl<|Ag rfl<|Aa<|Ae<|Ac rfl<|Ab (BO (i:=u3) (j:=0) rfl rfl)<|Aa<|BV rfl h (fun X3 h=>?_) (fun X3 h=>?_)
 refine Ao<|Ae<|Ab (AG rfl (p0.memA (.tl .hd)))<|AH 1 rfl<|AS rfl ((p0.memA .hd) 1 _ rfl)<|AH 0 rfl<|AS rfl ((p0.memA .hd) 0 _ rfl) ?_
 obtain ⟨v3,k9,h⟩:=bi h
 refine Bx (fst:=[]) (cap:=[]) .plain body24 rfl (e3 rfl rfl rfl) (fun w9 hw9=>balance_Totals_c n _ w9 (p0.hL hL hw9) a1 (p0.km h1_3 hw9) a2.fPlan (p0.km h2_1 hw9) a2.fK k9) rfl (fun s9 B01 z6 ⟨v24,hu_,u8⟩=>?_)
 subst hu_
 obtain ⟨y0,U00⟩:=p0.agr z6
 refine Ac rfl<|Ab (Au rfl rfl)<|Ab (Au rfl rfl)<|Ag rfl<|Ag rfl<|Aa<|Ak<|Ae<|Ac rfl<|Ab (BO (i:=v3.2) (j:=0) rfl rfl)<|Aa<|BV rfl h (fun b4 h=>?_) (fun b4 h=>?_)
 refine Ao<|Ae<|Ag rfl<|Aa<|Ak<|Ae<|Ac rfl<|AH 2 rfl<|AS rfl ((y0.memA .hd) 2 _ rfl) ?_
 obtain ⟨D9,p9,h⟩:=bi h
 refine BE (.bool D9) body23 rfl (e2 rfl rfl) (fun w9 hw9=>slices_Equal_int_int_c n _ w9 (y0.hL0 hL hw9) v3.1 (y0.kd u8 hw9) a2.fTotals (y0.k0 h2_2 hw9) p9) rfl<|Ab (Ba rfl)<|Ac rfl<|RG.ifnb (s:=38) rfl h (fun c4 h=>?_) (fun c4 h=>?_)
 refine BB 1 rfl<|Ap (AA rfl ((y0.memA .hd) 1 _ rfl))<|BB 3 rfl<|Ap (AA rfl ((y0.memA .hd) 3 _ rfl))<|BB 0 rfl<|Ap (AA rfl ((y0.memA .hd) 0 _ rfl))<|BL (fst:=[]) (cap:=[]) (vs:=[v2_1,v2_3,vI a2.fK,.func (.func 50) #[] #[]]) (.yes rfl rfl) body49 Tryz.func49 rfl rfl rfl rfl (e4 rfl rfl rfl rfl) rfl (fun J00 A6 q01=>?_)
 refine Ae<|Ag rfl<|Aa<|MX.scope<|Ae<|Ac rfl ?_
 have U1:=Ax h2_3 y0
 have b01:a2.fDone.length ≤ 281474976710656:=AZ U1
 refine Ab (Bj (xs:=a2.fDone) Tryz.underlying46 rfl U1)<|Ab (FV.leqN (i:=a2.fDone.length) (j:=200) rfl rfl)<|Ag rfl<|Aa<|Ak<|Ae<|Ac rfl<|Ab (Bj (xs:=a2.fDone) Tryz.underlying46 rfl U1)<|Ac rfl<|Aa<|AB ?_
 obtain ⟨t01,P7,R6⟩:=bind_in2 h
 refine Bp (α:=Bool × Nat) (fun ⟨b1,C0⟩=>[(0,v2_1),(1,v2_3),(2,vI a2.fK),(3,.func (.func 50) #[] #[]),(9,.bool b1),(18,v2_3),(19,vI ((a2.fDone.length:Nat):Int)),(20,vI ((C0:Nat):Int))]) (fun ⟨b1,C0⟩ d2=>St w d2 [.cells d0 [vI a2.fK,v2_1,v2_2,v2_3,v2_4] 48,.cells c0 [vI a1.fGroups,vI a1.fParties,vI a1.fLevels,v1_3] 41,.cells b5 [vI a0.fN,v0_1] 38]∧Tr s9 [.cells d0 [vI a2.fK,v2_1,v2_2,v2_3,v2_4] 48,.cells c0 [vI a1.fGroups,vI a1.fParties,vI a1.fLevels,v1_3] 41,.cells b5 [vI a0.fN,v0_1] 38] d2 [.cells d0 [vI a2.fK,v2_1,v2_2,v2_3,v2_4] 48,.cells c0 [vI a1.fGroups,vI a1.fParties,vI a1.fLevels,v1_3] 41,.cells b5 [vI a0.fN,v0_1] 38]) (fun ⟨b1,C0⟩=>(b1,C0)) ((decide (a2.fDone.length ≤ 200)),0) P7 ⟨rfl,rfl,rfl,rfl,rfl,rfl,rfl,rfl,trivial⟩ ⟨y0,AN _ _⟩ ?_
 rintro R9 ⟨b1,C0⟩ d2 C4 ⟨u1,B5⟩ h
 unfold edit_Check_l4 at h
 try dsimp only at h
 refine Ae<|Ab (BA (i:=C0) (j:=a2.fDone.length) rfl rfl)<|Aa<|Ak<|AW rfl h (fun D3 h=>?_) (fun D3 h=>?_)
 refine Ao<|Ak<|AB<|Ae ?_
 obtain ⟨q0,D8,h⟩:=bi h
 have s7:=Ax h2_3 u1
 obtain ⟨E9,g00,E6,c7,C00,Z7,q7⟩:=Bb s7 D8
 obtain rfl:=op_TMove Z7
 refine Ab (Be 3 C0 rfl E6 rfl rfl c7)<|Ab (AG rfl q7)<|Az .plain rfl (AX [vI 0,vI 0,vI 0] u1) (fun C01 z3 E4 C5=>?_)
 refine Bk [vI q0.fUnit,vI q0.fFrom,vI q0.fTo] E4 .hd (onesB rfl) (fun q9 g0 D5=>?_)
 refine Aa<|MX.join (α:=Bool) (fun W0=>[(0,v2_1),(1,v2_3),(2,vI a2.fK),(3,.func (.func 50) #[] #[]),(9,.bool W0),(18,v2_3),(19,vI ((a2.fDone.length:Nat):Int)),(20,vI ((C0:Nat):Int))]) (fun W0 Z1=>St w Z1 [.cells d0 [vI a2.fK,v2_1,v2_2,v2_3,v2_4] 48,.cells c0 [vI a1.fGroups,vI a1.fParties,vI a1.fLevels,v1_3] 41,.cells b5 [vI a0.fN,v0_1] 38]∧Tr q9 [.cells z3 [vI q0.fUnit,vI q0.fFrom,vI q0.fTo] 62,.cells d0 [vI a2.fK,v2_1,v2_2,v2_3,v2_4] 48,.cells c0 [vI a1.fGroups,vI a1.fParties,vI a1.fLevels,v1_3] 41,.cells b5 [vI a0.fN,v0_1] 38] Z1 [.cells d0 [vI a2.fK,v2_1,v2_2,v2_3,v2_4] 48,.cells c0 [vI a1.fGroups,vI a1.fParties,vI a1.fLevels,v1_3] 41,.cells b5 [vI a0.fN,v0_1] 38]) (fun W0=>W0) h ?_ ?_
 rintro W0 Z1 ⟨F4,E5⟩ h
 try dsimp only at h
 refine AF<|Aw<|Ab (Bu (i:=C0) (j:=1) rfl rfl (by omega))<|Ac rfl<|Aa ?_
 have V7:=Tt C5 (Tt D5 E5)
 exact C4 (W0,C0 + 1) _ _ ⟨rfl,rfl,rfl,rfl,rfl,rfl,rfl,rfl,trivial⟩ ⟨F4,(Tt B5 V7)⟩ h
 intro V9 F0 h
 try dsimp only at h
 refine Aw<|Ac rfl<|Ac rfl<|RG.ifb (s:=25) rfl h (fun H3 h=>?_) (fun H3 h=>?_)
 refine BB 0 rfl<|Ap (AA rfl ((g0.memA .hd) 0 _ rfl))<|Ap (FV.geq (i:=q0.fUnit) (j:=0) rfl rfl)<|AU rfl rfl<|Ac rfl<|Bi (s:=30) rfl h (fun I3 h=>?_) (fun I3 h=>?_)
 refine BB 0 rfl<|Ap (AA rfl ((g0.memA .hd) 0 _ rfl))<|Ap (Ai rfl) ?_
 have U2:=Ax h2_1 g0
 have Z00:a2.fPlan.length ≤ 281474976710656:=AZ U2
 refine Ap (Bj (xs:=a2.fPlan) Tryz.underlying43 rfl U2)<|Ap (BF (i:=q0.fUnit) (j:=((a2.fPlan.length:Nat):Int)) rfl rfl)<|AU rfl rfl<|Ac rfl<|Bi (s:=37) rfl h (fun K3 h=>?_) (fun K3 h=>?_)
 refine BB 1 rfl<|Ap (AA rfl ((g0.memA .hd) 1 _ rfl))<|Ap (FV.geq (i:=q0.fFrom) (j:=0) rfl rfl)<|AU rfl rfl<|Ac rfl<|Bi (s:=42) rfl h (fun M3 h=>?_) (fun M3 h=>?_)
 refine BB 1 rfl<|Ap (AA rfl ((g0.memA .hd) 1 _ rfl))<|Ap (Ai rfl)<|Ap (BF (i:=q0.fFrom) (j:=a2.fK) rfl rfl)<|AU rfl rfl<|Ac rfl<|Bi (s:=48) rfl h (fun Q3 h=>?_) (fun Q3 h=>?_)
 refine BB 2 rfl<|Ap (AA rfl ((g0.memA .hd) 2 _ rfl))<|Ap (FV.geq (i:=q0.fTo) (j:=0) rfl rfl)<|AU rfl rfl<|Ac rfl<|Bi (s:=53) rfl h (fun R3 h=>?_) (fun R3 h=>?_)
 refine BB 2 rfl<|Ap (AA rfl ((g0.memA .hd) 2 _ rfl))<|Ap (Ai rfl)<|Ap (BF (i:=q0.fTo) (j:=a2.fK) rfl rfl)<|AU rfl rfl<|Ac rfl<|Bi (s:=59) rfl h (fun U3 h=>?_) (fun U3 h=>?_)
 refine BB 1 rfl<|Ap (AA rfl ((g0.memA .hd) 1 _ rfl))<|BB 2 rfl<|Ap (AA rfl ((g0.memA .hd) 2 _ rfl))<|Ap (BO (i:=q0.fFrom) (j:=q0.fTo) rfl rfl)<|AU rfl rfl<|Ag rfl<|Aa ?_
 obtain ⟨P4,K5⟩:=AD g0 (.one (.tl .hd) (.one (.tl .hd) (.one (.tl .hd) .done)))
 exact F0 (!(decide (q0.fFrom = q0.fTo))) _ _ ⟨rfl,rfl,rfl,rfl,rfl,rfl,rfl,rfl,trivial⟩ ⟨P4,K5⟩ h
 refine Af<|Af<|Af<|Af<|Af<|AO rfl rfl<|Ag rfl<|Aa ?_
 obtain ⟨Q4,M5⟩:=AD g0 (.one (.tl .hd) (.one (.tl .hd) (.one (.tl .hd) .done)))
 exact F0 false _ _ ⟨rfl,rfl,rfl,rfl,rfl,rfl,rfl,rfl,trivial⟩ ⟨Q4,M5⟩ h
 refine Af<|Af<|Af<|Af<|AO rfl rfl<|Ac rfl<|Af<|Af<|Af<|Af<|Af<|AO rfl rfl<|Ag rfl<|Aa ?_
 obtain ⟨R4,P5⟩:=AD g0 (.one (.tl .hd) (.one (.tl .hd) (.one (.tl .hd) .done)))
 exact F0 false _ _ ⟨rfl,rfl,rfl,rfl,rfl,rfl,rfl,rfl,trivial⟩ ⟨R4,P5⟩ h
 refine Af<|Af<|Af<|AO rfl rfl<|Ac rfl<|Af<|Af<|Af<|Af<|AO rfl rfl<|Ac rfl<|Af<|Af<|Af<|Af<|Af<|AO rfl rfl<|Ag rfl<|Aa ?_
 obtain ⟨U4,Q5⟩:=AD g0 (.one (.tl .hd) (.one (.tl .hd) (.one (.tl .hd) .done)))
 exact F0 false _ _ ⟨rfl,rfl,rfl,rfl,rfl,rfl,rfl,rfl,trivial⟩ ⟨U4,Q5⟩ h
 refine Af<|Af<|Af<|Af<|AO rfl rfl<|Ac rfl<|Af<|Af<|Af<|AO rfl rfl<|Ac rfl<|Af<|Af<|Af<|Af<|AO rfl rfl<|Ac rfl<|Af<|Af<|Af<|Af<|Af<|AO rfl rfl<|Ag rfl ?_
 refine Aa ?_
 obtain ⟨V4,R5⟩:=AD g0 (.one (.tl .hd) (.one (.tl .hd) (.one (.tl .hd) .done)))
 exact F0 false _ _ ⟨rfl,rfl,rfl,rfl,rfl,rfl,rfl,rfl,trivial⟩ ⟨V4,R5⟩ h
 refine Af<|Af<|Af<|AO rfl rfl<|Ac rfl<|Af<|Af<|Af<|Af<|AO rfl rfl<|Ac rfl<|Af<|Af<|Af<|AO rfl rfl<|Ac rfl<|Af<|Af<|Af<|Af<|AO rfl rfl<|Ac rfl<|Af<|Af ?_
 refine Af<|Af<|Af<|AO rfl rfl<|Ag rfl<|Aa ?_
 obtain ⟨W4,U5⟩:=AD g0 (.one (.tl .hd) (.one (.tl .hd) (.one (.tl .hd) .done)))
 exact F0 false _ _ ⟨rfl,rfl,rfl,rfl,rfl,rfl,rfl,rfl,trivial⟩ ⟨W4,U5⟩ h
 refine Af<|Af<|Af<|Af<|Af<|AO rfl rfl<|Ac rfl<|Af<|Af<|Af<|AO rfl rfl<|Ac rfl<|Af<|Af<|Af<|Af<|AO rfl rfl<|Ac rfl<|Af<|Af<|Af<|AO rfl rfl<|Ac rfl<|Af ?_
 refine Af<|Af<|Af<|AO rfl rfl<|Ac rfl<|Af<|Af<|Af<|Af<|Af<|AO rfl rfl<|Ag rfl<|Aa ?_
 obtain ⟨X4,V5⟩:=AD g0 (.one (.tl .hd) (.one (.tl .hd) (.one (.tl .hd) .done)))
 exact F0 false _ _ ⟨rfl,rfl,rfl,rfl,rfl,rfl,rfl,rfl,trivial⟩ ⟨X4,V5⟩ h
 refine Af<|Af<|Af<|AO rfl rfl<|Ac rfl<|Af<|Af<|Af<|Af<|Af<|AO rfl rfl<|Ac rfl<|Af<|Af<|Af<|AO rfl rfl<|Ac rfl<|Af<|Af<|Af<|Af<|AO rfl rfl<|Ac rfl<|Af ?_
 refine Af<|Af<|AO rfl rfl<|Ac rfl<|Af<|Af<|Af<|Af<|AO rfl rfl<|Ac rfl<|Af<|Af<|Af<|Af<|Af<|AO rfl rfl<|Ag rfl<|Aa ?_
 obtain ⟨Y4,W5⟩:=AD g0 (.one (.tl .hd) (.one (.tl .hd) (.one (.tl .hd) .done)))
 exact F0 false _ _ ⟨rfl,rfl,rfl,rfl,rfl,rfl,rfl,rfl,trivial⟩ ⟨Y4,W5⟩ h
 refine Bd rfl ?_
 have h:=R6 _ h
 try dsimp only at h
 refine Ae<|Ac rfl ?_
 have W2:=Ax h2_1 u1
 obtain ⟨H9,s00,z8,_⟩:=BQ W2
 refine Ab (AV (vs:=[v2_1]) (u:=.agg #[vI 0,v2_1,vN,vN,vN]) (e1 rfl) (fun w9=>by rw [z8]; try kernel_rfl)) ?_
 obtain ⟨K9,v00,A8,_⟩:=BQ W2
 refine Ab (AV (vs:=[.agg #[vI 0,v2_1,vN,vN,vN]]) (u:=.agg #[vI 0,v2_1,vN,vN,vN]) (e1 rfl) (fun w9=>by rw [A8]; try kernel_rfl))<|Az .plain rfl (AI u1 rfl rfl) (fun p3 J0 J1 R00=>?_)
 refine Ag rfl<|Aa<|Ak<|MX.label<|Ak<|Ae<|Ac rfl ?_
 have I7:=Ax h2_3 J1
 refine Ab (Bj (xs:=a2.fDone) Tryz.underlying46 rfl I7)<|Ac rfl<|Aa<|AB<|MX.joinx (α:=Bool) (fun X0=>[(9,.bool X0)]) (fun X0 E1=>St w E1 [.cells d0 [vI a2.fK,v2_1,v2_2,v2_3,v2_4] 48,.cells c0 [vI a1.fGroups,vI a1.fParties,vI a1.fLevels,v1_3] 41,.cells b5 [vI a0.fN,v0_1] 38]∧Tr p3 [.cells J0 [vI 0,v2_1,vN,vN,vN] 96,.cells d0 [vI a2.fK,v2_1,v2_2,v2_3,v2_4] 48,.cells c0 [vI a1.fGroups,vI a1.fParties,vI a1.fLevels,v1_3] 41,.cells b5 [vI a0.fN,v0_1] 38] E1 [.cells d0 [vI a2.fK,v2_1,v2_2,v2_3,v2_4] 48,.cells c0 [vI a1.fGroups,vI a1.fParties,vI a1.fLevels,v1_3] 41,.cells b5 [vI a0.fN,v0_1] 38]) (fun X0=>X0) (id:=2) rfl h ?_ ?_
 rintro X0 E1 ⟨U0,V00⟩ h
 try dsimp only at h
 refine Ae<|Ac rfl<|Ag rfl<|Aa<|Am rfl<|Ay (u:=.bool X0) A6 Tryz.func49 rfl (.cons (.tmp rfl) .nil) rfl<|Ap (Ba rfl)<|AO rfl rfl<|Ac rfl<|RG.ifnb (s:=48) rfl h (fun d4 h=>?_) (fun d4 h=>?_)
 refine BB 1 rfl<|Ap (AA rfl ((U0.memA .hd) 1 _ rfl))<|BB 4 rfl<|Ap (AA rfl ((U0.memA .hd) 4 _ rfl))<|BB 0 rfl<|Ap (AA rfl ((U0.memA .hd) 0 _ rfl))<|Ap (Ai rfl)<|BL (fst:=[]) (cap:=[]) (vs:=[v2_1,v2_4,vI a2.fK,.func (.func 48) #[] #[]]) (.yes rfl rfl) body49 Tryz.func49 rfl rfl rfl rfl (e4 rfl rfl rfl rfl) rfl (fun K00 B6 s01=>?_)
 refine Ae<|Ag rfl<|Aa<|MX.scope<|Ae<|Ac rfl ?_
 have V1:=Ax h2_4 U0
 have c01:a2.fUndone.length ≤ 281474976710656:=AZ V1
 refine Ab (Bj (xs:=a2.fUndone) Tryz.underlying46 rfl V1)<|Ab (FV.leqN (i:=a2.fUndone.length) (j:=200) rfl rfl)<|Ag rfl<|Aa<|Ak<|Ae<|Ac rfl<|Ab (Bj (xs:=a2.fUndone) Tryz.underlying46 rfl V1)<|Ac rfl<|Aa<|AB ?_
 obtain ⟨x01,U7,U6⟩:=bind_in2 h
 refine Bp (α:=Bool × Nat) (fun ⟨Y0,B0⟩=>[(0,v2_1),(1,v2_4),(2,vI a2.fK),(3,.func (.func 48) #[] #[]),(9,.bool Y0),(18,v2_4),(19,vI ((a2.fUndone.length:Nat):Int)),(20,vI ((B0:Nat):Int))]) (fun ⟨Y0,B0⟩ b2=>St w b2 [.cells d0 [vI a2.fK,v2_1,v2_2,v2_3,v2_4] 48,.cells c0 [vI a1.fGroups,vI a1.fParties,vI a1.fLevels,v1_3] 41,.cells b5 [vI a0.fN,v0_1] 38]∧Tr E1 [.cells d0 [vI a2.fK,v2_1,v2_2,v2_3,v2_4] 48,.cells c0 [vI a1.fGroups,vI a1.fParties,vI a1.fLevels,v1_3] 41,.cells b5 [vI a0.fN,v0_1] 38] b2 [.cells d0 [vI a2.fK,v2_1,v2_2,v2_3,v2_4] 48,.cells c0 [vI a1.fGroups,vI a1.fParties,vI a1.fLevels,v1_3] 41,.cells b5 [vI a0.fN,v0_1] 38]) (fun ⟨Y0,B0⟩=>(Y0,B0)) ((decide (a2.fUndone.length ≤ 200)),0) U7 ⟨rfl,rfl,rfl,rfl,rfl,rfl,rfl,rfl,trivial⟩ ⟨U0,AN _ _⟩ ?_
 rintro Z9 ⟨Y0,B0⟩ b2 D4 ⟨s1,d6⟩ h
 unfold edit_Check_l2 at h
 try dsimp only at h
 refine Ae<|Ab (BA (i:=B0) (j:=a2.fUndone.length) rfl rfl)<|Aa<|Ak<|AW rfl h (fun g4 h=>?_) (fun g4 h=>?_)
 refine Ao<|Ak<|AB<|Ae ?_
 obtain ⟨s0,V8,h⟩:=bi h
 have K7:=Ax h2_4 s1
 obtain ⟨M9,z00,Q6,p7,M00,v8,J7⟩:=Bb K7 V8
 obtain rfl:=op_TMove v8
 refine Ab (Be 3 B0 rfl Q6 rfl rfl p7)<|Ab (AG rfl J7)<|Az .plain rfl (AX [vI 0,vI 0,vI 0] s1) (fun R01 C3 p5 g6=>?_)
 refine Bk [vI s0.fUnit,vI s0.fFrom,vI s0.fTo] p5 .hd (onesB rfl) (fun t9 j0 j6=>?_)
 refine Aa<|MX.join (α:=Bool) (fun Z0=>[(0,v2_1),(1,v2_4),(2,vI a2.fK),(3,.func (.func 48) #[] #[]),(9,.bool Z0),(18,v2_4),(19,vI ((a2.fUndone.length:Nat):Int)),(20,vI ((B0:Nat):Int))]) (fun Z0 c2=>St w c2 [.cells d0 [vI a2.fK,v2_1,v2_2,v2_3,v2_4] 48,.cells c0 [vI a1.fGroups,vI a1.fParties,vI a1.fLevels,v1_3] 41,.cells b5 [vI a0.fN,v0_1] 38]∧Tr t9 [.cells C3 [vI s0.fUnit,vI s0.fFrom,vI s0.fTo] 62,.cells d0 [vI a2.fK,v2_1,v2_2,v2_3,v2_4] 48,.cells c0 [vI a1.fGroups,vI a1.fParties,vI a1.fLevels,v1_3] 41,.cells b5 [vI a0.fN,v0_1] 38] c2 [.cells d0 [vI a2.fK,v2_1,v2_2,v2_3,v2_4] 48,.cells c0 [vI a1.fGroups,vI a1.fParties,vI a1.fLevels,v1_3] 41,.cells b5 [vI a0.fN,v0_1] 38]) (fun Z0=>Z0) h ?_ ?_
 rintro Z0 c2 ⟨q5,k6⟩ h
 try dsimp only at h
 refine AF<|Aw<|Ab (Bu (i:=B0) (j:=1) rfl rfl (by omega))<|Ac rfl<|Aa ?_
 have Y7:=Tt g6 (Tt j6 k6)
 exact D4 (Z0,B0 + 1) _ _ ⟨rfl,rfl,rfl,rfl,rfl,rfl,rfl,rfl,trivial⟩ ⟨q5,(Tt d6 Y7)⟩ h
 intro b00 G0 h
 try dsimp only at h
 refine Aw<|Ac rfl<|Ac rfl<|RG.ifb (s:=25) rfl h (fun j4 h=>?_) (fun j4 h=>?_)
 refine BB 0 rfl<|Ap (AA rfl ((j0.memA .hd) 0 _ rfl))<|Ap (FV.geq (i:=s0.fUnit) (j:=0) rfl rfl)<|AU rfl rfl<|Ac rfl<|Bi (s:=30) rfl h (fun k4 h=>?_) (fun k4 h=>?_)
 refine BB 0 rfl<|Ap (AA rfl ((j0.memA .hd) 0 _ rfl))<|Ap (Ai rfl) ?_
 have Y2:=Ax h2_1 j0
 have d01:a2.fPlan.length ≤ 281474976710656:=AZ Y2
 refine Ap (Bj (xs:=a2.fPlan) Tryz.underlying43 rfl Y2)<|Ap (BF (i:=s0.fUnit) (j:=((a2.fPlan.length:Nat):Int)) rfl rfl)<|AU rfl rfl<|Ac rfl<|Bi (s:=37) rfl h (fun p4 h=>?_) (fun p4 h=>?_)
 refine BB 1 rfl<|Ap (AA rfl ((j0.memA .hd) 1 _ rfl))<|Ap (FV.geq (i:=s0.fFrom) (j:=0) rfl rfl)<|AU rfl rfl<|Ac rfl<|Bi (s:=42) rfl h (fun q4 h=>?_) (fun q4 h=>?_)
 refine BB 1 rfl<|Ap (AA rfl ((j0.memA .hd) 1 _ rfl))<|Ap (Ai rfl)<|Ap (BF (i:=s0.fFrom) (j:=a2.fK) rfl rfl)<|AU rfl rfl<|Ac rfl<|Bi (s:=48) rfl h (fun s4 h=>?_) (fun s4 h=>?_)
 refine BB 2 rfl<|Ap (AA rfl ((j0.memA .hd) 2 _ rfl))<|Ap (FV.geq (i:=s0.fTo) (j:=0) rfl rfl)<|AU rfl rfl<|Ac rfl<|Bi (s:=53) rfl h (fun t4 h=>?_) (fun t4 h=>?_)
 refine BB 2 rfl<|Ap (AA rfl ((j0.memA .hd) 2 _ rfl))<|Ap (Ai rfl)<|Ap (BF (i:=s0.fTo) (j:=a2.fK) rfl rfl)<|AU rfl rfl<|Ac rfl<|Bi (s:=59) rfl h (fun u4 h=>?_) (fun u4 h=>?_)
 refine BB 1 rfl<|Ap (AA rfl ((j0.memA .hd) 1 _ rfl))<|BB 2 rfl<|Ap (AA rfl ((j0.memA .hd) 2 _ rfl))<|Ap (BO (i:=s0.fFrom) (j:=s0.fTo) rfl rfl)<|AU rfl rfl<|Ag rfl<|Aa ?_
 obtain ⟨s5,p6⟩:=AD j0 (.one (.tl .hd) (.one (.tl .hd) (.one (.tl .hd) .done)))
 exact G0 (!(decide (s0.fFrom = s0.fTo))) _ _ ⟨rfl,rfl,rfl,rfl,rfl,rfl,rfl,rfl,trivial⟩ ⟨s5,p6⟩ h
 refine Af<|Af<|Af<|Af<|Af<|AO rfl rfl<|Ag rfl<|Aa ?_
 obtain ⟨t5,q6⟩:=AD j0 (.one (.tl .hd) (.one (.tl .hd) (.one (.tl .hd) .done)))
 exact G0 false _ _ ⟨rfl,rfl,rfl,rfl,rfl,rfl,rfl,rfl,trivial⟩ ⟨t5,q6⟩ h
 refine Af<|Af<|Af<|Af<|AO rfl rfl<|Ac rfl<|Af<|Af<|Af<|Af<|Af<|AO rfl rfl<|Ag rfl<|Aa ?_
 obtain ⟨u5,s6⟩:=AD j0 (.one (.tl .hd) (.one (.tl .hd) (.one (.tl .hd) .done)))
 exact G0 false _ _ ⟨rfl,rfl,rfl,rfl,rfl,rfl,rfl,rfl,trivial⟩ ⟨u5,s6⟩ h
 refine Af<|Af<|Af<|AO rfl rfl<|Ac rfl<|Af<|Af<|Af<|Af<|AO rfl rfl<|Ac rfl<|Af<|Af<|Af<|Af<|Af<|AO rfl rfl<|Ag rfl<|Aa ?_
 obtain ⟨v5,t6⟩:=AD j0 (.one (.tl .hd) (.one (.tl .hd) (.one (.tl .hd) .done)))
 exact G0 false _ _ ⟨rfl,rfl,rfl,rfl,rfl,rfl,rfl,rfl,trivial⟩ ⟨v5,t6⟩ h
 refine Af<|Af<|Af<|Af<|AO rfl rfl<|Ac rfl<|Af<|Af<|Af<|AO rfl rfl<|Ac rfl<|Af<|Af<|Af<|Af<|AO rfl rfl<|Ac rfl<|Af<|Af<|Af<|Af<|Af<|AO rfl rfl<|Ag rfl ?_
 refine Aa ?_
 obtain ⟨x5,u6⟩:=AD j0 (.one (.tl .hd) (.one (.tl .hd) (.one (.tl .hd) .done)))
 exact G0 false _ _ ⟨rfl,rfl,rfl,rfl,rfl,rfl,rfl,rfl,trivial⟩ ⟨x5,u6⟩ h
 refine Af<|Af<|Af<|AO rfl rfl<|Ac rfl<|Af<|Af<|Af<|Af<|AO rfl rfl<|Ac rfl<|Af<|Af<|Af<|AO rfl rfl<|Ac rfl<|Af<|Af<|Af<|Af<|AO rfl rfl<|Ac rfl<|Af<|Af ?_
 refine Af<|Af<|Af<|AO rfl rfl<|Ag rfl<|Aa ?_
 obtain ⟨y5,v6⟩:=AD j0 (.one (.tl .hd) (.one (.tl .hd) (.one (.tl .hd) .done)))
 exact G0 false _ _ ⟨rfl,rfl,rfl,rfl,rfl,rfl,rfl,rfl,trivial⟩ ⟨y5,v6⟩ h
 refine Af<|Af<|Af<|Af<|Af<|AO rfl rfl<|Ac rfl<|Af<|Af<|Af<|AO rfl rfl<|Ac rfl<|Af<|Af<|Af<|Af<|AO rfl rfl<|Ac rfl<|Af<|Af<|Af<|AO rfl rfl<|Ac rfl<|Af ?_
 refine Af<|Af<|Af<|AO rfl rfl<|Ac rfl<|Af<|Af<|Af<|Af<|Af<|AO rfl rfl<|Ag rfl<|Aa ?_
 obtain ⟨z5,x6⟩:=AD j0 (.one (.tl .hd) (.one (.tl .hd) (.one (.tl .hd) .done)))
 exact G0 false _ _ ⟨rfl,rfl,rfl,rfl,rfl,rfl,rfl,rfl,trivial⟩ ⟨z5,x6⟩ h
 refine Af<|Af<|Af<|AO rfl rfl<|Ac rfl<|Af<|Af<|Af<|Af<|Af<|AO rfl rfl<|Ac rfl<|Af<|Af<|Af<|AO rfl rfl<|Ac rfl<|Af<|Af<|Af<|Af<|AO rfl rfl<|Ac rfl<|Af ?_
 refine Af<|Af<|AO rfl rfl<|Ac rfl<|Af<|Af<|Af<|Af<|AO rfl rfl<|Ac rfl<|Af<|Af<|Af<|Af<|Af<|AO rfl rfl<|Ag rfl<|Aa ?_
 obtain ⟨A5,y6⟩:=AD j0 (.one (.tl .hd) (.one (.tl .hd) (.one (.tl .hd) .done)))
 exact G0 false _ _ ⟨rfl,rfl,rfl,rfl,rfl,rfl,rfl,rfl,trivial⟩ ⟨A5,y6⟩ h
 refine Bd rfl ?_
 have h:=U6 _ h
 try dsimp only at h
 refine Ae<|Ac rfl ?_
 have Z2:=Ax h2_1 s1
 obtain ⟨P9,A00,B8,_⟩:=BQ Z2
 refine Ab (AV (vs:=[v2_1]) (u:=.agg #[vI 0,v2_1,vN,vN,vN]) (e1 rfl) (fun w9=>by rw [B8]; try kernel_rfl)) ?_
 obtain ⟨Q9,B00,C8,_⟩:=BQ Z2
 refine Ab (AV (vs:=[.agg #[vI 0,v2_1,vN,vN,vN]]) (u:=.agg #[vI 0,v2_1,vN,vN,vN]) (e1 rfl) (fun w9=>by rw [C8]; try kernel_rfl))<|Az .plain rfl (AI s1 rfl rfl) (fun q3 K0 K1 W00=>?_)
 refine Ag rfl<|Aa<|Ak<|MX.label<|Ak<|Ae<|Ac rfl ?_
 have M7:=Ax h2_4 K1
 refine Ab (Bj (xs:=a2.fUndone) Tryz.underlying46 rfl M7)<|Ac rfl<|Aa<|AB<|MX.joinx (α:=Bool) (fun V0=>[(9,.bool V0)]) (fun V0 Y1=>St w Y1 [.cells d0 [vI a2.fK,v2_1,v2_2,v2_3,v2_4] 48,.cells c0 [vI a1.fGroups,vI a1.fParties,vI a1.fLevels,v1_3] 41,.cells b5 [vI a0.fN,v0_1] 38]∧Tr q3 [.cells K0 [vI 0,v2_1,vN,vN,vN] 96,.cells d0 [vI a2.fK,v2_1,v2_2,v2_3,v2_4] 48,.cells c0 [vI a1.fGroups,vI a1.fParties,vI a1.fLevels,v1_3] 41,.cells b5 [vI a0.fN,v0_1] 38] Y1 [.cells d0 [vI a2.fK,v2_1,v2_2,v2_3,v2_4] 48,.cells c0 [vI a1.fGroups,vI a1.fParties,vI a1.fLevels,v1_3] 41,.cells b5 [vI a0.fN,v0_1] 38]) (fun V0=>V0) (id:=2) rfl h ?_ ?_
 rintro V0 Y1 ⟨q2,P00⟩ h
 try dsimp only at h
 refine Ae<|Ac rfl<|Ag rfl<|Aa<|Am rfl<|Ay (u:=.bool V0) B6 Tryz.func49 rfl (.cons (.tmp rfl) .nil) rfl<|Ap (Ba rfl)<|AO rfl rfl<|Aa<|BS rfl h (fun E3 h=>?_) (fun E3 h=>?_)
 refine Ao<|Ae<|Ag rfl<|Aa<|Am rfl<|AJ hb0 Tryz.func16 rfl rfl ?_
 cases h
 exact q2.gv
 refine Ae<|Ag rfl<|Aa<|Am rfl<|AJ hb0 Tryz.func16 rfl rfl ?_
 cases h
 exact q2.gv
 intro U9 k2 h
 try dsimp only at h
 have t7:=Ax h2_1 K1
 obtain ⟨u01,Q7,J2⟩:=bind_in2 h
 refine Bp (α:=Bool × Nat × (List Int) × Value) (fun ⟨M0,t0,H0,D0⟩=>[(1,v2_4),(3,.func (.func 48) #[] #[]),(9,.bool M0),(12,vP K0),(72,vI ((a2.fUndone.length:Nat):Int)),(73,vI ((t0:Nat):Int))]) (fun ⟨M0,t0,H0,D0⟩ C1=>St w C1 [.cells K0 [vI 0,D0,vN,vN,vN] 96,.cells d0 [vI a2.fK,v2_1,v2_2,v2_3,v2_4] 48,.cells c0 [vI a1.fGroups,vI a1.fParties,vI a1.fLevels,v1_3] 41,.cells b5 [vI a0.fN,v0_1] 38]∧Tr q3 [.cells K0 [vI 0,v2_1,vN,vN,vN] 96,.cells d0 [vI a2.fK,v2_1,v2_2,v2_3,v2_4] 48,.cells c0 [vI a1.fGroups,vI a1.fParties,vI a1.fLevels,v1_3] 41,.cells b5 [vI a0.fN,v0_1] 38] C1 [.cells K0 [vI 0,D0,vN,vN,vN] 96,.cells d0 [vI a2.fK,v2_1,v2_2,v2_3,v2_4] 48,.cells c0 [vI a1.fGroups,vI a1.fParties,vI a1.fLevels,v1_3] 41,.cells b5 [vI a0.fN,v0_1] 38]∧Rep.R C1 (bl [.cells K0 [vI 0,D0,vN,vN,vN] 96,.cells d0 [vI a2.fK,v2_1,v2_2,v2_3,v2_4] 48,.cells c0 [vI a1.fGroups,vI a1.fParties,vI a1.fLevels,v1_3] 41,.cells b5 [vI a0.fN,v0_1] 38] ++ L) [D0] H0) (fun ⟨M0,t0,H0,D0⟩=>(M0,t0,H0)) (Y0,0,a2.fPlan,v2_1) Q7 ⟨rfl,rfl,rfl,rfl,rfl,rfl,trivial⟩ ⟨K1,AN _ _,t7⟩ ?_
 rintro W9 ⟨M0,t0,H0,D0⟩ C1 F1 ⟨d1,j1,W1⟩ h
 unfold edit_Check_l1 at h
 try dsimp only at h
 refine Ae<|Ab (BA (i:=t0) (j:=a2.fUndone.length) rfl rfl)<|Aa<|Ak<|AW rfl h (fun F3 h=>?_) (fun F3 h=>?_)
 refine Ao<|Ak<|AB<|Ae<|Ac rfl<|Ag rfl<|Aa<|Ak<|Ae<|Ac rfl<|Ab (Ba rfl)<|Aa<|BS rfl h (fun G3 h=>?_) (fun G3 h=>?_)
 refine Ao<|Ae<|Ac rfl<|Ac rfl<|Ac rfl ?_
 have Q2:=Ax h2_4 d1
 refine Ab (Bj (xs:=a2.fUndone) Tryz.underlying46 rfl Q2)<|Ab (FV.subI (i:=((a2.fUndone.length:Nat):Int)) (j:=1) rfl rfl (by omega))<|Ac rfl<|Ab (FV.subI (i:=((a2.fUndone.length:Nat):Int) - 1) (j:=((t0:Nat):Int)) rfl rfl (by omega)) ?_
 obtain ⟨u9,E8,h⟩:=bi h
 obtain ⟨V6,F8⟩:=idx_in E8
 obtain ⟨F9,j00,F6,d7,D00,b8,u7⟩:=Bb Q2 F8
 obtain rfl:=op_TMove b8
 refine Ab (FV.idxAddr (m:=3) (i:=((((a2.fUndone.length:Nat):Int) - 1) - ((t0:Nat):Int)).toNat) (by kernel_rfl) rfl F6 rfl V6 d7)<|Ab (AG rfl u7) ?_
 obtain ⟨v0,Y8,h⟩:=bi h
 refine BE (.agg #[vI v0.fUnit,vI v0.fFrom,vI v0.fTo]) body48 rfl (e1 rfl) (fun w9 hw9=>edit_Check_1_c n _ w9 (d1.hL0 hL hw9) u9 Y8) rfl<|Az .plain rfl (AX [vI 0,vI 0,vI 0] d1) (fun E01 c00 G4 v1=>?_)
 refine Bk [vI v0.fUnit,vI v0.fFrom,vI v0.fTo] G4 .hd (onesB rfl) (fun F01 z0 x1=>?_)
 refine Aa<|Aw<|Ac rfl<|AH 0 rfl<|AS rfl ((z0.memA .hd) 0 _ rfl)<|AH 1 rfl<|AS rfl ((z0.memA .hd) 1 _ rfl)<|AH 2 rfl<|AS rfl ((z0.memA .hd) 2 _ rfl)<|BL (fst:=[]) (cap:=[]) (vs:=[vP K0,vI v0.fUnit,vI v0.fFrom,vI v0.fTo]) .plain body71 Tryz.func71 rfl rfl rfl rfl (e4 rfl rfl rfl rfl) rfl (fun E00 M1 k01=>?_)
 refine Ae<|Ag rfl<|Aa<|Ak<|Ae<|Ac rfl<|Ab (Bs rfl)<|AH 0 rfl<|AH 1 rfl<|AS rfl ((mem_from (z0.memA (.tl .hd)) 0) 1 _ rfl)<|Ac rfl ?_
 obtain ⟨s3,G8,h⟩:=bi h
 obtain ⟨W6,H8⟩:=idx_in G8
 have R2:=Aj W1 (Tt v1 x1)
 obtain ⟨G9,k00,G6,g7,v4,c8,v7⟩:=Bb R2 H8
 have H6:v4 = [vI s3]:=c8; subst H6
 refine Ab (Be 1 (v0.fUnit.toNat) rfl G6 rfl W6 g7)<|AS rfl (v7 0 _ rfl)<|Ac rfl<|Ab (BO (i:=s3) (j:=v0.fFrom) rfl rfl)<|Aa<|BV rfl h (fun J3 h=>?_) (fun J3 h=>?_)
 refine Ao<|Ae<|Ac rfl<|Ab (Bs rfl)<|AH 0 rfl<|AH 1 rfl<|AS rfl ((mem_from (z0.memA (.tl .hd)) 0) 1 _ rfl) ?_
 obtain ⟨z9,Z8,h⟩:=bi h
 refine Bx (fst:=[]) (cap:=[]) .plain body91 rfl (e1 rfl) (fun w9 hw9=>own_gives (b0:=w.heap.size) (slices_Clone_api_Plan_int_c n _ w9 (z0.hL hL hw9) H0 (Av R2 hw9) Z8) hw9 (Nat.le_trans z0.ag.size hw9.size)) rfl (fun G01 A1 X00 ⟨y01,x4,x8,j3,C6⟩=>?_)
 subst x8
 have p1:=own_push z0 j3
 have u2:=own_tr z0 j3
 have D2:=Ar (cs:=x4) (xs:=(z9:List Int)) p1 L (own_cells C6)
 refine Ag rfl<|Aa<|Ae<|Ac rfl<|Ac rfl<|Ac rfl ?_
 obtain ⟨v9,I8,h⟩:=bi h
 obtain ⟨X6,J8⟩:=idx_in I8
 obtain ⟨x3,p00,Q1,M2,y4,d8,g01⟩:=St.nth (α:=Int) p1 .hd D2 J8
 obtain ⟨A3,q00,H2⟩:=BH (α:=Int) p1 .hd M2
 obtain rfl:x3 = ⟨A3,0,none⟩:=by rw [H2] at Q1; cases Q1; rfl
 have I6:y4 = [vI v9]:=d8; subst I6
 refine Ab (Be 1 (v0.fUnit.toNat) rfl Q1 rfl X6 M2) ?_
 obtain ⟨g2,W8,h⟩:=bi h
 refine RG.acts' .plain (Acts.set (α:=Int) (i:=v0.fUnit.toNat) W8 p1 H2 (fun _=>.hd) D2 rfl rfl rfl rfl rfl (by kernel_rfl)) (fun H01 ⟨F00,Q0,v2,E2⟩=>?_)
 refine Aa<|Ak<|Ae<|Ac rfl<|Ac rfl ?_
 obtain ⟨A9,b9,h⟩:=bi h
 refine BE (.bool A9) body92 rfl (e2 rfl rfl) (fun w9 hw9=>slices_Contains_api_Plan_int_c n _ w9 (Q0.hL0 hL hw9) g2 (Av (St.lend (α:=Int) (L:=L) Q0 .hd E2 hL) hw9) v0.fFrom b9) rfl<|Ab (Ba rfl)<|Aa<|BS rfl h (fun P3 h=>?_) (fun P3 h=>?_)
 refine Ao<|Ae<|Ac rfl<|Ac rfl<|Ab (Bs rfl)<|AH 0 rfl<|AH 1 rfl<|BG .plain (Br (j:=1) (old:=[vI 0,D0,vN,vN,vN]) (news:=[A1]) (new' :=[vI 0,A1,vN,vN,vN]) Q0 (.tl (.tl .hd)) rfl rfl rfl (St.c1 (α:=Int) Q0 .hd) rfl rfl (o1 (Bz (α:=Int) Q0 .hd)) rfl) (fun I01 H1 x2=>?_)
 refine Aa<|Ae<|Ag rfl<|Aa<|Am rfl<|Ay (u:=.bool true) M1 Tryz.func71 rfl (.cons (.tmp rfl) .nil) rfl<|Ag rfl<|Aa<|AF<|Aw<|Ab (Bu (i:=t0) (j:=1) rfl rfl (by omega))<|Ac rfl<|Aa ?_
 have x7:=Al E2 x2
 have g8:=AQ (α:=Int) H1 .hd x7 hL
 have s2:=Bf H1 .hd
 have F5:=Bg H1 .hd
 have j8:=Bh (α:=Int) (v:=A1) (xs:=g2) s2 L g8
 obtain ⟨H4,y2⟩:=AD s2 (.one (.tl .hd) (.one (.tl .hd) (.one (.tl .hd) (.one (.tl .hd) .done))))
 have y7:=Aj j8 y2
 have W7:=Tt v1 (Tt x1 (Tt u2 (Tt v2 (Tt x2 (Tt F5 y2)))))
 exact F1 (true,t0 + 1,g2,A1) _ _ ⟨rfl,rfl,rfl,rfl,rfl,rfl,trivial⟩ ⟨H4,(Tt j1 W7),y7⟩ h
 refine Ae<|Ag rfl<|Aa<|Am rfl<|Ay (u:=.bool false) M1 Tryz.func71 rfl (.cons (.tmp rfl) .nil) rfl<|Ag rfl<|Aa<|AF<|Aw<|Ab (Bu (i:=t0) (j:=1) rfl rfl (by omega))<|Ac rfl<|Aa ?_
 obtain ⟨I4,G5⟩:=AD Q0 (.one (.tl (.tl .hd)) (.one (.tl (.tl .hd)) (.one (.tl (.tl .hd)) (.one (.tl (.tl .hd)) .done))))
 have b3:=Tt v1 (Tt x1 (Tt u2 (Tt v2 G5)))
 have z7:=Aj W1 b3
 exact F1 (false,t0 + 1,H0,D0) _ _ ⟨rfl,rfl,rfl,rfl,rfl,rfl,trivial⟩ ⟨I4,(Tt j1 b3),z7⟩ h
 refine Ae<|Ag rfl<|Aa<|Am rfl<|Ay (u:=.bool false) M1 Tryz.func71 rfl (.cons (.tmp rfl) .nil) rfl<|Ag rfl<|Aa<|AF<|Aw<|Ab (Bu (i:=t0) (j:=1) rfl rfl (by omega))<|Ac rfl<|Aa ?_
 obtain ⟨J4,H5⟩:=AD z0 (.one (.tl .hd) (.one (.tl .hd) (.one (.tl .hd) (.one (.tl .hd) .done))))
 have c3:=Tt v1 (Tt x1 H5)
 have A7:=Aj W1 c3
 exact F1 (false,t0 + 1,H0,D0) _ _ ⟨rfl,rfl,rfl,rfl,rfl,rfl,trivial⟩ ⟨J4,(Tt j1 c3),A7⟩ h
 refine Bd rfl ?_
 have h:=J2 _ h
 try dsimp only at h
 obtain ⟨K4,I5⟩:=AD d1 (.one (.tl .hd) (.one (.tl .hd) (.one (.tl .hd) .done)))
 exact k2 M0 _ _ ⟨rfl,trivial⟩ ⟨K4,(Tt j1 I5)⟩ h
 refine Bd rfl ?_
 have h:=J2 _ h
 try dsimp only at h
 obtain ⟨M4,J5⟩:=AD d1 (.one (.tl .hd) (.one (.tl .hd) (.one (.tl .hd) .done)))
 exact k2 M0 _ _ ⟨rfl,trivial⟩ ⟨M4,(Tt j1 J5)⟩ h
 refine Af<|Af<|Af<|Af<|Af<|Af<|Af<|Af<|Af<|AU rfl rfl<|Aa<|AY rfl<|Ae<|Ag rfl<|Aa<|Am rfl<|AJ hb0 Tryz.func16 rfl rfl ?_
 cases h
 exact U0.gv
 intro Y9 p2 h
 try dsimp only at h
 have B7:=Ax h2_1 J1
 obtain ⟨v01,R7,K2⟩:=bind_in2 h
 refine Bp (α:=Bool × Nat × (List Int) × Value) (fun ⟨P0,u0,I0,E0⟩=>[(1,v2_3),(3,.func (.func 50) #[] #[]),(9,.bool P0),(12,vP J0),(72,vI ((a2.fDone.length:Nat):Int)),(73,vI ((u0:Nat):Int))]) (fun ⟨P0,u0,I0,E0⟩ D1=>St w D1 [.cells J0 [vI 0,E0,vN,vN,vN] 96,.cells d0 [vI a2.fK,v2_1,v2_2,v2_3,v2_4] 48,.cells c0 [vI a1.fGroups,vI a1.fParties,vI a1.fLevels,v1_3] 41,.cells b5 [vI a0.fN,v0_1] 38]∧Tr p3 [.cells J0 [vI 0,v2_1,vN,vN,vN] 96,.cells d0 [vI a2.fK,v2_1,v2_2,v2_3,v2_4] 48,.cells c0 [vI a1.fGroups,vI a1.fParties,vI a1.fLevels,v1_3] 41,.cells b5 [vI a0.fN,v0_1] 38] D1 [.cells J0 [vI 0,E0,vN,vN,vN] 96,.cells d0 [vI a2.fK,v2_1,v2_2,v2_3,v2_4] 48,.cells c0 [vI a1.fGroups,vI a1.fParties,vI a1.fLevels,v1_3] 41,.cells b5 [vI a0.fN,v0_1] 38]∧Rep.R D1 (bl [.cells J0 [vI 0,E0,vN,vN,vN] 96,.cells d0 [vI a2.fK,v2_1,v2_2,v2_3,v2_4] 48,.cells c0 [vI a1.fGroups,vI a1.fParties,vI a1.fLevels,v1_3] 41,.cells b5 [vI a0.fN,v0_1] 38] ++ L) [E0] I0) (fun ⟨P0,u0,I0,E0⟩=>(P0,u0,I0)) (b1,0,a2.fPlan,v2_1) R7 ⟨rfl,rfl,rfl,rfl,rfl,rfl,trivial⟩ ⟨J1,AN _ _,B7⟩ ?_
 rintro X9 ⟨P0,u0,I0,E0⟩ D1 G1 ⟨g1,k1,X1⟩ h
 unfold edit_Check_l3 at h
 try dsimp only at h
 refine Ae<|Ab (BA (i:=u0) (j:=a2.fDone.length) rfl rfl)<|Aa<|Ak<|AW rfl h (fun V3 h=>?_) (fun V3 h=>?_)
 refine Ao<|Ak<|AB<|Ae<|Ac rfl<|Ag rfl<|Aa<|Ak<|Ae<|Ac rfl<|Ab (Ba rfl)<|Aa<|BS rfl h (fun W3 h=>?_) (fun W3 h=>?_)
 refine Ao<|Ae<|Ac rfl<|Ac rfl<|Ac rfl ?_
 have V2:=Ax h2_3 g1
 refine Ab (Bj (xs:=a2.fDone) Tryz.underlying46 rfl V2)<|Ab (FV.subI (i:=((a2.fDone.length:Nat):Int)) (j:=1) rfl rfl (by omega))<|Ac rfl<|Ab (FV.subI (i:=((a2.fDone.length:Nat):Int) - 1) (j:=((u0:Nat):Int)) rfl rfl (by omega)) ?_
 obtain ⟨x9,K8,h⟩:=bi h
 obtain ⟨Y6,M8⟩:=idx_in K8
 obtain ⟨I9,t00,J6,j7,G00,k8,C7⟩:=Bb V2 M8
 obtain rfl:=op_TMove k8
 refine Ab (FV.idxAddr (m:=3) (i:=((((a2.fDone.length:Nat):Int) - 1) - ((u0:Nat):Int)).toNat) (by kernel_rfl) rfl J6 rfl Y6 j7)<|Ab (AG rfl C7) ?_
 obtain ⟨x0,d9,h⟩:=bi h
 refine BE (.agg #[vI x0.fUnit,vI x0.fFrom,vI x0.fTo]) body50 rfl (e1 rfl) (fun w9 hw9=>edit_turned_c n _ w9 (g1.hL0 hL hw9) x9 d9) rfl<|Az .plain rfl (AX [vI 0,vI 0,vI 0] g1) (fun J01 d00 Z4 y1=>?_)
 refine Bk [vI x0.fUnit,vI x0.fFrom,vI x0.fTo] Z4 .hd (onesB rfl) (fun K01 A0 z1=>?_)
 refine Aa<|Aw<|Ac rfl<|AH 0 rfl<|AS rfl ((A0.memA .hd) 0 _ rfl)<|AH 1 rfl<|AS rfl ((A0.memA .hd) 1 _ rfl)<|AH 2 rfl<|AS rfl ((A0.memA .hd) 2 _ rfl)<|BL (fst:=[]) (cap:=[]) (vs:=[vP J0,vI x0.fUnit,vI x0.fFrom,vI x0.fTo]) .plain body71 Tryz.func71 rfl rfl rfl rfl (e4 rfl rfl rfl rfl) rfl (fun H00 P1 p01=>?_)
 refine Ae<|Ag rfl<|Aa<|Ak<|Ae<|Ac rfl<|Ab (Bs rfl)<|AH 0 rfl<|AH 1 rfl<|AS rfl ((mem_from (A0.memA (.tl .hd)) 0) 1 _ rfl)<|Ac rfl ?_
 obtain ⟨t3,P8,h⟩:=bi h
 obtain ⟨Z6,Q8⟩:=idx_in P8
 have X2:=Aj X1 (Tt y1 z1)
 obtain ⟨J9,u00,K6,k7,z4,p8,D7⟩:=Bb X2 Q8
 have M6:z4 = [vI t3]:=p8; subst M6
 refine Ab (Be 1 (x0.fUnit.toNat) rfl K6 rfl Z6 k7)<|AS rfl (D7 0 _ rfl)<|Ac rfl<|Ab (BO (i:=t3) (j:=x0.fFrom) rfl rfl)<|Aa<|BV rfl h (fun Y3 h=>?_) (fun Y3 h=>?_)
 refine Ao<|Ae<|Ac rfl<|Ab (Bs rfl)<|AH 0 rfl<|AH 1 rfl<|AS rfl ((mem_from (A0.memA (.tl .hd)) 0) 1 _ rfl) ?_
 obtain ⟨B9,g9,h⟩:=bi h
 refine Bx (fst:=[]) (cap:=[]) .plain body91 rfl (e1 rfl) (fun w9 hw9=>own_gives (b0:=w.heap.size) (slices_Clone_api_Plan_int_c n _ w9 (A0.hL hL hw9) I0 (Av X2 hw9) g9) hw9 (Nat.le_trans A0.ag.size hw9.size)) rfl (fun M01 B1 Y00 ⟨z01,A4,y8,k3,D6⟩=>?_)
 subst y8
 have q1:=own_push A0 k3
 have z2:=own_tr A0 k3
 have F2:=Ar (cs:=A4) (xs:=(B9:List Int)) q1 L (own_cells D6)
 refine Ag rfl<|Aa<|Ae<|Ac rfl<|Ac rfl<|Ac rfl ?_
 obtain ⟨y9,R8,h⟩:=bi h
 obtain ⟨b7,U8⟩:=idx_in R8
 obtain ⟨y3,x00,R1,P2,B4,q8,j01⟩:=St.nth (α:=Int) q1 .hd F2 U8
 obtain ⟨B3,y00,I2⟩:=BH (α:=Int) q1 .hd P2
 obtain rfl:y3 = ⟨B3,0,none⟩:=by rw [I2] at R1; cases R1; rfl
 have P6:B4 = [vI y9]:=q8; subst P6
 refine Ab (Be 1 (x0.fUnit.toNat) rfl R1 rfl b7 P2) ?_
 obtain ⟨j2,X8,h⟩:=bi h
 refine RG.acts' .plain (Acts.set (α:=Int) (i:=x0.fUnit.toNat) X8 q1 I2 (fun _=>.hd) F2 rfl rfl rfl rfl rfl (by kernel_rfl)) (fun P01 ⟨I00,R0,A2,G2⟩=>?_)
 refine Aa<|Ak<|Ae<|Ac rfl<|Ac rfl ?_
 obtain ⟨C9,j9,h⟩:=bi h
 refine BE (.bool C9) body92 rfl (e2 rfl rfl) (fun w9 hw9=>slices_Contains_api_Plan_int_c n _ w9 (R0.hL0 hL hw9) j2 (Av (St.lend (α:=Int) (L:=L) R0 .hd G2 hL) hw9) x0.fFrom j9) rfl<|Ab (Ba rfl)<|Aa<|BS rfl h (fun Z3 h=>?_) (fun Z3 h=>?_)
 refine Ao<|Ae<|Ac rfl<|Ac rfl<|Ab (Bs rfl)<|AH 0 rfl<|AH 1 rfl<|BG .plain (Br (j:=1) (old:=[vI 0,E0,vN,vN,vN]) (news:=[B1]) (new' :=[vI 0,B1,vN,vN,vN]) R0 (.tl (.tl .hd)) rfl rfl rfl (St.c1 (α:=Int) R0 .hd) rfl rfl (o1 (Bz (α:=Int) R0 .hd)) rfl) (fun Q01 I1 B2=>?_)
 refine Aa<|Ae<|Ag rfl<|Aa<|Am rfl<|Ay (u:=.bool true) P1 Tryz.func71 rfl (.cons (.tmp rfl) .nil) rfl<|Ag rfl<|Aa<|AF<|Aw<|Ab (Bu (i:=u0) (j:=1) rfl rfl (by omega))<|Ac rfl<|Aa ?_
 have E7:=Al G2 B2
 have s8:=AQ (α:=Int) I1 .hd E7 hL
 have t2:=Bf I1 .hd
 have X5:=Bg I1 .hd
 have t8:=Bh (α:=Int) (v:=B1) (xs:=j2) t2 L s8
 obtain ⟨c5,C2⟩:=AD t2 (.one (.tl .hd) (.one (.tl .hd) (.one (.tl .hd) (.one (.tl .hd) .done))))
 have F7:=Aj t8 C2
 have X7:=Tt y1 (Tt z1 (Tt z2 (Tt A2 (Tt B2 (Tt X5 C2)))))
 exact G1 (true,u0 + 1,j2,B1) _ _ ⟨rfl,rfl,rfl,rfl,rfl,rfl,trivial⟩ ⟨c5,(Tt k1 X7),F7⟩ h
 refine Ae<|Ag rfl<|Aa<|Am rfl<|Ay (u:=.bool false) P1 Tryz.func71 rfl (.cons (.tmp rfl) .nil) rfl<|Ag rfl<|Aa<|AF<|Aw<|Ab (Bu (i:=u0) (j:=1) rfl rfl (by omega))<|Ac rfl<|Aa ?_
 obtain ⟨d5,Y5⟩:=AD R0 (.one (.tl (.tl .hd)) (.one (.tl (.tl .hd)) (.one (.tl (.tl .hd)) (.one (.tl (.tl .hd)) .done))))
 have d3:=Tt y1 (Tt z1 (Tt z2 (Tt A2 Y5)))
 have G7:=Aj X1 d3
 exact G1 (false,u0 + 1,I0,E0) _ _ ⟨rfl,rfl,rfl,rfl,rfl,rfl,trivial⟩ ⟨d5,(Tt k1 d3),G7⟩ h
 refine Ae<|Ag rfl<|Aa<|Am rfl<|Ay (u:=.bool false) P1 Tryz.func71 rfl (.cons (.tmp rfl) .nil) rfl<|Ag rfl<|Aa<|AF<|Aw<|Ab (Bu (i:=u0) (j:=1) rfl rfl (by omega))<|Ac rfl<|Aa ?_
 obtain ⟨g5,Z5⟩:=AD A0 (.one (.tl .hd) (.one (.tl .hd) (.one (.tl .hd) (.one (.tl .hd) .done))))
 have g3:=Tt y1 (Tt z1 Z5)
 have H7:=Aj X1 g3
 exact G1 (false,u0 + 1,I0,E0) _ _ ⟨rfl,rfl,rfl,rfl,rfl,rfl,trivial⟩ ⟨g5,(Tt k1 g3),H7⟩ h
 refine Bd rfl ?_
 have h:=K2 _ h
 try dsimp only at h
 obtain ⟨j5,b6⟩:=AD g1 (.one (.tl .hd) (.one (.tl .hd) (.one (.tl .hd) .done)))
 exact p2 P0 _ _ ⟨rfl,trivial⟩ ⟨j5,(Tt k1 b6)⟩ h
 refine Bd rfl ?_
 have h:=K2 _ h
 try dsimp only at h
 obtain ⟨k5,c6⟩:=AD g1 (.one (.tl .hd) (.one (.tl .hd) (.one (.tl .hd) .done)))
 exact p2 P0 _ _ ⟨rfl,trivial⟩ ⟨k5,(Tt k1 c6)⟩ h
 refine Af<|Af<|Af<|Af<|Af<|Af<|Af<|Af<|AU rfl rfl<|Ac rfl<|Af<|Af<|Af<|Af<|Af<|Af<|Af<|Af<|Af<|AU rfl rfl<|Aa<|AY rfl<|Ae<|Ag rfl ?_
 refine Aa<|Am rfl<|AJ hb0 Tryz.func16 rfl rfl ?_
 cases h
 exact y0.gv
 refine Ae<|Ac rfl<|Ag rfl<|Aa<|Am rfl<|AJ hb0 Tryz.func16 rfl rfl ?_
 cases h
 exact y0.gv
 refine Ae<|Ac rfl<|Ag rfl<|Aa<|Am rfl<|AJ hb0 Tryz.func16 rfl rfl ?_
 cases h
 exact p0.gv
def slices_Clone_int_int_p (_n:Nat) (a0:List Int):Option (List Int):=
  nilCase a0 (some ([]:List Int)) ((app ([]:List Int) a0).bind fun b0=>some b0)
theorem slices_Clone_int_int_c (n:Nat) (L:List Nat) (w:World) (_hL:∀ b ∈ L,b < w.heap.size) (a0:List Int) {v0_0:Value} (h0_0:Rep.R w L [v0_0] a0)  {r:List Int} (h:slices_Clone_int_int_p n a0 = some r) :
    Calls Tryz.prog 22 #[v0_0] w (Gives w fun w' u=>∃ (v0_0:Value) (cs0_0:List Value),u = v0_0∧St w w' (rowsOf w.heap.size [(3,Rep.size Int,v0_0,r.length,cs0_0)])∧Cells w' (bl (rowsOf w.heap.size [(3,Rep.size Int,v0_0,r.length,cs0_0)]) ++ L) cs0_0 (r:List Int)):=by
 unfold slices_Clone_int_int_p at h
 have hS0:=AK w
 refine AM Tryz.func22 rfl rfl rfl (fun _ cs0 hb0=>?_)
 refine Ae<|Ag rfl<|Aa<|Ak<|Ae<|Ac rfl ?_
 rcases Rep.nilOr h0_0 with ⟨c1,he3,hx4⟩ | ⟨ad2,c1,he3⟩
 have h:=nilCase_n h hx4
 refine Ab (FV.eqlNil1 Tryz.underlying42 rfl he3 rfl)<|Aa<|AY rfl<|Ae<|Ag rfl<|Aa<|Am rfl ?_
 have hS6:=hS0.nilRow 3 (Rep.size Int)
 have hT7:=St.nilRowT hS0 3 (Rep.size Int)
 have hc8:=Ar (cs:=[]) (xs:=([]:List Int)) hS6 L (AC _ _)
 refine Ay (u:=vN) hb0 Tryz.func22 rfl (.cons (.tmp rfl) .nil) rfl ?_
 cases h
 exact ⟨hS6.ag,fun w9 hw9=>⟨vN,[],rfl,hS6.agree hw9,Cells.keep0 hc8 hw9⟩⟩
 have h:=nilCase_s h
 refine Ab (FV.eqlNil0 Tryz.underlying42 rfl he3 rfl)<|Aa<|BC rfl<|Ao<|Ae<|Az .plain rfl (AE (α:=Int) (xs:=([]:List Int)) (vs:=[]) (ds' :=[]) rfl hS0 el42 rfl evs_nil (by kernel_rfl) rfl) (fun v0 s0 b0 t0=>?_)
 have j0:=Ar (cs:=[]) (xs:=(([]:List Int):List Int)) b0 L (AC _ _)
 refine Ac rfl ?_
 obtain ⟨y0,q0,h⟩:=bi h
 have p0:=Ax h0_0 b0
 refine RG.doesL .plain rfl (AR (α:=Int) (ys:=a0) q0 b0 (fun _ _=>.hd) el42 rfl rfl j0 (Bw p0)) (fun d0 x0 ⟨g0,c0,u0,k0⟩=>?_)
 refine Ag rfl<|Aa<|Am rfl<|Ay (u:=d0) hb0 Tryz.func22 rfl (.cons (.tmp rfl) .nil) rfl ?_
 cases h
 exact ⟨c0.ag,fun w9 hw9=>⟨d0,g0,rfl,c0.agree hw9,Cells.keep0 k0 hw9⟩⟩
def tb42_1:List (Nat × Nat × Nat):=[(0,32,1),(0,64,1),(2,128,64),(0,256,1),(8,512,256),(21,1024,672),(0,2048,8),(64,4096,2048),(160,8192,5120),(511,16,8192)]
theorem el46:ElT Tryz.prog 46 62 (Rep.size TMove) 24 (.agg #[vI 0,vI 0,vI 0]) [vI 0,vI 0,vI 0]:=⟨Tryz.underlying46,by kernel_rfl,rfl,rfl,rfl,rfl⟩
def edit_more_api_Move_p (_n:Nat) (a0:List TMove) (a1:TMove):Option (List TMove):=
  (app a0 ([a1]:List TMove)).bind fun b0=>some b0
theorem edit_more_api_Move_c (n:Nat) (L:List Nat) (w:World) (hL:∀ b ∈ L,b < w.heap.size) (a0:List TMove) {v0_0:Value} (h0_0:Rep.R w L [v0_0] a0) (a1:TMove)  {r:List TMove} (h:edit_more_api_Move_p n a0 a1 = some r) :
    Calls Tryz.prog 42 #[v0_0,.agg #[vI a1.fUnit,vI a1.fFrom,vI a1.fTo]] w (Gives w fun w' u=>∃ v0_0:Value,u = v0_0∧Rep.R w' L [v0_0] r):=by
 unfold edit_more_api_Move_p at h
 have hS0:=AK w
 refine AM Tryz.func42 rfl rfl rfl (fun _ cs0 hb0=>?_)
 refine Ae<|Az .plain rfl (AI hS0 rfl rfl) (fun w2 b5 hS3 hT4=>?_)
 refine Ag rfl<|Aa<|Ak<|Bm 8 tb42_1 (by kernel_rfl) (by kernel_rfl) (by kernel_rfl) (fun kt6 kp7=>?_)
 refine Ah 0 1 kt6 rfl kp7 (fun _=>Ai rfl) rfl<|Ah 1 3 kt6 rfl kp7 (fun _=>Ai rfl) rfl ?_
 have hm9:=Ax h0_0 hS3
 have hl8:a0.length ≤ 281474976710656:=AZ hm9
 refine AT 2 7 800 kt6 rfl kp7 (Bj (xs:=a0) Tryz.underlying46 rfl hm9) rfl<|Ah 3 15 kt6 rfl kp7 (fun _=>Ai rfl) rfl<|AT 4 31 800 kt6 rfl kp7 (Bj (xs:=a0) Tryz.underlying46 rfl hm9) rfl<|RD.valE (i:=5) (m' :=63) (W:=768) (takeC_ok kt6 (by kernel_rfl)) rfl kp7 .plain rfl (FV.cut3 (α:=TMove) (by kernel_rfl) rfl hm9 rfl rfl) (fun D0 ⟨t0,q0⟩=>?_)
 refine AT 6 127 896 kt6 rfl kp7 (AG rfl (hS3.memA .hd)) rfl<|RD.nu 7 255 kt6 rfl .plain rfl (AE (α:=TMove) (xs:=([a1]:List TMove)) (vs:=[.agg #[vI a1.fUnit,vI a1.fFrom,vI a1.fTo]]) (ds' :=[vI a1.fUnit,vI a1.fFrom,vI a1.fTo]) rfl hS3 el46 rfl (e1 rfl) (by kernel_rfl) rfl) (fun E0 z0 b0 j0=>?_)
 have k0:=Ar (cs:=[vI a1.fUnit,vI a1.fFrom,vI a1.fTo]) (xs:=(([a1]:List TMove):List TMove)) b0 L (Aq (cs:=[vI a1.fUnit,vI a1.fFrom,vI a1.fTo]) (ds:=[]) (mk_TMove a1.fUnit a1.fFrom a1.fTo) (AC _ _))
 obtain ⟨y0,x0,h⟩:=bi h
 have s0:=Aj t0 j0
 refine BD (i:=8) (readyD_ok kt6 (by kernel_rfl)) (Bo (m' :=511) (stepC_ok kt6 (by kernel_rfl)) rfl rfl .plain rfl (appFull_does (α:=TMove) (xs:=a0) (ys:=([a1]:List TMove)) x0 (by simp) b0 el46 rfl q0 (Bw s0) rfl (Src.row (α:=TMove) b0 .hd k0)) (fun g0 F0 ⟨A0,c0,B0,p0⟩=>?_))
 refine Ah 9 1023 kt6 rfl kp7 (fun _=>BP rfl) rfl<|Bc (doneD_ok kt6 (by kernel_rfl))<|Am rfl ?_
 have u0:=AQ (α:=TMove) c0 .hd p0 hL
 have d0:=Bf c0 .hd
 have C0:=Bg c0 .hd
 have v0:=Bh (α:=TMove) (v:=g0) (xs:=y0) d0 L u0
 refine AJ hb0 Tryz.func42 rfl rfl ?_
 cases h
 exact ⟨d0.ag,fun w9 hw9=>⟨g0,rfl,d0.kd v0 hw9⟩⟩
def tb41_4:List (Nat × Nat × Nat):=[(0,8388608,128),(0,16777216,32),(2,33554432,16777216),(5,67108864,41943040),(8,134217728,67108864),(0,268435456,16),(32,536870912,268435456),(0,1073741824,32),(128,2147483648,1073741824),(320,4294967296,2684354560),(512,8589934592,4294967296),(1024,17179869184,8589934592),(2064,34359738368,17314086912),(8191,68719476736,41943040),(16383,0,103079215104)]
def tb41_5:List (Nat × Nat × Nat):=[(0,137438953472,128),(0,274877906944,32),(2,549755813888,274877906944),(5,1099511627776,687194767360),(8,2199023255552,1099511627776),(0,4398046511104,16),(32,8796093022208,4398046511104),(0,17592186044416,32),(128,35184372088832,17592186044416),(320,70368744177664,43980465111040),(512,140737488355328,70368744177664),(1024,281474976710656,140737488355328),(2064,562949953421312,283673999966208),(8191,1125899906842624,687194767360),(16383,0,1688849860263936)]
def tb13_12:List (Nat × Nat × Nat):=[(0,75557863725914323419136,8192),(0,151115727451828646838272,8192),(0,302231454903657293676544,8192),(4,604462909807314587353088,302231454903657293676544),(8,1208925819614629174706176,604462909807314587353088),(16,2417851639229258349412352,1208925819614629174706176),(32,4835703278458516698824704,2417851639229258349412352),(0,9671406556917033397649408,16384),(192,19342813113834066795298816,14507109835375550096474112),(509,38685626227668133590597632,75557863725914323419136),(1021,77371252455336267181195264,38685626227668133590597632),(1533,154742504910672534362390528,77371252455336267181195264),(2557,0,174085318024506601157689344),(8191,309485009821345068724781056,151115727451828646838272),(16383,618970019642690137449562112,309485009821345068724781056),(24575,1237940039285380274899124224,618970019642690137449562112),(40959,0,1237940039285380274899124224)]
theorem body16:bodyB Tryz.prog 16 = true:=by kernel_rfl
theorem body22:bodyB Tryz.prog 22 = true:=by kernel_rfl
theorem body41:bodyB Tryz.prog 41 = true:=by kernel_rfl
theorem body42:bodyB Tryz.prog 42 = true:=by kernel_rfl
def edit_Make_p (n:Nat) (a0:TGraph) (a1:TRoll) (a2:TSession) (a3:Int) (a4:Int):Option (TSession × Int):=
  (edit_Check_p n a0 a1 a2).bind fun q0=>(if q0 = 0 then jn (fun s0=>(if s0 = true then some ((⟨(0:Int),([]:List Int),([]:List Int),([]:List TMove),([]:List TMove)⟩:TSession),(2:Int)) else (idx a2.fPlan a3).bind fun b0=>(if b0 = b0 then (slices_Clone_api_Plan_int_p n a2.fPlan).bind fun k0=>(idx k0 a3).bind fun C0=>(put k0 ((a3.toNat:Nat):Int) a4).bind fun g0=>(slices_Contains_api_Plan_int_p n g0 b0).bind fun A0=>(if A0 = true then (slices_Clone_int_int_p n a2.fTotals).bind fun p0=>(idx p0 b0).bind fun v0=>(idx a1.fUnits a3).bind fun d0=>(chk (v0 - d0.fPeople)).bind fun t0=>(put p0 ((b0.toNat:Nat):Int) t0).bind fun j0=>(idx j0 a4).bind fun x0=>(chk (x0 + d0.fPeople)).bind fun u0=>(put j0 ((a4.toNat:Nat):Int) u0).bind fun z0=>(if 200 ≤ a2.fDone.length then some ((⟨(0:Int),([]:List Int),([]:List Int),([]:List TMove),([]:List TMove)⟩:TSession),(3:Int)) else (edit_more_api_Move_p n a2.fDone (⟨a3,b0,a4⟩:TMove)).bind fun B0=>some ((⟨a2.fK,g0,z0,B0,([]:List TMove)⟩:TSession),(0:Int))) else some ((⟨(0:Int),([]:List Int),([]:List Int),([]:List TMove),([]:List TMove)⟩:TSession),(4:Int))) else some ((⟨(0:Int),([]:List Int),([]:List Int),([]:List TMove),([]:List TMove)⟩:TSession),(4:Int))))) (fun c0=>(if a3 < 0 then c0 true else (if a0.fN ≤ a3 then c0 true else (if a4 < 0 then c0 true else (if a2.fK ≤ a4 then c0 true else (idx a2.fPlan a3).bind fun y0=>c0 (decide (y0 = a4))))))) else some ((⟨(0:Int),([]:List Int),([]:List Int),([]:List TMove),([]:List TMove)⟩:TSession),q0))
theorem edit_Make_c (n:Nat) (L:List Nat) (w:World) (hL:∀ b ∈ L,b < w.heap.size) (a0:TGraph) {v0_1:Value} (h0_1:Rep.R w L [v0_1] a0.fEdges) (a1:TRoll) {v1_3:Value} (h1_3:Rep.R w L [v1_3] a1.fUnits) (a2:TSession) {v2_1:Value} (h2_1:Rep.R w L [v2_1] a2.fPlan) {v2_2:Value} (h2_2:Rep.R w L [v2_2] a2.fTotals) {v2_3:Value} (h2_3:Rep.R w L [v2_3] a2.fDone) {v2_4:Value} (h2_4:Rep.R w L [v2_4] a2.fUndone) (a3:Int) (a4:Int)  {r:TSession × Int} (h:edit_Make_p n a0 a1 a2 a3 a4 = some r) :
    Calls Tryz.prog 13 #[.agg #[vI a0.fN,v0_1],.agg #[vI a1.fGroups,vI a1.fParties,vI a1.fLevels,v1_3],.agg #[vI a2.fK,v2_1,v2_2,v2_3,v2_4],vI a3,vI a4] w (Gives w fun w' u=>∃ v0_1 v0_2 v0_3 v0_4:Value,u = .tuple #[.agg #[vI r.1.fK,v0_1,v0_2,v0_3,v0_4],vI r.2]∧Rep.R w' L [v0_1] r.1.fPlan∧Rep.R w' L [v0_2] r.1.fTotals∧Rep.R w' L [v0_3] r.1.fDone∧Rep.R w' L [v0_4] r.1.fUndone):=by
 unfold edit_Make_p at h
 have hS0:=AK w
 refine AM Tryz.func13 rfl rfl rfl (fun _ cs0 hb0=>?_)
 refine Ae<|Az .plain rfl (AI hS0 rfl rfl) (fun w2 b5 hS3 hT4=>?_)
 refine Az .plain rfl (AI hS3 rfl rfl) (fun w7 Q0 hS8 hT9=>?_)
 refine Az .plain rfl (AI hS8 rfl rfl) (fun u8 R0 j3 s7=>?_)
 refine Az .plain rfl (AX [vI 0,vN,vN,vN,vN] j3) (fun c6 U0 c0 u7=>?_)
 refine Ag rfl<|Aa<|Ak<|Ae<|Ab (AG rfl (c0.memA (.tl (.tl (.tl .hd)))))<|Ab (AG rfl (c0.memA (.tl (.tl .hd))))<|Ab (AG rfl (c0.memA (.tl .hd))) ?_
 obtain ⟨B2,Z5,h⟩:=bi h
 refine BE (vI B2) body16 rfl (e3 rfl rfl rfl) (fun w9 hw9=>edit_Check_c n _ w9 (c0.hL0 hL hw9) a0 (c0.k0 h0_1 hw9) a1 (c0.k0 h1_3 hw9) a2 (c0.k0 h2_1 hw9) (c0.k0 h2_2 hw9) (c0.k0 h2_3 hw9) (c0.k0 h2_4 hw9) Z5) rfl<|Ag rfl<|Aa<|Ae<|Ac rfl<|Ab (BO (i:=B2) (j:=0) rfl rfl)<|Aa<|BV rfl h (fun K2 h=>?_) (fun K2 h=>?_)
 refine Ao<|Ak<|Ak<|MX.join (α:=Bool) (fun P0=>[(3,vI a3),(4,vI a4),(6,vP Q0),(7,vP R0),(10,vP U0),(49,.bool P0)]) (fun P0 z1=>St w z1 [.cells U0 [vI 0,vN,vN,vN,vN] 48,.cells R0 [vI a2.fK,v2_1,v2_2,v2_3,v2_4] 48,.cells Q0 [vI a1.fGroups,vI a1.fParties,vI a1.fLevels,v1_3] 41]∧Tr c6 [.cells U0 [vI 0,vN,vN,vN,vN] 48,.cells R0 [vI a2.fK,v2_1,v2_2,v2_3,v2_4] 48,.cells Q0 [vI a1.fGroups,vI a1.fParties,vI a1.fLevels,v1_3] 41,.cells b5 [vI a0.fN,v0_1] 38] z1 [.cells U0 [vI 0,vN,vN,vN,vN] 48,.cells R0 [vI a2.fK,v2_1,v2_2,v2_3,v2_4] 48,.cells Q0 [vI a1.fGroups,vI a1.fParties,vI a1.fLevels,v1_3] 41]) (fun P0=>P0) h ?_ ?_
 rintro P0 z1 ⟨H0,A7⟩ h
 try dsimp only at h
 refine MX.ifb rfl h (fun V2 h=>?_) (fun V2 h=>?_)
 refine Ae<|Ab (AV (vs:=[]) (u:=.agg #[vI 0,vN,vN,vN,vN]) evs_nil (fun w9=>by kernel_rfl))<|Bk [vI 0,vN,vN,vN,vN] H0 .hd (onesB rfl) (fun K8 F0 B7=>?_)
 refine Ag rfl<|Aa<|Am rfl ?_
 have p2:=AL (α:=Int) F0 L
 have q2:=AL (α:=TMove) F0 L
 refine Ay hb0 Tryz.func13 rfl (.cons (.many (cs:=[vI 0,vN,vN,vN,vN]) (by kernel_rfl) rfl (F0.memA .hd)) (.cons (.tmp rfl) .nil)) rfl ?_
 cases h
 exact ⟨F0.ag,fun w9 hw9=>⟨vN,vN,vN,vN,rfl,F0.kd p2 hw9,F0.kd p2 hw9,F0.kd q2 hw9,F0.kd q2 hw9⟩⟩
 refine Ao<|Ae<|Ab (AG rfl (H0.memA (.tl .hd))) ?_
 have J4:=Ax h2_1 H0
 obtain ⟨v6,U6,A5,_⟩:=BQ J4
 have K4:=Ax h2_2 H0
 obtain ⟨x6,V6,B5,_⟩:=BQ K4
 have M4:=Ax h2_3 H0
 obtain ⟨y6,W6,C5,_⟩:=BQ M4
 have P4:=Ax h2_4 H0
 obtain ⟨z6,X6,D5,_⟩:=BQ P4
 refine Ab (AV (vs:=[.agg #[vI a2.fK,v2_1,v2_2,v2_3,v2_4]]) (u:=.agg #[vI a2.fK,v2_1,v2_2,v2_3,v2_4]) (e1 rfl) (fun w9=>by rw [A5,B5,C5,D5]; try kernel_rfl))<|Az .plain rfl (AI H0 rfl rfl) (fun M8 B1 p1 C7=>?_)
 refine Ag rfl<|Aa<|Ae<|Ac rfl<|AH 1 rfl<|AS rfl ((p1.memA (.tl (.tl .hd))) 1 _ rfl)<|Ac rfl ?_
 obtain ⟨t0,Q5,h⟩:=bi h
 obtain ⟨V1,t2⟩:=idx_in Q5
 have R4:=Ax h2_1 p1
 obtain ⟨A6,Y6,b4,s4,g3,u5,Q4⟩:=Bb R4 t2
 have c4:g3 = [vI t0]:=u5; subst c4
 refine Ab (Be 1 (a3.toNat) rfl b4 rfl V1 s4)<|AS rfl (Q4 0 _ rfl)<|Ac rfl<|Ab (AV (vs:=[vI a3,vI t0,vI a4]) (u:=.agg #[vI a3,vI t0,vI a4]) (e3 rfl rfl rfl) (fun w9=>by kernel_rfl))<|Az .plain rfl (AX [vI 0,vI 0,vI 0] p1) (fun P8 D6 x3 D7=>?_)
 refine Bk [vI a3,vI t0,vI a4] x3 .hd (onesB rfl) (fun Q8 q1 E7=>?_)
 refine Aa<|Ak<|Ae<|Ac rfl<|Ab (AG rfl (q1.memA (.tl (.tl (.tl (.tl .hd))))))<|Ab (AG rfl (q1.memA .hd))<|BL (fst:=[]) (cap:=[]) (vs:=[vP B1,.agg #[vI a1.fGroups,vI a1.fParties,vI a1.fLevels,v1_3],.agg #[vI a3,vI t0,vI a4]]) .plain body41 Tryz.func41 rfl rfl rfl rfl (e3 rfl rfl rfl) rfl (fun k7 u1 M7=>?_)
 refine Ae<|Az .plain rfl (AI q1 rfl rfl) (fun R8 E6 y3 F7=>?_)
 refine Az .plain rfl (AI y3 rfl rfl) (fun s8 C6 u0 p7=>?_)
 refine Ag rfl<|Aa<|Ak<|Ae<|Ac rfl<|AH 0 rfl<|AS rfl ((u0.memA .hd) 0 _ rfl)<|AH 1 rfl<|AS rfl ((u0.memA .hd) 1 _ rfl)<|AH 2 rfl<|AS rfl ((u0.memA .hd) 2 _ rfl)<|BL (fst:=[]) (cap:=[]) (vs:=[vP B1,vI a3,vI t0,vI a4]) .plain body71 Tryz.func71 rfl rfl rfl rfl (e4 rfl rfl rfl rfl) rfl (fun Z6 t1 K7=>?_)
 refine Ae<|Ag rfl<|Aa<|Ak<|Ae<|Ac rfl<|Ab (Bs rfl)<|AH 0 rfl<|AH 1 rfl<|Ab (AA rfl ((mem_from (u0.memA (.tl (.tl (.tl .hd)))) 0) 1 _ rfl))<|Ac rfl ?_
 have u4:=Ax h2_1 u0
 obtain ⟨q6,F6,P3,j4,W2,X4,t4⟩:=Bb u4 t2
 have Q3:W2 = [vI t0]:=X4; subst Q3
 refine Ab (Be 1 (a3.toNat) rfl P3 rfl V1 j4)<|AS rfl (t4 0 _ rfl)<|Ac rfl<|Ab (BO (i:=t0) (j:=t0) rfl rfl)<|Aa<|BV rfl h (fun I2 h=>?_) (fun I2 h=>?_)
 refine Ao<|Ae<|Ac rfl<|Ab (Bs rfl)<|AH 0 rfl<|AH 1 rfl<|Ab (AA rfl ((mem_from (u0.memA (.tl (.tl (.tl .hd)))) 0) 1 _ rfl)) ?_
 obtain ⟨j6,W5,h⟩:=bi h
 refine Bx (fst:=[]) (cap:=[]) .plain body91 rfl (e1 rfl) (fun w9 hw9=>own_gives (b0:=w.heap.size) (slices_Clone_api_Plan_int_c n _ w9 (u0.hL hL hw9) a2.fPlan (u0.km h2_1 hw9) W5) hw9 (Nat.le_trans u0.ag.size hw9.size)) rfl (fun t8 v0 G7 ⟨Z7,X2,y5,u2,J3⟩=>?_)
 subst y5
 have V0:=own_push u0 u2
 have q7:=own_tr u0 u2
 have G1:=Ar (cs:=X2) (xs:=(j6:List Int)) V0 L (own_cells J3)
 refine Ag rfl<|Aa<|Ae<|Ac rfl<|Ac rfl<|Ac rfl ?_
 obtain ⟨d6,E5,h⟩:=bi h
 obtain ⟨d4,F5⟩:=idx_in E5
 obtain ⟨C2,G6,v1,W1,Y2,Y4,J7⟩:=St.nth (α:=Int) V0 .hd G1 F5
 obtain ⟨F2,H6,K1⟩:=BH (α:=Int) V0 .hd W1
 obtain rfl:C2 = ⟨F2,0,none⟩:=by rw [K1] at v1; cases v1; rfl
 have R3:Y2 = [vI d6]:=Y4; subst R3
 refine Ab (Be 1 (a3.toNat) rfl v1 rfl d4 W1) ?_
 obtain ⟨A2,R5,h⟩:=bi h
 refine RG.acts' .plain (Acts.set (α:=Int) (i:=a3.toNat) R5 V0 K1 (fun _=>.hd) G1 rfl rfl rfl rfl rfl (by kernel_rfl)) (fun v8 ⟨b7,J0,t7,H1⟩=>?_)
 refine Aa<|Ak<|Ae<|Ac rfl<|Ac rfl ?_
 obtain ⟨k6,X5,h⟩:=bi h
 refine BE (.bool k6) body92 rfl (e2 rfl rfl) (fun w9 hw9=>slices_Contains_api_Plan_int_c n _ w9 (J0.hL0 hL hw9) A2 (Av (St.lend (α:=Int) (L:=L) J0 .hd H1 hL) hw9) t0 X5) rfl<|Ab (Ba rfl)<|Aa<|BS rfl h (fun J2 h=>?_) (fun J2 h=>?_)
 refine Ao<|Ae<|Ac rfl<|Ac rfl<|Ab (Bs rfl)<|AH 0 rfl<|AH 1 rfl<|BG .plain (Br (j:=1) (old:=[vI a2.fK,v2_1,v2_2,v2_3,v2_4]) (news:=[v0]) (new' :=[vI a2.fK,v0,v2_2,v2_3,v2_4]) J0 (.tl (.tl (.tl (.tl .hd)))) rfl rfl rfl (St.c1 (α:=Int) J0 .hd) rfl rfl (o1 (Bz (α:=Int) J0 .hd)) rfl) (fun x8 K0 z3=>?_)
 refine Aa<|Ae<|Ag rfl<|Aa<|Am rfl<|Ay (u:=.bool true) t1 Tryz.func71 rfl (.cons (.tmp rfl) .nil) rfl<|Ab (Ba rfl)<|Aa<|BC rfl<|Ao<|Ae<|Ac rfl<|Ab (Bs rfl)<|AH 0 rfl<|AH 2 rfl<|Ab (AA rfl ((mem_from (K0.memA (.tl (.tl (.tl (.tl .hd))))) 0) 2 _ rfl)) ?_
 obtain ⟨p6,Y5,h⟩:=bi h
 refine Bx (fst:=[]) (cap:=[]) .plain body22 rfl (e1 rfl) (fun w9 hw9=>own_gives (b0:=w.heap.size) (slices_Clone_int_int_c n _ w9 (K0.hL hL hw9) a2.fTotals (K0.km h2_2 hw9) Y5) hw9 (Nat.le_trans K0.ag.size hw9.size)) rfl (fun y8 x0 H7 ⟨b8,Z2,z5,v2,K3⟩=>?_)
 subst z5
 have y0:=own_push K0 v2
 have A3:=own_tr K0 v2
 have I1:=Ar (cs:=Z2) (xs:=(p6:List Int)) y0 L (own_cells K3)
 refine Ag rfl<|Aa<|Ak<|Bm 14 tb41_4 (by kernel_rfl) (by kernel_rfl) (by kernel_rfl) (fun g0 p0=>?_)
 refine Ah 0 1 g0 rfl p0 (fun _=>Ai rfl) rfl<|Ah 1 3 g0 rfl p0 (fun _=>Bt 1 rfl) rfl<|AT 2 7 28696 g0 rfl p0 (AA rfl ((y0.memA (.tl (.tl .hd))) 1 _ rfl)) rfl ?_
 obtain ⟨x2,G5,h⟩:=bi h
 obtain ⟨Q1,H5⟩:=idx_in G5
 obtain ⟨D2,I6,b1,x1,b3,Z4,v4⟩:=St.nth (α:=Int) y0 .hd I1 H5
 obtain ⟨G2,J6,M1⟩:=BH (α:=Int) y0 .hd x1
 obtain rfl:D2 = ⟨G2,0,none⟩:=by rw [M1] at b1; cases b1; rfl
 have U3:b3 = [vI x2]:=Z4; subst U3
 refine Ah 3 15 g0 rfl p0 (fun _=>Be 1 (t0.toNat) rfl b1 rfl Q1 x1) rfl<|AT 4 31 28672 g0 rfl p0 (AA rfl (v4 0 _ rfl)) rfl<|Ah 5 63 g0 rfl p0 (fun _=>Bt 3 rfl) rfl<|AT 6 127 32256 g0 rfl p0 (AA rfl ((y0.memA (.tl (.tl (.tl .hd)))) 3 _ rfl)) rfl<|Ah 7 255 g0 rfl p0 (fun _=>Bt 0 rfl) rfl<|AT 8 511 32256 g0 rfl p0 (AA rfl ((y0.memA (.tl (.tl .hd))) 0 _ rfl)) rfl ?_
 obtain ⟨y2,I5,h⟩:=bi h
 obtain ⟨R1,s2⟩:=idx_in I5
 have y4:=Ax h1_3 y0
 obtain ⟨s6,K6,V3,k4,c7,c5,x4⟩:=Bb y4 s2
 obtain ⟨c8,d8,g8,rfl,P7,Q7,R7⟩:=op_TUnit c5
 refine Ah 9 1023 g0 rfl p0 (fun _=>Be 6 (a3.toNat) rfl V3 rfl R1 k4) rfl<|Ah 10 2047 g0 rfl p0 (fun _=>Bt 1 rfl) rfl<|AT 11 4095 28672 g0 rfl p0 (AA rfl (x4 1 _ rfl)) rfl ?_
 obtain ⟨X7,v5,h⟩:=bi h
 refine Ah 12 8191 g0 rfl p0 (fun _=>FV.subc (i:=x2) (j:=y2.fPeople) rfl rfl v5) rfl<|Ah 13 16383 g0 rfl p0 (fun _=>Be 1 (t0.toNat) rfl b1 rfl Q1 x1) rfl ?_
 obtain ⟨U8,U5,h⟩:=bi h
 refine BD (i:=14) (readyD_ok g0 (by kernel_rfl)) (RO.acts (m' :=32767) (stepC_ok g0 (by kernel_rfl)) rfl rfl .plain (Acts.set (α:=Int) (i:=t0.toNat) U5 y0 M1 (fun _=>.hd) I1 rfl rfl rfl rfl rfl (by kernel_rfl)) (fun z8 ⟨d7,G0,B3,J1⟩=>?_))
 refine Bc (doneD_ok g0 (by kernel_rfl))<|Ak<|Bm 14 tb41_5 (by kernel_rfl) (by kernel_rfl) (by kernel_rfl) (fun j0 q0=>?_)
 refine Ah 0 1 j0 rfl q0 (fun _=>Ai rfl) rfl<|Ah 1 3 j0 rfl q0 (fun _=>Bt 2 rfl) rfl<|AT 2 7 28696 j0 rfl q0 (AA rfl ((G0.memA (.tl (.tl .hd))) 2 _ rfl)) rfl ?_
 obtain ⟨z2,J5,h⟩:=bi h
 obtain ⟨U1,K5⟩:=idx_in J5
 obtain ⟨E2,M6,d1,y1,c3,d5,z4⟩:=St.nth (α:=Int) G0 .hd J1 K5
 obtain ⟨H2,P6,P1⟩:=BH (α:=Int) G0 .hd y1
 obtain rfl:E2 = ⟨H2,0,none⟩:=by rw [P1] at d1; cases d1; rfl
 have W3:c3 = [vI z2]:=d5; subst W3
 refine Ah 3 15 j0 rfl q0 (fun _=>Be 1 (a4.toNat) rfl d1 rfl U1 y1) rfl<|AT 4 31 28672 j0 rfl q0 (AA rfl (z4 0 _ rfl)) rfl<|Ah 5 63 j0 rfl q0 (fun _=>Bt 3 rfl) rfl<|AT 6 127 32256 j0 rfl q0 (AA rfl ((G0.memA (.tl (.tl (.tl .hd)))) 3 _ rfl)) rfl<|Ah 7 255 j0 rfl q0 (fun _=>Bt 0 rfl) rfl<|AT 8 511 32256 j0 rfl q0 (AA rfl ((G0.memA (.tl (.tl .hd))) 0 _ rfl)) rfl ?_
 have B4:=Ax h1_3 G0
 obtain ⟨t6,Q6,X3,p4,g7,g5,A4⟩:=Bb B4 s2
 obtain ⟨j8,k8,p8,rfl,U7,V7,W7⟩:=op_TUnit g5
 refine Ah 9 1023 j0 rfl q0 (fun _=>Be 6 (a3.toNat) rfl X3 rfl R1 p4) rfl<|Ah 10 2047 j0 rfl q0 (fun _=>Bt 1 rfl) rfl<|AT 11 4095 28672 j0 rfl q0 (AA rfl (A4 1 _ rfl)) rfl ?_
 obtain ⟨Y7,x5,h⟩:=bi h
 refine Ah 12 8191 j0 rfl q0 (fun _=>BT (i:=z2) (j:=y2.fPeople) rfl rfl x5) rfl<|Ah 13 16383 j0 rfl q0 (fun _=>Be 1 (a4.toNat) rfl d1 rfl U1 y1) rfl ?_
 obtain ⟨g6,V5,h⟩:=bi h
 refine BD (i:=14) (readyD_ok j0 (by kernel_rfl)) (RO.acts (m' :=32767) (stepC_ok j0 (by kernel_rfl)) rfl rfl .plain (Acts.set (α:=Int) (i:=a4.toNat) V5 G0 P1 (fun _=>.hd) J1 rfl rfl rfl rfl rfl (by kernel_rfl)) (fun A8 ⟨j7,j1,C3,M3⟩=>?_))
 refine Bc (doneD_ok j0 (by kernel_rfl))<|Ae<|Ac rfl<|Ac rfl<|Ab (Bs rfl)<|AH 0 rfl<|AH 2 rfl<|BG .plain (Br (j:=2) (old:=[vI a2.fK,v0,v2_2,v2_3,v2_4]) (news:=[x0]) (new' :=[vI a2.fK,v0,x0,v2_3,v2_4]) j1 (.tl (.tl (.tl (.tl (.tl .hd))))) rfl rfl rfl (St.c1 (α:=Int) j1 .hd) rfl rfl (o1 (Bz (α:=Int) j1 .hd)) rfl) (fun B8 z0 C1=>?_)
 refine Aa<|Ae<|Ag rfl<|Aa<|Am rfl<|Ay (u:=.bool true) u1 Tryz.func41 rfl (.cons (.tmp rfl) .nil) rfl<|Ab (Ba rfl)<|Aa<|BC rfl<|Ao<|Ak<|Ae<|Ac rfl<|Ab (Bs rfl)<|AH 0 rfl<|AH 3 rfl<|Ab (AA rfl ((mem_from (z0.memA (.tl (.tl (.tl (.tl (.tl .hd)))))) 0) 3 _ rfl)) ?_
 have X1:=Ax h2_3 z0
 have I7:a2.fDone.length ≤ 281474976710656:=AZ X1
 refine Ab (Bj (xs:=a2.fDone) Tryz.underlying46 rfl X1)<|Ab (FV.geqN (i:=a2.fDone.length) (j:=200) rfl rfl)<|Aa<|AW rfl h (fun M2 h=>?_) (fun M2 h=>?_)
 refine Ae<|Ab (AV (vs:=[]) (u:=.agg #[vI 0,vN,vN,vN,vN]) evs_nil (fun w9=>by kernel_rfl))<|Bk [vI 0,vN,vN,vN,vN] z0 (.tl (.tl (.tl (.tl (.tl (.tl .hd)))))) (onesB rfl) (fun C8 A0 v7=>?_)
 refine Ag rfl<|Aa<|Am rfl ?_
 have Y1:=AL (α:=Int) A0 L
 have Z1:=AL (α:=TMove) A0 L
 refine Ay hb0 Tryz.func13 rfl (.cons (.many (cs:=[vI 0,vN,vN,vN,vN]) (by kernel_rfl) rfl (A0.memA (.tl (.tl (.tl (.tl (.tl (.tl .hd)))))))) (.cons (.tmp rfl) .nil)) rfl ?_
 cases h
 exact ⟨A0.ag,fun w9 hw9=>⟨vN,vN,vN,vN,rfl,A0.kd Y1 hw9,A0.kd Y1 hw9,A0.kd Z1 hw9,A0.kd Z1 hw9⟩⟩
 refine Ao<|Ak<|Bm 12 tb13_12 (by kernel_rfl) (by kernel_rfl) (by kernel_rfl) (fun d0 s0=>?_)
 refine Ah 0 1 d0 rfl s0 (fun _=>Ai rfl) rfl<|Ah 1 3 d0 rfl s0 (fun _=>Ai rfl) rfl<|Ah 2 7 d0 rfl s0 (fun _=>Ai rfl) rfl<|Ah 3 15 d0 rfl s0 (fun _=>Bs rfl) rfl<|Ah 4 31 d0 rfl s0 (fun _=>Bt 0 rfl) rfl<|Ah 5 63 d0 rfl s0 (fun _=>Bt 3 rfl) rfl<|AT 6 127 130816 d0 rfl s0 (AA rfl ((mem_from (z0.memA (.tl (.tl (.tl (.tl (.tl .hd)))))) 0) 3 _ rfl)) rfl<|AT 7 255 130816 d0 rfl s0 (AG rfl (z0.memA (.tl (.tl (.tl (.tl .hd)))))) rfl ?_
 obtain ⟨V8,b6,h⟩:=bi h
 refine RD.cl 8 511 d0 rfl .plain body42 rfl (e2 rfl rfl) (fun w9 hw9=>edit_more_api_Move_c n _ w9 (z0.hL hL hw9) a2.fDone (z0.km h2_3 hw9) (⟨a3,t0,a4⟩:TMove) b6) rfl (fun D8 I0 I3 ⟨q8,hu_,g1⟩=>?_)
 subst hu_
 obtain ⟨k3,D1⟩:=z0.agr I3
 refine Ah 9 1023 d0 rfl s0 (fun _=>Bs rfl) rfl<|Ah 10 2047 d0 rfl s0 (fun _=>Bt 0 rfl) rfl<|Ah 11 4095 d0 rfl s0 (fun _=>Bt 3 rfl) rfl<|RD.nw 12 8191 d0 rfl rfl .plain (Br (j:=3) (old:=[vI a2.fK,v0,x0,v2_3,v2_4]) (news:=[I0]) (new' :=[vI a2.fK,v0,x0,I0,v2_4]) k3 (.tl (.tl (.tl (.tl (.tl .hd))))) rfl rfl rfl (Rep.c1 g1) rfl rfl (o1 (AP g1)) rfl) (fun E8 p3 Y0=>?_)
 refine Ah 13 16383 d0 rfl s0 (fun _=>Bs rfl) rfl<|Ah 14 32767 d0 rfl s0 (fun _=>Bt 0 rfl) rfl<|Ah 15 65535 d0 rfl s0 (fun _=>Bt 4 rfl) rfl<|RD.nw 16 131071 d0 rfl rfl .plain (Br (j:=4) (old:=[vI a2.fK,v0,x0,I0,v2_4]) (news:=[vN]) (new' :=[vI a2.fK,v0,x0,I0,vN]) p3 (.tl (.tl (.tl (.tl (.tl .hd))))) rfl rfl rfl rfl rfl rfl (o1 rfl) rfl) (fun F8 W0 Z0=>?_)
 refine Bc (doneD_ok d0 (by kernel_rfl))<|Ae<|Ac rfl<|Ab (Bs rfl)<|AH 0 rfl<|Ab (AG rfl (mem_from (W0.memA (.tl (.tl (.tl (.tl (.tl .hd)))))) 0)) ?_
 have C4:=Aj g1 (Tt Y0 Z0)
 refine Bk [vI a2.fK,v0,x0,I0,vN] W0 (.tl (.tl (.tl (.tl (.tl (.tl .hd)))))) (o5 rfl (Bz (α:=Int) W0 (.tl .hd)) (Bz (α:=Int) W0 .hd) (AP C4) rfl) (fun G8 k1 s1=>?_)
 refine Ag rfl<|Aa<|Am rfl ?_
 have U4:=Tt z3 (Tt A3 (Tt B3 (Tt C3 (Tt C1 (Tt D1 (Tt Y0 (Tt Z0 s1)))))))
 have D4:=Al H1 U4
 have j5:=AQ (α:=Int) k1 (.tl .hd) D4 hL
 have X0:=Bf k1 (.tl .hd)
 have E1:=Bg k1 (.tl .hd)
 have k5:=Bh (α:=Int) (v:=v0) (xs:=A2) X0 L j5
 have V4:=Tt C1 (Tt D1 (Tt Y0 (Tt Z0 (Tt s1 E1))))
 have E4:=Al M3 V4
 have p5:=AQ (α:=Int) X0 .hd E4 hL
 have B0:=Bf X0 .hd
 have F1:=Bg X0 .hd
 have q5:=Bh (α:=Int) (v:=x0) (xs:=g6) B0 L p5
 have s5:=AL (α:=TMove) B0 L
 refine Ay hb0 Tryz.func13 rfl (.cons (.many (cs:=[vI a2.fK,v0,x0,I0,vN]) (by kernel_rfl) rfl (B0.memA (.tl (.tl (.tl (.tl .hd)))))) (.cons (.tmp rfl) .nil)) rfl ?_
 cases h
 have F4:=Aj k5 F1
 have W4:=Tt Y0 (Tt Z0 (Tt s1 (Tt E1 F1)))
 have G4:=Aj g1 W4
 exact ⟨B0.ag,fun w9 hw9=>⟨v0,x0,I0,vN,rfl,B0.kd F4 hw9,B0.kd q5 hw9,B0.kd G4 hw9,B0.kd s5 hw9⟩⟩
 refine Ae<|Ag rfl<|Aa<|Am rfl<|Ay (u:=.bool false) t1 Tryz.func71 rfl (.cons (.tmp rfl) .nil) rfl<|Ab (Ba rfl)<|Aa<|AY rfl<|Ae<|Ag rfl<|Aa<|Am rfl<|Ay (u:=.bool false) u1 Tryz.func41 rfl (.cons (.tmp rfl) .nil) rfl<|Ab (Ba rfl)<|Aa<|AY rfl<|Ae<|Ab (AV (vs:=[]) (u:=.agg #[vI 0,vN,vN,vN,vN]) evs_nil (fun w9=>by kernel_rfl))<|Bk [vI 0,vN,vN,vN,vN] J0 (.tl (.tl (.tl (.tl (.tl .hd))))) (onesB rfl) (fun H8 C0 x7=>?_)
 refine Ag rfl<|Aa<|Am rfl ?_
 have b2:=AL (α:=Int) C0 L
 have c2:=AL (α:=TMove) C0 L
 refine Ay hb0 Tryz.func13 rfl (.cons (.many (cs:=[vI 0,vN,vN,vN,vN]) (by kernel_rfl) rfl (C0.memA (.tl (.tl (.tl (.tl (.tl .hd))))))) (.cons (.tmp rfl) .nil)) rfl ?_
 cases h
 exact ⟨C0.ag,fun w9 hw9=>⟨vN,vN,vN,vN,rfl,C0.kd b2 hw9,C0.kd b2 hw9,C0.kd c2 hw9,C0.kd c2 hw9⟩⟩
 refine Ae<|Ag rfl<|Aa<|Am rfl<|Ay (u:=.bool false) t1 Tryz.func71 rfl (.cons (.tmp rfl) .nil) rfl<|Ab (Ba rfl)<|Aa<|AY rfl<|Ae<|Ag rfl<|Aa<|Am rfl<|Ay (u:=.bool false) u1 Tryz.func41 rfl (.cons (.tmp rfl) .nil) rfl<|Ab (Ba rfl)<|Aa<|AY rfl<|Ae<|Ab (AV (vs:=[]) (u:=.agg #[vI 0,vN,vN,vN,vN]) evs_nil (fun w9=>by kernel_rfl))<|Bk [vI 0,vN,vN,vN,vN] u0 (.tl (.tl (.tl (.tl .hd)))) (onesB rfl) (fun I8 D0 y7=>?_)
 refine Ag rfl<|Aa<|Am rfl ?_
 have d2:=AL (α:=Int) D0 L
 have g2:=AL (α:=TMove) D0 L
 refine Ay hb0 Tryz.func13 rfl (.cons (.many (cs:=[vI 0,vN,vN,vN,vN]) (by kernel_rfl) rfl (D0.memA (.tl (.tl (.tl (.tl .hd)))))) (.cons (.tmp rfl) .nil)) rfl ?_
 cases h
 exact ⟨D0.ag,fun w9 hw9=>⟨vN,vN,vN,vN,rfl,D0.kd d2 hw9,D0.kd d2 hw9,D0.kd g2 hw9,D0.kd g2 hw9⟩⟩
 intro B6 M0 h
 try dsimp only at h
 refine Aw<|Ac rfl<|Ab (BF (i:=a3) (j:=0) rfl rfl)<|Ac rfl<|Bi (s:=25) rfl h (fun P2 h=>?_) (fun P2 h=>?_)
 refine Af<|Af<|Af<|Af<|AU rfl rfl<|Ac rfl<|Af<|Af<|AU rfl rfl<|Ac rfl<|Af<|Af<|Af<|Af<|AU rfl rfl<|Ac rfl<|Af<|Af<|Af<|Af<|Af<|Af<|Af<|AU rfl rfl ?_
 refine Aa ?_
 obtain ⟨q3,D3⟩:=AD c0 (.one .hd (.one .hd (.one .hd .done)))
 exact M0 true _ _ ⟨rfl,rfl,rfl,rfl,rfl,rfl,trivial⟩ ⟨q3,D3⟩ h
 refine Ap (Ai rfl)<|BB 0 rfl<|Ap (AA rfl ((c0.memA (.tl (.tl (.tl .hd)))) 0 _ rfl))<|Ap (FV.geq (i:=a3) (j:=a0.fN) rfl rfl)<|AO rfl rfl<|Ac rfl<|Bi (s:=31) rfl h (fun Q2 h=>?_) (fun Q2 h=>?_)
 refine Af<|Af<|AU rfl rfl<|Ac rfl<|Af<|Af<|Af<|Af<|AU rfl rfl<|Ac rfl<|Af<|Af<|Af<|Af<|Af<|Af<|Af<|AU rfl rfl<|Aa ?_
 obtain ⟨s3,E3⟩:=AD c0 (.one .hd (.one .hd (.one .hd .done)))
 exact M0 true _ _ ⟨rfl,rfl,rfl,rfl,rfl,rfl,trivial⟩ ⟨s3,E3⟩ h
 refine Ap (Ai rfl)<|Ap (BF (i:=a4) (j:=0) rfl rfl)<|AO rfl rfl<|Ac rfl<|Bi (s:=35) rfl h (fun R2 h=>?_) (fun R2 h=>?_)
 refine Af<|Af<|Af<|Af<|AU rfl rfl<|Ac rfl<|Af<|Af<|Af<|Af<|Af<|Af<|Af<|AU rfl rfl<|Aa ?_
 obtain ⟨t3,F3⟩:=AD c0 (.one .hd (.one .hd (.one .hd .done)))
 exact M0 true _ _ ⟨rfl,rfl,rfl,rfl,rfl,rfl,trivial⟩ ⟨t3,F3⟩ h
 refine Ap (Ai rfl)<|BB 0 rfl<|Ap (AA rfl ((c0.memA (.tl .hd)) 0 _ rfl))<|Ap (FV.geq (i:=a4) (j:=a2.fK) rfl rfl)<|AO rfl rfl<|Ac rfl<|Bi (s:=41) rfl h (fun U2 h=>?_) (fun U2 h=>?_)
 refine Af<|Af<|Af<|Af<|Af<|Af<|Af<|AU rfl rfl<|Aa ?_
 obtain ⟨u3,G3⟩:=AD c0 (.one .hd (.one .hd (.one .hd .done)))
 exact M0 true _ _ ⟨rfl,rfl,rfl,rfl,rfl,rfl,trivial⟩ ⟨u3,G3⟩ h
 refine BB 1 rfl<|Ap (AA rfl ((c0.memA (.tl .hd)) 1 _ rfl))<|Ap (Ai rfl) ?_
 obtain ⟨A1,M5,h⟩:=bi h
 obtain ⟨g4,P5⟩:=idx_in M5
 have I4:=Ax h2_1 c0
 obtain ⟨u6,R6,Y3,q4,d3,t5,H4⟩:=Bb I4 P5
 have Z3:d3 = [vI A1]:=t5; subst Z3
 refine Ap (Be 1 (a3.toNat) rfl Y3 rfl g4 q4)<|Ap (AA rfl (H4 0 _ rfl))<|Ap (Ai rfl)<|Ap (FV.eql (i:=A1) (j:=a4) rfl rfl)<|AO rfl rfl<|Aa ?_
 obtain ⟨v3,H3⟩:=AD c0 (.one .hd (.one .hd (.one .hd .done)))
 exact M0 (decide (A1 = a4)) _ _ ⟨rfl,rfl,rfl,rfl,rfl,rfl,trivial⟩ ⟨v3,H3⟩ h
 refine Ae<|Ab (AV (vs:=[]) (u:=.agg #[vI 0,vN,vN,vN,vN]) evs_nil (fun w9=>by kernel_rfl))<|Ac rfl<|Bk [vI 0,vN,vN,vN,vN] c0 .hd (onesB rfl) (fun J8 E0 z7=>?_)
 refine Ag rfl<|Aa<|Am rfl ?_
 have j2:=AL (α:=Int) E0 L
 have k2:=AL (α:=TMove) E0 L
 refine Ay hb0 Tryz.func13 rfl (.cons (.many (cs:=[vI 0,vN,vN,vN,vN]) (by kernel_rfl) rfl (E0.memA .hd)) (.cons (.tmp rfl) .nil)) rfl ?_
 cases h
 exact ⟨E0.ag,fun w9 hw9=>⟨vN,vN,vN,vN,rfl,E0.kd j2 hw9,E0.kd j2 hw9,E0.kd k2 hw9,E0.kd k2 hw9⟩⟩
def tb51_3:List (Nat × Nat × Nat):=[(0,1024,1),(0,2048,1),(2,4096,2048),(4,8192,4096),(9,16384,9216),(16,32768,16384),(0,65536,1),(0,131072,1),(128,262144,131072),(256,524288,262144),(576,1048576,589824),(63,0,32772),(4095,8,1048576),(8191,16,0)]
def edit_last_api_Move_p (_n:Nat) (a0:List TMove):Option (TMove × (List TMove) × Bool):=
  (if a0.length = 0 then some ((⟨(0:Int),(0:Int),(0:Int)⟩:TMove),a0,false) else (idx a0 (((a0.length:Nat):Int) - 1)).bind fun b0=>(cut a0 0 (((a0.length:Nat):Int) - 1)).bind fun c0=>some (b0,c0,true))
theorem edit_last_api_Move_c (n:Nat) (L:List Nat) (w:World) (_hL:∀ b ∈ L,b < w.heap.size) (a0:List TMove) {v0_0:Value} (h0_0:Rep.R w L [v0_0] a0)  {r:TMove × (List TMove) × Bool} (h:edit_last_api_Move_p n a0 = some r) :
    Calls Tryz.prog 51 #[v0_0] w (Gives w fun w' u=>∃ v1_0:Value,u = .tuple #[.agg #[vI r.1.fUnit,vI r.1.fFrom,vI r.1.fTo],v1_0,.bool r.2.2]∧Rep.R w' L [v1_0] r.2.1):=by
 unfold edit_last_api_Move_p at h
 have hS0:=AK w
 refine AM Tryz.func51 rfl rfl rfl (fun _ cs0 hb0=>?_)
 refine Ae<|Az .plain rfl (AX [vI 0,vI 0,vI 0] hS0) (fun w2 b5 hS3 hT4=>?_)
 refine Ag rfl<|Ag rfl<|Aa<|Ak<|Ae<|Ac rfl ?_
 have hm7:=Ax h0_0 hS3
 have hl6:a0.length ≤ 281474976710656:=AZ hm7
 refine Ab (Bj (xs:=a0) Tryz.underlying46 rfl hm7)<|Ab (BR (i:=a0.length) (j:=0) rfl rfl)<|Aa<|AW rfl h (fun c8 h=>?_) (fun c8 h=>?_)
 refine Ae<|Ab (AG rfl (hS3.memA .hd))<|Ac rfl<|Bk [vI 0,vI 0,vI 0] hS3 .hd (onesB rfl) (fun w9 s0 R0=>?_)
 refine Ag rfl<|Ag rfl<|Aa<|Am rfl<|Ay hb0 Tryz.func51 rfl (.cons (.many (cs:=[vI 0,vI 0,vI 0]) (by kernel_rfl) rfl (s0.memA .hd)) (.cons (.tmp rfl) (.cons (.tmp rfl) .nil))) rfl ?_
 cases h
 exact ⟨s0.ag,fun w9 hw9=>⟨v0_0,rfl,s0.k0 h0_0 hw9⟩⟩
 refine Ao<|Ak<|Bm 11 tb51_3 (by kernel_rfl) (by kernel_rfl) (by kernel_rfl) (fun b0 d0=>?_)
 refine Ah 0 1 b0 rfl d0 (fun _=>Ai rfl) rfl<|Ah 1 3 b0 rfl d0 (fun _=>Ai rfl) rfl<|AT 2 7 14392 b0 rfl d0 (Bj (xs:=a0) Tryz.underlying46 rfl hm7) rfl<|Ah 3 15 b0 rfl d0 (fun _=>FV.subI (i:=((a0.length:Nat):Int)) (j:=1) rfl rfl (by omega)) rfl ?_
 obtain ⟨c0,H0,h⟩:=bi h
 obtain ⟨B0,I0⟩:=idx_in H0
 obtain ⟨M0,P0,A0,C0,Q0,G0,E0⟩:=Bb hm7 I0
 obtain rfl:=op_TMove G0
 refine Ah 4 31 b0 rfl d0 (fun _=>FV.idxAddr (m:=3) (i:=(((a0.length:Nat):Int) - 1).toNat) (by kernel_rfl) rfl A0 rfl B0 C0) rfl<|AT 5 63 14336 b0 rfl d0 (AG rfl E0) rfl<|Ah 6 127 b0 rfl d0 (fun _=>Ai rfl) rfl<|Ah 7 255 b0 rfl d0 (fun _=>Ai rfl) rfl ?_
 obtain ⟨K0,z0,h⟩:=bi h
 refine RD.meet (α:=Value) (fun g0=>[(2,vP b5),(3,vN),(4,.bool false),(20,g0)]) (fun g0 q0=>St w q0 [.cells b5 [vI c0.fUnit,vI c0.fFrom,vI c0.fTo] 62]∧Tr w2 [.cells b5 [vI 0,vI 0,vI 0] 62] q0 [.cells b5 [vI c0.fUnit,vI c0.fFrom,vI c0.fTo] 62]∧Rep.R q0 (bl [.cells b5 [vI c0.fUnit,vI c0.fFrom,vI c0.fTo] 62] ++ L) [g0] K0) 2 4095 ?_ ?_
 rintro g0 q0 ⟨t0,U0,F0⟩
 try dsimp only
 refine Ah 12 8191 b0 rfl d0 (fun _=>BP rfl) rfl<|Ah 13 16383 b0 rfl d0 (fun _=>BP rfl) rfl<|Bc (doneD_ok b0 (by kernel_rfl))<|Am rfl<|Ay hb0 Tryz.func51 rfl (.cons (.many (cs:=[vI c0.fUnit,vI c0.fFrom,vI c0.fTo]) (by kernel_rfl) rfl (t0.memA .hd)) (.cons (.tmp rfl) (.cons (.tmp rfl) .nil))) rfl ?_
 cases h
 exact ⟨t0.ag,fun w9 hw9=>⟨g0,rfl,t0.kd F0 hw9⟩⟩
 intro x0
 refine Bv [8,11] (readyD_ok b0 (by kernel_rfl)) ⟨?_,?_,trivial⟩
 refine BW (m' :=511) (stepC_ok b0 (by kernel_rfl)) rfl .plain rfl (Bj (xs:=a0) Tryz.underlying46 rfl hm7)<|Ah 9 1023 b0 rfl d0 (fun _=>FV.subI (i:=((a0.length:Nat):Int)) (j:=1) rfl rfl (by omega)) rfl<|RD.vE 10 2047 b0 rfl d0 .plain (FV.cutP (α:=TMove) z0 (by kernel_rfl) rfl hm7 rfl ⟨_,rfl⟩) rfl (fun v0 u0=>?_)
 refine RD.nw 11 4095 b0 rfl rfl .plain (Bq (news:=[vI c0.fUnit,vI c0.fFrom,vI c0.fTo]) hS3 .hd rfl rfl rfl rfl rfl rfl (onesB rfl)) (fun J0 j0 p0=>?_)
 have D0:=Aj u0 p0
 exact x0 v0 _ _ ⟨rfl,rfl,rfl,rfl,trivial⟩ ⟨j0,p0,D0⟩
 refine RO.now (m' :=2303) (stepC_ok b0 (by kernel_rfl)) rfl rfl .plain (Bq (news:=[vI c0.fUnit,vI c0.fFrom,vI c0.fTo]) hS3 .hd rfl rfl rfl rfl rfl rfl (onesB rfl)) (fun J0 j0 p0=>?_)
 have y0:=Ax h0_0 j0
 refine AT 8 2559 13824 b0 rfl d0 (Bj (xs:=a0) Tryz.underlying46 rfl y0) rfl<|Ah 9 3071 b0 rfl d0 (fun _=>FV.subI (i:=((a0.length:Nat):Int)) (j:=1) rfl rfl (by omega)) rfl<|RD.vE 10 4095 b0 rfl d0 .plain (FV.cutP (α:=TMove) z0 (by kernel_rfl) rfl y0 rfl ⟨_,rfl⟩) rfl (fun v0 u0=>?_)
 exact x0 v0 _ _ ⟨rfl,rfl,rfl,rfl,trivial⟩ ⟨j0,p0,u0⟩
def tb17_10:List (Nat × Nat × Nat):=[(0,4398046511104,512),(0,8796093022208,16),(0,17592186044416,1024),(4,35184372088832,17592186044416),(11,70368744177664,48378511622144),(16,140737488355328,70368744177664),(48,2199023255552,140737488355328)]
theorem body51:bodyB Tryz.prog 51 = true:=by kernel_rfl
def edit_Undo_p (n:Nat) (a0:TGraph) (a1:TRoll) (a2:TSession):Option (TSession × Int):=
  (edit_Check_p n a0 a1 a2).bind fun q0=>(if q0 = 0 then (edit_last_api_Move_p n a2.fDone).bind fun c0=>(if c0.2.2 = true then (if 200 ≤ a2.fUndone.length then some ((⟨(0:Int),([]:List Int),([]:List Int),([]:List TMove),([]:List TMove)⟩:TSession),(3:Int)) else (edit_turned_p n c0.1).bind fun b0=>(idx a2.fPlan b0.fUnit).bind fun x0=>(if x0 = b0.fFrom then (slices_Clone_api_Plan_int_p n a2.fPlan).bind fun k0=>(idx k0 b0.fUnit).bind fun B0=>(put k0 ((b0.fUnit.toNat:Nat):Int) b0.fTo).bind fun g0=>(slices_Contains_api_Plan_int_p n g0 b0.fFrom).bind fun z0=>(if z0 = true then (slices_Clone_int_int_p n a2.fTotals).bind fun p0=>(idx p0 b0.fFrom).bind fun u0=>(idx a1.fUnits b0.fUnit).bind fun d0=>(chk (u0 - d0.fPeople)).bind fun s0=>(put p0 ((b0.fFrom.toNat:Nat):Int) s0).bind fun j0=>(idx j0 b0.fTo).bind fun v0=>(chk (v0 + d0.fPeople)).bind fun t0=>(put j0 ((b0.fTo.toNat:Nat):Int) t0).bind fun y0=>(edit_more_api_Move_p n a2.fUndone c0.1).bind fun A0=>some ((⟨a2.fK,g0,y0,c0.2.1,A0⟩:TSession),(0:Int)) else some ((⟨(0:Int),([]:List Int),([]:List Int),([]:List TMove),([]:List TMove)⟩:TSession),(260:Int))) else some ((⟨(0:Int),([]:List Int),([]:List Int),([]:List TMove),([]:List TMove)⟩:TSession),(260:Int)))) else some ((⟨(0:Int),([]:List Int),([]:List Int),([]:List TMove),([]:List TMove)⟩:TSession),(4:Int))) else some ((⟨(0:Int),([]:List Int),([]:List Int),([]:List TMove),([]:List TMove)⟩:TSession),q0))
theorem edit_Undo_c (n:Nat) (L:List Nat) (w:World) (hL:∀ b ∈ L,b < w.heap.size) (a0:TGraph) {v0_1:Value} (h0_1:Rep.R w L [v0_1] a0.fEdges) (a1:TRoll) {v1_3:Value} (h1_3:Rep.R w L [v1_3] a1.fUnits) (a2:TSession) {v2_1:Value} (h2_1:Rep.R w L [v2_1] a2.fPlan) {v2_2:Value} (h2_2:Rep.R w L [v2_2] a2.fTotals) {v2_3:Value} (h2_3:Rep.R w L [v2_3] a2.fDone) {v2_4:Value} (h2_4:Rep.R w L [v2_4] a2.fUndone)  {r:TSession × Int} (h:edit_Undo_p n a0 a1 a2 = some r) :
    Calls Tryz.prog 17 #[.agg #[vI a0.fN,v0_1],.agg #[vI a1.fGroups,vI a1.fParties,vI a1.fLevels,v1_3],.agg #[vI a2.fK,v2_1,v2_2,v2_3,v2_4]] w (Gives w fun w' u=>∃ v0_1 v0_2 v0_3 v0_4:Value,u = .tuple #[.agg #[vI r.1.fK,v0_1,v0_2,v0_3,v0_4],vI r.2]∧Rep.R w' L [v0_1] r.1.fPlan∧Rep.R w' L [v0_2] r.1.fTotals∧Rep.R w' L [v0_3] r.1.fDone∧Rep.R w' L [v0_4] r.1.fUndone):=by
 unfold edit_Undo_p at h
 have hS0:=AK w
 refine AM Tryz.func17 rfl rfl rfl (fun _ cs0 hb0=>?_)
 refine Ae<|Az .plain rfl (AI hS0 rfl rfl) (fun w2 b5 hS3 hT4=>?_)
 refine Az .plain rfl (AI hS3 rfl rfl) (fun w7 U5 hS8 hT9=>?_)
 refine Az .plain rfl (AI hS8 rfl rfl) (fun D7 V5 b3 F6=>?_)
 refine Az .plain rfl (AX [vI 0,vN,vN,vN,vN] b3) (fun H7 W5 d0 G6=>?_)
 refine Ag rfl<|Aa<|Ak<|Ae<|Ab (AG rfl (d0.memA (.tl (.tl (.tl .hd)))))<|Ab (AG rfl (d0.memA (.tl (.tl .hd))))<|Ab (AG rfl (d0.memA (.tl .hd))) ?_
 obtain ⟨D2,z5,h⟩:=bi h
 refine BE (vI D2) body16 rfl (e3 rfl rfl rfl) (fun w9 hw9=>edit_Check_c n _ w9 (d0.hL0 hL hw9) a0 (d0.k0 h0_1 hw9) a1 (d0.k0 h1_3 hw9) a2 (d0.k0 h2_1 hw9) (d0.k0 h2_2 hw9) (d0.k0 h2_3 hw9) (d0.k0 h2_4 hw9) z5) rfl<|Ag rfl<|Aa<|Ae<|Ac rfl<|Ab (BO (i:=D2) (j:=0) rfl rfl)<|Aa<|BV rfl h (fun P2 h=>?_) (fun P2 h=>?_)
 refine Ao<|Ae<|Ab (AG rfl (d0.memA (.tl .hd))) ?_
 have d4:=Ax h2_1 d0
 obtain ⟨K5,s6,U4,_⟩:=BQ d4
 have q4:=Ax h2_2 d0
 obtain ⟨M5,t6,V4,_⟩:=BQ q4
 have s4:=Ax h2_3 d0
 obtain ⟨P5,u6,W4,_⟩:=BQ s4
 have t4:=Ax h2_4 d0
 obtain ⟨Q5,v6,X4,_⟩:=BQ t4
 refine Ab (AV (vs:=[.agg #[vI a2.fK,v2_1,v2_2,v2_3,v2_4]]) (u:=.agg #[vI a2.fK,v2_1,v2_2,v2_3,v2_4]) (e1 rfl) (fun w9=>by rw [U4,V4,W4,X4]; try kernel_rfl))<|Az .plain rfl (AI d0 rfl rfl) (fun Y7 A1 X0 M6=>?_)
 refine Ag rfl<|Aa<|Ae<|AH 3 rfl<|AS rfl ((X0.memA (.tl (.tl .hd))) 3 _ rfl) ?_
 obtain ⟨R0,B5,h⟩:=bi h
 refine Bx (fst:=[]) (cap:=[]) .plain body51 rfl (e1 rfl) (fun w9 hw9=>edit_last_api_Move_c n _ w9 (X0.hL hL hw9) a2.fDone (X0.km h2_3 hw9) B5) rfl (fun Z7 B7 y3 ⟨H0,hu_,z1⟩=>?_)
 subst hu_
 obtain ⟨g3,P6⟩:=X0.agr y3
 refine Ac rfl<|Ab (Au rfl rfl)<|Ab (Au rfl rfl)<|Ab (Au rfl rfl)<|Az .plain rfl (AX [vI 0,vI 0,vI 0] g3) (fun b8 X5 j3 s3=>?_)
 refine Bk [vI R0.1.fUnit,vI R0.1.fFrom,vI R0.1.fTo] j3 .hd (onesB rfl) (fun c8 D0 t3=>?_)
 refine Ag rfl<|Ag rfl<|Aa<|Ak<|AB<|Ae<|Ac rfl<|Ab (Ba rfl)<|Ag rfl<|Aa<|BS rfl h (fun Q2 h=>?_) (fun Q2 h=>?_)
 refine Ae<|AH 4 rfl<|Ab (AA rfl ((D0.memA (.tl (.tl (.tl .hd)))) 4 _ rfl)) ?_
 have X1:=Ax h2_4 D0
 have V6:a2.fUndone.length ≤ 281474976710656:=AZ X1
 refine Ab (Bj (xs:=a2.fUndone) Tryz.underlying46 rfl X1)<|Ab (FV.geqN (i:=a2.fUndone.length) (j:=200) rfl rfl)<|Ag rfl<|Aa<|AW rfl h (fun R2 h=>?_) (fun R2 h=>?_)
 refine Ae<|Ab (AV (vs:=[]) (u:=.agg #[vI 0,vN,vN,vN,vN]) evs_nil (fun w9=>by kernel_rfl))<|Bk [vI 0,vN,vN,vN,vN] D0 (.tl (.tl .hd)) (onesB rfl) (fun d8 E0 Q6=>?_)
 refine Ag rfl<|Aa<|Am rfl ?_
 have s2:=AL (α:=Int) E0 L
 have t2:=AL (α:=TMove) E0 L
 refine Ay hb0 Tryz.func17 rfl (.cons (.many (cs:=[vI 0,vN,vN,vN,vN]) (by kernel_rfl) rfl (E0.memA (.tl (.tl .hd)))) (.cons (.tmp rfl) .nil)) rfl ?_
 cases h
 exact ⟨E0.ag,fun w9 hw9=>⟨vN,vN,vN,vN,rfl,E0.kd s2 hw9,E0.kd s2 hw9,E0.kd t2 hw9,E0.kd t2 hw9⟩⟩
 refine Ak<|Bm 4 tb17_10 (by kernel_rfl) (by kernel_rfl) (by kernel_rfl) (fun p0 v0=>?_)
 refine Ah 0 1 p0 rfl v0 (fun _=>Ai rfl) rfl<|AT 1 3 112 p0 rfl v0 (AG rfl (D0.memA (.tl (.tl (.tl (.tl .hd)))))) rfl<|AT 2 7 120 p0 rfl v0 (AG rfl (D0.memA .hd)) rfl ?_
 obtain ⟨c0,C5,h⟩:=bi h
 refine RD.cq 3 15 112 (.agg #[vI c0.fUnit,vI c0.fFrom,vI c0.fTo]) p0 rfl v0 body50 rfl (e1 rfl) (fun w9 hw9=>edit_turned_c n _ w9 (D0.hL0 hL hw9) R0.1 C5) rfl<|BD (i:=4) (readyD_ok p0 (by kernel_rfl)) (RO.enterPT (m' :=31) (fst:=[]) (cap:=[]) (vs:=[vP A1,.agg #[vI a1.fGroups,vI a1.fParties,vI a1.fLevels,v1_3],.agg #[vI c0.fUnit,vI c0.fFrom,vI c0.fTo]]) (stepC_ok p0 (by kernel_rfl)) rfl rfl .plain body41 Tryz.func41 rfl rfl rfl rfl (e3 rfl rfl rfl) rfl (fun _ D6 s1 X6=>?_))
 refine Ae<|Az .plain rfl (AI D0 rfl rfl) (fun g8 Y5 k3 u3=>?_)
 refine Az .plain rfl (AI k3 rfl rfl) (fun j8 Z5 t0 v3=>?_)
 refine Ag rfl<|Aa<|Ak<|Ae<|Ac rfl<|AH 0 rfl<|AS rfl ((t0.memA .hd) 0 _ rfl)<|AH 1 rfl<|AS rfl ((t0.memA .hd) 1 _ rfl)<|AH 2 rfl<|AS rfl ((t0.memA .hd) 2 _ rfl)<|BL (fst:=[]) (cap:=[]) (vs:=[vP A1,vI c0.fUnit,vI c0.fFrom,vI c0.fTo]) .plain body71 Tryz.func71 rfl rfl rfl rfl (e4 rfl rfl rfl rfl) rfl (fun E6 t1 Y6=>?_)
 refine Ae<|Ag rfl<|Aa<|Ak<|Ae<|Ac rfl<|Ab (Bs rfl)<|AH 0 rfl<|AH 1 rfl<|Ab (AA rfl ((mem_from (t0.memA (.tl (.tl (.tl .hd)))) 0) 1 _ rfl))<|Ac rfl ?_
 obtain ⟨B2,p5,h⟩:=bi h
 obtain ⟨K3,q5⟩:=idx_in p5
 have v4:=Ax h2_1 t0
 obtain ⟨R5,x6,H3,Q3,Z2,K4,u4⟩:=Bb v4 q5
 have I3:Z2 = [vI B2]:=K4; subst I3
 refine Ab (Be 1 (c0.fUnit.toNat) rfl H3 rfl K3 Q3)<|AS rfl (u4 0 _ rfl)<|Ac rfl<|Ab (BO (i:=B2) (j:=c0.fFrom) rfl rfl)<|Aa<|BV rfl h (fun K2 h=>?_) (fun K2 h=>?_)
 refine Ao<|Ae<|Ac rfl<|Ab (Bs rfl)<|AH 0 rfl<|AH 1 rfl<|Ab (AA rfl ((mem_from (t0.memA (.tl (.tl (.tl .hd)))) 0) 1 _ rfl)) ?_
 obtain ⟨F5,v5,h⟩:=bi h
 refine Bx (fst:=[]) (cap:=[]) .plain body91 rfl (e1 rfl) (fun w9 hw9=>own_gives (b0:=w.heap.size) (slices_Clone_api_Plan_int_c n _ w9 (t0.hL hL hw9) a2.fPlan (t0.km h2_1 hw9) v5) hw9 (Nat.le_trans t0.ag.size hw9.size)) rfl (fun C7 u0 R6 ⟨q7,U2,Q4,v2,z3⟩=>?_)
 subst Q4
 have U0:=own_push t0 v2
 have p3:=own_tr t0 v2
 have F1:=Ar (cs:=U2) (xs:=(F5:List Int)) U0 L (own_cells z3)
 refine Ag rfl<|Aa<|Ae<|Ac rfl<|Ac rfl<|Ac rfl ?_
 obtain ⟨D5,Y4,h⟩:=bi h
 obtain ⟨J3,Z4⟩:=idx_in Y4
 obtain ⟨E2,b6,u1,U1,V2,B4,W6⟩:=St.nth (α:=Int) U0 .hd F1 Z4
 obtain ⟨H2,c6,J1⟩:=BH (α:=Int) U0 .hd U1
 obtain rfl:E2 = ⟨H2,0,none⟩:=by rw [J1] at u1; cases u1; rfl
 have C3:V2 = [vI D5]:=B4; subst C3
 refine Ab (Be 1 (c0.fUnit.toNat) rfl u1 rfl J3 U1) ?_
 obtain ⟨C2,s5,h⟩:=bi h
 refine RG.acts' .plain (Acts.set (α:=Int) (i:=c0.fUnit.toNat) s5 U0 J1 (fun _=>.hd) F1 rfl rfl rfl rfl rfl (by kernel_rfl)) (fun E7 ⟨y6,I0,q3,G1⟩=>?_)
 refine Aa<|Ak<|Ae<|Ac rfl<|Ac rfl ?_
 obtain ⟨G5,x5,h⟩:=bi h
 refine BE (.bool G5) body92 rfl (e2 rfl rfl) (fun w9 hw9=>slices_Contains_api_Plan_int_c n _ w9 (I0.hL0 hL hw9) C2 (Av (St.lend (α:=Int) (L:=L) I0 .hd G1 hL) hw9) c0.fFrom x5) rfl<|Ab (Ba rfl)<|Aa<|BS rfl h (fun M2 h=>?_) (fun M2 h=>?_)
 refine Ao<|Ae<|Ac rfl<|Ac rfl<|Ab (Bs rfl)<|AH 0 rfl<|AH 1 rfl<|BG .plain (Br (j:=1) (old:=[vI a2.fK,v2_1,v2_2,v2_3,v2_4]) (news:=[u0]) (new' :=[vI a2.fK,u0,v2_2,v2_3,v2_4]) I0 (.tl (.tl (.tl (.tl .hd)))) rfl rfl rfl (St.c1 (α:=Int) I0 .hd) rfl rfl (o1 (Bz (α:=Int) I0 .hd)) rfl) (fun F7 J0 B1=>?_)
 refine Aa<|Ae<|Ag rfl<|Aa<|Am rfl<|Ay (u:=.bool true) t1 Tryz.func71 rfl (.cons (.tmp rfl) .nil) rfl<|Ab (Ba rfl)<|Aa<|BC rfl<|Ao<|Ae<|Ac rfl<|Ab (Bs rfl)<|AH 0 rfl<|AH 2 rfl<|Ab (AA rfl ((mem_from (J0.memA (.tl (.tl (.tl (.tl .hd))))) 0) 2 _ rfl)) ?_
 obtain ⟨H5,y5,h⟩:=bi h
 refine Bx (fst:=[]) (cap:=[]) .plain body22 rfl (e1 rfl) (fun w9 hw9=>own_gives (b0:=w.heap.size) (slices_Clone_int_int_c n _ w9 (J0.hL hL hw9) a2.fTotals (J0.km h2_2 hw9) y5) hw9 (Nat.le_trans J0.ag.size hw9.size)) rfl (fun G7 x0 U6 ⟨s7,W2,R4,x2,A3⟩=>?_)
 subst R4
 have y0:=own_push J0 x2
 have C1:=own_tr J0 x2
 have H1:=Ar (cs:=W2) (xs:=(H5:List Int)) y0 L (own_cells A3)
 refine Ag rfl<|Aa<|Ak<|Bm 14 tb41_4 (by kernel_rfl) (by kernel_rfl) (by kernel_rfl) (fun g0 q0=>?_)
 refine Ah 0 1 g0 rfl q0 (fun _=>Ai rfl) rfl<|Ah 1 3 g0 rfl q0 (fun _=>Bt 1 rfl) rfl<|AT 2 7 28696 g0 rfl q0 (AA rfl ((y0.memA (.tl (.tl .hd))) 1 _ rfl)) rfl ?_
 obtain ⟨y2,c5,h⟩:=bi h
 obtain ⟨P1,d5⟩:=idx_in c5
 obtain ⟨F2,d6,Z0,v1,X2,C4,R3⟩:=St.nth (α:=Int) y0 .hd H1 d5
 obtain ⟨I2,g6,K1⟩:=BH (α:=Int) y0 .hd v1
 obtain rfl:F2 = ⟨I2,0,none⟩:=by rw [K1] at Z0; cases Z0; rfl
 have D3:X2 = [vI y2]:=C4; subst D3
 refine Ah 3 15 g0 rfl q0 (fun _=>Be 1 (c0.fFrom.toNat) rfl Z0 rfl P1 v1) rfl<|AT 4 31 28672 g0 rfl q0 (AA rfl (R3 0 _ rfl)) rfl<|Ah 5 63 g0 rfl q0 (fun _=>Bt 3 rfl) rfl<|AT 6 127 32256 g0 rfl q0 (AA rfl ((y0.memA (.tl (.tl (.tl .hd)))) 3 _ rfl)) rfl<|Ah 7 255 g0 rfl q0 (fun _=>Bt 0 rfl) rfl<|AT 8 511 32256 g0 rfl q0 (AA rfl ((y0.memA (.tl (.tl .hd))) 0 _ rfl)) rfl ?_
 obtain ⟨z2,g5,h⟩:=bi h
 obtain ⟨Q1,u2⟩:=idx_in g5
 have V3:=Ax h1_3 y0
 obtain ⟨I5,j6,E3,M3,z6,D4,U3⟩:=Bb V3 u2
 obtain ⟨t7,u7,v7,rfl,Z6,b7,c7⟩:=op_TUnit D4
 refine Ah 9 1023 g0 rfl q0 (fun _=>Be 6 (c0.fUnit.toNat) rfl E3 rfl Q1 M3) rfl<|Ah 10 2047 g0 rfl q0 (fun _=>Bt 1 rfl) rfl<|AT 11 4095 28672 g0 rfl q0 (AA rfl (U3 1 _ rfl)) rfl ?_
 obtain ⟨k7,M4,h⟩:=bi h
 refine Ah 12 8191 g0 rfl q0 (fun _=>FV.subc (i:=y2) (j:=z2.fPeople) rfl rfl M4) rfl<|Ah 13 16383 g0 rfl q0 (fun _=>Be 1 (c0.fFrom.toNat) rfl Z0 rfl P1 v1) rfl ?_
 obtain ⟨k8,t5,h⟩:=bi h
 refine BD (i:=14) (readyD_ok g0 (by kernel_rfl)) (RO.acts (m' :=32767) (stepC_ok g0 (by kernel_rfl)) rfl rfl .plain (Acts.set (α:=Int) (i:=c0.fFrom.toNat) t5 y0 K1 (fun _=>.hd) H1 rfl rfl rfl rfl rfl (by kernel_rfl)) (fun I7 ⟨A6,F0,D1,I1⟩=>?_))
 refine Bc (doneD_ok g0 (by kernel_rfl))<|Ak<|Bm 14 tb41_5 (by kernel_rfl) (by kernel_rfl) (by kernel_rfl) (fun j0 s0=>?_)
 refine Ah 0 1 j0 rfl s0 (fun _=>Ai rfl) rfl<|Ah 1 3 j0 rfl s0 (fun _=>Bt 2 rfl) rfl<|AT 2 7 28696 j0 rfl s0 (AA rfl ((F0.memA (.tl (.tl .hd))) 2 _ rfl)) rfl ?_
 obtain ⟨A2,j5,h⟩:=bi h
 obtain ⟨R1,k5⟩:=idx_in j5
 obtain ⟨G2,k6,b1,x1,Y2,E4,W3⟩:=St.nth (α:=Int) F0 .hd I1 k5
 obtain ⟨J2,p6,M1⟩:=BH (α:=Int) F0 .hd x1
 obtain rfl:G2 = ⟨J2,0,none⟩:=by rw [M1] at b1; cases b1; rfl
 have F3:Y2 = [vI A2]:=E4; subst F3
 refine Ah 3 15 j0 rfl s0 (fun _=>Be 1 (c0.fTo.toNat) rfl b1 rfl R1 x1) rfl<|AT 4 31 28672 j0 rfl s0 (AA rfl (W3 0 _ rfl)) rfl<|Ah 5 63 j0 rfl s0 (fun _=>Bt 3 rfl) rfl<|AT 6 127 32256 j0 rfl s0 (AA rfl ((F0.memA (.tl (.tl (.tl .hd)))) 3 _ rfl)) rfl<|Ah 7 255 j0 rfl s0 (fun _=>Bt 0 rfl) rfl<|AT 8 511 32256 j0 rfl s0 (AA rfl ((F0.memA (.tl (.tl .hd))) 0 _ rfl)) rfl ?_
 have Y3:=Ax h1_3 F0
 obtain ⟨J5,q6,G3,P3,B6,F4,X3⟩:=Bb Y3 u2
 obtain ⟨x7,y7,z7,rfl,d7,g7,j7⟩:=op_TUnit F4
 refine Ah 9 1023 j0 rfl s0 (fun _=>Be 6 (c0.fUnit.toNat) rfl G3 rfl Q1 P3) rfl<|Ah 10 2047 j0 rfl s0 (fun _=>Bt 1 rfl) rfl<|AT 11 4095 28672 j0 rfl s0 (AA rfl (X3 1 _ rfl)) rfl ?_
 obtain ⟨p7,P4,h⟩:=bi h
 refine Ah 12 8191 j0 rfl s0 (fun _=>BT (i:=A2) (j:=z2.fPeople) rfl rfl P4) rfl<|Ah 13 16383 j0 rfl s0 (fun _=>Be 1 (c0.fTo.toNat) rfl b1 rfl R1 x1) rfl ?_
 obtain ⟨E5,u5,h⟩:=bi h
 refine BD (i:=14) (readyD_ok j0 (by kernel_rfl)) (RO.acts (m' :=32767) (stepC_ok j0 (by kernel_rfl)) rfl rfl .plain (Acts.set (α:=Int) (i:=c0.fTo.toNat) u5 F0 M1 (fun _=>.hd) I1 rfl rfl rfl rfl rfl (by kernel_rfl)) (fun J7 ⟨C6,d1,E1,B3⟩=>?_))
 refine Bc (doneD_ok j0 (by kernel_rfl))<|Ae<|Ac rfl<|Ac rfl<|Ab (Bs rfl)<|AH 0 rfl<|AH 2 rfl<|BG .plain (Br (j:=2) (old:=[vI a2.fK,u0,v2_2,v2_3,v2_4]) (news:=[x0]) (new' :=[vI a2.fK,u0,x0,v2_3,v2_4]) d1 (.tl (.tl (.tl (.tl (.tl .hd))))) rfl rfl rfl (St.c1 (α:=Int) d1 .hd) rfl rfl (o1 (Bz (α:=Int) d1 .hd)) rfl) (fun K7 M0 j1=>?_)
 refine Aa<|Ae<|Ag rfl<|Aa<|Am rfl<|Ay (u:=.bool true) s1 Tryz.func41 rfl (.cons (.tmp rfl) .nil) rfl<|Ah 5 63 p0 rfl v0 (fun _=>Ba rfl) rfl<|Ah 6 127 p0 rfl v0 (fun _=>BP rfl) rfl<|Bc (doneD_ok p0 (by kernel_rfl))<|BC rfl<|Ao<|AF<|Ae<|Ac rfl<|Ac rfl<|Ac rfl<|AH 4 rfl<|Ab (AA rfl ((M0.memA (.tl (.tl (.tl (.tl (.tl (.tl (.tl .hd)))))))) 4 _ rfl))<|Ab (AG rfl (M0.memA (.tl (.tl (.tl (.tl .hd)))))) ?_
 obtain ⟨p8,A5,h⟩:=bi h
 refine Bx (fst:=[]) (cap:=[]) .plain body42 rfl (e2 rfl rfl) (fun w9 hw9=>edit_more_api_Move_c n _ w9 (M0.hL hL hw9) a2.fUndone (M0.km h2_4 hw9) R0.1 A5) rfl (fun M7 Q0 x3 ⟨A7,hu_,y1⟩=>?_)
 subst hu_
 obtain ⟨c3,k1⟩:=M0.agr x3
 refine Ab (Bs rfl)<|AH 0 rfl<|AH 3 rfl ?_
 have Y1:=Tt s3 (Tt t3 (Tt u3 (Tt v3 (Tt p3 (Tt q3 (Tt B1 (Tt C1 (Tt D1 (Tt E1 (Tt j1 k1))))))))))
 have V1:=Aj z1 Y1
 refine BG .plain (Br (j:=3) (old:=[vI a2.fK,u0,x0,v2_3,v2_4]) (news:=[H0]) (new' :=[vI a2.fK,u0,x0,H0,v2_4]) c3 (.tl (.tl (.tl (.tl (.tl .hd))))) rfl rfl rfl (Rep.c1 V1) rfl rfl (o1 (AP V1)) rfl) (fun P7 d3 K0=>?_)
 refine Ab (Bs rfl)<|AH 0 rfl<|AH 4 rfl ?_
 have W1:=Aj y1 K0
 refine BG .plain (Br (j:=4) (old:=[vI a2.fK,u0,x0,H0,v2_4]) (news:=[Q0]) (new' :=[vI a2.fK,u0,x0,H0,Q0]) d3 (.tl (.tl (.tl (.tl (.tl .hd))))) rfl rfl rfl (Rep.c1 W1) rfl rfl (o1 (AP W1)) rfl) (fun Q7 V0 P0=>?_)
 refine Aa<|Ae<|Ac rfl<|Ab (Bs rfl)<|AH 0 rfl<|Ab (AG rfl (mem_from (V0.memA (.tl (.tl (.tl (.tl (.tl .hd)))))) 0)) ?_
 have Z1:=Tt Y1 (Tt K0 P0)
 have Z3:=Aj z1 Z1
 have b4:=Aj y1 (Tt K0 P0)
 refine Bk [vI a2.fK,u0,x0,H0,Q0] V0 (.tl (.tl (.tl (.tl (.tl (.tl .hd)))))) (o5 rfl (Bz (α:=Int) V0 (.tl .hd)) (Bz (α:=Int) V0 .hd) (AP Z3) (AP b4)) (fun R7 g1 Y0=>?_)
 refine Ag rfl<|Aa<|Am rfl ?_
 have x4:=Tt B1 (Tt C1 (Tt D1 (Tt E1 (Tt j1 (Tt k1 (Tt K0 (Tt P0 Y0)))))))
 have c4:=Al G1 x4
 have G4:=AQ (α:=Int) g1 (.tl .hd) c4 hL
 have W0:=Bf g1 (.tl .hd)
 have p1:=Bg g1 (.tl .hd)
 have H4:=Bh (α:=Int) (v:=u0) (xs:=C2) W0 L G4
 have y4:=Tt j1 (Tt k1 (Tt K0 (Tt P0 (Tt Y0 p1))))
 have g4:=Al B3 y4
 have I4:=AQ (α:=Int) W0 .hd g4 hL
 have G0:=Bf W0 .hd
 have q1:=Bg W0 .hd
 have J4:=Bh (α:=Int) (v:=x0) (xs:=E5) G0 L I4
 refine Ay hb0 Tryz.func17 rfl (.cons (.many (cs:=[vI a2.fK,u0,x0,H0,Q0]) (by kernel_rfl) rfl (G0.memA (.tl (.tl (.tl (.tl .hd)))))) (.cons (.tmp rfl) .nil)) rfl ?_
 cases h
 have j4:=Aj H4 q1
 have z4:=Tt Z1 (Tt Y0 (Tt p1 q1))
 have k4:=Aj z1 z4
 have A4:=Tt K0 (Tt P0 (Tt Y0 (Tt p1 q1)))
 have p4:=Aj y1 A4
 exact ⟨G0.ag,fun w9 hw9=>⟨u0,x0,H0,Q0,rfl,G0.kd j4 hw9,G0.kd J4 hw9,G0.kd k4 hw9,G0.kd p4 hw9⟩⟩
 refine Ae<|Ag rfl<|Aa<|Am rfl<|Ay (u:=.bool false) t1 Tryz.func71 rfl (.cons (.tmp rfl) .nil) rfl<|Ab (Ba rfl)<|Aa<|AY rfl<|Ae<|Ag rfl<|Aa<|Am rfl<|Ay (u:=.bool false) s1 Tryz.func41 rfl (.cons (.tmp rfl) .nil) rfl<|Ah 5 63 p0 rfl v0 (fun _=>Ba rfl) rfl<|Ah 6 127 p0 rfl v0 (fun _=>BP rfl) rfl<|Bc (doneD_ok p0 (by kernel_rfl))<|AY rfl<|Ae<|Ab (AV (vs:=[]) (u:=.agg #[vI 0,vN,vN,vN,vN]) evs_nil (fun w9=>by kernel_rfl))<|Bk [vI 0,vN,vN,vN,vN] I0 (.tl (.tl (.tl (.tl (.tl .hd))))) (onesB rfl) (fun U7 z0 H6=>?_)
 refine Ag rfl<|Aa<|Am rfl ?_
 have b2:=AL (α:=Int) z0 L
 have c2:=AL (α:=TMove) z0 L
 refine Ay hb0 Tryz.func17 rfl (.cons (.many (cs:=[vI 0,vN,vN,vN,vN]) (by kernel_rfl) rfl (z0.memA (.tl (.tl (.tl (.tl (.tl .hd))))))) (.cons (.tmp rfl) .nil)) rfl ?_
 cases h
 exact ⟨z0.ag,fun w9 hw9=>⟨vN,vN,vN,vN,rfl,z0.kd b2 hw9,z0.kd b2 hw9,z0.kd c2 hw9,z0.kd c2 hw9⟩⟩
 refine Ae<|Ag rfl<|Aa<|Am rfl<|Ay (u:=.bool false) t1 Tryz.func71 rfl (.cons (.tmp rfl) .nil) rfl<|Ab (Ba rfl)<|Aa<|AY rfl<|Ae<|Ag rfl<|Aa<|Am rfl<|Ay (u:=.bool false) s1 Tryz.func41 rfl (.cons (.tmp rfl) .nil) rfl<|Ah 5 63 p0 rfl v0 (fun _=>Ba rfl) rfl<|Ah 6 127 p0 rfl v0 (fun _=>BP rfl) rfl<|Bc (doneD_ok p0 (by kernel_rfl))<|AY rfl<|Ae<|Ab (AV (vs:=[]) (u:=.agg #[vI 0,vN,vN,vN,vN]) evs_nil (fun w9=>by kernel_rfl))<|Bk [vI 0,vN,vN,vN,vN] t0 (.tl (.tl (.tl (.tl .hd)))) (onesB rfl) (fun V7 A0 I6=>?_)
 refine Ag rfl<|Aa<|Am rfl ?_
 have d2:=AL (α:=Int) A0 L
 have g2:=AL (α:=TMove) A0 L
 refine Ay hb0 Tryz.func17 rfl (.cons (.many (cs:=[vI 0,vN,vN,vN,vN]) (by kernel_rfl) rfl (A0.memA (.tl (.tl (.tl (.tl .hd)))))) (.cons (.tmp rfl) .nil)) rfl ?_
 cases h
 exact ⟨A0.ag,fun w9 hw9=>⟨vN,vN,vN,vN,rfl,A0.kd d2 hw9,A0.kd d2 hw9,A0.kd g2 hw9,A0.kd g2 hw9⟩⟩
 refine Ae<|Ab (AV (vs:=[]) (u:=.agg #[vI 0,vN,vN,vN,vN]) evs_nil (fun w9=>by kernel_rfl))<|Bk [vI 0,vN,vN,vN,vN] D0 (.tl (.tl .hd)) (onesB rfl) (fun W7 B0 J6=>?_)
 refine Ag rfl<|Aa<|Am rfl ?_
 have j2:=AL (α:=Int) B0 L
 have k2:=AL (α:=TMove) B0 L
 refine Ay hb0 Tryz.func17 rfl (.cons (.many (cs:=[vI 0,vN,vN,vN,vN]) (by kernel_rfl) rfl (B0.memA (.tl (.tl .hd)))) (.cons (.tmp rfl) .nil)) rfl ?_
 cases h
 exact ⟨B0.ag,fun w9 hw9=>⟨vN,vN,vN,vN,rfl,B0.kd j2 hw9,B0.kd j2 hw9,B0.kd k2 hw9,B0.kd k2 hw9⟩⟩
 refine Ae<|Ab (AV (vs:=[]) (u:=.agg #[vI 0,vN,vN,vN,vN]) evs_nil (fun w9=>by kernel_rfl))<|Ac rfl<|Bk [vI 0,vN,vN,vN,vN] d0 .hd (onesB rfl) (fun X7 C0 K6=>?_)
 refine Ag rfl<|Aa<|Am rfl ?_
 have p2:=AL (α:=Int) C0 L
 have q2:=AL (α:=TMove) C0 L
 refine Ay hb0 Tryz.func17 rfl (.cons (.many (cs:=[vI 0,vN,vN,vN,vN]) (by kernel_rfl) rfl (C0.memA .hd)) (.cons (.tmp rfl) .nil)) rfl ?_
 cases h
 exact ⟨C0.ag,fun w9 hw9=>⟨vN,vN,vN,vN,rfl,C0.kd p2 hw9,C0.kd p2 hw9,C0.kd q2 hw9,C0.kd q2 hw9⟩⟩
def tb45_6:List (Nat × Nat × Nat):=[(0,131072,1),(0,262144,32),(3,524288,393216),(4,1048576,524288),(0,2097152,2),(0,4194304,32),(48,8388608,6291456),(64,16777216,8388608),(136,33554432,17825792)]
def wardmoteref26_sameInts_l1 (_n:Nat) (a0:List Int) (a1:List Int) (b0:Nat → Option (Bool ⊕ Unit)):Nat → Option (Bool ⊕ Unit)
  | i32=>(if i32 < a0.length then (a0[i32]?).bind fun c0=>(a1[i32]?).bind fun d0=>(if c0 = d0 then b0 (i32 + 1) else some (.inl false)) else some (.inr ()))
def wardmoteref26_sameInts_p (n:Nat) (a0:List Int) (a1:List Int):Option Bool:=
  (if a0.length = a1.length then thn (loopF (wardmoteref26_sameInts_l1 n a0 a1) n 0) (fun _=>some true) else some false)
theorem wardmoteref26_sameInts_c (n:Nat) (L:List Nat) (w:World) (_hL:∀ b ∈ L,b < w.heap.size) (a0:List Int) {v0_0:Value} (h0_0:Rep.R w L [v0_0] a0) (a1:List Int) {v1_0:Value} (h1_0:Rep.R w L [v1_0] a1)  {r:Bool} (h:wardmoteref26_sameInts_p n a0 a1 = some r) :
    Calls Tryz.prog 45 #[v0_0,v1_0] w (Gives w fun _ u=>u = .bool r):=by
 unfold wardmoteref26_sameInts_p at h
 have hS0:=AK w
 refine AM Tryz.func45 rfl rfl rfl (fun _ cs0 hb0=>?_)
 refine Ae<|Ag rfl<|Aa<|Ak<|Ae<|Ac rfl ?_
 have hl1:a0.length ≤ 281474976710656:=AZ h0_0
 refine Ab (Bj (xs:=a0) Tryz.underlying42 rfl h0_0)<|Ac rfl ?_
 have hl2:a1.length ≤ 281474976710656:=AZ h1_0
 refine Ab (Bj (xs:=a1) Tryz.underlying42 rfl h1_0)<|Ab (FV.neqN (i:=a0.length) (j:=a1.length) rfl rfl)<|Aa<|BV rfl h (fun c3 h=>?_) (fun c3 h=>?_)
 refine Ao<|Ak<|Ae<|Ag rfl<|Aa<|AB ?_
 obtain ⟨X0,I0,j0⟩:=thn_in h
 refine Bp (α:=Nat) (fun i32=>[(0,v0_0),(1,v1_0),(5,vI ((i32:Nat):Int))]) (fun i32 g0=>St w g0 []∧Tr w [] g0 []) (fun i32=>i32) 0 I0 ⟨rfl,rfl,rfl,trivial⟩ ⟨hS0,AN _ _⟩ ?_
 rintro U0 i32 g0 x0 ⟨d0,y0⟩ h
 unfold wardmoteref26_sameInts_l1 at h
 try dsimp only at h
 refine Ak<|Ae<|Ac rfl<|Ac rfl ?_
 have k0:=Ax h0_0 d0
 refine Ab (Bj (xs:=a0) Tryz.underlying42 rfl k0)<|Ab (BA (i:=i32) (j:=a0.length) rfl rfl)<|Aa<|AW rfl h (fun s0 h=>?_) (fun s0 h=>?_)
 refine Ao<|Ak<|AB<|Ak<|Bm 9 tb45_6 (by kernel_rfl) (by kernel_rfl) (by kernel_rfl) (fun b0 c0=>?_)
 refine Ah 0 1 b0 rfl c0 (fun _=>Ai rfl) rfl<|Ah 1 3 b0 rfl c0 (fun _=>Ai rfl) rfl ?_
 obtain ⟨p0,M0,h⟩:=bi h
 obtain ⟨Q0,V0,z0,D0,u0,J0,F0⟩:=Bb k0 M0
 have A0:u0 = [vI p0]:=J0; subst A0
 refine Ah 2 7 b0 rfl c0 (fun _=>Be 1 i32 rfl z0 rfl rfl D0) rfl<|AT 3 15 256 b0 rfl c0 (AA rfl (F0 0 _ rfl)) rfl<|Ah 4 31 b0 rfl c0 (fun _=>Ai rfl) rfl<|Ah 5 63 b0 rfl c0 (fun _=>Ai rfl) rfl ?_
 obtain ⟨q0,P0,h⟩:=bi h
 have H0:=Ax h1_0 d0
 obtain ⟨R0,W0,B0,E0,v0,K0,G0⟩:=Bb H0 P0
 have C0:v0 = [vI q0]:=K0; subst C0
 refine Ah 6 127 b0 rfl c0 (fun _=>Be 1 i32 rfl B0 rfl rfl E0) rfl<|AT 7 255 256 b0 rfl c0 (AA rfl (G0 0 _ rfl)) rfl<|Ah 8 511 b0 rfl c0 (fun _=>BO (i:=p0) (j:=q0) rfl rfl) rfl<|Bc (doneD_ok b0 (by kernel_rfl))<|BV rfl h (fun t0 h=>?_) (fun t0 h=>?_)
 refine Ao<|AF<|Aw<|Ac rfl<|Ab (Bu (i:=i32) (j:=1) rfl rfl (by omega))<|Ag rfl<|Aa ?_
 exact x0 (i32 + 1) _ _ ⟨rfl,rfl,rfl,trivial⟩ ⟨d0,y0⟩ h
 refine Ae<|Ag rfl<|Aa ?_
 have h:=thn_inl h j0
 refine Am rfl<|AJ hb0 Tryz.func45 rfl rfl ?_
 cases h
 exact d0.gv
 refine Bd rfl ?_
 have h:=thn_inr h j0
 try dsimp only at h
 refine Ae<|Ag rfl<|Aa<|Am rfl<|AJ hb0 Tryz.func45 rfl rfl ?_
 cases h
 exact d0.gv
 refine Ae<|Ag rfl<|Aa<|Am rfl<|AJ hb0 Tryz.func45 rfl rfl ?_
 cases h
 exact hS0.gv
def tb46_6:List (Nat × Nat × Nat):=[(0,131072,1),(0,262144,32),(3,524288,393216),(4,1048576,524288),(0,2097152,2),(0,4194304,32),(48,8388608,6291456),(64,16777216,8388608),(136,33554432,17825792)]
theorem ex_TMove {a b:TMove} (h0:a.fUnit = b.fUnit) (h1:a.fFrom = b.fFrom) (h2:a.fTo = b.fTo):a = b:=congr (congr (congrArg TMove.mk h0) h1) h2
theorem eqlD_62 (a b:TMove) (w9:World):(do eqGuard .eql 62 (.tmp 0) (.tmp 0) (.agg #[vI a.fUnit,vI a.fFrom,vI a.fTo]) (.agg #[vI b.fUnit,vI b.fFrom,vI b.fTo]); binOp .eql 62 (.agg #[vI a.fUnit,vI a.fFrom,vI a.fTo]) (.agg #[vI b.fUnit,vI b.fFrom,vI b.fTo]):Sem Value).run Tryz.prog w9 = .ok (.bool (decide (a = b))) w9:=
  eqAgg (ks:=[.int .i64,.int .i64,.int .i64]) (xs:=[vI a.fUnit,vI a.fFrom,vI a.fTo]) (ys:=[vI b.fUnit,vI b.fFrom,vI b.fTo]) (by kernel_rfl) (by kernel_rfl) (by kernel_rfl) rfl rfl ⟨fun h=>by
    simp only [allEq,veq,Bool.and_eq_true,beq_iff_eq,and_true] at h
    obtain ⟨h0,h1,h2⟩:=h
    exact ex_TMove h0 h1 h2,fun h=>by subst h; simp [allEq,veq]⟩ _ _ w9
def wardmoteref26_sameMoves_l1 (_n:Nat) (a0:List TMove) (a1:List TMove) (c0:Nat → Option (Bool ⊕ Unit)):Nat → Option (Bool ⊕ Unit)
  | b0=>(if b0 < a0.length then (a0[b0]?).bind fun d0=>(a1[b0]?).bind fun g0=>(if d0 = g0 then c0 (b0 + 1) else some (.inl false)) else some (.inr ()))
def wardmoteref26_sameMoves_p (n:Nat) (a0:List TMove) (a1:List TMove):Option Bool:=
  (if a0.length = a1.length then thn (loopF (wardmoteref26_sameMoves_l1 n a0 a1) n 0) (fun _=>some true) else some false)
theorem wardmoteref26_sameMoves_c (n:Nat) (L:List Nat) (w:World) (_hL:∀ b ∈ L,b < w.heap.size) (a0:List TMove) {v0_0:Value} (h0_0:Rep.R w L [v0_0] a0) (a1:List TMove) {v1_0:Value} (h1_0:Rep.R w L [v1_0] a1)  {r:Bool} (h:wardmoteref26_sameMoves_p n a0 a1 = some r) :
    Calls Tryz.prog 46 #[v0_0,v1_0] w (Gives w fun _ u=>u = .bool r):=by
 unfold wardmoteref26_sameMoves_p at h
 have hS0:=AK w
 refine AM Tryz.func46 rfl rfl rfl (fun _ cs0 hb0=>?_)
 refine Ae<|Ag rfl<|Aa<|Ak<|Ae<|Ac rfl ?_
 have hl1:a0.length ≤ 281474976710656:=AZ h0_0
 refine Ab (Bj (xs:=a0) Tryz.underlying46 rfl h0_0)<|Ac rfl ?_
 have hl2:a1.length ≤ 281474976710656:=AZ h1_0
 refine Ab (Bj (xs:=a1) Tryz.underlying46 rfl h1_0)<|Ab (FV.neqN (i:=a0.length) (j:=a1.length) rfl rfl)<|Aa<|BV rfl h (fun c3 h=>?_) (fun c3 h=>?_)
 refine Ao<|Ak<|Ae<|Ag rfl<|Aa<|AB ?_
 obtain ⟨W0,F0,q0⟩:=thn_in h
 refine Bp (α:=Nat) (fun b0=>[(0,v0_0),(1,v1_0),(5,vI ((b0:Nat):Int))]) (fun b0 p0=>St w p0 []∧Tr w [] p0 []) (fun b0=>b0) 0 F0 ⟨rfl,rfl,rfl,trivial⟩ ⟨hS0,AN _ _⟩ ?_
 rintro P0 b0 p0 v0 ⟨g0,x0⟩ h
 unfold wardmoteref26_sameMoves_l1 at h
 try dsimp only at h
 refine Ak<|Ae<|Ac rfl<|Ac rfl ?_
 have s0:=Ax h0_0 g0
 refine Ab (Bj (xs:=a0) Tryz.underlying46 rfl s0)<|Ab (BA (i:=b0) (j:=a0.length) rfl rfl)<|Aa<|AW rfl h (fun t0 h=>?_) (fun t0 h=>?_)
 refine Ao<|Ak<|AB<|Ak<|Bm 9 tb46_6 (by kernel_rfl) (by kernel_rfl) (by kernel_rfl) (fun c0 d0=>?_)
 refine Ah 0 1 c0 rfl d0 (fun _=>Ai rfl) rfl<|Ah 1 3 c0 rfl d0 (fun _=>Ai rfl) rfl ?_
 obtain ⟨j0,I0,h⟩:=bi h
 obtain ⟨K0,Q0,y0,A0,U0,G0,C0⟩:=Bb s0 I0
 obtain rfl:=op_TMove G0
 refine Ah 2 7 c0 rfl d0 (fun _=>Be 3 b0 rfl y0 rfl rfl A0) rfl<|AT 3 15 256 c0 rfl d0 (AG rfl C0) rfl<|Ah 4 31 c0 rfl d0 (fun _=>Ai rfl) rfl<|Ah 5 63 c0 rfl d0 (fun _=>Ai rfl) rfl ?_
 obtain ⟨k0,J0,h⟩:=bi h
 have E0:=Ax h1_0 g0
 obtain ⟨M0,R0,z0,B0,V0,H0,D0⟩:=Bb E0 J0
 obtain rfl:=op_TMove H0
 refine Ah 6 127 c0 rfl d0 (fun _=>Be 3 b0 rfl z0 rfl rfl B0) rfl<|AT 7 255 256 c0 rfl d0 (AG rfl D0) rfl<|Ah 8 511 c0 rfl d0 (fun _=>FV.neqV (xs:=([vI j0.fUnit,vI j0.fFrom,vI j0.fTo]).toArray) (ys:=([vI k0.fUnit,vI k0.fFrom,vI k0.fTo]).toArray) rfl rfl (by kernel_rfl) (eqlD_62 j0 k0)) rfl<|Bc (doneD_ok c0 (by kernel_rfl))<|BV rfl h (fun u0 h=>?_) (fun u0 h=>?_)
 refine Ao<|AF<|Aw<|Ac rfl<|Ab (Bu (i:=b0) (j:=1) rfl rfl (by omega))<|Ag rfl<|Aa ?_
 exact v0 (b0 + 1) _ _ ⟨rfl,rfl,rfl,trivial⟩ ⟨g0,x0⟩ h
 refine Ae<|Ag rfl<|Aa ?_
 have h:=thn_inl h q0
 refine Am rfl<|AJ hb0 Tryz.func46 rfl rfl ?_
 cases h
 exact g0.gv
 refine Bd rfl ?_
 have h:=thn_inr h q0
 try dsimp only at h
 refine Ae<|Ag rfl<|Aa<|Am rfl<|AJ hb0 Tryz.func46 rfl rfl ?_
 cases h
 exact g0.gv
 refine Ae<|Ag rfl<|Aa<|Am rfl<|AJ hb0 Tryz.func46 rfl rfl ?_
 cases h
 exact hS0.gv
theorem body45:bodyB Tryz.prog 45 = true:=by kernel_rfl
theorem body46:bodyB Tryz.prog 46 = true:=by kernel_rfl
def wardmoteref26_Same_p (n:Nat) (a0:TSession) (a1:TSession):Option Bool:=
  (if a0.fK = a1.fK then (wardmoteref26_sameInts_p n a0.fPlan a1.fPlan).bind fun b0=>(if b0 = true then (wardmoteref26_sameInts_p n a0.fTotals a1.fTotals).bind fun c0=>(if c0 = true then (wardmoteref26_sameMoves_p n a0.fDone a1.fDone).bind fun d0=>(if d0 = true then (wardmoteref26_sameMoves_p n a0.fUndone a1.fUndone).bind fun g0=>some g0 else some false) else some false) else some false) else some false)
theorem wardmoteref26_Same_c (n:Nat) (L:List Nat) (w:World) (hL:∀ b ∈ L,b < w.heap.size) (a0:TSession) {v0_1:Value} (h0_1:Rep.R w L [v0_1] a0.fPlan) {v0_2:Value} (h0_2:Rep.R w L [v0_2] a0.fTotals) {v0_3:Value} (h0_3:Rep.R w L [v0_3] a0.fDone) {v0_4:Value} (h0_4:Rep.R w L [v0_4] a0.fUndone) (a1:TSession) {v1_1:Value} (h1_1:Rep.R w L [v1_1] a1.fPlan) {v1_2:Value} (h1_2:Rep.R w L [v1_2] a1.fTotals) {v1_3:Value} (h1_3:Rep.R w L [v1_3] a1.fDone) {v1_4:Value} (h1_4:Rep.R w L [v1_4] a1.fUndone)  {r:Bool} (h:wardmoteref26_Same_p n a0 a1 = some r) :
    Calls Tryz.prog 15 #[.agg #[vI a0.fK,v0_1,v0_2,v0_3,v0_4],.agg #[vI a1.fK,v1_1,v1_2,v1_3,v1_4]] w (Gives w fun _ u=>u = .bool r):=by
 unfold wardmoteref26_Same_p at h
 have hS0:=AK w
 refine AM Tryz.func15 rfl rfl rfl (fun _ cs0 hb0=>?_)
 refine Ae<|Az .plain rfl (AI hS0 rfl rfl) (fun w2 b5 hS3 hT4=>?_)
 refine Az .plain rfl (AI hS3 rfl rfl) (fun w7 y0 hS8 hT9=>?_)
 refine Ag rfl<|Aa<|Ak<|Aw<|AH 0 rfl<|AS rfl ((hS8.memA (.tl .hd)) 0 _ rfl)<|AH 0 rfl<|AS rfl ((hS8.memA .hd) 0 _ rfl)<|Ab (FV.eql (i:=a0.fK) (j:=a1.fK) rfl rfl)<|Ac rfl<|Bi (s:=10) rfl h (fun b0 h=>?_) (fun b0 h=>?_)
 refine BB 1 rfl<|Ap (AA rfl ((hS8.memA (.tl .hd)) 1 _ rfl))<|BB 1 rfl<|Ap (AA rfl ((hS8.memA .hd) 1 _ rfl)) ?_
 obtain ⟨t0,j0,h⟩:=bi h
 refine RG.callq' (v:=.bool t0) (fst:=[]) (cap:=[]) (.yes rfl rfl) body45 rfl (e2 rfl rfl) (fun w9 hw9=>wardmoteref26_sameInts_c n _ w9 (hS8.hL0 hL hw9) a0.fPlan (hS8.k0 h0_1 hw9) a1.fPlan (hS8.k0 h1_1 hw9) j0) rfl<|AU rfl rfl<|Ac rfl<|RG.ifb (s:=17) rfl h (fun c0 h=>?_) (fun c0 h=>?_)
 refine BB 2 rfl<|Ap (AA rfl ((hS8.memA (.tl .hd)) 2 _ rfl))<|BB 2 rfl<|Ap (AA rfl ((hS8.memA .hd) 2 _ rfl)) ?_
 obtain ⟨u0,p0,h⟩:=bi h
 refine RG.callq' (v:=.bool u0) (fst:=[]) (cap:=[]) (.yes rfl rfl) body45 rfl (e2 rfl rfl) (fun w9 hw9=>wardmoteref26_sameInts_c n _ w9 (hS8.hL0 hL hw9) a0.fTotals (hS8.k0 h0_2 hw9) a1.fTotals (hS8.k0 h1_2 hw9) p0) rfl<|AU rfl rfl<|Ac rfl<|RG.ifb (s:=24) rfl h (fun d0 h=>?_) (fun d0 h=>?_)
 refine BB 3 rfl<|Ap (AA rfl ((hS8.memA (.tl .hd)) 3 _ rfl))<|BB 3 rfl<|Ap (AA rfl ((hS8.memA .hd) 3 _ rfl)) ?_
 obtain ⟨v0,q0,h⟩:=bi h
 refine RG.callq' (v:=.bool v0) (fst:=[]) (cap:=[]) (.yes rfl rfl) body46 rfl (e2 rfl rfl) (fun w9 hw9=>wardmoteref26_sameMoves_c n _ w9 (hS8.hL0 hL hw9) a0.fDone (hS8.k0 h0_3 hw9) a1.fDone (hS8.k0 h1_3 hw9) q0) rfl<|AU rfl rfl<|Ac rfl<|RG.ifb (s:=31) rfl h (fun g0 h=>?_) (fun g0 h=>?_)
 refine BB 4 rfl<|Ap (AA rfl ((hS8.memA (.tl .hd)) 4 _ rfl))<|BB 4 rfl<|Ap (AA rfl ((hS8.memA .hd) 4 _ rfl)) ?_
 obtain ⟨x0,s0,h⟩:=bi h
 refine RG.callq' (v:=.bool x0) (fst:=[]) (cap:=[]) (.yes rfl rfl) body46 rfl (e2 rfl rfl) (fun w9 hw9=>wardmoteref26_sameMoves_c n _ w9 (hS8.hL0 hL hw9) a0.fUndone (hS8.k0 h0_4 hw9) a1.fUndone (hS8.k0 h1_4 hw9) s0) rfl<|AU rfl rfl<|Ag rfl<|Aa<|Am rfl<|AJ hb0 Tryz.func15 rfl rfl ?_
 cases h
 exact hS8.gv
 refine Af<|Af<|Af<|Af<|Af<|AO rfl rfl<|Ag rfl<|Aa<|Am rfl<|AJ hb0 Tryz.func15 rfl rfl ?_
 cases h
 exact hS8.gv
 refine Af<|Af<|Af<|Af<|Af<|AO rfl rfl<|Ac rfl<|Af<|Af<|Af<|Af<|Af<|AO rfl rfl<|Ag rfl<|Aa<|Am rfl<|AJ hb0 Tryz.func15 rfl rfl ?_
 cases h
 exact hS8.gv
 refine Af<|Af<|Af<|Af<|Af<|AO rfl rfl<|Ac rfl<|Af<|Af<|Af<|Af<|Af<|AO rfl rfl<|Ac rfl<|Af<|Af<|Af<|Af<|Af<|AO rfl rfl<|Ag rfl<|Aa<|Am rfl<|AJ hb0 Tryz.func15 rfl rfl ?_
 cases h
 exact hS8.gv
 refine Af<|Af<|Af<|Af<|Af<|AO rfl rfl<|Ac rfl<|Af<|Af<|Af<|Af<|Af<|AO rfl rfl<|Ac rfl<|Af<|Af<|Af<|Af<|Af<|AO rfl rfl<|Ac rfl<|Af<|Af<|Af ?_
 refine Af<|Af<|AO rfl rfl<|Ag rfl<|Aa<|Am rfl<|AJ hb0 Tryz.func15 rfl rfl ?_
 cases h
 exact hS8.gv
theorem body15:bodyB Tryz.prog 15 = true:=by kernel_rfl
def wardmotelaw26_is_1_p (n:Nat) (a0:TSession) (a1:Int) (a2:TSession):Option Bool:=
  (wardmoteref26_Same_p n a0 a2).bind fun y6=>(if y6 = true then some (decide (a1 = 0)) else some false)
theorem wardmotelaw26_is_1_c (n:Nat) (L:List Nat) (w:World) (hL:∀ b ∈ L,b < w.heap.size) (a0:TSession) {v0_1:Value} (h0_1:Rep.R w L [v0_1] a0.fPlan) {v0_2:Value} (h0_2:Rep.R w L [v0_2] a0.fTotals) {v0_3:Value} (h0_3:Rep.R w L [v0_3] a0.fDone) {v0_4:Value} (h0_4:Rep.R w L [v0_4] a0.fUndone) (a1:Int) (a2:TSession) {v2_1:Value} (h2_1:Rep.R w L [v2_1] a2.fPlan) {v2_2:Value} (h2_2:Rep.R w L [v2_2] a2.fTotals) {v2_3:Value} (h2_3:Rep.R w L [v2_3] a2.fDone) {v2_4:Value} (h2_4:Rep.R w L [v2_4] a2.fUndone) {p2:Nat} (m2:∀ j9 v9,([vI a2.fK,v2_1,v2_2,v2_3,v2_4]:List Value)[j9]? = some v9 → w.cell? ((⟨p2,0,none⟩:Addr).add j9) = some v9)  {r:Bool} (h:wardmotelaw26_is_1_p n a0 a1 a2 = some r) :
    Calls Tryz.prog 53 #[.agg #[vI a0.fK,v0_1,v0_2,v0_3,v0_4],vI a1,.pointer (some ⟨p2,0,none⟩)] w (Gives w fun _ u=>u = .bool r):=by
 unfold wardmotelaw26_is_1_p at h
 have hS0:=AK w
 refine AM Tryz.func53 rfl rfl rfl (fun _ cs0 hb0=>?_)
 refine Ae<|Az .plain rfl (AI hS0 rfl rfl) (fun w2 b5 hS3 hT4=>?_)
 refine Ag rfl<|Aa<|Ae<|Ab (AG rfl (hS3.memA .hd))<|Ab (AG rfl (fun j9 v9 h9=>hS3.ag.cell0 (m2 j9 v9 h9))) ?_
 obtain ⟨y6,hy6,h⟩:=bi h
 refine BE (.bool y6) body15 rfl (e2 rfl rfl) (fun w9 hw9=>wardmoteref26_Same_c n _ w9 (hS3.hL0 hL hw9) a0 (hS3.k0 h0_1 hw9) (hS3.k0 h0_2 hw9) (hS3.k0 h0_3 hw9) (hS3.k0 h0_4 hw9) a2 (hS3.k0 h2_1 hw9) (hS3.k0 h2_2 hw9) (hS3.k0 h2_3 hw9) (hS3.k0 h2_4 hw9) hy6) rfl<|Ac rfl<|RG.ifb (s:=9) rfl h (fun c7 h=>?_) (fun c7 h=>?_)
 refine Ap (Ai rfl)<|Ap (FV.eql (i:=a1) (j:=0) rfl rfl)<|AU rfl rfl<|Ag rfl<|Aa<|Am rfl<|AJ hb0 Tryz.func53 rfl rfl ?_
 cases h
 exact hS3.gv
 refine Af<|Af<|AO rfl rfl<|Ag rfl<|Aa<|Am rfl<|AJ hb0 Tryz.func53 rfl rfl ?_
 cases h
 exact hS3.gv
theorem wardmotelaw26_is_c (n:Nat) (L:List Nat) (w:World) (_hL:∀ b ∈ L,b < w.heap.size) (a0:TSession) {v0_1:Value} (h0_1:Rep.R w L [v0_1] a0.fPlan) {v0_2:Value} (h0_2:Rep.R w L [v0_2] a0.fTotals) {v0_3:Value} (h0_3:Rep.R w L [v0_3] a0.fDone) {v0_4:Value} (h0_4:Rep.R w L [v0_4] a0.fUndone)  :
    Calls Tryz.prog 19 #[.agg #[vI a0.fK,v0_1,v0_2,v0_3,v0_4]] w (Gives w fun w' u=>∃ b5:Nat,u = .func (.func 53) #[] #[vP b5]∧St w w' [.cells b5 [vI a0.fK,v0_1,v0_2,v0_3,v0_4] 48]):=by
 have hS0:=AK w
 refine AM Tryz.func19 rfl rfl rfl (fun _ cs0 hb0=>?_)
 refine Ae<|Az .plain rfl (AI hS0 rfl rfl) (fun w2 b5 hS3 hT4=>?_)
 refine Ag rfl<|Aa<|Ae<|Ab (FV.makeFunc (vs:=[]) (us:=[vP b5]) evs_nil (e1 rfl))<|Ag rfl<|Aa<|Am rfl<|Ay (u:=.func (.func 53) #[] #[vP b5]) hb0 Tryz.func19 rfl (.cons (.tmp rfl) .nil) rfl ?_
 exact ⟨hS3.ag,fun w9 hw9=>⟨b5,rfl,hS3.agree hw9⟩⟩
end Go.Proofs.YtcijnmkodpfpgaaGreatDoor
