/- Functions of the program, and what they give: part 7. -/
import Derived.Test.YtcijnmkodpfpgaaGreatDoorZS6
namespace Go.Proofs.YtcijnmkodpfpgaaGreatDoor
open Go Go.RowKit
set_option maxRecDepth 4000
set_option maxHeartbeats 4000000

def tb34_13:List (Nat × Nat × Nat):=[(0,2305843009213693952,0),(0,4611686018427387904,32),(2,9223372036854775808,4611686018427387904),(5,18446744073709551616,11529215046068469760),(0,36893488147419103232,1024),(16,73786976294838206464,36893488147419103232),(40,147573952589676412928,92233720368547758080),(127,295147905179352825856,8192),(255,0,442721857769029238784)]
def wardmoteref26_Redo_p (n:Nat) (a0:TGraph) (a1:TRoll) (a2:TSession):Option (TSession × Int):=
  (wardmoteref26_Check_p n a0 a1 a2).bind fun d0=>(if d0 = 0 then (if a2.fUndone.length = 0 then some ((⟨(0:Int),([]:List Int),([]:List Int),([]:List TMove),([]:List TMove)⟩:TSession),(4:Int)) else (if a2.fDone.length = 200 then some ((⟨(0:Int),([]:List Int),([]:List Int),([]:List TMove),([]:List TMove)⟩:TSession),(3:Int)) else (idx a2.fUndone (((a2.fUndone.length:Nat):Int) - 1)).bind fun b0=>(wardmoteref26_put_p n a2.fPlan b0.fUnit b0.fFrom b0.fTo).bind fun p0=>(wardmoteref26_with_p n a1 a2 p0.1).bind fun c0=>(cut a2.fUndone 0 (((a2.fUndone.length:Nat):Int) - 1)).bind fun k0=>(app ([]:List TMove) a2.fDone).bind fun g0=>(app g0 ([b0]:List TMove)).bind fun j0=>some ((⟨c0.fK,c0.fPlan,c0.fTotals,j0,k0⟩:TSession),(0:Int)))) else some ((⟨(0:Int),([]:List Int),([]:List Int),([]:List TMove),([]:List TMove)⟩:TSession),d0))
theorem wardmoteref26_Redo_c (n:Nat) (L:List Nat) (w:World) (hL:∀ b ∈ L,b < w.heap.size) (a0:TGraph) {v0_1:Value} (h0_1:Rep.R w L [v0_1] a0.fEdges) (a1:TRoll) {v1_3:Value} (h1_3:Rep.R w L [v1_3] a1.fUnits) (a2:TSession) {v2_1:Value} (h2_1:Rep.R w L [v2_1] a2.fPlan) {v2_2:Value} (h2_2:Rep.R w L [v2_2] a2.fTotals) {v2_3:Value} (h2_3:Rep.R w L [v2_3] a2.fDone) {v2_4:Value} (h2_4:Rep.R w L [v2_4] a2.fUndone)  {r:TSession × Int} (h:wardmoteref26_Redo_p n a0 a1 a2 = some r) :
    Calls Tryz.prog 34 #[.agg #[vI a0.fN,v0_1],.agg #[vI a1.fGroups,vI a1.fParties,vI a1.fLevels,v1_3],.agg #[vI a2.fK,v2_1,v2_2,v2_3,v2_4]] w (Gives w fun w' u=>∃ v0_1 v0_2 v0_3 v0_4:Value,u = .tuple #[.agg #[vI r.1.fK,v0_1,v0_2,v0_3,v0_4],vI r.2]∧Rep.R w' L [v0_1] r.1.fPlan∧Rep.R w' L [v0_2] r.1.fTotals∧Rep.R w' L [v0_3] r.1.fDone∧Rep.R w' L [v0_4] r.1.fUndone):=by
 unfold wardmoteref26_Redo_p at h
 have hS0:=AK w
 refine AM Tryz.func34 rfl rfl rfl (fun _ cs0 hb0=>?_)
 refine Ae<|Az .plain rfl (AI hS0 rfl rfl) (fun w2 b5 hS3 hT4=>?_)
 refine Az .plain rfl (AI hS3 rfl rfl) (fun w7 V2 hS8 hT9=>?_)
 refine Az .plain rfl (AI hS8 rfl rfl) (fun Q6 W2 c3 z6=>?_)
 refine Az .plain rfl (AX [vI 0,vN,vN,vN,vN] c3) (fun R6 v1 D0 A6=>?_)
 refine Ag rfl<|Aa<|Ak<|Ae<|Ab (AG rfl (D0.memA (.tl (.tl (.tl .hd)))))<|Ab (AG rfl (D0.memA (.tl (.tl .hd))))<|Ab (AG rfl (D0.memA (.tl .hd))) ?_
 obtain ⟨U2,j6,h⟩:=bi h
 refine BE (vI U2) body21 rfl (e3 rfl rfl rfl) (fun w9 hw9=>wardmoteref26_Check_c n _ w9 (D0.hL0 hL hw9) a0 (D0.k0 h0_1 hw9) a1 (D0.k0 h1_3 hw9) a2 (D0.k0 h2_1 hw9) (D0.k0 h2_2 hw9) (D0.k0 h2_3 hw9) (D0.k0 h2_4 hw9) j6) rfl<|Ag rfl<|Aa<|Ae<|Ac rfl<|Ab (BO (i:=U2) (j:=0) rfl rfl)<|Aa<|BV rfl h (fun Y2 h=>?_) (fun Y2 h=>?_)
 refine Ao<|Ae<|AH 4 rfl<|AS rfl ((D0.memA (.tl .hd)) 4 _ rfl) ?_
 have k2:=Ax h2_4 D0
 have I6:a2.fUndone.length ≤ 281474976710656:=AZ k2
 refine Ab (Bj (xs:=a2.fUndone) Tryz.underlying46 rfl k2)<|Ag rfl<|Aa<|Ak<|Ae<|Ac rfl<|Ab (BR (i:=a2.fUndone.length) (j:=0) rfl rfl)<|Aa<|AW rfl h (fun Z2 h=>?_) (fun Z2 h=>?_)
 refine Ae<|Ab (AV (vs:=[]) (u:=.agg #[vI 0,vN,vN,vN,vN]) evs_nil (fun w9=>by kernel_rfl))<|Bk [vI 0,vN,vN,vN,vN] D0 .hd (onesB rfl) (fun Y6 Z0 C6=>?_)
 refine Ag rfl<|Aa<|Am rfl ?_
 have K2:=AL (α:=Int) Z0 L
 have M2:=AL (α:=TMove) Z0 L
 refine Ay hb0 Tryz.func34 rfl (.cons (.many (cs:=[vI 0,vN,vN,vN,vN]) (by kernel_rfl) rfl (Z0.memA .hd)) (.cons (.tmp rfl) .nil)) rfl ?_
 cases h
 exact ⟨Z0.ag,fun w9 hw9=>⟨vN,vN,vN,vN,rfl,Z0.kd K2 hw9,Z0.kd K2 hw9,Z0.kd M2 hw9,Z0.kd M2 hw9⟩⟩
 refine Ao<|Ak<|Ae<|AH 3 rfl<|AS rfl ((D0.memA (.tl .hd)) 3 _ rfl) ?_
 have C2:=Ax h2_3 D0
 have J6:a2.fDone.length ≤ 281474976710656:=AZ C2
 refine Ab (Bj (xs:=a2.fDone) Tryz.underlying46 rfl C2)<|Ab (BR (i:=a2.fDone.length) (j:=200) rfl rfl)<|Aa<|AW rfl h (fun b3 h=>?_) (fun b3 h=>?_)
 refine Ae<|Ab (AV (vs:=[]) (u:=.agg #[vI 0,vN,vN,vN,vN]) evs_nil (fun w9=>by kernel_rfl))<|Bk [vI 0,vN,vN,vN,vN] D0 .hd (onesB rfl) (fun Z6 b1 D6=>?_)
 refine Ag rfl<|Aa<|Am rfl ?_
 have P2:=AL (α:=Int) b1 L
 have Q2:=AL (α:=TMove) b1 L
 refine Ay hb0 Tryz.func34 rfl (.cons (.many (cs:=[vI 0,vN,vN,vN,vN]) (by kernel_rfl) rfl (b1.memA .hd)) (.cons (.tmp rfl) .nil)) rfl ?_
 cases h
 exact ⟨b1.ag,fun w9 hw9=>⟨vN,vN,vN,vN,rfl,b1.kd P2 hw9,b1.kd P2 hw9,b1.kd Q2 hw9,b1.kd Q2 hw9⟩⟩
 refine Ao<|Ae<|AH 4 rfl<|AS rfl ((D0.memA (.tl .hd)) 4 _ rfl)<|Ac rfl<|Ab (FV.subI (i:=((a2.fUndone.length:Nat):Int)) (j:=1) rfl rfl (by omega)) ?_
 obtain ⟨b0,b6,h⟩:=bi h
 obtain ⟨V3,c6⟩:=idx_in b6
 obtain ⟨u6,v6,U3,W3,y6,W5,q5⟩:=Bb k2 c6
 obtain rfl:=op_TMove W5
 refine Ab (FV.idxAddr (m:=3) (i:=(((a2.fUndone.length:Nat):Int) - 1).toNat) (by kernel_rfl) rfl U3 rfl V3 W3)<|Ab (AG rfl q5)<|Az .plain rfl (AX [vI 0,vI 0,vI 0] D0) (fun b7 X2 G3 E6=>?_)
 refine Bk [vI b0.fUnit,vI b0.fFrom,vI b0.fTo] G3 .hd (onesB rfl) (fun c7 p1 F6=>?_)
 refine Aa<|Ae<|AH 1 rfl<|AS rfl ((p1.memA (.tl (.tl .hd))) 1 _ rfl)<|AH 0 rfl<|AS rfl ((p1.memA .hd) 0 _ rfl)<|AH 1 rfl<|AS rfl ((p1.memA .hd) 1 _ rfl)<|AH 2 rfl<|AS rfl ((p1.memA .hd) 2 _ rfl) ?_
 obtain ⟨t6,k6,h⟩:=bi h
 refine Bx (fst:=[]) (cap:=[]) .plain body43 rfl (e4 rfl rfl rfl rfl) (fun w9 hw9=>wardmoteref26_put_c n _ w9 (p1.hL hL hw9) a2.fPlan (p1.km h2_1 hw9) b0.fUnit b0.fFrom b0.fTo k6) rfl (fun d7 M6 K3 ⟨K6,hu_,X5⟩=>?_)
 subst hu_
 obtain ⟨W0,G6⟩:=p1.agr K3
 refine Ac rfl<|Ab (Au rfl rfl)<|Ab (Au rfl rfl)<|Ag rfl<|Ag rfl<|Aa<|Ae<|Ab (AG rfl (W0.memA (.tl (.tl (.tl .hd)))))<|Ab (AG rfl (W0.memA (.tl (.tl .hd))))<|Ac rfl ?_
 obtain ⟨U0,p6,h⟩:=bi h
 refine Bx (fst:=[]) (cap:=[]) .plain body44 rfl (e3 rfl rfl rfl) (fun w9 hw9=>wardmoteref26_with_c n _ w9 (W0.hL hL hw9) a1 (W0.km h1_3 hw9) a2 (W0.km h2_1 hw9) (W0.km h2_2 hw9) (W0.km h2_3 hw9) (W0.km h2_4 hw9) t6.1 (Av X5 hw9) p6) rfl (fun g7 P6 M3 ⟨M0,P0,X0,R2,hu_,q2,s2,Y5,Z5⟩=>?_)
 subst hu_
 obtain ⟨H3,H6⟩:=W0.agr M3
 refine Az .plain rfl (AX [vI 0,vN,vN,vN,vN] H3) (fun j7 x1 I3 z1=>?_)
 have s5:=Aj q2 z1
 have t5:=Aj s2 z1
 have u5:=Aj Y5 z1
 have v5:=Aj Z5 z1
 refine Bk [vI U0.fK,M0,P0,X0,R2] I3 .hd (o5 rfl (AP s5) (AP t5) (AP u5) (AP v5)) (fun k7 H1 J3=>?_)
 refine Aa<|Ae<|AH 4 rfl<|Ab (AA rfl ((H1.memA (.tl (.tl (.tl .hd)))) 4 _ rfl))<|Ac rfl<|Ab (FV.subI (i:=((a2.fUndone.length:Nat):Int)) (j:=1) rfl rfl (by omega)) ?_
 obtain ⟨p7,g6,h⟩:=bi h
 have x5:=Ax h2_4 H1
 refine RG.valE .plain rfl (FV.cutL (α:=TMove) g6 (by kernel_rfl) rfl x5 rfl ⟨_,rfl⟩) (fun R0 D1=>?_)
 refine AH 4 rfl<|BG .plain (Br (j:=4) (old:=[vI U0.fK,M0,P0,X0,R2]) (news:=[R0]) (new' :=[vI U0.fK,M0,P0,X0,R0]) H1 .hd rfl rfl rfl (Rep.c1 D1) rfl rfl (o1 (AP D1)) rfl) (fun q6 Q0 B2=>?_)
 refine Aa<|Ak<|Bm 3 tb34_13 (by kernel_rfl) (by kernel_rfl) (by kernel_rfl) (fun c0 A1=>?_)
 refine Ah 1 2 c0 rfl A1 (fun _=>Bt 3 rfl) rfl ?_
 obtain ⟨C1,E0,h⟩:=bi h
 refine RD.meet (α:=Value × (List Value) × Value × (List Value)) (fun ⟨q1,g1,s1,j1⟩=>[(6,vP v1),(13,vP x1),(64,s1),(66,q1)]) (fun ⟨q1,g1,s1,j1⟩ B1=>St w B1 [.row w.heap.size 62 (Rep.size TMove) q1 (([b0]:List TMove).length) g1,.row w.heap.size 62 (Rep.size TMove) s1 C1.length j1,.cells x1 [vI U0.fK,M0,P0,X0,R0] 48,.cells v1 [vI 0,vN,vN,vN,vN] 48]∧Tr q6 [.cells x1 [vI U0.fK,M0,P0,X0,R0] 48,.cells X2 [vI b0.fUnit,vI b0.fFrom,vI b0.fTo] 62,.cells v1 [vI 0,vN,vN,vN,vN] 48,.cells W2 [vI a2.fK,v2_1,v2_2,v2_3,v2_4] 48,.cells V2 [vI a1.fGroups,vI a1.fParties,vI a1.fLevels,v1_3] 41,.cells b5 [vI a0.fN,v0_1] 38] B1 [.row w.heap.size 62 (Rep.size TMove) q1 (([b0]:List TMove).length) g1,.row w.heap.size 62 (Rep.size TMove) s1 C1.length j1,.cells x1 [vI U0.fK,M0,P0,X0,R0] 48,.cells v1 [vI 0,vN,vN,vN,vN] 48]∧Cells B1 (bl [.row w.heap.size 62 (Rep.size TMove) q1 (([b0]:List TMove).length) g1,.row w.heap.size 62 (Rep.size TMove) s1 C1.length j1,.cells x1 [vI U0.fK,M0,P0,X0,R0] 48,.cells v1 [vI 0,vN,vN,vN,vN] 48] ++ L) g1 (([b0]:List TMove):List TMove)∧Cells B1 (bl [.row w.heap.size 62 (Rep.size TMove) q1 (([b0]:List TMove).length) g1,.row w.heap.size 62 (Rep.size TMove) s1 C1.length j1,.cells x1 [vI U0.fK,M0,P0,X0,R0] 48,.cells v1 [vI 0,vN,vN,vN,vN] 48] ++ L) j1 (C1:List TMove)) 3 63 ?_ ?_
 rintro ⟨q1,g1,s1,j1⟩ B1 ⟨t2,u2,P3,Q3⟩
 try dsimp only
 obtain ⟨s6,d6,h⟩:=bi h
 refine BD (i:=6) (readyD_ok c0 (by kernel_rfl)) (Bo (m' :=127) (stepC_ok c0 (by kernel_rfl)) rfl rfl .plain rfl (AR (α:=TMove) (ys:=([b0]:List TMove)) d6 t2 (fun _ _=>(.tl .hd)) el46 rfl rfl Q3 (Src.row (α:=TMove) t2 .hd P3)) (fun y1 U6 ⟨x6,E1,v2,R3⟩=>?_))
 refine Ah 7 255 c0 rfl A1 (fun _=>Bt 3 rfl) rfl<|RD.nw 8 511 c0 rfl rfl .plain (Br (j:=3) (old:=[vI U0.fK,M0,P0,X0,R0]) (news:=[y1]) (new' :=[vI U0.fK,M0,P0,y1,R0]) E1 (.tl (.tl .hd)) rfl rfl rfl (St.c1 (α:=TMove) E1 (.tl .hd)) rfl rfl (o1 (Bz (α:=TMove) E1 (.tl .hd))) rfl) (fun V6 F1 I1=>?_)
 refine Bc (doneD_ok c0 (by kernel_rfl))<|Ae<|Ab (AG rfl (F1.memA (.tl (.tl .hd)))) ?_
 have p2:=Tt z1 (Tt J3 (Tt B2 (Tt u2 (Tt v2 I1))))
 have X3:=Aj q2 p2
 have Y3:=Aj s2 p2
 have D2:=Tt B2 (Tt u2 (Tt v2 I1))
 have Z3:=Aj D1 D2
 refine Bk [vI U0.fK,M0,P0,y1,R0] F1 (.tl (.tl (.tl .hd))) (o5 rfl (AP X3) (AP Y3) (Bz (α:=TMove) F1 (.tl .hd)) (AP Z3)) (fun W6 G1 J1=>?_)
 refine Ag rfl<|Aa<|Am rfl ?_
 have b4:=Al R3 (Tt I1 J1)
 have U5:=AQ (α:=TMove) G1 (.tl .hd) b4 hL
 have k1:=Bf G1 (.tl .hd)
 have x2:=Bg G1 (.tl .hd)
 have V5:=Bh (α:=TMove) (v:=y1) (xs:=s6) k1 L U5
 refine Ay hb0 Tryz.func34 rfl (.cons (.many (cs:=[vI U0.fK,M0,P0,y1,R0]) (by kernel_rfl) rfl (k1.memA (.tl (.tl .hd)))) (.cons (.tmp rfl) .nil)) rfl ?_
 cases h
 have E2:=Tt p2 (Tt J1 x2)
 have c4:=Aj q2 E2
 have d4:=Aj s2 E2
 have y5:=Tt D2 (Tt J1 x2)
 have g4:=Aj D1 y5
 exact ⟨k1.ag,fun w9 hw9=>⟨M0,P0,y1,R0,rfl,k1.kd c4 hw9,k1.kd d4 hw9,k1.kd V5 hw9,k1.kd g4 hw9⟩⟩
 intro C0
 refine Bv [0,2,4] (readyD_ok c0 (by kernel_rfl)) ⟨?_,?_,?_,trivial⟩
 refine BI (m' :=3) (stepC_ok c0 (by kernel_rfl)) rfl .plain rfl (AE (α:=TMove) (xs:=([]:List TMove)) (vs:=[]) (ds' :=[]) rfl Q0 el46 rfl evs_nil (by kernel_rfl) rfl) (fun u1 d1 j0 t0=>?_)
 have u0:=Ar (cs:=[]) (xs:=(([]:List TMove):List TMove)) j0 L (AC _ _)
 refine Bv [2,4] (readyD_ok c0 (by kernel_rfl)) ⟨?_,?_,trivial⟩
 refine BW (m' :=7) (stepC_ok c0 (by kernel_rfl)) rfl .plain rfl (AA rfl ((j0.memA (.tl (.tl (.tl (.tl .hd))))) 3 _ rfl))<|Bv [3,4] (readyD_ok c0 (by kernel_rfl)) ⟨?_,?_,trivial⟩
 have s0:=Ax h2_3 j0
 refine Bo (m' :=15) (stepC_ok c0 (by kernel_rfl)) rfl rfl .plain rfl (AR (α:=TMove) (ys:=a2.fDone) E0 j0 (fun _ _=>.hd) el46 rfl rfl u0 (Bw s0)) (fun B0 V0 ⟨y0,v0,z0,A0⟩=>?_)
 refine BD (i:=4) (readyD_ok c0 (by kernel_rfl)) (BW (m' :=31) (stepC_ok c0 (by kernel_rfl)) rfl .plain rfl (AG rfl (v0.memA (.tl (.tl .hd)))) ?_)
 refine RD.nu 5 63 c0 rfl .plain rfl (AE (α:=TMove) (xs:=([b0]:List TMove)) (vs:=[.agg #[vI b0.fUnit,vI b0.fFrom,vI b0.fTo]]) (ds' :=[vI b0.fUnit,vI b0.fFrom,vI b0.fTo]) rfl v0 el46 rfl (e1 rfl) (by kernel_rfl) rfl) (fun F0 p0 d0 g0=>?_)
 have q0:=Ar (cs:=[vI b0.fUnit,vI b0.fFrom,vI b0.fTo]) (xs:=(([b0]:List TMove):List TMove)) d0 L (Aq (cs:=[vI b0.fUnit,vI b0.fFrom,vI b0.fTo]) (ds:=[]) (mk_TMove b0.fUnit b0.fFrom b0.fTo) (AC _ _))
 obtain ⟨d3,K1⟩:=AD d0 (.one .hd (.one .hd (.one .hd (.one (.tl .hd) .done))))
 have j4:=Al q0 K1
 have k4:=Al A0 (Tt g0 K1)
 have z5:=Tt t0 (Tt z0 (Tt g0 K1))
 exact C0 ((vS p0 1),[vI b0.fUnit,vI b0.fFrom,vI b0.fTo],B0,y0) _ _ ⟨rfl,rfl,rfl,rfl,trivial⟩ ⟨d3,z5,j4,k4⟩
 refine BW (m' :=23) (stepC_ok c0 (by kernel_rfl)) rfl .plain rfl (AG rfl (j0.memA (.tl (.tl .hd))))<|Bv [3,5] (readyD_ok c0 (by kernel_rfl)) ⟨?_,?_,trivial⟩
 have s0:=Ax h2_3 j0
 refine Bo (m' :=31) (stepC_ok c0 (by kernel_rfl)) rfl rfl .plain rfl (AR (α:=TMove) (ys:=a2.fDone) E0 j0 (fun _ _=>.hd) el46 rfl rfl u0 (Bw s0)) (fun B0 V0 ⟨y0,v0,z0,A0⟩=>?_)
 refine RD.nu 5 63 c0 rfl .plain rfl (AE (α:=TMove) (xs:=([b0]:List TMove)) (vs:=[.agg #[vI b0.fUnit,vI b0.fFrom,vI b0.fTo]]) (ds' :=[vI b0.fUnit,vI b0.fFrom,vI b0.fTo]) rfl v0 el46 rfl (e1 rfl) (by kernel_rfl) rfl) (fun F0 p0 d0 g0=>?_)
 have q0:=Ar (cs:=[vI b0.fUnit,vI b0.fFrom,vI b0.fTo]) (xs:=(([b0]:List TMove):List TMove)) d0 L (Aq (cs:=[vI b0.fUnit,vI b0.fFrom,vI b0.fTo]) (ds:=[]) (mk_TMove b0.fUnit b0.fFrom b0.fTo) (AC _ _))
 obtain ⟨g3,M1⟩:=AD d0 (.one .hd (.one .hd (.one .hd (.one (.tl .hd) .done))))
 have p4:=Al q0 M1
 have q4:=Al A0 (Tt g0 M1)
 have A5:=Tt t0 (Tt z0 (Tt g0 M1))
 exact C0 ((vS p0 1),[vI b0.fUnit,vI b0.fFrom,vI b0.fTo],B0,y0) _ _ ⟨rfl,rfl,rfl,rfl,trivial⟩ ⟨g3,A5,p4,q4⟩
 refine BI (m' :=55) (stepC_ok c0 (by kernel_rfl)) rfl .plain rfl (AE (α:=TMove) (xs:=([b0]:List TMove)) (vs:=[.agg #[vI b0.fUnit,vI b0.fFrom,vI b0.fTo]]) (ds' :=[vI b0.fUnit,vI b0.fFrom,vI b0.fTo]) rfl j0 el46 rfl (e1 rfl) (by kernel_rfl) rfl) (fun F0 p0 d0 g0=>?_)
 have q0:=Ar (cs:=[vI b0.fUnit,vI b0.fFrom,vI b0.fTo]) (xs:=(([b0]:List TMove):List TMove)) d0 L (Aq (cs:=[vI b0.fUnit,vI b0.fFrom,vI b0.fTo]) (ds:=[]) (mk_TMove b0.fUnit b0.fFrom b0.fTo) (AC _ _))
 have s0:=Ax h2_3 d0
 have J0:=Al u0 g0
 refine BD (i:=3) (readyD_ok c0 (by kernel_rfl)) (Bo (m' :=63) (stepC_ok c0 (by kernel_rfl)) rfl rfl .plain rfl (AR (α:=TMove) (ys:=a2.fDone) E0 d0 (fun _ _=>(.tl .hd)) el46 rfl rfl J0 (Bw s0)) (fun K0 t1 ⟨G0,H0,x0,I0⟩=>?_))
 obtain ⟨j3,P1⟩:=AD H0 (.one .hd (.one .hd (.one .hd (.one (.tl .hd) .done))))
 have s4:=Al q0 (Tt x0 P1)
 have t4:=Al I0 P1
 have B5:=Tt t0 (Tt g0 (Tt x0 P1))
 exact C0 ((vS p0 1),[vI b0.fUnit,vI b0.fFrom,vI b0.fTo],K0,G0) _ _ ⟨rfl,rfl,rfl,rfl,trivial⟩ ⟨j3,B5,s4,t4⟩
 refine BW (m' :=19) (stepC_ok c0 (by kernel_rfl)) rfl .plain rfl (AG rfl (j0.memA (.tl (.tl .hd))))<|Bv [2,5] (readyD_ok c0 (by kernel_rfl)) ⟨?_,?_,trivial⟩
 refine BW (m' :=23) (stepC_ok c0 (by kernel_rfl)) rfl .plain rfl (AA rfl ((j0.memA (.tl (.tl (.tl (.tl .hd))))) 3 _ rfl))<|Bv [3,5] (readyD_ok c0 (by kernel_rfl)) ⟨?_,?_,trivial⟩
 have s0:=Ax h2_3 j0
 refine Bo (m' :=31) (stepC_ok c0 (by kernel_rfl)) rfl rfl .plain rfl (AR (α:=TMove) (ys:=a2.fDone) E0 j0 (fun _ _=>.hd) el46 rfl rfl u0 (Bw s0)) (fun B0 V0 ⟨y0,v0,z0,A0⟩=>?_)
 refine RD.nu 5 63 c0 rfl .plain rfl (AE (α:=TMove) (xs:=([b0]:List TMove)) (vs:=[.agg #[vI b0.fUnit,vI b0.fFrom,vI b0.fTo]]) (ds' :=[vI b0.fUnit,vI b0.fFrom,vI b0.fTo]) rfl v0 el46 rfl (e1 rfl) (by kernel_rfl) rfl) (fun F0 p0 d0 g0=>?_)
 have q0:=Ar (cs:=[vI b0.fUnit,vI b0.fFrom,vI b0.fTo]) (xs:=(([b0]:List TMove):List TMove)) d0 L (Aq (cs:=[vI b0.fUnit,vI b0.fFrom,vI b0.fTo]) (ds:=[]) (mk_TMove b0.fUnit b0.fFrom b0.fTo) (AC _ _))
 obtain ⟨k3,Q1⟩:=AD d0 (.one .hd (.one .hd (.one .hd (.one (.tl .hd) .done))))
 have u4:=Al q0 Q1
 have v4:=Al A0 (Tt g0 Q1)
 have C5:=Tt t0 (Tt z0 (Tt g0 Q1))
 exact C0 ((vS p0 1),[vI b0.fUnit,vI b0.fFrom,vI b0.fTo],B0,y0) _ _ ⟨rfl,rfl,rfl,rfl,trivial⟩ ⟨k3,C5,u4,v4⟩
 refine BI (m' :=55) (stepC_ok c0 (by kernel_rfl)) rfl .plain rfl (AE (α:=TMove) (xs:=([b0]:List TMove)) (vs:=[.agg #[vI b0.fUnit,vI b0.fFrom,vI b0.fTo]]) (ds' :=[vI b0.fUnit,vI b0.fFrom,vI b0.fTo]) rfl j0 el46 rfl (e1 rfl) (by kernel_rfl) rfl) (fun F0 p0 d0 g0=>?_)
 have q0:=Ar (cs:=[vI b0.fUnit,vI b0.fFrom,vI b0.fTo]) (xs:=(([b0]:List TMove):List TMove)) d0 L (Aq (cs:=[vI b0.fUnit,vI b0.fFrom,vI b0.fTo]) (ds:=[]) (mk_TMove b0.fUnit b0.fFrom b0.fTo) (AC _ _))
 have s0:=Ax h2_3 d0
 have J0:=Al u0 g0
 refine BD (i:=3) (readyD_ok c0 (by kernel_rfl)) (Bo (m' :=63) (stepC_ok c0 (by kernel_rfl)) rfl rfl .plain rfl (AR (α:=TMove) (ys:=a2.fDone) E0 d0 (fun _ _=>(.tl .hd)) el46 rfl rfl J0 (Bw s0)) (fun K0 t1 ⟨G0,H0,x0,I0⟩=>?_))
 obtain ⟨p3,R1⟩:=AD H0 (.one .hd (.one .hd (.one .hd (.one (.tl .hd) .done))))
 have x4:=Al q0 (Tt x0 R1)
 have y4:=Al I0 R1
 have D5:=Tt t0 (Tt g0 (Tt x0 R1))
 exact C0 ((vS p0 1),[vI b0.fUnit,vI b0.fFrom,vI b0.fTo],K0,G0) _ _ ⟨rfl,rfl,rfl,rfl,trivial⟩ ⟨p3,D5,x4,y4⟩
 refine BI (m' :=51) (stepC_ok c0 (by kernel_rfl)) rfl .plain rfl (AE (α:=TMove) (xs:=([b0]:List TMove)) (vs:=[.agg #[vI b0.fUnit,vI b0.fFrom,vI b0.fTo]]) (ds' :=[vI b0.fUnit,vI b0.fFrom,vI b0.fTo]) rfl j0 el46 rfl (e1 rfl) (by kernel_rfl) rfl) (fun F0 p0 d0 g0=>?_)
 have q0:=Ar (cs:=[vI b0.fUnit,vI b0.fFrom,vI b0.fTo]) (xs:=(([b0]:List TMove):List TMove)) d0 L (Aq (cs:=[vI b0.fUnit,vI b0.fFrom,vI b0.fTo]) (ds:=[]) (mk_TMove b0.fUnit b0.fFrom b0.fTo) (AC _ _))
 refine AT 2 55 456 c0 rfl A1 (AA rfl ((d0.memA (.tl (.tl (.tl (.tl (.tl .hd)))))) 3 _ rfl)) rfl ?_
 have s0:=Ax h2_3 d0
 have J0:=Al u0 g0
 refine BD (i:=3) (readyD_ok c0 (by kernel_rfl)) (Bo (m' :=63) (stepC_ok c0 (by kernel_rfl)) rfl rfl .plain rfl (AR (α:=TMove) (ys:=a2.fDone) E0 d0 (fun _ _=>(.tl .hd)) el46 rfl rfl J0 (Bw s0)) (fun K0 t1 ⟨G0,H0,x0,I0⟩=>?_))
 obtain ⟨q3,U1⟩:=AD H0 (.one .hd (.one .hd (.one .hd (.one (.tl .hd) .done))))
 have z4:=Al q0 (Tt x0 U1)
 have A4:=Al I0 U1
 have E5:=Tt t0 (Tt g0 (Tt x0 U1))
 exact C0 ((vS p0 1),[vI b0.fUnit,vI b0.fFrom,vI b0.fTo],K0,G0) _ _ ⟨rfl,rfl,rfl,rfl,trivial⟩ ⟨q3,E5,z4,A4⟩
 refine BW (m' :=6) (stepC_ok c0 (by kernel_rfl)) rfl .plain rfl (AA rfl ((Q0.memA (.tl (.tl (.tl .hd)))) 3 _ rfl))<|Bv [0,4] (readyD_ok c0 (by kernel_rfl)) ⟨?_,?_,trivial⟩
 refine BI (m' :=7) (stepC_ok c0 (by kernel_rfl)) rfl .plain rfl (AE (α:=TMove) (xs:=([]:List TMove)) (vs:=[]) (ds' :=[]) rfl Q0 el46 rfl evs_nil (by kernel_rfl) rfl) (fun u1 d1 j0 t0=>?_)
 have u0:=Ar (cs:=[]) (xs:=(([]:List TMove):List TMove)) j0 L (AC _ _)
 refine Bv [3,4] (readyD_ok c0 (by kernel_rfl)) ⟨?_,?_,trivial⟩
 have s0:=Ax h2_3 j0
 refine Bo (m' :=15) (stepC_ok c0 (by kernel_rfl)) rfl rfl .plain rfl (AR (α:=TMove) (ys:=a2.fDone) E0 j0 (fun _ _=>.hd) el46 rfl rfl u0 (Bw s0)) (fun B0 V0 ⟨y0,v0,z0,A0⟩=>?_)
 refine BD (i:=4) (readyD_ok c0 (by kernel_rfl)) (BW (m' :=31) (stepC_ok c0 (by kernel_rfl)) rfl .plain rfl (AG rfl (v0.memA (.tl (.tl .hd)))) ?_)
 refine RD.nu 5 63 c0 rfl .plain rfl (AE (α:=TMove) (xs:=([b0]:List TMove)) (vs:=[.agg #[vI b0.fUnit,vI b0.fFrom,vI b0.fTo]]) (ds' :=[vI b0.fUnit,vI b0.fFrom,vI b0.fTo]) rfl v0 el46 rfl (e1 rfl) (by kernel_rfl) rfl) (fun F0 p0 d0 g0=>?_)
 have q0:=Ar (cs:=[vI b0.fUnit,vI b0.fFrom,vI b0.fTo]) (xs:=(([b0]:List TMove):List TMove)) d0 L (Aq (cs:=[vI b0.fUnit,vI b0.fFrom,vI b0.fTo]) (ds:=[]) (mk_TMove b0.fUnit b0.fFrom b0.fTo) (AC _ _))
 obtain ⟨s3,V1⟩:=AD d0 (.one .hd (.one .hd (.one .hd (.one (.tl .hd) .done))))
 have B4:=Al q0 V1
 have C4:=Al A0 (Tt g0 V1)
 have F5:=Tt t0 (Tt z0 (Tt g0 V1))
 exact C0 ((vS p0 1),[vI b0.fUnit,vI b0.fFrom,vI b0.fTo],B0,y0) _ _ ⟨rfl,rfl,rfl,rfl,trivial⟩ ⟨s3,F5,B4,C4⟩
 refine BW (m' :=23) (stepC_ok c0 (by kernel_rfl)) rfl .plain rfl (AG rfl (j0.memA (.tl (.tl .hd))))<|Bv [3,5] (readyD_ok c0 (by kernel_rfl)) ⟨?_,?_,trivial⟩
 have s0:=Ax h2_3 j0
 refine Bo (m' :=31) (stepC_ok c0 (by kernel_rfl)) rfl rfl .plain rfl (AR (α:=TMove) (ys:=a2.fDone) E0 j0 (fun _ _=>.hd) el46 rfl rfl u0 (Bw s0)) (fun B0 V0 ⟨y0,v0,z0,A0⟩=>?_)
 refine RD.nu 5 63 c0 rfl .plain rfl (AE (α:=TMove) (xs:=([b0]:List TMove)) (vs:=[.agg #[vI b0.fUnit,vI b0.fFrom,vI b0.fTo]]) (ds' :=[vI b0.fUnit,vI b0.fFrom,vI b0.fTo]) rfl v0 el46 rfl (e1 rfl) (by kernel_rfl) rfl) (fun F0 p0 d0 g0=>?_)
 have q0:=Ar (cs:=[vI b0.fUnit,vI b0.fFrom,vI b0.fTo]) (xs:=(([b0]:List TMove):List TMove)) d0 L (Aq (cs:=[vI b0.fUnit,vI b0.fFrom,vI b0.fTo]) (ds:=[]) (mk_TMove b0.fUnit b0.fFrom b0.fTo) (AC _ _))
 obtain ⟨t3,W1⟩:=AD d0 (.one .hd (.one .hd (.one .hd (.one (.tl .hd) .done))))
 have D4:=Al q0 W1
 have E4:=Al A0 (Tt g0 W1)
 have G5:=Tt t0 (Tt z0 (Tt g0 W1))
 exact C0 ((vS p0 1),[vI b0.fUnit,vI b0.fFrom,vI b0.fTo],B0,y0) _ _ ⟨rfl,rfl,rfl,rfl,trivial⟩ ⟨t3,G5,D4,E4⟩
 refine BI (m' :=55) (stepC_ok c0 (by kernel_rfl)) rfl .plain rfl (AE (α:=TMove) (xs:=([b0]:List TMove)) (vs:=[.agg #[vI b0.fUnit,vI b0.fFrom,vI b0.fTo]]) (ds' :=[vI b0.fUnit,vI b0.fFrom,vI b0.fTo]) rfl j0 el46 rfl (e1 rfl) (by kernel_rfl) rfl) (fun F0 p0 d0 g0=>?_)
 have q0:=Ar (cs:=[vI b0.fUnit,vI b0.fFrom,vI b0.fTo]) (xs:=(([b0]:List TMove):List TMove)) d0 L (Aq (cs:=[vI b0.fUnit,vI b0.fFrom,vI b0.fTo]) (ds:=[]) (mk_TMove b0.fUnit b0.fFrom b0.fTo) (AC _ _))
 have s0:=Ax h2_3 d0
 have J0:=Al u0 g0
 refine BD (i:=3) (readyD_ok c0 (by kernel_rfl)) (Bo (m' :=63) (stepC_ok c0 (by kernel_rfl)) rfl rfl .plain rfl (AR (α:=TMove) (ys:=a2.fDone) E0 d0 (fun _ _=>(.tl .hd)) el46 rfl rfl J0 (Bw s0)) (fun K0 t1 ⟨G0,H0,x0,I0⟩=>?_))
 obtain ⟨u3,X1⟩:=AD H0 (.one .hd (.one .hd (.one .hd (.one (.tl .hd) .done))))
 have F4:=Al q0 (Tt x0 X1)
 have G4:=Al I0 X1
 have H5:=Tt t0 (Tt g0 (Tt x0 X1))
 exact C0 ((vS p0 1),[vI b0.fUnit,vI b0.fFrom,vI b0.fTo],K0,G0) _ _ ⟨rfl,rfl,rfl,rfl,trivial⟩ ⟨u3,H5,F4,G4⟩
 refine BW (m' :=22) (stepC_ok c0 (by kernel_rfl)) rfl .plain rfl (AG rfl (Q0.memA (.tl .hd)))<|Bv [0,5] (readyD_ok c0 (by kernel_rfl)) ⟨?_,?_,trivial⟩
 refine BI (m' :=23) (stepC_ok c0 (by kernel_rfl)) rfl .plain rfl (AE (α:=TMove) (xs:=([]:List TMove)) (vs:=[]) (ds' :=[]) rfl Q0 el46 rfl evs_nil (by kernel_rfl) rfl) (fun u1 d1 j0 t0=>?_)
 have u0:=Ar (cs:=[]) (xs:=(([]:List TMove):List TMove)) j0 L (AC _ _)
 refine Bv [3,5] (readyD_ok c0 (by kernel_rfl)) ⟨?_,?_,trivial⟩
 have s0:=Ax h2_3 j0
 refine Bo (m' :=31) (stepC_ok c0 (by kernel_rfl)) rfl rfl .plain rfl (AR (α:=TMove) (ys:=a2.fDone) E0 j0 (fun _ _=>.hd) el46 rfl rfl u0 (Bw s0)) (fun B0 V0 ⟨y0,v0,z0,A0⟩=>?_)
 refine RD.nu 5 63 c0 rfl .plain rfl (AE (α:=TMove) (xs:=([b0]:List TMove)) (vs:=[.agg #[vI b0.fUnit,vI b0.fFrom,vI b0.fTo]]) (ds' :=[vI b0.fUnit,vI b0.fFrom,vI b0.fTo]) rfl v0 el46 rfl (e1 rfl) (by kernel_rfl) rfl) (fun F0 p0 d0 g0=>?_)
 have q0:=Ar (cs:=[vI b0.fUnit,vI b0.fFrom,vI b0.fTo]) (xs:=(([b0]:List TMove):List TMove)) d0 L (Aq (cs:=[vI b0.fUnit,vI b0.fFrom,vI b0.fTo]) (ds:=[]) (mk_TMove b0.fUnit b0.fFrom b0.fTo) (AC _ _))
 obtain ⟨v3,Y1⟩:=AD d0 (.one .hd (.one .hd (.one .hd (.one (.tl .hd) .done))))
 have H4:=Al q0 Y1
 have I4:=Al A0 (Tt g0 Y1)
 have I5:=Tt t0 (Tt z0 (Tt g0 Y1))
 exact C0 ((vS p0 1),[vI b0.fUnit,vI b0.fFrom,vI b0.fTo],B0,y0) _ _ ⟨rfl,rfl,rfl,rfl,trivial⟩ ⟨v3,I5,H4,I4⟩
 refine BI (m' :=55) (stepC_ok c0 (by kernel_rfl)) rfl .plain rfl (AE (α:=TMove) (xs:=([b0]:List TMove)) (vs:=[.agg #[vI b0.fUnit,vI b0.fFrom,vI b0.fTo]]) (ds' :=[vI b0.fUnit,vI b0.fFrom,vI b0.fTo]) rfl j0 el46 rfl (e1 rfl) (by kernel_rfl) rfl) (fun F0 p0 d0 g0=>?_)
 have q0:=Ar (cs:=[vI b0.fUnit,vI b0.fFrom,vI b0.fTo]) (xs:=(([b0]:List TMove):List TMove)) d0 L (Aq (cs:=[vI b0.fUnit,vI b0.fFrom,vI b0.fTo]) (ds:=[]) (mk_TMove b0.fUnit b0.fFrom b0.fTo) (AC _ _))
 have s0:=Ax h2_3 d0
 have J0:=Al u0 g0
 refine BD (i:=3) (readyD_ok c0 (by kernel_rfl)) (Bo (m' :=63) (stepC_ok c0 (by kernel_rfl)) rfl rfl .plain rfl (AR (α:=TMove) (ys:=a2.fDone) E0 d0 (fun _ _=>(.tl .hd)) el46 rfl rfl J0 (Bw s0)) (fun K0 t1 ⟨G0,H0,x0,I0⟩=>?_))
 obtain ⟨x3,Z1⟩:=AD H0 (.one .hd (.one .hd (.one .hd (.one (.tl .hd) .done))))
 have J4:=Al q0 (Tt x0 Z1)
 have K4:=Al I0 Z1
 have J5:=Tt t0 (Tt g0 (Tt x0 Z1))
 exact C0 ((vS p0 1),[vI b0.fUnit,vI b0.fFrom,vI b0.fTo],K0,G0) _ _ ⟨rfl,rfl,rfl,rfl,trivial⟩ ⟨x3,J5,J4,K4⟩
 refine BI (m' :=54) (stepC_ok c0 (by kernel_rfl)) rfl .plain rfl (AE (α:=TMove) (xs:=([b0]:List TMove)) (vs:=[.agg #[vI b0.fUnit,vI b0.fFrom,vI b0.fTo]]) (ds' :=[vI b0.fUnit,vI b0.fFrom,vI b0.fTo]) rfl Q0 el46 rfl (e1 rfl) (by kernel_rfl) rfl) (fun F0 p0 d0 g0=>?_)
 have q0:=Ar (cs:=[vI b0.fUnit,vI b0.fFrom,vI b0.fTo]) (xs:=(([b0]:List TMove):List TMove)) d0 L (Aq (cs:=[vI b0.fUnit,vI b0.fFrom,vI b0.fTo]) (ds:=[]) (mk_TMove b0.fUnit b0.fFrom b0.fTo) (AC _ _))
 refine RD.nu 0 55 c0 rfl .plain rfl (AE (α:=TMove) (xs:=([]:List TMove)) (vs:=[]) (ds' :=[]) rfl d0 el46 rfl evs_nil (by kernel_rfl) rfl) (fun u1 d1 j0 t0=>?_)
 have u0:=Ar (cs:=[]) (xs:=(([]:List TMove):List TMove)) j0 L (AC _ _)
 have s0:=Ax h2_3 j0
 refine BD (i:=3) (readyD_ok c0 (by kernel_rfl)) (Bo (m' :=63) (stepC_ok c0 (by kernel_rfl)) rfl rfl .plain rfl (AR (α:=TMove) (ys:=a2.fDone) E0 j0 (fun _ _=>.hd) el46 rfl rfl u0 (Bw s0)) (fun B0 V0 ⟨y0,v0,z0,A0⟩=>?_))
 obtain ⟨y3,y2⟩:=AD v0 (.one (.tl .hd) (.one .hd (.one .hd (.one (.tl .hd) .done))))
 have F2:=Tt t0 (Tt z0 y2)
 have M4:=Al q0 F2
 have P4:=Al A0 y2
 exact C0 ((vS p0 1),[vI b0.fUnit,vI b0.fFrom,vI b0.fTo],B0,y0) _ _ ⟨rfl,rfl,rfl,rfl,trivial⟩ ⟨y3,(Tt g0 F2),M4,P4⟩
 refine BW (m' :=18) (stepC_ok c0 (by kernel_rfl)) rfl .plain rfl (AG rfl (Q0.memA (.tl .hd)))<|Bv [0,2,5] (readyD_ok c0 (by kernel_rfl)) ⟨?_,?_,?_,trivial⟩
 refine BI (m' :=19) (stepC_ok c0 (by kernel_rfl)) rfl .plain rfl (AE (α:=TMove) (xs:=([]:List TMove)) (vs:=[]) (ds' :=[]) rfl Q0 el46 rfl evs_nil (by kernel_rfl) rfl) (fun u1 d1 j0 t0=>?_)
 have u0:=Ar (cs:=[]) (xs:=(([]:List TMove):List TMove)) j0 L (AC _ _)
 refine Bv [2,5] (readyD_ok c0 (by kernel_rfl)) ⟨?_,?_,trivial⟩
 refine BW (m' :=23) (stepC_ok c0 (by kernel_rfl)) rfl .plain rfl (AA rfl ((j0.memA (.tl (.tl (.tl (.tl .hd))))) 3 _ rfl))<|Bv [3,5] (readyD_ok c0 (by kernel_rfl)) ⟨?_,?_,trivial⟩
 have s0:=Ax h2_3 j0
 refine Bo (m' :=31) (stepC_ok c0 (by kernel_rfl)) rfl rfl .plain rfl (AR (α:=TMove) (ys:=a2.fDone) E0 j0 (fun _ _=>.hd) el46 rfl rfl u0 (Bw s0)) (fun B0 V0 ⟨y0,v0,z0,A0⟩=>?_)
 refine RD.nu 5 63 c0 rfl .plain rfl (AE (α:=TMove) (xs:=([b0]:List TMove)) (vs:=[.agg #[vI b0.fUnit,vI b0.fFrom,vI b0.fTo]]) (ds' :=[vI b0.fUnit,vI b0.fFrom,vI b0.fTo]) rfl v0 el46 rfl (e1 rfl) (by kernel_rfl) rfl) (fun F0 p0 d0 g0=>?_)
 have q0:=Ar (cs:=[vI b0.fUnit,vI b0.fFrom,vI b0.fTo]) (xs:=(([b0]:List TMove):List TMove)) d0 L (Aq (cs:=[vI b0.fUnit,vI b0.fFrom,vI b0.fTo]) (ds:=[]) (mk_TMove b0.fUnit b0.fFrom b0.fTo) (AC _ _))
 obtain ⟨z3,b2⟩:=AD d0 (.one .hd (.one .hd (.one .hd (.one (.tl .hd) .done))))
 have Q4:=Al q0 b2
 have R4:=Al A0 (Tt g0 b2)
 have K5:=Tt t0 (Tt z0 (Tt g0 b2))
 exact C0 ((vS p0 1),[vI b0.fUnit,vI b0.fFrom,vI b0.fTo],B0,y0) _ _ ⟨rfl,rfl,rfl,rfl,trivial⟩ ⟨z3,K5,Q4,R4⟩
 refine BI (m' :=55) (stepC_ok c0 (by kernel_rfl)) rfl .plain rfl (AE (α:=TMove) (xs:=([b0]:List TMove)) (vs:=[.agg #[vI b0.fUnit,vI b0.fFrom,vI b0.fTo]]) (ds' :=[vI b0.fUnit,vI b0.fFrom,vI b0.fTo]) rfl j0 el46 rfl (e1 rfl) (by kernel_rfl) rfl) (fun F0 p0 d0 g0=>?_)
 have q0:=Ar (cs:=[vI b0.fUnit,vI b0.fFrom,vI b0.fTo]) (xs:=(([b0]:List TMove):List TMove)) d0 L (Aq (cs:=[vI b0.fUnit,vI b0.fFrom,vI b0.fTo]) (ds:=[]) (mk_TMove b0.fUnit b0.fFrom b0.fTo) (AC _ _))
 have s0:=Ax h2_3 d0
 have J0:=Al u0 g0
 refine BD (i:=3) (readyD_ok c0 (by kernel_rfl)) (Bo (m' :=63) (stepC_ok c0 (by kernel_rfl)) rfl rfl .plain rfl (AR (α:=TMove) (ys:=a2.fDone) E0 d0 (fun _ _=>(.tl .hd)) el46 rfl rfl J0 (Bw s0)) (fun K0 t1 ⟨G0,H0,x0,I0⟩=>?_))
 obtain ⟨A3,c2⟩:=AD H0 (.one .hd (.one .hd (.one .hd (.one (.tl .hd) .done))))
 have U4:=Al q0 (Tt x0 c2)
 have V4:=Al I0 c2
 have M5:=Tt t0 (Tt g0 (Tt x0 c2))
 exact C0 ((vS p0 1),[vI b0.fUnit,vI b0.fFrom,vI b0.fTo],K0,G0) _ _ ⟨rfl,rfl,rfl,rfl,trivial⟩ ⟨A3,M5,U4,V4⟩
 refine BI (m' :=51) (stepC_ok c0 (by kernel_rfl)) rfl .plain rfl (AE (α:=TMove) (xs:=([b0]:List TMove)) (vs:=[.agg #[vI b0.fUnit,vI b0.fFrom,vI b0.fTo]]) (ds' :=[vI b0.fUnit,vI b0.fFrom,vI b0.fTo]) rfl j0 el46 rfl (e1 rfl) (by kernel_rfl) rfl) (fun F0 p0 d0 g0=>?_)
 have q0:=Ar (cs:=[vI b0.fUnit,vI b0.fFrom,vI b0.fTo]) (xs:=(([b0]:List TMove):List TMove)) d0 L (Aq (cs:=[vI b0.fUnit,vI b0.fFrom,vI b0.fTo]) (ds:=[]) (mk_TMove b0.fUnit b0.fFrom b0.fTo) (AC _ _))
 refine AT 2 55 456 c0 rfl A1 (AA rfl ((d0.memA (.tl (.tl (.tl (.tl (.tl .hd)))))) 3 _ rfl)) rfl ?_
 have s0:=Ax h2_3 d0
 have J0:=Al u0 g0
 refine BD (i:=3) (readyD_ok c0 (by kernel_rfl)) (Bo (m' :=63) (stepC_ok c0 (by kernel_rfl)) rfl rfl .plain rfl (AR (α:=TMove) (ys:=a2.fDone) E0 d0 (fun _ _=>(.tl .hd)) el46 rfl rfl J0 (Bw s0)) (fun K0 t1 ⟨G0,H0,x0,I0⟩=>?_))
 obtain ⟨B3,d2⟩:=AD H0 (.one .hd (.one .hd (.one .hd (.one (.tl .hd) .done))))
 have W4:=Al q0 (Tt x0 d2)
 have X4:=Al I0 d2
 have P5:=Tt t0 (Tt g0 (Tt x0 d2))
 exact C0 ((vS p0 1),[vI b0.fUnit,vI b0.fFrom,vI b0.fTo],K0,G0) _ _ ⟨rfl,rfl,rfl,rfl,trivial⟩ ⟨B3,P5,W4,X4⟩
 refine BW (m' :=22) (stepC_ok c0 (by kernel_rfl)) rfl .plain rfl (AA rfl ((Q0.memA (.tl (.tl (.tl .hd)))) 3 _ rfl))<|Bv [0,5] (readyD_ok c0 (by kernel_rfl)) ⟨?_,?_,trivial⟩
 refine BI (m' :=23) (stepC_ok c0 (by kernel_rfl)) rfl .plain rfl (AE (α:=TMove) (xs:=([]:List TMove)) (vs:=[]) (ds' :=[]) rfl Q0 el46 rfl evs_nil (by kernel_rfl) rfl) (fun u1 d1 j0 t0=>?_)
 have u0:=Ar (cs:=[]) (xs:=(([]:List TMove):List TMove)) j0 L (AC _ _)
 refine Bv [3,5] (readyD_ok c0 (by kernel_rfl)) ⟨?_,?_,trivial⟩
 have s0:=Ax h2_3 j0
 refine Bo (m' :=31) (stepC_ok c0 (by kernel_rfl)) rfl rfl .plain rfl (AR (α:=TMove) (ys:=a2.fDone) E0 j0 (fun _ _=>.hd) el46 rfl rfl u0 (Bw s0)) (fun B0 V0 ⟨y0,v0,z0,A0⟩=>?_)
 refine RD.nu 5 63 c0 rfl .plain rfl (AE (α:=TMove) (xs:=([b0]:List TMove)) (vs:=[.agg #[vI b0.fUnit,vI b0.fFrom,vI b0.fTo]]) (ds' :=[vI b0.fUnit,vI b0.fFrom,vI b0.fTo]) rfl v0 el46 rfl (e1 rfl) (by kernel_rfl) rfl) (fun F0 p0 d0 g0=>?_)
 have q0:=Ar (cs:=[vI b0.fUnit,vI b0.fFrom,vI b0.fTo]) (xs:=(([b0]:List TMove):List TMove)) d0 L (Aq (cs:=[vI b0.fUnit,vI b0.fFrom,vI b0.fTo]) (ds:=[]) (mk_TMove b0.fUnit b0.fFrom b0.fTo) (AC _ _))
 obtain ⟨C3,g2⟩:=AD d0 (.one .hd (.one .hd (.one .hd (.one (.tl .hd) .done))))
 have Y4:=Al q0 g2
 have Z4:=Al A0 (Tt g0 g2)
 have Q5:=Tt t0 (Tt z0 (Tt g0 g2))
 exact C0 ((vS p0 1),[vI b0.fUnit,vI b0.fFrom,vI b0.fTo],B0,y0) _ _ ⟨rfl,rfl,rfl,rfl,trivial⟩ ⟨C3,Q5,Y4,Z4⟩
 refine BI (m' :=55) (stepC_ok c0 (by kernel_rfl)) rfl .plain rfl (AE (α:=TMove) (xs:=([b0]:List TMove)) (vs:=[.agg #[vI b0.fUnit,vI b0.fFrom,vI b0.fTo]]) (ds' :=[vI b0.fUnit,vI b0.fFrom,vI b0.fTo]) rfl j0 el46 rfl (e1 rfl) (by kernel_rfl) rfl) (fun F0 p0 d0 g0=>?_)
 have q0:=Ar (cs:=[vI b0.fUnit,vI b0.fFrom,vI b0.fTo]) (xs:=(([b0]:List TMove):List TMove)) d0 L (Aq (cs:=[vI b0.fUnit,vI b0.fFrom,vI b0.fTo]) (ds:=[]) (mk_TMove b0.fUnit b0.fFrom b0.fTo) (AC _ _))
 have s0:=Ax h2_3 d0
 have J0:=Al u0 g0
 refine BD (i:=3) (readyD_ok c0 (by kernel_rfl)) (Bo (m' :=63) (stepC_ok c0 (by kernel_rfl)) rfl rfl .plain rfl (AR (α:=TMove) (ys:=a2.fDone) E0 d0 (fun _ _=>(.tl .hd)) el46 rfl rfl J0 (Bw s0)) (fun K0 t1 ⟨G0,H0,x0,I0⟩=>?_))
 obtain ⟨D3,j2⟩:=AD H0 (.one .hd (.one .hd (.one .hd (.one (.tl .hd) .done))))
 have c5:=Al q0 (Tt x0 j2)
 have d5:=Al I0 j2
 have R5:=Tt t0 (Tt g0 (Tt x0 j2))
 exact C0 ((vS p0 1),[vI b0.fUnit,vI b0.fFrom,vI b0.fTo],K0,G0) _ _ ⟨rfl,rfl,rfl,rfl,trivial⟩ ⟨D3,R5,c5,d5⟩
 refine BI (m' :=54) (stepC_ok c0 (by kernel_rfl)) rfl .plain rfl (AE (α:=TMove) (xs:=([b0]:List TMove)) (vs:=[.agg #[vI b0.fUnit,vI b0.fFrom,vI b0.fTo]]) (ds' :=[vI b0.fUnit,vI b0.fFrom,vI b0.fTo]) rfl Q0 el46 rfl (e1 rfl) (by kernel_rfl) rfl) (fun F0 p0 d0 g0=>?_)
 have q0:=Ar (cs:=[vI b0.fUnit,vI b0.fFrom,vI b0.fTo]) (xs:=(([b0]:List TMove):List TMove)) d0 L (Aq (cs:=[vI b0.fUnit,vI b0.fFrom,vI b0.fTo]) (ds:=[]) (mk_TMove b0.fUnit b0.fFrom b0.fTo) (AC _ _))
 refine RD.nu 0 55 c0 rfl .plain rfl (AE (α:=TMove) (xs:=([]:List TMove)) (vs:=[]) (ds' :=[]) rfl d0 el46 rfl evs_nil (by kernel_rfl) rfl) (fun u1 d1 j0 t0=>?_)
 have u0:=Ar (cs:=[]) (xs:=(([]:List TMove):List TMove)) j0 L (AC _ _)
 have s0:=Ax h2_3 j0
 refine BD (i:=3) (readyD_ok c0 (by kernel_rfl)) (Bo (m' :=63) (stepC_ok c0 (by kernel_rfl)) rfl rfl .plain rfl (AR (α:=TMove) (ys:=a2.fDone) E0 j0 (fun _ _=>.hd) el46 rfl rfl u0 (Bw s0)) (fun B0 V0 ⟨y0,v0,z0,A0⟩=>?_))
 obtain ⟨E3,z2⟩:=AD v0 (.one (.tl .hd) (.one .hd (.one .hd (.one (.tl .hd) .done))))
 have G2:=Tt t0 (Tt z0 z2)
 have g5:=Al q0 G2
 have j5:=Al A0 z2
 exact C0 ((vS p0 1),[vI b0.fUnit,vI b0.fFrom,vI b0.fTo],B0,y0) _ _ ⟨rfl,rfl,rfl,rfl,trivial⟩ ⟨E3,(Tt g0 G2),g5,j5⟩
 refine BI (m' :=50) (stepC_ok c0 (by kernel_rfl)) rfl .plain rfl (AE (α:=TMove) (xs:=([b0]:List TMove)) (vs:=[.agg #[vI b0.fUnit,vI b0.fFrom,vI b0.fTo]]) (ds' :=[vI b0.fUnit,vI b0.fFrom,vI b0.fTo]) rfl Q0 el46 rfl (e1 rfl) (by kernel_rfl) rfl) (fun F0 p0 d0 g0=>?_)
 have q0:=Ar (cs:=[vI b0.fUnit,vI b0.fFrom,vI b0.fTo]) (xs:=(([b0]:List TMove):List TMove)) d0 L (Aq (cs:=[vI b0.fUnit,vI b0.fFrom,vI b0.fTo]) (ds:=[]) (mk_TMove b0.fUnit b0.fFrom b0.fTo) (AC _ _))
 refine AT 2 54 456 c0 rfl A1 (AA rfl ((d0.memA (.tl (.tl (.tl (.tl .hd))))) 3 _ rfl)) rfl<|RD.nu 0 55 c0 rfl .plain rfl (AE (α:=TMove) (xs:=([]:List TMove)) (vs:=[]) (ds' :=[]) rfl d0 el46 rfl evs_nil (by kernel_rfl) rfl) (fun u1 d1 j0 t0=>?_)
 have u0:=Ar (cs:=[]) (xs:=(([]:List TMove):List TMove)) j0 L (AC _ _)
 have s0:=Ax h2_3 j0
 refine BD (i:=3) (readyD_ok c0 (by kernel_rfl)) (Bo (m' :=63) (stepC_ok c0 (by kernel_rfl)) rfl rfl .plain rfl (AR (α:=TMove) (ys:=a2.fDone) E0 j0 (fun _ _=>.hd) el46 rfl rfl u0 (Bw s0)) (fun B0 V0 ⟨y0,v0,z0,A0⟩=>?_))
 obtain ⟨F3,A2⟩:=AD v0 (.one (.tl .hd) (.one .hd (.one .hd (.one (.tl .hd) .done))))
 have H2:=Tt t0 (Tt z0 A2)
 have k5:=Al q0 H2
 have p5:=Al A0 A2
 exact C0 ((vS p0 1),[vI b0.fUnit,vI b0.fFrom,vI b0.fTo],B0,y0) _ _ ⟨rfl,rfl,rfl,rfl,trivial⟩ ⟨F3,(Tt g0 H2),k5,p5⟩
 refine Ae<|Ab (AV (vs:=[]) (u:=.agg #[vI 0,vN,vN,vN,vN]) evs_nil (fun w9=>by kernel_rfl))<|Ac rfl<|Bk [vI 0,vN,vN,vN,vN] D0 .hd (onesB rfl) (fun X6 Y0 B6=>?_)
 refine Ag rfl<|Aa<|Am rfl ?_
 have I2:=AL (α:=Int) Y0 L
 have J2:=AL (α:=TMove) Y0 L
 refine Ay hb0 Tryz.func34 rfl (.cons (.many (cs:=[vI 0,vN,vN,vN,vN]) (by kernel_rfl) rfl (Y0.memA .hd)) (.cons (.tmp rfl) .nil)) rfl ?_
 cases h
 exact ⟨Y0.ag,fun w9 hw9=>⟨vN,vN,vN,vN,rfl,Y0.kd I2 hw9,Y0.kd I2 hw9,Y0.kd J2 hw9,Y0.kd J2 hw9⟩⟩
theorem body14:bodyB Tryz.prog 14 = true:=by kernel_rfl
theorem body33:bodyB Tryz.prog 33 = true:=by kernel_rfl
theorem body34:bodyB Tryz.prog 34 = true:=by kernel_rfl
def wardmoteref26_Do_p (n:Nat) (a0:TGraph) (a1:TRoll) (a2:TSession) (a3:UInt8 × UInt8):Option (TSession × Int):=
  jn (fun k0=>(if k0 = true then (wardmoteref26_Undo_p n a0 a1 a2).bind fun d0=>some (d0.1,d0.2) else jn (fun p0=>(if p0 = true then (wardmoteref26_Redo_p n a0 a1 a2).bind fun g0=>some (g0.1,g0.2) else (wardmoteref26_Make_p n a0 a1 a2 ((a3.1.toNat % 16:Nat):Int) ((a3.2.toNat % 8:Nat):Int)).bind fun j0=>some (j0.1,j0.2))) (fun c0=>(if ((a3.1 % (16:UInt8)).toNat) = 12 then c0 (decide (((a3.1 % (16:UInt8)).toNat) = 12)) else c0 (decide (((a3.1 % (16:UInt8)).toNat) = 11)))))) (fun b0=>(if ((a3.1 % (16:UInt8)).toNat) = 15 then b0 (decide (((a3.1 % (16:UInt8)).toNat) = 15)) else (if ((a3.1 % (16:UInt8)).toNat) = 14 then b0 (decide (((a3.1 % (16:UInt8)).toNat) = 14)) else b0 (decide (((a3.1 % (16:UInt8)).toNat) = 13)))))
theorem wardmoteref26_Do_c (n:Nat) (L:List Nat) (w:World) (hL:∀ b ∈ L,b < w.heap.size) (a0:TGraph) {v0_1:Value} (h0_1:Rep.R w L [v0_1] a0.fEdges) (a1:TRoll) {v1_3:Value} (h1_3:Rep.R w L [v1_3] a1.fUnits) (a2:TSession) {v2_1:Value} (h2_1:Rep.R w L [v2_1] a2.fPlan) {v2_2:Value} (h2_2:Rep.R w L [v2_2] a2.fTotals) {v2_3:Value} (h2_3:Rep.R w L [v2_3] a2.fDone) {v2_4:Value} (h2_4:Rep.R w L [v2_4] a2.fUndone) (a3:UInt8 × UInt8)  {r:TSession × Int} (h:wardmoteref26_Do_p n a0 a1 a2 a3 = some r) :
    Calls Tryz.prog 40 #[.agg #[vI a0.fN,v0_1],.agg #[vI a1.fGroups,vI a1.fParties,vI a1.fLevels,v1_3],.agg #[vI a2.fK,v2_1,v2_2,v2_3,v2_4],.agg #[.int .u8 (a3.1.toNat:Int),.int .u8 (a3.2.toNat:Int)]] w (Gives w fun w' u=>∃ v0_1 v0_2 v0_3 v0_4:Value,u = .tuple #[.agg #[vI r.1.fK,v0_1,v0_2,v0_3,v0_4],vI r.2]∧Rep.R w' L [v0_1] r.1.fPlan∧Rep.R w' L [v0_2] r.1.fTotals∧Rep.R w' L [v0_3] r.1.fDone∧Rep.R w' L [v0_4] r.1.fUndone):=by
 unfold wardmoteref26_Do_p at h
 have hS0:=AK w
 refine AM Tryz.func40 rfl rfl rfl (fun _ cs0 hb0=>?_)
 refine Ae<|Az .plain rfl (AI hS0 rfl rfl) (fun w2 b5 hS3 hT4=>?_)
 refine Az .plain rfl (AI hS3 rfl rfl) (fun w7 d0 hS8 hT9=>?_)
 refine Az .plain rfl (AI hS8 rfl rfl) (fun E2 g0 A1 k2=>?_)
 refine Az .plain rfl (AI A1 rfl rfl) (fun F2 j0 B1 p2=>?_)
 refine Az .plain rfl (AX [vI 0,vN,vN,vN,vN] B1) (fun d2 k0 v0 q2=>?_)
 refine Ag rfl<|Aa<|Ak<|Ae<|Ab (BN (m:=1) (k:=0) (len:=2) (by kernel_rfl) rfl rfl rfl (by omega))<|AS rfl ((v0.memA (.tl .hd)) 0 _ rfl)<|Ab (FV.rem8 (a:=a3.1) (b:=(16:UInt8)) rfl rfl (by decide))<|Aa<|AB<|Ak<|Ae<|Ab (BR (i:=(a3.1 % (16:UInt8)).toNat) (j:=15) rfl rfl)<|Ag rfl<|Aa<|MX.join (α:=Bool) (fun t0=>[(4,vP b5),(5,vP d0),(6,vP g0),(7,vP j0),(8,vP k0),(12,.int .u8 ((a3.1 % (16:UInt8)).toNat:Int)),(13,.bool t0)]) (fun t0 A0=>St w A0 [.cells k0 [vI 0,vN,vN,vN,vN] 48,.cells j0 [.int .u8 (a3.1.toNat:Int),.int .u8 (a3.2.toNat:Int)] 34,.cells g0 [vI a2.fK,v2_1,v2_2,v2_3,v2_4] 48,.cells d0 [vI a1.fGroups,vI a1.fParties,vI a1.fLevels,v1_3] 41,.cells b5 [vI a0.fN,v0_1] 38]∧Tr d2 [.cells k0 [vI 0,vN,vN,vN,vN] 48,.cells j0 [.int .u8 (a3.1.toNat:Int),.int .u8 (a3.2.toNat:Int)] 34,.cells g0 [vI a2.fK,v2_1,v2_2,v2_3,v2_4] 48,.cells d0 [vI a1.fGroups,vI a1.fParties,vI a1.fLevels,v1_3] 41,.cells b5 [vI a0.fN,v0_1] 38] A0 [.cells k0 [vI 0,vN,vN,vN,vN] 48,.cells j0 [.int .u8 (a3.1.toNat:Int),.int .u8 (a3.2.toNat:Int)] 34,.cells g0 [vI a2.fK,v2_1,v2_2,v2_3,v2_4] 48,.cells d0 [vI a1.fGroups,vI a1.fParties,vI a1.fLevels,v1_3] 41,.cells b5 [vI a0.fN,v0_1] 38]) (fun t0=>t0) h ?_ ?_
 rintro t0 A0 ⟨c0,s2⟩ h
 try dsimp only at h
 refine MX.ifb rfl h (fun y1 h=>?_) (fun y1 h=>?_)
 refine Ae<|Ab (AG rfl (c0.memA (.tl (.tl (.tl (.tl .hd))))))<|Ab (AG rfl (c0.memA (.tl (.tl (.tl .hd)))))<|Ab (AG rfl (c0.memA (.tl (.tl .hd)))) ?_
 obtain ⟨q1,Z1,h⟩:=bi h
 refine Bx (fst:=[]) (cap:=[]) .plain body33 rfl (e3 rfl rfl rfl) (fun w9 hw9=>wardmoteref26_Undo_c n _ w9 (c0.hL hL hw9) a0 (c0.km h0_1 hw9) a1 (c0.km h1_3 hw9) a2 (c0.km h2_1 hw9) (c0.km h2_2 hw9) (c0.km h2_3 hw9) (c0.km h2_4 hw9) Z1) rfl (fun G2 A2 F1 ⟨C0,D0,E0,F0,hu_,W0,X0,Y0,Z0⟩=>?_)
 subst hu_
 obtain ⟨C1,t2⟩:=c0.agr F1
 refine Ab (Au rfl rfl)<|Ab (Au rfl rfl)<|Bk [vI q1.1.fK,C0,D0,E0,F0] C1 .hd (o5 rfl (AP W0) (AP X0) (AP Y0) (AP Z0)) (fun H2 q0 y0=>?_)
 refine Ag rfl<|Aa<|Am rfl<|Ay hb0 Tryz.func40 rfl (.cons (.many (cs:=[vI q1.1.fK,C0,D0,E0,F0]) (by kernel_rfl) rfl (q0.memA .hd)) (.cons (.tmp rfl) .nil)) rfl ?_
 cases h
 have P1:=Aj W0 y0
 have Q1:=Aj X0 y0
 have R1:=Aj Y0 y0
 have U1:=Aj Z0 y0
 exact ⟨q0.ag,fun w9 hw9=>⟨C0,D0,E0,F0,rfl,q0.kd P1 hw9,q0.kd Q1 hw9,q0.kd R1 hw9,q0.kd U1 hw9⟩⟩
 refine Ak<|Ae<|Ab (BR (i:=(a3.1 % (16:UInt8)).toNat) (j:=12) rfl rfl)<|Ag rfl<|Aa<|MX.join (α:=Bool) (fun u0=>[(4,vP b5),(5,vP d0),(6,vP g0),(7,vP j0),(8,vP k0),(23,.bool u0)]) (fun u0 R0=>St w R0 [.cells k0 [vI 0,vN,vN,vN,vN] 48,.cells j0 [.int .u8 (a3.1.toNat:Int),.int .u8 (a3.2.toNat:Int)] 34,.cells g0 [vI a2.fK,v2_1,v2_2,v2_3,v2_4] 48,.cells d0 [vI a1.fGroups,vI a1.fParties,vI a1.fLevels,v1_3] 41,.cells b5 [vI a0.fN,v0_1] 38]∧Tr A0 [.cells k0 [vI 0,vN,vN,vN,vN] 48,.cells j0 [.int .u8 (a3.1.toNat:Int),.int .u8 (a3.2.toNat:Int)] 34,.cells g0 [vI a2.fK,v2_1,v2_2,v2_3,v2_4] 48,.cells d0 [vI a1.fGroups,vI a1.fParties,vI a1.fLevels,v1_3] 41,.cells b5 [vI a0.fN,v0_1] 38] R0 [.cells k0 [vI 0,vN,vN,vN,vN] 48,.cells j0 [.int .u8 (a3.1.toNat:Int),.int .u8 (a3.2.toNat:Int)] 34,.cells g0 [vI a2.fK,v2_1,v2_2,v2_3,v2_4] 48,.cells d0 [vI a1.fGroups,vI a1.fParties,vI a1.fLevels,v1_3] 41,.cells b5 [vI a0.fN,v0_1] 38]) (fun u0=>u0) h ?_ ?_
 rintro u0 R0 ⟨b0,u2⟩ h
 try dsimp only at h
 refine MX.ifb rfl h (fun z1 h=>?_) (fun z1 h=>?_)
 refine Ae<|Ab (AG rfl (b0.memA (.tl (.tl (.tl (.tl .hd))))))<|Ab (AG rfl (b0.memA (.tl (.tl (.tl .hd)))))<|Ab (AG rfl (b0.memA (.tl (.tl .hd)))) ?_
 obtain ⟨s1,b2,h⟩:=bi h
 refine Bx (fst:=[]) (cap:=[]) .plain body34 rfl (e3 rfl rfl rfl) (fun w9 hw9=>wardmoteref26_Redo_c n _ w9 (b0.hL hL hw9) a0 (b0.km h0_1 hw9) a1 (b0.km h1_3 hw9) a2 (b0.km h2_1 hw9) (b0.km h2_2 hw9) (b0.km h2_3 hw9) (b0.km h2_4 hw9) b2) rfl (fun I2 B2 G1 ⟨G0,H0,I0,J0,hu_,b1,c1,d1,g1⟩=>?_)
 subst hu_
 obtain ⟨D1,v2⟩:=b0.agr G1
 refine Ab (Au rfl rfl)<|Ab (Au rfl rfl)<|Bk [vI s1.1.fK,G0,H0,I0,J0] D1 .hd (o5 rfl (AP b1) (AP c1) (AP d1) (AP g1)) (fun J2 s0 z0=>?_)
 refine Ag rfl<|Aa<|Am rfl<|Ay hb0 Tryz.func40 rfl (.cons (.many (cs:=[vI s1.1.fK,G0,H0,I0,J0]) (by kernel_rfl) rfl (s0.memA .hd)) (.cons (.tmp rfl) .nil)) rfl ?_
 cases h
 have V1:=Aj b1 z0
 have W1:=Aj c1 z0
 have X1:=Aj d1 z0
 have Y1:=Aj g1 z0
 exact ⟨s0.ag,fun w9 hw9=>⟨G0,H0,I0,J0,rfl,s0.kd V1 hw9,s0.kd W1 hw9,s0.kd X1 hw9,s0.kd Y1 hw9⟩⟩
 refine Ao<|AF<|Ae<|Ab (AG rfl (b0.memA (.tl (.tl (.tl (.tl .hd))))))<|Ab (AG rfl (b0.memA (.tl (.tl (.tl .hd)))))<|Ab (AG rfl (b0.memA (.tl (.tl .hd))))<|Ab (BN (m:=1) (k:=0) (len:=2) (by kernel_rfl) rfl rfl rfl (by omega))<|AS rfl ((b0.memA (.tl .hd)) 0 _ rfl) ?_
 have y2:=a3.1.toNat_lt
 refine Ab (FV.convN (i:=a3.1.toNat) Tryz.underlying5 Tryz.underlying3 rfl (by omega))<|Ab (FV.remN (i:=a3.1.toNat) (j:=16) rfl rfl rfl)<|Ab (BN (m:=1) (k:=1) (len:=2) (by kernel_rfl) rfl rfl rfl (by omega))<|AS rfl ((b0.memA (.tl .hd)) 1 _ rfl) ?_
 have z2:=a3.2.toNat_lt
 refine Ab (FV.convN (i:=a3.2.toNat) Tryz.underlying5 Tryz.underlying3 rfl (by omega))<|Ab (FV.remN (i:=a3.2.toNat) (j:=8) rfl rfl rfl) ?_
 obtain ⟨t1,c2,h⟩:=bi h
 refine Bx (fst:=[]) (cap:=[]) .plain body14 rfl (e5 rfl rfl rfl rfl rfl) (fun w9 hw9=>wardmoteref26_Make_c n _ w9 (b0.hL hL hw9) a0 (b0.km h0_1 hw9) a1 (b0.km h1_3 hw9) a2 (b0.km h2_1 hw9) (b0.km h2_2 hw9) (b0.km h2_3 hw9) (b0.km h2_4 hw9) ((a3.1.toNat % 16:Nat):Int) ((a3.2.toNat % 8:Nat):Int) c2) rfl (fun K2 C2 H1 ⟨K0,M0,P0,Q0,hu_,j1,k1,p1,V0⟩=>?_)
 subst hu_
 obtain ⟨E1,x2⟩:=b0.agr H1
 refine Ab (Au rfl rfl)<|Ab (Au rfl rfl)<|Bk [vI t1.1.fK,K0,M0,P0,Q0] E1 .hd (o5 rfl (AP j1) (AP k1) (AP p1) (AP V0)) (fun D2 p0 x0=>?_)
 refine Ag rfl<|Aa<|Am rfl<|Ay hb0 Tryz.func40 rfl (.cons (.many (cs:=[vI t1.1.fK,K0,M0,P0,Q0]) (by kernel_rfl) rfl (p0.memA .hd)) (.cons (.tmp rfl) .nil)) rfl ?_
 cases h
 have I1:=Aj j1 x0
 have J1:=Aj k1 x0
 have K1:=Aj p1 x0
 have M1:=Aj V0 x0
 exact ⟨p0.ag,fun w9 hw9=>⟨K0,M0,P0,Q0,rfl,p0.kd I1 hw9,p0.kd J1 hw9,p0.kd K1 hw9,p0.kd M1 hw9⟩⟩
 intro j2 U0 h
 try dsimp only at h
 refine AW rfl h (fun u1 h=>?_) (fun u1 h=>?_)
 refine Ao ?_
 exact U0 (decide (((a3.1 % (16:UInt8)).toNat) = 12)) _ _ ⟨rfl,rfl,rfl,rfl,rfl,rfl,trivial⟩ ⟨c0,AN _ _⟩ h
 refine Aw<|Ab (BR (i:=(a3.1 % (16:UInt8)).toNat) (j:=11) rfl rfl)<|Ag rfl<|Aa ?_
 exact U0 (decide (((a3.1 % (16:UInt8)).toNat) = 11)) _ _ ⟨rfl,rfl,rfl,rfl,rfl,rfl,trivial⟩ ⟨c0,AN _ _⟩ h
 intro g2 B0 h
 try dsimp only at h
 refine AW rfl h (fun v1 h=>?_) (fun v1 h=>?_)
 refine Ao ?_
 exact B0 (decide (((a3.1 % (16:UInt8)).toNat) = 15)) _ _ ⟨rfl,rfl,rfl,rfl,rfl,rfl,rfl,trivial⟩ ⟨v0,AN _ _⟩ h
 refine Ae<|Ab (BR (i:=(a3.1 % (16:UInt8)).toNat) (j:=14) rfl rfl)<|Ag rfl<|Aa<|AW rfl h (fun x1 h=>?_) (fun x1 h=>?_)
 refine Ao ?_
 exact B0 (decide (((a3.1 % (16:UInt8)).toNat) = 14)) _ _ ⟨rfl,rfl,rfl,rfl,rfl,rfl,rfl,trivial⟩ ⟨v0,AN _ _⟩ h
 refine Aw<|Ab (BR (i:=(a3.1 % (16:UInt8)).toNat) (j:=13) rfl rfl)<|Ag rfl<|Aa ?_
 exact B0 (decide (((a3.1 % (16:UInt8)).toNat) = 13)) _ _ ⟨rfl,rfl,rfl,rfl,rfl,rfl,rfl,trivial⟩ ⟨v0,AN _ _⟩ h
def tb11_5:List (Nat × Nat × Nat):=[(0,68719476736,64),(0,137438953472,128),(0,274877906944,2048),(0,549755813888,32),(8,1099511627776,549755813888),(0,2199023255552,8192),(48,4398046511104,3298534883328),(64,8796093022208,4398046511104),(135,17592186044416,9277129359360),(256,34359738368,17592186044416),(512,35184372088832,34359738368),(512,70368744177664,34359738368),(0,16384,0),(6143,0,35184372105216),(16383,32768,70368744177664)]
theorem body36:bodyB Tryz.prog 36 = true:=by kernel_rfl
theorem body40:bodyB Tryz.prog 40 = true:=by kernel_rfl
def wardmoteref26_Draft_Session_l1 (n:Nat) (a0:TDraft28) (a1:TGraph) (a2:TRoll) (q0:Nat × Int × (List Int) × (List Int) × (List TMove) × (List TMove) → Option (Int × (List Int) × (List Int) × (List TMove) × (List TMove))):Nat × Int × (List Int) × (List Int) × (List TMove) × (List TMove) → Option (Int × (List Int) × (List Int) × (List TMove) × (List TMove))
  | (c0,p0,d0,g0,j0,k0)=>(if c0 < a0.fL.length then (if c0 < 12 then (a0.fL[c0]?).bind fun s0=>(wardmoteref26_Do_p n a1 a2 (⟨p0,d0,g0,j0,k0⟩:TSession) s0).bind fun b0=>(if b0.2 = 0 then q0 (c0 + 1,b0.1.fK,b0.1.fPlan,b0.1.fTotals,b0.1.fDone,b0.1.fUndone) else q0 (c0 + 1,p0,d0,g0,j0,k0)) else some (p0,d0,g0,j0,k0)) else some (p0,d0,g0,j0,k0))
def wardmoteref26_Draft_Session_p (n:Nat) (a0:TDraft28) (a1:TGraph) (a2:TRoll) (a3:List Int) (a4:Int):Option TSession:=
  (wardmoteref26_Start_p n a1 a2 a3 a4).bind fun b0=>jn (fun (p0,d0,g0,j0,k0)=>some (⟨p0,d0,g0,j0,k0⟩:TSession)) (fun c0=>Option.bind (loopF (wardmoteref26_Draft_Session_l1 n a0 a1 a2) n (0,b0.1.fK,b0.1.fPlan,b0.1.fTotals,b0.1.fDone,b0.1.fUndone)) (c0))
theorem wardmoteref26_Draft_Session_c (n:Nat) (L:List Nat) (w:World) (hL:∀ b ∈ L,b < w.heap.size) (a0:TDraft28) {v0_0:Value} (h0_0:Rep.R w L [v0_0] a0.fL) (a1:TGraph) {v1_1:Value} (h1_1:Rep.R w L [v1_1] a1.fEdges) (a2:TRoll) {v2_3:Value} (h2_3:Rep.R w L [v2_3] a2.fUnits) (a3:List Int) {v3_0:Value} (h3_0:Rep.R w L [v3_0] a3) (a4:Int)  {r:TSession} (h:wardmoteref26_Draft_Session_p n a0 a1 a2 a3 a4 = some r) :
    Calls Tryz.prog 11 #[.agg #[v0_0],.agg #[vI a1.fN,v1_1],.agg #[vI a2.fGroups,vI a2.fParties,vI a2.fLevels,v2_3],v3_0,vI a4] w (Gives w fun w' u=>∃ v0_1 v0_2 v0_3 v0_4:Value,u = .agg #[vI r.fK,v0_1,v0_2,v0_3,v0_4]∧Rep.R w' L [v0_1] r.fPlan∧Rep.R w' L [v0_2] r.fTotals∧Rep.R w' L [v0_3] r.fDone∧Rep.R w' L [v0_4] r.fUndone):=by
 unfold wardmoteref26_Draft_Session_p at h
 have hS0:=AK w
 refine AM Tryz.func11 rfl rfl rfl (fun _ cs0 hb0=>?_)
 refine Ae<|Az .plain rfl (AI hS0 rfl rfl) (fun w2 b5 hS3 hT4=>?_)
 refine Az .plain rfl (AI hS3 rfl rfl) (fun w7 s0 hS8 hT9=>?_)
 refine Az .plain rfl (AI hS8 rfl rfl) (fun g5 t0 x2 R4=>?_)
 refine Az .plain rfl (AX [vI 0,vN,vN,vN,vN] x2) (fun k5 b0 Q0 V4=>?_)
 refine Aa<|Ae<|Ab (AG rfl (Q0.memA (.tl (.tl .hd))))<|Ab (AG rfl (Q0.memA (.tl .hd)))<|Ac rfl<|Ac rfl ?_
 obtain ⟨P0,z4,h⟩:=bi h
 refine Bx (fst:=[]) (cap:=[]) .plain body36 rfl (e4 rfl rfl rfl rfl) (fun w9 hw9=>wardmoteref26_Start_c n _ w9 (Q0.hL hL hw9) a1 (Q0.km h1_1 hw9) a2 (Q0.km h2_3 hw9) a3 (Q0.km h3_0 hw9) a4 z4) rfl (fun p5 d5 V2 ⟨C1,D1,E1,F1,hu_,d2,g2,j2,k2⟩=>?_)
 subst hu_
 obtain ⟨G2,W4⟩:=Q0.agr V2
 refine Ac rfl<|Ab (Au rfl rfl)<|Ab (Au rfl rfl)<|Az .plain rfl (AX [vI 0,vN,vN,vN,vN] G2) (fun v5 c0 H2 K0=>?_)
 have Z3:=Aj d2 K0
 have b4:=Aj g2 K0
 have c4:=Aj j2 K0
 have d4:=Aj k2 K0
 refine Bk [vI P0.1.fK,C1,D1,E1,F1] H2 .hd (o5 rfl (AP Z3) (AP b4) (AP c4) (AP d4)) (fun q2 I2 B1=>?_)
 refine Ag rfl<|Aa<|Ak<|Ae<|Ag rfl<|Aa<|AB<|MX.joinx (α:=Int × (List Int) × (List Int) × (List TMove) × (List TMove) × Value × Value × Value × Value) (fun ⟨D0,u1,v1,x1,y1,z0,A0,B0,C0⟩=>[(10,vP b0),(11,vP c0)]) (fun ⟨D0,u1,v1,x1,y1,z0,A0,B0,C0⟩ X0=>St w X0 [.cells c0 [vI D0,z0,A0,B0,C0] 48,.cells b0 [vI 0,vN,vN,vN,vN] 48]∧Tr q2 [.cells c0 [vI P0.1.fK,C1,D1,E1,F1] 48,.cells b0 [vI 0,vN,vN,vN,vN] 48,.cells t0 [vI a2.fGroups,vI a2.fParties,vI a2.fLevels,v2_3] 41,.cells s0 [vI a1.fN,v1_1] 38,.cells b5 [v0_0] 29] X0 [.cells c0 [vI D0,z0,A0,B0,C0] 48,.cells b0 [vI 0,vN,vN,vN,vN] 48]∧Rep.R X0 (bl [.cells c0 [vI D0,z0,A0,B0,C0] 48,.cells b0 [vI 0,vN,vN,vN,vN] 48] ++ L) [z0] u1∧Rep.R X0 (bl [.cells c0 [vI D0,z0,A0,B0,C0] 48,.cells b0 [vI 0,vN,vN,vN,vN] 48] ++ L) [A0] v1∧Rep.R X0 (bl [.cells c0 [vI D0,z0,A0,B0,C0] 48,.cells b0 [vI 0,vN,vN,vN,vN] 48] ++ L) [B0] x1∧Rep.R X0 (bl [.cells c0 [vI D0,z0,A0,B0,C0] 48,.cells b0 [vI 0,vN,vN,vN,vN] 48] ++ L) [C0] y1) (fun ⟨D0,u1,v1,x1,y1,z0,A0,B0,C0⟩=>(D0,u1,v1,x1,y1)) (id:=0) rfl h ?_ ?_
 rintro ⟨D0,u1,v1,x1,y1,z0,A0,B0,C0⟩ X0 ⟨V1,U4,Y1,Z1,b2,c2⟩ h
 try dsimp only at h
 refine Ae<|Ab (AG rfl (V1.memA .hd))<|Bk [vI D0,z0,A0,B0,C0] V1 (.tl .hd) (o5 rfl (AP Y1) (AP Z1) (AP b2) (AP c2)) (fun j5 Z0 z1=>?_)
 refine Aa<|Am rfl<|Ay hb0 Tryz.func11 rfl (.cons (.many (cs:=[vI D0,z0,A0,B0,C0]) (by kernel_rfl) rfl (Z0.memA (.tl .hd))) .nil) rfl ?_
 cases h
 have Y2:=Aj Y1 z1
 have Z2:=Aj Z1 z1
 have b3:=Aj b2 z1
 have c3:=Aj c2 z1
 exact ⟨Z0.ag,fun w9 hw9=>⟨z0,A0,B0,C0,rfl,Z0.kd Y2 hw9,Z0.kd Z2 hw9,Z0.kd b3 hw9,Z0.kd c3 hw9⟩⟩
 intro K4 Q1 h
 try dsimp only at h
 have d3:=Aj d2 (Tt K0 B1)
 have g3:=Aj g2 (Tt K0 B1)
 have j3:=Aj j2 (Tt K0 B1)
 have k3:=Aj k2 (Tt K0 B1)
 obtain ⟨Y4,g4,X1⟩:=bind_in2 h
 refine Bp (α:=Nat × Int × (List Int) × (List Int) × (List TMove) × (List TMove) × Value × Value × Value × Value) (fun ⟨y0,g0,F0,G0,H0,I0,j0,k0,p0,q0⟩=>[(5,vP b5),(6,vP s0),(7,vP t0),(10,vP b0),(11,vP c0),(13,vI ((y0:Nat):Int))]) (fun ⟨y0,g0,F0,G0,H0,I0,j0,k0,p0,q0⟩ M0=>St w M0 [.cells c0 [vI g0,j0,k0,p0,q0] 48,.cells b0 [vI 0,vN,vN,vN,vN] 48,.cells t0 [vI a2.fGroups,vI a2.fParties,vI a2.fLevels,v2_3] 41,.cells s0 [vI a1.fN,v1_1] 38,.cells b5 [v0_0] 29]∧Tr q2 [.cells c0 [vI P0.1.fK,C1,D1,E1,F1] 48,.cells b0 [vI 0,vN,vN,vN,vN] 48,.cells t0 [vI a2.fGroups,vI a2.fParties,vI a2.fLevels,v2_3] 41,.cells s0 [vI a1.fN,v1_1] 38,.cells b5 [v0_0] 29] M0 [.cells c0 [vI g0,j0,k0,p0,q0] 48,.cells b0 [vI 0,vN,vN,vN,vN] 48,.cells t0 [vI a2.fGroups,vI a2.fParties,vI a2.fLevels,v2_3] 41,.cells s0 [vI a1.fN,v1_1] 38,.cells b5 [v0_0] 29]∧Rep.R M0 (bl [.cells c0 [vI g0,j0,k0,p0,q0] 48,.cells b0 [vI 0,vN,vN,vN,vN] 48,.cells t0 [vI a2.fGroups,vI a2.fParties,vI a2.fLevels,v2_3] 41,.cells s0 [vI a1.fN,v1_1] 38,.cells b5 [v0_0] 29] ++ L) [j0] F0∧Rep.R M0 (bl [.cells c0 [vI g0,j0,k0,p0,q0] 48,.cells b0 [vI 0,vN,vN,vN,vN] 48,.cells t0 [vI a2.fGroups,vI a2.fParties,vI a2.fLevels,v2_3] 41,.cells s0 [vI a1.fN,v1_1] 38,.cells b5 [v0_0] 29] ++ L) [k0] G0∧Rep.R M0 (bl [.cells c0 [vI g0,j0,k0,p0,q0] 48,.cells b0 [vI 0,vN,vN,vN,vN] 48,.cells t0 [vI a2.fGroups,vI a2.fParties,vI a2.fLevels,v2_3] 41,.cells s0 [vI a1.fN,v1_1] 38,.cells b5 [v0_0] 29] ++ L) [p0] H0∧Rep.R M0 (bl [.cells c0 [vI g0,j0,k0,p0,q0] 48,.cells b0 [vI 0,vN,vN,vN,vN] 48,.cells t0 [vI a2.fGroups,vI a2.fParties,vI a2.fLevels,v2_3] 41,.cells s0 [vI a1.fN,v1_1] 38,.cells b5 [v0_0] 29] ++ L) [q0] I0) (fun ⟨y0,g0,F0,G0,H0,I0,j0,k0,p0,q0⟩=>(y0,g0,F0,G0,H0,I0)) (0,P0.1.fK,P0.1.fPlan,P0.1.fTotals,P0.1.fDone,P0.1.fUndone,C1,D1,E1,F1) g4 ⟨rfl,rfl,rfl,rfl,rfl,rfl,trivial⟩ ⟨I2,AN _ _,d3,g3,j3,k3⟩ ?_
 rintro M4 ⟨y0,g0,F0,G0,H0,I0,j0,k0,p0,q0⟩ M0 R1 ⟨x0,A1,p1,q1,s1,t1⟩ h
 unfold wardmoteref26_Draft_Session_l1 at h
 try dsimp only at h
 refine Ak<|Ae<|Ac rfl<|AH 0 rfl<|Ab (AA rfl ((x0.memA (.tl (.tl (.tl (.tl .hd))))) 0 _ rfl)) ?_
 have I1:=Ax h0_0 x0
 have X4:a0.fL.length ≤ 281474976710656:=AZ I1
 refine Ab (Bj (xs:=a0.fL) Tryz.underlying23 rfl I1)<|Ab (BA (i:=y0) (j:=a0.fL.length) rfl rfl)<|Ac rfl<|Bi (s:=29) rfl h (fun t2 h=>?_) (fun t2 h=>?_)
 refine Ap (Ai rfl)<|Ap (BA (i:=y0) (j:=12) rfl rfl)<|AU rfl rfl<|Aa<|AW rfl h (fun u2 h=>?_) (fun u2 h=>?_)
 refine Ao<|Ak<|AB<|Ak<|Bm 13 tb11_5 (by kernel_rfl) (by kernel_rfl) (by kernel_rfl) (fun d0 u0=>?_)
 refine AT 0 1 28416 d0 rfl u0 (AG rfl (x0.memA (.tl (.tl (.tl .hd))))) rfl<|AT 1 3 28416 d0 rfl u0 (AG rfl (x0.memA (.tl (.tl .hd)))) rfl<|AT 2 7 28416 d0 rfl u0 (AG rfl (x0.memA .hd)) rfl<|Ah 3 15 d0 rfl u0 (fun _=>Bt 0 rfl) rfl<|AT 4 31 28608 d0 rfl u0 (AA rfl ((x0.memA (.tl (.tl (.tl (.tl .hd))))) 0 _ rfl)) rfl<|Ah 5 63 d0 rfl u0 (fun _=>Ai rfl) rfl ?_
 obtain ⟨s2,y4,h⟩:=bi h
 obtain ⟨J4,P4,W2,X2,Q4,j4,p3⟩:=Bb I1 y4
 obtain rfl:=op_A34 j4
 refine Ah 6 127 d0 rfl u0 (fun _=>Be 2 y0 rfl W2 rfl rfl X2) rfl<|AT 7 255 28416 d0 rfl u0 (AG rfl p3) rfl ?_
 obtain ⟨v0,p2,h⟩:=bi h
 refine RD.meet (α:=Value × Value × Value × Value × Nat) (fun ⟨R0,U0,V0,W0,J0⟩=>[(5,vP b5),(6,vP s0),(7,vP t0),(10,vP b0),(11,vP c0),(13,vI ((y0:Nat):Int)),(45,.agg #[vI v0.1.fK,R0,U0,V0,W0]),(46,vI v0.2),(14,vP J0)]) (fun ⟨R0,U0,V0,W0,J0⟩ Y0=>St w Y0 [.cells J0 [vI 0,vN,vN,vN,vN] 48,.cells c0 [vI g0,j0,k0,p0,q0] 48,.cells b0 [vI 0,vN,vN,vN,vN] 48,.cells t0 [vI a2.fGroups,vI a2.fParties,vI a2.fLevels,v2_3] 41,.cells s0 [vI a1.fN,v1_1] 38,.cells b5 [v0_0] 29]∧Tr M0 [.cells c0 [vI g0,j0,k0,p0,q0] 48,.cells b0 [vI 0,vN,vN,vN,vN] 48,.cells t0 [vI a2.fGroups,vI a2.fParties,vI a2.fLevels,v2_3] 41,.cells s0 [vI a1.fN,v1_1] 38,.cells b5 [v0_0] 29] Y0 [.cells J0 [vI 0,vN,vN,vN,vN] 48,.cells c0 [vI g0,j0,k0,p0,q0] 48,.cells b0 [vI 0,vN,vN,vN,vN] 48,.cells t0 [vI a2.fGroups,vI a2.fParties,vI a2.fLevels,v2_3] 41,.cells s0 [vI a1.fN,v1_1] 38,.cells b5 [v0_0] 29]∧Rep.R Y0 (bl [.cells J0 [vI 0,vN,vN,vN,vN] 48,.cells c0 [vI g0,j0,k0,p0,q0] 48,.cells b0 [vI 0,vN,vN,vN,vN] 48,.cells t0 [vI a2.fGroups,vI a2.fParties,vI a2.fLevels,v2_3] 41,.cells s0 [vI a1.fN,v1_1] 38,.cells b5 [v0_0] 29] ++ L) [R0] v0.1.fPlan∧Rep.R Y0 (bl [.cells J0 [vI 0,vN,vN,vN,vN] 48,.cells c0 [vI g0,j0,k0,p0,q0] 48,.cells b0 [vI 0,vN,vN,vN,vN] 48,.cells t0 [vI a2.fGroups,vI a2.fParties,vI a2.fLevels,v2_3] 41,.cells s0 [vI a1.fN,v1_1] 38,.cells b5 [v0_0] 29] ++ L) [U0] v0.1.fTotals∧Rep.R Y0 (bl [.cells J0 [vI 0,vN,vN,vN,vN] 48,.cells c0 [vI g0,j0,k0,p0,q0] 48,.cells b0 [vI 0,vN,vN,vN,vN] 48,.cells t0 [vI a2.fGroups,vI a2.fParties,vI a2.fLevels,v2_3] 41,.cells s0 [vI a1.fN,v1_1] 38,.cells b5 [v0_0] 29] ++ L) [V0] v0.1.fDone∧Rep.R Y0 (bl [.cells J0 [vI 0,vN,vN,vN,vN] 48,.cells c0 [vI g0,j0,k0,p0,q0] 48,.cells b0 [vI 0,vN,vN,vN,vN] 48,.cells t0 [vI a2.fGroups,vI a2.fParties,vI a2.fLevels,v2_3] 41,.cells s0 [vI a1.fN,v1_1] 38,.cells b5 [v0_0] 29] ++ L) [W0] v0.1.fUndone) 2 8191 ?_ ?_
 rintro ⟨R0,U0,V0,W0,J0⟩ Y0 ⟨A2,W1,J1,K1,M1,P1⟩
 try dsimp only
 refine RD.nw 13 16383 d0 rfl rfl .plain (Bq (news:=[vI v0.1.fK,R0,U0,V0,W0]) A2 .hd rfl rfl rfl rfl rfl rfl (o5 rfl (AP J1) (AP K1) (AP M1) (AP P1))) (fun t5 H1 c1=>?_)
 refine Ah 14 32767 d0 rfl u0 (fun _=>BP rfl) rfl<|Bc (doneD_ok d0 (by kernel_rfl))<|Ae<|Ac rfl<|Ab (FV.eql (i:=v0.2) (j:=0) rfl rfl)<|Aa<|AW rfl h (fun v2 h=>?_) (fun v2 h=>?_)
 refine Aw<|Ab (AG rfl (H1.memA .hd)) ?_
 have v3:=Aj J1 c1
 have x3:=Aj K1 c1
 have y3:=Aj M1 c1
 have z3:=Aj P1 c1
 refine Bk [vI v0.1.fK,R0,U0,V0,W0] H1 (.tl .hd) (o5 rfl (AP v3) (AP x3) (AP y3) (AP z3)) (fun u5 B2 M2=>?_)
 refine Aa<|AF<|Aw<|Ac rfl<|Ab (Bu (i:=y0) (j:=1) rfl rfl (by omega))<|Ag rfl<|Aa ?_
 obtain ⟨C2,P2⟩:=AD B2 (.one (.tl .hd) (.one (.tl .hd) (.one (.tl .hd) (.one (.tl .hd) (.one (.tl .hd) .done)))))
 have j1:=Tt c1 (Tt M2 P2)
 have A3:=Aj J1 j1
 have B3:=Aj K1 j1
 have C3:=Aj M1 j1
 have D3:=Aj P1 j1
 exact R1 (y0 + 1,v0.1.fK,v0.1.fPlan,v0.1.fTotals,v0.1.fDone,v0.1.fUndone,R0,U0,V0,W0) _ _ ⟨rfl,rfl,rfl,rfl,rfl,rfl,trivial⟩ ⟨C2,(Tt A1 (Tt W1 j1)),A3,B3,C3,D3⟩ h
 refine Ao<|AF<|Aw<|Ac rfl<|Ab (Bu (i:=y0) (j:=1) rfl rfl (by omega))<|Ag rfl<|Aa ?_
 obtain ⟨D2,Q2⟩:=AD H1 (.one (.tl .hd) (.one (.tl .hd) (.one (.tl .hd) (.one (.tl .hd) (.one (.tl .hd) .done)))))
 have k1:=Tt W1 (Tt c1 Q2)
 have E3:=Aj p1 k1
 have F3:=Aj q1 k1
 have G3:=Aj s1 k1
 have H3:=Aj t1 k1
 exact R1 (y0 + 1,g0,F0,G0,H0,I0,j0,k0,p0,q0) _ _ ⟨rfl,rfl,rfl,rfl,rfl,rfl,trivial⟩ ⟨D2,(Tt A1 k1),E3,F3,G3,H3⟩ h
 intro U1
 refine Bv [8,12] (readyD_ok d0 (by kernel_rfl)) ⟨?_,?_,trivial⟩
 refine RO.call (m' :=511) (fst:=[]) (cap:=[]) (stepC_ok d0 (by kernel_rfl)) rfl .plain body40 rfl (e4 rfl rfl rfl rfl) (fun w9 hw9=>wardmoteref26_Do_c n _ w9 (x0.hL hL hw9) a1 (x0.km h1_1 hw9) a2 (x0.km h2_3 hw9) (⟨g0,F0,G0,H0,I0⟩:TSession) (Av p1 hw9) (Av q1 hw9) (Av s1 hw9) (Av t1 hw9) s2 p2) rfl (fun q5 Z4 R2 ⟨A4,B4,C4,D4,hu_,k4,p4,q4,s4⟩=>?_)
 subst hu_
 obtain ⟨y2,J2⟩:=x0.agr R2
 refine Ah 9 1023 d0 rfl u0 (fun _=>Ai rfl) rfl<|Ah 10 2047 d0 rfl u0 (fun _=>Au rfl rfl) rfl<|Ah 11 4095 d0 rfl u0 (fun _=>Au rfl rfl) rfl<|RD.nu 12 8191 d0 rfl .plain rfl (AX [vI 0,vN,vN,vN,vN] y2) (fun I4 G1 b1 E0=>?_)
 have I3:=Aj k4 E0
 have J3:=Aj p4 E0
 have K3:=Aj q4 E0
 have M3:=Aj s4 E0
 exact U1 (A4,B4,C4,D4,G1) _ _ ⟨rfl,rfl,rfl,rfl,rfl,rfl,rfl,rfl,rfl,trivial⟩ ⟨b1,(Tt J2 E0),I3,J3,K3,M3⟩
 refine BI (m' :=4351) (stepC_ok d0 (by kernel_rfl)) rfl .plain rfl (AX [vI 0,vN,vN,vN,vN] x0) (fun I4 G1 b1 E0=>?_)
 have q3:=Aj p1 E0
 have s3:=Aj q1 E0
 have t3:=Aj s1 E0
 have u3:=Aj t1 E0
 refine RD.cl 8 4607 d0 rfl .plain body40 rfl (e4 rfl rfl rfl rfl) (fun w9 hw9=>wardmoteref26_Do_c n _ w9 (b1.hL hL hw9) a1 (b1.km h1_1 hw9) a2 (b1.km h2_3 hw9) (⟨g0,F0,G0,H0,I0⟩:TSession) (Av q3 hw9) (Av s3 hw9) (Av t3 hw9) (Av u3 hw9) s2 p2) rfl (fun s5 c5 U2 ⟨E4,F4,G4,H4,hu_,t4,u4,v4,x4⟩=>?_)
 subst hu_
 obtain ⟨z2,K2⟩:=b1.agr U2
 refine Ah 9 5119 d0 rfl u0 (fun _=>Ai rfl) rfl<|Ah 10 6143 d0 rfl u0 (fun _=>Au rfl rfl) rfl<|Ah 11 8191 d0 rfl u0 (fun _=>Au rfl rfl) rfl ?_
 exact U1 (E4,F4,G4,H4,G1) _ _ ⟨rfl,rfl,rfl,rfl,rfl,rfl,rfl,rfl,rfl,trivial⟩ ⟨z2,(Tt E0 K2),t4,u4,v4,x4⟩
 refine Bd rfl ?_
 have h:=X1 _ h
 try dsimp only at h
 obtain ⟨E2,d1⟩:=AD x0 (.one .hd (.one .hd .done))
 have P3:=Aj p1 d1
 have Q3:=Aj q1 d1
 have R3:=Aj s1 d1
 have U3:=Aj t1 d1
 exact Q1 (g0,F0,G0,H0,I0,j0,k0,p0,q0) _ _ ⟨rfl,rfl,trivial⟩ ⟨E2,(Tt A1 d1),P3,Q3,R3,U3⟩ h
 refine Af<|Af<|AO rfl rfl<|Aa<|BC rfl<|Bd rfl ?_
 have h:=X1 _ h
 try dsimp only at h
 obtain ⟨F2,g1⟩:=AD x0 (.one .hd (.one .hd .done))
 have V3:=Aj p1 g1
 have W3:=Aj q1 g1
 have X3:=Aj s1 g1
 have Y3:=Aj t1 g1
 exact Q1 (g0,F0,G0,H0,I0,j0,k0,p0,q0) _ _ ⟨rfl,rfl,trivial⟩ ⟨F2,(Tt A1 g1),V3,W3,X3,Y3⟩ h
structure TBend where
  fWhat:UInt8
  fAt:UInt8
  fN:Int
  deriving DecidableEq
instance:Rep TBend:=Rep.via (β:=UInt8 × UInt8 × Int) fun x=>(x.fWhat,x.fAt,x.fN)
def tb12_20:List (Nat × Nat × Nat):=[(0,158456325028528675187087900672,32),(1,316912650057057350374175801344,158456325028528675187087900672),(0,633825300114114700748351602688,4),(4,1267650600228229401496703205376,633825300114114700748351602688),(8,2535301200456458802993406410752,1267650600228229401496703205376),(0,5070602400912917605986812821504,32),(32,10141204801825835211973625643008,5070602400912917605986812821504),(64,20282409603651670423947251286016,10141204801825835211973625643008),(144,40564819207303340847894502572032,22817710804108129226940657696768),(0,81129638414606681695789005144064,4),(512,162259276829213363391578010288128,81129638414606681695789005144064),(2047,324518553658426726783156020576256,40881731857360398198268678373376),(4095,649037107316853453566312041152512,324518553658426726783156020576256),(6143,0,811296384146066816957890051440640)]
def tb12_23:List (Nat × Nat × Nat):=[(0,83076749736557242056487941267521536,32),(1,166153499473114484112975882535043072,83076749736557242056487941267521536),(0,332306998946228968225951765070086144,4),(4,664613997892457936451903530140172288,332306998946228968225951765070086144),(8,1329227995784915872903807060280344576,664613997892457936451903530140172288),(0,2658455991569831745807614120560689152,32),(32,5316911983139663491615228241121378304,2658455991569831745807614120560689152),(64,10633823966279326983230456482242756608,5316911983139663491615228241121378304),(144,21267647932558653966460912964485513216,11963051962064242856134263542523101184),(0,42535295865117307932921825928971026432,4),(512,85070591730234615865843651857942052864,42535295865117307932921825928971026432),(2047,170141183460469231731687303715884105728,21433801432031768450573888847020556288),(4095,0,255211775190703847597530955573826158592)]
def tb12_9:List (Nat × Nat × Nat):=[(0,140737488355328,32),(1,281474976710656,140737488355328),(0,562949953421312,32),(4,1125899906842624,562949953421312),(0,2251799813685248,32),(16,4503599627370496,2251799813685248),(32,9007199254740992,4503599627370496),(64,18014398509481984,9007199254740992),(0,36028797018963968,32),(256,72057594037927936,36028797018963968),(512,144115188075855872,72057594037927936),(1024,288230376151711744,144115188075855872),(2291,576460752303423488,281474976710656),(6387,0,594475150812905472),(16383,1152921504606846976,1125899906842624),(32767,0,1441151880758558720)]
def wardmoteref26_Bend_Of_p (_n:Nat) (a0:TBend) (a1:TSession):Option TSession:=
  (app ([]:List Int) a1.fPlan).bind fun c0=>(app ([]:List Int) a1.fTotals).bind fun d0=>(app ([]:List TMove) a1.fDone).bind fun b0=>(app ([]:List TMove) a1.fUndone).bind fun g0=>(if ((a0.fWhat % (7:UInt8)).toNat) = 0 then some (⟨a0.fN,c0,d0,b0,g0⟩:TSession) else (if ((a0.fWhat % (7:UInt8)).toNat) = 1 then (app d0 ([a0.fN]:List Int)).bind fun u0=>some (⟨a1.fK,c0,u0,b0,g0⟩:TSession) else (if ((a0.fWhat % (7:UInt8)).toNat) = 2 then (app b0 ([(⟨a0.fN,(((a0.fAt % (3:UInt8)).toNat:Nat):Int),((((a0.fAt / (3:UInt8)) % (3:UInt8)).toNat:Nat):Int)⟩:TMove)]:List TMove)).bind fun x0=>some (⟨a1.fK,c0,d0,x0,g0⟩:TSession) else (if ((a0.fWhat % (7:UInt8)).toNat) = 3 then (app g0 ([(⟨a0.fN,(((a0.fAt % (3:UInt8)).toNat:Nat):Int),((((a0.fAt / (3:UInt8)) % (3:UInt8)).toNat:Nat):Int)⟩:TMove)]:List TMove)).bind fun y0=>some (⟨a1.fK,c0,d0,b0,y0⟩:TSession) else (if ((a0.fWhat % (7:UInt8)).toNat) = 4 then (if 0 < b0.length then (remI ((a0.fAt.toNat:Nat):Int) ((b0.length:Nat):Int)).bind fun j0=>(idx b0 j0).bind fun p0=>(put b0 ((j0.toNat:Nat):Int) (⟨p0.fUnit,a0.fN,p0.fTo⟩:TMove)).bind fun z0=>some (⟨a1.fK,c0,d0,z0,g0⟩:TSession) else some (⟨a1.fK,c0,d0,b0,g0⟩:TSession)) else (if ((a0.fWhat % (7:UInt8)).toNat) = 5 then (if 0 < c0.length then (remI ((a0.fAt.toNat:Nat):Int) ((c0.length:Nat):Int)).bind fun k0=>(idx c0 k0).bind fun C0=>(put c0 ((k0.toNat:Nat):Int) a0.fN).bind fun A0=>some (⟨a1.fK,A0,d0,b0,g0⟩:TSession) else some (⟨a1.fK,c0,d0,b0,g0⟩:TSession)) else (if 1 < b0.length then (b0[1]?).bind fun s0=>(b0[0]?).bind fun t0=>(put b0 ((0:Nat):Int) s0).bind fun q0=>(q0[1]?).bind fun B0=>(put q0 ((1:Nat):Int) t0).bind fun v0=>some (⟨a1.fK,c0,d0,v0,g0⟩:TSession) else some (⟨a1.fK,c0,d0,b0,g0⟩:TSession))))))))
theorem wardmoteref26_Bend_Of_c (n:Nat) (L:List Nat) (w:World) (hL:∀ b ∈ L,b < w.heap.size) (a0:TBend) (a1:TSession) {v1_1:Value} (h1_1:Rep.R w L [v1_1] a1.fPlan) {v1_2:Value} (h1_2:Rep.R w L [v1_2] a1.fTotals) {v1_3:Value} (h1_3:Rep.R w L [v1_3] a1.fDone) {v1_4:Value} (h1_4:Rep.R w L [v1_4] a1.fUndone)  {r:TSession} (h:wardmoteref26_Bend_Of_p n a0 a1 = some r) :
    Calls Tryz.prog 12 #[.agg #[.int .u8 (a0.fWhat.toNat:Int),.int .u8 (a0.fAt.toNat:Int),vI a0.fN],.agg #[vI a1.fK,v1_1,v1_2,v1_3,v1_4]] w (Gives w fun w' u=>∃ v0_1 v0_2 v0_3 v0_4:Value,u = .agg #[vI r.fK,v0_1,v0_2,v0_3,v0_4]∧Rep.R w' L [v0_1] r.fPlan∧Rep.R w' L [v0_2] r.fTotals∧Rep.R w' L [v0_3] r.fDone∧Rep.R w' L [v0_4] r.fUndone):=by
 unfold wardmoteref26_Bend_Of_p at h
 have hS0:=AK w
 refine AM Tryz.func12 rfl rfl rfl (fun _ cs0 hb0=>?_)
 refine Ae<|Az .plain rfl (AI hS0 rfl rfl) (fun w2 b5 hS3 hT4=>?_)
 refine Az .plain rfl (AI hS3 rfl rfl) (fun w7 k6 hS8 hT9=>?_)
 refine Az .plain rfl (AX [vI 0,vN,vN,vN,vN] hS8) (fun w12 G1 F5 I05=>?_)
 refine Aa<|Ae<|Ab (AG rfl (F5.memA (.tl .hd)))<|Az .plain rfl (AX [vI 0,vN,vN,vN,vN] F5) (fun w17 H1 I1 J05=>?_)
 have A8:=Ax h1_1 I1
 have B8:=Ax h1_2 I1
 have E8:=Ax h1_3 I1
 have G8:=Ax h1_4 I1
 refine Bk [vI a1.fK,v1_1,v1_2,v1_3,v1_4] I1 .hd (o5 rfl (AP A8) (AP B8) (AP E8) (AP G8)) (fun w25 M6 K05=>?_)
 refine Aa<|Ae<|Az .plain rfl (AE (α:=Int) (xs:=([]:List Int)) (vs:=[]) (ds' :=[]) rfl M6 el43 rfl evs_nil (by kernel_rfl) rfl) (fun w29 b32 u2 M05=>?_)
 have c7:=Ar (cs:=[]) (xs:=(([]:List Int):List Int)) u2 L (AC _ _)
 refine AH 1 rfl<|Ab (AA rfl ((u2.memA (.tl (.tl (.tl .hd)))) 1 _ rfl)) ?_
 obtain ⟨B0,p04,h⟩:=bi h
 have Z8:=Ax h1_1 u2
 refine RG.doesL .plain rfl (AR (α:=Int) (ys:=a1.fPlan) p04 u2 (fun _ _=>.hd) el43 rfl rfl c7 (Bw Z8)) (fun c0 w36 ⟨J1,P3,P05,Q0⟩=>?_)
 refine AH 1 rfl<|BG .plain (Br (j:=1) (old:=[vI a1.fK,v1_1,v1_2,v1_3,v1_4]) (news:=[c0]) (new' :=[vI a1.fK,c0,v1_2,v1_3,v1_4]) P3 (.tl .hd) rfl rfl rfl (St.c1 (α:=Int) P3 .hd) rfl rfl (o1 (Bz (α:=Int) P3 .hd)) rfl) (fun w43 P6 K0=>?_)
 refine Aa<|Ae<|Az .plain rfl (AE (α:=Int) (xs:=([]:List Int)) (vs:=[]) (ds' :=[]) rfl P6 el42 rfl evs_nil (by kernel_rfl) rfl) (fun w47 b50 H2 M0=>?_)
 have j7:=Ar (cs:=[]) (xs:=(([]:List Int):List Int)) H2 L (AC _ _)
 refine AH 2 rfl<|Ab (AA rfl ((H2.memA (.tl (.tl (.tl (.tl .hd))))) 2 _ rfl)) ?_
 obtain ⟨G0,s04,h⟩:=bi h
 have R9:=Ax h1_2 H2
 refine RG.doesL .plain rfl (AR (α:=Int) (ys:=a1.fTotals) s04 H2 (fun _ _=>.hd) el42 rfl rfl j7 (Bw R9)) (fun d0 w54 ⟨K1,V3,P0,R0⟩=>?_)
 refine AH 2 rfl<|BG .plain (Br (j:=2) (old:=[vI a1.fK,c0,v1_2,v1_3,v1_4]) (news:=[d0]) (new' :=[vI a1.fK,c0,d0,v1_3,v1_4]) V3 (.tl (.tl .hd)) rfl rfl rfl (St.c1 (α:=Int) V3 .hd) rfl rfl (o1 (Bz (α:=Int) V3 .hd)) rfl) (fun w61 Q6 x0=>?_)
 refine Aa<|Ae<|Az .plain rfl (AE (α:=TMove) (xs:=([]:List TMove)) (vs:=[]) (ds' :=[]) rfl Q6 el46 rfl evs_nil (by kernel_rfl) rfl) (fun w65 b68 J2 y0=>?_)
 have k7:=Ar (cs:=[]) (xs:=(([]:List TMove):List TMove)) J2 L (AC _ _)
 refine AH 3 rfl<|Ab (AA rfl ((J2.memA (.tl (.tl (.tl (.tl (.tl .hd)))))) 3 _ rfl)) ?_
 obtain ⟨H0,t04,h⟩:=bi h
 have U9:=Ax h1_3 J2
 refine RG.doesL .plain rfl (AR (α:=TMove) (ys:=a1.fDone) t04 J2 (fun _ _=>.hd) el46 rfl rfl k7 (Bw U9)) (fun j0 w72 ⟨H6,W3,z0,U0⟩=>?_)
 refine AH 3 rfl<|BG .plain (Br (j:=3) (old:=[vI a1.fK,c0,d0,v1_3,v1_4]) (news:=[j0]) (new' :=[vI a1.fK,c0,d0,j0,v1_4]) W3 (.tl (.tl (.tl .hd))) rfl rfl rfl (St.c1 (α:=TMove) W3 .hd) rfl rfl (o1 (Bz (α:=TMove) W3 .hd)) rfl) (fun w79 R6 s0=>?_)
 refine Aa<|Ae<|Az .plain rfl (AE (α:=TMove) (xs:=([]:List TMove)) (vs:=[]) (ds' :=[]) rfl R6 el46 rfl evs_nil (by kernel_rfl) rfl) (fun w83 b86 K2 t0=>?_)
 have p7:=Ar (cs:=[]) (xs:=(([]:List TMove):List TMove)) K2 L (AC _ _)
 refine AH 4 rfl<|Ab (AA rfl ((K2.memA (.tl (.tl (.tl (.tl (.tl (.tl .hd))))))) 4 _ rfl)) ?_
 obtain ⟨I0,u04,h⟩:=bi h
 have V9:=Ax h1_4 K2
 refine RG.doesL .plain rfl (AR (α:=TMove) (ys:=a1.fUndone) u04 K2 (fun _ _=>.hd) el46 rfl rfl p7 (Bw V9)) (fun g0 w90 ⟨M1,X3,u0,V0⟩=>?_)
 refine AH 4 rfl<|BG .plain (Br (j:=4) (old:=[vI a1.fK,c0,d0,j0,v1_4]) (news:=[g0]) (new' :=[vI a1.fK,c0,d0,j0,g0]) X3 (.tl (.tl (.tl (.tl .hd)))) rfl rfl rfl (St.c1 (α:=TMove) X3 .hd) rfl rfl (o1 (Bz (α:=TMove) X3 .hd)) rfl) (fun w97 M2 q0=>?_)
 refine Aa<|Ae<|AH 2 rfl<|Ab (AA rfl ((M2.memA (.tl (.tl (.tl (.tl (.tl (.tl (.tl .hd)))))))) 2 _ rfl))<|AH 1 rfl<|Ab (AA rfl ((M2.memA (.tl (.tl (.tl (.tl (.tl (.tl (.tl .hd)))))))) 1 _ rfl))<|Ab (FV.rem8 (a:=a0.fAt) (b:=(3:UInt8)) rfl rfl (by decide)) ?_
 have b06:=(a0.fAt % (3:UInt8)).toNat_lt
 refine Ab (FV.convN (i:=(a0.fAt % (3:UInt8)).toNat) Tryz.underlying5 Tryz.underlying3 rfl (by omega))<|AH 1 rfl<|Ab (AA rfl ((M2.memA (.tl (.tl (.tl (.tl (.tl (.tl (.tl .hd)))))))) 1 _ rfl))<|Ab (FV.quo8 (a:=a0.fAt) (b:=(3:UInt8)) rfl rfl (by decide))<|Ab (FV.rem8 (a:=a0.fAt / (3:UInt8)) (b:=(3:UInt8)) rfl rfl (by decide)) ?_
 have c06:=((a0.fAt / (3:UInt8)) % (3:UInt8)).toNat_lt
 refine Ab (FV.convN (i:=((a0.fAt / (3:UInt8)) % (3:UInt8)).toNat) Tryz.underlying5 Tryz.underlying3 rfl (by omega))<|Ab (AV (vs:=[vI a0.fN,vI (((a0.fAt % (3:UInt8)).toNat:Nat):Int),vI ((((a0.fAt / (3:UInt8)) % (3:UInt8)).toNat:Nat):Int)]) (u:=.agg #[vI a0.fN,vI (((a0.fAt % (3:UInt8)).toNat:Nat):Int),vI ((((a0.fAt / (3:UInt8)) % (3:UInt8)).toNat:Nat):Int)]) (e3 rfl rfl rfl) (fun w9=>by kernel_rfl))<|Az .plain rfl (AX [vI 0,vI 0,vI 0] M2) (fun j06 p6 I6 k0=>?_)
 refine Bk [vI a0.fN,vI (((a0.fAt % (3:UInt8)).toNat:Nat):Int),vI ((((a0.fAt / (3:UInt8)) % (3:UInt8)).toNat:Nat):Int)] I6 .hd (onesB rfl) (fun v04 b0 p0=>?_)
 refine Aa<|Ak<|Ae<|AH 0 rfl<|Ab (AA rfl ((b0.memA (.tl (.tl (.tl (.tl (.tl (.tl (.tl (.tl .hd))))))))) 0 _ rfl))<|Ab (FV.rem8 (a:=a0.fWhat) (b:=(7:UInt8)) rfl rfl (by decide))<|Aa<|AB<|Ae<|Ab (BR (i:=(a0.fWhat % (7:UInt8)).toNat) (j:=0) rfl rfl)<|Ag rfl<|Aa<|AW rfl h (fun x6 h=>?_) (fun x6 h=>?_)
 refine Aw<|AH 2 rfl<|Ab (AA rfl ((b0.memA (.tl (.tl (.tl (.tl (.tl (.tl (.tl (.tl .hd))))))))) 2 _ rfl))<|AH 0 rfl<|BG .plain (Br (j:=0) (old:=[vI a1.fK,c0,d0,j0,g0]) (news:=[vI a0.fN]) (new' :=[vI a0.fN,c0,d0,j0,g0]) b0 (.tl (.tl (.tl (.tl (.tl .hd))))) rfl rfl rfl rfl rfl rfl (o1 rfl) rfl) (fun k06 t1 P2=>?_)
 refine Aa<|AF<|Ae<|Ab (AG rfl (t1.memA (.tl (.tl (.tl (.tl (.tl .hd)))))))<|Bk [vI a0.fN,c0,d0,j0,g0] t1 (.tl (.tl (.tl (.tl (.tl (.tl .hd)))))) (o5 rfl (Bz (α:=Int) t1 (.tl (.tl (.tl (.tl .hd))))) (Bz (α:=Int) t1 (.tl (.tl (.tl .hd)))) (Bz (α:=TMove) t1 (.tl (.tl .hd))) (Bz (α:=TMove) t1 (.tl .hd))) (fun p06 y3 Q2=>?_)
 refine Aa<|Am rfl ?_
 have W9:=Tt K0 (Tt M0 (Tt P0 (Tt x0 (Tt y0 (Tt z0 (Tt s0 (Tt t0 (Tt u0 (Tt q0 (Tt k0 (Tt p0 (Tt P2 Q2))))))))))))
 have D7:=Al Q0 W9
 have A01:=AQ (α:=Int) y3 (.tl (.tl (.tl (.tl .hd)))) D7 hL
 have Q1:=Bf y3 (.tl (.tl (.tl (.tl .hd))))
 have Z3:=Bg y3 (.tl (.tl (.tl (.tl .hd))))
 have B01:=Bh (α:=Int) (v:=c0) (xs:=B0) Q1 L A01
 have X9:=Tt x0 (Tt y0 (Tt z0 (Tt s0 (Tt t0 (Tt u0 (Tt q0 (Tt k0 (Tt p0 (Tt P2 (Tt Q2 Z3))))))))))
 have E7:=Al R0 X9
 have C01:=AQ (α:=Int) Q1 (.tl (.tl (.tl .hd))) E7 hL
 have R1:=Bf Q1 (.tl (.tl (.tl .hd)))
 have b4:=Bg Q1 (.tl (.tl (.tl .hd)))
 have D01:=Bh (α:=Int) (v:=d0) (xs:=G0) R1 L C01
 have Y9:=Tt s0 (Tt t0 (Tt u0 (Tt q0 (Tt k0 (Tt p0 (Tt P2 (Tt Q2 (Tt Z3 b4))))))))
 have F7:=Al U0 Y9
 have E01:=AQ (α:=TMove) R1 (.tl (.tl .hd)) F7 hL
 have U1:=Bf R1 (.tl (.tl .hd))
 have c4:=Bg R1 (.tl (.tl .hd))
 have F01:=Bh (α:=TMove) (v:=j0) (xs:=H0) U1 L E01
 have Z9:=Tt q0 (Tt k0 (Tt p0 (Tt P2 (Tt Q2 (Tt Z3 (Tt b4 c4))))))
 have G7:=Al V0 Z9
 have G01:=AQ (α:=TMove) U1 (.tl .hd) G7 hL
 have W0:=Bf U1 (.tl .hd)
 have d4:=Bg U1 (.tl .hd)
 have H01:=Bh (α:=TMove) (v:=g0) (xs:=I0) W0 L G01
 refine Ay hb0 Tryz.func12 rfl (.cons (.many (cs:=[vI a0.fN,c0,d0,j0,g0]) (by kernel_rfl) rfl (W0.memA (.tl (.tl .hd)))) .nil) rfl ?_
 cases h
 have b00:=Tt b4 (Tt c4 d4)
 have H7:=Aj B01 b00
 have I7:=Aj D01 (Tt c4 d4)
 have J7:=Aj F01 d4
 exact ⟨W0.ag,fun w9 hw9=>⟨c0,d0,j0,g0,rfl,W0.kd H7 hw9,W0.kd I7 hw9,W0.kd J7 hw9,W0.kd H01 hw9⟩⟩
 refine Ae<|Ab (BR (i:=(a0.fWhat % (7:UInt8)).toNat) (j:=1) rfl rfl)<|Ag rfl<|Aa<|AW rfl h (fun y6 h=>?_) (fun y6 h=>?_)
 refine Aw<|AH 2 rfl<|Ab (AA rfl ((b0.memA (.tl (.tl (.tl (.tl (.tl .hd)))))) 2 _ rfl))<|AH 2 rfl<|Ab (AA rfl ((b0.memA (.tl (.tl (.tl (.tl (.tl (.tl (.tl (.tl .hd))))))))) 2 _ rfl))<|Az .plain rfl (AE (α:=Int) (xs:=([a0.fN]:List Int)) (vs:=[vI a0.fN]) (ds' :=[vI a0.fN]) rfl b0 el42 rfl (e1 rfl) (by kernel_rfl) rfl) (fun s06 K04 z3 R2=>?_)
 have U6:=Ar (cs:=[vI a0.fN]) (xs:=(([a0.fN]:List Int):List Int)) z3 L (Aq (cs:=[vI a0.fN]) (ds:=[]) rfl (AC _ _))
 obtain ⟨z04,c04,h⟩:=bi h
 have c00:=Tt x0 (Tt y0 (Tt z0 (Tt s0 (Tt t0 (Tt u0 (Tt q0 (Tt k0 (Tt p0 R2))))))))
 have K7:=Al R0 c00
 refine RG.doesL .plain rfl (AR (α:=Int) (ys:=([a0.fN]:List Int)) c04 z3 (fun _ _=>(.tl (.tl (.tl (.tl .hd))))) el42 rfl rfl K7 (Src.row (α:=Int) z3 .hd U6)) (fun B1 t06 ⟨x05,A3,g4,V6⟩=>?_)
 refine AH 2 rfl<|BG .plain (Br (j:=2) (old:=[vI a1.fK,c0,d0,j0,g0]) (news:=[B1]) (new' :=[vI a1.fK,c0,B1,j0,g0]) A3 (.tl (.tl (.tl (.tl (.tl (.tl .hd)))))) rfl rfl rfl (St.c1 (α:=Int) A3 (.tl (.tl (.tl (.tl .hd))))) rfl rfl (o1 (Bz (α:=Int) A3 (.tl (.tl (.tl (.tl .hd)))))) rfl) (fun u06 u1 U2=>?_)
 refine Aa<|AF<|Ae<|Ab (AG rfl (u1.memA (.tl (.tl (.tl (.tl (.tl (.tl .hd))))))))<|Bk [vI a1.fK,c0,B1,j0,g0] u1 (.tl (.tl (.tl (.tl (.tl (.tl (.tl .hd))))))) (o5 rfl (Bz (α:=Int) u1 (.tl (.tl (.tl (.tl (.tl .hd)))))) (Bz (α:=Int) u1 (.tl (.tl (.tl (.tl .hd))))) (Bz (α:=TMove) u1 (.tl (.tl (.tl .hd)))) (Bz (α:=TMove) u1 (.tl (.tl .hd)))) (fun v06 B3 V2=>?_)
 refine Aa<|Am rfl ?_
 have d00:=Tt K0 (Tt M0 (Tt P0 (Tt x0 (Tt y0 (Tt z0 (Tt s0 (Tt t0 (Tt u0 (Tt q0 (Tt k0 (Tt p0 (Tt R2 (Tt g4 (Tt U2 V2))))))))))))))
 have M7:=Al Q0 d00
 have I01:=AQ (α:=Int) B3 (.tl (.tl (.tl (.tl (.tl .hd))))) M7 hL
 have V1:=Bf B3 (.tl (.tl (.tl (.tl (.tl .hd)))))
 have j4:=Bg B3 (.tl (.tl (.tl (.tl (.tl .hd)))))
 have J01:=Bh (α:=Int) (v:=c0) (xs:=B0) V1 L I01
 have k00:=Tt U2 (Tt V2 j4)
 have U7:=Al V6 k00
 have K01:=AQ (α:=Int) V1 (.tl (.tl (.tl (.tl .hd)))) U7 hL
 have W1:=Bf V1 (.tl (.tl (.tl (.tl .hd))))
 have q4:=Bg V1 (.tl (.tl (.tl (.tl .hd))))
 have Z01:=Bh (α:=Int) (v:=B1) (xs:=z04) W1 L K01
 have z00:=Tt s0 (Tt t0 (Tt u0 (Tt q0 (Tt k0 (Tt p0 (Tt R2 (Tt g4 (Tt U2 (Tt V2 (Tt j4 q4))))))))))
 have s8:=Al U0 z00
 have c02:=AQ (α:=TMove) W1 (.tl (.tl (.tl .hd))) s8 hL
 have d2:=Bf W1 (.tl (.tl (.tl .hd)))
 have B4:=Bg W1 (.tl (.tl (.tl .hd)))
 have t02:=Bh (α:=TMove) (v:=j0) (xs:=H0) d2 L c02
 have A00:=Tt q0 (Tt k0 (Tt p0 (Tt R2 (Tt g4 (Tt U2 (Tt V2 (Tt j4 (Tt q4 B4))))))))
 have t8:=Al V0 A00
 have u02:=AQ (α:=TMove) d2 (.tl (.tl .hd)) t8 hL
 have Z0:=Bf d2 (.tl (.tl .hd))
 have C4:=Bg d2 (.tl (.tl .hd))
 have v02:=Bh (α:=TMove) (v:=g0) (xs:=I0) Z0 L u02
 refine Ay hb0 Tryz.func12 rfl (.cons (.many (cs:=[vI a1.fK,c0,B1,j0,g0]) (by kernel_rfl) rfl (Z0.memA (.tl (.tl (.tl .hd))))) .nil) rfl ?_
 cases h
 have B00:=Tt q4 (Tt B4 C4)
 have v8:=Aj J01 B00
 have x8:=Aj Z01 (Tt B4 C4)
 have y8:=Aj t02 C4
 exact ⟨Z0.ag,fun w9 hw9=>⟨c0,B1,j0,g0,rfl,Z0.kd v8 hw9,Z0.kd x8 hw9,Z0.kd y8 hw9,Z0.kd v02 hw9⟩⟩
 refine Ae<|Ab (BR (i:=(a0.fWhat % (7:UInt8)).toNat) (j:=2) rfl rfl)<|Ag rfl<|Aa<|AW rfl h (fun z6 h=>?_) (fun z6 h=>?_)
 refine Aw<|AH 3 rfl<|Ab (AA rfl ((b0.memA (.tl (.tl (.tl (.tl (.tl .hd)))))) 3 _ rfl))<|Ab (AG rfl (b0.memA .hd))<|Az .plain rfl (AE (α:=TMove) (xs:=([(⟨a0.fN,(((a0.fAt % (3:UInt8)).toNat:Nat):Int),((((a0.fAt / (3:UInt8)) % (3:UInt8)).toNat:Nat):Int)⟩:TMove)]:List TMove)) (vs:=[.agg #[vI a0.fN,vI (((a0.fAt % (3:UInt8)).toNat:Nat):Int),vI ((((a0.fAt / (3:UInt8)) % (3:UInt8)).toNat:Nat):Int)]]) (ds' :=[vI a0.fN,vI (((a0.fAt % (3:UInt8)).toNat:Nat):Int),vI ((((a0.fAt / (3:UInt8)) % (3:UInt8)).toNat:Nat):Int)]) rfl b0 el46 rfl (e1 rfl) (by kernel_rfl) rfl) (fun B06 M04 F3 Y2=>?_)
 have X6:=Ar (cs:=[vI a0.fN,vI (((a0.fAt % (3:UInt8)).toNat:Nat):Int),vI ((((a0.fAt / (3:UInt8)) % (3:UInt8)).toNat:Nat):Int)]) (xs:=(([(⟨a0.fN,(((a0.fAt % (3:UInt8)).toNat:Nat):Int),((((a0.fAt / (3:UInt8)) % (3:UInt8)).toNat:Nat):Int)⟩:TMove)]:List TMove):List TMove)) F3 L (Aq (cs:=[vI a0.fN,vI (((a0.fAt % (3:UInt8)).toNat:Nat):Int),vI ((((a0.fAt / (3:UInt8)) % (3:UInt8)).toNat:Nat):Int)]) (ds:=[]) (mk_TMove a0.fN (((a0.fAt % (3:UInt8)).toNat:Nat):Int) ((((a0.fAt / (3:UInt8)) % (3:UInt8)).toNat:Nat):Int)) (AC _ _))
 obtain ⟨B04,g04,h⟩:=bi h
 have C00:=Tt s0 (Tt t0 (Tt u0 (Tt q0 (Tt k0 (Tt p0 Y2)))))
 have z8:=Al U0 C00
 refine RG.doesL .plain rfl (AR (α:=TMove) (ys:=([(⟨a0.fN,(((a0.fAt % (3:UInt8)).toNat:Nat):Int),((((a0.fAt / (3:UInt8)) % (3:UInt8)).toNat:Nat):Int)⟩:TMove)]:List TMove)) g04 F3 (fun _ _=>(.tl (.tl (.tl .hd)))) el46 rfl rfl z8 (Src.row (α:=TMove) F3 .hd X6)) (fun C1 C06 ⟨A05,G3,D4,Y6⟩=>?_)
 refine AH 3 rfl<|BG .plain (Br (j:=3) (old:=[vI a1.fK,c0,d0,j0,g0]) (news:=[C1]) (new' :=[vI a1.fK,c0,d0,C1,g0]) G3 (.tl (.tl (.tl (.tl (.tl (.tl .hd)))))) rfl rfl rfl (St.c1 (α:=TMove) G3 (.tl (.tl (.tl .hd)))) rfl rfl (o1 (Bz (α:=TMove) G3 (.tl (.tl (.tl .hd))))) rfl) (fun D06 x1 Z2=>?_)
 refine Aa<|AF<|Ae<|Ab (AG rfl (x1.memA (.tl (.tl (.tl (.tl (.tl (.tl .hd))))))))<|Bk [vI a1.fK,c0,d0,C1,g0] x1 (.tl (.tl (.tl (.tl (.tl (.tl (.tl .hd))))))) (o5 rfl (Bz (α:=Int) x1 (.tl (.tl (.tl (.tl (.tl .hd)))))) (Bz (α:=Int) x1 (.tl (.tl (.tl (.tl .hd))))) (Bz (α:=TMove) x1 (.tl (.tl (.tl .hd)))) (Bz (α:=TMove) x1 (.tl (.tl .hd)))) (fun E06 H3 b3=>?_)
 refine Aa<|Am rfl ?_
 have D00:=Tt K0 (Tt M0 (Tt P0 (Tt x0 (Tt y0 (Tt z0 (Tt s0 (Tt t0 (Tt u0 (Tt q0 (Tt k0 (Tt p0 (Tt Y2 (Tt D4 (Tt Z2 b3))))))))))))))
 have C8:=Al Q0 D00
 have x02:=AQ (α:=Int) H3 (.tl (.tl (.tl (.tl (.tl .hd))))) C8 hL
 have j2:=Bf H3 (.tl (.tl (.tl (.tl (.tl .hd)))))
 have E4:=Bg H3 (.tl (.tl (.tl (.tl (.tl .hd)))))
 have y02:=Bh (α:=Int) (v:=c0) (xs:=B0) j2 L x02
 have E00:=Tt x0 (Tt y0 (Tt z0 (Tt s0 (Tt t0 (Tt u0 (Tt q0 (Tt k0 (Tt p0 (Tt Y2 (Tt D4 (Tt Z2 (Tt b3 E4))))))))))))
 have D8:=Al R0 E00
 have z02:=AQ (α:=Int) j2 (.tl (.tl (.tl (.tl .hd)))) D8 hL
 have k2:=Bf j2 (.tl (.tl (.tl (.tl .hd))))
 have F4:=Bg j2 (.tl (.tl (.tl (.tl .hd))))
 have A02:=Bh (α:=Int) (v:=d0) (xs:=G0) k2 L z02
 have F00:=Tt Z2 (Tt b3 (Tt E4 F4))
 have F8:=Al Y6 F00
 have B02:=AQ (α:=TMove) k2 (.tl (.tl (.tl .hd))) F8 hL
 have p2:=Bf k2 (.tl (.tl (.tl .hd)))
 have G4:=Bg k2 (.tl (.tl (.tl .hd)))
 have C02:=Bh (α:=TMove) (v:=C1) (xs:=B04) p2 L B02
 have G00:=Tt q0 (Tt k0 (Tt p0 (Tt Y2 (Tt D4 (Tt Z2 (Tt b3 (Tt E4 (Tt F4 G4))))))))
 have H8:=Al V0 G00
 have D02:=AQ (α:=TMove) p2 (.tl (.tl .hd)) H8 hL
 have b1:=Bf p2 (.tl (.tl .hd))
 have H4:=Bg p2 (.tl (.tl .hd))
 have E02:=Bh (α:=TMove) (v:=g0) (xs:=I0) b1 L D02
 refine Ay hb0 Tryz.func12 rfl (.cons (.many (cs:=[vI a1.fK,c0,d0,C1,g0]) (by kernel_rfl) rfl (b1.memA (.tl (.tl (.tl .hd))))) .nil) rfl ?_
 cases h
 have H00:=Tt F4 (Tt G4 H4)
 have I8:=Aj y02 H00
 have J8:=Aj A02 (Tt G4 H4)
 have K8:=Aj C02 H4
 exact ⟨b1.ag,fun w9 hw9=>⟨c0,d0,C1,g0,rfl,b1.kd I8 hw9,b1.kd J8 hw9,b1.kd K8 hw9,b1.kd E02 hw9⟩⟩
 refine Ae<|Ab (BR (i:=(a0.fWhat % (7:UInt8)).toNat) (j:=3) rfl rfl)<|Ag rfl<|Aa<|AW rfl h (fun A6 h=>?_) (fun A6 h=>?_)
 refine Aw<|AH 4 rfl<|Ab (AA rfl ((b0.memA (.tl (.tl (.tl (.tl (.tl .hd)))))) 4 _ rfl))<|Ab (AG rfl (b0.memA .hd))<|Az .plain rfl (AE (α:=TMove) (xs:=([(⟨a0.fN,(((a0.fAt % (3:UInt8)).toNat:Nat):Int),((((a0.fAt / (3:UInt8)) % (3:UInt8)).toNat:Nat):Int)⟩:TMove)]:List TMove)) (vs:=[.agg #[vI a0.fN,vI (((a0.fAt % (3:UInt8)).toNat:Nat):Int),vI ((((a0.fAt / (3:UInt8)) % (3:UInt8)).toNat:Nat):Int)]]) (ds' :=[vI a0.fN,vI (((a0.fAt % (3:UInt8)).toNat:Nat):Int),vI ((((a0.fAt / (3:UInt8)) % (3:UInt8)).toNat:Nat):Int)]) rfl b0 el46 rfl (e1 rfl) (by kernel_rfl) rfl) (fun F06 P04 I3 c3=>?_)
 have Z6:=Ar (cs:=[vI a0.fN,vI (((a0.fAt % (3:UInt8)).toNat:Nat):Int),vI ((((a0.fAt / (3:UInt8)) % (3:UInt8)).toNat:Nat):Int)]) (xs:=(([(⟨a0.fN,(((a0.fAt % (3:UInt8)).toNat:Nat):Int),((((a0.fAt / (3:UInt8)) % (3:UInt8)).toNat:Nat):Int)⟩:TMove)]:List TMove):List TMove)) I3 L (Aq (cs:=[vI a0.fN,vI (((a0.fAt % (3:UInt8)).toNat:Nat):Int),vI ((((a0.fAt / (3:UInt8)) % (3:UInt8)).toNat:Nat):Int)]) (ds:=[]) (mk_TMove a0.fN (((a0.fAt % (3:UInt8)).toNat:Nat):Int) ((((a0.fAt / (3:UInt8)) % (3:UInt8)).toNat:Nat):Int)) (AC _ _))
 obtain ⟨C04,j04,h⟩:=bi h
 have I00:=Tt q0 (Tt k0 (Tt p0 c3))
 have M8:=Al V0 I00
 refine RG.doesL .plain rfl (AR (α:=TMove) (ys:=([(⟨a0.fN,(((a0.fAt % (3:UInt8)).toNat:Nat):Int),((((a0.fAt / (3:UInt8)) % (3:UInt8)).toNat:Nat):Int)⟩:TMove)]:List TMove)) j04 I3 (fun _ _=>(.tl (.tl .hd))) el46 rfl rfl M8 (Src.row (α:=TMove) I3 .hd Z6)) (fun D1 H06 ⟨B05,J3,I4,b7⟩=>?_)
 refine AH 4 rfl<|BG .plain (Br (j:=4) (old:=[vI a1.fK,c0,d0,j0,g0]) (news:=[D1]) (new' :=[vI a1.fK,c0,d0,j0,D1]) J3 (.tl (.tl (.tl (.tl (.tl (.tl .hd)))))) rfl rfl rfl (St.c1 (α:=TMove) J3 (.tl (.tl .hd))) rfl rfl (o1 (Bz (α:=TMove) J3 (.tl (.tl .hd)))) rfl) (fun I06 y1 d3=>?_)
 refine Aa<|AF<|Ae<|Ab (AG rfl (y1.memA (.tl (.tl (.tl (.tl (.tl (.tl .hd))))))))<|Bk [vI a1.fK,c0,d0,j0,D1] y1 (.tl (.tl (.tl (.tl (.tl (.tl (.tl .hd))))))) (o5 rfl (Bz (α:=Int) y1 (.tl (.tl (.tl (.tl (.tl .hd)))))) (Bz (α:=Int) y1 (.tl (.tl (.tl (.tl .hd))))) (Bz (α:=TMove) y1 (.tl (.tl (.tl .hd)))) (Bz (α:=TMove) y1 (.tl (.tl .hd)))) (fun J06 K3 g3=>?_)
 refine Aa<|Am rfl ?_
 have J00:=Tt K0 (Tt M0 (Tt P0 (Tt x0 (Tt y0 (Tt z0 (Tt s0 (Tt t0 (Tt u0 (Tt q0 (Tt k0 (Tt p0 (Tt c3 (Tt I4 (Tt d3 g3))))))))))))))
 have P8:=Al Q0 J00
 have F02:=AQ (α:=Int) K3 (.tl (.tl (.tl (.tl (.tl .hd))))) P8 hL
 have q2:=Bf K3 (.tl (.tl (.tl (.tl (.tl .hd)))))
 have J4:=Bg K3 (.tl (.tl (.tl (.tl (.tl .hd)))))
 have G02:=Bh (α:=Int) (v:=c0) (xs:=B0) q2 L F02
 have K00:=Tt x0 (Tt y0 (Tt z0 (Tt s0 (Tt t0 (Tt u0 (Tt q0 (Tt k0 (Tt p0 (Tt c3 (Tt I4 (Tt d3 (Tt g3 J4))))))))))))
 have Q8:=Al R0 K00
 have H02:=AQ (α:=Int) q2 (.tl (.tl (.tl (.tl .hd)))) Q8 hL
 have s2:=Bf q2 (.tl (.tl (.tl (.tl .hd))))
 have K4:=Bg q2 (.tl (.tl (.tl (.tl .hd))))
 have I02:=Bh (α:=Int) (v:=d0) (xs:=G0) s2 L H02
 have M00:=Tt s0 (Tt t0 (Tt u0 (Tt q0 (Tt k0 (Tt p0 (Tt c3 (Tt I4 (Tt d3 (Tt g3 (Tt J4 K4))))))))))
 have R8:=Al U0 M00
 have J02:=AQ (α:=TMove) s2 (.tl (.tl (.tl .hd))) R8 hL
 have t2:=Bf s2 (.tl (.tl (.tl .hd)))
 have M4:=Bg s2 (.tl (.tl (.tl .hd)))
 have K02:=Bh (α:=TMove) (v:=j0) (xs:=H0) t2 L J02
 have P00:=Tt d3 (Tt g3 (Tt J4 (Tt K4 M4)))
 have U8:=Al b7 P00
 have M02:=AQ (α:=TMove) t2 (.tl (.tl .hd)) U8 hL
 have d1:=Bf t2 (.tl (.tl .hd))
 have P4:=Bg t2 (.tl (.tl .hd))
 have P02:=Bh (α:=TMove) (v:=D1) (xs:=C04) d1 L M02
 refine Ay hb0 Tryz.func12 rfl (.cons (.many (cs:=[vI a1.fK,c0,d0,j0,D1]) (by kernel_rfl) rfl (d1.memA (.tl (.tl (.tl .hd))))) .nil) rfl ?_
 cases h
 have Q00:=Tt K4 (Tt M4 P4)
 have V8:=Aj G02 Q00
 have W8:=Aj I02 (Tt M4 P4)
 have X8:=Aj K02 P4
 exact ⟨d1.ag,fun w9 hw9=>⟨c0,d0,j0,D1,rfl,d1.kd V8 hw9,d1.kd W8 hw9,d1.kd X8 hw9,d1.kd P02 hw9⟩⟩
 refine Ae<|Ab (BR (i:=(a0.fWhat % (7:UInt8)).toNat) (j:=4) rfl rfl)<|Ag rfl<|Aa<|AW rfl h (fun B6 h=>?_) (fun B6 h=>?_)
 refine Ae<|AH 3 rfl<|Ab (AA rfl ((b0.memA (.tl (.tl (.tl (.tl (.tl .hd)))))) 3 _ rfl)) ?_
 have R05:H0.length ≤ 4294967296:=St.rowLe (α:=TMove) b0 (.tl (.tl .hd))
 obtain ⟨F04,Y04,s7⟩:=St.rowV (α:=TMove) b0 (.tl (.tl .hd))
 refine Ab (FV.lenV Tryz.underlying46 rfl s7)<|Ab (FV.gtrN (i:=H0.length) (j:=0) rfl rfl)<|Aa<|AW rfl h (fun C6 h=>?_) (fun C6 h=>?_)
 refine Bm 13 tb12_20 (by kernel_rfl) (by kernel_rfl) (by kernel_rfl) (fun A0 E0=>?_)
 refine Ah 0 1 A0 rfl E0 (fun _=>Bt 3 rfl) rfl<|AT 1 3 14336 A0 rfl E0 (AA rfl ((b0.memA (.tl (.tl (.tl (.tl (.tl .hd)))))) 3 _ rfl)) rfl<|Ah 2 7 A0 rfl E0 (fun _=>Bt 1 rfl) rfl<|AT 3 15 14608 A0 rfl E0 (AA rfl ((b0.memA (.tl (.tl (.tl (.tl (.tl (.tl (.tl (.tl .hd))))))))) 1 _ rfl)) rfl ?_
 have d06:=a0.fAt.toNat_lt
 refine Ah 4 31 A0 rfl E0 (fun _=>FV.convN (i:=a0.fAt.toNat) Tryz.underlying5 Tryz.underlying3 rfl (by omega)) rfl<|Ah 5 63 A0 rfl E0 (fun _=>Bt 3 rfl) rfl<|AT 6 127 14720 A0 rfl E0 (AA rfl ((b0.memA (.tl (.tl (.tl (.tl (.tl .hd)))))) 3 _ rfl)) rfl ?_
 obtain ⟨G04,Z04,t7⟩:=St.rowV (α:=TMove) b0 (.tl (.tl .hd))
 refine AT 7 255 14592 A0 rfl E0 (FV.lenV Tryz.underlying46 rfl t7) rfl ?_
 obtain ⟨Y5,R03,h⟩:=bi h
 refine Ah 8 511 A0 rfl E0 (fun _=>FV.remc (i:=((a0.fAt.toNat:Nat):Int)) (j:=((H0.length:Nat):Int)) rfl rfl R03) rfl<|Ah 9 1023 A0 rfl E0 (fun _=>Bt 2 rfl) rfl<|AT 10 2047 14336 A0 rfl E0 (AA rfl ((b0.memA (.tl (.tl (.tl (.tl (.tl (.tl (.tl (.tl .hd))))))))) 2 _ rfl)) rfl ?_
 obtain ⟨q1,W03,h⟩:=bi h
 obtain ⟨B7,W5⟩:=idx_in W03
 have R00:=Tt s0 (Tt t0 (Tt u0 (Tt q0 (Tt k0 p0))))
 have D5:=Al U0 R00
 obtain ⟨c6,b05,y5,Q5,C05,Q02,X05⟩:=St.nth (α:=TMove) b0 (.tl (.tl .hd)) D5 W5
 obtain ⟨s6,c05,K5⟩:=BH (α:=TMove) b0 (.tl (.tl .hd)) Q5
 obtain rfl:c6 = ⟨s6,0,none⟩:=by rw [K5] at y5; cases y5; rfl
 obtain rfl:=op_TMove Q02
 refine Ah 11 4095 A0 rfl E0 (fun _=>Be 3 (Y5.toNat) rfl y5 rfl B7 Q5) rfl<|Ah 12 8191 A0 rfl E0 (fun _=>Bt 1 rfl) rfl ?_
 obtain ⟨d05,u7,Q05,D05,R02,Y05,q7⟩:=St.nthAt (α:=TMove) b0 (.tl (.tl .hd)) D5 W5 K5
 obtain rfl:=op_TMove R02
 obtain ⟨D04,k04,h⟩:=bi h
 refine BD (i:=13) (readyD_ok A0 (by kernel_rfl)) (RO.acts (m' :=16383) (stepC_ok A0 (by kernel_rfl)) rfl rfl .plain (Acts.setPart (α:=TMove) (i:=Y5.toNat) (tot:=1) (ds:=[vI q1.fUnit,vI q1.fFrom,vI q1.fTo]) (news:=[vI a0.fN]) (full:=[vI q1.fUnit,vI a0.fN,vI q1.fTo]) k04 b0 u7 (fun _=>(.tl (.tl .hd))) D5 q7 rfl (by kernel_rfl) rfl rfl rfl rfl (mk_TMove q1.fUnit a0.fN q1.fTo) (by kernel_rfl) (o1 rfl)) (fun M06 ⟨E05,z1,Q4,d7⟩=>?_))
 refine Bc (doneD_ok A0 (by kernel_rfl))<|AF<|Ae<|Ab (AG rfl (z1.memA (.tl (.tl (.tl (.tl (.tl .hd)))))))<|Bk [vI a1.fK,c0,d0,j0,g0] z1 (.tl (.tl (.tl (.tl (.tl (.tl .hd)))))) (o5 rfl (Bz (α:=Int) z1 (.tl (.tl (.tl (.tl .hd))))) (Bz (α:=Int) z1 (.tl (.tl (.tl .hd)))) (Bz (α:=TMove) z1 (.tl (.tl .hd))) (Bz (α:=TMove) z1 (.tl .hd))) (fun P06 M3 j3=>?_)
 refine Aa<|Am rfl ?_
 have U00:=Tt K0 (Tt M0 (Tt P0 (Tt x0 (Tt y0 (Tt z0 (Tt s0 (Tt t0 (Tt u0 (Tt q0 (Tt k0 (Tt p0 (Tt Q4 j3))))))))))))
 have Y8:=Al Q0 U00
 have U02:=AQ (α:=Int) M3 (.tl (.tl (.tl (.tl .hd)))) Y8 hL
 have v2:=Bf M3 (.tl (.tl (.tl (.tl .hd))))
 have R4:=Bg M3 (.tl (.tl (.tl (.tl .hd))))
 have V02:=Bh (α:=Int) (v:=c0) (xs:=B0) v2 L U02
 have V00:=Tt x0 (Tt y0 (Tt z0 (Tt s0 (Tt t0 (Tt u0 (Tt q0 (Tt k0 (Tt p0 (Tt Q4 (Tt j3 R4))))))))))
 have b9:=Al R0 V00
 have W02:=AQ (α:=Int) v2 (.tl (.tl (.tl .hd))) b9 hL
 have x2:=Bf v2 (.tl (.tl (.tl .hd)))
 have U4:=Bg v2 (.tl (.tl (.tl .hd)))
 have X02:=Bh (α:=Int) (v:=d0) (xs:=G0) x2 L W02
 have W00:=Tt j3 (Tt R4 U4)
 have c9:=Al d7 W00
 have Y02:=AQ (α:=TMove) x2 (.tl (.tl .hd)) c9 hL
 have y2:=Bf x2 (.tl (.tl .hd))
 have V4:=Bg x2 (.tl (.tl .hd))
 have Z02:=Bh (α:=TMove) (v:=j0) (xs:=D04) y2 L Y02
 have X00:=Tt q0 (Tt k0 (Tt p0 (Tt Q4 (Tt j3 (Tt R4 (Tt U4 V4))))))
 have d9:=Al V0 X00
 have b03:=AQ (α:=TMove) y2 (.tl .hd) d9 hL
 have g1:=Bf y2 (.tl .hd)
 have W4:=Bg y2 (.tl .hd)
 have c03:=Bh (α:=TMove) (v:=g0) (xs:=I0) g1 L b03
 refine Ay hb0 Tryz.func12 rfl (.cons (.many (cs:=[vI a1.fK,c0,d0,j0,g0]) (by kernel_rfl) rfl (g1.memA (.tl (.tl .hd)))) .nil) rfl ?_
 cases h
 have Y00:=Tt U4 (Tt V4 W4)
 have g9:=Aj V02 Y00
 have j9:=Aj X02 (Tt V4 W4)
 have k9:=Aj Z02 W4
 exact ⟨g1.ag,fun w9 hw9=>⟨c0,d0,j0,g0,rfl,g1.kd g9 hw9,g1.kd j9 hw9,g1.kd k9 hw9,g1.kd c03 hw9⟩⟩
 refine Ao<|AF<|Ae<|Ab (AG rfl (b0.memA (.tl (.tl (.tl (.tl (.tl .hd)))))))<|Bk [vI a1.fK,c0,d0,j0,g0] b0 (.tl (.tl (.tl (.tl (.tl (.tl .hd)))))) (o5 rfl (Bz (α:=Int) b0 (.tl (.tl (.tl (.tl .hd))))) (Bz (α:=Int) b0 (.tl (.tl (.tl .hd)))) (Bz (α:=TMove) b0 (.tl (.tl .hd))) (Bz (α:=TMove) b0 (.tl .hd))) (fun R06 Q3 k3=>?_)
 refine Aa<|Am rfl ?_
 have Z00:=Tt K0 (Tt M0 (Tt P0 (Tt x0 (Tt y0 (Tt z0 (Tt s0 (Tt t0 (Tt u0 (Tt q0 (Tt k0 (Tt p0 k3)))))))))))
 have p9:=Al Q0 Z00
 have d03:=AQ (α:=Int) Q3 (.tl (.tl (.tl (.tl .hd)))) p9 hL
 have z2:=Bf Q3 (.tl (.tl (.tl (.tl .hd))))
 have X4:=Bg Q3 (.tl (.tl (.tl (.tl .hd))))
 have g03:=Bh (α:=Int) (v:=c0) (xs:=B0) z2 L d03
 have b01:=Tt x0 (Tt y0 (Tt z0 (Tt s0 (Tt t0 (Tt u0 (Tt q0 (Tt k0 (Tt p0 (Tt k3 X4)))))))))
 have q9:=Al R0 b01
 have j03:=AQ (α:=Int) z2 (.tl (.tl (.tl .hd))) q9 hL
 have A2:=Bf z2 (.tl (.tl (.tl .hd)))
 have Y4:=Bg z2 (.tl (.tl (.tl .hd)))
 have k03:=Bh (α:=Int) (v:=d0) (xs:=G0) A2 L j03
 have c01:=Tt s0 (Tt t0 (Tt u0 (Tt q0 (Tt k0 (Tt p0 (Tt k3 (Tt X4 Y4)))))))
 have s9:=Al U0 c01
 have p03:=AQ (α:=TMove) A2 (.tl (.tl .hd)) s9 hL
 have B2:=Bf A2 (.tl (.tl .hd))
 have Z4:=Bg A2 (.tl (.tl .hd))
 have q03:=Bh (α:=TMove) (v:=j0) (xs:=H0) B2 L p03
 have d01:=Tt q0 (Tt k0 (Tt p0 (Tt k3 (Tt X4 (Tt Y4 Z4)))))
 have t9:=Al V0 d01
 have s03:=AQ (α:=TMove) B2 (.tl .hd) t9 hL
 have j1:=Bf B2 (.tl .hd)
 have c5:=Bg B2 (.tl .hd)
 have t03:=Bh (α:=TMove) (v:=g0) (xs:=I0) j1 L s03
 refine Ay hb0 Tryz.func12 rfl (.cons (.many (cs:=[vI a1.fK,c0,d0,j0,g0]) (by kernel_rfl) rfl (j1.memA (.tl (.tl .hd)))) .nil) rfl ?_
 cases h
 have g01:=Tt Y4 (Tt Z4 c5)
 have u9:=Aj g03 g01
 have v9:=Aj k03 (Tt Z4 c5)
 have x9:=Aj q03 c5
 exact ⟨j1.ag,fun w9 hw9=>⟨c0,d0,j0,g0,rfl,j1.kd u9 hw9,j1.kd v9 hw9,j1.kd x9 hw9,j1.kd t03 hw9⟩⟩
 refine Ae<|Ab (BR (i:=(a0.fWhat % (7:UInt8)).toNat) (j:=5) rfl rfl)<|Ag rfl<|Aa<|AW rfl h (fun D6 h=>?_) (fun D6 h=>?_)
 refine Ae<|AH 1 rfl<|Ab (AA rfl ((b0.memA (.tl (.tl (.tl (.tl (.tl .hd)))))) 1 _ rfl)) ?_
 have U05:B0.length ≤ 4294967296:=St.rowLe (α:=Int) b0 (.tl (.tl (.tl (.tl .hd))))
 obtain ⟨H04,g05,v7⟩:=St.rowV (α:=Int) b0 (.tl (.tl (.tl (.tl .hd))))
 refine Ab (FV.lenV Tryz.underlying43 rfl v7)<|Ab (FV.gtrN (i:=B0.length) (j:=0) rfl rfl)<|Aa<|AW rfl h (fun E6 h=>?_) (fun E6 h=>?_)
 refine Bm 12 tb12_23 (by kernel_rfl) (by kernel_rfl) (by kernel_rfl) (fun C0 J0=>?_)
 refine Ah 0 1 C0 rfl J0 (fun _=>Bt 1 rfl) rfl<|AT 1 3 6144 C0 rfl J0 (AA rfl ((b0.memA (.tl (.tl (.tl (.tl (.tl .hd)))))) 1 _ rfl)) rfl<|Ah 2 7 C0 rfl J0 (fun _=>Bt 1 rfl) rfl<|AT 3 15 6416 C0 rfl J0 (AA rfl ((b0.memA (.tl (.tl (.tl (.tl (.tl (.tl (.tl (.tl .hd))))))))) 1 _ rfl)) rfl ?_
 have g06:=a0.fAt.toNat_lt
 refine Ah 4 31 C0 rfl J0 (fun _=>FV.convN (i:=a0.fAt.toNat) Tryz.underlying5 Tryz.underlying3 rfl (by omega)) rfl<|Ah 5 63 C0 rfl J0 (fun _=>Bt 1 rfl) rfl<|AT 6 127 6528 C0 rfl J0 (AA rfl ((b0.memA (.tl (.tl (.tl (.tl (.tl .hd)))))) 1 _ rfl)) rfl ?_
 obtain ⟨I04,j05,x7⟩:=St.rowV (α:=Int) b0 (.tl (.tl (.tl (.tl .hd))))
 refine AT 7 255 6400 C0 rfl J0 (FV.lenV Tryz.underlying43 rfl x7) rfl ?_
 obtain ⟨Z5,U03,h⟩:=bi h
 refine Ah 8 511 C0 rfl J0 (fun _=>FV.remc (i:=((a0.fAt.toNat:Nat):Int)) (j:=((B0.length:Nat):Int)) rfl rfl U03) rfl<|Ah 9 1023 C0 rfl J0 (fun _=>Bt 2 rfl) rfl<|AT 10 2047 6144 C0 rfl J0 (AA rfl ((b0.memA (.tl (.tl (.tl (.tl (.tl (.tl (.tl (.tl .hd))))))))) 2 _ rfl)) rfl ?_
 obtain ⟨y04,X03,h⟩:=bi h
 obtain ⟨C7,Y03⟩:=idx_in X03
 have j01:=Tt K0 (Tt M0 (Tt P0 (Tt x0 (Tt y0 (Tt z0 (Tt s0 (Tt t0 (Tt u0 (Tt q0 (Tt k0 p0))))))))))
 have V5:=Al Q0 j01
 obtain ⟨d6,k05,z5,R5,G6,u03,Z05⟩:=St.nth (α:=Int) b0 (.tl (.tl (.tl (.tl .hd)))) V5 Y03
 obtain ⟨t6,p05,M5⟩:=BH (α:=Int) b0 (.tl (.tl (.tl (.tl .hd)))) R5
 obtain rfl:d6 = ⟨t6,0,none⟩:=by rw [M5] at z5; cases z5; rfl
 have y7:G6 = [vI y04]:=u03; subst y7
 refine Ah 11 4095 C0 rfl J0 (fun _=>Be 1 (Z5.toNat) rfl z5 rfl C7 R5) rfl ?_
 obtain ⟨E04,q04,h⟩:=bi h
 refine BD (i:=12) (readyD_ok C0 (by kernel_rfl)) (RO.acts (m' :=8191) (stepC_ok C0 (by kernel_rfl)) rfl rfl .plain (Acts.set (α:=Int) (i:=Z5.toNat) q04 b0 M5 (fun _=>(.tl (.tl (.tl (.tl .hd))))) V5 rfl rfl rfl rfl rfl (by kernel_rfl)) (fun V06 ⟨F05,A1,d5,g7⟩=>?_))
 refine Bc (doneD_ok C0 (by kernel_rfl))<|AF<|Ae<|Ab (AG rfl (A1.memA (.tl (.tl (.tl (.tl (.tl .hd)))))))<|Bk [vI a1.fK,c0,d0,j0,g0] A1 (.tl (.tl (.tl (.tl (.tl (.tl .hd)))))) (o5 rfl (Bz (α:=Int) A1 (.tl (.tl (.tl (.tl .hd))))) (Bz (α:=Int) A1 (.tl (.tl (.tl .hd)))) (Bz (α:=TMove) A1 (.tl (.tl .hd))) (Bz (α:=TMove) A1 (.tl .hd))) (fun W06 R3 p3=>?_)
 refine Aa<|Am rfl ?_
 have y9:=Al g7 p3
 have v03:=AQ (α:=Int) R3 (.tl (.tl (.tl (.tl .hd)))) y9 hL
 have C2:=Bf R3 (.tl (.tl (.tl (.tl .hd))))
 have g5:=Bg R3 (.tl (.tl (.tl (.tl .hd))))
 have x03:=Bh (α:=Int) (v:=c0) (xs:=E04) C2 L v03
 have k01:=Tt x0 (Tt y0 (Tt z0 (Tt s0 (Tt t0 (Tt u0 (Tt q0 (Tt k0 (Tt p0 (Tt d5 (Tt p3 g5))))))))))
 have z9:=Al R0 k01
 have y03:=AQ (α:=Int) C2 (.tl (.tl (.tl .hd))) z9 hL
 have D2:=Bf C2 (.tl (.tl (.tl .hd)))
 have j5:=Bg C2 (.tl (.tl (.tl .hd)))
 have z03:=Bh (α:=Int) (v:=d0) (xs:=G0) D2 L y03
 have p01:=Tt s0 (Tt t0 (Tt u0 (Tt q0 (Tt k0 (Tt p0 (Tt d5 (Tt p3 (Tt g5 j5))))))))
 have A9:=Al U0 p01
 have A03:=AQ (α:=TMove) D2 (.tl (.tl .hd)) A9 hL
 have E2:=Bf D2 (.tl (.tl .hd))
 have k5:=Bg D2 (.tl (.tl .hd))
 have B03:=Bh (α:=TMove) (v:=j0) (xs:=H0) E2 L A03
 have q01:=Tt q0 (Tt k0 (Tt p0 (Tt d5 (Tt p3 (Tt g5 (Tt j5 k5))))))
 have B9:=Al V0 q01
 have C03:=AQ (α:=TMove) E2 (.tl .hd) B9 hL
 have k1:=Bf E2 (.tl .hd)
 have p5:=Bg E2 (.tl .hd)
 have D03:=Bh (α:=TMove) (v:=g0) (xs:=I0) k1 L C03
 refine Ay hb0 Tryz.func12 rfl (.cons (.many (cs:=[vI a1.fK,c0,d0,j0,g0]) (by kernel_rfl) rfl (k1.memA (.tl (.tl .hd)))) .nil) rfl ?_
 cases h
 have s01:=Tt j5 (Tt k5 p5)
 have C9:=Aj x03 s01
 have D9:=Aj z03 (Tt k5 p5)
 have E9:=Aj B03 p5
 exact ⟨k1.ag,fun w9 hw9=>⟨c0,d0,j0,g0,rfl,k1.kd C9 hw9,k1.kd D9 hw9,k1.kd E9 hw9,k1.kd D03 hw9⟩⟩
 refine Ao<|AF<|Ae<|Ab (AG rfl (b0.memA (.tl (.tl (.tl (.tl (.tl .hd)))))))<|Bk [vI a1.fK,c0,d0,j0,g0] b0 (.tl (.tl (.tl (.tl (.tl (.tl .hd)))))) (o5 rfl (Bz (α:=Int) b0 (.tl (.tl (.tl (.tl .hd))))) (Bz (α:=Int) b0 (.tl (.tl (.tl .hd)))) (Bz (α:=TMove) b0 (.tl (.tl .hd))) (Bz (α:=TMove) b0 (.tl .hd))) (fun X06 U3 q3=>?_)
 refine Aa<|Am rfl ?_
 have t01:=Tt K0 (Tt M0 (Tt P0 (Tt x0 (Tt y0 (Tt z0 (Tt s0 (Tt t0 (Tt u0 (Tt q0 (Tt k0 (Tt p0 q3)))))))))))
 have F9:=Al Q0 t01
 have E03:=AQ (α:=Int) U3 (.tl (.tl (.tl (.tl .hd)))) F9 hL
 have F2:=Bf U3 (.tl (.tl (.tl (.tl .hd))))
 have q5:=Bg U3 (.tl (.tl (.tl (.tl .hd))))
 have F03:=Bh (α:=Int) (v:=c0) (xs:=B0) F2 L E03
 have u01:=Tt x0 (Tt y0 (Tt z0 (Tt s0 (Tt t0 (Tt u0 (Tt q0 (Tt k0 (Tt p0 (Tt q3 q5)))))))))
 have G9:=Al R0 u01
 have G03:=AQ (α:=Int) F2 (.tl (.tl (.tl .hd))) G9 hL
 have G2:=Bf F2 (.tl (.tl (.tl .hd)))
 have s5:=Bg F2 (.tl (.tl (.tl .hd)))
 have H03:=Bh (α:=Int) (v:=d0) (xs:=G0) G2 L G03
 have v01:=Tt s0 (Tt t0 (Tt u0 (Tt q0 (Tt k0 (Tt p0 (Tt q3 (Tt q5 s5)))))))
 have H9:=Al U0 v01
 have I03:=AQ (α:=TMove) G2 (.tl (.tl .hd)) H9 hL
 have I2:=Bf G2 (.tl (.tl .hd))
 have t5:=Bg G2 (.tl (.tl .hd))
 have J03:=Bh (α:=TMove) (v:=j0) (xs:=H0) I2 L I03
 have x01:=Tt q0 (Tt k0 (Tt p0 (Tt q3 (Tt q5 (Tt s5 t5)))))
 have I9:=Al V0 x01
 have K03:=AQ (α:=TMove) I2 (.tl .hd) I9 hL
 have p1:=Bf I2 (.tl .hd)
 have u5:=Bg I2 (.tl .hd)
 have M03:=Bh (α:=TMove) (v:=g0) (xs:=I0) p1 L K03
 refine Ay hb0 Tryz.func12 rfl (.cons (.many (cs:=[vI a1.fK,c0,d0,j0,g0]) (by kernel_rfl) rfl (p1.memA (.tl (.tl .hd)))) .nil) rfl ?_
 cases h
 have y01:=Tt s5 (Tt t5 u5)
 have J9:=Aj F03 y01
 have K9:=Aj H03 (Tt t5 u5)
 have M9:=Aj J03 u5
 exact ⟨p1.ag,fun w9 hw9=>⟨c0,d0,j0,g0,rfl,p1.kd J9 hw9,p1.kd K9 hw9,p1.kd M9 hw9,p1.kd M03 hw9⟩⟩
 refine Ae<|AH 3 rfl<|Ab (AA rfl ((b0.memA (.tl (.tl (.tl (.tl (.tl .hd)))))) 3 _ rfl)) ?_
 have V05:H0.length ≤ 4294967296:=St.rowLe (α:=TMove) b0 (.tl (.tl .hd))
 obtain ⟨J04,q05,z7⟩:=St.rowV (α:=TMove) b0 (.tl (.tl .hd))
 refine Ab (FV.lenV Tryz.underlying46 rfl z7)<|Ab (FV.gtrN (i:=H0.length) (j:=1) rfl rfl)<|Aa<|AW rfl h (fun F6 h=>?_) (fun F6 h=>?_)
 refine Bm 13 tb12_9 (by kernel_rfl) (by kernel_rfl) (by kernel_rfl) (fun v0 D0=>?_)
 refine Ah 0 1 v0 rfl D0 (fun _=>Bt 3 rfl) rfl<|AT 1 3 61440 v0 rfl D0 (AA rfl ((b0.memA (.tl (.tl (.tl (.tl (.tl .hd)))))) 3 _ rfl)) rfl<|Ah 2 7 v0 rfl D0 (fun _=>Bt 3 rfl) rfl<|Ah 4 23 v0 rfl D0 (fun _=>Bt 3 rfl) rfl<|AT 5 55 61632 v0 rfl D0 (AA rfl ((b0.memA (.tl (.tl (.tl (.tl (.tl .hd)))))) 3 _ rfl)) rfl ?_
 obtain ⟨E1,Z03,h⟩:=bi h
 have z01:=Tt s0 (Tt t0 (Tt u0 (Tt q0 (Tt k0 p0))))
 have t3:=Al U0 z01
 obtain ⟨g6,s05,A5,U5,G05,P03,P9⟩:=St.nth (α:=TMove) b0 (.tl (.tl .hd)) t3 Z03
 obtain ⟨u6,t05,A7⟩:=BH (α:=TMove) b0 (.tl (.tl .hd)) U5
 obtain rfl:g6 = ⟨u6,0,none⟩:=by rw [A7] at A5; cases A5; rfl
 obtain rfl:=op_TMove P03
 refine Ah 6 119 v0 rfl D0 (fun _=>Be 3 1 rfl A5 rfl rfl U5) rfl<|AT 7 247 61440 v0 rfl D0 (AG rfl P9) rfl<|Ah 8 503 v0 rfl D0 (fun _=>Bt 3 rfl) rfl<|AT 9 1015 64512 v0 rfl D0 (AA rfl ((b0.memA (.tl (.tl (.tl (.tl (.tl .hd)))))) 3 _ rfl)) rfl ?_
 obtain ⟨F1,b04,h⟩:=bi h
 obtain ⟨j6,u05,s3,C5,H05,Q03,Q9⟩:=St.nth (α:=TMove) b0 (.tl (.tl .hd)) t3 b04
 obtain ⟨v6,v05,B5⟩:=BH (α:=TMove) b0 (.tl (.tl .hd)) C5
 obtain rfl:j6 = ⟨v6,0,none⟩:=by rw [B5] at s3; cases s3; rfl
 obtain rfl:=op_TMove Q03
 refine Ah 10 2039 v0 rfl D0 (fun _=>Be 3 0 rfl s3 rfl rfl C5) rfl<|AT 11 4087 61440 v0 rfl D0 (AG rfl Q9) rfl<|Ah 12 8183 v0 rfl D0 (fun _=>Be 3 0 rfl s3 rfl rfl C5) rfl ?_
 obtain ⟨v3,X5,h⟩:=bi h
 refine RD.meet (α:=Value × (List Value)) (fun ⟨F0,s1⟩=>[(4,vP G1),(5,vP H1),(58,.agg #[vI F1.fUnit,vI F1.fFrom,vI F1.fTo]),(50,F0)]) (fun ⟨F0,s1⟩ u3=>St w u3 [.row w.heap.size 62 (Rep.size TMove) g0 I0.length M1,.row w.heap.size 62 (Rep.size TMove) F0 v3.length s1,.row w.heap.size 3 (Rep.size Int) d0 G0.length K1,.row w.heap.size 3 (Rep.size Int) c0 B0.length J1,.cells H1 [vI a1.fK,c0,d0,F0,g0] 48,.cells G1 [vI 0,vN,vN,vN,vN] 48]∧Tr v04 [.cells p6 [vI a0.fN,vI (((a0.fAt % (3:UInt8)).toNat:Nat):Int),vI ((((a0.fAt / (3:UInt8)) % (3:UInt8)).toNat:Nat):Int)] 62,.row w.heap.size 62 (Rep.size TMove) g0 I0.length M1,.row w.heap.size 62 (Rep.size TMove) j0 H0.length H6,.row w.heap.size 3 (Rep.size Int) d0 G0.length K1,.row w.heap.size 3 (Rep.size Int) c0 B0.length J1,.cells H1 [vI a1.fK,c0,d0,j0,g0] 48,.cells G1 [vI 0,vN,vN,vN,vN] 48,.cells k6 [vI a1.fK,v1_1,v1_2,v1_3,v1_4] 48,.cells b5 [.int .u8 (a0.fWhat.toNat:Int),.int .u8 (a0.fAt.toNat:Int),vI a0.fN] 33] u3 [.row w.heap.size 62 (Rep.size TMove) g0 I0.length M1,.row w.heap.size 62 (Rep.size TMove) F0 v3.length s1,.row w.heap.size 3 (Rep.size Int) d0 G0.length K1,.row w.heap.size 3 (Rep.size Int) c0 B0.length J1,.cells H1 [vI a1.fK,c0,d0,F0,g0] 48,.cells G1 [vI 0,vN,vN,vN,vN] 48]∧Cells u3 (bl [.row w.heap.size 62 (Rep.size TMove) g0 I0.length M1,.row w.heap.size 62 (Rep.size TMove) F0 v3.length s1,.row w.heap.size 3 (Rep.size Int) d0 G0.length K1,.row w.heap.size 3 (Rep.size Int) c0 B0.length J1,.cells H1 [vI a1.fK,c0,d0,F0,g0] 48,.cells G1 [vI 0,vN,vN,vN,vN] 48] ++ L) s1 (v3:List TMove)) 2 16383 ?_ ?_
 rintro ⟨F0,s1⟩ u3 ⟨C3,k4,I5⟩
 try dsimp only
 obtain ⟨q07,V03,h⟩:=bi h
 obtain ⟨b6,W04,x5,P5,y05,M01,W05⟩:=St.nth (α:=TMove) C3 (.tl .hd) I5 V03
 obtain ⟨q6,X04,J5⟩:=BH (α:=TMove) C3 (.tl .hd) P5
 obtain rfl:b6 = ⟨q6,0,none⟩:=by rw [J5] at x5; cases x5; rfl
 obtain rfl:=op_TMove M01
 refine Ah 14 32767 v0 rfl D0 (fun _=>Be 3 1 rfl x5 rfl rfl P5) rfl ?_
 obtain ⟨A04,d04,h⟩:=bi h
 refine BD (i:=15) (readyD_ok v0 (by kernel_rfl)) (RO.acts (m' :=65535) (stepC_ok v0 (by kernel_rfl)) rfl rfl .plain (Acts.set (α:=TMove) (i:=1) d04 C3 J5 (fun _=>(.tl .hd)) I5 rfl rfl rfl rfl (mk_TMove F1.fUnit F1.fFrom F1.fTo) (by kernel_rfl)) (fun y06 ⟨z05,v1,p4,W6⟩=>?_))
 refine Bc (doneD_ok v0 (by kernel_rfl))<|AF<|Ae<|Ab (AG rfl (v1.memA (.tl (.tl (.tl (.tl .hd))))))<|Bk [vI a1.fK,c0,d0,F0,g0] v1 (.tl (.tl (.tl (.tl (.tl .hd))))) (o5 rfl (Bz (α:=Int) v1 (.tl (.tl (.tl .hd)))) (Bz (α:=Int) v1 (.tl (.tl .hd))) (Bz (α:=TMove) v1 (.tl .hd)) (Bz (α:=TMove) v1 .hd)) (fun z06 D3 W2=>?_)
 refine Aa<|Am rfl ?_
 have g00:=Tt K0 (Tt M0 (Tt P0 (Tt x0 (Tt y0 (Tt z0 (Tt s0 (Tt t0 (Tt u0 (Tt q0 (Tt k0 (Tt p0 (Tt k4 (Tt p4 W2)))))))))))))
 have P7:=Al Q0 g00
 have P01:=AQ (α:=Int) D3 (.tl (.tl (.tl .hd))) P7 hL
 have X1:=Bf D3 (.tl (.tl (.tl .hd)))
 have s4:=Bg D3 (.tl (.tl (.tl .hd)))
 have Q01:=Bh (α:=Int) (v:=c0) (xs:=B0) X1 L P01
 have j00:=Tt x0 (Tt y0 (Tt z0 (Tt s0 (Tt t0 (Tt u0 (Tt q0 (Tt k0 (Tt p0 (Tt k4 (Tt p4 (Tt W2 s4)))))))))))
 have Q7:=Al R0 j00
 have R01:=AQ (α:=Int) X1 (.tl (.tl .hd)) Q7 hL
 have Y1:=Bf X1 (.tl (.tl .hd))
 have t4:=Bg X1 (.tl (.tl .hd))
 have U01:=Bh (α:=Int) (v:=d0) (xs:=G0) Y1 L R01
 have p00:=Tt W2 (Tt s4 t4)
 have R7:=Al W6 p00
 have V01:=AQ (α:=TMove) Y1 (.tl .hd) R7 hL
 have Z1:=Bf Y1 (.tl .hd)
 have u4:=Bg Y1 (.tl .hd)
 have W01:=Bh (α:=TMove) (v:=F0) (xs:=A04) Z1 L V01
 have q00:=Tt q0 (Tt k0 (Tt p0 (Tt k4 (Tt p4 (Tt W2 (Tt s4 (Tt t4 u4)))))))
 have V7:=Al V0 q00
 have X01:=AQ (α:=TMove) Z1 .hd V7 hL
 have X0:=Bf Z1 .hd
 have v4:=Bg Z1 .hd
 have Y01:=Bh (α:=TMove) (v:=g0) (xs:=I0) X0 L X01
 refine Ay hb0 Tryz.func12 rfl (.cons (.many (cs:=[vI a1.fK,c0,d0,F0,g0]) (by kernel_rfl) rfl (X0.memA (.tl .hd))) .nil) rfl ?_
 cases h
 have s00:=Tt t4 (Tt u4 v4)
 have W7:=Aj Q01 s00
 have X7:=Aj U01 (Tt u4 v4)
 have Y7:=Aj W01 v4
 exact ⟨X0.ag,fun w9 hw9=>⟨c0,d0,F0,g0,rfl,X0.kd W7 hw9,X0.kd X7 hw9,X0.kd Y7 hw9,X0.kd Y01 hw9⟩⟩
 intro E5
 refine Bv [3,13] (readyD_ok v0 (by kernel_rfl)) ⟨?_,?_,trivial⟩
 refine BW (m' :=8191) (stepC_ok v0 (by kernel_rfl)) rfl .plain rfl (AA rfl ((b0.memA (.tl (.tl (.tl (.tl (.tl .hd)))))) 3 _ rfl))<|BD (i:=13) (readyD_ok v0 (by kernel_rfl)) (RO.acts (m' :=16383) (stepC_ok v0 (by kernel_rfl)) rfl rfl .plain (Acts.set (α:=TMove) (i:=0) X5 b0 B5 (fun _=>(.tl (.tl .hd))) t3 rfl rfl rfl rfl (mk_TMove E1.fUnit E1.fFrom E1.fTo) (by kernel_rfl)) (fun x04 ⟨x3,P1,Y3,v5⟩=>?_))
 obtain ⟨J6,G5⟩:=AD P1 (.one (.tl .hd) (.one (.tl .hd) (.one (.tl .hd) (.one (.tl .hd) (.one (.tl .hd) (.one (.tl .hd) .done))))))
 have Z7:=Al v5 G5
 exact E5 (j0,x3) _ _ ⟨rfl,rfl,rfl,rfl,trivial⟩ ⟨J6,(Tt Y3 G5),Z7⟩
 refine RO.acts (m' :=16375) (stepC_ok v0 (by kernel_rfl)) rfl rfl .plain (Acts.set (α:=TMove) (i:=0) X5 b0 B5 (fun _=>(.tl (.tl .hd))) t3 rfl rfl rfl rfl (mk_TMove E1.fUnit E1.fFrom E1.fTo) (by kernel_rfl)) (fun x04 ⟨x3,P1,Y3,v5⟩=>?_)
 refine AT 3 16383 49152 v0 rfl D0 (AA rfl ((P1.memA (.tl (.tl (.tl (.tl (.tl .hd)))))) 3 _ rfl)) rfl ?_
 obtain ⟨K6,H5⟩:=AD P1 (.one (.tl .hd) (.one (.tl .hd) (.one (.tl .hd) (.one (.tl .hd) (.one (.tl .hd) (.one (.tl .hd) .done))))))
 have b8:=Al v5 H5
 exact E5 (j0,x3) _ _ ⟨rfl,rfl,rfl,rfl,trivial⟩ ⟨K6,(Tt Y3 H5),b8⟩
 refine Ao<|AF<|Ae<|Ab (AG rfl (b0.memA (.tl (.tl (.tl (.tl (.tl .hd)))))))<|Bk [vI a1.fK,c0,d0,j0,g0] b0 (.tl (.tl (.tl (.tl (.tl (.tl .hd)))))) (o5 rfl (Bz (α:=Int) b0 (.tl (.tl (.tl (.tl .hd))))) (Bz (α:=Int) b0 (.tl (.tl (.tl .hd)))) (Bz (α:=TMove) b0 (.tl (.tl .hd))) (Bz (α:=TMove) b0 (.tl .hd))) (fun A06 E3 X2=>?_)
 refine Aa<|Am rfl ?_
 have t00:=Tt K0 (Tt M0 (Tt P0 (Tt x0 (Tt y0 (Tt z0 (Tt s0 (Tt t0 (Tt u0 (Tt q0 (Tt k0 (Tt p0 X2)))))))))))
 have c8:=Al Q0 t00
 have b02:=AQ (α:=Int) E3 (.tl (.tl (.tl (.tl .hd)))) c8 hL
 have b2:=Bf E3 (.tl (.tl (.tl (.tl .hd))))
 have x4:=Bg E3 (.tl (.tl (.tl (.tl .hd))))
 have d02:=Bh (α:=Int) (v:=c0) (xs:=B0) b2 L b02
 have u00:=Tt x0 (Tt y0 (Tt z0 (Tt s0 (Tt t0 (Tt u0 (Tt q0 (Tt k0 (Tt p0 (Tt X2 x4)))))))))
 have d8:=Al R0 u00
 have g02:=AQ (α:=Int) b2 (.tl (.tl (.tl .hd))) d8 hL
 have c2:=Bf b2 (.tl (.tl (.tl .hd)))
 have y4:=Bg b2 (.tl (.tl (.tl .hd)))
 have j02:=Bh (α:=Int) (v:=d0) (xs:=G0) c2 L g02
 have v00:=Tt s0 (Tt t0 (Tt u0 (Tt q0 (Tt k0 (Tt p0 (Tt X2 (Tt x4 y4)))))))
 have g8:=Al U0 v00
 have k02:=AQ (α:=TMove) c2 (.tl (.tl .hd)) g8 hL
 have g2:=Bf c2 (.tl (.tl .hd))
 have z4:=Bg c2 (.tl (.tl .hd))
 have p02:=Bh (α:=TMove) (v:=j0) (xs:=H0) g2 L k02
 have x00:=Tt q0 (Tt k0 (Tt p0 (Tt X2 (Tt x4 (Tt y4 z4)))))
 have j8:=Al V0 x00
 have q02:=AQ (α:=TMove) g2 (.tl .hd) j8 hL
 have Y0:=Bf g2 (.tl .hd)
 have A4:=Bg g2 (.tl .hd)
 have s02:=Bh (α:=TMove) (v:=g0) (xs:=I0) Y0 L q02
 refine Ay hb0 Tryz.func12 rfl (.cons (.many (cs:=[vI a1.fK,c0,d0,j0,g0]) (by kernel_rfl) rfl (Y0.memA (.tl (.tl .hd)))) .nil) rfl ?_
 cases h
 have y00:=Tt y4 (Tt z4 A4)
 have k8:=Aj d02 y00
 have p8:=Aj j02 (Tt z4 A4)
 have q8:=Aj p02 A4
 exact ⟨Y0.ag,fun w9 hw9=>⟨c0,d0,j0,g0,rfl,Y0.kd k8 hw9,Y0.kd p8 hw9,Y0.kd q8 hw9,Y0.kd s02 hw9⟩⟩
def tb28_6:List (Nat × Nat × Nat):=[(0,65536,1),(0,131072,32),(3,262144,196608),(4,524288,262144),(0,1048576,2),(0,2097152,32),(48,4194304,3145728),(64,8388608,4194304),(136,16777216,8912896)]
def slices_Equal_api_Plan_int_l1 (_n:Nat) (a0:List Int) (a1:List Int) (b0:Nat → Option (Bool ⊕ Unit)):Nat → Option (Bool ⊕ Unit)
  | i32=>(if i32 < a0.length then (a0[i32]?).bind fun c0=>(a1[i32]?).bind fun d0=>(if c0 = d0 then b0 (i32 + 1) else some (.inl false)) else some (.inr ()))
def slices_Equal_api_Plan_int_p (n:Nat) (a0:List Int) (a1:List Int):Option Bool:=
  (if a0.length = a1.length then thn (loopF (slices_Equal_api_Plan_int_l1 n a0 a1) n 0) (fun _=>some true) else some false)
theorem slices_Equal_api_Plan_int_c (n:Nat) (L:List Nat) (w:World) (_hL:∀ b ∈ L,b < w.heap.size) (a0:List Int) {v0_0:Value} (h0_0:Rep.R w L [v0_0] a0) (a1:List Int) {v1_0:Value} (h1_0:Rep.R w L [v1_0] a1)  {r:Bool} (h:slices_Equal_api_Plan_int_p n a0 a1 = some r) :
    Calls Tryz.prog 28 #[v0_0,v1_0] w (Gives w fun _ u=>u = .bool r):=by
 unfold slices_Equal_api_Plan_int_p at h
 have hS0:=AK w
 refine AM Tryz.func28 rfl rfl rfl (fun _ cs0 hb0=>?_)
 refine Ae<|Ag rfl<|Aa<|Ak<|Ae<|Ac rfl ?_
 have hl1:a0.length ≤ 281474976710656:=AZ h0_0
 refine Ab (Bj (xs:=a0) Tryz.underlying43 rfl h0_0)<|Ac rfl ?_
 have hl2:a1.length ≤ 281474976710656:=AZ h1_0
 refine Ab (Bj (xs:=a1) Tryz.underlying43 rfl h1_0)<|Ab (FV.neqN (i:=a0.length) (j:=a1.length) rfl rfl)<|Aa<|BV rfl h (fun c3 h=>?_) (fun c3 h=>?_)
 refine Ao<|Ak<|Ae<|Ac rfl<|Ab (Bj (xs:=a0) Tryz.underlying43 rfl h0_0)<|Ac rfl<|Aa<|AB ?_
 obtain ⟨X0,I0,j0⟩:=thn_in h
 refine Bp (α:=Nat) (fun i32=>[(0,v0_0),(1,v1_0),(12,vI ((a0.length:Nat):Int)),(13,vI ((i32:Nat):Int))]) (fun i32 g0=>St w g0 []∧Tr w [] g0 []) (fun i32=>i32) 0 I0 ⟨rfl,rfl,rfl,rfl,trivial⟩ ⟨hS0,AN _ _⟩ ?_
 rintro U0 i32 g0 v0 ⟨d0,x0⟩ h
 unfold slices_Equal_api_Plan_int_l1 at h
 try dsimp only at h
 refine Ae<|Ab (BA (i:=i32) (j:=a0.length) rfl rfl)<|Aa<|Ak<|AW rfl h (fun q0 h=>?_) (fun q0 h=>?_)
 refine Ao<|Ak<|AB<|Ae<|Ac rfl<|Ag rfl<|Aa<|Ak<|Bm 9 tb28_6 (by kernel_rfl) (by kernel_rfl) (by kernel_rfl) (fun b0 c0=>?_)
 refine Ah 0 1 b0 rfl c0 (fun _=>Ai rfl) rfl<|Ah 1 3 b0 rfl c0 (fun _=>Ai rfl) rfl ?_
 obtain ⟨k0,M0,h⟩:=bi h
 have F0:=Ax h0_0 d0
 obtain ⟨Q0,V0,y0,C0,t0,J0,E0⟩:=Bb F0 M0
 have z0:t0 = [vI k0]:=J0; subst z0
 refine Ah 2 7 b0 rfl c0 (fun _=>Be 1 i32 rfl y0 rfl rfl C0) rfl<|AT 3 15 256 b0 rfl c0 (AA rfl (E0 0 _ rfl)) rfl<|Ah 4 31 b0 rfl c0 (fun _=>Ai rfl) rfl<|Ah 5 63 b0 rfl c0 (fun _=>Ai rfl) rfl ?_
 obtain ⟨p0,P0,h⟩:=bi h
 have H0:=Ax h1_0 d0
 obtain ⟨R0,W0,A0,D0,u0,K0,G0⟩:=Bb H0 P0
 have B0:u0 = [vI p0]:=K0; subst B0
 refine Ah 6 127 b0 rfl c0 (fun _=>Be 1 i32 rfl A0 rfl rfl D0) rfl<|AT 7 255 256 b0 rfl c0 (AA rfl (G0 0 _ rfl)) rfl<|Ah 8 511 b0 rfl c0 (fun _=>BO (i:=k0) (j:=p0) rfl rfl) rfl<|Bc (doneD_ok b0 (by kernel_rfl))<|BV rfl h (fun s0 h=>?_) (fun s0 h=>?_)
 refine Ao<|AF<|Aw<|Ab (Bu (i:=i32) (j:=1) rfl rfl (by omega))<|Ac rfl<|Aa ?_
 exact v0 (i32 + 1) _ _ ⟨rfl,rfl,rfl,rfl,trivial⟩ ⟨d0,x0⟩ h
 refine Ae<|Ag rfl<|Aa ?_
 have h:=thn_inl h j0
 refine Am rfl<|AJ hb0 Tryz.func28 rfl rfl ?_
 cases h
 exact d0.gv
 refine Bd rfl ?_
 have h:=thn_inr h j0
 try dsimp only at h
 refine Ae<|Ag rfl<|Aa<|Am rfl<|AJ hb0 Tryz.func28 rfl rfl ?_
 cases h
 exact d0.gv
 refine Ae<|Ag rfl<|Aa<|Am rfl<|AJ hb0 Tryz.func28 rfl rfl ?_
 cases h
 exact hS0.gv
def tb52_6:List (Nat × Nat × Nat):=[(0,65536,1),(0,131072,32),(3,262144,196608),(4,524288,262144),(0,1048576,2),(0,2097152,32),(48,4194304,3145728),(64,8388608,4194304),(136,16777216,8912896)]
def slices_Equal_api_Move_api_Move_l1 (_n:Nat) (a0:List TMove) (a1:List TMove) (c0:Nat → Option (Bool ⊕ Unit)):Nat → Option (Bool ⊕ Unit)
  | b0=>(if b0 < a0.length then (a0[b0]?).bind fun d0=>(a1[b0]?).bind fun g0=>(if d0 = g0 then c0 (b0 + 1) else some (.inl false)) else some (.inr ()))
def slices_Equal_api_Move_api_Move_p (n:Nat) (a0:List TMove) (a1:List TMove):Option Bool:=
  (if a0.length = a1.length then thn (loopF (slices_Equal_api_Move_api_Move_l1 n a0 a1) n 0) (fun _=>some true) else some false)
theorem slices_Equal_api_Move_api_Move_c (n:Nat) (L:List Nat) (w:World) (_hL:∀ b ∈ L,b < w.heap.size) (a0:List TMove) {v0_0:Value} (h0_0:Rep.R w L [v0_0] a0) (a1:List TMove) {v1_0:Value} (h1_0:Rep.R w L [v1_0] a1)  {r:Bool} (h:slices_Equal_api_Move_api_Move_p n a0 a1 = some r) :
    Calls Tryz.prog 52 #[v0_0,v1_0] w (Gives w fun _ u=>u = .bool r):=by
 unfold slices_Equal_api_Move_api_Move_p at h
 have hS0:=AK w
 refine AM Tryz.func52 rfl rfl rfl (fun _ cs0 hb0=>?_)
 refine Ae<|Ag rfl<|Aa<|Ak<|Ae<|Ac rfl ?_
 have hl1:a0.length ≤ 281474976710656:=AZ h0_0
 refine Ab (Bj (xs:=a0) Tryz.underlying46 rfl h0_0)<|Ac rfl ?_
 have hl2:a1.length ≤ 281474976710656:=AZ h1_0
 refine Ab (Bj (xs:=a1) Tryz.underlying46 rfl h1_0)<|Ab (FV.neqN (i:=a0.length) (j:=a1.length) rfl rfl)<|Aa<|BV rfl h (fun c3 h=>?_) (fun c3 h=>?_)
 refine Ao<|Ak<|Ae<|Ac rfl<|Ab (Bj (xs:=a0) Tryz.underlying46 rfl h0_0)<|Ac rfl<|Aa<|AB ?_
 obtain ⟨W0,F0,q0⟩:=thn_in h
 refine Bp (α:=Nat) (fun b0=>[(0,v0_0),(1,v1_0),(12,vI ((a0.length:Nat):Int)),(13,vI ((b0:Nat):Int))]) (fun b0 p0=>St w p0 []∧Tr w [] p0 []) (fun b0=>b0) 0 F0 ⟨rfl,rfl,rfl,rfl,trivial⟩ ⟨hS0,AN _ _⟩ ?_
 rintro P0 b0 p0 u0 ⟨g0,v0⟩ h
 unfold slices_Equal_api_Move_api_Move_l1 at h
 try dsimp only at h
 refine Ae<|Ab (BA (i:=b0) (j:=a0.length) rfl rfl)<|Aa<|Ak<|AW rfl h (fun s0 h=>?_) (fun s0 h=>?_)
 refine Ao<|Ak<|AB<|Ae<|Ac rfl<|Ag rfl<|Aa<|Ak<|Bm 9 tb52_6 (by kernel_rfl) (by kernel_rfl) (by kernel_rfl) (fun c0 d0=>?_)
 refine Ah 0 1 c0 rfl d0 (fun _=>Ai rfl) rfl<|Ah 1 3 c0 rfl d0 (fun _=>Ai rfl) rfl ?_
 obtain ⟨j0,I0,h⟩:=bi h
 have C0:=Ax h0_0 g0
 obtain ⟨K0,Q0,x0,z0,U0,G0,B0⟩:=Bb C0 I0
 obtain rfl:=op_TMove G0
 refine Ah 2 7 c0 rfl d0 (fun _=>Be 3 b0 rfl x0 rfl rfl z0) rfl<|AT 3 15 256 c0 rfl d0 (AG rfl B0) rfl<|Ah 4 31 c0 rfl d0 (fun _=>Ai rfl) rfl<|Ah 5 63 c0 rfl d0 (fun _=>Ai rfl) rfl ?_
 obtain ⟨k0,J0,h⟩:=bi h
 have E0:=Ax h1_0 g0
 obtain ⟨M0,R0,y0,A0,V0,H0,D0⟩:=Bb E0 J0
 obtain rfl:=op_TMove H0
 refine Ah 6 127 c0 rfl d0 (fun _=>Be 3 b0 rfl y0 rfl rfl A0) rfl<|AT 7 255 256 c0 rfl d0 (AG rfl D0) rfl<|Ah 8 511 c0 rfl d0 (fun _=>FV.neqV (xs:=([vI j0.fUnit,vI j0.fFrom,vI j0.fTo]).toArray) (ys:=([vI k0.fUnit,vI k0.fFrom,vI k0.fTo]).toArray) rfl rfl (by kernel_rfl) (eqlD_62 j0 k0)) rfl<|Bc (doneD_ok c0 (by kernel_rfl))<|BV rfl h (fun t0 h=>?_) (fun t0 h=>?_)
 refine Ao<|AF<|Aw<|Ab (Bu (i:=b0) (j:=1) rfl rfl (by omega))<|Ac rfl<|Aa ?_
 exact u0 (b0 + 1) _ _ ⟨rfl,rfl,rfl,rfl,trivial⟩ ⟨g0,v0⟩ h
 refine Ae<|Ag rfl<|Aa ?_
 have h:=thn_inl h q0
 refine Am rfl<|AJ hb0 Tryz.func52 rfl rfl ?_
 cases h
 exact g0.gv
 refine Bd rfl ?_
 have h:=thn_inr h q0
 try dsimp only at h
 refine Ae<|Ag rfl<|Aa<|Am rfl<|AJ hb0 Tryz.func52 rfl rfl ?_
 cases h
 exact g0.gv
 refine Ae<|Ag rfl<|Aa<|Am rfl<|AJ hb0 Tryz.func52 rfl rfl ?_
 cases h
 exact hS0.gv
end Go.Proofs.YtcijnmkodpfpgaaGreatDoor
