/- Functions of the program, and what they give: part 2. -/
import Derived.Test.YtcijnmkodpfpgaaGreatDoorZS1
namespace Go.Proofs.YtcijnmkodpfpgaaGreatDoor
open Go Go.RowKit
set_option maxRecDepth 4000
set_option maxHeartbeats 4000000

def tb58_1:List (Nat × Nat × Nat):=[(0,16,1),(0,32,2),(3,64,48),(0,128,4),(12,256,192),(31,8,256)]
theorem body59:bodyB Tryz.prog 59 = true:=by kernel_rfl
theorem body60:bodyB Tryz.prog 60 = true:=by kernel_rfl
def balance_Totals_1_p (n:Nat) (a0:TRoll) (a1:Int) (a2:List Int):Option (Except Tbroken (List Int)):=
  (balance_counted_p n a0 a1).bind fun y3=>exc y3 (fun y5=>(balance_count_totals_p n y5 a2).bind fun c0=>exc c0 (fun d0=>some (.ok d0)) (fun b0=>some (.error b0))) (fun e4=>some (.error e4))
theorem balance_Totals_1_c (n:Nat) (L:List Nat) (w:World) (hL:∀ b ∈ L,b < w.heap.size) (a0:TRoll) {v0_3:Value} (h0_3:Rep.R w L [v0_3] a0.fUnits) {p0:Nat} (m0:∀ j9 v9,([vI a0.fGroups,vI a0.fParties,vI a0.fLevels,v0_3]:List Value)[j9]? = some v9 → w.cell? ((⟨p0,0,none⟩:Addr).add j9) = some v9) (a1:Int) {p1:Nat} (m1:∀ j9 v9,([vI a1]:List Value)[j9]? = some v9 → w.cell? ((⟨p1,0,none⟩:Addr).add j9) = some v9) (a2:List Int) {v2_0:Value} (h2_0:Rep.R w L [v2_0] a2) {p2:Nat} (m2:∀ j9 v9,([v2_0]:List Value)[j9]? = some v9 → w.cell? ((⟨p2,0,none⟩:Addr).add j9) = some v9)  {r:Except Tbroken (List Int)} (h:balance_Totals_1_p n a0 a1 a2 = some r) :
    Calls Tryz.prog 58 #[.pointer (some ⟨p0,0,none⟩),.pointer (some ⟨p1,0,none⟩),.pointer (some ⟨p2,0,none⟩)] w (PGives w (fun (y:List Int) w' u=>∃ v0_0:Value,u = v0_0∧Rep.R w' L [v0_0] y) (fun e=>.iface 137 (.agg #[vI e.fErrno])) r):=by
 unfold balance_Totals_1_p at h
 have hS0:=AK w
 refine MX.startP Tryz.func58 rfl rfl rfl (fun _ cs0 hb0 hp0=>?_)
 refine Ae<|Ag rfl<|Aa<|Ak<|Bm 6 tb58_1 (by kernel_rfl) (by kernel_rfl) (by kernel_rfl) (fun kt1 kp2=>?_)
 refine AT 0 1 52 kt1 rfl kp2 (AG rfl (fun j9 v9 h9=>hS0.ag.cell0 (m0 j9 v9 h9))) rfl<|AT 1 3 52 kt1 rfl kp2 (AA rfl ((fun j9 v9 h9=>hS0.ag.cell0 (m1 j9 v9 h9)) 0 _ rfl)) rfl ?_
 obtain ⟨y3,hy3,h⟩:=bi h
 rcases y3 with e4 | y5
 have h:=exc_e h
 try dsimp only at h
 refine AT 3 11 48 kt1 rfl kp2 (AA rfl ((fun j9 v9 h9=>hS0.ag.cell0 (m2 j9 v9 h9)) 0 _ rfl)) rfl<|BD (i:=2) (readyD_ok kt1 (by kernel_rfl)) (RO.callE (fst:=[]) (cap:=[]) rfl .plain body59 rfl (e2 rfl rfl) (fun w9 hw9=>balance_counted_c n _ w9 (hS0.hL hL hw9) a0 (Av h0_3 hw9) a1 hy3) (fun w6 hag7=>?_))
 obtain ⟨hS8,hT9⟩:=hS0.agr hag7
 cases h
 exact BU hp0 Tryz.func58 ⟨hS8.ag,rfl⟩
 have h:=exc_o h
 try dsimp only at h
 refine AT 3 11 48 kt1 rfl kp2 (AA rfl ((fun j9 v9 h9=>hS0.ag.cell0 (m2 j9 v9 h9)) 0 _ rfl)) rfl<|RD.cl 2 15 kt1 rfl .plain body59 rfl (e2 rfl rfl) (fun w9 hw9=>BX (balance_counted_c n _ w9 (hS0.hL hL hw9) a0 (Av h0_3 hw9) a1 hy3)) rfl (fun E0 D0 k0 ⟨B0,hu_,d0⟩=>?_)
 subst hu_
 obtain ⟨b0,y0⟩:=hS0.agr k0
 obtain ⟨v0,g0,h⟩:=bi h
 rcases v0 with x0 | H0
 have h:=exc_e h
 try dsimp only at h
 refine BD (i:=4) (readyD_ok kt1 (by kernel_rfl)) (RO.callE (fst:=[]) (cap:=[]) rfl .plain body60 rfl (e2 rfl rfl) (fun w9 hw9=>balance_count_totals_c n _ w9 (b0.hL hL hw9) y5 (Av d0 hw9) a2 (b0.km h2_0 hw9) g0) (fun F0 q0=>?_))
 obtain ⟨j0,z0⟩:=b0.agr q0
 cases h
 exact BU hp0 Tryz.func58 ⟨j0.ag,rfl⟩
 have h:=exc_o h
 try dsimp only at h
 refine RD.cl 4 31 kt1 rfl .plain body60 rfl (e2 rfl rfl) (fun w9 hw9=>BX (balance_count_totals_c n _ w9 (b0.hL hL hw9) y5 (Av d0 hw9) a2 (b0.km h2_0 hw9) g0)) rfl (fun G0 u0 s0 ⟨C0,hu_,t0⟩=>?_)
 subst hu_
 obtain ⟨c0,A0⟩:=b0.agr s0
 refine Ah 5 63 kt1 rfl kp2 (fun _=>BP rfl) rfl<|Bc (doneD_ok kt1 (by kernel_rfl))<|Am rfl<|AJ hb0 Tryz.func58 rfl rfl ?_
 cases h
 exact ⟨c0.ag,fun w9 hw9=>okOf_in ⟨u0,rfl,c0.kd t0 hw9⟩⟩
def tb80_6:List (Nat × Nat × Nat):=[(0,131072,32),(0,262144,8),(2,524288,262144),(1,0,131073),(15,0,524290)]
theorem body57:bodyB Tryz.prog 57 = true:=by kernel_rfl
theorem body58:bodyB Tryz.prog 58 = true:=by kernel_rfl
theorem body80:bodyB Tryz.prog 80 = true:=by kernel_rfl
def balance_Totals_p (n:Nat) (a0:TRoll) (a1:List Int) (a2:Int):Option ((List Int) × Int):=
  (balance_Totals_1_p n a0 a2 a1).bind fun c0=>exc c0 (fun d0=>some (d0,(0:Int))) (fun b0=>some (([]:List Int),b0.fErrno))
theorem balance_Totals_c (n:Nat) (L:List Nat) (w:World) (hL:∀ b ∈ L,b < w.heap.size) (a0:TRoll) {v0_3:Value} (h0_3:Rep.R w L [v0_3] a0.fUnits) (a1:List Int) {v1_0:Value} (h1_0:Rep.R w L [v1_0] a1) (a2:Int)  {r:(List Int) × Int} (h:balance_Totals_p n a0 a1 a2 = some r) :
    Calls Tryz.prog 24 #[.agg #[vI a0.fGroups,vI a0.fParties,vI a0.fLevels,v0_3],v1_0,vI a2] w (Gives w fun w' u=>∃ v0_0:Value,u = .tuple #[v0_0,vI r.2]∧Rep.R w' L [v0_0] r.1):=by
 unfold balance_Totals_p at h
 have hS0:=AK w
 refine AM Tryz.func24 rfl rfl rfl (fun _ cs0 hb0=>?_)
 refine Ae<|Az .plain rfl (AI hS0 rfl rfl) (fun w2 b5 hS3 hT4=>?_)
 have hm7:=Ax h1_0 hS3
 refine Az .plain rfl (AI hS3 rfl (Rep.c1 hm7)) (fun w8 g0 hS9 x1=>?_)
 refine Az .plain rfl (AI hS9 rfl rfl) (fun Q1 j0 M0 B1=>?_)
 refine Ag rfl<|Ag rfl<|Aa<|Ae<|Ab (FV.makeFunc (vs:=[]) (us:=[vP b5,vP j0,vP g0]) evs_nil (e3 rfl rfl rfl))<|BL (fst:=[]) (cap:=[]) (vs:=[.func (.func 58) #[] #[vP b5,vP j0,vP g0]]) .plain body57 Tryz.func57 rfl rfl rfl rfl (e1 rfl) rfl (fun v1 C0 H1=>?_)
 refine Ae<|Az .plain rfl (AX [vN] M0) (fun R1 k0 P0 C1=>?_)
 refine Az .plain rfl (AX [vI 0] P0) (fun U1 d0 b0 D1=>?_)
 refine Aa<|Ae<|Ab (FV.makeFunc (vs:=[]) (us:=[vP k0,vP d0]) evs_nil (e2 rfl rfl))<|RG.defer (fst:=[]) (cap:=[vP k0,vP d0]) (vs:=[]) rfl .plain rfl evs_nil<|Aa<|Ae<|Ac rfl ?_
 obtain ⟨s1,E0,h⟩:=bi h
 rcases s1 with p0 | X1
 have h:=exc_e h
 try dsimp only at h
 refine RG.callE (fst:=[]) (cap:=[vP b5,vP j0,vP g0]) .plain body58 rfl evs_nil (fun w9 hw9=>balance_Totals_1_c n _ w9 (b0.hL hL hw9) a0 (b0.km h0_3 hw9) (fun j9 v9 h9=>hw9.cell0 ((b0.memA (.tl (.tl (.tl (.tl .hd))))) j9 v9 h9)) a2 (fun j9 v9 h9=>hw9.cell0 ((b0.memA (.tl (.tl .hd))) j9 v9 h9)) a1 (b0.km h1_0 hw9) (fun j9 v9 h9=>hw9.cell0 ((b0.memA (.tl (.tl (.tl .hd)))) j9 v9 h9)) E0) (fun V1 Z0=>?_)
 obtain ⟨Q0,E1⟩:=b0.agr Z0
 refine PN.callD (vs:=[]) (cap:=[vP k0,vP d0]) body80 Tryz.func80 rfl rfl rfl (fun u1 b1 g1=>?_)
 refine Ae<|RG.recover1 .plain b1 rfl<|Ag rfl<|Aa<|Ae<|Ac rfl<|Ab (FV.neqI Tryz.underlying20 rfl rfl)<|Aa<|AY rfl<|Ae<|Ac rfl<|Ab (FV.assertT (by kernel_rfl) rfl)<|Ac rfl<|Ab (Au rfl rfl)<|Ab (Au rfl rfl)<|Az .plain rfl (AX [vI 0] Q0) (fun W1 F0 R0 F1=>?_)
 refine Bk [vI p0.fErrno] R0 .hd (o1 rfl) (fun p1 u0 G1=>?_)
 refine Ag rfl<|Aa<|Ak<|Ae<|Ac rfl<|Ab (Ba rfl)<|Aa<|BC rfl<|Ao<|Ae<|Ag rfl<|Aa<|Bm 3 tb80_6 (by kernel_rfl) (by kernel_rfl) (by kernel_rfl) (fun c0 y0=>?_)
 refine Ah 0 1 c0 rfl y0 (fun _=>Ai rfl) rfl<|Ah 1 3 c0 rfl y0 (fun _=>Bt 0 rfl) rfl<|RD.meet (α:=Unit) (fun ()=>[(1,vP d0),(19,vI p0.fErrno)]) (fun () A0=>St w A0 [.cells d0 [vI 0] 54,.cells k0 [vN] 42,.cells j0 [vI a2] 3,.cells g0 [v1_0] 43,.cells b5 [vI a0.fGroups,vI a0.fParties,vI a0.fLevels,v0_3] 41]∧Tr p1 [.cells F0 [vI p0.fErrno] 137,.cells d0 [vI 0] 54,.cells k0 [vN] 42,.cells j0 [vI a2] 3,.cells g0 [v1_0] 43,.cells b5 [vI a0.fGroups,vI a0.fParties,vI a0.fLevels,v0_3] 41] A0 [.cells d0 [vI 0] 54,.cells k0 [vN] 42,.cells j0 [vI a2] 3,.cells g0 [v1_0] 43,.cells b5 [vI a0.fGroups,vI a0.fParties,vI a0.fLevels,v0_3] 41]) 1 15 ?_ ?_
 rintro ⟨⟩ A0 ⟨G0,y1⟩
 try dsimp only
 refine RD.nw 4 31 c0 rfl rfl .plain (Bq (news:=[vI p0.fErrno]) G0 .hd rfl rfl rfl rfl rfl rfl (o1 rfl)) (fun J1 q0 z1=>?_)
 refine Bc (doneD_ok c0 (by kernel_rfl))<|MX.fin rfl<|RT.leaveD1 g1 Tryz.func80 rfl .nil<|Ay (u:=.tuple #[vN,vI p0.fErrno]) C0 Tryz.func57 rfl (.cons (.one (by kernel_rfl) rfl ((q0.memA (.tl .hd)) 0 _ rfl)) (.cons (.one (by kernel_rfl) rfl ((q0.memA .hd) 0 _ rfl)) .nil)) rfl<|Ab (Au rfl rfl)<|Ab (Au rfl rfl)<|Ag rfl<|Ag rfl<|Aa<|Am rfl ?_
 have k1:=AL (α:=Int) q0 L
 refine Ay hb0 Tryz.func24 rfl (.cons (.tmp rfl) (.cons (.tmp rfl) .nil)) rfl ?_
 cases h
 exact ⟨q0.ag,fun w9 hw9=>⟨vN,rfl,q0.kd k1 hw9⟩⟩
 intro B0
 refine Bv [2,3] (readyD_ok c0 (by kernel_rfl)) ⟨?_,?_,trivial⟩
 refine BW (m' :=7) (stepC_ok c0 (by kernel_rfl)) rfl .plain rfl (AA rfl ((u0.memA .hd) 0 _ rfl))<|RD.nw 3 15 c0 rfl rfl .plain (Bq (news:=[vN]) u0 (.tl (.tl .hd)) rfl rfl rfl rfl rfl rfl (o1 rfl)) (fun q1 t0 v0=>?_)
 obtain ⟨H0,U0⟩:=AD t0 (.one (.tl .hd) (.one (.tl .hd) (.one (.tl .hd) (.one (.tl .hd) (.one (.tl .hd) .done)))))
 exact B0 () _ _ ⟨rfl,rfl,trivial⟩ ⟨H0,(Tt v0 U0)⟩
 refine RO.now (m' :=11) (stepC_ok c0 (by kernel_rfl)) rfl rfl .plain (Bq (news:=[vN]) u0 (.tl (.tl .hd)) rfl rfl rfl rfl rfl rfl (o1 rfl)) (fun q1 t0 v0=>?_)
 refine AT 2 15 16 c0 rfl y0 (AA rfl ((t0.memA .hd) 0 _ rfl)) rfl ?_
 obtain ⟨I0,V0⟩:=AD t0 (.one (.tl .hd) (.one (.tl .hd) (.one (.tl .hd) (.one (.tl .hd) (.one (.tl .hd) .done)))))
 exact B0 () _ _ ⟨rfl,rfl,trivial⟩ ⟨I0,(Tt v0 V0)⟩
 have h:=exc_o h
 try dsimp only at h
 refine Bx (fst:=[]) (cap:=[vP b5,vP j0,vP g0]) .plain body58 rfl evs_nil (fun w9 hw9=>BX (balance_Totals_1_c n _ w9 (b0.hL hL hw9) a0 (b0.km h0_3 hw9) (fun j9 v9 h9=>hw9.cell0 ((b0.memA (.tl (.tl (.tl (.tl .hd))))) j9 v9 h9)) a2 (fun j9 v9 h9=>hw9.cell0 ((b0.memA (.tl (.tl .hd))) j9 v9 h9)) a1 (b0.km h1_0 hw9) (fun j9 v9 h9=>hw9.cell0 ((b0.memA (.tl (.tl (.tl .hd)))) j9 v9 h9)) E0)) rfl (fun K1 z0 Y0 ⟨I1,hu_,x0⟩=>?_)
 subst hu_
 obtain ⟨J0,A1⟩:=b0.agr Y0
 refine BG .plain (Bq (news:=[z0]) J0 (.tl .hd) rfl rfl rfl (Rep.c1 x0) rfl rfl (o1 (AP x0))) (fun M1 K0 W0=>?_)
 refine Bk [vI 0] K0 .hd (o1 rfl) (fun P1 s0 X0=>?_)
 refine Aa<|Am rfl<|RT.callD (vs:=[]) (cap:=[vP k0,vP d0]) body80 Tryz.func80 rfl rfl rfl (fun t1 D0 d1=>?_)
 refine Ae<|RG.recover0 .plain D0 rfl<|Ag rfl<|Aa<|Ae<|Ac rfl<|Ab (FV.neqI0 Tryz.underlying20 rfl rfl)<|Aa<|BC rfl<|Ao<|MX.fin rfl<|RT.leaveD0 D0 d1 Tryz.func80 rfl .nil<|Ay (u:=.tuple #[z0,vI 0]) C0 Tryz.func57 rfl (.cons (.one (by kernel_rfl) rfl ((s0.memA (.tl .hd)) 0 _ rfl)) (.cons (.one (by kernel_rfl) rfl ((s0.memA .hd) 0 _ rfl)) .nil)) rfl<|Ab (Au rfl rfl)<|Ab (Au rfl rfl)<|Ag rfl<|Ag rfl<|Aa<|Am rfl<|Ay hb0 Tryz.func24 rfl (.cons (.tmp rfl) (.cons (.tmp rfl) .nil)) rfl ?_
 cases h
 have j1:=Aj x0 (Tt W0 X0)
 exact ⟨s0.ag,fun w9 hw9=>⟨z0,rfl,s0.kd j1 hw9⟩⟩
def judge_need_p (_n:Nat) (a0:Int):Option (Except Tbroken Unit):=
  (if a0 = 0 then some (.ok ()) else some (.error (⟨a0⟩:Tbroken)))
theorem judge_need_c (n:Nat) (L:List Nat) (w:World) (_hL:∀ b ∈ L,b < w.heap.size) (a0:Int)  {r:Except Tbroken Unit} (h:judge_need_p n a0 = some r) :
    Calls Tryz.prog 94 #[vI a0] w (PGives w (fun (y:Unit) _ u=>u = .tuple #[]) (fun e=>.iface 150 (.agg #[vI e.fErrno])) r):=by
 unfold judge_need_p at h
 have hS0:=AK w
 refine MX.startP Tryz.func94 rfl rfl rfl (fun _ cs0 hb0 hp0=>?_)
 refine Ae<|Ac rfl<|Ab (BO (i:=a0) (j:=0) rfl rfl)<|Aa<|BV rfl h (fun c1 h=>?_) (fun c1 h=>?_)
 refine Ao<|MX.fin rfl<|Ay hb0 Tryz.func94 rfl .nil rfl ?_
 cases h
 exact ⟨hS0.ag,fun w9 hw9=>okOf_in rfl⟩
 refine Aw<|Ac rfl<|Ab (AV (vs:=[vI a0]) (u:=.agg #[vI a0]) (e1 rfl) (fun w9=>by kernel_rfl))<|Ab (FV.makeInterface (by kernel_rfl) rfl)<|RG.panic .plain rfl ?_
 cases h
 exact BU hp0 Tryz.func94 ⟨hS0.ag,rfl⟩
def cmp_isNaN_int_p (_n:Nat) (a0:Int):Option Bool:=
  some (!(decide (a0 = a0)))
theorem cmp_isNaN_int_c (n:Nat) (L:List Nat) (w:World) (_hL:∀ b ∈ L,b < w.heap.size) (a0:Int)  {r:Bool} (h:cmp_isNaN_int_p n a0 = some r) :
    Calls Tryz.prog 88 #[vI a0] w (Gives w fun _ u=>u = .bool r):=by
 unfold cmp_isNaN_int_p at h
 have hS0:=AK w
 refine AM Tryz.func88 rfl rfl rfl (fun _ cs0 hb0=>?_)
 refine Ae<|Ag rfl<|Aa<|Ae<|Ac rfl<|Ac rfl<|Ab (BO (i:=a0) (j:=a0) rfl rfl)<|Ag rfl<|Aa<|Am rfl<|AJ hb0 Tryz.func88 rfl rfl ?_
 cases h
 exact hS0.gv
theorem body88:bodyB Tryz.prog 88 = true:=by kernel_rfl
def cmp_Compare_int_p (n:Nat) (a0:Int) (a1:Int):Option Int:=
  (cmp_isNaN_int_p n a0).bind fun y1=>(cmp_isNaN_int_p n a1).bind fun y2=>(if y1 = true then (if y2 = true then some (0:Int) else some (-1:Int)) else (if y2 = true then some (1:Int) else (if a0 < a1 then some (-1:Int) else (if a1 < a0 then some (1:Int) else some (0:Int)))))
theorem cmp_Compare_int_c (n:Nat) (L:List Nat) (w:World) (hL:∀ b ∈ L,b < w.heap.size) (a0:Int) (a1:Int)  {r:Int} (h:cmp_Compare_int_p n a0 a1 = some r) :
    Calls Tryz.prog 132 #[vI a0,vI a1] w (Gives w fun _ u=>u = vI r):=by
 unfold cmp_Compare_int_p at h
 have hS0:=AK w
 refine AM Tryz.func132 rfl rfl rfl (fun _ cs0 hb0=>?_)
 refine Ae<|Ag rfl<|Aa<|Ae<|Ac rfl ?_
 obtain ⟨y1,hy1,h⟩:=bi h
 refine BE (.bool y1) body88 rfl (e1 rfl) (fun w9 hw9=>cmp_isNaN_int_c n _ w9 (hS0.hL0 hL hw9) a0 hy1) rfl<|Ag rfl<|Aa<|Ae<|Ac rfl ?_
 obtain ⟨y2,hy2,h⟩:=bi h
 refine BE (.bool y2) body88 rfl (e1 rfl) (fun w9 hw9=>cmp_isNaN_int_c n _ w9 (hS0.hL0 hL hw9) a1 hy2) rfl<|Ag rfl<|Aa<|Ak<|Ae<|Ac rfl<|Aa<|MX.ifb rfl h (fun c3 h=>?_) (fun c3 h=>?_)
 refine Ak<|Ae<|Ac rfl<|Aa<|MX.ifb rfl h (fun c4 h=>?_) (fun c4 h=>?_)
 refine Ae<|Ag rfl<|Aa<|Am rfl<|AJ hb0 Tryz.func132 rfl rfl ?_
 cases h
 exact hS0.gv
 refine Ao<|Ae<|Ag rfl<|Aa<|Am rfl<|AJ hb0 Tryz.func132 rfl rfl ?_
 cases h
 exact hS0.gv
 refine Ao<|Ak<|Ae<|Ac rfl<|Aa<|MX.ifb rfl h (fun c5 h=>?_) (fun c5 h=>?_)
 refine Ae<|Ag rfl<|Aa<|Am rfl<|AJ hb0 Tryz.func132 rfl rfl ?_
 cases h
 exact hS0.gv
 refine Ao<|Ak<|Ae<|Ac rfl<|Ac rfl<|Ab (BF (i:=a0) (j:=a1) rfl rfl)<|Aa<|AW rfl h (fun c6 h=>?_) (fun c6 h=>?_)
 refine Ae<|Ag rfl<|Aa<|Am rfl<|AJ hb0 Tryz.func132 rfl rfl ?_
 cases h
 exact hS0.gv
 refine Ao<|Ak<|Ae<|Ac rfl<|Ac rfl<|Ab (FV.gtr (i:=a0) (j:=a1) rfl rfl)<|Aa<|AW rfl h (fun c7 h=>?_) (fun c7 h=>?_)
 refine Ae<|Ag rfl<|Aa<|Am rfl<|AJ hb0 Tryz.func132 rfl rfl ?_
 cases h
 exact hS0.gv
 refine Ao<|Ae<|Ag rfl<|Aa<|Am rfl<|AJ hb0 Tryz.func132 rfl rfl ?_
 cases h
 exact hS0.gv
theorem body132:bodyB Tryz.prog 132 = true:=by kernel_rfl
def slices_Compare_int_int_l1 (n:Nat) (a0:List Int) (a1:List Int) (d0:Nat → Option (Int ⊕ Unit)):Nat → Option (Int ⊕ Unit)
  | b0=>(if b0 < a0.length then (a0[b0]?).bind fun g0=>(if a1.length ≤ b0 then some (.inl (1:Int)) else (a1[b0]?).bind fun j0=>(cmp_Compare_int_p n g0 j0).bind fun c0=>(if c0 = 0 then d0 (b0 + 1) else some (.inl c0))) else some (.inr ()))
def slices_Compare_int_int_p (n:Nat) (a0:List Int) (a1:List Int):Option Int:=
  thn (loopF (slices_Compare_int_int_l1 n a0 a1) n 0) (fun _=>(if a0.length < a1.length then some (-1:Int) else some (0:Int)))
theorem slices_Compare_int_int_c (n:Nat) (L:List Nat) (w:World) (hL:∀ b ∈ L,b < w.heap.size) (a0:List Int) {v0_0:Value} (h0_0:Rep.R w L [v0_0] a0) (a1:List Int) {v1_0:Value} (h1_0:Rep.R w L [v1_0] a1)  {r:Int} (h:slices_Compare_int_int_p n a0 a1 = some r) :
    Calls Tryz.prog 118 #[v0_0,v1_0] w (Gives w fun _ u=>u = vI r):=by
 unfold slices_Compare_int_int_p at h
 have hS0:=AK w
 refine AM Tryz.func118 rfl rfl rfl (fun _ cs0 hb0=>?_)
 refine Ae<|Ag rfl<|Aa<|Ak<|Ae<|Ac rfl ?_
 have hl1:a0.length ≤ 281474976710656:=AZ h0_0
 refine Ab (Bj (xs:=a0) Tryz.underlying42 rfl h0_0)<|Ac rfl<|Aa<|AB ?_
 obtain ⟨j1,P0,d0⟩:=thn_in h
 refine Bp (α:=Nat) (fun b0=>[(0,v0_0),(1,v1_0),(9,v0_0),(10,vI ((a0.length:Nat):Int)),(11,vI ((b0:Nat):Int))]) (fun b0 j0=>St w j0 []∧Tr w [] j0 []) (fun b0=>b0) 0 P0 ⟨rfl,rfl,rfl,rfl,rfl,trivial⟩ ⟨hS0,AN _ _⟩ ?_
 rintro Z0 b0 j0 A0 ⟨c0,B0⟩ h
 unfold slices_Compare_int_int_l1 at h
 try dsimp only at h
 refine Ae<|Ab (BA (i:=b0) (j:=a0.length) rfl rfl)<|Aa<|Ak<|AW rfl h (fun t0 h=>?_) (fun t0 h=>?_)
 refine Ao<|Ak<|AB<|Ae<|Ac rfl ?_
 obtain ⟨p0,U0,h⟩:=bi h
 have J0:=Ax h0_0 c0
 obtain ⟨X0,b1,C0,G0,y0,Q0,I0⟩:=Bb J0 U0
 have D0:y0 = [vI p0]:=Q0; subst D0
 refine Ab (Be 1 b0 rfl C0 rfl rfl G0)<|AS rfl (I0 0 _ rfl)<|Ag rfl<|Ag rfl<|Aa<|Ak<|Ae<|Ac rfl<|Ac rfl ?_
 have g0:=Ax h1_0 c0
 have d1:a1.length ≤ 281474976710656:=AZ g0
 refine Ab (Bj (xs:=a1) Tryz.underlying42 rfl g0)<|Ab (FV.geqN (i:=b0) (j:=a1.length) rfl rfl)<|Aa<|AW rfl h (fun u0 h=>?_) (fun u0 h=>?_)
 refine Ae<|Ag rfl<|Aa ?_
 have h:=thn_inl h d0
 refine Am rfl<|AJ hb0 Tryz.func118 rfl rfl ?_
 cases h
 exact c0.gv
 refine Ao<|Ae<|Ac rfl<|Ac rfl ?_
 obtain ⟨q0,V0,h⟩:=bi h
 obtain ⟨Y0,c1,E0,H0,z0,R0,K0⟩:=Bb g0 V0
 have F0:z0 = [vI q0]:=R0; subst F0
 refine Ab (Be 1 b0 rfl E0 rfl rfl H0)<|AS rfl (K0 0 _ rfl)<|Ag rfl<|Aa<|Ae<|Ac rfl<|Ac rfl ?_
 obtain ⟨s0,W0,h⟩:=bi h
 refine BE (vI s0) body132 rfl (e2 rfl rfl) (fun w9 hw9=>cmp_Compare_int_c n _ w9 (c0.hL0 hL hw9) p0 q0 W0) rfl<|Ag rfl<|Aa<|Ae<|Ac rfl<|Ab (BO (i:=s0) (j:=0) rfl rfl)<|Aa<|BV rfl h (fun v0 h=>?_) (fun v0 h=>?_)
 refine Ao<|AF<|Aw<|Ab (Bu (i:=b0) (j:=1) rfl rfl (by omega))<|Ac rfl<|Aa ?_
 exact A0 (b0 + 1) _ _ ⟨rfl,rfl,rfl,rfl,rfl,trivial⟩ ⟨c0,B0⟩ h
 refine Ae<|Ac rfl<|Ag rfl<|Aa ?_
 have h:=thn_inl h d0
 refine Am rfl<|AJ hb0 Tryz.func118 rfl rfl ?_
 cases h
 exact c0.gv
 refine Bd rfl ?_
 have h:=thn_inr h d0
 try dsimp only at h
 refine Ak<|Ae<|Ac rfl ?_
 have M0:=Ax h0_0 c0
 refine Ab (Bj (xs:=a0) Tryz.underlying42 rfl M0)<|Ac rfl ?_
 have k0:=Ax h1_0 c0
 have g1:a1.length ≤ 281474976710656:=AZ k0
 refine Ab (Bj (xs:=a1) Tryz.underlying42 rfl k0)<|Ab (BA (i:=a0.length) (j:=a1.length) rfl rfl)<|Aa<|AW rfl h (fun x0 h=>?_) (fun x0 h=>?_)
 refine Ae<|Ag rfl<|Aa<|Am rfl<|AJ hb0 Tryz.func118 rfl rfl ?_
 cases h
 exact c0.gv
 refine Ao<|Ae<|Ag rfl<|Aa<|Am rfl<|AJ hb0 Tryz.func118 rfl rfl ?_
 cases h
 exact c0.gv
structure TGraph where
  fN:Int
  fEdges:List (Int × Int)
  deriving DecidableEq
instance:Rep TGraph:=Rep.via (β:=Int × (List (Int × Int))) fun x=>(x.fN,x.fEdges)
def tb95_7:List (Nat × Nat × Nat):=[(0,268435456,32),(1,536870912,268435456),(2,1073741824,536870912),(4,2147483648,1073741824),(8,4294967296,2147483680),(24,8589934592,6442450944),(8,17179869184,2147483680),(72,34359738368,19327352832),(168,68719476736,45097156608),(264,137438953472,70866960384),(520,274877906944,137438953472),(1024,549755813888,274877906976),(3072,1099511627776,824633720832),(1024,2199023255552,274877906946),(9216,4398046511104,2473901162496),(21504,8796093022208,5772436045824),(33792,17592186044416,9070970929152),(66560,35184372088832,17592186044416),(131072,70368744177664,35184372088840),(131072,140737488355328,35184372088864),(917504,281474976710656,246290604621824),(1179648,562949953421312,316659348799488),(2228224,1125899906842624,598134325510144)]
theorem op_A52 {w:World} {L:List Nat} {cs:List Value} {x:Int × Int} (h:Rep.R w L cs x):cs = [vI x.1,vI x.2]:=by
  obtain ⟨c0,r0,rfl,h0,h⟩:=h
  have e0:c0 = [vI x.1]:=h0; subst e0
  have e1:r0 = [vI x.2]:=h; subst e1
  rfl
theorem mk_A52 {w:World} {L:List Nat} (a0:Int) (a1:Int):Rep.R w L [vI a0,vI a1] ((a0,a1):Int × Int):=⟨[vI a0],[vI a1],rfl,rfl,rfl⟩
theorem body118:bodyB Tryz.prog 118 = true:=by kernel_rfl
def graph_Check_l1 (n:Nat) (a0:TGraph) (d0:Nat × Int × Int → Option (Int ⊕ Unit)):Nat × Int × Int → Option (Int ⊕ Unit)
  | (c0,j0,k0)=>(if c0 < a0.fEdges.length then (a0.fEdges[c0]?).bind fun b0=>(if b0.1 < 0 then some (.inl (180:Int)) else (if b0.2 ≤ b0.1 then some (.inl (180:Int)) else (if a0.fN ≤ b0.2 then some (.inl (180:Int)) else (slices_Compare_int_int_p n ([j0,k0]:List Int) ([b0.1,b0.2]:List Int)).bind fun g0=>(if 0 ≤ g0 then some (.inl (180:Int)) else d0 (c0 + 1,b0.1,b0.2))))) else some (.inr ()))
def graph_Check_p (n:Nat) (a0:TGraph):Option Int:=
  (if a0.fN < 1 then some (180:Int) else (if 64 < a0.fN then some (180:Int) else (if 200 < a0.fEdges.length then some (180:Int) else thn (loopF (graph_Check_l1 n a0) n (0,(-1),(-1))) (fun _=>some (0:Int)))))
theorem graph_Check_c (n:Nat) (L:List Nat) (w:World) (hL:∀ b ∈ L,b < w.heap.size) (a0:TGraph) {v0_1:Value} (h0_1:Rep.R w L [v0_1] a0.fEdges)  {r:Int} (h:graph_Check_p n a0 = some r) :
    Calls Tryz.prog 95 #[.agg #[vI a0.fN,v0_1]] w (Gives w fun _ u=>u = vI r):=by
 unfold graph_Check_p at h
 have hS0:=AK w
 refine AM Tryz.func95 rfl rfl rfl (fun _ cs0 hb0=>?_)
 refine Ae<|Az .plain rfl (AI hS0 rfl rfl) (fun w2 b5 hS3 hT4=>?_)
 refine Ag rfl<|Aa<|Ak<|Ae<|AH 0 rfl<|AS rfl ((hS3.memA .hd) 0 _ rfl)<|Ab (BF (i:=a0.fN) (j:=1) rfl rfl)<|Ac rfl<|Bi (s:=9) rfl h (fun c6 h=>?_) (fun c6 h=>?_)
 refine Af<|Af<|Af<|AU rfl rfl<|Ac rfl<|Af<|Af<|Af<|Af<|AU rfl rfl<|Aa<|AY rfl<|Ae<|Ag rfl<|Aa<|Am rfl<|AJ hb0 Tryz.func95 rfl rfl ?_
 cases h
 exact hS3.gv
 refine BB 0 rfl<|Ap (AA rfl ((hS3.memA .hd) 0 _ rfl))<|Ap (FV.gtr (i:=a0.fN) (j:=64) rfl rfl)<|AO rfl rfl<|Ac rfl<|Bi (s:=14) rfl h (fun c7 h=>?_) (fun c7 h=>?_)
 refine Af<|Af<|Af<|Af<|AU rfl rfl<|Aa<|AY rfl<|Ae<|Ag rfl<|Aa<|Am rfl<|AJ hb0 Tryz.func95 rfl rfl ?_
 cases h
 exact hS3.gv
 refine BB 1 rfl<|Ap (AA rfl ((hS3.memA .hd) 1 _ rfl)) ?_
 have hm9:=Ax h0_1 hS3
 have hl8:a0.fEdges.length ≤ 281474976710656:=AZ hm9
 refine Ap (Bj (xs:=a0.fEdges) Tryz.underlying36 rfl hm9)<|Ap (FV.gtrN (i:=a0.fEdges.length) (j:=200) rfl rfl)<|AO rfl rfl<|Aa<|AW rfl h (fun z0 h=>?_) (fun z0 h=>?_)
 refine Ae<|Ag rfl<|Aa<|Am rfl<|AJ hb0 Tryz.func95 rfl rfl ?_
 cases h
 exact hS3.gv
 refine Ao<|Ae<|Ab (AV (vs:=[vI (-1),vI (-1)]) (u:=.agg #[vI (-1),vI (-1)]) (e2 rfl rfl) (fun w9=>by kernel_rfl))<|Az .plain rfl (AX [vI 0,vI 0] hS3) (fun C1 q0 H0 x1=>?_)
 refine Bk [vI (-1),vI (-1)] H0 .hd (onesB rfl) (fun p1 t0 y1=>?_)
 refine Aa<|Ak<|Ae<|AH 1 rfl<|AS rfl ((t0.memA (.tl .hd)) 1 _ rfl) ?_
 have b1:=Ax h0_1 t0
 refine Ab (Bj (xs:=a0.fEdges) Tryz.underlying36 rfl b1)<|Ac rfl<|Aa<|AB ?_
 obtain ⟨z1,c1,s0⟩:=thn_in h
 refine Bp (α:=Nat × Int × Int) (fun ⟨p0,k0,j0⟩=>[(1,vP b5),(3,vP q0),(22,v0_1),(23,vI ((a0.fEdges.length:Nat):Int)),(24,vI ((p0:Nat):Int))]) (fun ⟨p0,k0,j0⟩ v0=>St w v0 [.cells q0 [vI k0,vI j0] 52,.cells b5 [vI a0.fN,v0_1] 38]∧Tr p1 [.cells q0 [vI (-1),vI (-1)] 52,.cells b5 [vI a0.fN,v0_1] 38] v0 [.cells q0 [vI k0,vI j0] 52,.cells b5 [vI a0.fN,v0_1] 38]) (fun ⟨p0,k0,j0⟩=>(p0,k0,j0)) (0,(-1),(-1)) c1 ⟨rfl,rfl,rfl,rfl,rfl,trivial⟩ ⟨t0,AN _ _⟩ ?_
 rintro s1 ⟨p0,k0,j0⟩ v0 F0 ⟨u0,R0⟩ h
 unfold graph_Check_l1 at h
 try dsimp only at h
 refine Ae<|Ab (BA (i:=p0) (j:=a0.fEdges.length) rfl rfl)<|Aa<|Ak<|AW rfl h (fun A0 h=>?_) (fun A0 h=>?_)
 refine Ao<|Ak<|AB<|Ae ?_
 obtain ⟨d0,j1,h⟩:=bi h
 have Z0:=Ax h0_1 u0
 obtain ⟨q1,u1,W0,X0,v1,g1,Y0⟩:=Bb Z0 j1
 obtain rfl:=op_A52 g1
 refine Ab (Be 2 p0 rfl W0 rfl rfl X0)<|Ab (AG rfl Y0)<|Az .plain rfl (AX [vI 0,vI 0] u0) (fun A1 y0 G0 K0=>?_)
 refine Bk [vI d0.1,vI d0.2] G0 .hd (onesB rfl) (fun B1 g0 M0=>?_)
 refine Aa<|Ak<|Ak<|Bm 23 tb95_7 (by kernel_rfl) (by kernel_rfl) (by kernel_rfl) (fun b0 c0=>?_)
 refine Ah 0 1 b0 rfl c0 (fun _=>BN (m:=1) (k:=0) (len:=2) (by kernel_rfl) rfl rfl rfl (by omega)) rfl<|AT 1 3 8388604 b0 rfl c0 (AA rfl ((g0.memA .hd) 0 _ rfl)) rfl<|Ah 2 7 b0 rfl c0 (fun _=>BF (i:=d0.1) (j:=0) rfl rfl) rfl<|Ah 3 15 b0 rfl c0 (fun _=>Ai rfl) rfl<|RD.ifd (s:=31) rfl h (fun B0 h=>?_) (fun B0 h=>?_)
 refine By 511 14 [(4,32),(5,33),(6,34),(7,35),(8,36)] (F:=[(31,true)]) (U:=[]) b0 c0 (.cons rfl .nil) .nil ?_
 dsimp only [offS,List.map]
 refine Ah 9 1023 b0 rfl c0 (fun _=>Bl rfl rfl) rfl<|Ah 10 2047 b0 rfl c0 (fun _=>Ai rfl) rfl<|By 65535 7 [(11,39),(12,40),(13,41),(14,42),(15,43)] (F:=[(38,true)]) (U:=[]) b0 c0 (.cons rfl .nil) .nil ?_
 dsimp only [offS,List.map]
 refine Ah 16 131071 b0 rfl c0 (fun _=>Bl rfl rfl) rfl<|Ah 17 262143 b0 rfl c0 (fun _=>Ai rfl) rfl<|By 4194303 1 [(18,46),(19,47),(20,48),(21,49)] (F:=[(45,true)]) (U:=[]) b0 c0 (.cons rfl .nil) .nil ?_
 dsimp only [offS,List.map]
 refine Ah 22 8388607 b0 rfl c0 (fun _=>Bl rfl rfl) rfl<|Bc (doneD_ok b0 (by kernel_rfl))<|AY rfl<|Ae<|Ag rfl<|Aa ?_
 have h:=thn_inl h s0
 refine Am rfl<|AJ hb0 Tryz.func95 rfl rfl ?_
 cases h
 exact g0.gv
 refine BJ 4 31 b0 rfl c0 (.yes rfl rfl) (fun _=>BN (m:=1) (k:=0) (len:=2) (by kernel_rfl) rfl rfl rfl (by omega)) rfl<|BM (i:=5) (m' :=63) (W:=8388352) (takeC_ok b0 (by kernel_rfl)) rfl c0 (.yes rfl rfl) (AA rfl ((g0.memA .hd) 0 _ rfl)) rfl<|BJ 6 127 b0 rfl c0 (.yes rfl rfl) (fun _=>BN (m:=1) (k:=1) (len:=2) (by kernel_rfl) rfl rfl rfl (by omega)) rfl<|BM (i:=7) (m' :=255) (W:=8388352) (takeC_ok b0 (by kernel_rfl)) rfl c0 (.yes rfl rfl) (AA rfl ((g0.memA .hd) 1 _ rfl)) rfl<|BJ 8 511 b0 rfl c0 (.yes rfl rfl) (fun _=>FV.geq (i:=d0.1) (j:=d0.2) rfl rfl) rfl<|Ah 9 1023 b0 rfl c0 (fun _=>Bn rfl rfl) rfl<|Ah 10 2047 b0 rfl c0 (fun _=>Ai rfl) rfl<|RD.ifd (s:=38) rfl h (fun C0 h=>?_) (fun C0 h=>?_)
 refine By 65535 7 [(11,39),(12,40),(13,41),(14,42),(15,43)] (F:=[(38,true)]) (U:=[]) b0 c0 (.cons rfl .nil) .nil ?_
 dsimp only [offS,List.map]
 refine Ah 16 131071 b0 rfl c0 (fun _=>Bl rfl rfl) rfl<|Ah 17 262143 b0 rfl c0 (fun _=>Ai rfl) rfl<|By 4194303 1 [(18,46),(19,47),(20,48),(21,49)] (F:=[(45,true)]) (U:=[]) b0 c0 (.cons rfl .nil) .nil ?_
 dsimp only [offS,List.map]
 refine Ah 22 8388607 b0 rfl c0 (fun _=>Bl rfl rfl) rfl<|Bc (doneD_ok b0 (by kernel_rfl))<|AY rfl<|Ae<|Ag rfl<|Aa ?_
 have h:=thn_inl h s0
 refine Am rfl<|AJ hb0 Tryz.func95 rfl rfl ?_
 cases h
 exact g0.gv
 refine BJ 11 4095 b0 rfl c0 (.yes rfl rfl) (fun _=>BN (m:=1) (k:=1) (len:=2) (by kernel_rfl) rfl rfl rfl (by omega)) rfl<|BM (i:=12) (m' :=8191) (W:=8355840) (takeC_ok b0 (by kernel_rfl)) rfl c0 (.yes rfl rfl) (AA rfl ((g0.memA .hd) 1 _ rfl)) rfl<|BJ 13 16383 b0 rfl c0 (.yes rfl rfl) (fun _=>Bt 0 rfl) rfl<|BM (i:=14) (m' :=32767) (W:=8355840) (takeC_ok b0 (by kernel_rfl)) rfl c0 (.yes rfl rfl) (AA rfl ((g0.memA (.tl (.tl .hd))) 0 _ rfl)) rfl<|BJ 15 65535 b0 rfl c0 (.yes rfl rfl) (fun _=>FV.geq (i:=d0.2) (j:=a0.fN) rfl rfl) rfl<|Ah 16 131071 b0 rfl c0 (fun _=>Bn rfl rfl) rfl<|Ah 17 262143 b0 rfl c0 (fun _=>Ai rfl) rfl<|RD.ifd (s:=45) rfl h (fun D0 h=>?_) (fun D0 h=>?_)
 refine By 4194303 1 [(18,46),(19,47),(20,48),(21,49)] (F:=[(45,true)]) (U:=[]) b0 c0 (.cons rfl .nil) .nil ?_
 dsimp only [offS,List.map]
 refine Ah 22 8388607 b0 rfl c0 (fun _=>Bl rfl rfl) rfl<|Bc (doneD_ok b0 (by kernel_rfl))<|AY rfl<|Ae<|Ag rfl<|Aa ?_
 have h:=thn_inl h s0
 refine Am rfl<|AJ hb0 Tryz.func95 rfl rfl ?_
 cases h
 exact g0.gv
 refine BM (i:=18) (m' :=524287) (W:=7340032) (takeC_ok b0 (by kernel_rfl)) rfl c0 (.yes rfl rfl) (FV.sliceA (len:=2) (m:=1) (p:=⟨q0,0,none⟩) (by kernel_rfl) rfl) rfl<|BM (i:=19) (m' :=1048575) (W:=7340032) (takeC_ok b0 (by kernel_rfl)) rfl c0 (.yes rfl rfl) (FV.sliceA (len:=2) (m:=1) (p:=⟨y0,0,none⟩) (by kernel_rfl) rfl) rfl ?_
 obtain ⟨x0,k1,h⟩:=bi h
 have U0:=Ar (cs:=[vI k0,vI j0]) (xs:=(([k0,j0]:List Int):List Int)) g0 L (Aq (cs:=[vI k0]) (ds:=[vI j0]) rfl (Aq (cs:=[vI j0]) (ds:=[]) rfl (AC _ _)))
 have V0:=Ar (cs:=[vI d0.1,vI d0.2]) (xs:=(([d0.1,d0.2]:List Int):List Int)) g0 L (Aq (cs:=[vI d0.1]) (ds:=[vI d0.2]) rfl (Aq (cs:=[vI d0.2]) (ds:=[]) rfl (AC _ _)))
 refine RD.callq (i:=20) (m' :=2097151) (W:=6291456) (takeC_ok b0 (by kernel_rfl)) rfl c0 (v:=vI x0) (fst:=[]) (cap:=[]) (.yes rfl rfl) body118 rfl (e2 rfl rfl) (fun w9 hw9=>slices_Compare_int_int_c n _ w9 (g0.hL0 hL hw9) ([k0,j0]:List Int) (Av (St.lendA (L:=L) g0 (.tl .hd) U0 hL (by unfold most; simp)) hw9) ([d0.1,d0.2]:List Int) (Av (St.lendA (L:=L) g0 .hd V0 hL (by unfold most; simp)) hw9) k1) rfl<|BJ 21 4194303 b0 rfl c0 (.yes rfl rfl) (fun _=>FV.geq (i:=x0) (j:=0) rfl rfl) rfl<|Ah 22 8388607 b0 rfl c0 (fun _=>Bn rfl rfl) rfl<|Bc (doneD_ok b0 (by kernel_rfl))<|AW rfl h (fun E0 h=>?_) (fun E0 h=>?_)
 refine Ae<|Ag rfl<|Aa ?_
 have h:=thn_inl h s0
 refine Am rfl<|AJ hb0 Tryz.func95 rfl rfl ?_
 cases h
 exact g0.gv
 refine Ao<|Aw<|Ab (AG rfl (g0.memA .hd))<|Bk [vI d0.1,vI d0.2] g0 (.tl .hd) (onesB rfl) (fun D1 I0 P0=>?_)
 refine Aa<|AF<|Aw<|Ab (Bu (i:=p0) (j:=1) rfl rfl (by omega))<|Ac rfl<|Aa ?_
 obtain ⟨J0,Q0⟩:=AD I0 (.one (.tl .hd) (.one (.tl .hd) .done))
 have d1:=Tt K0 (Tt M0 (Tt P0 Q0))
 exact F0 (p0 + 1,d0.1,d0.2) _ _ ⟨rfl,rfl,rfl,rfl,rfl,trivial⟩ ⟨J0,(Tt R0 d1)⟩ h
 refine Bd rfl ?_
 have h:=thn_inr h s0
 try dsimp only at h
 refine Ae<|Ag rfl<|Aa<|Am rfl<|AJ hb0 Tryz.func95 rfl rfl ?_
 cases h
 exact u0.gv
theorem body94:bodyB Tryz.prog 94 = true:=by kernel_rfl
def judge_fail_p (n:Nat) (a0:Bool) (a1:Int):Option (Except Tbroken Unit):=
  (if a0 = true then (judge_need_p n a1).bind fun y2=>exc y2 (fun y4=>some (.ok ())) (fun e3=>some (.error e3)) else some (.ok ()))
theorem judge_fail_c (n:Nat) (L:List Nat) (w:World) (hL:∀ b ∈ L,b < w.heap.size) (a0:Bool) (a1:Int)  {r:Except Tbroken Unit} (h:judge_fail_p n a0 a1 = some r) :
    Calls Tryz.prog 96 #[.bool a0,vI a1] w (PGives w (fun (y:Unit) _ u=>u = .tuple #[]) (fun e=>.iface 150 (.agg #[vI e.fErrno])) r):=by
 unfold judge_fail_p at h
 have hS0:=AK w
 refine MX.startP Tryz.func96 rfl rfl rfl (fun _ cs0 hb0 hp0=>?_)
 refine Ae<|Ac rfl<|Aa<|MX.ifb rfl h (fun c1 h=>?_) (fun c1 h=>?_)
 refine Aw<|Ac rfl ?_
 obtain ⟨y2,hy2,h⟩:=bi h
 rcases y2 with e3 | y4
 have h:=exc_e h
 try dsimp only at h
 refine RG.callE (fst:=[]) (cap:=[]) .plain body94 rfl (e1 rfl) (fun w9 hw9=>judge_need_c n _ w9 (hS0.hL0 hL hw9) a1 hy2) (fun w5 hag6=>?_)
 obtain ⟨hS7,hT8⟩:=hS0.agr hag6
 cases h
 exact BU hp0 Tryz.func96 ⟨hS7.ag,rfl⟩
 have h:=exc_o h
 try dsimp only at h
 refine BE (.tuple #[]) body94 rfl (e1 rfl) (fun w9 hw9=>BX (judge_need_c n _ w9 (hS0.hL0 hL hw9) a1 hy2)) rfl<|Aa<|MX.fin rfl<|Ay hb0 Tryz.func96 rfl .nil rfl ?_
 cases h
 exact ⟨hS0.ag,fun w9 hw9=>okOf_in rfl⟩
 refine Ao<|MX.fin rfl<|Ay hb0 Tryz.func96 rfl .nil rfl ?_
 cases h
 exact ⟨hS0.ag,fun w9 hw9=>okOf_in rfl⟩
def plan_labels_l1 (_n:Nat) (a0:List Int) (a1:Int) (d0:Nat → Option (Bool ⊕ Unit)):Nat → Option (Bool ⊕ Unit)
  | b0=>(if b0 < a0.length then (a0[b0]?).bind fun c0=>(if c0 < 0 then some (.inl false) else (if a1 ≤ c0 then some (.inl false) else d0 (b0 + 1))) else some (.inr ()))
def plan_labels_p (n:Nat) (a0:List Int) (a1:Int):Option Bool:=
  thn (loopF (plan_labels_l1 n a0 a1) n 0) (fun _=>(if 0 < a0.length then some (decide (a0.length ≤ 64)) else some false))
theorem plan_labels_c (n:Nat) (L:List Nat) (w:World) (_hL:∀ b ∈ L,b < w.heap.size) (a0:List Int) {v0_0:Value} (h0_0:Rep.R w L [v0_0] a0) (a1:Int)  {r:Bool} (h:plan_labels_p n a0 a1 = some r) :
    Calls Tryz.prog 133 #[v0_0,vI a1] w (Gives w fun _ u=>u = .bool r):=by
 unfold plan_labels_p at h
 have hS0:=AK w
 refine AM Tryz.func133 rfl rfl rfl (fun _ cs0 hb0=>?_)
 refine Ae<|Ag rfl<|Aa<|Ak<|Ae<|Ac rfl ?_
 have hl1:a0.length ≤ 281474976710656:=AZ h0_0
 refine Ab (Bj (xs:=a0) Tryz.underlying43 rfl h0_0)<|Ac rfl<|Aa<|AB ?_
 obtain ⟨J0,D0,d0⟩:=thn_in h
 refine Bp (α:=Nat) (fun b0=>[(0,v0_0),(1,vI a1),(7,v0_0),(8,vI ((a0.length:Nat):Int)),(9,vI ((b0:Nat):Int))]) (fun b0 g0=>St w g0 []∧Tr w [] g0 []) (fun b0=>b0) 0 D0 ⟨rfl,rfl,rfl,rfl,rfl,trivial⟩ ⟨hS0,AN _ _⟩ ?_
 rintro H0 b0 g0 v0 ⟨c0,x0⟩ h
 unfold plan_labels_l1 at h
 try dsimp only at h
 refine Ae<|Ab (BA (i:=b0) (j:=a0.length) rfl rfl)<|Aa<|Ak<|AW rfl h (fun p0 h=>?_) (fun p0 h=>?_)
 refine Ao<|Ak<|AB<|Ae ?_
 obtain ⟨j0,F0,h⟩:=bi h
 have C0:=Ax h0_0 c0
 obtain ⟨G0,I0,y0,A0,u0,E0,B0⟩:=Bb C0 F0
 have z0:u0 = [vI j0]:=E0; subst z0
 refine Ab (Be 1 b0 rfl y0 rfl rfl A0)<|AS rfl (B0 0 _ rfl)<|Ag rfl<|Aa<|Ae<|Ac rfl<|Ab (BF (i:=j0) (j:=0) rfl rfl)<|Ac rfl<|Bi (s:=15) rfl h (fun q0 h=>?_) (fun q0 h=>?_)
 refine Af<|Af<|Af<|AU rfl rfl<|Aa<|AY rfl<|Ae<|Ag rfl<|Aa ?_
 have h:=thn_inl h d0
 refine Am rfl<|AJ hb0 Tryz.func133 rfl rfl ?_
 cases h
 exact c0.gv
 refine Ap (Ai rfl)<|Ap (Ai rfl)<|Ap (FV.geq (i:=j0) (j:=a1) rfl rfl)<|AO rfl rfl<|Aa<|AW rfl h (fun s0 h=>?_) (fun s0 h=>?_)
 refine Ae<|Ag rfl<|Aa ?_
 have h:=thn_inl h d0
 refine Am rfl<|AJ hb0 Tryz.func133 rfl rfl ?_
 cases h
 exact c0.gv
 refine Ao<|AF<|Aw<|Ab (Bu (i:=b0) (j:=1) rfl rfl (by omega))<|Ac rfl<|Aa ?_
 exact v0 (b0 + 1) _ _ ⟨rfl,rfl,rfl,rfl,rfl,trivial⟩ ⟨c0,x0⟩ h
 refine Bd rfl ?_
 have h:=thn_inr h d0
 try dsimp only at h
 refine Ae<|Ac rfl ?_
 have k0:=Ax h0_0 c0
 refine Ab (Bj (xs:=a0) Tryz.underlying43 rfl k0)<|Ab (FV.gtrN (i:=a0.length) (j:=0) rfl rfl)<|Ac rfl<|Bi (s:=24) rfl h (fun t0 h=>?_) (fun t0 h=>?_)
 refine Ap (Ai rfl)<|Ap (Bj (xs:=a0) Tryz.underlying43 rfl k0)<|Ap (FV.leqN (i:=a0.length) (j:=64) rfl rfl)<|AU rfl rfl<|Ag rfl<|Aa<|Am rfl<|AJ hb0 Tryz.func133 rfl rfl ?_
 cases h
 exact c0.gv
 refine Af<|Af<|Af<|AO rfl rfl<|Ag rfl<|Aa<|Am rfl<|AJ hb0 Tryz.func133 rfl rfl ?_
 cases h
 exact c0.gv
def tb134_5:List (Nat × Nat × Nat):=[(0,524288,64),(0,1048576,256),(3,2097152,1572864),(4,4194304,2097152),(0,8388608,128),(16,16777216,8388608),(40,33554432,20971520),(127,67108864,1572864),(255,0,100663296)]
theorem el192:ElT Tryz.prog 192 174 (Rep.size UInt64) 8 (.int .u64 0) [.int .u64 0]:=⟨Tryz.underlying192,by kernel_rfl,rfl,rfl,rfl,rfl⟩
def plan_parts_l1 (_n:Nat) (a1:Int) (j0:List UInt64) (c0:Int → Option (((List UInt64) × Bool) ⊕ Unit)):Int → Option (((List UInt64) × Bool) ⊕ Unit)
  | b0=>(if b0 < a1 then (idx j0 b0).bind fun g0=>(if g0 = (0:UInt64) then some (.inl (([]:List UInt64),false)) else (chk (b0 + 1)).bind fun d0=>c0 d0) else some (.inr ()))
def plan_parts_l2 (_n:Nat) (a0:List Int) (g0:Nat × (List UInt64) → Option (List UInt64)):Nat × (List UInt64) → Option (List UInt64)
  | (b0,c0)=>(if b0 < a0.length then (a0[b0]?).bind fun d0=>(idx c0 d0).bind fun j0=>(put c0 ((d0.toNat:Nat):Int) (j0 ||| (shlU (1:UInt64) b0))).bind fun k0=>g0 (b0 + 1,k0) else some c0)
def plan_parts_p (n:Nat) (a0:List Int) (a1:Int):Option ((List UInt64) × Bool):=
  (mk a1 (0:UInt64)).bind fun xs2=>Option.bind (loopF (plan_parts_l2 n a0) n (0,xs2)) (fun b0=>thn (loopF (plan_parts_l1 n a1 b0) n 0) (fun _=>some (b0,true)))
theorem plan_parts_c (n:Nat) (L:List Nat) (w:World) (hL:∀ b ∈ L,b < w.heap.size) (a0:List Int) {v0_0:Value} (h0_0:Rep.R w L [v0_0] a0) (a1:Int)  {r:(List UInt64) × Bool} (h:plan_parts_p n a0 a1 = some r) :
    Calls Tryz.prog 134 #[v0_0,vI a1] w (Gives w fun w' u=>∃ v0_0:Value,u = .tuple #[v0_0,.bool r.2]∧Rep.R w' L [v0_0] r.1):=by
 unfold plan_parts_p at h
 have hS0:=AK w
 refine AM Tryz.func134 rfl rfl rfl (fun _ cs0 hb0=>?_)
 refine Ae<|Ag rfl<|Ag rfl<|Aa<|Ae<|Ac rfl ?_
 obtain ⟨xs2,hxs2,h⟩:=bi h
 refine Az .plain rfl (Does.mk (α:=UInt64) hxs2 hS0 el192 rfl) (fun w3 b6 hS4 hT5=>?_)
 have hc7:=Ar (cs:=(List.replicate a1.toNat [.int .u64 0]).flatten) (xs:=xs2) hS4 L (Cells.mk hxs2 rfl)
 refine Ag rfl<|Aa<|Ak<|Ae<|Ac rfl ?_
 have hm9:=Ax h0_0 hS4
 have hl8:a0.length ≤ 281474976710656:=AZ hm9
 refine Ab (Bj (xs:=a0) Tryz.underlying43 rfl hm9)<|Ac rfl<|Aa<|AB ?_
 obtain ⟨t2,E1,t1⟩:=bind_in2 h
 refine Bp (α:=Nat × (List UInt64) × (List Value)) (fun ⟨c0,b0,g0⟩=>[(1,vI a1),(6,(.slice (some ⟨b6,0,none⟩) a1.toNat a1.toNat)),(12,v0_0),(13,vI ((a0.length:Nat):Int)),(14,vI ((c0:Nat):Int))]) (fun ⟨c0,b0,g0⟩ s0=>St w s0 [.row w.heap.size 174 (Rep.size UInt64) (.slice (some ⟨b6,0,none⟩) a1.toNat a1.toNat) b0.length g0]∧Tr w3 [.row w.heap.size 174 (Rep.size UInt64) (.slice (some ⟨b6,0,none⟩) a1.toNat a1.toNat) xs2.length ((List.replicate a1.toNat [.int .u64 0]).flatten)] s0 [.row w.heap.size 174 (Rep.size UInt64) (.slice (some ⟨b6,0,none⟩) a1.toNat a1.toNat) b0.length g0]∧Cells s0 (bl [.row w.heap.size 174 (Rep.size UInt64) (.slice (some ⟨b6,0,none⟩) a1.toNat a1.toNat) b0.length g0] ++ L) g0 b0) (fun ⟨c0,b0,g0⟩=>(c0,b0)) (0,xs2,(List.replicate a1.toNat [.int .u64 0]).flatten) E1 ⟨rfl,rfl,rfl,rfl,rfl,trivial⟩ ⟨hS4,AN _ _,hc7⟩ ?_
 rintro c2 ⟨c0,b0,g0⟩ s0 Y0 ⟨q0,d1,t0⟩ h
 unfold plan_parts_l2 at h
 try dsimp only at h
 refine Ae<|Ab (BA (i:=c0) (j:=a0.length) rfl rfl)<|Aa<|Ak<|AW rfl h (fun P0 h=>?_) (fun P0 h=>?_)
 refine Ao<|Ak<|AB<|Ae<|Ac rfl ?_
 obtain ⟨v0,P1,h⟩:=bi h
 have y1:=Ax h0_0 q0
 obtain ⟨Z1,d2,j1,v1,U0,F1,x1⟩:=Bb y1 P1
 have k1:U0 = [vI v0]:=F1; subst k1
 refine Ab (Be 1 c0 rfl j1 rfl rfl v1)<|AS rfl (x1 0 _ rfl)<|Ag rfl<|Ag rfl<|Aa<|Bm 8 tb134_5 (by kernel_rfl) (by kernel_rfl) (by kernel_rfl) (fun d0 k0=>?_)
 refine Ah 0 1 d0 rfl k0 (fun _=>Ai rfl) rfl<|Ah 1 3 d0 rfl k0 (fun _=>Ai rfl) rfl ?_
 obtain ⟨G0,Q1,h⟩:=bi h
 obtain ⟨E0,R1⟩:=idx_in Q1
 obtain ⟨I0,g2,u0,A0,V0,G1,z1⟩:=St.nth (α:=UInt64) q0 .hd t0 R1
 obtain ⟨K0,j2,C0⟩:=BH (α:=UInt64) q0 .hd A0
 obtain rfl:I0 = ⟨K0,0,none⟩:=by rw [C0] at u0; cases u0; rfl
 have p1:V0 = [.int .u64 (G0.toNat:Int)]:=G1; subst p1
 refine Ah 2 7 d0 rfl k0 (fun _=>Be 1 (v0.toNat) rfl u0 rfl E0 A0) rfl<|AT 3 15 448 d0 rfl k0 (AA rfl (z1 0 _ rfl)) rfl<|Ah 4 31 d0 rfl k0 (fun _=>Ai rfl) rfl<|Ah 5 63 d0 rfl k0 (fun _=>FV.shlU (a:=(1:UInt64)) (j:=c0) rfl rfl) rfl<|Ah 6 127 d0 rfl k0 (fun _=>FV.orU (a:=G0) (b:=shlU (1:UInt64) c0) rfl rfl) rfl<|Ah 7 255 d0 rfl k0 (fun _=>Be 1 (v0.toNat) rfl u0 rfl E0 A0) rfl ?_
 obtain ⟨Y1,W1,h⟩:=bi h
 refine BD (i:=8) (readyD_ok d0 (by kernel_rfl)) (RO.acts (m' :=511) (stepC_ok d0 (by kernel_rfl)) rfl rfl .plain (Acts.set (α:=UInt64) (i:=v0.toNat) W1 q0 C0 (fun _=>.hd) t0 rfl rfl rfl rfl rfl (by kernel_rfl)) (fun u2 ⟨W0,b1,c1,g1⟩=>?_))
 refine Bc (doneD_ok d0 (by kernel_rfl))<|AF<|Aw<|Ab (Bu (i:=c0) (j:=1) rfl rfl (by omega))<|Ac rfl<|Aa ?_
 exact Y0 (c0 + 1,Y1,W0) _ _ ⟨rfl,rfl,rfl,rfl,rfl,trivial⟩ ⟨b1,(Tt d1 c1),g1⟩ h
 refine Bd rfl ?_
 have h:=t1 _ h
 try dsimp only at h
 refine Ak<|Ae<|Ac rfl<|Ac rfl<|Aa<|AB ?_
 obtain ⟨s2,D1,D0⟩:=thn_in h
 refine Bp (α:=Int) (fun p0=>[(6,(.slice (some ⟨b6,0,none⟩) a1.toNat a1.toNat)),(28,vI a1),(29,vI p0)]) (fun p0 B0=>St w B0 [.row w.heap.size 174 (Rep.size UInt64) (.slice (some ⟨b6,0,none⟩) a1.toNat a1.toNat) b0.length g0]∧Tr s0 [.row w.heap.size 174 (Rep.size UInt64) (.slice (some ⟨b6,0,none⟩) a1.toNat a1.toNat) b0.length g0] B0 [.row w.heap.size 174 (Rep.size UInt64) (.slice (some ⟨b6,0,none⟩) a1.toNat a1.toNat) b0.length g0]) (fun p0=>p0) 0 D1 ⟨rfl,rfl,rfl,trivial⟩ ⟨q0,AN _ _⟩ ?_
 rintro b2 p0 B0 Z0 ⟨j0,y0⟩ h
 unfold plan_parts_l1 at h
 try dsimp only at h
 refine Ae<|Ab (BF (i:=p0) (j:=a1) rfl rfl)<|Aa<|Ak<|AW rfl h (fun Q0 h=>?_) (fun Q0 h=>?_)
 refine Ao<|Ak<|AB<|Ae<|Ac rfl<|Ag rfl<|Aa<|Ae<|Ac rfl<|Ac rfl ?_
 obtain ⟨H0,U1,h⟩:=bi h
 obtain ⟨u1,V1⟩:=idx_in U1
 have B1:=Al t0 y0
 obtain ⟨J0,k2,z0,F0,X0,H1,A1⟩:=St.nth (α:=UInt64) j0 .hd B1 V1
 obtain ⟨M0,p2,q1⟩:=BH (α:=UInt64) j0 .hd F0
 obtain rfl:J0 = ⟨M0,0,none⟩:=by rw [q1] at z0; cases z0; rfl
 have s1:X0 = [.int .u64 (H0.toNat:Int)]:=H1; subst s1
 refine Ab (Be 1 (p0.toNat) rfl z0 rfl u1 F0)<|AS rfl (A1 0 _ rfl)<|Ab (FV.eqlU (a:=H0) (b:=(0:UInt64)) rfl rfl)<|Aa<|AW rfl h (fun R0 h=>?_) (fun R0 h=>?_)
 refine Ae<|Ag rfl<|Ag rfl<|Aa ?_
 have h:=thn_inl h D0
 refine Am rfl ?_
 have I1:=AL (α:=UInt64) j0 L
 refine Ay hb0 Tryz.func134 rfl (.cons (.tmp rfl) (.cons (.tmp rfl) .nil)) rfl ?_
 cases h
 exact ⟨j0.ag,fun w9 hw9=>⟨vN,rfl,j0.kd I1 hw9⟩⟩
 refine Ao<|AF<|Aw ?_
 obtain ⟨X1,M1,h⟩:=bi h
 refine Ab (BT (i:=p0) (j:=1) rfl rfl M1)<|Ac rfl<|Aa ?_
 exact Z0 X1 _ _ ⟨rfl,rfl,rfl,trivial⟩ ⟨j0,y0⟩ h
 refine Bd rfl ?_
 have h:=thn_inr h D0
 try dsimp only at h
 refine Ae<|Ac rfl<|Ag rfl<|Ag rfl<|Aa<|Am rfl ?_
 have C1:=Al t0 y0
 have J1:=AQ (α:=UInt64) j0 .hd C1 hL
 have x0:=Bf j0 .hd
 have q2:=Bg j0 .hd
 have K1:=Bh (α:=UInt64) (v:=(.slice (some ⟨b6,0,none⟩) a1.toNat a1.toNat)) (xs:=b0) x0 L J1
 refine Ay hb0 Tryz.func134 rfl (.cons (.tmp rfl) (.cons (.tmp rfl) .nil)) rfl ?_
 cases h
 exact ⟨x0.ag,fun w9 hw9=>⟨(.slice (some ⟨b6,0,none⟩) a1.toNat a1.toNat),rfl,x0.kd K1 hw9⟩⟩
theorem body95:bodyB Tryz.prog 95 = true:=by kernel_rfl
theorem body119:bodyB Tryz.prog 119 = true:=by kernel_rfl
theorem body133:bodyB Tryz.prog 133 = true:=by kernel_rfl
theorem body134:bodyB Tryz.prog 134 = true:=by kernel_rfl
def plan_Check_p (n:Nat) (a0:TGraph) (a1:List Int) (a2:Int):Option Int:=
  (graph_Check_p n a0).bind fun b0=>(if b0 = 0 then (if a2 < 1 then some (2:Int) else (if 8 < a2 then some (2:Int) else (if ((a1.length:Nat):Int) = a0.fN then (plan_labels_p n a1 a2).bind fun c0=>(if c0 = true then (plan_parts_p n a1 a2).bind fun d0=>(if d0.2 = true then some (0:Int) else some (210:Int)) else some (210:Int)) else some (210:Int)))) else some b0)
theorem plan_Check_c (n:Nat) (L:List Nat) (w:World) (hL:∀ b ∈ L,b < w.heap.size) (a0:TGraph) {v0_1:Value} (h0_1:Rep.R w L [v0_1] a0.fEdges) (a1:List Int) {v1_0:Value} (h1_0:Rep.R w L [v1_0] a1) (a2:Int)  {r:Int} (h:plan_Check_p n a0 a1 a2 = some r) :
    Calls Tryz.prog 97 #[.agg #[vI a0.fN,v0_1],v1_0,vI a2] w (Gives w fun _ u=>u = vI r):=by
 unfold plan_Check_p at h
 have hS0:=AK w
 refine AM Tryz.func97 rfl rfl rfl (fun _ cs0 hb0=>?_)
 refine Ae<|Az .plain rfl (AI hS0 rfl rfl) (fun w2 b5 hS3 hT4=>?_)
 refine Ag rfl<|Aa<|Ae<|Ab (AG rfl (hS3.memA .hd))<|Ac rfl<|Ac rfl<|BL (fst:=[]) (cap:=[]) (vs:=[.agg #[vI a0.fN,v0_1],v1_0,vI a2]) .plain body119 Tryz.func119 rfl rfl rfl rfl (e3 rfl rfl rfl) rfl (fun cs7 hb6 hp8=>?_)
 refine Ae<|Az .plain rfl (AI hS3 rfl rfl) (fun c1 Q0 b0 W0=>?_)
 refine Ag rfl<|Ag rfl<|Aa<|Ak<|Ae<|Ab (AG rfl (b0.memA .hd)) ?_
 obtain ⟨d0,G0,h⟩:=bi h
 refine BE (vI d0) body95 rfl (e1 rfl) (fun w9 hw9=>graph_Check_c n _ w9 (b0.hL0 hL hw9) a0 (b0.k0 h0_1 hw9) G0) rfl<|Ag rfl<|Aa<|Ae<|Ac rfl<|Ab (BO (i:=d0) (j:=0) rfl rfl)<|Aa<|BV rfl h (fun q0 h=>?_) (fun q0 h=>?_)
 refine Ao<|Ak<|Ae<|Ac rfl<|Ab (BF (i:=a2) (j:=1) rfl rfl)<|Ac rfl<|Bi (s:=18) rfl h (fun s0 h=>?_) (fun s0 h=>?_)
 refine Af<|Af<|AU rfl rfl<|Aa<|AY rfl<|Ae<|Ag rfl<|Ag rfl<|Aa<|Am rfl<|Ay (u:=.tuple #[.pointer none,vI 2]) hb6 Tryz.func119 rfl (.cons (.tmp rfl) (.cons (.tmp rfl) .nil)) rfl<|Ac rfl<|Ab (Au rfl rfl)<|Ab (Au rfl rfl)<|Ag rfl<|Ag rfl<|Aa<|Ae<|Ac rfl<|Ag rfl<|Aa<|Am rfl<|AJ hb0 Tryz.func97 rfl rfl ?_
 cases h
 exact b0.gv
 refine Ap (Ai rfl)<|Ap (FV.gtr (i:=a2) (j:=8) rfl rfl)<|AO rfl rfl<|Aa<|AW rfl h (fun t0 h=>?_) (fun t0 h=>?_)
 refine Ae<|Ag rfl<|Ag rfl<|Aa<|Am rfl<|Ay (u:=.tuple #[.pointer none,vI 2]) hb6 Tryz.func119 rfl (.cons (.tmp rfl) (.cons (.tmp rfl) .nil)) rfl<|Ac rfl<|Ab (Au rfl rfl)<|Ab (Au rfl rfl)<|Ag rfl<|Ag rfl<|Aa<|Ae<|Ac rfl<|Ag rfl<|Aa<|Am rfl<|AJ hb0 Tryz.func97 rfl rfl ?_
 cases h
 exact b0.gv
 refine Ao<|Ak<|Ae<|Ac rfl ?_
 have g0:=Ax h1_0 b0
 have Z0:a1.length ≤ 281474976710656:=AZ g0
 refine Ab (Bj (xs:=a1) Tryz.underlying43 rfl g0)<|AH 0 rfl<|AS rfl ((b0.memA .hd) 0 _ rfl)<|Ab (BO (i:=((a1.length:Nat):Int)) (j:=a0.fN) rfl rfl)<|Ac rfl<|RG.ifn (s:=27) rfl h (fun u0 h=>?_) (fun u0 h=>?_)
 refine Ap (Ai rfl)<|Ap (Ai rfl) ?_
 obtain ⟨J0,H0,h⟩:=bi h
 refine RG.callq' (v:=.bool J0) (fst:=[]) (cap:=[]) (.yes rfl rfl) body133 rfl (e2 rfl rfl) (fun w9 hw9=>plan_labels_c n _ w9 (b0.hL0 hL hw9) a1 (b0.k0 h1_0 hw9) a2 H0) rfl<|Ap (Ba rfl)<|AO rfl rfl<|Aa<|BS rfl h (fun v0 h=>?_) (fun v0 h=>?_)
 refine Ao<|Ae<|Ac rfl<|Ac rfl ?_
 obtain ⟨j1,I0,h⟩:=bi h
 refine Bx (fst:=[]) (cap:=[]) .plain body134 rfl (e2 rfl rfl) (fun w9 hw9=>plan_parts_c n _ w9 (b0.hL hL hw9) a1 (b0.km h1_0 hw9) a2 I0) rfl (fun d1 b1 z0 ⟨j0,hu_,C0⟩=>?_)
 subst hu_
 obtain ⟨c0,X0⟩:=b0.agr z0
 refine Ac rfl<|Ab (Au rfl rfl)<|Ab (Au rfl rfl)<|Ag rfl<|Ag rfl<|Aa<|Ak<|Ae<|Ac rfl<|Ab (Ba rfl)<|Aa<|BS rfl h (fun x0 h=>?_) (fun x0 h=>?_)
 refine Ao<|Ae<|Ab (AG rfl (c0.memA .hd))<|Ac rfl<|Ac rfl ?_
 have A0:=Ax h0_1 c0
 obtain ⟨K0,R0,D0,_⟩:=BQ A0
 have B0:=Ax h1_0 c0
 obtain ⟨M0,U0,E0,_⟩:=BQ B0
 obtain ⟨P0,V0,F0,_⟩:=BQ C0
 refine Ab (AV (vs:=[.agg #[vI a0.fN,v0_1],v1_0,j0]) (u:=.agg #[vI a0.fN,v0_1,v1_0,j0]) (e3 rfl rfl rfl) (fun w9=>by rw [D0,E0,F0]; try kernel_rfl))<|Az .plain rfl (AI c0 rfl rfl) (fun g1 p0 y0 Y0=>?_)
 refine Ag rfl<|Ag rfl<|Aa<|Am rfl<|Ay (u:=.tuple #[vP p0,vI 0]) hb6 Tryz.func119 rfl (.cons (.tmp rfl) (.cons (.tmp rfl) .nil)) rfl<|Ac rfl<|Ab (Au rfl rfl)<|Ab (Au rfl rfl)<|Ag rfl<|Ag rfl<|Aa<|Ae<|Ac rfl<|Ag rfl<|Aa<|Am rfl<|AJ hb0 Tryz.func97 rfl rfl ?_
 cases h
 exact y0.gv
 refine Ae<|Ag rfl<|Ag rfl<|Aa<|Am rfl<|Ay (u:=.tuple #[.pointer none,vI 210]) hb6 Tryz.func119 rfl (.cons (.tmp rfl) (.cons (.tmp rfl) .nil)) rfl<|Ac rfl<|Ab (Au rfl rfl)<|Ab (Au rfl rfl)<|Ag rfl<|Ag rfl<|Aa<|Ae<|Ac rfl<|Ag rfl<|Aa<|Am rfl<|AJ hb0 Tryz.func97 rfl rfl ?_
 cases h
 exact c0.gv
 refine Ae<|Ag rfl<|Ag rfl<|Aa<|Am rfl<|Ay (u:=.tuple #[.pointer none,vI 210]) hb6 Tryz.func119 rfl (.cons (.tmp rfl) (.cons (.tmp rfl) .nil)) rfl<|Ac rfl<|Ab (Au rfl rfl)<|Ab (Au rfl rfl)<|Ag rfl<|Ag rfl<|Aa<|Ae<|Ac rfl<|Ag rfl<|Aa<|Am rfl<|AJ hb0 Tryz.func97 rfl rfl ?_
 cases h
 exact b0.gv
 refine Af<|Af<|Af<|Af<|AU rfl rfl<|Aa<|AY rfl<|Ae<|Ag rfl<|Ag rfl<|Aa<|Am rfl<|Ay (u:=.tuple #[.pointer none,vI 210]) hb6 Tryz.func119 rfl (.cons (.tmp rfl) (.cons (.tmp rfl) .nil)) rfl<|Ac rfl<|Ab (Au rfl rfl)<|Ab (Au rfl rfl)<|Ag rfl<|Ag rfl<|Aa<|Ae<|Ac rfl<|Ag rfl<|Aa<|Am rfl ?_
 refine AJ hb0 Tryz.func97 rfl rfl ?_
 cases h
 exact b0.gv
 refine Ae<|Ac rfl<|Ag rfl<|Ag rfl<|Aa<|Am rfl<|Ay (u:=.tuple #[.pointer none,vI d0]) hb6 Tryz.func119 rfl (.cons (.tmp rfl) (.cons (.tmp rfl) .nil)) rfl<|Ac rfl<|Ab (Au rfl rfl)<|Ab (Au rfl rfl)<|Ag rfl<|Ag rfl<|Aa<|Ae<|Ac rfl<|Ag rfl<|Aa<|Am rfl<|AJ hb0 Tryz.func97 rfl rfl ?_
 cases h
 exact b0.gv
def judge_must_int_p (_n:Nat) (a0:List Int) (a1:Int):Option (Except Tbroken (List Int)):=
  (if a1 = 0 then some (.ok a0) else some (.error (⟨a1⟩:Tbroken)))
theorem judge_must_int_c (n:Nat) (L:List Nat) (w:World) (_hL:∀ b ∈ L,b < w.heap.size) (a0:List Int) {v0_0:Value} (h0_0:Rep.R w L [v0_0] a0) (a1:Int)  {r:Except Tbroken (List Int)} (h:judge_must_int_p n a0 a1 = some r) :
    Calls Tryz.prog 98 #[v0_0,vI a1] w (PGives w (fun (y:List Int) w' u=>∃ v0_0:Value,u = v0_0∧Rep.R w' L [v0_0] y) (fun e=>.iface 150 (.agg #[vI e.fErrno])) r):=by
 unfold judge_must_int_p at h
 have hS0:=AK w
 refine MX.startP Tryz.func98 rfl rfl rfl (fun _ cs0 hb0 hp0=>?_)
 refine Ae<|Ag rfl<|Aa<|Ak<|Ae<|Ac rfl<|Ab (BO (i:=a1) (j:=0) rfl rfl)<|Aa<|BV rfl h (fun c1 h=>?_) (fun c1 h=>?_)
 refine Ao<|Ae<|Ac rfl<|Ag rfl<|Aa<|Am rfl<|AJ hb0 Tryz.func98 rfl rfl ?_
 cases h
 exact ⟨hS0.ag,fun w9 hw9=>okOf_in ⟨v0_0,rfl,hS0.kd h0_0 hw9⟩⟩
 refine Aw<|Ac rfl<|Ab (AV (vs:=[vI a1]) (u:=.agg #[vI a1]) (e1 rfl) (fun w9=>by kernel_rfl))<|Ab (FV.makeInterface (by kernel_rfl) rfl)<|RG.panic .plain rfl ?_
 cases h
 exact BU hp0 Tryz.func98 ⟨hS0.ag,rfl⟩
def tb93_6:List (Nat × Nat × Nat):=[(0,131072,32),(0,262144,8),(2,524288,262144),(1,0,131073),(15,0,524290)]
def tb74_12:List (Nat × Nat × Nat):=[(0,2199023255552,16),(0,4398046511104,32),(0,8796093022208,4),(0,17592186044416,8),(0,35184372088832,32),(0,70368744177664,4),(0,140737488355328,8),(112,281474976710656,246290604621824),(128,562949953421312,281474976710656),(128,1125899906842624,281474976710656),(896,2251799813685248,1688849860263936),(1039,4503599627370496,2284785162518528),(2048,9007199254740992,4503599627370496),(8191,256,9007199254740992)]
theorem body24:bodyB Tryz.prog 24 = true:=by kernel_rfl
theorem body72:bodyB Tryz.prog 72 = true:=by kernel_rfl
theorem body73:bodyB Tryz.prog 73 = true:=by kernel_rfl
theorem body74:bodyB Tryz.prog 74 = true:=by kernel_rfl
theorem body93:bodyB Tryz.prog 93 = true:=by kernel_rfl
theorem body96:bodyB Tryz.prog 96 = true:=by kernel_rfl
theorem body97:bodyB Tryz.prog 97 = true:=by kernel_rfl
theorem body98:bodyB Tryz.prog 98 = true:=by kernel_rfl
def judge_Check_l1 (_n:Nat) (a1:TRoll) (g0:Int × Nat → Option Int):Int × Nat → Option Int
  | (c0,b0)=>(if b0 < a1.fUnits.length then (a1.fUnits[b0]?).bind fun k0=>jn (fun p0=>g0 (p0,b0 + 1)) (fun d0=>(if k0.fWater = true then d0 c0 else (chk (c0 + 1)).bind fun j0=>d0 j0)) else some c0)
def judge_Check_p (n:Nat) (a0:TGraph) (a1:TRoll) (a2:List Int) (a3:Int):Option Int:=
  (graph_Check_p n a0).bind fun v0=>(judge_need_p n v0).bind fun y0=>exc y0 (fun E0=>(units_CheckRoll_p n a1).bind fun p0=>(judge_need_p n p0).bind fun q0=>exc q0 (fun A0=>Option.bind (loopF (judge_Check_l1 n a1) n (0,0)) (fun z0=>(judge_fail_p n (!(decide (z0 = a0.fN))) (5:Int)).bind fun s0=>exc s0 (fun B0=>(plan_Check_p n a0 a2 a3).bind fun t0=>(judge_need_p n t0).bind fun u0=>exc u0 (fun C0=>(balance_Totals_p n a1 a2 a3).bind fun b0=>(judge_must_int_p n b0.1 b0.2).bind fun x0=>exc x0 (fun D0=>some (0:Int)) (fun j0=>some j0.fErrno)) (fun g0=>some g0.fErrno)) (fun d0=>some d0.fErrno))) (fun c0=>some c0.fErrno)) (fun k0=>some k0.fErrno)
theorem judge_Check_c (n:Nat) (L:List Nat) (w:World) (hL:∀ b ∈ L,b < w.heap.size) (a0:TGraph) {v0_1:Value} (h0_1:Rep.R w L [v0_1] a0.fEdges) (a1:TRoll) {v1_3:Value} (h1_3:Rep.R w L [v1_3] a1.fUnits) (a2:List Int) {v2_0:Value} (h2_0:Rep.R w L [v2_0] a2) (a3:Int)  {r:Int} (h:judge_Check_p n a0 a1 a2 a3 = some r) :
    Calls Tryz.prog 47 #[.agg #[vI a0.fN,v0_1],.agg #[vI a1.fGroups,vI a1.fParties,vI a1.fLevels,v1_3],v2_0,vI a3] w (Gives w fun _ u=>u = vI r):=by
 unfold judge_Check_p at h
 have hS0:=AK w
 refine AM Tryz.func47 rfl rfl rfl (fun _ cs0 hb0=>?_)
 refine Ae<|Az .plain rfl (AI hS0 rfl rfl) (fun w2 b5 hS3 hT4=>?_)
 refine Az .plain rfl (AI hS3 rfl rfl) (fun w7 d0 hS8 hT9=>?_)
 have U4:=Ax h2_0 hS8
 refine Az .plain rfl (AI hS8 rfl (Rep.c1 U4)) (fun Y7 g0 Y2 U6=>?_)
 refine Az .plain rfl (AI Y2 rfl rfl) (fun Z7 j0 Z2 V6=>?_)
 refine Ag rfl<|Aa<|Ae<|Ab (FV.makeFunc (vs:=[]) (us:=[vP b5,vP d0,vP g0,vP j0]) evs_nil (e4 rfl rfl rfl rfl))<|BL (fst:=[]) (cap:=[]) (vs:=[.func (.func 73) #[] #[vP b5,vP d0,vP g0,vP j0]]) .plain body72 Tryz.func72 rfl rfl rfl rfl (e1 rfl) rfl (fun G6 E0 M7=>?_)
 refine Ae<|Az .plain rfl (AX [.pointer none] Z2) (fun c8 c0 t3 c7=>?_)
 refine Az .plain rfl (AX [vI 0] t3) (fun k8 b0 P0 d7=>?_)
 refine Aa<|Ae<|Ab (FV.makeFunc (vs:=[]) (us:=[vP c0,vP b0]) evs_nil (e2 rfl rfl))<|RG.defer (fst:=[]) (cap:=[vP c0,vP b0]) (vs:=[]) rfl .plain rfl evs_nil<|Aa<|Ae<|Ac rfl<|BL (fst:=[]) (cap:=[vP b5,vP d0,vP g0,vP j0]) (vs:=[]) .plain body73 Tryz.func73 rfl rfl rfl rfl evs_nil rfl (fun I6 z4 Q0=>?_)
 refine Ae<|Ag rfl<|Aa<|Ae<|Ab (AG rfl (P0.memA (.tl (.tl (.tl (.tl (.tl .hd)))))))<|Ab (AG rfl (P0.memA (.tl (.tl (.tl (.tl .hd))))))<|Ab (AA rfl ((P0.memA (.tl (.tl (.tl .hd)))) 0 _ rfl))<|AS rfl ((P0.memA (.tl (.tl .hd))) 0 _ rfl)<|BL (fst:=[]) (cap:=[]) (vs:=[.agg #[vI a0.fN,v0_1],.agg #[vI a1.fGroups,vI a1.fParties,vI a1.fLevels,v1_3],v2_0,vI a3]) .plain body74 Tryz.func74 rfl rfl rfl rfl (e4 rfl rfl rfl rfl) rfl (fun J6 A4 R0=>?_)
 refine Ae<|Az .plain rfl (AI P0 rfl rfl) (fun t8 t0 A3 s7=>?_)
 refine Az .plain rfl (AI A3 rfl rfl) (fun R5 u0 s0 t7=>?_)
 refine Ag rfl<|Aa<|Ae<|Ab (AG rfl (s0.memA (.tl .hd))) ?_
 obtain ⟨c2,E5,h⟩:=bi h
 refine BE (vI c2) body95 rfl (e1 rfl) (fun w9 hw9=>graph_Check_c n _ w9 (s0.hL0 hL hw9) a0 (s0.k0 h0_1 hw9) E5) rfl ?_
 obtain ⟨d6,A2,h⟩:=bi h
 rcases d6 with M0 | K8
 have h:=exc_e h
 try dsimp only at h
 refine RG.callE (fst:=[]) (cap:=[]) .plain body94 rfl (e1 rfl) (fun w9 hw9=>judge_need_c n _ w9 (s0.hL0 hL hw9) c2 A2) (fun z8 x4=>?_)
 obtain ⟨G3,B7⟩:=s0.agr x4
 refine BU R0 Tryz.func74<|BU Q0 Tryz.func73<|PN.callD (vs:=[]) (cap:=[vP c0,vP b0]) body93 Tryz.func93 rfl rfl rfl (fun A6 F4 Q4=>?_)
 refine Ae<|RG.recover1 .plain F4 rfl<|Ag rfl<|Aa<|Ae<|Ac rfl<|Ab (FV.neqI Tryz.underlying20 rfl rfl)<|Aa<|AY rfl<|Ae<|Ac rfl<|Ab (FV.assertT (by kernel_rfl) rfl)<|Ac rfl<|Ab (Au rfl rfl)<|Ab (Au rfl rfl)<|Az .plain rfl (AX [vI 0] G3) (fun A8 K2 K3 I7=>?_)
 refine Bk [vI M0.fErrno] K3 .hd (o1 rfl) (fun W5 C1 J7=>?_)
 refine Ag rfl<|Aa<|Ak<|Ae<|Ac rfl<|Ab (Ba rfl)<|Aa<|BC rfl<|Ao<|Ae<|Ag rfl<|Aa<|Bm 3 tb93_6 (by kernel_rfl) (by kernel_rfl) (by kernel_rfl) (fun D0 P1=>?_)
 refine Ah 0 1 D0 rfl P1 (fun _=>Ai rfl) rfl<|Ah 1 3 D0 rfl P1 (fun _=>Bt 0 rfl) rfl<|RD.meet (α:=Unit) (fun ()=>[(1,vP b0),(19,vI M0.fErrno)]) (fun () Q1=>St w Q1 [.cells b0 [vI 0] 54,.cells c0 [.pointer none] 126,.cells j0 [vI a3] 3,.cells g0 [v2_0] 43,.cells d0 [vI a1.fGroups,vI a1.fParties,vI a1.fLevels,v1_3] 41,.cells b5 [vI a0.fN,v0_1] 38]∧Tr W5 [.cells K2 [vI M0.fErrno] 150,.cells u0 [vI a1.fGroups,vI a1.fParties,vI a1.fLevels,v1_3] 41,.cells t0 [vI a0.fN,v0_1] 38,.cells b0 [vI 0] 54,.cells c0 [.pointer none] 126,.cells j0 [vI a3] 3,.cells g0 [v2_0] 43,.cells d0 [vI a1.fGroups,vI a1.fParties,vI a1.fLevels,v1_3] 41,.cells b5 [vI a0.fN,v0_1] 38] Q1 [.cells b0 [vI 0] 54,.cells c0 [.pointer none] 126,.cells j0 [vI a3] 3,.cells g0 [v2_0] 43,.cells d0 [vI a1.fGroups,vI a1.fParties,vI a1.fLevels,v1_3] 41,.cells b5 [vI a0.fN,v0_1] 38]) 1 15 ?_ ?_
 rintro ⟨⟩ Q1 ⟨R2,K6⟩
 try dsimp only
 refine RD.nw 4 31 D0 rfl rfl .plain (Bq (news:=[vI M0.fErrno]) R2 .hd rfl rfl rfl rfl rfl rfl (o1 rfl)) (fun V7 k1 M6=>?_)
 refine Bc (doneD_ok D0 (by kernel_rfl))<|MX.fin rfl<|RT.leaveD1 Q4 Tryz.func93 rfl .nil<|Ay (u:=.tuple #[.pointer none,vI M0.fErrno]) E0 Tryz.func72 rfl (.cons (.one (by kernel_rfl) rfl ((k1.memA (.tl .hd)) 0 _ rfl)) (.cons (.one (by kernel_rfl) rfl ((k1.memA .hd) 0 _ rfl)) .nil)) rfl<|Ac rfl<|Ab (Au rfl rfl)<|Ab (Au rfl rfl)<|Ag rfl<|Ag rfl<|Aa<|Ae<|Ac rfl<|Ag rfl<|Aa<|Am rfl<|AJ hb0 Tryz.func47 rfl rfl ?_
 cases h
 exact k1.gv
 intro d2
 refine Bv [2,3] (readyD_ok D0 (by kernel_rfl)) ⟨?_,?_,trivial⟩
 refine BW (m' :=7) (stepC_ok D0 (by kernel_rfl)) rfl .plain rfl (AA rfl ((C1.memA .hd) 0 _ rfl))<|RD.nw 3 15 D0 rfl rfl .plain (Bq (news:=[.pointer none]) C1 (.tl (.tl (.tl (.tl .hd)))) rfl rfl rfl rfl rfl rfl (o1 rfl)) (fun X5 d1 H1=>?_)
 obtain ⟨U2,Q3⟩:=AD d1 (.one (.tl (.tl (.tl .hd))) (.one (.tl (.tl (.tl .hd))) (.one (.tl (.tl (.tl .hd))) (.one (.tl (.tl (.tl .hd))) (.one (.tl (.tl (.tl .hd))) (.one (.tl (.tl (.tl .hd))) .done))))))
 exact d2 () _ _ ⟨rfl,rfl,trivial⟩ ⟨U2,(Tt H1 Q3)⟩
 refine RO.now (m' :=11) (stepC_ok D0 (by kernel_rfl)) rfl rfl .plain (Bq (news:=[.pointer none]) C1 (.tl (.tl (.tl (.tl .hd)))) rfl rfl rfl rfl rfl rfl (o1 rfl)) (fun X5 d1 H1=>?_)
 refine AT 2 15 16 D0 rfl P1 (AA rfl ((d1.memA .hd) 0 _ rfl)) rfl ?_
 obtain ⟨V2,R3⟩:=AD d1 (.one (.tl (.tl (.tl .hd))) (.one (.tl (.tl (.tl .hd))) (.one (.tl (.tl (.tl .hd))) (.one (.tl (.tl (.tl .hd))) (.one (.tl (.tl (.tl .hd))) (.one (.tl (.tl (.tl .hd))) .done))))))
 exact d2 () _ _ ⟨rfl,rfl,trivial⟩ ⟨V2,(Tt H1 R3)⟩
 have h:=exc_o h
 try dsimp only at h
 refine BE (.tuple #[]) body94 rfl (e1 rfl) (fun w9 hw9=>BX (judge_need_c n _ w9 (s0.hL0 hL hw9) c2 A2)) rfl<|Aa<|Ae<|Ab (AG rfl (s0.memA .hd)) ?_
 obtain ⟨Z1,C5,h⟩:=bi h
 refine BE (vI Z1) body82 rfl (e1 rfl) (fun w9 hw9=>units_CheckRoll_c n _ w9 (s0.hL0 hL hw9) a1 (s0.k0 h1_3 hw9) C5) rfl ?_
 obtain ⟨Y5,v2,h⟩:=bi h
 rcases Y5 with H0 | G8
 have h:=exc_e h
 try dsimp only at h
 refine RG.callE (fst:=[]) (cap:=[]) .plain body94 rfl (e1 rfl) (fun w9 hw9=>judge_need_c n _ w9 (s0.hL0 hL hw9) Z1 v2) (fun W7 q4=>?_)
 obtain ⟨W2,P6⟩:=s0.agr q4
 refine BU R0 Tryz.func74<|BU Q0 Tryz.func73<|PN.callD (vs:=[]) (cap:=[vP c0,vP b0]) body93 Tryz.func93 rfl rfl rfl (fun u6 B4 I4=>?_)
 refine Ae<|RG.recover1 .plain B4 rfl<|Ag rfl<|Aa<|Ae<|Ac rfl<|Ab (FV.neqI Tryz.underlying20 rfl rfl)<|Aa<|AY rfl<|Ae<|Ac rfl<|Ab (FV.assertT (by kernel_rfl) rfl)<|Ac rfl<|Ab (Au rfl rfl)<|Ab (Au rfl rfl)<|Az .plain rfl (AX [vI 0] W2) (fun X7 F2 X2 Q6=>?_)
 refine Bk [vI H0.fErrno] X2 .hd (o1 rfl) (fun H5 p1 R6=>?_)
 refine Ag rfl<|Aa<|Ak<|Ae<|Ac rfl<|Ab (Ba rfl)<|Aa<|BC rfl<|Ao<|Ae<|Ag rfl<|Aa<|Bm 3 tb93_6 (by kernel_rfl) (by kernel_rfl) (by kernel_rfl) (fun z0 I1=>?_)
 refine Ah 0 1 z0 rfl I1 (fun _=>Ai rfl) rfl<|Ah 1 3 z0 rfl I1 (fun _=>Bt 0 rfl) rfl<|RD.meet (α:=Unit) (fun ()=>[(1,vP b0),(19,vI H0.fErrno)]) (fun () R1=>St w R1 [.cells b0 [vI 0] 54,.cells c0 [.pointer none] 126,.cells j0 [vI a3] 3,.cells g0 [v2_0] 43,.cells d0 [vI a1.fGroups,vI a1.fParties,vI a1.fLevels,v1_3] 41,.cells b5 [vI a0.fN,v0_1] 38]∧Tr H5 [.cells F2 [vI H0.fErrno] 150,.cells u0 [vI a1.fGroups,vI a1.fParties,vI a1.fLevels,v1_3] 41,.cells t0 [vI a0.fN,v0_1] 38,.cells b0 [vI 0] 54,.cells c0 [.pointer none] 126,.cells j0 [vI a3] 3,.cells g0 [v2_0] 43,.cells d0 [vI a1.fGroups,vI a1.fParties,vI a1.fLevels,v1_3] 41,.cells b5 [vI a0.fN,v0_1] 38] R1 [.cells b0 [vI 0] 54,.cells c0 [.pointer none] 126,.cells j0 [vI a3] 3,.cells g0 [v2_0] 43,.cells d0 [vI a1.fGroups,vI a1.fParties,vI a1.fLevels,v1_3] 41,.cells b5 [vI a0.fN,v0_1] 38]) 1 15 ?_ ?_
 rintro ⟨⟩ R1 ⟨b3,W6⟩
 try dsimp only
 refine RD.nw 4 31 z0 rfl rfl .plain (Bq (news:=[vI H0.fErrno]) b3 .hd rfl rfl rfl rfl rfl rfl (o1 rfl)) (fun b8 q1 X6=>?_)
 refine Bc (doneD_ok z0 (by kernel_rfl))<|MX.fin rfl<|RT.leaveD1 I4 Tryz.func93 rfl .nil<|Ay (u:=.tuple #[.pointer none,vI H0.fErrno]) E0 Tryz.func72 rfl (.cons (.one (by kernel_rfl) rfl ((q1.memA (.tl .hd)) 0 _ rfl)) (.cons (.one (by kernel_rfl) rfl ((q1.memA .hd) 0 _ rfl)) .nil)) rfl<|Ac rfl<|Ab (Au rfl rfl)<|Ab (Au rfl rfl)<|Ag rfl<|Ag rfl<|Aa<|Ae<|Ac rfl<|Ag rfl<|Aa<|Am rfl<|AJ hb0 Tryz.func47 rfl rfl ?_
 cases h
 exact q1.gv
 intro g2
 refine Bv [2,3] (readyD_ok z0 (by kernel_rfl)) ⟨?_,?_,trivial⟩
 refine BW (m' :=7) (stepC_ok z0 (by kernel_rfl)) rfl .plain rfl (AA rfl ((p1.memA .hd) 0 _ rfl))<|RD.nw 3 15 z0 rfl rfl .plain (Bq (news:=[.pointer none]) p1 (.tl (.tl (.tl (.tl .hd)))) rfl rfl rfl rfl rfl rfl (o1 rfl)) (fun I5 V0 D1=>?_)
 obtain ⟨c3,U3⟩:=AD V0 (.one (.tl (.tl (.tl .hd))) (.one (.tl (.tl (.tl .hd))) (.one (.tl (.tl (.tl .hd))) (.one (.tl (.tl (.tl .hd))) (.one (.tl (.tl (.tl .hd))) (.one (.tl (.tl (.tl .hd))) .done))))))
 exact g2 () _ _ ⟨rfl,rfl,trivial⟩ ⟨c3,(Tt D1 U3)⟩
 refine RO.now (m' :=11) (stepC_ok z0 (by kernel_rfl)) rfl rfl .plain (Bq (news:=[.pointer none]) p1 (.tl (.tl (.tl (.tl .hd)))) rfl rfl rfl rfl rfl rfl (o1 rfl)) (fun I5 V0 D1=>?_)
 refine AT 2 15 16 z0 rfl I1 (AA rfl ((V0.memA .hd) 0 _ rfl)) rfl ?_
 obtain ⟨d3,V3⟩:=AD V0 (.one (.tl (.tl (.tl .hd))) (.one (.tl (.tl (.tl .hd))) (.one (.tl (.tl (.tl .hd))) (.one (.tl (.tl (.tl .hd))) (.one (.tl (.tl (.tl .hd))) (.one (.tl (.tl (.tl .hd))) .done))))))
 exact g2 () _ _ ⟨rfl,rfl,trivial⟩ ⟨d3,(Tt D1 V3)⟩
 have h:=exc_o h
 try dsimp only at h
 refine BE (.tuple #[]) body94 rfl (e1 rfl) (fun w9 hw9=>BX (judge_need_c n _ w9 (s0.hL0 hL hw9) Z1 v2)) rfl<|Aa<|Ae<|Ag rfl<|Aa<|Ak<|Ae<|AH 3 rfl<|AS rfl ((s0.memA .hd) 3 _ rfl) ?_
 have t2:=Ax h1_3 s0
 have K7:a1.fUnits.length ≤ 281474976710656:=AZ t2
 refine Ab (Bj (xs:=a1.fUnits) Tryz.underlying39 rfl t2)<|Ac rfl<|Aa<|AB ?_
 obtain ⟨P7,j5,H4⟩:=bind_in2 h
 refine Bp (α:=Int × Nat) (fun ⟨y0,x0⟩=>[(2,v2_0),(3,vI a3),(4,vP t0),(5,vP u0),(9,vI y0),(19,v1_3),(20,vI ((a1.fUnits.length:Nat):Int)),(21,vI ((x0:Nat):Int))]) (fun ⟨y0,x0⟩ U1=>St w U1 [.cells u0 [vI a1.fGroups,vI a1.fParties,vI a1.fLevels,v1_3] 41,.cells t0 [vI a0.fN,v0_1] 38,.cells b0 [vI 0] 54,.cells c0 [.pointer none] 126,.cells j0 [vI a3] 3,.cells g0 [v2_0] 43,.cells d0 [vI a1.fGroups,vI a1.fParties,vI a1.fLevels,v1_3] 41,.cells b5 [vI a0.fN,v0_1] 38]∧Tr R5 [.cells u0 [vI a1.fGroups,vI a1.fParties,vI a1.fLevels,v1_3] 41,.cells t0 [vI a0.fN,v0_1] 38,.cells b0 [vI 0] 54,.cells c0 [.pointer none] 126,.cells j0 [vI a3] 3,.cells g0 [v2_0] 43,.cells d0 [vI a1.fGroups,vI a1.fParties,vI a1.fLevels,v1_3] 41,.cells b5 [vI a0.fN,v0_1] 38] U1 [.cells u0 [vI a1.fGroups,vI a1.fParties,vI a1.fLevels,v1_3] 41,.cells t0 [vI a0.fN,v0_1] 38,.cells b0 [vI 0] 54,.cells c0 [.pointer none] 126,.cells j0 [vI a3] 3,.cells g0 [v2_0] 43,.cells d0 [vI a1.fGroups,vI a1.fParties,vI a1.fLevels,v1_3] 41,.cells b5 [vI a0.fN,v0_1] 38]) (fun ⟨y0,x0⟩=>(y0,x0)) (0,0) j5 ⟨rfl,rfl,rfl,rfl,rfl,rfl,rfl,rfl,trivial⟩ ⟨s0,AN _ _⟩ ?_
 rintro s6 ⟨y0,x0⟩ U1 Q2 ⟨p0,W3⟩ h
 unfold judge_Check_l1 at h
 try dsimp only at h
 refine Ae<|Ab (BA (i:=x0) (j:=a1.fUnits.length) rfl rfl)<|Aa<|Ak<|AW rfl h (fun M2 h=>?_) (fun M2 h=>?_)
 refine Ao<|Ak<|AB<|Ae ?_
 obtain ⟨F0,B5,h⟩:=bi h
 have W4:=Ax h1_3 p0
 obtain ⟨g6,v6,G4,J4,H6,p5,V4⟩:=Bb W4 B5
 obtain ⟨B2,C2,D2,rfl,q5,s5,t5⟩:=op_TUnit p5
 refine Ab (Be 6 x0 rfl G4 rfl rfl J4)<|Ab (AG rfl V4)<|Az .plain rfl (AX [.string ⟨#[]⟩,vI 0,vN,vN,vN,.bool false] p0) (fun d8 G2 g3 g1=>?_)
 have X4:=Aj q5 g1
 have Y4:=Aj s5 g1
 have Z4:=Aj t5 g1
 refine Bk [.string F0.fName,vI F0.fPeople,B2,C2,D2,.bool F0.fWater] g3 .hd (o6 rfl rfl (AP X4) (AP Y4) (AP Z4) rfl) (fun J5 s1 X3=>?_)
 refine Aa<|Ae<|AH 5 rfl<|AS rfl ((s1.memA .hd) 5 _ rfl)<|Ab (Ba rfl)<|Aa<|MX.join (α:=Int) (fun G0=>[(2,v2_0),(3,vI a3),(4,vP t0),(5,vP u0),(9,vI G0),(19,v1_3),(20,vI ((a1.fUnits.length:Nat):Int)),(21,vI ((x0:Nat):Int))]) (fun G0 V1=>St w V1 [.cells u0 [vI a1.fGroups,vI a1.fParties,vI a1.fLevels,v1_3] 41,.cells t0 [vI a0.fN,v0_1] 38,.cells b0 [vI 0] 54,.cells c0 [.pointer none] 126,.cells j0 [vI a3] 3,.cells g0 [v2_0] 43,.cells d0 [vI a1.fGroups,vI a1.fParties,vI a1.fLevels,v1_3] 41,.cells b5 [vI a0.fN,v0_1] 38]∧Tr J5 [.cells G2 [.string F0.fName,vI F0.fPeople,B2,C2,D2,.bool F0.fWater] 70,.cells u0 [vI a1.fGroups,vI a1.fParties,vI a1.fLevels,v1_3] 41,.cells t0 [vI a0.fN,v0_1] 38,.cells b0 [vI 0] 54,.cells c0 [.pointer none] 126,.cells j0 [vI a3] 3,.cells g0 [v2_0] 43,.cells d0 [vI a1.fGroups,vI a1.fParties,vI a1.fLevels,v1_3] 41,.cells b5 [vI a0.fN,v0_1] 38] V1 [.cells u0 [vI a1.fGroups,vI a1.fParties,vI a1.fLevels,v1_3] 41,.cells t0 [vI a0.fN,v0_1] 38,.cells b0 [vI 0] 54,.cells c0 [.pointer none] 126,.cells j0 [vI a3] 3,.cells g0 [v2_0] 43,.cells d0 [vI a1.fGroups,vI a1.fParties,vI a1.fLevels,v1_3] 41,.cells b5 [vI a0.fN,v0_1] 38]) (fun G0=>G0) h ?_ ?_
 rintro G0 V1 ⟨j3,Y3⟩ h
 try dsimp only at h
 refine AF<|Aw<|Ab (Bu (i:=x0) (j:=1) rfl rfl (by omega))<|Ac rfl<|Aa ?_
 have k5:=Tt g1 (Tt X3 Y3)
 exact Q2 (G0,x0 + 1) _ _ ⟨rfl,rfl,rfl,rfl,rfl,rfl,rfl,rfl,trivial⟩ ⟨j3,(Tt W3 k5)⟩ h
 intro t6 j2 h
 try dsimp only at h
 refine BS rfl h (fun P2 h=>?_) (fun P2 h=>?_)
 refine Ao ?_
 obtain ⟨k3,Z3⟩:=AD s1 (.one (.tl .hd) (.one (.tl .hd) (.one (.tl .hd) (.one (.tl .hd) (.one (.tl .hd) (.one (.tl .hd) (.one (.tl .hd) (.one (.tl .hd) .done))))))))
 exact j2 y0 _ _ ⟨rfl,rfl,rfl,rfl,rfl,rfl,rfl,rfl,trivial⟩ ⟨k3,Z3⟩ h
 refine Aw<|Ac rfl ?_
 obtain ⟨G5,v5,h⟩:=bi h
 refine Ab (BT (i:=y0) (j:=1) rfl rfl v5)<|Ag rfl<|Aa ?_
 obtain ⟨p3,b4⟩:=AD s1 (.one (.tl .hd) (.one (.tl .hd) (.one (.tl .hd) (.one (.tl .hd) (.one (.tl .hd) (.one (.tl .hd) (.one (.tl .hd) (.one (.tl .hd) .done))))))))
 exact j2 G5 _ _ ⟨rfl,rfl,rfl,rfl,rfl,rfl,rfl,rfl,trivial⟩ ⟨p3,b4⟩ h
 refine Bd rfl ?_
 have h:=H4 _ h
 try dsimp only at h
 refine Ae<|Ac rfl<|AH 0 rfl<|AS rfl ((p0.memA (.tl .hd)) 0 _ rfl)<|Ab (BO (i:=y0) (j:=a0.fN) rfl rfl) ?_
 obtain ⟨Z5,x2,h⟩:=bi h
 rcases Z5 with I0 | H8
 have h:=exc_e h
 try dsimp only at h
 refine RG.callE (fst:=[]) (cap:=[]) .plain body96 rfl (e2 rfl rfl) (fun w9 hw9=>judge_fail_c n _ w9 (p0.hL0 hL hw9) (!(decide (y0 = a0.fN))) (5:Int) x2) (fun g8 s4=>?_)
 obtain ⟨q3,Y6⟩:=p0.agr s4
 refine BU R0 Tryz.func74<|BU Q0 Tryz.func73<|PN.callD (vs:=[]) (cap:=[vP c0,vP b0]) body93 Tryz.func93 rfl rfl rfl (fun x6 C4 K4=>?_)
 refine Ae<|RG.recover1 .plain C4 rfl<|Ag rfl<|Aa<|Ae<|Ac rfl<|Ab (FV.neqI Tryz.underlying20 rfl rfl)<|Aa<|AY rfl<|Ae<|Ac rfl<|Ab (FV.assertT (by kernel_rfl) rfl)<|Ac rfl<|Ab (Au rfl rfl)<|Ab (Au rfl rfl)<|Az .plain rfl (AX [vI 0] q3) (fun j8 H2 s3 Z6=>?_)
 refine Bk [vI I0.fErrno] s3 .hd (o1 rfl) (fun K5 u1 b7=>?_)
 refine Ag rfl<|Aa<|Ak<|Ae<|Ac rfl<|Ab (Ba rfl)<|Aa<|BC rfl<|Ao<|Ae<|Ag rfl<|Aa<|Bm 3 tb93_6 (by kernel_rfl) (by kernel_rfl) (by kernel_rfl) (fun A0 J1=>?_)
 refine Ah 0 1 A0 rfl J1 (fun _=>Ai rfl) rfl<|Ah 1 3 A0 rfl J1 (fun _=>Bt 0 rfl) rfl<|RD.meet (α:=Unit) (fun ()=>[(1,vP b0),(19,vI I0.fErrno)]) (fun () W1=>St w W1 [.cells b0 [vI 0] 54,.cells c0 [.pointer none] 126,.cells j0 [vI a3] 3,.cells g0 [v2_0] 43,.cells d0 [vI a1.fGroups,vI a1.fParties,vI a1.fLevels,v1_3] 41,.cells b5 [vI a0.fN,v0_1] 38]∧Tr K5 [.cells H2 [vI I0.fErrno] 150,.cells u0 [vI a1.fGroups,vI a1.fParties,vI a1.fLevels,v1_3] 41,.cells t0 [vI a0.fN,v0_1] 38,.cells b0 [vI 0] 54,.cells c0 [.pointer none] 126,.cells j0 [vI a3] 3,.cells g0 [v2_0] 43,.cells d0 [vI a1.fGroups,vI a1.fParties,vI a1.fLevels,v1_3] 41,.cells b5 [vI a0.fN,v0_1] 38] W1 [.cells b0 [vI 0] 54,.cells c0 [.pointer none] 126,.cells j0 [vI a3] 3,.cells g0 [v2_0] 43,.cells d0 [vI a1.fGroups,vI a1.fParties,vI a1.fLevels,v1_3] 41,.cells b5 [vI a0.fN,v0_1] 38]) 1 15 ?_ ?_
 rintro ⟨⟩ W1 ⟨u3,g7⟩
 try dsimp only
 refine RD.nw 4 31 A0 rfl rfl .plain (Bq (news:=[vI I0.fErrno]) u3 .hd rfl rfl rfl rfl rfl rfl (o1 rfl)) (fun p8 v1 j7=>?_)
 refine Bc (doneD_ok A0 (by kernel_rfl))<|MX.fin rfl<|RT.leaveD1 K4 Tryz.func93 rfl .nil<|Ay (u:=.tuple #[.pointer none,vI I0.fErrno]) E0 Tryz.func72 rfl (.cons (.one (by kernel_rfl) rfl ((v1.memA (.tl .hd)) 0 _ rfl)) (.cons (.one (by kernel_rfl) rfl ((v1.memA .hd) 0 _ rfl)) .nil)) rfl<|Ac rfl<|Ab (Au rfl rfl)<|Ab (Au rfl rfl)<|Ag rfl<|Ag rfl<|Aa<|Ae<|Ac rfl<|Ag rfl<|Aa<|Am rfl<|AJ hb0 Tryz.func47 rfl rfl ?_
 cases h
 exact v1.gv
 intro k2
 refine Bv [2,3] (readyD_ok A0 (by kernel_rfl)) ⟨?_,?_,trivial⟩
 refine BW (m' :=7) (stepC_ok A0 (by kernel_rfl)) rfl .plain rfl (AA rfl ((u1.memA .hd) 0 _ rfl))<|RD.nw 3 15 A0 rfl rfl .plain (Bq (news:=[.pointer none]) u1 (.tl (.tl (.tl (.tl .hd)))) rfl rfl rfl rfl rfl rfl (o1 rfl)) (fun M5 W0 E1=>?_)
 obtain ⟨v3,c4⟩:=AD W0 (.one (.tl (.tl (.tl .hd))) (.one (.tl (.tl (.tl .hd))) (.one (.tl (.tl (.tl .hd))) (.one (.tl (.tl (.tl .hd))) (.one (.tl (.tl (.tl .hd))) (.one (.tl (.tl (.tl .hd))) .done))))))
 exact k2 () _ _ ⟨rfl,rfl,trivial⟩ ⟨v3,(Tt E1 c4)⟩
 refine RO.now (m' :=11) (stepC_ok A0 (by kernel_rfl)) rfl rfl .plain (Bq (news:=[.pointer none]) u1 (.tl (.tl (.tl (.tl .hd)))) rfl rfl rfl rfl rfl rfl (o1 rfl)) (fun M5 W0 E1=>?_)
 refine AT 2 15 16 A0 rfl J1 (AA rfl ((W0.memA .hd) 0 _ rfl)) rfl ?_
 obtain ⟨x3,d4⟩:=AD W0 (.one (.tl (.tl (.tl .hd))) (.one (.tl (.tl (.tl .hd))) (.one (.tl (.tl (.tl .hd))) (.one (.tl (.tl (.tl .hd))) (.one (.tl (.tl (.tl .hd))) (.one (.tl (.tl (.tl .hd))) .done))))))
 exact k2 () _ _ ⟨rfl,rfl,trivial⟩ ⟨x3,(Tt E1 d4)⟩
 have h:=exc_o h
 try dsimp only at h
 refine BE (.tuple #[]) body96 rfl (e2 rfl rfl) (fun w9 hw9=>BX (judge_fail_c n _ w9 (p0.hL0 hL hw9) (!(decide (y0 = a0.fN))) (5:Int) x2)) rfl<|Aa<|Ae<|Ab (AG rfl (p0.memA (.tl .hd)))<|Ac rfl<|Ac rfl ?_
 obtain ⟨b2,D5,h⟩:=bi h
 refine BE (vI b2) body97 rfl (e3 rfl rfl rfl) (fun w9 hw9=>plan_Check_c n _ w9 (p0.hL0 hL hw9) a0 (p0.k0 h0_1 hw9) a2 (p0.k0 h2_0 hw9) a3 D5) rfl ?_
 obtain ⟨b6,y2,h⟩:=bi h
 rcases b6 with J0 | I8
 have h:=exc_e h
 try dsimp only at h
 refine RG.callE (fst:=[]) (cap:=[]) .plain body94 rfl (e1 rfl) (fun w9 hw9=>judge_need_c n _ w9 (p0.hL0 hL hw9) b2 y2) (fun q8 t4=>?_)
 obtain ⟨y3,k7⟩:=p0.agr t4
 refine BU R0 Tryz.func74<|BU Q0 Tryz.func73<|PN.callD (vs:=[]) (cap:=[vP c0,vP b0]) body93 Tryz.func93 rfl rfl rfl (fun y6 D4 M4=>?_)
 refine Ae<|RG.recover1 .plain D4 rfl<|Ag rfl<|Aa<|Ae<|Ac rfl<|Ab (FV.neqI Tryz.underlying20 rfl rfl)<|Aa<|AY rfl<|Ae<|Ac rfl<|Ab (FV.assertT (by kernel_rfl) rfl)<|Ac rfl<|Ab (Au rfl rfl)<|Ab (Au rfl rfl)<|Az .plain rfl (AX [vI 0] y3) (fun s8 I2 z3 p7=>?_)
 refine Bk [vI J0.fErrno] z3 .hd (o1 rfl) (fun P5 x1 q7=>?_)
 refine Ag rfl<|Aa<|Ak<|Ae<|Ac rfl<|Ab (Ba rfl)<|Aa<|BC rfl<|Ao<|Ae<|Ag rfl<|Aa<|Bm 3 tb93_6 (by kernel_rfl) (by kernel_rfl) (by kernel_rfl) (fun B0 K1=>?_)
 refine Ah 0 1 B0 rfl K1 (fun _=>Ai rfl) rfl<|Ah 1 3 B0 rfl K1 (fun _=>Bt 0 rfl) rfl<|RD.meet (α:=Unit) (fun ()=>[(1,vP b0),(19,vI J0.fErrno)]) (fun () X1=>St w X1 [.cells b0 [vI 0] 54,.cells c0 [.pointer none] 126,.cells j0 [vI a3] 3,.cells g0 [v2_0] 43,.cells d0 [vI a1.fGroups,vI a1.fParties,vI a1.fLevels,v1_3] 41,.cells b5 [vI a0.fN,v0_1] 38]∧Tr P5 [.cells I2 [vI J0.fErrno] 150,.cells u0 [vI a1.fGroups,vI a1.fParties,vI a1.fLevels,v1_3] 41,.cells t0 [vI a0.fN,v0_1] 38,.cells b0 [vI 0] 54,.cells c0 [.pointer none] 126,.cells j0 [vI a3] 3,.cells g0 [v2_0] 43,.cells d0 [vI a1.fGroups,vI a1.fParties,vI a1.fLevels,v1_3] 41,.cells b5 [vI a0.fN,v0_1] 38] X1 [.cells b0 [vI 0] 54,.cells c0 [.pointer none] 126,.cells j0 [vI a3] 3,.cells g0 [v2_0] 43,.cells d0 [vI a1.fGroups,vI a1.fParties,vI a1.fLevels,v1_3] 41,.cells b5 [vI a0.fN,v0_1] 38]) 1 15 ?_ ?_
 rintro ⟨⟩ X1 ⟨B3,u7⟩
 try dsimp only
 refine RD.nw 4 31 B0 rfl rfl .plain (Bq (news:=[vI J0.fErrno]) B3 .hd rfl rfl rfl rfl rfl rfl (o1 rfl)) (fun u8 y1 v7=>?_)
 refine Bc (doneD_ok B0 (by kernel_rfl))<|MX.fin rfl<|RT.leaveD1 M4 Tryz.func93 rfl .nil<|Ay (u:=.tuple #[.pointer none,vI J0.fErrno]) E0 Tryz.func72 rfl (.cons (.one (by kernel_rfl) rfl ((y1.memA (.tl .hd)) 0 _ rfl)) (.cons (.one (by kernel_rfl) rfl ((y1.memA .hd) 0 _ rfl)) .nil)) rfl<|Ac rfl<|Ab (Au rfl rfl)<|Ab (Au rfl rfl)<|Ag rfl<|Ag rfl<|Aa<|Ae<|Ac rfl<|Ag rfl<|Aa<|Am rfl<|AJ hb0 Tryz.func47 rfl rfl ?_
 cases h
 exact y1.gv
 intro p2
 refine Bv [2,3] (readyD_ok B0 (by kernel_rfl)) ⟨?_,?_,trivial⟩
 refine BW (m' :=7) (stepC_ok B0 (by kernel_rfl)) rfl .plain rfl (AA rfl ((x1.memA .hd) 0 _ rfl))<|RD.nw 3 15 B0 rfl rfl .plain (Bq (news:=[.pointer none]) x1 (.tl (.tl (.tl (.tl .hd)))) rfl rfl rfl rfl rfl rfl (o1 rfl)) (fun Q5 X0 F1=>?_)
 obtain ⟨C3,g4⟩:=AD X0 (.one (.tl (.tl (.tl .hd))) (.one (.tl (.tl (.tl .hd))) (.one (.tl (.tl (.tl .hd))) (.one (.tl (.tl (.tl .hd))) (.one (.tl (.tl (.tl .hd))) (.one (.tl (.tl (.tl .hd))) .done))))))
 exact p2 () _ _ ⟨rfl,rfl,trivial⟩ ⟨C3,(Tt F1 g4)⟩
 refine RO.now (m' :=11) (stepC_ok B0 (by kernel_rfl)) rfl rfl .plain (Bq (news:=[.pointer none]) x1 (.tl (.tl (.tl (.tl .hd)))) rfl rfl rfl rfl rfl rfl (o1 rfl)) (fun Q5 X0 F1=>?_)
 refine AT 2 15 16 B0 rfl K1 (AA rfl ((X0.memA .hd) 0 _ rfl)) rfl ?_
 obtain ⟨D3,j4⟩:=AD X0 (.one (.tl (.tl (.tl .hd))) (.one (.tl (.tl (.tl .hd))) (.one (.tl (.tl (.tl .hd))) (.one (.tl (.tl (.tl .hd))) (.one (.tl (.tl (.tl .hd))) (.one (.tl (.tl (.tl .hd))) .done))))))
 exact p2 () _ _ ⟨rfl,rfl,trivial⟩ ⟨D3,(Tt F1 j4)⟩
 have h:=exc_o h
 try dsimp only at h
 refine BE (.tuple #[]) body94 rfl (e1 rfl) (fun w9 hw9=>BX (judge_need_c n _ w9 (p0.hL0 hL hw9) b2 y2)) rfl<|Aa<|Ak<|Bm 14 tb74_12 (by kernel_rfl) (by kernel_rfl) (by kernel_rfl) (fun q0 v0=>?_)
 refine AT 0 1 14336 q0 rfl v0 (AG rfl (p0.memA (.tl .hd))) rfl<|AT 1 3 14336 q0 rfl v0 (AG rfl (p0.memA .hd)) rfl<|Ah 2 7 q0 rfl v0 (fun _=>Ai rfl) rfl<|Ah 3 15 q0 rfl v0 (fun _=>Ai rfl) rfl<|AT 4 31 16256 q0 rfl v0 (AG rfl (p0.memA .hd)) rfl<|Ah 5 63 q0 rfl v0 (fun _=>Ai rfl) rfl<|Ah 6 127 q0 rfl v0 (fun _=>Ai rfl) rfl ?_
 obtain ⟨j1,F5,h⟩:=bi h
 refine RD.cl 7 255 q0 rfl .plain body24 rfl (e3 rfl rfl rfl) (fun w9 hw9=>balance_Totals_c n _ w9 (p0.hL hL hw9) a1 (p0.km h1_3 hw9) a2 (p0.km h2_0 hw9) a3 F5) rfl (fun v8 U7 u4 ⟨Q7,hu_,u2⟩=>?_)
 subst hu_
 obtain ⟨Y0,x7⟩:=p0.agr u4
 refine Ah 8 511 q0 rfl v0 (fun _=>Au rfl rfl) rfl<|Ah 9 1023 q0 rfl v0 (fun _=>Au rfl rfl) rfl ?_
 obtain ⟨c6,z2,h⟩:=bi h
 rcases c6 with K0 | J8
 have h:=exc_e h
 try dsimp only at h
 refine BD (i:=10) (readyD_ok q0 (by kernel_rfl)) (RO.callE (fst:=[]) (cap:=[]) rfl .plain body98 rfl (e2 rfl rfl) (fun w9 hw9=>judge_must_int_c n _ w9 (Y0.hL hL hw9) j1.1 (Av u2 hw9) j1.2 z2) (fun x8 v4=>?_))
 obtain ⟨E3,y7⟩:=Y0.agr v4
 refine BU R0 Tryz.func74<|BU Q0 Tryz.func73<|PN.callD (vs:=[]) (cap:=[vP c0,vP b0]) body93 Tryz.func93 rfl rfl rfl (fun z6 E4 P4=>?_)
 refine Ae<|RG.recover1 .plain E4 rfl<|Ag rfl<|Aa<|Ae<|Ac rfl<|Ab (FV.neqI Tryz.underlying20 rfl rfl)<|Aa<|AY rfl<|Ae<|Ac rfl<|Ab (FV.assertT (by kernel_rfl) rfl)<|Ac rfl<|Ab (Au rfl rfl)<|Ab (Au rfl rfl)<|Az .plain rfl (AX [vI 0] E3) (fun y8 J2 F3 z7=>?_)
 refine Bk [vI K0.fErrno] F3 .hd (o1 rfl) (fun U5 z1 A7=>?_)
 refine Ag rfl<|Aa<|Ak<|Ae<|Ac rfl<|Ab (Ba rfl)<|Aa<|BC rfl<|Ao<|Ae<|Ag rfl<|Aa<|Bm 3 tb93_6 (by kernel_rfl) (by kernel_rfl) (by kernel_rfl) (fun C0 M1=>?_)
 refine Ah 0 1 C0 rfl M1 (fun _=>Ai rfl) rfl<|Ah 1 3 C0 rfl M1 (fun _=>Bt 0 rfl) rfl<|RD.meet (α:=Unit) (fun ()=>[(1,vP b0),(19,vI K0.fErrno)]) (fun () Y1=>St w Y1 [.cells b0 [vI 0] 54,.cells c0 [.pointer none] 126,.cells j0 [vI a3] 3,.cells g0 [v2_0] 43,.cells d0 [vI a1.fGroups,vI a1.fParties,vI a1.fLevels,v1_3] 41,.cells b5 [vI a0.fN,v0_1] 38]∧Tr U5 [.cells J2 [vI K0.fErrno] 150,.cells u0 [vI a1.fGroups,vI a1.fParties,vI a1.fLevels,v1_3] 41,.cells t0 [vI a0.fN,v0_1] 38,.cells b0 [vI 0] 54,.cells c0 [.pointer none] 126,.cells j0 [vI a3] 3,.cells g0 [v2_0] 43,.cells d0 [vI a1.fGroups,vI a1.fParties,vI a1.fLevels,v1_3] 41,.cells b5 [vI a0.fN,v0_1] 38] Y1 [.cells b0 [vI 0] 54,.cells c0 [.pointer none] 126,.cells j0 [vI a3] 3,.cells g0 [v2_0] 43,.cells d0 [vI a1.fGroups,vI a1.fParties,vI a1.fLevels,v1_3] 41,.cells b5 [vI a0.fN,v0_1] 38]) 1 15 ?_ ?_
 rintro ⟨⟩ Y1 ⟨H3,C7⟩
 try dsimp only
 refine RD.nw 4 31 C0 rfl rfl .plain (Bq (news:=[vI K0.fErrno]) H3 .hd rfl rfl rfl rfl rfl rfl (o1 rfl)) (fun B8 A1 D7=>?_)
 refine Bc (doneD_ok C0 (by kernel_rfl))<|MX.fin rfl<|RT.leaveD1 P4 Tryz.func93 rfl .nil<|Ay (u:=.tuple #[.pointer none,vI K0.fErrno]) E0 Tryz.func72 rfl (.cons (.one (by kernel_rfl) rfl ((A1.memA (.tl .hd)) 0 _ rfl)) (.cons (.one (by kernel_rfl) rfl ((A1.memA .hd) 0 _ rfl)) .nil)) rfl<|Ac rfl<|Ab (Au rfl rfl)<|Ab (Au rfl rfl)<|Ag rfl<|Ag rfl<|Aa<|Ae<|Ac rfl<|Ag rfl<|Aa<|Am rfl<|AJ hb0 Tryz.func47 rfl rfl ?_
 cases h
 exact A1.gv
 intro q2
 refine Bv [2,3] (readyD_ok C0 (by kernel_rfl)) ⟨?_,?_,trivial⟩
 refine BW (m' :=7) (stepC_ok C0 (by kernel_rfl)) rfl .plain rfl (AA rfl ((z1.memA .hd) 0 _ rfl))<|RD.nw 3 15 C0 rfl rfl .plain (Bq (news:=[.pointer none]) z1 (.tl (.tl (.tl (.tl .hd)))) rfl rfl rfl rfl rfl rfl (o1 rfl)) (fun V5 Z0 G1=>?_)
 obtain ⟨I3,k4⟩:=AD Z0 (.one (.tl (.tl (.tl .hd))) (.one (.tl (.tl (.tl .hd))) (.one (.tl (.tl (.tl .hd))) (.one (.tl (.tl (.tl .hd))) (.one (.tl (.tl (.tl .hd))) (.one (.tl (.tl (.tl .hd))) .done))))))
 exact q2 () _ _ ⟨rfl,rfl,trivial⟩ ⟨I3,(Tt G1 k4)⟩
 refine RO.now (m' :=11) (stepC_ok C0 (by kernel_rfl)) rfl rfl .plain (Bq (news:=[.pointer none]) z1 (.tl (.tl (.tl (.tl .hd)))) rfl rfl rfl rfl rfl rfl (o1 rfl)) (fun V5 Z0 G1=>?_)
 refine AT 2 15 16 C0 rfl M1 (AA rfl ((Z0.memA .hd) 0 _ rfl)) rfl ?_
 obtain ⟨J3,p4⟩:=AD Z0 (.one (.tl (.tl (.tl .hd))) (.one (.tl (.tl (.tl .hd))) (.one (.tl (.tl (.tl .hd))) (.one (.tl (.tl (.tl .hd))) (.one (.tl (.tl (.tl .hd))) (.one (.tl (.tl (.tl .hd))) .done))))))
 exact q2 () _ _ ⟨rfl,rfl,trivial⟩ ⟨J3,(Tt G1 p4)⟩
 have h:=exc_o h
 try dsimp only at h
 refine RD.cl 10 2047 q0 rfl .plain body98 rfl (e2 rfl rfl) (fun w9 hw9=>BX (judge_must_int_c n _ w9 (Y0.hL hL hw9) j1.1 (Av u2 hw9) j1.2 z2)) rfl (fun C8 E2 y4 ⟨R7,hu_,u5⟩=>?_)
 subst hu_
 obtain ⟨b1,E7⟩:=Y0.agr y4
 have c5:=Ax h0_1 b1
 obtain ⟨j6,B6,x5,_⟩:=BQ c5
 have d5:=Ax h1_3 b1
 obtain ⟨k6,C6,y5,_⟩:=BQ d5
 have g5:=Ax h2_0 b1
 obtain ⟨p6,D6,z5,_⟩:=BQ g5
 obtain ⟨q6,E6,A5,_⟩:=BQ u5
 refine Ah 11 4095 q0 rfl v0 (fun _=>AV (vs:=[.agg #[vI a0.fN,v0_1],.agg #[vI a1.fGroups,vI a1.fParties,vI a1.fLevels,v1_3],v2_0,vI a3,E2]) (u:=.agg #[vI a0.fN,v0_1,vI a1.fGroups,vI a1.fParties,vI a1.fLevels,v1_3,v2_0,vI a3,E2]) (e5 rfl rfl rfl rfl rfl) (fun w9=>by rw [x5,y5,z5,A5]; try kernel_rfl)) rfl<|RD.nu 12 8191 q0 rfl .plain rfl (AI b1 rfl rfl) (fun D8 U0 M3 F7=>?_)
 refine Ah 13 16383 q0 rfl v0 (fun _=>BP rfl) rfl<|Bc (doneD_ok q0 (by kernel_rfl))<|Am rfl<|Ay (u:=vP U0) A4 Tryz.func74 rfl (.cons (.tmp rfl) .nil) rfl<|Ag rfl<|Aa<|Am rfl<|Ay (u:=vP U0) z4 Tryz.func73 rfl (.cons (.tmp rfl) .nil) rfl<|Bk [vP U0] M3 (.tl (.tl (.tl (.tl .hd)))) (o1 rfl) (fun E8 P3 G7=>?_)
 refine Bk [vI 0] P3 (.tl (.tl (.tl .hd))) (o1 rfl) (fun F8 B1 H7=>?_)
 refine Aa<|Am rfl<|RT.callD (vs:=[]) (cap:=[vP c0,vP b0]) body93 Tryz.func93 rfl rfl rfl (fun F6 s2 R4=>?_)
 refine Ae<|RG.recover0 .plain s2 rfl<|Ag rfl<|Aa<|Ae<|Ac rfl<|Ab (FV.neqI0 Tryz.underlying20 rfl rfl)<|Aa<|BC rfl<|Ao<|MX.fin rfl<|RT.leaveD0 s2 R4 Tryz.func93 rfl .nil<|Ay (u:=.tuple #[vP U0,vI 0]) E0 Tryz.func72 rfl (.cons (.one (by kernel_rfl) rfl ((B1.memA (.tl (.tl (.tl (.tl .hd))))) 0 _ rfl)) (.cons (.one (by kernel_rfl) rfl ((B1.memA (.tl (.tl (.tl .hd)))) 0 _ rfl)) .nil)) rfl<|Ac rfl<|Ab (Au rfl rfl)<|Ab (Au rfl rfl)<|Ag rfl<|Ag rfl<|Aa<|Ae<|Ac rfl<|Ag rfl<|Aa<|Am rfl ?_
 refine AJ hb0 Tryz.func47 rfl rfl ?_
 cases h
 exact B1.gv
structure TMove where
  fUnit:Int
  fFrom:Int
  fTo:Int
  deriving DecidableEq
instance:Rep TMove:=Rep.via (β:=Int × Int × Int) fun x=>(x.fUnit,x.fFrom,x.fTo)
def edit_Check_1_p (_n:Nat) (a0:TMove):Option TMove:=
  some a0
theorem edit_Check_1_c (n:Nat) (L:List Nat) (w:World) (_hL:∀ b ∈ L,b < w.heap.size) (a0:TMove)  {r:TMove} (h:edit_Check_1_p n a0 = some r) :
    Calls Tryz.prog 48 #[.agg #[vI a0.fUnit,vI a0.fFrom,vI a0.fTo]] w (Gives w fun _ u=>u = .agg #[vI r.fUnit,vI r.fFrom,vI r.fTo]):=by
 unfold edit_Check_1_p at h
 have hS0:=AK w
 refine AM Tryz.func48 rfl rfl rfl (fun _ cs0 hb0=>?_)
 refine Ae<|Az .plain rfl (AI hS0 rfl rfl) (fun w2 b5 hS3 hT4=>?_)
 refine Az .plain rfl (AX [vI 0,vI 0,vI 0] hS3) (fun w7 c0 hS8 hT9=>?_)
 refine Aa<|Ae<|Ab (AG rfl (hS8.memA (.tl .hd)))<|Bk [vI a0.fUnit,vI a0.fFrom,vI a0.fTo] hS8 .hd (onesB rfl) (fun g0 b0 d0=>?_)
 refine Aa<|Am rfl<|Ay hb0 Tryz.func48 rfl (.cons (.many (cs:=[vI a0.fUnit,vI a0.fFrom,vI a0.fTo]) (by kernel_rfl) rfl (b0.memA .hd)) .nil) rfl ?_
 cases h
 exact b0.gv
theorem el43:ElT Tryz.prog 43 3 (Rep.size Int) 8 (vI 0) [vI 0]:=⟨Tryz.underlying43,by kernel_rfl,rfl,rfl,rfl,rfl⟩
def slices_Clone_api_Plan_int_p (_n:Nat) (a0:List Int):Option (List Int):=
  nilCase a0 (some ([]:List Int)) ((app ([]:List Int) a0).bind fun b0=>some b0)
theorem slices_Clone_api_Plan_int_c (n:Nat) (L:List Nat) (w:World) (_hL:∀ b ∈ L,b < w.heap.size) (a0:List Int) {v0_0:Value} (h0_0:Rep.R w L [v0_0] a0)  {r:List Int} (h:slices_Clone_api_Plan_int_p n a0 = some r) :
    Calls Tryz.prog 91 #[v0_0] w (Gives w fun w' u=>∃ (v0_0:Value) (cs0_0:List Value),u = v0_0∧St w w' (rowsOf w.heap.size [(3,Rep.size Int,v0_0,r.length,cs0_0)])∧Cells w' (bl (rowsOf w.heap.size [(3,Rep.size Int,v0_0,r.length,cs0_0)]) ++ L) cs0_0 (r:List Int)):=by
 unfold slices_Clone_api_Plan_int_p at h
 have hS0:=AK w
 refine AM Tryz.func91 rfl rfl rfl (fun _ cs0 hb0=>?_)
 refine Ae<|Ag rfl<|Aa<|Ak<|Ae<|Ac rfl ?_
 rcases Rep.nilOr h0_0 with ⟨c1,he3,hx4⟩ | ⟨ad2,c1,he3⟩
 have h:=nilCase_n h hx4
 refine Ab (FV.eqlNil1 Tryz.underlying43 rfl he3 rfl)<|Aa<|AY rfl<|Ae<|Ag rfl<|Aa<|Am rfl ?_
 have hS6:=hS0.nilRow 3 (Rep.size Int)
 have hT7:=St.nilRowT hS0 3 (Rep.size Int)
 have hc8:=Ar (cs:=[]) (xs:=([]:List Int)) hS6 L (AC _ _)
 refine Ay (u:=vN) hb0 Tryz.func91 rfl (.cons (.tmp rfl) .nil) rfl ?_
 cases h
 exact ⟨hS6.ag,fun w9 hw9=>⟨vN,[],rfl,hS6.agree hw9,Cells.keep0 hc8 hw9⟩⟩
 have h:=nilCase_s h
 refine Ab (FV.eqlNil0 Tryz.underlying43 rfl he3 rfl)<|Aa<|BC rfl<|Ao<|Ae<|Az .plain rfl (AE (α:=Int) (xs:=([]:List Int)) (vs:=[]) (ds' :=[]) rfl hS0 el43 rfl evs_nil (by kernel_rfl) rfl) (fun v0 s0 b0 t0=>?_)
 have j0:=Ar (cs:=[]) (xs:=(([]:List Int):List Int)) b0 L (AC _ _)
 refine Ac rfl ?_
 obtain ⟨y0,q0,h⟩:=bi h
 have p0:=Ax h0_0 b0
 refine RG.doesL .plain rfl (AR (α:=Int) (ys:=a0) q0 b0 (fun _ _=>.hd) el43 rfl rfl j0 (Bw p0)) (fun d0 x0 ⟨g0,c0,u0,k0⟩=>?_)
 refine Ag rfl<|Aa<|Am rfl<|Ay (u:=d0) hb0 Tryz.func91 rfl (.cons (.tmp rfl) .nil) rfl ?_
 cases h
 exact ⟨c0.ag,fun w9 hw9=>⟨d0,g0,rfl,c0.agree hw9,Cells.keep0 k0 hw9⟩⟩
def slices_Index_api_Plan_int_l1 (_n:Nat) (a0:List Int) (a1:Int) (c0:Nat → Option (Int ⊕ Unit)):Nat → Option (Int ⊕ Unit)
  | b0=>(if b0 < a0.length then (a0[b0]?).bind fun d0=>(if a1 = d0 then some (.inl ((b0:Nat):Int)) else c0 (b0 + 1)) else some (.inr ()))
def slices_Index_api_Plan_int_p (n:Nat) (a0:List Int) (a1:Int):Option Int:=
  thn (loopF (slices_Index_api_Plan_int_l1 n a0 a1) n 0) (fun _=>some (-1:Int))
theorem slices_Index_api_Plan_int_c (n:Nat) (L:List Nat) (w:World) (_hL:∀ b ∈ L,b < w.heap.size) (a0:List Int) {v0_0:Value} (h0_0:Rep.R w L [v0_0] a0) (a1:Int)  {r:Int} (h:slices_Index_api_Plan_int_p n a0 a1 = some r) :
    Calls Tryz.prog 117 #[v0_0,vI a1] w (Gives w fun _ u=>u = vI r):=by
 unfold slices_Index_api_Plan_int_p at h
 have hS0:=AK w
 refine AM Tryz.func117 rfl rfl rfl (fun _ cs0 hb0=>?_)
 refine Ae<|Ag rfl<|Aa<|Ak<|Ae<|Ac rfl ?_
 have hl1:a0.length ≤ 281474976710656:=AZ h0_0
 refine Ab (Bj (xs:=a0) Tryz.underlying43 rfl h0_0)<|Ac rfl<|Aa<|AB ?_
 obtain ⟨G0,A0,g0⟩:=thn_in h
 refine Bp (α:=Nat) (fun b0=>[(0,v0_0),(1,vI a1),(7,vI ((a0.length:Nat):Int)),(8,vI ((b0:Nat):Int))]) (fun b0 d0=>St w d0 []∧Tr w [] d0 []) (fun b0=>b0) 0 A0 ⟨rfl,rfl,rfl,rfl,trivial⟩ ⟨hS0,AN _ _⟩ ?_
 rintro E0 b0 d0 s0 ⟨c0,t0⟩ h
 unfold slices_Index_api_Plan_int_l1 at h
 try dsimp only at h
 refine Ae<|Ab (BA (i:=b0) (j:=a0.length) rfl rfl)<|Aa<|Ak<|AW rfl h (fun k0 h=>?_) (fun k0 h=>?_)
 refine Ao<|Ak<|AB<|Ae<|Ac rfl<|Ag rfl<|Aa<|Ae<|Ac rfl<|Ac rfl<|Ac rfl ?_
 obtain ⟨j0,C0,h⟩:=bi h
 have z0:=Ax h0_0 c0
 obtain ⟨D0,F0,u0,x0,q0,B0,y0⟩:=Bb z0 C0
 have v0:q0 = [vI j0]:=B0; subst v0
 refine Ab (Be 1 b0 rfl u0 rfl rfl x0)<|AS rfl (y0 0 _ rfl)<|Ab (FV.eql (i:=a1) (j:=j0) rfl rfl)<|Aa<|AW rfl h (fun p0 h=>?_) (fun p0 h=>?_)
 refine Ae<|Ac rfl<|Ag rfl<|Aa ?_
 have h:=thn_inl h g0
 refine Am rfl<|AJ hb0 Tryz.func117 rfl rfl ?_
 cases h
 exact c0.gv
 refine Ao<|AF<|Aw<|Ab (Bu (i:=b0) (j:=1) rfl rfl (by omega))<|Ac rfl<|Aa ?_
 exact s0 (b0 + 1) _ _ ⟨rfl,rfl,rfl,rfl,trivial⟩ ⟨c0,t0⟩ h
 refine Bd rfl ?_
 have h:=thn_inr h g0
 try dsimp only at h
 refine Ae<|Ag rfl<|Aa<|Am rfl<|AJ hb0 Tryz.func117 rfl rfl ?_
 cases h
 exact c0.gv
theorem body117:bodyB Tryz.prog 117 = true:=by kernel_rfl
def slices_Contains_api_Plan_int_p (n:Nat) (a0:List Int) (a1:Int):Option Bool:=
  (slices_Index_api_Plan_int_p n a0 a1).bind fun y1=>some (decide (0 ≤ y1))
theorem slices_Contains_api_Plan_int_c (n:Nat) (L:List Nat) (w:World) (hL:∀ b ∈ L,b < w.heap.size) (a0:List Int) {v0_0:Value} (h0_0:Rep.R w L [v0_0] a0) (a1:Int)  {r:Bool} (h:slices_Contains_api_Plan_int_p n a0 a1 = some r) :
    Calls Tryz.prog 92 #[v0_0,vI a1] w (Gives w fun _ u=>u = .bool r):=by
 unfold slices_Contains_api_Plan_int_p at h
 have hS0:=AK w
 refine AM Tryz.func92 rfl rfl rfl (fun _ cs0 hb0=>?_)
 refine Ae<|Ag rfl<|Aa<|Ae<|Ac rfl<|Ac rfl ?_
 obtain ⟨y1,hy1,h⟩:=bi h
 refine BE (vI y1) body117 rfl (e2 rfl rfl) (fun w9 hw9=>slices_Index_api_Plan_int_c n _ w9 (hS0.hL0 hL hw9) a0 (hS0.kd h0_0 hw9) a1 hy1) rfl<|Ab (FV.geq (i:=y1) (j:=0) rfl rfl)<|Ag rfl<|Aa<|Am rfl<|AJ hb0 Tryz.func92 rfl rfl ?_
 cases h
 exact hS0.gv
structure TSession where
  fK:Int
  fPlan:List Int
  fTotals:List Int
  fDone:List TMove
  fUndone:List TMove
  deriving DecidableEq
instance:Rep TSession:=Rep.via (β:=Int × (List Int) × (List Int) × (List TMove) × (List TMove)) fun x=>(x.fK,x.fPlan,x.fTotals,x.fDone,x.fUndone)
structure Twork where
  fSession:TSession
  deriving DecidableEq
instance:Rep Twork:=Rep.via (β:=TSession) fun x=>x.fSession
theorem body91:bodyB Tryz.prog 91 = true:=by kernel_rfl
theorem body92:bodyB Tryz.prog 92 = true:=by kernel_rfl
def edit_turned_p (_n:Nat) (a0:TMove):Option TMove:=
  some (⟨a0.fUnit,a0.fTo,a0.fFrom⟩:TMove)
theorem edit_turned_c (n:Nat) (L:List Nat) (w:World) (_hL:∀ b ∈ L,b < w.heap.size) (a0:TMove)  {r:TMove} (h:edit_turned_p n a0 = some r) :
    Calls Tryz.prog 50 #[.agg #[vI a0.fUnit,vI a0.fFrom,vI a0.fTo]] w (Gives w fun _ u=>u = .agg #[vI r.fUnit,vI r.fFrom,vI r.fTo]):=by
 unfold edit_turned_p at h
 have hS0:=AK w
 refine AM Tryz.func50 rfl rfl rfl (fun _ cs0 hb0=>?_)
 refine Ae<|Az .plain rfl (AI hS0 rfl rfl) (fun w2 b5 hS3 hT4=>?_)
 refine Az .plain rfl (AX [vI 0,vI 0,vI 0] hS3) (fun w7 c0 hS8 hT9=>?_)
 refine Aa<|Ae<|AH 0 rfl<|AS rfl ((hS8.memA (.tl .hd)) 0 _ rfl)<|AH 2 rfl<|AS rfl ((hS8.memA (.tl .hd)) 2 _ rfl)<|AH 1 rfl<|AS rfl ((hS8.memA (.tl .hd)) 1 _ rfl)<|Ab (AV (vs:=[vI a0.fUnit,vI a0.fTo,vI a0.fFrom]) (u:=.agg #[vI a0.fUnit,vI a0.fTo,vI a0.fFrom]) (e3 rfl rfl rfl) (fun w9=>by kernel_rfl))<|Bk [vI a0.fUnit,vI a0.fTo,vI a0.fFrom] hS8 .hd (onesB rfl) (fun g0 b0 d0=>?_)
 refine Aa<|Am rfl<|Ay hb0 Tryz.func50 rfl (.cons (.many (cs:=[vI a0.fUnit,vI a0.fTo,vI a0.fFrom]) (by kernel_rfl) rfl (b0.memA .hd)) .nil) rfl ?_
 cases h
 exact b0.gv
end Go.Proofs.YtcijnmkodpfpgaaGreatDoor
