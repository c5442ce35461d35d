/- Functions of the program, and what they give: part 7. -/
import Derived.Test.YtcijnmkodpfpgaaGreatDoorVF6
namespace Go.Proofs.YtcijnmkodpfpgaaGreatDoor
open Go Go.RowKit
set_option maxRecDepth 4000
set_option maxHeartbeats 4000000

def tb34_13 : List (Nat × Nat × Nat) := [(0, 2305843009213693952, 0), (0, 4611686018427387904, 32), (2, 9223372036854775808, 4611686018427387904), (5, 18446744073709551616, 11529215046068469760), (0, 36893488147419103232, 1024), (16, 73786976294838206464, 36893488147419103232), (40, 147573952589676412928, 92233720368547758080), (127, 295147905179352825856, 8192), (255, 0, 442721857769029238784)]
def wardmoteref26_Redo_p (n : Nat) (a0 : TGraph) (a1 : TRoll) (a2 : TSession) : Option (TSession × Int) :=
  (wardmoteref26_Check_p n a0 a1 a2).bind fun d0 => (if d0 = 0 then (if a2.fUndone.length = 0 then some ((⟨(0 : Int), ([] : List Int), ([] : List Int), ([] : List TMove), ([] : List TMove)⟩ : TSession), (4 : Int)) else (if a2.fDone.length = 200 then some ((⟨(0 : Int), ([] : List Int), ([] : List Int), ([] : List TMove), ([] : List TMove)⟩ : TSession), (3 : Int)) else (idx a2.fUndone (((a2.fUndone.length : Nat) : Int) - 1)).bind fun b0 => (wardmoteref26_put_p n a2.fPlan b0.fUnit b0.fFrom b0.fTo).bind fun p0 => (wardmoteref26_with_p n a1 a2 p0.1).bind fun c0 => (cut a2.fUndone 0 (((a2.fUndone.length : Nat) : Int) - 1)).bind fun k0 => (app ([] : List TMove) a2.fDone).bind fun g0 => (app g0 ([b0] : List TMove)).bind fun j0 => some ((⟨c0.fK, c0.fPlan, c0.fTotals, j0, k0⟩ : TSession), (0 : Int)))) else some ((⟨(0 : Int), ([] : List Int), ([] : List Int), ([] : List TMove), ([] : List TMove)⟩ : TSession), d0))
theorem wardmoteref26_Redo_c (n : Nat) (L : List Nat) (w : World) (hL : ∀ b ∈ L, b < w.heap.size) (a0 : TGraph) {v0_1 : Value} (h0_1 : Rep.R w L [v0_1] a0.fEdges) (a1 : TRoll) {v1_3 : Value} (h1_3 : Rep.R w L [v1_3] a1.fUnits) (a2 : TSession) {v2_1 : Value} (h2_1 : Rep.R w L [v2_1] a2.fPlan) {v2_2 : Value} (h2_2 : Rep.R w L [v2_2] a2.fTotals) {v2_3 : Value} (h2_3 : Rep.R w L [v2_3] a2.fDone) {v2_4 : Value} (h2_4 : Rep.R w L [v2_4] a2.fUndone)  {r : TSession × Int} (h : wardmoteref26_Redo_p n a0 a1 a2 = some r) :
    Calls Tryz.prog 34 #[.agg #[vI a0.fN, v0_1], .agg #[vI a1.fGroups, vI a1.fParties, vI a1.fLevels, v1_3], .agg #[vI a2.fK, v2_1, v2_2, v2_3, v2_4]] w (Gives w fun w' u => ∃ v0_1 v0_2 v0_3 v0_4 : Value, u = .tuple #[.agg #[vI r.1.fK, v0_1, v0_2, v0_3, v0_4], vI r.2] ∧ Rep.R w' L [v0_1] r.1.fPlan ∧ Rep.R w' L [v0_2] r.1.fTotals ∧ Rep.R w' L [v0_3] r.1.fDone ∧ Rep.R w' L [v0_4] r.1.fUndone) := by
 unfold wardmoteref26_Redo_p at h
 have hS0 := St.start w
 refine MX.start Tryz.func34 rfl rfl rfl (fun _ cs0 hb0 => ?_)
 refine MX.sr <| RG.new .plain rfl (Does.box hS0 rfl rfl) (fun w2 b5 hS3 hT4 => ?_)
 refine RG.new .plain rfl (Does.box hS3 rfl rfl) (fun w7 V2 hS8 hT9 => ?_)
 refine RG.new .plain rfl (Does.box hS8 rfl rfl) (fun Q6 W2 c3 z6 => ?_)
 refine RG.new .plain rfl (Does.al [vI 0, vN, vN, vN, vN] c3) (fun R6 v1 D0 A6 => ?_)
 refine RG.so rfl <| RG.nil <| MX.seq <| MX.sr <| RG.va (FV.lN rfl (D0.memA (.tl (.tl (.tl .hd))))) <| RG.va (FV.lN rfl (D0.memA (.tl (.tl .hd)))) <| RG.va (FV.lN rfl (D0.memA (.tl .hd))) ?_
 obtain ⟨U2, j6, h⟩ := bi h
 refine RG.cq (vI U2) body21 rfl (e3 rfl rfl rfl) (fun w9 hw9 => wardmoteref26_Check_c n _ w9 (D0.hL0 hL hw9) a0 (D0.k0 h0_1 hw9) a1 (D0.k0 h1_3 hw9) a2 (D0.k0 h2_1 hw9) (D0.k0 h2_2 hw9) (D0.k0 h2_3 hw9) (D0.k0 h2_4 hw9) j6) rfl <| RG.so rfl <| RG.nil <| MX.sr <| RG.mo rfl <| RG.va (FV.neq (i := U2) (j := 0) rfl rfl) <| RG.nil <| MX.ifn rfl h (fun Y2 h => ?_) (fun Y2 h => ?_)
 refine MX.skip <| MX.sr <| RG.fa 4 rfl <| RG.l1 rfl ((D0.memA (.tl .hd)) 4 _ rfl) ?_
 have k2 := Rep.mv0 h2_4 D0
 have I6 : a2.fUndone.length ≤ 281474976710656 := Rep.lenle k2
 refine RG.va (FV.len (xs := a2.fUndone) Tryz.underlying46 rfl k2) <| RG.so rfl <| RG.nil <| MX.seq <| MX.sr <| RG.mo rfl <| RG.va (FV.eqlN (i := a2.fUndone.length) (j := 0) rfl rfl) <| RG.nil <| MX.ifd rfl h (fun Z2 h => ?_) (fun Z2 h => ?_)
 refine MX.sr <| RG.va (FV.buildV (vs := []) (u := .agg #[vI 0, vN, vN, vN, vN]) evs_nil (fun w9 => by kernel_rfl)) <| RG.sa [vI 0, vN, vN, vN, vN] D0 .hd (onesB rfl) (fun Y6 Z0 C6 => ?_)
 refine RG.so rfl <| RG.nil <| MX.ret rfl ?_
 have K2 := Rep.nilAt (α := Int) Z0 L
 have M2 := Rep.nilAt (α := TMove) Z0 L
 refine RT.leave hb0 Tryz.func34 rfl (.cons (.many (cs := [vI 0, vN, vN, vN, vN]) (by kernel_rfl) rfl (Z0.memA .hd)) (.cons (.tmp rfl) .nil)) rfl ?_
 cases h
 exact ⟨Z0.ag, fun w9 hw9 => ⟨vN, vN, vN, vN, rfl, Z0.kd K2 hw9, Z0.kd K2 hw9, Z0.kd M2 hw9, Z0.kd M2 hw9⟩⟩
 refine MX.skip <| MX.seq <| MX.sr <| RG.fa 3 rfl <| RG.l1 rfl ((D0.memA (.tl .hd)) 3 _ rfl) ?_
 have C2 := Rep.mv0 h2_3 D0
 have J6 : a2.fDone.length ≤ 281474976710656 := Rep.lenle C2
 refine RG.va (FV.len (xs := a2.fDone) Tryz.underlying46 rfl C2) <| RG.va (FV.eqlN (i := a2.fDone.length) (j := 200) rfl rfl) <| RG.nil <| MX.ifd rfl h (fun b3 h => ?_) (fun b3 h => ?_)
 refine MX.sr <| RG.va (FV.buildV (vs := []) (u := .agg #[vI 0, vN, vN, vN, vN]) evs_nil (fun w9 => by kernel_rfl)) <| RG.sa [vI 0, vN, vN, vN, vN] D0 .hd (onesB rfl) (fun Z6 b1 D6 => ?_)
 refine RG.so rfl <| RG.nil <| MX.ret rfl ?_
 have P2 := Rep.nilAt (α := Int) b1 L
 have Q2 := Rep.nilAt (α := TMove) b1 L
 refine RT.leave hb0 Tryz.func34 rfl (.cons (.many (cs := [vI 0, vN, vN, vN, vN]) (by kernel_rfl) rfl (b1.memA .hd)) (.cons (.tmp rfl) .nil)) rfl ?_
 cases h
 exact ⟨b1.ag, fun w9 hw9 => ⟨vN, vN, vN, vN, rfl, b1.kd P2 hw9, b1.kd P2 hw9, b1.kd Q2 hw9, b1.kd Q2 hw9⟩⟩
 refine MX.skip <| MX.sr <| RG.fa 4 rfl <| RG.l1 rfl ((D0.memA (.tl .hd)) 4 _ rfl) <| RG.mo rfl <| RG.va (FV.subI (i := ((a2.fUndone.length : Nat) : Int)) (j := 1) rfl rfl (by omega)) ?_
 obtain ⟨b0, b6, h⟩ := bi h
 obtain ⟨V3, c6⟩ := idx_in b6
 obtain ⟨u6, v6, U3, W3, y6, W5, q5⟩ := Rep.nth k2 c6
 obtain rfl := op_TMove W5
 refine RG.va (FV.idxAddr (m := 3) (i := (((a2.fUndone.length : Nat) : Int) - 1).toNat) (by kernel_rfl) rfl U3 rfl V3 W3) <| RG.va (FV.lN rfl q5) <| RG.new .plain rfl (Does.al [vI 0, vI 0, vI 0] D0) (fun b7 X2 G3 E6 => ?_)
 refine RG.sa [vI b0.fUnit, vI b0.fFrom, vI b0.fTo] G3 .hd (onesB rfl) (fun c7 p1 F6 => ?_)
 refine RG.nil <| MX.sr <| RG.fa 1 rfl <| RG.l1 rfl ((p1.memA (.tl (.tl .hd))) 1 _ rfl) <| RG.fa 0 rfl <| RG.l1 rfl ((p1.memA .hd) 0 _ rfl) <| RG.fa 1 rfl <| RG.l1 rfl ((p1.memA .hd) 1 _ rfl) <| RG.fa 2 rfl <| RG.l1 rfl ((p1.memA .hd) 2 _ rfl) ?_
 obtain ⟨t6, k6, h⟩ := bi h
 refine RG.call' (fst := []) (cap := []) .plain body43 rfl (e4 rfl rfl rfl rfl) (fun w9 hw9 => wardmoteref26_put_c n _ w9 (p1.hL hL hw9) a2.fPlan (p1.km h2_1 hw9) b0.fUnit b0.fFrom b0.fTo k6) rfl (fun d7 M6 K3 ⟨K6, hu_, X5⟩ => ?_)
 subst hu_
 obtain ⟨W0, G6⟩ := p1.agr K3
 refine RG.mo rfl <| RG.va (FV.extract rfl rfl) <| RG.va (FV.extract rfl rfl) <| RG.so rfl <| RG.so rfl <| RG.nil <| MX.sr <| RG.va (FV.lN rfl (W0.memA (.tl (.tl (.tl .hd))))) <| RG.va (FV.lN rfl (W0.memA (.tl (.tl .hd)))) <| RG.mo rfl ?_
 obtain ⟨U0, p6, h⟩ := bi h
 refine RG.call' (fst := []) (cap := []) .plain body44 rfl (e3 rfl rfl rfl) (fun w9 hw9 => wardmoteref26_with_c n _ w9 (W0.hL hL hw9) a1 (W0.km h1_3 hw9) a2 (W0.km h2_1 hw9) (W0.km h2_2 hw9) (W0.km h2_3 hw9) (W0.km h2_4 hw9) t6.1 (Rep.keep0 X5 hw9) p6) rfl (fun g7 P6 M3 ⟨M0, P0, X0, R2, hu_, q2, s2, Y5, Z5⟩ => ?_)
 subst hu_
 obtain ⟨H3, H6⟩ := W0.agr M3
 refine RG.new .plain rfl (Does.al [vI 0, vN, vN, vN, vN] H3) (fun j7 x1 I3 z1 => ?_)
 have s5 := Rep.mv q2 z1
 have t5 := Rep.mv s2 z1
 have u5 := Rep.mv Y5 z1
 have v5 := Rep.mv Z5 z1
 refine RG.sa [vI U0.fK, M0, P0, X0, R2] I3 .hd (o5 rfl (Rep.o1 s5) (Rep.o1 t5) (Rep.o1 u5) (Rep.o1 v5)) (fun k7 H1 J3 => ?_)
 refine RG.nil <| MX.sr <| RG.fa 4 rfl <| RG.va (FV.l1 rfl ((H1.memA (.tl (.tl (.tl .hd)))) 4 _ rfl)) <| RG.mo rfl <| RG.va (FV.subI (i := ((a2.fUndone.length : Nat) : Int)) (j := 1) rfl rfl (by omega)) ?_
 obtain ⟨p7, g6, h⟩ := bi h
 have x5 := Rep.mv0 h2_4 H1
 refine RG.valE .plain rfl (FV.cutL (α := TMove) g6 (by kernel_rfl) rfl x5 rfl ⟨_, rfl⟩) (fun R0 C1 => ?_)
 refine RG.fa 4 rfl <| RG.now .plain (Acts.store (j := 4) (old := [vI U0.fK, M0, P0, X0, R2]) (news := [R0]) (new' := [vI U0.fK, M0, P0, X0, R0]) H1 .hd rfl rfl rfl (Rep.c1 C1) rfl rfl (o1 (Rep.o1 C1)) rfl) (fun q6 Q0 B2 => ?_)
 refine RG.nil <| MX.seq <| MX.drawT 3 tb34_13 (by kernel_rfl) (by kernel_rfl) (by kernel_rfl) (fun c0 D1 => ?_)
 refine RD.vw 1 2 c0 rfl D1 (fun _ => FV.fa 3 rfl) rfl ?_
 obtain ⟨B1, E0, h⟩ := bi h
 refine RD.meet (α := Value × (List Value) × Value × (List Value)) (fun ⟨q1, g1, s1, j1⟩ => [(6, vP v1), (13, vP x1), (64, s1), (66, q1)]) (fun ⟨q1, g1, s1, j1⟩ A1 => St w A1 [.row w.heap.size 62 (Rep.size TMove) q1 (([b0] : List TMove).length) g1, .row w.heap.size 62 (Rep.size TMove) s1 B1.length j1, .cells x1 [vI U0.fK, M0, P0, X0, R0] 48, .cells v1 [vI 0, vN, vN, vN, vN] 48] ∧ Tr q6 [.cells x1 [vI U0.fK, M0, P0, X0, R0] 48, .cells X2 [vI b0.fUnit, vI b0.fFrom, vI b0.fTo] 62, .cells v1 [vI 0, vN, vN, vN, vN] 48, .cells W2 [vI a2.fK, v2_1, v2_2, v2_3, v2_4] 48, .cells V2 [vI a1.fGroups, vI a1.fParties, vI a1.fLevels, v1_3] 41, .cells b5 [vI a0.fN, v0_1] 38] A1 [.row w.heap.size 62 (Rep.size TMove) q1 (([b0] : List TMove).length) g1, .row w.heap.size 62 (Rep.size TMove) s1 B1.length j1, .cells x1 [vI U0.fK, M0, P0, X0, R0] 48, .cells v1 [vI 0, vN, vN, vN, vN] 48] ∧ Cells A1 (bl [.row w.heap.size 62 (Rep.size TMove) q1 (([b0] : List TMove).length) g1, .row w.heap.size 62 (Rep.size TMove) s1 B1.length j1, .cells x1 [vI U0.fK, M0, P0, X0, R0] 48, .cells v1 [vI 0, vN, vN, vN, vN] 48] ++ L) g1 (([b0] : List TMove) : List TMove) ∧ Cells A1 (bl [.row w.heap.size 62 (Rep.size TMove) q1 (([b0] : List TMove).length) g1, .row w.heap.size 62 (Rep.size TMove) s1 B1.length j1, .cells x1 [vI U0.fK, M0, P0, X0, R0] 48, .cells v1 [vI 0, vN, vN, vN, vN] 48] ++ L) j1 (B1 : List TMove)) 3 63 ?_ ?_
 rintro ⟨q1, g1, s1, j1⟩ A1 ⟨t2, u2, P3, Q3⟩
 try dsimp only
 obtain ⟨s6, d6, h⟩ := bi h
 refine RD.one (i := 6) (readyD_ok c0 (by kernel_rfl)) (RO.doesL (m' := 127) (stepC_ok c0 (by kernel_rfl)) rfl rfl .plain rfl (DoesL.app (α := TMove) (ys := ([b0] : List TMove)) d6 t2 (fun _ _ => (.tl .hd)) el46 rfl rfl Q3 (Src.row (α := TMove) t2 .hd P3)) (fun y1 U6 ⟨x6, E1, v2, R3⟩ => ?_))
 refine RD.one (i := 7) (readyD_ok c0 (by kernel_rfl)) (RO.val (m' := 255) (stepC_ok c0 (by kernel_rfl)) rfl .plain rfl (FV.fa 3 rfl) ?_)
 refine RD.nw 8 511 c0 rfl rfl .plain (Acts.store (j := 3) (old := [vI U0.fK, M0, P0, X0, R0]) (news := [y1]) (new' := [vI U0.fK, M0, P0, y1, R0]) E1 (.tl (.tl .hd)) rfl rfl rfl (St.c1 (α := TMove) E1 (.tl .hd)) rfl rfl (o1 (St.o1 (α := TMove) E1 (.tl .hd))) rfl) (fun V6 F1 I1 => ?_)
 refine RD.done (doneD_ok c0 (by kernel_rfl)) <| MX.sr <| RG.va (FV.lN rfl (F1.memA (.tl (.tl .hd)))) ?_
 have p2 := Tt z1 (Tt J3 (Tt B2 (Tt u2 (Tt v2 I1))))
 have X3 := Rep.mv q2 p2
 have Y3 := Rep.mv s2 p2
 have D2 := Tt B2 (Tt u2 (Tt v2 I1))
 have Z3 := Rep.mv C1 D2
 refine RG.sa [vI U0.fK, M0, P0, y1, R0] F1 (.tl (.tl (.tl .hd))) (o5 rfl (Rep.o1 X3) (Rep.o1 Y3) (St.o1 (α := TMove) F1 (.tl .hd)) (Rep.o1 Z3)) (fun W6 G1 J1 => ?_)
 refine RG.so rfl <| RG.nil <| MX.ret rfl ?_
 have b4 := Cells.mv R3 (Tt I1 J1)
 have U5 := St.freeze (α := TMove) G1 (.tl .hd) b4 hL
 have k1 := St.delS G1 (.tl .hd)
 have x2 := St.delT G1 (.tl .hd)
 have V5 := Rep.at_ (α := TMove) (v := y1) (xs := s6) k1 L U5
 refine RT.leave hb0 Tryz.func34 rfl (.cons (.many (cs := [vI U0.fK, M0, P0, y1, R0]) (by kernel_rfl) rfl (k1.memA (.tl (.tl .hd)))) (.cons (.tmp rfl) .nil)) rfl ?_
 cases h
 have E2 := Tt p2 (Tt J1 x2)
 have c4 := Rep.mv q2 E2
 have d4 := Rep.mv s2 E2
 have y5 := Tt D2 (Tt J1 x2)
 have g4 := Rep.mv C1 y5
 exact ⟨k1.ag, fun w9 hw9 => ⟨M0, P0, y1, R0, rfl, k1.kd c4 hw9, k1.kd d4 hw9, k1.kd V5 hw9, k1.kd g4 hw9⟩⟩
 intro C0
 refine RD.each [0, 2, 4] (readyD_ok c0 (by kernel_rfl)) ⟨?_, ?_, ?_, trivial⟩
 refine RO.new (m' := 3) (stepC_ok c0 (by kernel_rfl)) rfl .plain rfl (Does.build (α := TMove) (xs := ([] : List TMove)) (vs := []) (ds' := []) rfl Q0 el46 rfl evs_nil (by kernel_rfl) rfl) (fun u1 d1 j0 t0 => ?_)
 have u0 := Cells.at_ (cs := []) (xs := (([] : List TMove) : List TMove)) j0 L (Cells.nil _ _)
 refine RD.each [2, 4] (readyD_ok c0 (by kernel_rfl)) ⟨?_, ?_, trivial⟩
 refine RO.val (m' := 7) (stepC_ok c0 (by kernel_rfl)) rfl .plain rfl (FV.l1 rfl ((j0.memA (.tl (.tl (.tl (.tl .hd))))) 3 _ rfl)) <| RD.each [3, 4] (readyD_ok c0 (by kernel_rfl)) ⟨?_, ?_, trivial⟩
 have s0 := Rep.mv0 h2_3 j0
 refine RO.doesL (m' := 15) (stepC_ok c0 (by kernel_rfl)) rfl rfl .plain rfl (DoesL.app (α := TMove) (ys := a2.fDone) E0 j0 (fun _ _ => .hd) el46 rfl rfl u0 (Src.rep s0)) (fun B0 V0 ⟨y0, v0, z0, A0⟩ => ?_)
 refine RD.one (i := 4) (readyD_ok c0 (by kernel_rfl)) (RO.val (m' := 31) (stepC_ok c0 (by kernel_rfl)) rfl .plain rfl (FV.lN rfl (v0.memA (.tl (.tl .hd)))) ?_)
 refine RD.nu 5 63 c0 rfl .plain rfl (Does.build (α := TMove) (xs := ([b0] : List TMove)) (vs := [.agg #[vI b0.fUnit, vI b0.fFrom, vI b0.fTo]]) (ds' := [vI b0.fUnit, vI b0.fFrom, vI b0.fTo]) rfl v0 el46 rfl (e1 rfl) (by kernel_rfl) rfl) (fun F0 p0 d0 g0 => ?_)
 have q0 := Cells.at_ (cs := [vI b0.fUnit, vI b0.fFrom, vI b0.fTo]) (xs := (([b0] : List TMove) : List TMove)) d0 L (Cells.cons (cs := [vI b0.fUnit, vI b0.fFrom, vI b0.fTo]) (ds := []) (mk_TMove b0.fUnit b0.fFrom b0.fTo) (Cells.nil _ _))
 obtain ⟨d3, K1⟩ := St.arrB d0 (.one .hd (.one .hd (.one .hd (.one (.tl .hd) .done))))
 have j4 := Cells.mv q0 K1
 have k4 := Cells.mv A0 (Tt g0 K1)
 have z5 := Tt t0 (Tt z0 (Tt g0 K1))
 exact C0 ((vS p0 1), [vI b0.fUnit, vI b0.fFrom, vI b0.fTo], B0, y0) _ _ ⟨rfl, rfl, rfl, rfl, trivial⟩ ⟨d3, z5, j4, k4⟩
 refine RO.val (m' := 23) (stepC_ok c0 (by kernel_rfl)) rfl .plain rfl (FV.lN rfl (j0.memA (.tl (.tl .hd)))) <| RD.each [3, 5] (readyD_ok c0 (by kernel_rfl)) ⟨?_, ?_, trivial⟩
 have s0 := Rep.mv0 h2_3 j0
 refine RO.doesL (m' := 31) (stepC_ok c0 (by kernel_rfl)) rfl rfl .plain rfl (DoesL.app (α := TMove) (ys := a2.fDone) E0 j0 (fun _ _ => .hd) el46 rfl rfl u0 (Src.rep s0)) (fun B0 V0 ⟨y0, v0, z0, A0⟩ => ?_)
 refine RD.nu 5 63 c0 rfl .plain rfl (Does.build (α := TMove) (xs := ([b0] : List TMove)) (vs := [.agg #[vI b0.fUnit, vI b0.fFrom, vI b0.fTo]]) (ds' := [vI b0.fUnit, vI b0.fFrom, vI b0.fTo]) rfl v0 el46 rfl (e1 rfl) (by kernel_rfl) rfl) (fun F0 p0 d0 g0 => ?_)
 have q0 := Cells.at_ (cs := [vI b0.fUnit, vI b0.fFrom, vI b0.fTo]) (xs := (([b0] : List TMove) : List TMove)) d0 L (Cells.cons (cs := [vI b0.fUnit, vI b0.fFrom, vI b0.fTo]) (ds := []) (mk_TMove b0.fUnit b0.fFrom b0.fTo) (Cells.nil _ _))
 obtain ⟨g3, M1⟩ := St.arrB d0 (.one .hd (.one .hd (.one .hd (.one (.tl .hd) .done))))
 have p4 := Cells.mv q0 M1
 have q4 := Cells.mv A0 (Tt g0 M1)
 have A5 := Tt t0 (Tt z0 (Tt g0 M1))
 exact C0 ((vS p0 1), [vI b0.fUnit, vI b0.fFrom, vI b0.fTo], B0, y0) _ _ ⟨rfl, rfl, rfl, rfl, trivial⟩ ⟨g3, A5, p4, q4⟩
 refine RO.new (m' := 55) (stepC_ok c0 (by kernel_rfl)) rfl .plain rfl (Does.build (α := TMove) (xs := ([b0] : List TMove)) (vs := [.agg #[vI b0.fUnit, vI b0.fFrom, vI b0.fTo]]) (ds' := [vI b0.fUnit, vI b0.fFrom, vI b0.fTo]) rfl j0 el46 rfl (e1 rfl) (by kernel_rfl) rfl) (fun F0 p0 d0 g0 => ?_)
 have q0 := Cells.at_ (cs := [vI b0.fUnit, vI b0.fFrom, vI b0.fTo]) (xs := (([b0] : List TMove) : List TMove)) d0 L (Cells.cons (cs := [vI b0.fUnit, vI b0.fFrom, vI b0.fTo]) (ds := []) (mk_TMove b0.fUnit b0.fFrom b0.fTo) (Cells.nil _ _))
 have s0 := Rep.mv0 h2_3 d0
 have J0 := Cells.mv u0 g0
 refine RD.one (i := 3) (readyD_ok c0 (by kernel_rfl)) (RO.doesL (m' := 63) (stepC_ok c0 (by kernel_rfl)) rfl rfl .plain rfl (DoesL.app (α := TMove) (ys := a2.fDone) E0 d0 (fun _ _ => (.tl .hd)) el46 rfl rfl J0 (Src.rep s0)) (fun K0 t1 ⟨G0, H0, x0, I0⟩ => ?_))
 obtain ⟨j3, P1⟩ := St.arrB H0 (.one .hd (.one .hd (.one .hd (.one (.tl .hd) .done))))
 have s4 := Cells.mv q0 (Tt x0 P1)
 have t4 := Cells.mv I0 P1
 have B5 := Tt t0 (Tt g0 (Tt x0 P1))
 exact C0 ((vS p0 1), [vI b0.fUnit, vI b0.fFrom, vI b0.fTo], K0, G0) _ _ ⟨rfl, rfl, rfl, rfl, trivial⟩ ⟨j3, B5, s4, t4⟩
 refine RO.val (m' := 19) (stepC_ok c0 (by kernel_rfl)) rfl .plain rfl (FV.lN rfl (j0.memA (.tl (.tl .hd)))) <| RD.each [2, 5] (readyD_ok c0 (by kernel_rfl)) ⟨?_, ?_, trivial⟩
 refine RO.val (m' := 23) (stepC_ok c0 (by kernel_rfl)) rfl .plain rfl (FV.l1 rfl ((j0.memA (.tl (.tl (.tl (.tl .hd))))) 3 _ rfl)) <| RD.each [3, 5] (readyD_ok c0 (by kernel_rfl)) ⟨?_, ?_, trivial⟩
 have s0 := Rep.mv0 h2_3 j0
 refine RO.doesL (m' := 31) (stepC_ok c0 (by kernel_rfl)) rfl rfl .plain rfl (DoesL.app (α := TMove) (ys := a2.fDone) E0 j0 (fun _ _ => .hd) el46 rfl rfl u0 (Src.rep s0)) (fun B0 V0 ⟨y0, v0, z0, A0⟩ => ?_)
 refine RD.nu 5 63 c0 rfl .plain rfl (Does.build (α := TMove) (xs := ([b0] : List TMove)) (vs := [.agg #[vI b0.fUnit, vI b0.fFrom, vI b0.fTo]]) (ds' := [vI b0.fUnit, vI b0.fFrom, vI b0.fTo]) rfl v0 el46 rfl (e1 rfl) (by kernel_rfl) rfl) (fun F0 p0 d0 g0 => ?_)
 have q0 := Cells.at_ (cs := [vI b0.fUnit, vI b0.fFrom, vI b0.fTo]) (xs := (([b0] : List TMove) : List TMove)) d0 L (Cells.cons (cs := [vI b0.fUnit, vI b0.fFrom, vI b0.fTo]) (ds := []) (mk_TMove b0.fUnit b0.fFrom b0.fTo) (Cells.nil _ _))
 obtain ⟨k3, Q1⟩ := St.arrB d0 (.one .hd (.one .hd (.one .hd (.one (.tl .hd) .done))))
 have u4 := Cells.mv q0 Q1
 have v4 := Cells.mv A0 (Tt g0 Q1)
 have C5 := Tt t0 (Tt z0 (Tt g0 Q1))
 exact C0 ((vS p0 1), [vI b0.fUnit, vI b0.fFrom, vI b0.fTo], B0, y0) _ _ ⟨rfl, rfl, rfl, rfl, trivial⟩ ⟨k3, C5, u4, v4⟩
 refine RO.new (m' := 55) (stepC_ok c0 (by kernel_rfl)) rfl .plain rfl (Does.build (α := TMove) (xs := ([b0] : List TMove)) (vs := [.agg #[vI b0.fUnit, vI b0.fFrom, vI b0.fTo]]) (ds' := [vI b0.fUnit, vI b0.fFrom, vI b0.fTo]) rfl j0 el46 rfl (e1 rfl) (by kernel_rfl) rfl) (fun F0 p0 d0 g0 => ?_)
 have q0 := Cells.at_ (cs := [vI b0.fUnit, vI b0.fFrom, vI b0.fTo]) (xs := (([b0] : List TMove) : List TMove)) d0 L (Cells.cons (cs := [vI b0.fUnit, vI b0.fFrom, vI b0.fTo]) (ds := []) (mk_TMove b0.fUnit b0.fFrom b0.fTo) (Cells.nil _ _))
 have s0 := Rep.mv0 h2_3 d0
 have J0 := Cells.mv u0 g0
 refine RD.one (i := 3) (readyD_ok c0 (by kernel_rfl)) (RO.doesL (m' := 63) (stepC_ok c0 (by kernel_rfl)) rfl rfl .plain rfl (DoesL.app (α := TMove) (ys := a2.fDone) E0 d0 (fun _ _ => (.tl .hd)) el46 rfl rfl J0 (Src.rep s0)) (fun K0 t1 ⟨G0, H0, x0, I0⟩ => ?_))
 obtain ⟨p3, R1⟩ := St.arrB H0 (.one .hd (.one .hd (.one .hd (.one (.tl .hd) .done))))
 have x4 := Cells.mv q0 (Tt x0 R1)
 have y4 := Cells.mv I0 R1
 have D5 := Tt t0 (Tt g0 (Tt x0 R1))
 exact C0 ((vS p0 1), [vI b0.fUnit, vI b0.fFrom, vI b0.fTo], K0, G0) _ _ ⟨rfl, rfl, rfl, rfl, trivial⟩ ⟨p3, D5, x4, y4⟩
 refine RO.new (m' := 51) (stepC_ok c0 (by kernel_rfl)) rfl .plain rfl (Does.build (α := TMove) (xs := ([b0] : List TMove)) (vs := [.agg #[vI b0.fUnit, vI b0.fFrom, vI b0.fTo]]) (ds' := [vI b0.fUnit, vI b0.fFrom, vI b0.fTo]) rfl j0 el46 rfl (e1 rfl) (by kernel_rfl) rfl) (fun F0 p0 d0 g0 => ?_)
 have q0 := Cells.at_ (cs := [vI b0.fUnit, vI b0.fFrom, vI b0.fTo]) (xs := (([b0] : List TMove) : List TMove)) d0 L (Cells.cons (cs := [vI b0.fUnit, vI b0.fFrom, vI b0.fTo]) (ds := []) (mk_TMove b0.fUnit b0.fFrom b0.fTo) (Cells.nil _ _))
 refine RD.vx 2 55 456 c0 rfl D1 (FV.l1 rfl ((d0.memA (.tl (.tl (.tl (.tl (.tl .hd)))))) 3 _ rfl)) rfl ?_
 have s0 := Rep.mv0 h2_3 d0
 have J0 := Cells.mv u0 g0
 refine RD.one (i := 3) (readyD_ok c0 (by kernel_rfl)) (RO.doesL (m' := 63) (stepC_ok c0 (by kernel_rfl)) rfl rfl .plain rfl (DoesL.app (α := TMove) (ys := a2.fDone) E0 d0 (fun _ _ => (.tl .hd)) el46 rfl rfl J0 (Src.rep s0)) (fun K0 t1 ⟨G0, H0, x0, I0⟩ => ?_))
 obtain ⟨q3, U1⟩ := St.arrB H0 (.one .hd (.one .hd (.one .hd (.one (.tl .hd) .done))))
 have z4 := Cells.mv q0 (Tt x0 U1)
 have A4 := Cells.mv I0 U1
 have E5 := Tt t0 (Tt g0 (Tt x0 U1))
 exact C0 ((vS p0 1), [vI b0.fUnit, vI b0.fFrom, vI b0.fTo], K0, G0) _ _ ⟨rfl, rfl, rfl, rfl, trivial⟩ ⟨q3, E5, z4, A4⟩
 refine RO.val (m' := 6) (stepC_ok c0 (by kernel_rfl)) rfl .plain rfl (FV.l1 rfl ((Q0.memA (.tl (.tl (.tl .hd)))) 3 _ rfl)) <| RD.each [0, 4] (readyD_ok c0 (by kernel_rfl)) ⟨?_, ?_, trivial⟩
 refine RO.new (m' := 7) (stepC_ok c0 (by kernel_rfl)) rfl .plain rfl (Does.build (α := TMove) (xs := ([] : List TMove)) (vs := []) (ds' := []) rfl Q0 el46 rfl evs_nil (by kernel_rfl) rfl) (fun u1 d1 j0 t0 => ?_)
 have u0 := Cells.at_ (cs := []) (xs := (([] : List TMove) : List TMove)) j0 L (Cells.nil _ _)
 refine RD.each [3, 4] (readyD_ok c0 (by kernel_rfl)) ⟨?_, ?_, trivial⟩
 have s0 := Rep.mv0 h2_3 j0
 refine RO.doesL (m' := 15) (stepC_ok c0 (by kernel_rfl)) rfl rfl .plain rfl (DoesL.app (α := TMove) (ys := a2.fDone) E0 j0 (fun _ _ => .hd) el46 rfl rfl u0 (Src.rep s0)) (fun B0 V0 ⟨y0, v0, z0, A0⟩ => ?_)
 refine RD.one (i := 4) (readyD_ok c0 (by kernel_rfl)) (RO.val (m' := 31) (stepC_ok c0 (by kernel_rfl)) rfl .plain rfl (FV.lN rfl (v0.memA (.tl (.tl .hd)))) ?_)
 refine RD.nu 5 63 c0 rfl .plain rfl (Does.build (α := TMove) (xs := ([b0] : List TMove)) (vs := [.agg #[vI b0.fUnit, vI b0.fFrom, vI b0.fTo]]) (ds' := [vI b0.fUnit, vI b0.fFrom, vI b0.fTo]) rfl v0 el46 rfl (e1 rfl) (by kernel_rfl) rfl) (fun F0 p0 d0 g0 => ?_)
 have q0 := Cells.at_ (cs := [vI b0.fUnit, vI b0.fFrom, vI b0.fTo]) (xs := (([b0] : List TMove) : List TMove)) d0 L (Cells.cons (cs := [vI b0.fUnit, vI b0.fFrom, vI b0.fTo]) (ds := []) (mk_TMove b0.fUnit b0.fFrom b0.fTo) (Cells.nil _ _))
 obtain ⟨s3, V1⟩ := St.arrB d0 (.one .hd (.one .hd (.one .hd (.one (.tl .hd) .done))))
 have B4 := Cells.mv q0 V1
 have C4 := Cells.mv A0 (Tt g0 V1)
 have F5 := Tt t0 (Tt z0 (Tt g0 V1))
 exact C0 ((vS p0 1), [vI b0.fUnit, vI b0.fFrom, vI b0.fTo], B0, y0) _ _ ⟨rfl, rfl, rfl, rfl, trivial⟩ ⟨s3, F5, B4, C4⟩
 refine RO.val (m' := 23) (stepC_ok c0 (by kernel_rfl)) rfl .plain rfl (FV.lN rfl (j0.memA (.tl (.tl .hd)))) <| RD.each [3, 5] (readyD_ok c0 (by kernel_rfl)) ⟨?_, ?_, trivial⟩
 have s0 := Rep.mv0 h2_3 j0
 refine RO.doesL (m' := 31) (stepC_ok c0 (by kernel_rfl)) rfl rfl .plain rfl (DoesL.app (α := TMove) (ys := a2.fDone) E0 j0 (fun _ _ => .hd) el46 rfl rfl u0 (Src.rep s0)) (fun B0 V0 ⟨y0, v0, z0, A0⟩ => ?_)
 refine RD.nu 5 63 c0 rfl .plain rfl (Does.build (α := TMove) (xs := ([b0] : List TMove)) (vs := [.agg #[vI b0.fUnit, vI b0.fFrom, vI b0.fTo]]) (ds' := [vI b0.fUnit, vI b0.fFrom, vI b0.fTo]) rfl v0 el46 rfl (e1 rfl) (by kernel_rfl) rfl) (fun F0 p0 d0 g0 => ?_)
 have q0 := Cells.at_ (cs := [vI b0.fUnit, vI b0.fFrom, vI b0.fTo]) (xs := (([b0] : List TMove) : List TMove)) d0 L (Cells.cons (cs := [vI b0.fUnit, vI b0.fFrom, vI b0.fTo]) (ds := []) (mk_TMove b0.fUnit b0.fFrom b0.fTo) (Cells.nil _ _))
 obtain ⟨t3, W1⟩ := St.arrB d0 (.one .hd (.one .hd (.one .hd (.one (.tl .hd) .done))))
 have D4 := Cells.mv q0 W1
 have E4 := Cells.mv A0 (Tt g0 W1)
 have G5 := Tt t0 (Tt z0 (Tt g0 W1))
 exact C0 ((vS p0 1), [vI b0.fUnit, vI b0.fFrom, vI b0.fTo], B0, y0) _ _ ⟨rfl, rfl, rfl, rfl, trivial⟩ ⟨t3, G5, D4, E4⟩
 refine RO.new (m' := 55) (stepC_ok c0 (by kernel_rfl)) rfl .plain rfl (Does.build (α := TMove) (xs := ([b0] : List TMove)) (vs := [.agg #[vI b0.fUnit, vI b0.fFrom, vI b0.fTo]]) (ds' := [vI b0.fUnit, vI b0.fFrom, vI b0.fTo]) rfl j0 el46 rfl (e1 rfl) (by kernel_rfl) rfl) (fun F0 p0 d0 g0 => ?_)
 have q0 := Cells.at_ (cs := [vI b0.fUnit, vI b0.fFrom, vI b0.fTo]) (xs := (([b0] : List TMove) : List TMove)) d0 L (Cells.cons (cs := [vI b0.fUnit, vI b0.fFrom, vI b0.fTo]) (ds := []) (mk_TMove b0.fUnit b0.fFrom b0.fTo) (Cells.nil _ _))
 have s0 := Rep.mv0 h2_3 d0
 have J0 := Cells.mv u0 g0
 refine RD.one (i := 3) (readyD_ok c0 (by kernel_rfl)) (RO.doesL (m' := 63) (stepC_ok c0 (by kernel_rfl)) rfl rfl .plain rfl (DoesL.app (α := TMove) (ys := a2.fDone) E0 d0 (fun _ _ => (.tl .hd)) el46 rfl rfl J0 (Src.rep s0)) (fun K0 t1 ⟨G0, H0, x0, I0⟩ => ?_))
 obtain ⟨u3, X1⟩ := St.arrB H0 (.one .hd (.one .hd (.one .hd (.one (.tl .hd) .done))))
 have F4 := Cells.mv q0 (Tt x0 X1)
 have G4 := Cells.mv I0 X1
 have H5 := Tt t0 (Tt g0 (Tt x0 X1))
 exact C0 ((vS p0 1), [vI b0.fUnit, vI b0.fFrom, vI b0.fTo], K0, G0) _ _ ⟨rfl, rfl, rfl, rfl, trivial⟩ ⟨u3, H5, F4, G4⟩
 refine RO.val (m' := 22) (stepC_ok c0 (by kernel_rfl)) rfl .plain rfl (FV.lN rfl (Q0.memA (.tl .hd))) <| RD.each [0, 5] (readyD_ok c0 (by kernel_rfl)) ⟨?_, ?_, trivial⟩
 refine RO.new (m' := 23) (stepC_ok c0 (by kernel_rfl)) rfl .plain rfl (Does.build (α := TMove) (xs := ([] : List TMove)) (vs := []) (ds' := []) rfl Q0 el46 rfl evs_nil (by kernel_rfl) rfl) (fun u1 d1 j0 t0 => ?_)
 have u0 := Cells.at_ (cs := []) (xs := (([] : List TMove) : List TMove)) j0 L (Cells.nil _ _)
 refine RD.each [3, 5] (readyD_ok c0 (by kernel_rfl)) ⟨?_, ?_, trivial⟩
 have s0 := Rep.mv0 h2_3 j0
 refine RO.doesL (m' := 31) (stepC_ok c0 (by kernel_rfl)) rfl rfl .plain rfl (DoesL.app (α := TMove) (ys := a2.fDone) E0 j0 (fun _ _ => .hd) el46 rfl rfl u0 (Src.rep s0)) (fun B0 V0 ⟨y0, v0, z0, A0⟩ => ?_)
 refine RD.nu 5 63 c0 rfl .plain rfl (Does.build (α := TMove) (xs := ([b0] : List TMove)) (vs := [.agg #[vI b0.fUnit, vI b0.fFrom, vI b0.fTo]]) (ds' := [vI b0.fUnit, vI b0.fFrom, vI b0.fTo]) rfl v0 el46 rfl (e1 rfl) (by kernel_rfl) rfl) (fun F0 p0 d0 g0 => ?_)
 have q0 := Cells.at_ (cs := [vI b0.fUnit, vI b0.fFrom, vI b0.fTo]) (xs := (([b0] : List TMove) : List TMove)) d0 L (Cells.cons (cs := [vI b0.fUnit, vI b0.fFrom, vI b0.fTo]) (ds := []) (mk_TMove b0.fUnit b0.fFrom b0.fTo) (Cells.nil _ _))
 obtain ⟨v3, Y1⟩ := St.arrB d0 (.one .hd (.one .hd (.one .hd (.one (.tl .hd) .done))))
 have H4 := Cells.mv q0 Y1
 have I4 := Cells.mv A0 (Tt g0 Y1)
 have I5 := Tt t0 (Tt z0 (Tt g0 Y1))
 exact C0 ((vS p0 1), [vI b0.fUnit, vI b0.fFrom, vI b0.fTo], B0, y0) _ _ ⟨rfl, rfl, rfl, rfl, trivial⟩ ⟨v3, I5, H4, I4⟩
 refine RO.new (m' := 55) (stepC_ok c0 (by kernel_rfl)) rfl .plain rfl (Does.build (α := TMove) (xs := ([b0] : List TMove)) (vs := [.agg #[vI b0.fUnit, vI b0.fFrom, vI b0.fTo]]) (ds' := [vI b0.fUnit, vI b0.fFrom, vI b0.fTo]) rfl j0 el46 rfl (e1 rfl) (by kernel_rfl) rfl) (fun F0 p0 d0 g0 => ?_)
 have q0 := Cells.at_ (cs := [vI b0.fUnit, vI b0.fFrom, vI b0.fTo]) (xs := (([b0] : List TMove) : List TMove)) d0 L (Cells.cons (cs := [vI b0.fUnit, vI b0.fFrom, vI b0.fTo]) (ds := []) (mk_TMove b0.fUnit b0.fFrom b0.fTo) (Cells.nil _ _))
 have s0 := Rep.mv0 h2_3 d0
 have J0 := Cells.mv u0 g0
 refine RD.one (i := 3) (readyD_ok c0 (by kernel_rfl)) (RO.doesL (m' := 63) (stepC_ok c0 (by kernel_rfl)) rfl rfl .plain rfl (DoesL.app (α := TMove) (ys := a2.fDone) E0 d0 (fun _ _ => (.tl .hd)) el46 rfl rfl J0 (Src.rep s0)) (fun K0 t1 ⟨G0, H0, x0, I0⟩ => ?_))
 obtain ⟨x3, Z1⟩ := St.arrB H0 (.one .hd (.one .hd (.one .hd (.one (.tl .hd) .done))))
 have J4 := Cells.mv q0 (Tt x0 Z1)
 have K4 := Cells.mv I0 Z1
 have J5 := Tt t0 (Tt g0 (Tt x0 Z1))
 exact C0 ((vS p0 1), [vI b0.fUnit, vI b0.fFrom, vI b0.fTo], K0, G0) _ _ ⟨rfl, rfl, rfl, rfl, trivial⟩ ⟨x3, J5, J4, K4⟩
 refine RO.new (m' := 54) (stepC_ok c0 (by kernel_rfl)) rfl .plain rfl (Does.build (α := TMove) (xs := ([b0] : List TMove)) (vs := [.agg #[vI b0.fUnit, vI b0.fFrom, vI b0.fTo]]) (ds' := [vI b0.fUnit, vI b0.fFrom, vI b0.fTo]) rfl Q0 el46 rfl (e1 rfl) (by kernel_rfl) rfl) (fun F0 p0 d0 g0 => ?_)
 have q0 := Cells.at_ (cs := [vI b0.fUnit, vI b0.fFrom, vI b0.fTo]) (xs := (([b0] : List TMove) : List TMove)) d0 L (Cells.cons (cs := [vI b0.fUnit, vI b0.fFrom, vI b0.fTo]) (ds := []) (mk_TMove b0.fUnit b0.fFrom b0.fTo) (Cells.nil _ _))
 refine RD.nu 0 55 c0 rfl .plain rfl (Does.build (α := TMove) (xs := ([] : List TMove)) (vs := []) (ds' := []) rfl d0 el46 rfl evs_nil (by kernel_rfl) rfl) (fun u1 d1 j0 t0 => ?_)
 have u0 := Cells.at_ (cs := []) (xs := (([] : List TMove) : List TMove)) j0 L (Cells.nil _ _)
 have s0 := Rep.mv0 h2_3 j0
 refine RD.one (i := 3) (readyD_ok c0 (by kernel_rfl)) (RO.doesL (m' := 63) (stepC_ok c0 (by kernel_rfl)) rfl rfl .plain rfl (DoesL.app (α := TMove) (ys := a2.fDone) E0 j0 (fun _ _ => .hd) el46 rfl rfl u0 (Src.rep s0)) (fun B0 V0 ⟨y0, v0, z0, A0⟩ => ?_))
 obtain ⟨y3, y2⟩ := St.arrB v0 (.one (.tl .hd) (.one .hd (.one .hd (.one (.tl .hd) .done))))
 have F2 := Tt t0 (Tt z0 y2)
 have M4 := Cells.mv q0 F2
 have P4 := Cells.mv A0 y2
 exact C0 ((vS p0 1), [vI b0.fUnit, vI b0.fFrom, vI b0.fTo], B0, y0) _ _ ⟨rfl, rfl, rfl, rfl, trivial⟩ ⟨y3, (Tt g0 F2), M4, P4⟩
 refine RO.val (m' := 18) (stepC_ok c0 (by kernel_rfl)) rfl .plain rfl (FV.lN rfl (Q0.memA (.tl .hd))) <| RD.each [0, 2, 5] (readyD_ok c0 (by kernel_rfl)) ⟨?_, ?_, ?_, trivial⟩
 refine RO.new (m' := 19) (stepC_ok c0 (by kernel_rfl)) rfl .plain rfl (Does.build (α := TMove) (xs := ([] : List TMove)) (vs := []) (ds' := []) rfl Q0 el46 rfl evs_nil (by kernel_rfl) rfl) (fun u1 d1 j0 t0 => ?_)
 have u0 := Cells.at_ (cs := []) (xs := (([] : List TMove) : List TMove)) j0 L (Cells.nil _ _)
 refine RD.each [2, 5] (readyD_ok c0 (by kernel_rfl)) ⟨?_, ?_, trivial⟩
 refine RO.val (m' := 23) (stepC_ok c0 (by kernel_rfl)) rfl .plain rfl (FV.l1 rfl ((j0.memA (.tl (.tl (.tl (.tl .hd))))) 3 _ rfl)) <| RD.each [3, 5] (readyD_ok c0 (by kernel_rfl)) ⟨?_, ?_, trivial⟩
 have s0 := Rep.mv0 h2_3 j0
 refine RO.doesL (m' := 31) (stepC_ok c0 (by kernel_rfl)) rfl rfl .plain rfl (DoesL.app (α := TMove) (ys := a2.fDone) E0 j0 (fun _ _ => .hd) el46 rfl rfl u0 (Src.rep s0)) (fun B0 V0 ⟨y0, v0, z0, A0⟩ => ?_)
 refine RD.nu 5 63 c0 rfl .plain rfl (Does.build (α := TMove) (xs := ([b0] : List TMove)) (vs := [.agg #[vI b0.fUnit, vI b0.fFrom, vI b0.fTo]]) (ds' := [vI b0.fUnit, vI b0.fFrom, vI b0.fTo]) rfl v0 el46 rfl (e1 rfl) (by kernel_rfl) rfl) (fun F0 p0 d0 g0 => ?_)
 have q0 := Cells.at_ (cs := [vI b0.fUnit, vI b0.fFrom, vI b0.fTo]) (xs := (([b0] : List TMove) : List TMove)) d0 L (Cells.cons (cs := [vI b0.fUnit, vI b0.fFrom, vI b0.fTo]) (ds := []) (mk_TMove b0.fUnit b0.fFrom b0.fTo) (Cells.nil _ _))
 obtain ⟨z3, b2⟩ := St.arrB d0 (.one .hd (.one .hd (.one .hd (.one (.tl .hd) .done))))
 have Q4 := Cells.mv q0 b2
 have R4 := Cells.mv A0 (Tt g0 b2)
 have K5 := Tt t0 (Tt z0 (Tt g0 b2))
 exact C0 ((vS p0 1), [vI b0.fUnit, vI b0.fFrom, vI b0.fTo], B0, y0) _ _ ⟨rfl, rfl, rfl, rfl, trivial⟩ ⟨z3, K5, Q4, R4⟩
 refine RO.new (m' := 55) (stepC_ok c0 (by kernel_rfl)) rfl .plain rfl (Does.build (α := TMove) (xs := ([b0] : List TMove)) (vs := [.agg #[vI b0.fUnit, vI b0.fFrom, vI b0.fTo]]) (ds' := [vI b0.fUnit, vI b0.fFrom, vI b0.fTo]) rfl j0 el46 rfl (e1 rfl) (by kernel_rfl) rfl) (fun F0 p0 d0 g0 => ?_)
 have q0 := Cells.at_ (cs := [vI b0.fUnit, vI b0.fFrom, vI b0.fTo]) (xs := (([b0] : List TMove) : List TMove)) d0 L (Cells.cons (cs := [vI b0.fUnit, vI b0.fFrom, vI b0.fTo]) (ds := []) (mk_TMove b0.fUnit b0.fFrom b0.fTo) (Cells.nil _ _))
 have s0 := Rep.mv0 h2_3 d0
 have J0 := Cells.mv u0 g0
 refine RD.one (i := 3) (readyD_ok c0 (by kernel_rfl)) (RO.doesL (m' := 63) (stepC_ok c0 (by kernel_rfl)) rfl rfl .plain rfl (DoesL.app (α := TMove) (ys := a2.fDone) E0 d0 (fun _ _ => (.tl .hd)) el46 rfl rfl J0 (Src.rep s0)) (fun K0 t1 ⟨G0, H0, x0, I0⟩ => ?_))
 obtain ⟨A3, c2⟩ := St.arrB H0 (.one .hd (.one .hd (.one .hd (.one (.tl .hd) .done))))
 have U4 := Cells.mv q0 (Tt x0 c2)
 have V4 := Cells.mv I0 c2
 have M5 := Tt t0 (Tt g0 (Tt x0 c2))
 exact C0 ((vS p0 1), [vI b0.fUnit, vI b0.fFrom, vI b0.fTo], K0, G0) _ _ ⟨rfl, rfl, rfl, rfl, trivial⟩ ⟨A3, M5, U4, V4⟩
 refine RO.new (m' := 51) (stepC_ok c0 (by kernel_rfl)) rfl .plain rfl (Does.build (α := TMove) (xs := ([b0] : List TMove)) (vs := [.agg #[vI b0.fUnit, vI b0.fFrom, vI b0.fTo]]) (ds' := [vI b0.fUnit, vI b0.fFrom, vI b0.fTo]) rfl j0 el46 rfl (e1 rfl) (by kernel_rfl) rfl) (fun F0 p0 d0 g0 => ?_)
 have q0 := Cells.at_ (cs := [vI b0.fUnit, vI b0.fFrom, vI b0.fTo]) (xs := (([b0] : List TMove) : List TMove)) d0 L (Cells.cons (cs := [vI b0.fUnit, vI b0.fFrom, vI b0.fTo]) (ds := []) (mk_TMove b0.fUnit b0.fFrom b0.fTo) (Cells.nil _ _))
 refine RD.vx 2 55 456 c0 rfl D1 (FV.l1 rfl ((d0.memA (.tl (.tl (.tl (.tl (.tl .hd)))))) 3 _ rfl)) rfl ?_
 have s0 := Rep.mv0 h2_3 d0
 have J0 := Cells.mv u0 g0
 refine RD.one (i := 3) (readyD_ok c0 (by kernel_rfl)) (RO.doesL (m' := 63) (stepC_ok c0 (by kernel_rfl)) rfl rfl .plain rfl (DoesL.app (α := TMove) (ys := a2.fDone) E0 d0 (fun _ _ => (.tl .hd)) el46 rfl rfl J0 (Src.rep s0)) (fun K0 t1 ⟨G0, H0, x0, I0⟩ => ?_))
 obtain ⟨B3, d2⟩ := St.arrB H0 (.one .hd (.one .hd (.one .hd (.one (.tl .hd) .done))))
 have W4 := Cells.mv q0 (Tt x0 d2)
 have X4 := Cells.mv I0 d2
 have P5 := Tt t0 (Tt g0 (Tt x0 d2))
 exact C0 ((vS p0 1), [vI b0.fUnit, vI b0.fFrom, vI b0.fTo], K0, G0) _ _ ⟨rfl, rfl, rfl, rfl, trivial⟩ ⟨B3, P5, W4, X4⟩
 refine RO.val (m' := 22) (stepC_ok c0 (by kernel_rfl)) rfl .plain rfl (FV.l1 rfl ((Q0.memA (.tl (.tl (.tl .hd)))) 3 _ rfl)) <| RD.each [0, 5] (readyD_ok c0 (by kernel_rfl)) ⟨?_, ?_, trivial⟩
 refine RO.new (m' := 23) (stepC_ok c0 (by kernel_rfl)) rfl .plain rfl (Does.build (α := TMove) (xs := ([] : List TMove)) (vs := []) (ds' := []) rfl Q0 el46 rfl evs_nil (by kernel_rfl) rfl) (fun u1 d1 j0 t0 => ?_)
 have u0 := Cells.at_ (cs := []) (xs := (([] : List TMove) : List TMove)) j0 L (Cells.nil _ _)
 refine RD.each [3, 5] (readyD_ok c0 (by kernel_rfl)) ⟨?_, ?_, trivial⟩
 have s0 := Rep.mv0 h2_3 j0
 refine RO.doesL (m' := 31) (stepC_ok c0 (by kernel_rfl)) rfl rfl .plain rfl (DoesL.app (α := TMove) (ys := a2.fDone) E0 j0 (fun _ _ => .hd) el46 rfl rfl u0 (Src.rep s0)) (fun B0 V0 ⟨y0, v0, z0, A0⟩ => ?_)
 refine RD.nu 5 63 c0 rfl .plain rfl (Does.build (α := TMove) (xs := ([b0] : List TMove)) (vs := [.agg #[vI b0.fUnit, vI b0.fFrom, vI b0.fTo]]) (ds' := [vI b0.fUnit, vI b0.fFrom, vI b0.fTo]) rfl v0 el46 rfl (e1 rfl) (by kernel_rfl) rfl) (fun F0 p0 d0 g0 => ?_)
 have q0 := Cells.at_ (cs := [vI b0.fUnit, vI b0.fFrom, vI b0.fTo]) (xs := (([b0] : List TMove) : List TMove)) d0 L (Cells.cons (cs := [vI b0.fUnit, vI b0.fFrom, vI b0.fTo]) (ds := []) (mk_TMove b0.fUnit b0.fFrom b0.fTo) (Cells.nil _ _))
 obtain ⟨C3, g2⟩ := St.arrB d0 (.one .hd (.one .hd (.one .hd (.one (.tl .hd) .done))))
 have Y4 := Cells.mv q0 g2
 have Z4 := Cells.mv A0 (Tt g0 g2)
 have Q5 := Tt t0 (Tt z0 (Tt g0 g2))
 exact C0 ((vS p0 1), [vI b0.fUnit, vI b0.fFrom, vI b0.fTo], B0, y0) _ _ ⟨rfl, rfl, rfl, rfl, trivial⟩ ⟨C3, Q5, Y4, Z4⟩
 refine RO.new (m' := 55) (stepC_ok c0 (by kernel_rfl)) rfl .plain rfl (Does.build (α := TMove) (xs := ([b0] : List TMove)) (vs := [.agg #[vI b0.fUnit, vI b0.fFrom, vI b0.fTo]]) (ds' := [vI b0.fUnit, vI b0.fFrom, vI b0.fTo]) rfl j0 el46 rfl (e1 rfl) (by kernel_rfl) rfl) (fun F0 p0 d0 g0 => ?_)
 have q0 := Cells.at_ (cs := [vI b0.fUnit, vI b0.fFrom, vI b0.fTo]) (xs := (([b0] : List TMove) : List TMove)) d0 L (Cells.cons (cs := [vI b0.fUnit, vI b0.fFrom, vI b0.fTo]) (ds := []) (mk_TMove b0.fUnit b0.fFrom b0.fTo) (Cells.nil _ _))
 have s0 := Rep.mv0 h2_3 d0
 have J0 := Cells.mv u0 g0
 refine RD.one (i := 3) (readyD_ok c0 (by kernel_rfl)) (RO.doesL (m' := 63) (stepC_ok c0 (by kernel_rfl)) rfl rfl .plain rfl (DoesL.app (α := TMove) (ys := a2.fDone) E0 d0 (fun _ _ => (.tl .hd)) el46 rfl rfl J0 (Src.rep s0)) (fun K0 t1 ⟨G0, H0, x0, I0⟩ => ?_))
 obtain ⟨D3, j2⟩ := St.arrB H0 (.one .hd (.one .hd (.one .hd (.one (.tl .hd) .done))))
 have c5 := Cells.mv q0 (Tt x0 j2)
 have d5 := Cells.mv I0 j2
 have R5 := Tt t0 (Tt g0 (Tt x0 j2))
 exact C0 ((vS p0 1), [vI b0.fUnit, vI b0.fFrom, vI b0.fTo], K0, G0) _ _ ⟨rfl, rfl, rfl, rfl, trivial⟩ ⟨D3, R5, c5, d5⟩
 refine RO.new (m' := 54) (stepC_ok c0 (by kernel_rfl)) rfl .plain rfl (Does.build (α := TMove) (xs := ([b0] : List TMove)) (vs := [.agg #[vI b0.fUnit, vI b0.fFrom, vI b0.fTo]]) (ds' := [vI b0.fUnit, vI b0.fFrom, vI b0.fTo]) rfl Q0 el46 rfl (e1 rfl) (by kernel_rfl) rfl) (fun F0 p0 d0 g0 => ?_)
 have q0 := Cells.at_ (cs := [vI b0.fUnit, vI b0.fFrom, vI b0.fTo]) (xs := (([b0] : List TMove) : List TMove)) d0 L (Cells.cons (cs := [vI b0.fUnit, vI b0.fFrom, vI b0.fTo]) (ds := []) (mk_TMove b0.fUnit b0.fFrom b0.fTo) (Cells.nil _ _))
 refine RD.nu 0 55 c0 rfl .plain rfl (Does.build (α := TMove) (xs := ([] : List TMove)) (vs := []) (ds' := []) rfl d0 el46 rfl evs_nil (by kernel_rfl) rfl) (fun u1 d1 j0 t0 => ?_)
 have u0 := Cells.at_ (cs := []) (xs := (([] : List TMove) : List TMove)) j0 L (Cells.nil _ _)
 have s0 := Rep.mv0 h2_3 j0
 refine RD.one (i := 3) (readyD_ok c0 (by kernel_rfl)) (RO.doesL (m' := 63) (stepC_ok c0 (by kernel_rfl)) rfl rfl .plain rfl (DoesL.app (α := TMove) (ys := a2.fDone) E0 j0 (fun _ _ => .hd) el46 rfl rfl u0 (Src.rep s0)) (fun B0 V0 ⟨y0, v0, z0, A0⟩ => ?_))
 obtain ⟨E3, z2⟩ := St.arrB v0 (.one (.tl .hd) (.one .hd (.one .hd (.one (.tl .hd) .done))))
 have G2 := Tt t0 (Tt z0 z2)
 have g5 := Cells.mv q0 G2
 have j5 := Cells.mv A0 z2
 exact C0 ((vS p0 1), [vI b0.fUnit, vI b0.fFrom, vI b0.fTo], B0, y0) _ _ ⟨rfl, rfl, rfl, rfl, trivial⟩ ⟨E3, (Tt g0 G2), g5, j5⟩
 refine RO.new (m' := 50) (stepC_ok c0 (by kernel_rfl)) rfl .plain rfl (Does.build (α := TMove) (xs := ([b0] : List TMove)) (vs := [.agg #[vI b0.fUnit, vI b0.fFrom, vI b0.fTo]]) (ds' := [vI b0.fUnit, vI b0.fFrom, vI b0.fTo]) rfl Q0 el46 rfl (e1 rfl) (by kernel_rfl) rfl) (fun F0 p0 d0 g0 => ?_)
 have q0 := Cells.at_ (cs := [vI b0.fUnit, vI b0.fFrom, vI b0.fTo]) (xs := (([b0] : List TMove) : List TMove)) d0 L (Cells.cons (cs := [vI b0.fUnit, vI b0.fFrom, vI b0.fTo]) (ds := []) (mk_TMove b0.fUnit b0.fFrom b0.fTo) (Cells.nil _ _))
 refine RD.vx 2 54 456 c0 rfl D1 (FV.l1 rfl ((d0.memA (.tl (.tl (.tl (.tl .hd))))) 3 _ rfl)) rfl <| RD.nu 0 55 c0 rfl .plain rfl (Does.build (α := TMove) (xs := ([] : List TMove)) (vs := []) (ds' := []) rfl d0 el46 rfl evs_nil (by kernel_rfl) rfl) (fun u1 d1 j0 t0 => ?_)
 have u0 := Cells.at_ (cs := []) (xs := (([] : List TMove) : List TMove)) j0 L (Cells.nil _ _)
 have s0 := Rep.mv0 h2_3 j0
 refine RD.one (i := 3) (readyD_ok c0 (by kernel_rfl)) (RO.doesL (m' := 63) (stepC_ok c0 (by kernel_rfl)) rfl rfl .plain rfl (DoesL.app (α := TMove) (ys := a2.fDone) E0 j0 (fun _ _ => .hd) el46 rfl rfl u0 (Src.rep s0)) (fun B0 V0 ⟨y0, v0, z0, A0⟩ => ?_))
 obtain ⟨F3, A2⟩ := St.arrB v0 (.one (.tl .hd) (.one .hd (.one .hd (.one (.tl .hd) .done))))
 have H2 := Tt t0 (Tt z0 A2)
 have k5 := Cells.mv q0 H2
 have p5 := Cells.mv A0 A2
 exact C0 ((vS p0 1), [vI b0.fUnit, vI b0.fFrom, vI b0.fTo], B0, y0) _ _ ⟨rfl, rfl, rfl, rfl, trivial⟩ ⟨F3, (Tt g0 H2), k5, p5⟩
 refine MX.sr <| RG.va (FV.buildV (vs := []) (u := .agg #[vI 0, vN, vN, vN, vN]) evs_nil (fun w9 => by kernel_rfl)) <| RG.mo rfl <| RG.sa [vI 0, vN, vN, vN, vN] D0 .hd (onesB rfl) (fun X6 Y0 B6 => ?_)
 refine RG.so rfl <| RG.nil <| MX.ret rfl ?_
 have I2 := Rep.nilAt (α := Int) Y0 L
 have J2 := Rep.nilAt (α := TMove) Y0 L
 refine RT.leave hb0 Tryz.func34 rfl (.cons (.many (cs := [vI 0, vN, vN, vN, vN]) (by kernel_rfl) rfl (Y0.memA .hd)) (.cons (.tmp rfl) .nil)) rfl ?_
 cases h
 exact ⟨Y0.ag, fun w9 hw9 => ⟨vN, vN, vN, vN, rfl, Y0.kd I2 hw9, Y0.kd I2 hw9, Y0.kd J2 hw9, Y0.kd J2 hw9⟩⟩
theorem body14 : bodyB Tryz.prog 14 = true := by kernel_rfl
theorem body33 : bodyB Tryz.prog 33 = true := by kernel_rfl
theorem body34 : bodyB Tryz.prog 34 = true := by kernel_rfl
def wardmoteref26_Do_p (n : Nat) (a0 : TGraph) (a1 : TRoll) (a2 : TSession) (a3 : UInt8 × UInt8) : Option (TSession × Int) :=
  jn (fun k0 => (if k0 = true then (wardmoteref26_Undo_p n a0 a1 a2).bind fun d0 => some (d0.1, d0.2) else jn (fun p0 => (if p0 = true then (wardmoteref26_Redo_p n a0 a1 a2).bind fun g0 => some (g0.1, g0.2) else (wardmoteref26_Make_p n a0 a1 a2 ((a3.1.toNat % 16 : Nat) : Int) ((a3.2.toNat % 8 : Nat) : Int)).bind fun j0 => some (j0.1, j0.2))) (fun c0 => (if ((a3.1 % (16 : UInt8)).toNat) = 12 then c0 (decide (((a3.1 % (16 : UInt8)).toNat) = 12)) else c0 (decide (((a3.1 % (16 : UInt8)).toNat) = 11)))))) (fun b0 => (if ((a3.1 % (16 : UInt8)).toNat) = 15 then b0 (decide (((a3.1 % (16 : UInt8)).toNat) = 15)) else (if ((a3.1 % (16 : UInt8)).toNat) = 14 then b0 (decide (((a3.1 % (16 : UInt8)).toNat) = 14)) else b0 (decide (((a3.1 % (16 : UInt8)).toNat) = 13)))))
theorem wardmoteref26_Do_c (n : Nat) (L : List Nat) (w : World) (hL : ∀ b ∈ L, b < w.heap.size) (a0 : TGraph) {v0_1 : Value} (h0_1 : Rep.R w L [v0_1] a0.fEdges) (a1 : TRoll) {v1_3 : Value} (h1_3 : Rep.R w L [v1_3] a1.fUnits) (a2 : TSession) {v2_1 : Value} (h2_1 : Rep.R w L [v2_1] a2.fPlan) {v2_2 : Value} (h2_2 : Rep.R w L [v2_2] a2.fTotals) {v2_3 : Value} (h2_3 : Rep.R w L [v2_3] a2.fDone) {v2_4 : Value} (h2_4 : Rep.R w L [v2_4] a2.fUndone) (a3 : UInt8 × UInt8)  {r : TSession × Int} (h : wardmoteref26_Do_p n a0 a1 a2 a3 = some r) :
    Calls Tryz.prog 40 #[.agg #[vI a0.fN, v0_1], .agg #[vI a1.fGroups, vI a1.fParties, vI a1.fLevels, v1_3], .agg #[vI a2.fK, v2_1, v2_2, v2_3, v2_4], .agg #[.int .u8 (a3.1.toNat : Int), .int .u8 (a3.2.toNat : Int)]] w (Gives w fun w' u => ∃ v0_1 v0_2 v0_3 v0_4 : Value, u = .tuple #[.agg #[vI r.1.fK, v0_1, v0_2, v0_3, v0_4], vI r.2] ∧ Rep.R w' L [v0_1] r.1.fPlan ∧ Rep.R w' L [v0_2] r.1.fTotals ∧ Rep.R w' L [v0_3] r.1.fDone ∧ Rep.R w' L [v0_4] r.1.fUndone) := by
 unfold wardmoteref26_Do_p at h
 have hS0 := St.start w
 refine MX.start Tryz.func40 rfl rfl rfl (fun _ cs0 hb0 => ?_)
 refine MX.sr <| RG.new .plain rfl (Does.box hS0 rfl rfl) (fun w2 b5 hS3 hT4 => ?_)
 refine RG.new .plain rfl (Does.box hS3 rfl rfl) (fun w7 d0 hS8 hT9 => ?_)
 refine RG.new .plain rfl (Does.box hS8 rfl rfl) (fun E2 g0 A1 k2 => ?_)
 refine RG.new .plain rfl (Does.box A1 rfl rfl) (fun F2 j0 B1 p2 => ?_)
 refine RG.new .plain rfl (Does.al [vI 0, vN, vN, vN, vN] B1) (fun d2 k0 v0 q2 => ?_)
 refine RG.so rfl <| RG.nil <| MX.seq <| MX.sr <| RG.va (FV.indexArr (m := 1) (k := 0) (len := 2) (by kernel_rfl) rfl rfl rfl (by omega)) <| RG.l1 rfl ((v0.memA (.tl .hd)) 0 _ rfl) <| RG.va (FV.rem8 (a := a3.1) (b := (16 : UInt8)) rfl rfl (by decide)) <| RG.nil <| MX.block <| MX.seq <| MX.sr <| RG.va (FV.eqlN (i := (a3.1 % (16 : UInt8)).toNat) (j := 15) rfl rfl) <| RG.so rfl <| RG.nil <| MX.join (α := Bool) (fun t0 => [(4, vP b5), (5, vP d0), (6, vP g0), (7, vP j0), (8, vP k0), (12, .int .u8 ((a3.1 % (16 : UInt8)).toNat : Int)), (13, .bool t0)]) (fun t0 A0 => St w A0 [.cells k0 [vI 0, vN, vN, vN, vN] 48, .cells j0 [.int .u8 (a3.1.toNat : Int), .int .u8 (a3.2.toNat : Int)] 34, .cells g0 [vI a2.fK, v2_1, v2_2, v2_3, v2_4] 48, .cells d0 [vI a1.fGroups, vI a1.fParties, vI a1.fLevels, v1_3] 41, .cells b5 [vI a0.fN, v0_1] 38] ∧ Tr d2 [.cells k0 [vI 0, vN, vN, vN, vN] 48, .cells j0 [.int .u8 (a3.1.toNat : Int), .int .u8 (a3.2.toNat : Int)] 34, .cells g0 [vI a2.fK, v2_1, v2_2, v2_3, v2_4] 48, .cells d0 [vI a1.fGroups, vI a1.fParties, vI a1.fLevels, v1_3] 41, .cells b5 [vI a0.fN, v0_1] 38] A0 [.cells k0 [vI 0, vN, vN, vN, vN] 48, .cells j0 [.int .u8 (a3.1.toNat : Int), .int .u8 (a3.2.toNat : Int)] 34, .cells g0 [vI a2.fK, v2_1, v2_2, v2_3, v2_4] 48, .cells d0 [vI a1.fGroups, vI a1.fParties, vI a1.fLevels, v1_3] 41, .cells b5 [vI a0.fN, v0_1] 38]) (fun t0 => t0) h ?_ ?_
 rintro t0 A0 ⟨c0, s2⟩ h
 try dsimp only at h
 refine MX.ifb rfl h (fun y1 h => ?_) (fun y1 h => ?_)
 refine MX.sr <| RG.va (FV.lN rfl (c0.memA (.tl (.tl (.tl (.tl .hd)))))) <| RG.va (FV.lN rfl (c0.memA (.tl (.tl (.tl .hd))))) <| RG.va (FV.lN rfl (c0.memA (.tl (.tl .hd)))) ?_
 obtain ⟨q1, Z1, h⟩ := bi h
 refine RG.call' (fst := []) (cap := []) .plain body33 rfl (e3 rfl rfl rfl) (fun w9 hw9 => wardmoteref26_Undo_c n _ w9 (c0.hL hL hw9) a0 (c0.km h0_1 hw9) a1 (c0.km h1_3 hw9) a2 (c0.km h2_1 hw9) (c0.km h2_2 hw9) (c0.km h2_3 hw9) (c0.km h2_4 hw9) Z1) rfl (fun G2 A2 F1 ⟨C0, D0, E0, F0, hu_, W0, X0, Y0, Z0⟩ => ?_)
 subst hu_
 obtain ⟨C1, t2⟩ := c0.agr F1
 refine RG.va (FV.extract rfl rfl) <| RG.va (FV.extract rfl rfl) <| RG.sa [vI q1.1.fK, C0, D0, E0, F0] C1 .hd (o5 rfl (Rep.o1 W0) (Rep.o1 X0) (Rep.o1 Y0) (Rep.o1 Z0)) (fun H2 q0 y0 => ?_)
 refine RG.so rfl <| RG.nil <| MX.ret rfl <| RT.leave hb0 Tryz.func40 rfl (.cons (.many (cs := [vI q1.1.fK, C0, D0, E0, F0]) (by kernel_rfl) rfl (q0.memA .hd)) (.cons (.tmp rfl) .nil)) rfl ?_
 cases h
 have P1 := Rep.mv W0 y0
 have Q1 := Rep.mv X0 y0
 have R1 := Rep.mv Y0 y0
 have U1 := Rep.mv Z0 y0
 exact ⟨q0.ag, fun w9 hw9 => ⟨C0, D0, E0, F0, rfl, q0.kd P1 hw9, q0.kd Q1 hw9, q0.kd R1 hw9, q0.kd U1 hw9⟩⟩
 refine MX.seq <| MX.sr <| RG.va (FV.eqlN (i := (a3.1 % (16 : UInt8)).toNat) (j := 12) rfl rfl) <| RG.so rfl <| RG.nil <| MX.join (α := Bool) (fun u0 => [(4, vP b5), (5, vP d0), (6, vP g0), (7, vP j0), (8, vP k0), (23, .bool u0)]) (fun u0 R0 => St w R0 [.cells k0 [vI 0, vN, vN, vN, vN] 48, .cells j0 [.int .u8 (a3.1.toNat : Int), .int .u8 (a3.2.toNat : Int)] 34, .cells g0 [vI a2.fK, v2_1, v2_2, v2_3, v2_4] 48, .cells d0 [vI a1.fGroups, vI a1.fParties, vI a1.fLevels, v1_3] 41, .cells b5 [vI a0.fN, v0_1] 38] ∧ Tr A0 [.cells k0 [vI 0, vN, vN, vN, vN] 48, .cells j0 [.int .u8 (a3.1.toNat : Int), .int .u8 (a3.2.toNat : Int)] 34, .cells g0 [vI a2.fK, v2_1, v2_2, v2_3, v2_4] 48, .cells d0 [vI a1.fGroups, vI a1.fParties, vI a1.fLevels, v1_3] 41, .cells b5 [vI a0.fN, v0_1] 38] R0 [.cells k0 [vI 0, vN, vN, vN, vN] 48, .cells j0 [.int .u8 (a3.1.toNat : Int), .int .u8 (a3.2.toNat : Int)] 34, .cells g0 [vI a2.fK, v2_1, v2_2, v2_3, v2_4] 48, .cells d0 [vI a1.fGroups, vI a1.fParties, vI a1.fLevels, v1_3] 41, .cells b5 [vI a0.fN, v0_1] 38]) (fun u0 => u0) h ?_ ?_
 rintro u0 R0 ⟨b0, u2⟩ h
 try dsimp only at h
 refine MX.ifb rfl h (fun z1 h => ?_) (fun z1 h => ?_)
 refine MX.sr <| RG.va (FV.lN rfl (b0.memA (.tl (.tl (.tl (.tl .hd)))))) <| RG.va (FV.lN rfl (b0.memA (.tl (.tl (.tl .hd))))) <| RG.va (FV.lN rfl (b0.memA (.tl (.tl .hd)))) ?_
 obtain ⟨s1, b2, h⟩ := bi h
 refine RG.call' (fst := []) (cap := []) .plain body34 rfl (e3 rfl rfl rfl) (fun w9 hw9 => wardmoteref26_Redo_c n _ w9 (b0.hL hL hw9) a0 (b0.km h0_1 hw9) a1 (b0.km h1_3 hw9) a2 (b0.km h2_1 hw9) (b0.km h2_2 hw9) (b0.km h2_3 hw9) (b0.km h2_4 hw9) b2) rfl (fun I2 B2 G1 ⟨G0, H0, I0, J0, hu_, b1, c1, d1, g1⟩ => ?_)
 subst hu_
 obtain ⟨D1, v2⟩ := b0.agr G1
 refine RG.va (FV.extract rfl rfl) <| RG.va (FV.extract rfl rfl) <| RG.sa [vI s1.1.fK, G0, H0, I0, J0] D1 .hd (o5 rfl (Rep.o1 b1) (Rep.o1 c1) (Rep.o1 d1) (Rep.o1 g1)) (fun J2 s0 z0 => ?_)
 refine RG.so rfl <| RG.nil <| MX.ret rfl <| RT.leave hb0 Tryz.func40 rfl (.cons (.many (cs := [vI s1.1.fK, G0, H0, I0, J0]) (by kernel_rfl) rfl (s0.memA .hd)) (.cons (.tmp rfl) .nil)) rfl ?_
 cases h
 have V1 := Rep.mv b1 z0
 have W1 := Rep.mv c1 z0
 have X1 := Rep.mv d1 z0
 have Y1 := Rep.mv g1 z0
 exact ⟨s0.ag, fun w9 hw9 => ⟨G0, H0, I0, J0, rfl, s0.kd V1 hw9, s0.kd W1 hw9, s0.kd X1 hw9, s0.kd Y1 hw9⟩⟩
 refine MX.skip <| MX.inBlock <| MX.sr <| RG.va (FV.lN rfl (b0.memA (.tl (.tl (.tl (.tl .hd)))))) <| RG.va (FV.lN rfl (b0.memA (.tl (.tl (.tl .hd))))) <| RG.va (FV.lN rfl (b0.memA (.tl (.tl .hd)))) <| RG.va (FV.indexArr (m := 1) (k := 0) (len := 2) (by kernel_rfl) rfl rfl rfl (by omega)) <| RG.l1 rfl ((b0.memA (.tl .hd)) 0 _ rfl) ?_
 have y2 := a3.1.toNat_lt
 refine RG.va (FV.convN (i := a3.1.toNat) Tryz.underlying5 Tryz.underlying3 rfl (by omega)) <| RG.va (FV.remN (i := a3.1.toNat) (j := 16) rfl rfl rfl) <| RG.va (FV.indexArr (m := 1) (k := 1) (len := 2) (by kernel_rfl) rfl rfl rfl (by omega)) <| RG.l1 rfl ((b0.memA (.tl .hd)) 1 _ rfl) ?_
 have z2 := a3.2.toNat_lt
 refine RG.va (FV.convN (i := a3.2.toNat) Tryz.underlying5 Tryz.underlying3 rfl (by omega)) <| RG.va (FV.remN (i := a3.2.toNat) (j := 8) rfl rfl rfl) ?_
 obtain ⟨t1, c2, h⟩ := bi h
 refine RG.call' (fst := []) (cap := []) .plain body14 rfl (e5 rfl rfl rfl rfl rfl) (fun w9 hw9 => wardmoteref26_Make_c n _ w9 (b0.hL hL hw9) a0 (b0.km h0_1 hw9) a1 (b0.km h1_3 hw9) a2 (b0.km h2_1 hw9) (b0.km h2_2 hw9) (b0.km h2_3 hw9) (b0.km h2_4 hw9) ((a3.1.toNat % 16 : Nat) : Int) ((a3.2.toNat % 8 : Nat) : Int) c2) rfl (fun K2 C2 H1 ⟨K0, M0, P0, Q0, hu_, j1, k1, p1, V0⟩ => ?_)
 subst hu_
 obtain ⟨E1, x2⟩ := b0.agr H1
 refine RG.va (FV.extract rfl rfl) <| RG.va (FV.extract rfl rfl) <| RG.sa [vI t1.1.fK, K0, M0, P0, Q0] E1 .hd (o5 rfl (Rep.o1 j1) (Rep.o1 k1) (Rep.o1 p1) (Rep.o1 V0)) (fun D2 p0 x0 => ?_)
 refine RG.so rfl <| RG.nil <| MX.ret rfl <| RT.leave hb0 Tryz.func40 rfl (.cons (.many (cs := [vI t1.1.fK, K0, M0, P0, Q0]) (by kernel_rfl) rfl (p0.memA .hd)) (.cons (.tmp rfl) .nil)) rfl ?_
 cases h
 have I1 := Rep.mv j1 x0
 have J1 := Rep.mv k1 x0
 have K1 := Rep.mv p1 x0
 have M1 := Rep.mv V0 x0
 exact ⟨p0.ag, fun w9 hw9 => ⟨K0, M0, P0, Q0, rfl, p0.kd I1 hw9, p0.kd J1 hw9, p0.kd K1 hw9, p0.kd M1 hw9⟩⟩
 intro j2 U0 h
 try dsimp only at h
 refine MX.ifd rfl h (fun u1 h => ?_) (fun u1 h => ?_)
 refine MX.skip ?_
 exact U0 (decide (((a3.1 % (16 : UInt8)).toNat) = 12)) _ _ ⟨rfl, rfl, rfl, rfl, rfl, rfl, trivial⟩ ⟨c0, Tr.refl _ _⟩ h
 refine MX.region <| RG.va (FV.eqlN (i := (a3.1 % (16 : UInt8)).toNat) (j := 11) rfl rfl) <| RG.so rfl <| RG.nil ?_
 exact U0 (decide (((a3.1 % (16 : UInt8)).toNat) = 11)) _ _ ⟨rfl, rfl, rfl, rfl, rfl, rfl, trivial⟩ ⟨c0, Tr.refl _ _⟩ h
 intro g2 B0 h
 try dsimp only at h
 refine MX.ifd rfl h (fun v1 h => ?_) (fun v1 h => ?_)
 refine MX.skip ?_
 exact B0 (decide (((a3.1 % (16 : UInt8)).toNat) = 15)) _ _ ⟨rfl, rfl, rfl, rfl, rfl, rfl, rfl, trivial⟩ ⟨v0, Tr.refl _ _⟩ h
 refine MX.sr <| RG.va (FV.eqlN (i := (a3.1 % (16 : UInt8)).toNat) (j := 14) rfl rfl) <| RG.so rfl <| RG.nil <| MX.ifd rfl h (fun x1 h => ?_) (fun x1 h => ?_)
 refine MX.skip ?_
 exact B0 (decide (((a3.1 % (16 : UInt8)).toNat) = 14)) _ _ ⟨rfl, rfl, rfl, rfl, rfl, rfl, rfl, trivial⟩ ⟨v0, Tr.refl _ _⟩ h
 refine MX.region <| RG.va (FV.eqlN (i := (a3.1 % (16 : UInt8)).toNat) (j := 13) rfl rfl) <| RG.so rfl <| RG.nil ?_
 exact B0 (decide (((a3.1 % (16 : UInt8)).toNat) = 13)) _ _ ⟨rfl, rfl, rfl, rfl, rfl, rfl, rfl, trivial⟩ ⟨v0, Tr.refl _ _⟩ h
def tb11_5 : List (Nat × Nat × Nat) := [(0, 68719476736, 64), (0, 137438953472, 128), (0, 274877906944, 2048), (0, 549755813888, 32), (8, 1099511627776, 549755813888), (0, 2199023255552, 8192), (48, 4398046511104, 3298534883328), (64, 8796093022208, 4398046511104), (135, 17592186044416, 9277129359360), (256, 34359738368, 17592186044416), (512, 35184372088832, 34359738368), (512, 70368744177664, 34359738368), (0, 16384, 0), (6143, 0, 35184372105216), (16383, 32768, 70368744177664)]
theorem body36 : bodyB Tryz.prog 36 = true := by kernel_rfl
theorem body40 : bodyB Tryz.prog 40 = true := by kernel_rfl
def wardmoteref26_Draft_Session_l1 (n : Nat) (a0 : TDraft28) (a1 : TGraph) (a2 : TRoll) (q0 : Nat × Int × (List Int) × (List Int) × (List TMove) × (List TMove) → Option (Int × (List Int) × (List Int) × (List TMove) × (List TMove))) : Nat × Int × (List Int) × (List Int) × (List TMove) × (List TMove) → Option (Int × (List Int) × (List Int) × (List TMove) × (List TMove))
  | (c0, p0, d0, g0, j0, k0) => (if c0 < a0.fL.length then (if c0 < 12 then (a0.fL[c0]?).bind fun s0 => (wardmoteref26_Do_p n a1 a2 (⟨p0, d0, g0, j0, k0⟩ : TSession) s0).bind fun b0 => (if b0.2 = 0 then q0 (c0 + 1, b0.1.fK, b0.1.fPlan, b0.1.fTotals, b0.1.fDone, b0.1.fUndone) else q0 (c0 + 1, p0, d0, g0, j0, k0)) else some (p0, d0, g0, j0, k0)) else some (p0, d0, g0, j0, k0))
def wardmoteref26_Draft_Session_p (n : Nat) (a0 : TDraft28) (a1 : TGraph) (a2 : TRoll) (a3 : List Int) (a4 : Int) : Option TSession :=
  (wardmoteref26_Start_p n a1 a2 a3 a4).bind fun b0 => jn (fun (p0, d0, g0, j0, k0) => some (⟨p0, d0, g0, j0, k0⟩ : TSession)) (fun c0 => Option.bind (loopF (wardmoteref26_Draft_Session_l1 n a0 a1 a2) n (0, b0.1.fK, b0.1.fPlan, b0.1.fTotals, b0.1.fDone, b0.1.fUndone)) (c0))
theorem wardmoteref26_Draft_Session_c (n : Nat) (L : List Nat) (w : World) (hL : ∀ b ∈ L, b < w.heap.size) (a0 : TDraft28) {v0_0 : Value} (h0_0 : Rep.R w L [v0_0] a0.fL) (a1 : TGraph) {v1_1 : Value} (h1_1 : Rep.R w L [v1_1] a1.fEdges) (a2 : TRoll) {v2_3 : Value} (h2_3 : Rep.R w L [v2_3] a2.fUnits) (a3 : List Int) {v3_0 : Value} (h3_0 : Rep.R w L [v3_0] a3) (a4 : Int)  {r : TSession} (h : wardmoteref26_Draft_Session_p n a0 a1 a2 a3 a4 = some r) :
    Calls Tryz.prog 11 #[.agg #[v0_0], .agg #[vI a1.fN, v1_1], .agg #[vI a2.fGroups, vI a2.fParties, vI a2.fLevels, v2_3], v3_0, vI a4] w (Gives w fun w' u => ∃ v0_1 v0_2 v0_3 v0_4 : Value, u = .agg #[vI r.fK, v0_1, v0_2, v0_3, v0_4] ∧ Rep.R w' L [v0_1] r.fPlan ∧ Rep.R w' L [v0_2] r.fTotals ∧ Rep.R w' L [v0_3] r.fDone ∧ Rep.R w' L [v0_4] r.fUndone) := by
 unfold wardmoteref26_Draft_Session_p at h
 have hS0 := St.start w
 refine MX.start Tryz.func11 rfl rfl rfl (fun _ cs0 hb0 => ?_)
 refine MX.sr <| RG.new .plain rfl (Does.box hS0 rfl rfl) (fun w2 b5 hS3 hT4 => ?_)
 refine RG.new .plain rfl (Does.box hS3 rfl rfl) (fun w7 s0 hS8 hT9 => ?_)
 refine RG.new .plain rfl (Does.box hS8 rfl rfl) (fun g5 t0 x2 R4 => ?_)
 refine RG.new .plain rfl (Does.al [vI 0, vN, vN, vN, vN] x2) (fun k5 b0 Q0 V4 => ?_)
 refine RG.nil <| MX.sr <| RG.va (FV.lN rfl (Q0.memA (.tl (.tl .hd)))) <| RG.va (FV.lN rfl (Q0.memA (.tl .hd))) <| RG.mo rfl <| RG.mo rfl ?_
 obtain ⟨P0, z4, h⟩ := bi h
 refine RG.call' (fst := []) (cap := []) .plain body36 rfl (e4 rfl rfl rfl rfl) (fun w9 hw9 => wardmoteref26_Start_c n _ w9 (Q0.hL hL hw9) a1 (Q0.km h1_1 hw9) a2 (Q0.km h2_3 hw9) a3 (Q0.km h3_0 hw9) a4 z4) rfl (fun p5 d5 V2 ⟨C1, D1, E1, F1, hu_, d2, g2, j2, k2⟩ => ?_)
 subst hu_
 obtain ⟨G2, W4⟩ := Q0.agr V2
 refine RG.mo rfl <| RG.va (FV.extract rfl rfl) <| RG.va (FV.extract rfl rfl) <| RG.new .plain rfl (Does.al [vI 0, vN, vN, vN, vN] G2) (fun v5 c0 H2 K0 => ?_)
 have Z3 := Rep.mv d2 K0
 have b4 := Rep.mv g2 K0
 have c4 := Rep.mv j2 K0
 have d4 := Rep.mv k2 K0
 refine RG.sa [vI P0.1.fK, C1, D1, E1, F1] H2 .hd (o5 rfl (Rep.o1 Z3) (Rep.o1 b4) (Rep.o1 c4) (Rep.o1 d4)) (fun q2 I2 B1 => ?_)
 refine RG.so rfl <| RG.nil <| MX.seq <| MX.sr <| RG.so rfl <| RG.nil <| MX.block <| MX.joinx (α := Int × (List Int) × (List Int) × (List TMove) × (List TMove) × Value × Value × Value × Value) (fun ⟨D0, u1, v1, x1, y1, z0, A0, B0, C0⟩ => [(10, vP b0), (11, vP c0)]) (fun ⟨D0, u1, v1, x1, y1, z0, A0, B0, C0⟩ X0 => St w X0 [.cells c0 [vI D0, z0, A0, B0, C0] 48, .cells b0 [vI 0, vN, vN, vN, vN] 48] ∧ Tr q2 [.cells c0 [vI P0.1.fK, C1, D1, E1, F1] 48, .cells b0 [vI 0, vN, vN, vN, vN] 48, .cells t0 [vI a2.fGroups, vI a2.fParties, vI a2.fLevels, v2_3] 41, .cells s0 [vI a1.fN, v1_1] 38, .cells b5 [v0_0] 29] X0 [.cells c0 [vI D0, z0, A0, B0, C0] 48, .cells b0 [vI 0, vN, vN, vN, vN] 48] ∧ Rep.R X0 (bl [.cells c0 [vI D0, z0, A0, B0, C0] 48, .cells b0 [vI 0, vN, vN, vN, vN] 48] ++ L) [z0] u1 ∧ Rep.R X0 (bl [.cells c0 [vI D0, z0, A0, B0, C0] 48, .cells b0 [vI 0, vN, vN, vN, vN] 48] ++ L) [A0] v1 ∧ Rep.R X0 (bl [.cells c0 [vI D0, z0, A0, B0, C0] 48, .cells b0 [vI 0, vN, vN, vN, vN] 48] ++ L) [B0] x1 ∧ Rep.R X0 (bl [.cells c0 [vI D0, z0, A0, B0, C0] 48, .cells b0 [vI 0, vN, vN, vN, vN] 48] ++ L) [C0] y1) (fun ⟨D0, u1, v1, x1, y1, z0, A0, B0, C0⟩ => (D0, u1, v1, x1, y1)) (id := 0) rfl h ?_ ?_
 rintro ⟨D0, u1, v1, x1, y1, z0, A0, B0, C0⟩ X0 ⟨V1, U4, Y1, Z1, b2, c2⟩ h
 try dsimp only at h
 refine MX.sr <| RG.va (FV.lN rfl (V1.memA .hd)) <| RG.sa [vI D0, z0, A0, B0, C0] V1 (.tl .hd) (o5 rfl (Rep.o1 Y1) (Rep.o1 Z1) (Rep.o1 b2) (Rep.o1 c2)) (fun j5 Z0 z1 => ?_)
 refine RG.nil <| MX.ret rfl <| RT.leave hb0 Tryz.func11 rfl (.cons (.many (cs := [vI D0, z0, A0, B0, C0]) (by kernel_rfl) rfl (Z0.memA (.tl .hd))) .nil) rfl ?_
 cases h
 have Y2 := Rep.mv Y1 z1
 have Z2 := Rep.mv Z1 z1
 have b3 := Rep.mv b2 z1
 have c3 := Rep.mv c2 z1
 exact ⟨Z0.ag, fun w9 hw9 => ⟨z0, A0, B0, C0, rfl, Z0.kd Y2 hw9, Z0.kd Z2 hw9, Z0.kd b3 hw9, Z0.kd c3 hw9⟩⟩
 intro K4 Q1 h
 try dsimp only at h
 have d3 := Rep.mv d2 (Tt K0 B1)
 have g3 := Rep.mv g2 (Tt K0 B1)
 have j3 := Rep.mv j2 (Tt K0 B1)
 have k3 := Rep.mv k2 (Tt K0 B1)
 obtain ⟨Y4, g4, X1⟩ := bind_in2 h
 refine MX.loop (α := Nat × Int × (List Int) × (List Int) × (List TMove) × (List TMove) × Value × Value × Value × Value) (fun ⟨y0, g0, F0, G0, H0, I0, j0, k0, p0, q0⟩ => [(5, vP b5), (6, vP s0), (7, vP t0), (10, vP b0), (11, vP c0), (13, vI ((y0 : Nat) : Int))]) (fun ⟨y0, g0, F0, G0, H0, I0, j0, k0, p0, q0⟩ M0 => St w M0 [.cells c0 [vI g0, j0, k0, p0, q0] 48, .cells b0 [vI 0, vN, vN, vN, vN] 48, .cells t0 [vI a2.fGroups, vI a2.fParties, vI a2.fLevels, v2_3] 41, .cells s0 [vI a1.fN, v1_1] 38, .cells b5 [v0_0] 29] ∧ Tr q2 [.cells c0 [vI P0.1.fK, C1, D1, E1, F1] 48, .cells b0 [vI 0, vN, vN, vN, vN] 48, .cells t0 [vI a2.fGroups, vI a2.fParties, vI a2.fLevels, v2_3] 41, .cells s0 [vI a1.fN, v1_1] 38, .cells b5 [v0_0] 29] M0 [.cells c0 [vI g0, j0, k0, p0, q0] 48, .cells b0 [vI 0, vN, vN, vN, vN] 48, .cells t0 [vI a2.fGroups, vI a2.fParties, vI a2.fLevels, v2_3] 41, .cells s0 [vI a1.fN, v1_1] 38, .cells b5 [v0_0] 29] ∧ Rep.R M0 (bl [.cells c0 [vI g0, j0, k0, p0, q0] 48, .cells b0 [vI 0, vN, vN, vN, vN] 48, .cells t0 [vI a2.fGroups, vI a2.fParties, vI a2.fLevels, v2_3] 41, .cells s0 [vI a1.fN, v1_1] 38, .cells b5 [v0_0] 29] ++ L) [j0] F0 ∧ Rep.R M0 (bl [.cells c0 [vI g0, j0, k0, p0, q0] 48, .cells b0 [vI 0, vN, vN, vN, vN] 48, .cells t0 [vI a2.fGroups, vI a2.fParties, vI a2.fLevels, v2_3] 41, .cells s0 [vI a1.fN, v1_1] 38, .cells b5 [v0_0] 29] ++ L) [k0] G0 ∧ Rep.R M0 (bl [.cells c0 [vI g0, j0, k0, p0, q0] 48, .cells b0 [vI 0, vN, vN, vN, vN] 48, .cells t0 [vI a2.fGroups, vI a2.fParties, vI a2.fLevels, v2_3] 41, .cells s0 [vI a1.fN, v1_1] 38, .cells b5 [v0_0] 29] ++ L) [p0] H0 ∧ Rep.R M0 (bl [.cells c0 [vI g0, j0, k0, p0, q0] 48, .cells b0 [vI 0, vN, vN, vN, vN] 48, .cells t0 [vI a2.fGroups, vI a2.fParties, vI a2.fLevels, v2_3] 41, .cells s0 [vI a1.fN, v1_1] 38, .cells b5 [v0_0] 29] ++ L) [q0] I0) (fun ⟨y0, g0, F0, G0, H0, I0, j0, k0, p0, q0⟩ => (y0, g0, F0, G0, H0, I0)) (0, P0.1.fK, P0.1.fPlan, P0.1.fTotals, P0.1.fDone, P0.1.fUndone, C1, D1, E1, F1) g4 ⟨rfl, rfl, rfl, rfl, rfl, rfl, trivial⟩ ⟨I2, Tr.refl _ _, d3, g3, j3, k3⟩ ?_
 rintro M4 ⟨y0, g0, F0, G0, H0, I0, j0, k0, p0, q0⟩ M0 R1 ⟨x0, A1, p1, q1, s1, t1⟩ h
 unfold wardmoteref26_Draft_Session_l1 at h
 try dsimp only at h
 refine MX.seq <| MX.sr <| RG.mo rfl <| RG.fa 0 rfl <| RG.va (FV.l1 rfl ((x0.memA (.tl (.tl (.tl (.tl .hd))))) 0 _ rfl)) ?_
 have I1 := Rep.mv0 h0_0 x0
 have X4 : a0.fL.length ≤ 281474976710656 := Rep.lenle I1
 refine RG.va (FV.len (xs := a0.fL) Tryz.underlying23 rfl I1) <| RG.va (FV.lssN (i := y0) (j := a0.fL.length) rfl rfl) <| RG.mo rfl <| RG.ifd (s := 29) rfl h (fun t2 h => ?_) (fun t2 h => ?_)
 refine RG.ga (FV.move rfl) <| RG.ga (FV.lssN (i := y0) (j := 12) rfl rfl) <| RG.pt rfl rfl <| RG.nil <| MX.ifd rfl h (fun u2 h => ?_) (fun u2 h => ?_)
 refine MX.skip <| MX.seq <| MX.block <| MX.seq <| MX.drawT 13 tb11_5 (by kernel_rfl) (by kernel_rfl) (by kernel_rfl) (fun d0 u0 => ?_)
 refine RD.vx 0 1 28416 d0 rfl u0 (FV.lN rfl (x0.memA (.tl (.tl (.tl .hd))))) rfl <| RD.vx 1 3 28416 d0 rfl u0 (FV.lN rfl (x0.memA (.tl (.tl .hd)))) rfl <| RD.vx 2 7 28416 d0 rfl u0 (FV.lN rfl (x0.memA .hd)) rfl <| RD.vw 3 15 d0 rfl u0 (fun _ => FV.fa 0 rfl) rfl <| RD.vx 4 31 28608 d0 rfl u0 (FV.l1 rfl ((x0.memA (.tl (.tl (.tl (.tl .hd))))) 0 _ rfl)) rfl <| RD.vw 5 63 d0 rfl u0 (fun _ => FV.move rfl) rfl ?_
 obtain ⟨s2, y4, h⟩ := bi h
 obtain ⟨J4, P4, W2, X2, Q4, j4, p3⟩ := Rep.nth I1 y4
 obtain rfl := op_A34 j4
 refine RD.vw 6 127 d0 rfl u0 (fun _ => FV.ia 2 y0 rfl W2 rfl rfl X2) rfl <| RD.vx 7 255 28416 d0 rfl u0 (FV.lN rfl p3) rfl ?_
 obtain ⟨v0, p2, h⟩ := bi h
 refine RD.meet (α := Value × Value × Value × Value × Nat) (fun ⟨R0, U0, V0, W0, J0⟩ => [(5, vP b5), (6, vP s0), (7, vP t0), (10, vP b0), (11, vP c0), (13, vI ((y0 : Nat) : Int)), (45, .agg #[vI v0.1.fK, R0, U0, V0, W0]), (46, vI v0.2), (14, vP J0)]) (fun ⟨R0, U0, V0, W0, J0⟩ Y0 => St w Y0 [.cells J0 [vI 0, vN, vN, vN, vN] 48, .cells c0 [vI g0, j0, k0, p0, q0] 48, .cells b0 [vI 0, vN, vN, vN, vN] 48, .cells t0 [vI a2.fGroups, vI a2.fParties, vI a2.fLevels, v2_3] 41, .cells s0 [vI a1.fN, v1_1] 38, .cells b5 [v0_0] 29] ∧ Tr M0 [.cells c0 [vI g0, j0, k0, p0, q0] 48, .cells b0 [vI 0, vN, vN, vN, vN] 48, .cells t0 [vI a2.fGroups, vI a2.fParties, vI a2.fLevels, v2_3] 41, .cells s0 [vI a1.fN, v1_1] 38, .cells b5 [v0_0] 29] Y0 [.cells J0 [vI 0, vN, vN, vN, vN] 48, .cells c0 [vI g0, j0, k0, p0, q0] 48, .cells b0 [vI 0, vN, vN, vN, vN] 48, .cells t0 [vI a2.fGroups, vI a2.fParties, vI a2.fLevels, v2_3] 41, .cells s0 [vI a1.fN, v1_1] 38, .cells b5 [v0_0] 29] ∧ Rep.R Y0 (bl [.cells J0 [vI 0, vN, vN, vN, vN] 48, .cells c0 [vI g0, j0, k0, p0, q0] 48, .cells b0 [vI 0, vN, vN, vN, vN] 48, .cells t0 [vI a2.fGroups, vI a2.fParties, vI a2.fLevels, v2_3] 41, .cells s0 [vI a1.fN, v1_1] 38, .cells b5 [v0_0] 29] ++ L) [R0] v0.1.fPlan ∧ Rep.R Y0 (bl [.cells J0 [vI 0, vN, vN, vN, vN] 48, .cells c0 [vI g0, j0, k0, p0, q0] 48, .cells b0 [vI 0, vN, vN, vN, vN] 48, .cells t0 [vI a2.fGroups, vI a2.fParties, vI a2.fLevels, v2_3] 41, .cells s0 [vI a1.fN, v1_1] 38, .cells b5 [v0_0] 29] ++ L) [U0] v0.1.fTotals ∧ Rep.R Y0 (bl [.cells J0 [vI 0, vN, vN, vN, vN] 48, .cells c0 [vI g0, j0, k0, p0, q0] 48, .cells b0 [vI 0, vN, vN, vN, vN] 48, .cells t0 [vI a2.fGroups, vI a2.fParties, vI a2.fLevels, v2_3] 41, .cells s0 [vI a1.fN, v1_1] 38, .cells b5 [v0_0] 29] ++ L) [V0] v0.1.fDone ∧ Rep.R Y0 (bl [.cells J0 [vI 0, vN, vN, vN, vN] 48, .cells c0 [vI g0, j0, k0, p0, q0] 48, .cells b0 [vI 0, vN, vN, vN, vN] 48, .cells t0 [vI a2.fGroups, vI a2.fParties, vI a2.fLevels, v2_3] 41, .cells s0 [vI a1.fN, v1_1] 38, .cells b5 [v0_0] 29] ++ L) [W0] v0.1.fUndone) 2 8191 ?_ ?_
 rintro ⟨R0, U0, V0, W0, J0⟩ Y0 ⟨A2, W1, J1, K1, M1, P1⟩
 try dsimp only
 refine RD.nw 13 16383 d0 rfl rfl .plain (Acts.storeAll (news := [vI v0.1.fK, R0, U0, V0, W0]) A2 .hd rfl rfl rfl rfl rfl rfl (o5 rfl (Rep.o1 J1) (Rep.o1 K1) (Rep.o1 M1) (Rep.o1 P1))) (fun t5 H1 c1 => ?_)
 refine RD.one (i := 14) (readyD_ok d0 (by kernel_rfl)) (RO.val (m' := 32767) (stepC_ok d0 (by kernel_rfl)) rfl .plain rfl (FV.assign rfl) ?_)
 refine RD.done (doneD_ok d0 (by kernel_rfl)) <| MX.sr <| RG.mo rfl <| RG.va (FV.eql (i := v0.2) (j := 0) rfl rfl) <| RG.nil <| MX.ifd rfl h (fun v2 h => ?_) (fun v2 h => ?_)
 refine MX.region <| RG.va (FV.lN rfl (H1.memA .hd)) ?_
 have v3 := Rep.mv J1 c1
 have x3 := Rep.mv K1 c1
 have y3 := Rep.mv M1 c1
 have z3 := Rep.mv P1 c1
 refine RG.sa [vI v0.1.fK, R0, U0, V0, W0] H1 (.tl .hd) (o5 rfl (Rep.o1 v3) (Rep.o1 x3) (Rep.o1 y3) (Rep.o1 z3)) (fun u5 B2 M2 => ?_)
 refine RG.nil <| MX.inBlock <| MX.region <| RG.mo rfl <| RG.va (FV.addN (i := y0) (j := 1) rfl rfl (by omega)) <| RG.so rfl <| RG.nil ?_
 obtain ⟨C2, P2⟩ := St.arrB B2 (.one (.tl .hd) (.one (.tl .hd) (.one (.tl .hd) (.one (.tl .hd) (.one (.tl .hd) .done)))))
 have j1 := Tt c1 (Tt M2 P2)
 have A3 := Rep.mv J1 j1
 have B3 := Rep.mv K1 j1
 have C3 := Rep.mv M1 j1
 have D3 := Rep.mv P1 j1
 exact R1 (y0 + 1, v0.1.fK, v0.1.fPlan, v0.1.fTotals, v0.1.fDone, v0.1.fUndone, R0, U0, V0, W0) _ _ ⟨rfl, rfl, rfl, rfl, rfl, rfl, trivial⟩ ⟨C2, (Tt A1 (Tt W1 j1)), A3, B3, C3, D3⟩ h
 refine MX.skip <| MX.inBlock <| MX.region <| RG.mo rfl <| RG.va (FV.addN (i := y0) (j := 1) rfl rfl (by omega)) <| RG.so rfl <| RG.nil ?_
 obtain ⟨D2, Q2⟩ := St.arrB H1 (.one (.tl .hd) (.one (.tl .hd) (.one (.tl .hd) (.one (.tl .hd) (.one (.tl .hd) .done)))))
 have k1 := Tt W1 (Tt c1 Q2)
 have E3 := Rep.mv p1 k1
 have F3 := Rep.mv q1 k1
 have G3 := Rep.mv s1 k1
 have H3 := Rep.mv t1 k1
 exact R1 (y0 + 1, g0, F0, G0, H0, I0, j0, k0, p0, q0) _ _ ⟨rfl, rfl, rfl, rfl, rfl, rfl, trivial⟩ ⟨D2, (Tt A1 k1), E3, F3, G3, H3⟩ h
 intro U1
 refine RD.each [8, 12] (readyD_ok d0 (by kernel_rfl)) ⟨?_, ?_, trivial⟩
 refine RO.call (m' := 511) (fst := []) (cap := []) (stepC_ok d0 (by kernel_rfl)) rfl .plain body40 rfl (e4 rfl rfl rfl rfl) (fun w9 hw9 => wardmoteref26_Do_c n _ w9 (x0.hL hL hw9) a1 (x0.km h1_1 hw9) a2 (x0.km h2_3 hw9) (⟨g0, F0, G0, H0, I0⟩ : TSession) (Rep.keep0 p1 hw9) (Rep.keep0 q1 hw9) (Rep.keep0 s1 hw9) (Rep.keep0 t1 hw9) s2 p2) rfl (fun q5 Z4 R2 ⟨A4, B4, C4, D4, hu_, k4, p4, q4, s4⟩ => ?_)
 subst hu_
 obtain ⟨y2, J2⟩ := x0.agr R2
 refine RD.vw 9 1023 d0 rfl u0 (fun _ => FV.move rfl) rfl <| RD.vw 10 2047 d0 rfl u0 (fun _ => FV.extract rfl rfl) rfl <| RD.vw 11 4095 d0 rfl u0 (fun _ => FV.extract rfl rfl) rfl <| RD.nu 12 8191 d0 rfl .plain rfl (Does.al [vI 0, vN, vN, vN, vN] y2) (fun I4 G1 b1 E0 => ?_)
 have I3 := Rep.mv k4 E0
 have J3 := Rep.mv p4 E0
 have K3 := Rep.mv q4 E0
 have M3 := Rep.mv s4 E0
 exact U1 (A4, B4, C4, D4, G1) _ _ ⟨rfl, rfl, rfl, rfl, rfl, rfl, rfl, rfl, rfl, trivial⟩ ⟨b1, (Tt J2 E0), I3, J3, K3, M3⟩
 refine RO.new (m' := 4351) (stepC_ok d0 (by kernel_rfl)) rfl .plain rfl (Does.al [vI 0, vN, vN, vN, vN] x0) (fun I4 G1 b1 E0 => ?_)
 have q3 := Rep.mv p1 E0
 have s3 := Rep.mv q1 E0
 have t3 := Rep.mv s1 E0
 have u3 := Rep.mv t1 E0
 refine RD.cl 8 4607 d0 rfl .plain body40 rfl (e4 rfl rfl rfl rfl) (fun w9 hw9 => wardmoteref26_Do_c n _ w9 (b1.hL hL hw9) a1 (b1.km h1_1 hw9) a2 (b1.km h2_3 hw9) (⟨g0, F0, G0, H0, I0⟩ : TSession) (Rep.keep0 q3 hw9) (Rep.keep0 s3 hw9) (Rep.keep0 t3 hw9) (Rep.keep0 u3 hw9) s2 p2) rfl (fun s5 c5 U2 ⟨E4, F4, G4, H4, hu_, t4, u4, v4, x4⟩ => ?_)
 subst hu_
 obtain ⟨z2, K2⟩ := b1.agr U2
 refine RD.vw 9 5119 d0 rfl u0 (fun _ => FV.move rfl) rfl <| RD.vw 10 6143 d0 rfl u0 (fun _ => FV.extract rfl rfl) rfl <| RD.vw 11 8191 d0 rfl u0 (fun _ => FV.extract rfl rfl) rfl ?_
 exact U1 (E4, F4, G4, H4, G1) _ _ ⟨rfl, rfl, rfl, rfl, rfl, rfl, rfl, rfl, rfl, trivial⟩ ⟨z2, (Tt E0 K2), t4, u4, v4, x4⟩
 refine MX.exit rfl ?_
 have h := X1 _ h
 try dsimp only at h
 obtain ⟨E2, d1⟩ := St.arrB x0 (.one .hd (.one .hd .done))
 have P3 := Rep.mv p1 d1
 have Q3 := Rep.mv q1 d1
 have R3 := Rep.mv s1 d1
 have U3 := Rep.mv t1 d1
 exact Q1 (g0, F0, G0, H0, I0, j0, k0, p0, q0) _ _ ⟨rfl, rfl, trivial⟩ ⟨E2, (Tt A1 d1), P3, Q3, R3, U3⟩ h
 refine RG.no <| RG.no <| RG.pf rfl rfl <| RG.nil <| MX.cond_f rfl <| MX.exit rfl ?_
 have h := X1 _ h
 try dsimp only at h
 obtain ⟨F2, g1⟩ := St.arrB x0 (.one .hd (.one .hd .done))
 have V3 := Rep.mv p1 g1
 have W3 := Rep.mv q1 g1
 have X3 := Rep.mv s1 g1
 have Y3 := Rep.mv t1 g1
 exact Q1 (g0, F0, G0, H0, I0, j0, k0, p0, q0) _ _ ⟨rfl, rfl, trivial⟩ ⟨F2, (Tt A1 g1), V3, W3, X3, Y3⟩ h
def cmp_Less_int_p (n : Nat) (a0 : Int) (a1 : Int) : Option Bool :=
  (cmp_isNaN_int_p n a0).bind fun y1 => (if y1 = true then (cmp_isNaN_int_p n a1).bind fun y3 => (if y3 = true then some (decide (a0 < a1)) else some true) else some (decide (a0 < a1)))
theorem cmp_Less_int_c (n : Nat) (L : List Nat) (w : World) (hL : ∀ b ∈ L, b < w.heap.size) (a0 : Int) (a1 : Int)  {r : Bool} (h : cmp_Less_int_p n a0 a1 = some r) :
    Calls Tryz.prog 62 #[vI a0, vI a1] w (Gives w fun _ u => u = .bool r) := by
 unfold cmp_Less_int_p at h
 have hS0 := St.start w
 refine MX.start Tryz.func62 rfl rfl rfl (fun _ cs0 hb0 => ?_)
 refine MX.sr <| RG.so rfl <| RG.nil <| MX.sr <| RG.mo rfl ?_
 obtain ⟨y1, hy1, h⟩ := bi h
 refine RG.cq (.bool y1) body88 rfl (e1 rfl) (fun w9 hw9 => cmp_isNaN_int_c n _ w9 (hS0.hL0 hL hw9) a0 hy1) rfl <| RG.mo rfl <| RG.ifb (s := 7) rfl h (fun c2 h => ?_) (fun c2 h => ?_)
 refine RG.ga (FV.move rfl) ?_
 obtain ⟨y3, hy3, h⟩ := bi h
 refine RG.callq' (v := .bool y3) (fst := []) (cap := []) (.yes rfl rfl) body88 rfl (e1 rfl) (fun w9 hw9 => cmp_isNaN_int_c n _ w9 (hS0.hL0 hL hw9) a1 hy3) rfl <| RG.ga (FV.not rfl) <| RG.pt rfl rfl <| RG.mo rfl <| RG.ifnb (s := 12) rfl h (fun c4 h => ?_) (fun c4 h => ?_)
 refine RG.ga (FV.move rfl) <| RG.ga (FV.move rfl) <| RG.ga (FV.lss (i := a0) (j := a1) rfl rfl) <| RG.pf rfl rfl <| RG.so rfl <| RG.nil <| MX.ret rfl <| RT.t1 hb0 Tryz.func62 rfl rfl ?_
 cases h
 exact hS0.gv
 refine RG.no <| RG.no <| RG.no <| RG.pt rfl rfl <| RG.so rfl <| RG.nil <| MX.ret rfl <| RT.t1 hb0 Tryz.func62 rfl rfl ?_
 cases h
 exact hS0.gv
 refine RG.no <| RG.no <| RG.no <| RG.pf rfl rfl <| RG.mo rfl <| RG.ga (FV.move rfl) <| RG.ga (FV.move rfl) <| RG.ga (FV.lss (i := a0) (j := a1) rfl rfl) <| RG.pf rfl rfl <| RG.so rfl <| RG.nil <| MX.ret rfl <| RT.t1 hb0 Tryz.func62 rfl rfl ?_
 cases h
 exact hS0.gv
def stab0 : List UInt8 := [0, 1, 2, 2, 3, 3, 3, 3, 4, 4, 4, 4, 4, 4, 4, 4, 5, 5, 5, 5, 5, 5, 5, 5, 5, 5, 5, 5, 5, 5, 5, 5, 6, 6, 6, 6, 6, 6, 6, 6, 6, 6, 6, 6, 6, 6, 6, 6, 6, 6, 6, 6, 6, 6, 6, 6, 6, 6, 6, 6, 6, 6, 6, 6, 7, 7, 7, 7, 7, 7, 7, 7, 7, 7, 7, 7, 7, 7, 7, 7, 7, 7, 7, 7, 7, 7, 7, 7, 7, 7, 7, 7, 7, 7, 7, 7, 7, 7, 7, 7, 7, 7, 7, 7, 7, 7, 7, 7, 7, 7, 7, 7, 7, 7, 7, 7, 7, 7, 7, 7, 7, 7, 7, 7, 7, 7, 7, 7, 8, 8, 8, 8, 8, 8, 8, 8, 8, 8, 8, 8, 8, 8, 8, 8, 8, 8, 8, 8, 8, 8, 8, 8, 8, 8, 8, 8, 8, 8, 8, 8, 8, 8, 8, 8, 8, 8, 8, 8, 8, 8, 8, 8, 8, 8, 8, 8, 8, 8, 8, 8, 8, 8, 8, 8, 8, 8, 8, 8, 8, 8, 8, 8, 8, 8, 8, 8, 8, 8, 8, 8, 8, 8, 8, 8, 8, 8, 8, 8, 8, 8, 8, 8, 8, 8, 8, 8, 8, 8, 8, 8, 8, 8, 8, 8, 8, 8, 8, 8, 8, 8, 8, 8, 8, 8, 8, 8, 8, 8, 8, 8, 8, 8, 8, 8, 8, 8, 8, 8, 8, 8, 8, 8, 8, 8, 8, 8]
def tb107_4 : List (Nat × Nat × Nat) := [(0, 65536, 128), (0, 131072, 2), (3, 262144, 196608), (4, 524288, 262144), (8, 1048576, 524289), (8, 2097152, 524416), (56, 4194304, 3670016), (72, 8388608, 4718592), (8, 16777216, 524289), (8, 33554432, 524416), (520, 67108864, 34078720), (1288, 134217728, 84410368), (2056, 268435456, 134742016), (4232, 536870912, 277348352), (8200, 1073741824, 537395200)]
def tb107_6 : List (Nat × Nat × Nat) := [(0, 8589934592, 1), (0, 17179869184, 128), (0, 34359738368, 1), (0, 68719476736, 128), (8, 137438953472, 68719476736), (0, 274877906944, 1), (0, 549755813888, 128), (64, 1099511627776, 549755813888), (160, 2199023255552, 1374389534720), (256, 4398046511104, 2199023255552), (0, 8796093022208, 1), (0, 17592186044416, 128), (3072, 35184372088832, 26388279066624), (4096, 70368744177664, 35184372088832), (9187, 140737488355328, 25769803776), (25571, 0, 145135534866432), (65535, 281474976710656, 171798691840), (131071, 0, 351843720888320)]
def tb127_3 : List (Nat × Nat × Nat) := [(0, 131072, 512), (1, 262144, 131072), (0, 524288, 4), (6, 1048576, 786432), (8, 2097152, 1048576), (16, 4194304, 2097153), (16, 8388608, 2097160), (16, 16777216, 2097664), (208, 33554432, 27262976), (304, 67108864, 39845888), (528, 134217728, 69206016), (16, 268435456, 2097153), (16, 536870912, 2097160), (16, 1073741824, 2097664), (12304, 2147483648, 1612709888), (16400, 4294967296, 2149580800), (34832, 8589934592, 4565499904), (65552, 17179869184, 8592031744), (132112, 34359738368, 17316184064), (262160, 68719476736, 34361835520)]
def tb127_5 : List (Nat × Nat × Nat) := [(0, 549755813888, 1), (0, 1099511627776, 8), (0, 2199023255552, 256), (6, 4398046511104, 3298534883328), (9, 8796093022208, 4947802324992), (16, 17592186044416, 8796093022208), (0, 35184372088832, 1), (0, 70368744177664, 8), (0, 140737488355328, 512), (384, 281474976710656, 211106232532992), (576, 562949953421312, 316659348799488), (1024, 1125899906842624, 562949953421312), (2080, 2251799813685248, 1143492092887040), (4096, 4503599627370496, 2251799813685248)]
def tb127_6 : List (Nat × Nat × Nat) := [(0, 9007199254740992, 1), (0, 18014398509481984, 8), (0, 36028797018963968, 256), (6, 72057594037927936, 54043195528445952), (0, 144115188075855872, 1), (0, 288230376151711744, 8), (0, 576460752303423488, 512), (96, 1152921504606846976, 864691128455135232), (0, 2305843009213693952, 1), (0, 4611686018427387904, 8), (0, 9223372036854775808, 512), (1536, 18446744073709551616, 13835058055282163712), (2304, 36893488147419103232, 20752587082923245568), (4096, 73786976294838206464, 36893488147419103232), (0, 147573952589676412928, 1), (0, 295147905179352825856, 8), (0, 590295810358705651712, 256), (98304, 1180591620717411303424, 885443715538058477568), (147456, 2361183241434822606848, 1328165573307087716352), (262144, 4722366482869645213696, 2361183241434822606848), (540431, 9444732965739290427392, 81064793292668928), (1589007, 0, 9518519942034128633856), (4194303, 18889465931478580854784, 1297036692682702848), (8388607, 0, 23611832414348226068480)]
theorem body62 : bodyB Tryz.prog 62 = true := by kernel_rfl
def math_bits_Len64_p (_n : Nat) (a0 : UInt64) : Option Int :=
  jn (fun (u2, i3) => jn (fun (b0, g0) => jn (fun (q0, s0) => (stab0[(u8of q0).toNat]?).bind fun t0 => (chk (s0 + ((t0.toNat : Nat) : Int))).bind fun j0 => some j0) (fun d0 => (if (256 : UInt64) ≤ b0 then (chk (g0 + 8)).bind fun k0 => d0 (shrU b0 8, k0) else d0 (b0, g0)))) (fun c0 => (if (65536 : UInt64) ≤ u2 then (chk (((i3 : Nat) : Int) + 16)).bind fun p0 => c0 (shrU u2 16, p0) else c0 (u2, ((i3 : Nat) : Int))))) (fun J7 => (if (4294967296 : UInt64) ≤ a0 then J7 (shrU a0 32, 32) else J7 (a0, 0)))
theorem math_bits_Len64_c (n : Nat) (L : List Nat) (w : World) (_hL : ∀ b ∈ L, b < w.heap.size) (a0 : UInt64)  {r : Int} (h : math_bits_Len64_p n a0 = some r) :
    Calls Tryz.prog 116 #[.int .u64 (a0.toNat : Int)] w (Gives w fun _ u => u = vI r) := by
 unfold math_bits_Len64_p at h
 have hS0 := St.start w
 refine MX.start Tryz.func116 rfl rfl rfl (fun _ cs0 hb0 => ?_)
 refine MX.sr <| RG.so rfl <| RG.nil <| MX.seq <| MX.sr <| RG.mo rfl <| RG.va (FV.geqU (a := a0) (b := (4294967296 : UInt64)) rfl rfl) <| RG.nil <| MX.join (α := UInt64 × Nat) (fun ⟨u2, i3⟩ => [(0, .int .u64 (u2.toNat : Int)), (2, vI ((i3 : Nat) : Int))]) (fun ⟨u2, i3⟩ wx3 => St w wx3 [] ∧ Tr w [] wx3 []) (fun ⟨u2, i3⟩ => (u2, i3)) h ?_ ?_
 rintro ⟨u2, i3⟩ wx3 ⟨hS4, hT5⟩ h
 try dsimp only at h
 refine MX.seq <| MX.sr <| RG.mo rfl <| RG.va (FV.geqU (a := u2) (b := (65536 : UInt64)) rfl rfl) <| RG.nil <| MX.join (α := UInt64 × Int) (fun ⟨b0, d0⟩ => [(0, .int .u64 (b0.toNat : Int)), (2, vI d0)]) (fun ⟨b0, d0⟩ j0 => St w j0 [] ∧ Tr wx3 [] j0 []) (fun ⟨b0, d0⟩ => (b0, d0)) h ?_ ?_
 rintro ⟨b0, d0⟩ j0 ⟨t0, H0⟩ h
 try dsimp only at h
 refine MX.seq <| MX.sr <| RG.mo rfl <| RG.va (FV.geqU (a := b0) (b := (256 : UInt64)) rfl rfl) <| RG.nil <| MX.join (α := UInt64 × Int) (fun ⟨c0, g0⟩ => [(0, .int .u64 (c0.toNat : Int)), (2, vI g0)]) (fun ⟨c0, g0⟩ k0 => St w k0 [] ∧ Tr j0 [] k0 []) (fun ⟨c0, g0⟩ => (c0, g0)) h ?_ ?_
 rintro ⟨c0, g0⟩ k0 ⟨y0, I0⟩ h
 try dsimp only at h
 refine MX.sr <| RG.mo rfl <| RG.mo rfl <| RG.va (FV.conv8 (a := c0) Tryz.underlying174 Tryz.underlying5 rfl) ?_
 obtain ⟨p0, C0, h⟩ := bi h
 refine RG.va (FV.strIdx (k := (u8of c0).toNat) (tab := stab0) Tryz.underlying9 rfl rfl rfl rfl C0) ?_
 have J0 := p0.toNat_lt
 refine RG.va (FV.convN (i := p0.toNat) Tryz.underlying5 Tryz.underlying3 rfl (by omega)) ?_
 obtain ⟨K0, z0, h⟩ := bi h
 refine RG.va (FV.addc (i := g0) (j := ((p0.toNat : Nat) : Int)) rfl rfl z0) <| RG.so rfl <| RG.nil <| MX.ret rfl <| RT.t1 hb0 Tryz.func116 rfl rfl ?_
 cases h
 exact y0.gv
 intro G0 s0 h
 try dsimp only at h
 refine MX.ifd rfl h (fun u0 h => ?_) (fun u0 h => ?_)
 refine MX.sr <| RG.mo rfl <| RG.va (FV.shrU (a := b0) (j := 8) rfl rfl) <| RG.so rfl <| RG.nil <| MX.region <| RG.mo rfl ?_
 obtain ⟨D0, A0, h⟩ := bi h
 refine RG.va (FV.addc (i := d0) (j := 8) rfl rfl A0) <| RG.so rfl <| RG.nil ?_
 exact s0 (shrU b0 8, D0) _ _ ⟨rfl, rfl, trivial⟩ ⟨t0, Tr.refl _ _⟩ h
 refine MX.skip ?_
 exact s0 (b0, d0) _ _ ⟨rfl, rfl, trivial⟩ ⟨t0, Tr.refl _ _⟩ h
 intro F0 q0 h
 try dsimp only at h
 refine MX.ifd rfl h (fun v0 h => ?_) (fun v0 h => ?_)
 refine MX.sr <| RG.mo rfl <| RG.va (FV.shrU (a := u2) (j := 16) rfl rfl) <| RG.so rfl <| RG.nil <| MX.region <| RG.mo rfl ?_
 obtain ⟨E0, B0, h⟩ := bi h
 refine RG.va (FV.addc (i := ((i3 : Nat) : Int)) (j := 16) rfl rfl B0) <| RG.so rfl <| RG.nil ?_
 exact q0 (shrU u2 16, E0) _ _ ⟨rfl, rfl, trivial⟩ ⟨hS4, Tr.refl _ _⟩ h
 refine MX.skip ?_
 exact q0 (u2, ((i3 : Nat) : Int)) _ _ ⟨rfl, rfl, trivial⟩ ⟨hS4, Tr.refl _ _⟩ h
 intro J7 hJ8 h
 try dsimp only at h
 refine MX.ifd rfl h (fun x0 h => ?_) (fun x0 h => ?_)
 refine MX.sr <| RG.mo rfl <| RG.va (FV.shrU (a := a0) (j := 32) rfl rfl) <| RG.so rfl <| RG.nil <| MX.region <| RG.so rfl <| RG.nil ?_
 exact hJ8 (shrU a0 32, 32) _ _ ⟨rfl, rfl, trivial⟩ ⟨hS0, Tr.refl _ _⟩ h
 refine MX.skip ?_
 exact hJ8 (a0, 0) _ _ ⟨rfl, rfl, trivial⟩ ⟨hS0, Tr.refl _ _⟩ h
theorem body116 : bodyB Tryz.prog 116 = true := by kernel_rfl
def math_bits_Len_p (n : Nat) (a0 : UInt64) : Option Int :=
  (math_bits_Len64_p n a0).bind fun y1 => some y1
theorem math_bits_Len_c (n : Nat) (L : List Nat) (w : World) (hL : ∀ b ∈ L, b < w.heap.size) (a0 : UInt64)  {r : Int} (h : math_bits_Len_p n a0 = some r) :
    Calls Tryz.prog 87 #[.int .u64 (a0.toNat : Int)] w (Gives w fun _ u => u = vI r) := by
 unfold math_bits_Len_p at h
 have hS0 := St.start w
 refine MX.start Tryz.func87 rfl rfl rfl (fun _ cs0 hb0 => ?_)
 refine MX.sr <| RG.so rfl <| RG.nil <| MX.seq <| MX.cond_f rfl <| MX.skip <| MX.sr <| RG.mo rfl ?_
 obtain ⟨y1, hy1, h⟩ := bi h
 refine RG.cq (vI y1) body116 rfl (e1 rfl) (fun w9 hw9 => math_bits_Len64_c n _ w9 (hS0.hL0 hL hw9) a0 hy1) rfl <| RG.so rfl <| RG.nil <| MX.ret rfl <| RT.t1 hb0 Tryz.func87 rfl rfl ?_
 cases h
 exact hS0.gv
theorem body87 : bodyB Tryz.prog 87 = true := by kernel_rfl
def slices_nextPowerOfTwo_p (n : Nat) (a0 : Int) : Option UInt64 :=
  (math_bits_Len_p n (u64of a0)).bind fun y1 => (natOf y1).bind fun k2 => some (shlU (1 : UInt64) k2)
theorem slices_nextPowerOfTwo_c (n : Nat) (L : List Nat) (w : World) (hL : ∀ b ∈ L, b < w.heap.size) (a0 : Int)  {r : UInt64} (h : slices_nextPowerOfTwo_p n a0 = some r) :
    Calls Tryz.prog 128 #[vI a0] w (Gives w fun _ u => u = .int .u64 (r.toNat : Int)) := by
 unfold slices_nextPowerOfTwo_p at h
 have hS0 := St.start w
 refine MX.start Tryz.func128 rfl rfl rfl (fun _ cs0 hb0 => ?_)
 refine MX.sr <| RG.so rfl <| RG.nil <| MX.sr <| RG.mo rfl <| RG.va (FV.convU (i := a0) Tryz.underlying3 Tryz.underlying146 rfl) ?_
 obtain ⟨y1, hy1, h⟩ := bi h
 refine RG.cq (vI y1) body87 rfl (e1 rfl) (fun w9 hw9 => math_bits_Len_c n _ w9 (hS0.hL0 hL hw9) (u64of a0) hy1) rfl ?_
 obtain ⟨k2, hk2, h⟩ := bi h
 refine RG.va (FV.shlI (a := (1 : UInt64)) (i := y1) rfl rfl hk2) <| RG.so rfl <| RG.nil <| MX.ret rfl <| RT.t1 hb0 Tryz.func128 rfl rfl ?_
 cases h
 exact hS0.gv
def tb129_1 : List (Nat × Nat × Nat) := [(0, 8, 1), (1, 16, 8), (2, 32, 16), (0, 64, 1), (8, 128, 64), (16, 256, 128), (32, 512, 256), (68, 1024, 544), (255, 2048, 8), (511, 0, 3072)]
def tb145_1 : List (Nat × Nat × Nat) := [(0, 1024, 1), (0, 2048, 4), (3, 4096, 3072), (4, 8192, 4096), (0, 16384, 1), (0, 32768, 2), (48, 65536, 49152), (64, 131072, 65536), (136, 262144, 139264)]
def tb111_3 : List (Nat × Nat × Nat) := [(0, 16384, 1), (0, 32768, 64), (0, 65536, 1), (0, 131072, 128), (0, 262144, 1), (0, 524288, 128), (48, 1048576, 786432), (64, 2097152, 1048576), (0, 4194304, 1), (0, 8388608, 64), (768, 16777216, 12582912), (1024, 33554432, 16777216), (2291, 67108864, 49152), (6387, 0, 69206016), (16383, 134217728, 196608), (32767, 0, 167772160)]
def tb112_5 : List (Nat × Nat × Nat) := [(0, 131072, 128), (0, 262144, 4), (3, 524288, 393216), (4, 1048576, 524288), (8, 2097152, 1048577), (8, 4194304, 1048704), (56, 8388608, 7340032), (72, 16777216, 9437184), (8, 33554432, 1048577), (8, 67108864, 1048704), (520, 134217728, 68157440), (1288, 268435456, 168820736), (2056, 536870912, 269484032), (4232, 1073741824, 554696704), (8200, 2147483648, 1074790400), (16392, 4294967296, 2148532224)]
def tb112_11 : List (Nat × Nat × Nat) := [(0, 4398046511104, 1), (0, 8796093022208, 128), (0, 17592186044416, 1), (0, 35184372088832, 128), (8, 70368744177664, 35184372088832), (0, 140737488355328, 1), (0, 281474976710656, 128), (64, 562949953421312, 281474976710656), (160, 1125899906842624, 703687441776640), (256, 2251799813685248, 1125899906842624), (0, 4503599627370496, 1), (0, 9007199254740992, 128), (3072, 18014398509481984, 13510798882111488), (4096, 36028797018963968, 18014398509481984), (9187, 72057594037927936, 13194139533312), (25571, 0, 74309393851613184), (65535, 144115188075855872, 87960930222080), (131071, 0, 180143985094819840)]
def tb113_1 : List (Nat × Nat × Nat) := [(0, 2048, 1), (0, 4096, 2), (0, 8192, 1), (0, 16384, 8), (0, 32768, 1), (0, 65536, 8), (48, 131072, 98304), (64, 262144, 131072), (0, 524288, 1), (0, 1048576, 2), (768, 2097152, 1572864), (1024, 4194304, 2097152), (2291, 8388608, 6144), (6387, 0, 8650752), (16383, 16777216, 24576), (32767, 0, 20971520)]
def tb114_1 : List (Nat × Nat × Nat) := [(0, 4096, 1), (0, 8192, 2), (0, 16384, 1), (0, 32768, 8), (0, 65536, 1), (0, 131072, 8), (48, 262144, 196608), (64, 524288, 262144), (0, 1048576, 1), (0, 2097152, 2), (768, 4194304, 3145728), (1024, 8388608, 4194304), (2291, 16777216, 12288), (6387, 0, 17301504), (16383, 33554432, 49152), (32767, 0, 41943040)]
theorem body61 : bodyB Tryz.prog 61 = true := by kernel_rfl
theorem body86 : bodyB Tryz.prog 86 = true := by kernel_rfl
theorem body107 : bodyB Tryz.prog 107 = true := by kernel_rfl
theorem body131 : bodyB Tryz.prog 131 = true := by kernel_rfl
theorem body145 : bodyB Tryz.prog 145 = true := by kernel_rfl
def edit_Changed_l1 (n : Nat) (p0 : Nat) (k0 : Int × (List Int) → Option (List Int)) : Int × (List Int) → Option (List Int)
  | (b0, c0) => (if ((p0 : Nat) : Int) < b0 then (idx c0 b0).bind fun g0 => (chk (b0 - 1)).bind fun q0 => (idx c0 q0).bind fun u0 => (cmp_Less_int_p n g0 u0).bind fun y0 => (if y0 = true then (chk (b0 - 1)).bind fun d0 => (chk (b0 - 1)).bind fun s0 => (idx c0 s0).bind fun v0 => (put c0 ((b0.toNat : Nat) : Int) v0).bind fun j0 => (idx j0 d0).bind fun z0 => (put j0 ((d0.toNat : Nat) : Int) g0).bind fun x0 => (chk (b0 - 1)).bind fun t0 => k0 (t0, x0) else some c0) else some c0)
def edit_Changed_l2 (n : Nat) (k0 : Nat) (j0 : Nat) (d0 : Int × (List Int) → Option (List Int)) : Int × (List Int) → Option (List Int)
  | (b0, c0) => (if b0 < ((k0 : Nat) : Int) then jn (fun q0 => (chk (b0 + 1)).bind fun p0 => d0 (p0, q0)) (fun g0 => Option.bind (loopF (edit_Changed_l1 n j0) n (b0, c0)) (g0)) else some c0)
def edit_Changed_l3 (n : Nat) (p0 : List Int) (_J1073 : Nat × Nat × Int × Bool × Bool → Option (List Int)) : Nat × Nat × Int × Bool × Bool → Option (List Int)
  | (b0, c0, q0, d0, s0) => (chk (((c0 : Nat) : Int) - ((b0 : Nat) : Int))).bind fun g0 => (if g0 ≤ 12 then (chk (((b0 : Nat) : Int) + 1)).bind fun j0 => Option.bind (loopF (edit_Changed_l2 n c0 b0) n (j0, p0)) (fun k0 => some k0) else (if q0 = 0 then none else (if d0 = true then none else none)))
def edit_Changed_b193 (_n : Nat) (c0 : Int × Bool) (b0 : (List Int) → Option (List Int)) : (List Int) → Option (List Int)
  | d0 => (app d0 ([c0.1] : List Int)).bind fun g0 => b0 g0
def edit_Changed_l4 (_n : Nat) (a0 : TSession) (d0 : Nat × (List (Int × Bool)) → Option (List (Int × Bool))) : Nat × (List (Int × Bool)) → Option (List (Int × Bool))
  | (b0, c0) => (if b0 < a0.fDone.length then (a0.fDone[b0]?).bind fun g0 => d0 (b0 + 1, mset c0 g0.fUnit true) else some c0)
def edit_Changed_p (n : Nat) (a0 : TSession) : Option (List Int) :=
  Option.bind (loopF (edit_Changed_l4 n a0) n (0, ([] : List (Int × Bool)))) (fun c0 => mloop (fun b0 => (math_bits_Len_p n (u64of ((b0.length : Nat) : Int))).bind fun d0 => loopF (edit_Changed_l3 n b0) n (0, b0.length, d0, true, true)) (edit_Changed_b193 n) n c0 ([] : List Int))
theorem edit_Changed_c (n : Nat) (L : List Nat) (w : World) (hL : ∀ b ∈ L, b < w.heap.size) (a0 : TSession) {v0_1 : Value} (h0_1 : Rep.R w L [v0_1] a0.fPlan) {v0_2 : Value} (h0_2 : Rep.R w L [v0_2] a0.fTotals) {v0_3 : Value} (h0_3 : Rep.R w L [v0_3] a0.fDone) {v0_4 : Value} (h0_4 : Rep.R w L [v0_4] a0.fUndone)  {r : List Int} (h : edit_Changed_p n a0 = some r) :
    Calls Tryz.prog 25 #[.agg #[vI a0.fK, v0_1, v0_2, v0_3, v0_4]] w (Gives w fun w' u => ∃ v0_0 : Value, u = v0_0 ∧ Rep.R w' L [v0_0] r) := by
 unfold edit_Changed_p at h
 have hS0 := St.start w
 refine MX.start Tryz.func25 rfl rfl rfl (fun _ cs0 hb0 => ?_)
 refine MX.sr <| RG.new .plain rfl (Does.box hS0 rfl rfl) (fun w2 b5 hS3 hT4 => ?_)
 refine RG.so rfl <| RG.nil <| MX.sr <| RG.new .plain rfl (Does.makeMap (κ := Int) (ν := Bool) hS3) (fun w7 c0 hS8 hT9 => ?_)
 refine RG.so rfl <| RG.nil <| MX.seq <| MX.sr <| RG.fa 3 rfl <| RG.l1 rfl ((hS8.memA (.tl .hd)) 3 _ rfl) ?_
 have V1 := Rep.mv0 h0_3 hS8
 have I6 : a0.fDone.length ≤ 281474976710656 := Rep.lenle V1
 refine RG.va (FV.len (xs := a0.fDone) Tryz.underlying46 rfl V1) <| RG.mo rfl <| RG.nil <| MX.block ?_
 obtain ⟨W2, H6⟩ := St.arrB hS8 (.one .hd .done)
 obtain ⟨V6, B4, V3⟩ := bind_in2 h
 refine MX.loop (α := Nat × (List (Int × Bool))) (fun ⟨F0, b0⟩ => [(3, .map (some c0)), (10, v0_3), (11, vI ((a0.fDone.length : Nat) : Int)), (12, vI ((F0 : Nat) : Int))]) (fun ⟨F0, b0⟩ x1 => St w x1 [.obj c0 (mapO (b0 : List (Int × Bool)))] ∧ Tr w7 [.obj c0 (mapO ([] : List (Int × Bool)))] x1 [.obj c0 (mapO (b0 : List (Int × Bool)))]) (fun ⟨F0, b0⟩ => (F0, b0)) (0, ([] : List (Int × Bool))) B4 ⟨rfl, rfl, rfl, rfl, trivial⟩ ⟨W2, Tr.refl _ _⟩ ?_
 rintro b6 ⟨F0, b0⟩ x1 K2 ⟨k1, s3⟩ h
 unfold edit_Changed_l4 at h
 try dsimp only at h
 refine MX.sr <| RG.va (FV.lssN (i := F0) (j := a0.fDone.length) rfl rfl) <| RG.nil <| MX.seq <| MX.ifd rfl h (fun A2 h => ?_) (fun A2 h => ?_)
 refine MX.skip <| MX.seq <| MX.block <| MX.sr ?_
 obtain ⟨U0, q5, h⟩ := bi h
 have t4 := Rep.mv0 h0_3 k1
 obtain ⟨U5, x6, R3, b4, C6, M4, s4⟩ := Rep.nth t4 q5
 obtain rfl := op_TMove M4
 refine RG.va (FV.ia 3 F0 rfl R3 rfl rfl b4) <| RG.va (FV.lN rfl s4) <| RG.new .plain rfl (Does.al [vI 0, vI 0, vI 0] k1) (fun c7 d6 X2 t3 => ?_)
 refine RG.sa [vI U0.fUnit, vI U0.fFrom, vI U0.fTo] X2 .hd (onesB rfl) (fun d7 D1 u3 => ?_)
 refine RG.nil <| MX.region <| RG.mo rfl <| RG.fa 0 rfl <| RG.l1 rfl ((D1.memA .hd) 0 _ rfl) <| RG.now .plain (Acts.mapUpdate (kv := U0.fUnit) (vv := true) D1 (.tl .hd) Tryz.underlying115 Tryz.underlying3 rfl rfl rfl rfl) (fun g7 Y2 v3 => ?_)
 refine RG.nil <| MX.inBlock <| MX.region <| RG.va (FV.addN (i := F0) (j := 1) rfl rfl (by omega)) <| RG.mo rfl <| RG.nil ?_
 obtain ⟨Z2, x3⟩ := St.arrB Y2 (.one (.tl .hd) .done)
 have D4 := Tt t3 (Tt u3 (Tt v3 x3))
 exact K2 (F0 + 1, mset b0 U0.fUnit true) _ _ ⟨rfl, rfl, rfl, rfl, trivial⟩ ⟨Z2, (Tt s3 D4)⟩ h
 refine MX.exit rfl ?_
 have h := V3 _ h
 try dsimp only at h
 refine MX.sr <| RG.so rfl <| RG.nil <| MX.seq <| MX.sr <| RG.mo rfl <| RG.new .plain rfl (Does.range (D := b0) k1 .hd Tryz.underlying115 rfl) (fun H5 k0 A1 E6 => ?_)
 refine RG.nil <| MX.block ?_
 have B1 := A1.nilRow 3 (Rep.size Int)
 have F6 := St.nilRowT A1 3 (Rep.size Int)
 have B3 := Cells.at_ (cs := []) (xs := ([] : List Int)) B1 L (Cells.nil _ _)
 have z4 := h
 refine MX.mloop (α := (List Int) × Value × (List Value) × (Array Nat)) (fun ⟨q0, d0, v0, g0⟩ => [(6, d0), (21, vP k0)]) (fun X1 ⟨q0, d0, v0, g0⟩ Z0 => St w Z0 [.row w.heap.size 3 (Rep.size Int) d0 q0.length v0, .obj k0 (iterO c0 b0.length g0), .obj c0 (mapO (b0 : List (Int × Bool)))] ∧ Tr H5 [.row w.heap.size 3 (Rep.size Int) vN (([] : List Int).length) [], .obj k0 (iterO c0 b0.length #[]), .obj c0 (mapO (b0 : List (Int × Bool)))] Z0 [.row w.heap.size 3 (Rep.size Int) d0 q0.length v0, .obj k0 (iterO c0 b0.length g0), .obj c0 (mapO (b0 : List (Int × Bool)))] ∧ Cells Z0 (bl [.row w.heap.size 3 (Rep.size Int) d0 q0.length v0, .obj k0 (iterO c0 b0.length g0), .obj c0 (mapO (b0 : List (Int × Bool)))] ++ L) v0 q0 ∧ left b0 g0 = X1) (fun ⟨q0, d0, v0, g0⟩ => q0) (([] : List Int), vN, [], #[]) z4 ⟨rfl, rfl, trivial⟩ ⟨B1, Tr.refl _ _, B3, (left_nil _)⟩ ?_
 rintro X1 ⟨q0, d0, v0, g0⟩ Z0 X5 I2 ⟨P2, d3, I1, c4⟩ u4 G3
 refine MX.sr <| RG.next (D := b0) P2 (.tl (.tl .hd)) (fun _ => (.tl .hd)) rfl rfl c4 (fun I5 v4 W0 g3 => ?_) (fun W6 y5 I0 z5 W3 C4 d4 C1 E1 => ?_)
 have h := u4 v4
 try dsimp only at h
 refine RG.va (FV.extract rfl rfl) <| RG.nil <| MX.seq <| MX.cond_f rfl <| MX.exit rfl <| MX.sr <| RG.mo rfl <| RG.enterP (fst := []) (cap := []) (vs := [d0]) .plain body61 Tryz.func61 rfl rfl rfl rfl (e1 rfl) rfl (fun z6 z3 P6 => ?_)
 refine MX.sr <| RG.mo rfl ?_
 have J6 : q0.length ≤ 4294967296 := St.rowLe (α := Int) W0 .hd
 obtain ⟨R5, g6, H3⟩ := St.rowV (α := Int) W0 .hd
 refine RG.va (FV.lenV Tryz.underlying42 rfl H3) <| RG.so rfl <| RG.nil <| MX.region <| RG.mo rfl <| RG.mo rfl <| RG.mo rfl <| RG.va (FV.convU (i := ((q0.length : Nat) : Int)) Tryz.underlying3 Tryz.underlying146 rfl) ?_
 obtain ⟨y1, v5, h⟩ := bi h
 refine RG.cq (vI y1) body87 rfl (e1 rfl) (fun w9 hw9 => math_bits_Len_c n _ w9 (W0.hL0 hL hw9) (u64of ((q0.length : Nat) : Int)) v5) rfl <| RG.enterP (fst := []) (cap := []) (vs := [d0, vI 0, vI ((q0.length : Nat) : Int), vI y1]) .plain body86 Tryz.func86 rfl rfl rfl rfl (e4 rfl rfl rfl rfl) rfl (fun A6 A3 Q6 => ?_)
 refine MX.sr <| RG.so rfl <| RG.nil <| MX.sr <| RG.so rfl <| RG.nil <| MX.block ?_
 have x4 := h
 refine MX.loop (α := Nat × Nat × Int × Bool × Bool) (fun ⟨x0, z0, M0, Q0, R0⟩ => [(0, d0), (1, vI ((x0 : Nat) : Int)), (2, vI ((z0 : Nat) : Int)), (3, vI M0), (8, .bool Q0), (9, .bool R0)]) (fun ⟨x0, z0, M0, Q0, R0⟩ Y0 => St w Y0 [.row w.heap.size 3 (Rep.size Int) d0 q0.length v0, .obj k0 (iterO c0 b0.length g0), .obj c0 (mapO (b0 : List (Int × Bool)))] ∧ Tr I5 [.row w.heap.size 3 (Rep.size Int) d0 q0.length v0, .obj k0 (iterO c0 b0.length g0), .obj c0 (mapO (b0 : List (Int × Bool)))] Y0 [.row w.heap.size 3 (Rep.size Int) d0 q0.length v0, .obj k0 (iterO c0 b0.length g0), .obj c0 (mapO (b0 : List (Int × Bool)))]) (fun ⟨x0, z0, M0, Q0, R0⟩ => (x0, z0, M0, Q0, R0)) (0, q0.length, y1, true, true) x4 ⟨rfl, rfl, rfl, rfl, rfl, rfl, trivial⟩ ⟨W0, Tr.refl _ _⟩ ?_
 rintro V5 ⟨x0, z0, M0, Q0, R0⟩ Y0 D6 ⟨M2, b3⟩ h
 unfold edit_Changed_l3 at h
 try dsimp only at h
 refine MX.block <| MX.sr <| RG.mo rfl <| RG.mo rfl ?_
 obtain ⟨A5, P4, h⟩ := bi h
 refine RG.va (FV.subc (i := ((z0 : Nat) : Int)) (j := ((x0 : Nat) : Int)) rfl rfl P4) <| RG.so rfl <| RG.nil <| MX.seq <| MX.sr <| RG.mo rfl <| RG.va (FV.leq (i := A5) (j := 12) rfl rfl) <| RG.nil <| MX.ifd rfl h (fun t2 h => ?_) (fun t2 h => ?_)
 refine MX.sr <| RG.mo rfl <| RG.mo rfl <| RG.mo rfl <| RG.enterP (fst := []) (cap := []) (vs := [d0, vI ((x0 : Nat) : Int), vI ((z0 : Nat) : Int)]) .plain body107 Tryz.func107 rfl rfl rfl rfl (e3 rfl rfl rfl) rfl (fun y6 y3 M6 => ?_)
 refine MX.sr <| RG.mo rfl ?_
 obtain ⟨B5, Q4, h⟩ := bi h
 refine RG.va (FV.addc (i := ((x0 : Nat) : Int)) (j := 1) rfl rfl Q4) <| RG.so rfl <| RG.nil <| MX.block ?_
 have g4 := Cells.mv I1 (Tt g3 b3)
 obtain ⟨R6, y4, U3⟩ := bind_in2 h
 refine MX.loop (α := Int × (List Int) × (List Value)) (fun ⟨D0, y0, A0⟩ => [(0, d0), (1, vI ((x0 : Nat) : Int)), (2, vI ((z0 : Nat) : Int)), (6, vI D0)]) (fun ⟨D0, y0, A0⟩ K0 => St w K0 [.row w.heap.size 3 (Rep.size Int) d0 y0.length A0, .obj k0 (iterO c0 b0.length g0), .obj c0 (mapO (b0 : List (Int × Bool)))] ∧ Tr Y0 [.row w.heap.size 3 (Rep.size Int) d0 q0.length v0, .obj k0 (iterO c0 b0.length g0), .obj c0 (mapO (b0 : List (Int × Bool)))] K0 [.row w.heap.size 3 (Rep.size Int) d0 y0.length A0, .obj k0 (iterO c0 b0.length g0), .obj c0 (mapO (b0 : List (Int × Bool)))] ∧ Cells K0 (bl [.row w.heap.size 3 (Rep.size Int) d0 y0.length A0, .obj k0 (iterO c0 b0.length g0), .obj c0 (mapO (b0 : List (Int × Bool)))] ++ L) A0 y0) (fun ⟨D0, y0, A0⟩ => (D0, y0)) (B5, q0, v0) y4 ⟨rfl, rfl, rfl, rfl, trivial⟩ ⟨M2, Tr.refl _ _, g4⟩ ?_
 rintro W5 ⟨D0, y0, A0⟩ K0 H2 ⟨V0, c3, H1⟩ h
 unfold edit_Changed_l2 at h
 try dsimp only at h
 refine MX.seq <| MX.sr <| RG.mo rfl <| RG.mo rfl <| RG.va (FV.lss (i := D0) (j := ((z0 : Nat) : Int)) rfl rfl) <| RG.nil <| MX.ifd rfl h (fun u2 h => ?_) (fun u2 h => ?_)
 refine MX.skip <| MX.seq <| MX.block <| MX.sr <| RG.mo rfl <| RG.so rfl <| RG.nil <| MX.block <| MX.joinx (α := (List Int) × (List Value)) (fun ⟨G0, H0⟩ => [(0, d0), (1, vI ((x0 : Nat) : Int)), (2, vI ((z0 : Nat) : Int)), (6, vI D0)]) (fun ⟨G0, H0⟩ b1 => St w b1 [.row w.heap.size 3 (Rep.size Int) d0 G0.length H0, .obj k0 (iterO c0 b0.length g0), .obj c0 (mapO (b0 : List (Int × Bool)))] ∧ Tr K0 [.row w.heap.size 3 (Rep.size Int) d0 y0.length A0, .obj k0 (iterO c0 b0.length g0), .obj c0 (mapO (b0 : List (Int × Bool)))] b1 [.row w.heap.size 3 (Rep.size Int) d0 G0.length H0, .obj k0 (iterO c0 b0.length g0), .obj c0 (mapO (b0 : List (Int × Bool)))] ∧ Cells b1 (bl [.row w.heap.size 3 (Rep.size Int) d0 G0.length H0, .obj k0 (iterO c0 b0.length g0), .obj c0 (mapO (b0 : List (Int × Bool)))] ++ L) H0 G0) (fun ⟨G0, H0⟩ => G0) (id := 2) rfl h ?_ ?_
 rintro ⟨G0, H0⟩ b1 ⟨Q2, j3, C3⟩ h
 try dsimp only at h
 refine MX.inBlock <| MX.region <| RG.mo rfl ?_
 obtain ⟨C5, R4, h⟩ := bi h
 refine RG.va (FV.addc (i := D0) (j := 1) rfl rfl R4) <| RG.so rfl <| RG.nil ?_
 exact H2 (C5, G0, H0) _ _ ⟨rfl, rfl, rfl, rfl, trivial⟩ ⟨Q2, (Tt c3 j3), C3⟩ h
 intro Y5 z1 h
 try dsimp only at h
 obtain ⟨U6, A4, P1⟩ := bind_in2 h
 refine MX.loop (α := Int × (List Int) × (List Value)) (fun ⟨u0, C0, E0⟩ => [(0, d0), (1, vI ((x0 : Nat) : Int)), (2, vI ((z0 : Nat) : Int)), (6, vI D0), (7, vI u0)]) (fun ⟨u0, C0, E0⟩ c1 => St w c1 [.row w.heap.size 3 (Rep.size Int) d0 C0.length E0, .obj k0 (iterO c0 b0.length g0), .obj c0 (mapO (b0 : List (Int × Bool)))] ∧ Tr K0 [.row w.heap.size 3 (Rep.size Int) d0 y0.length A0, .obj k0 (iterO c0 b0.length g0), .obj c0 (mapO (b0 : List (Int × Bool)))] c1 [.row w.heap.size 3 (Rep.size Int) d0 C0.length E0, .obj k0 (iterO c0 b0.length g0), .obj c0 (mapO (b0 : List (Int × Bool)))] ∧ Cells c1 (bl [.row w.heap.size 3 (Rep.size Int) d0 C0.length E0, .obj k0 (iterO c0 b0.length g0), .obj c0 (mapO (b0 : List (Int × Bool)))] ++ L) E0 C0) (fun ⟨u0, C0, E0⟩ => (u0, C0)) (D0, y0, A0) A4 ⟨rfl, rfl, rfl, rfl, rfl, trivial⟩ ⟨V0, Tr.refl _ _, H1⟩ ?_
 rintro Z5 ⟨u0, C0, E0⟩ c1 J2 ⟨B0, p1, J0⟩ h
 unfold edit_Changed_l1 at h
 try dsimp only at h
 refine MX.seq <| MX.seq <| MX.drawT 15 tb107_4 (by kernel_rfl) (by kernel_rfl) (by kernel_rfl) (fun p0 s0 => ?_)
 refine RD.vw 0 1 p0 rfl s0 (fun _ => FV.move rfl) rfl <| RD.vw 1 3 p0 rfl s0 (fun _ => FV.move rfl) rfl <| RD.vw 2 7 p0 rfl s0 (fun _ => FV.gtr (i := u0) (j := ((x0 : Nat) : Int)) rfl rfl) rfl <| RD.vw 3 15 p0 rfl s0 (fun _ => FV.move rfl) rfl <| RD.ifd (s := 19) rfl h (fun v2 h => ?_) (fun v2 h => ?_)
 refine RD.vP 4 31 p0 rfl s0 (.yes rfl rfl) (fun _ => FV.move rfl) rfl <| RD.vP 5 63 p0 rfl s0 (.yes rfl rfl) (fun _ => FV.move rfl) rfl ?_
 obtain ⟨Z1, Y4, h⟩ := bi h
 obtain ⟨v1, Z4⟩ := idx_in Y4
 obtain ⟨c2, j6, P0, X0, B2, F4, W1⟩ := St.nth (α := Int) B0 .hd J0 Z4
 obtain ⟨k2, k6, K1⟩ := St.nthOwn (α := Int) B0 .hd X0
 obtain rfl : c2 = ⟨k2, 0, none⟩ := by rw [K1] at P0; cases P0; rfl
 have I3 : B2 = [vI Z1] := F4; subst I3
 refine RD.vP 6 127 p0 rfl s0 (.yes rfl rfl) (fun _ => FV.ia 1 (u0.toNat) rfl P0 rfl v1 X0) rfl <| RD.val (i := 7) (m' := 255) (W := 24576) (takeC_ok p0 (by kernel_rfl)) rfl s0 (.yes rfl rfl) (FV.l1 rfl (W1 0 _ rfl)) rfl <| RD.vP 8 511 p0 rfl s0 (.yes rfl rfl) (fun _ => FV.move rfl) rfl <| RD.vP 9 1023 p0 rfl s0 (.yes rfl rfl) (fun _ => FV.move rfl) rfl ?_
 obtain ⟨D5, U4, h⟩ := bi h
 refine RD.vP 10 2047 p0 rfl s0 (.yes rfl rfl) (fun _ => FV.subc (i := u0) (j := 1) rfl rfl U4) rfl ?_
 obtain ⟨b2, c5, h⟩ := bi h
 obtain ⟨X3, d5⟩ := idx_in c5
 obtain ⟨d2, p6, q1, Q1, C2, G4, j4⟩ := St.nth (α := Int) B0 .hd J0 d5
 obtain ⟨p2, q6, J3⟩ := St.nthOwn (α := Int) B0 .hd Q1
 obtain rfl : d2 = ⟨p2, 0, none⟩ := by rw [J3] at q1; cases q1; rfl
 have K3 : C2 = [vI b2] := G4; subst K3
 refine RD.vP 11 4095 p0 rfl s0 (.yes rfl rfl) (fun _ => FV.ia 1 (D5.toNat) rfl q1 rfl X3 Q1) rfl <| RD.val (i := 12) (m' := 8191) (W := 24576) (takeC_ok p0 (by kernel_rfl)) rfl s0 (.yes rfl rfl) (FV.l1 rfl (j4 0 _ rfl)) rfl ?_
 obtain ⟨Q5, x5, h⟩ := bi h
 refine RD.callq (i := 13) (m' := 16383) (W := 16384) (takeC_ok p0 (by kernel_rfl)) rfl s0 (v := .bool Q5) (fst := []) (cap := []) (.yes rfl rfl) body62 rfl (e2 rfl rfl) (fun w9 hw9 => cmp_Less_int_c n _ w9 (B0.hL0 hL hw9) Z1 b2 x5) rfl <| RD.vw 14 32767 p0 rfl s0 (fun _ => FV.pick_t rfl rfl) rfl <| RD.done (doneD_ok p0 (by kernel_rfl)) <| MX.ifb rfl h (fun x2 h => ?_) (fun x2 h => ?_)
 refine MX.skip <| MX.seq <| MX.block <| MX.drawT 15 tb107_6 (by kernel_rfl) (by kernel_rfl) (by kernel_rfl) (fun j0 t0 => ?_)
 refine RD.vw 0 1 j0 rfl t0 (fun _ => FV.move rfl) rfl <| RD.vw 1 3 j0 rfl t0 (fun _ => FV.move rfl) rfl <| RD.vw 2 7 j0 rfl t0 (fun _ => FV.move rfl) rfl <| RD.vw 3 15 j0 rfl t0 (fun _ => FV.move rfl) rfl ?_
 obtain ⟨Y1, V4, h⟩ := bi h
 refine RD.vw 4 31 j0 rfl t0 (fun _ => FV.subc (i := u0) (j := 1) rfl rfl V4) rfl <| RD.vw 5 63 j0 rfl t0 (fun _ => FV.move rfl) rfl <| RD.vw 6 127 j0 rfl t0 (fun _ => FV.move rfl) rfl ?_
 obtain ⟨E5, W4, h⟩ := bi h
 refine RD.vw 7 255 j0 rfl t0 (fun _ => FV.subc (i := u0) (j := 1) rfl rfl W4) rfl ?_
 obtain ⟨J5, g5, h⟩ := bi h
 obtain ⟨Y3, j5⟩ := idx_in g5
 obtain ⟨g2, s6, s1, R1, D2, H4, k4⟩ := St.nth (α := Int) B0 .hd J0 j5
 obtain ⟨q2, t6, M3⟩ := St.nthOwn (α := Int) B0 .hd R1
 obtain rfl : g2 = ⟨q2, 0, none⟩ := by rw [M3] at s1; cases s1; rfl
 have P3 : D2 = [vI J5] := H4; subst P3
 refine RD.vw 8 511 j0 rfl t0 (fun _ => FV.ia 1 (E5.toNat) rfl s1 rfl Y3 R1) rfl <| RD.vx 9 1023 245760 j0 rfl t0 (FV.l1 rfl (k4 0 _ rfl)) rfl <| RD.vw 10 2047 j0 rfl t0 (fun _ => FV.move rfl) rfl <| RD.vw 11 4095 j0 rfl t0 (fun _ => FV.move rfl) rfl <| RD.vw 12 8191 j0 rfl t0 (fun _ => FV.ia 1 (u0.toNat) rfl P0 rfl v1 X0) rfl <| RD.vx 13 16383 245760 j0 rfl t0 (FV.l1 rfl (W1 0 _ rfl)) rfl <| RD.vw 14 32767 j0 rfl t0 (fun _ => FV.ia 1 (u0.toNat) rfl P0 rfl v1 X0) rfl ?_
 obtain ⟨j7, s5, h⟩ := bi h
 refine RD.one (i := 15) (readyD_ok j0 (by kernel_rfl)) (RO.acts (m' := 65535) (stepC_ok j0 (by kernel_rfl)) rfl rfl .plain (Acts.set (α := Int) (i := u0.toNat) s5 B0 K1 (fun _ => .hd) J0 rfl rfl rfl rfl rfl (by kernel_rfl)) (fun X6 ⟨B6, d1, k3, J1⟩ => ?_))
 obtain ⟨K5, k5, h⟩ := bi h
 obtain ⟨Z3, p5⟩ := idx_in k5
 obtain ⟨j2, u6, u1, U1, E2, I4, K6⟩ := St.nth (α := Int) d1 .hd J1 p5
 obtain ⟨s2, v6, M1⟩ := St.nthOwn (α := Int) d1 .hd U1
 obtain rfl : j2 = ⟨s2, 0, none⟩ := by rw [M1] at u1; cases u1; rfl
 have Q3 : E2 = [vI K5] := I4; subst Q3
 refine RD.one (i := 16) (readyD_ok j0 (by kernel_rfl)) (RO.val (m' := 131071) (stepC_ok j0 (by kernel_rfl)) rfl .plain rfl (FV.ia 1 (Y1.toNat) rfl u1 rfl Z3 U1) ?_)
 obtain ⟨M5, t5, h⟩ := bi h
 refine RD.one (i := 17) (readyD_ok j0 (by kernel_rfl)) (RO.acts (m' := 262143) (stepC_ok j0 (by kernel_rfl)) rfl rfl .plain (Acts.set (α := Int) (i := Y1.toNat) t5 d1 M1 (fun _ => .hd) J1 rfl rfl rfl rfl rfl (by kernel_rfl)) (fun Y6 ⟨F2, R2, p3, D3⟩ => ?_))
 refine RD.done (doneD_ok j0 (by kernel_rfl)) <| MX.inBlock <| MX.region <| RG.mo rfl ?_
 obtain ⟨F5, X4, h⟩ := bi h
 refine RG.va (FV.subc (i := u0) (j := 1) rfl rfl X4) <| RG.so rfl <| RG.nil ?_
 exact J2 (F5, M5, F2) _ _ ⟨rfl, rfl, rfl, rfl, rfl, trivial⟩ ⟨R2, (Tt p1 (Tt k3 p3)), D3⟩ h
 refine MX.exit rfl ?_
 have h := P1 _ h
 try dsimp only at h
 exact z1 (C0, E0) _ _ ⟨rfl, rfl, rfl, rfl, trivial⟩ ⟨B0, p1, J0⟩ h
 refine RD.offs 16383 1 [(4, 20), (5, 21), (6, 22), (7, 23), (8, 24), (9, 25), (10, 26), (11, 27), (12, 28), (13, 29)] (F := [(19, false)]) (U := []) p0 s0 (.cons rfl .nil) .nil ?_
 dsimp only [offS, List.map]
 refine RD.vw 14 32767 p0 rfl s0 (fun _ => FV.pick_f rfl rfl) rfl <| RD.done (doneD_ok p0 (by kernel_rfl)) <| MX.cond_f rfl <| MX.exit rfl ?_
 have h := P1 _ h
 try dsimp only at h
 exact z1 (C0, E0) _ _ ⟨rfl, rfl, rfl, rfl, trivial⟩ ⟨B0, p1, J0⟩ h
 refine MX.exit rfl ?_
 have h := U3 _ h
 try dsimp only at h
 refine MX.fin rfl <| RT.leave (u := .tuple #[]) y3 Tryz.func107 rfl .nil rfl <| RG.nil <| MX.ret rfl <| RT.leave (u := .tuple #[]) A3 Tryz.func86 rfl .nil rfl <| RG.nil <| MX.fin rfl <| RT.leave (u := .tuple #[]) z3 Tryz.func61 rfl .nil rfl <| RG.nil <| MX.sr <| RG.mo rfl <| RG.so rfl <| RG.nil <| MX.ret rfl ?_
 have J4 := St.freeze (α := Int) V0 .hd H1 hL
 have g1 := St.delS V0 .hd
 have G6 := St.delT V0 .hd
 have K4 := Rep.at_ (α := Int) (v := d0) (xs := y0) g1 L J4
 refine RT.t1 hb0 Tryz.func25 rfl rfl ?_
 cases h
 exact ⟨g1.ag, fun w9 hw9 => ⟨d0, rfl, g1.kd K4 hw9⟩⟩
 refine MX.skip <| MX.seq <| MX.sr <| RG.mo rfl <| RG.va (FV.eql (i := M0) (j := 0) rfl rfl) <| RG.nil <| MX.ifd rfl h (fun y2 h => ?_) (fun y2 h => ?_)
 refine MX.sr <| RG.mo rfl <| RG.mo rfl <| RG.mo rfl ?_
 cases h
 refine MX.skip <| MX.seq <| MX.sr <| RG.mo rfl <| RG.va (FV.not rfl) <| RG.nil <| MX.ifnb rfl h (fun z2 h => ?_) (fun z2 h => ?_)
 refine MX.skip <| MX.sr <| RG.mo rfl <| RG.mo rfl <| RG.mo rfl ?_
 cases h
 refine MX.sr <| RG.mo rfl <| RG.mo rfl <| RG.mo rfl ?_
 cases h
 have h := G3 _ _ C4
 unfold edit_Changed_b193 at h
 try dsimp only at h
 refine RG.va (FV.extract rfl rfl) <| RG.nil <| MX.seq <| MX.cond_t rfl <| MX.skip <| MX.block <| MX.sr <| RG.va (FV.entry (D := b0) C1 (.tl (.tl .hd)) (.tl .hd) W3 rfl) <| RG.va (FV.extract rfl rfl) <| RG.so rfl <| RG.nil <| MX.region <| RG.mo rfl <| RG.mo rfl <| RG.new .plain rfl (Does.build (α := Int) (xs := ([I0.1] : List Int)) (vs := [vI I0.1]) (ds' := [vI I0.1]) rfl C1 el42 rfl (e1 rfl) (by kernel_rfl) rfl) (fun Z6 c6 j1 F1 => ?_)
 have E3 := Cells.at_ (cs := [vI I0.1]) (xs := (([I0.1] : List Int) : List Int)) j1 L (Cells.cons (cs := [vI I0.1]) (ds := []) rfl (Cells.nil _ _))
 obtain ⟨P5, u5, h⟩ := bi h
 have p4 := Cells.mv I1 (Tt E1 F1)
 refine RG.doesL .plain rfl (DoesL.app (α := Int) (ys := ([I0.1] : List Int)) u5 j1 (fun _ _ => (.tl .hd)) el42 rfl rfl p4 (Src.row (α := Int) j1 .hd E3)) (fun G5 b7 ⟨G2, U2, q3, F3⟩ => ?_)
 refine RG.so rfl <| RG.nil <| MX.inBlock ?_
 obtain ⟨V2, G1⟩ := St.arrB U2 (.one (.tl .hd) (.one (.tl .hd) (.one (.tl .hd) .done)))
 have q4 := Cells.mv F3 G1
 have E4 := Tt E1 (Tt F1 (Tt q3 G1))
 exact I2 z5 (P5, G5, G2, (g0.push y5)) _ _ ⟨rfl, rfl, trivial⟩ ⟨V2, (Tt d3 E4), q4, d4⟩ h
def tb26_4 : List (Nat × Nat × Nat) := [(0, 2048, 1), (0, 4096, 8), (3, 8192, 6144), (4, 16384, 8192), (0, 32768, 1), (0, 65536, 8), (32, 131072, 65536), (80, 262144, 163840), (128, 524288, 262144), (264, 1048576, 540672)]
def slices_IsSorted_int_int_l1 (n : Nat) (a0 : List Int) (c0 : Int → Option (Bool ⊕ Unit)) : Int → Option (Bool ⊕ Unit)
  | b0 => (if 0 < b0 then (idx a0 b0).bind fun j0 => (chk (b0 - 1)).bind fun d0 => (idx a0 d0).bind fun k0 => (cmp_Less_int_p n j0 k0).bind fun p0 => (if p0 = true then some (.inl false) else (chk (b0 - 1)).bind fun g0 => c0 g0) else some (.inr ()))
def slices_IsSorted_int_int_p (n : Nat) (a0 : List Int) : Option Bool :=
  thn (loopF (slices_IsSorted_int_int_l1 n a0) n (((a0.length : Nat) : Int) - 1)) (fun _ => some true)
theorem slices_IsSorted_int_int_c (n : Nat) (L : List Nat) (w : World) (hL : ∀ b ∈ L, b < w.heap.size) (a0 : List Int) {v0_0 : Value} (h0_0 : Rep.R w L [v0_0] a0)  {r : Bool} (h : slices_IsSorted_int_int_p n a0 = some r) :
    Calls Tryz.prog 26 #[v0_0] w (Gives w fun _ u => u = .bool r) := by
 unfold slices_IsSorted_int_int_p at h
 have hS0 := St.start w
 refine MX.start Tryz.func26 rfl rfl rfl (fun _ cs0 hb0 => ?_)
 refine MX.sr <| RG.so rfl <| RG.nil <| MX.seq <| MX.sr <| RG.mo rfl ?_
 have hl1 : a0.length ≤ 281474976710656 := Rep.lenle h0_0
 refine RG.va (FV.len (xs := a0) Tryz.underlying42 rfl h0_0) <| RG.va (FV.subI (i := ((a0.length : Nat) : Int)) (j := 1) rfl rfl (by omega)) <| RG.so rfl <| RG.nil <| MX.block ?_
 obtain ⟨q1, K0, k0⟩ := thn_in h
 refine MX.loop (α := Int) (fun d0 => [(0, v0_0), (3, vI d0)]) (fun d0 j0 => St w j0 [] ∧ Tr w [] j0 []) (fun d0 => d0) (((a0.length : Nat) : Int) - 1) K0 ⟨rfl, rfl, trivial⟩ ⟨hS0, Tr.refl _ _⟩ ?_
 rintro j1 d0 j0 y0 ⟨g0, z0⟩ h
 unfold slices_IsSorted_int_int_l1 at h
 try dsimp only at h
 refine MX.seq <| MX.sr <| RG.mo rfl <| RG.va (FV.gtr (i := d0) (j := 0) rfl rfl) <| RG.nil <| MX.ifd rfl h (fun t0 h => ?_) (fun t0 h => ?_)
 refine MX.skip <| MX.seq <| MX.block <| MX.seq <| MX.drawT 10 tb26_4 (by kernel_rfl) (by kernel_rfl) (by kernel_rfl) (fun b0 c0 => ?_)
 refine RD.vw 0 1 b0 rfl c0 (fun _ => FV.move rfl) rfl <| RD.vw 1 3 b0 rfl c0 (fun _ => FV.move rfl) rfl ?_
 obtain ⟨q0, U0, h⟩ := bi h
 obtain ⟨E0, V0⟩ := idx_in U0
 have p0 := Rep.mv0 h0_0 g0
 obtain ⟨d1, k1, A0, G0, v0, M0, I0⟩ := Rep.nth p0 V0
 have B0 : v0 = [vI q0] := M0; subst B0
 refine RD.vw 2 7 b0 rfl c0 (fun _ => FV.ia 1 (d0.toNat) rfl A0 rfl E0 G0) rfl <| RD.vx 3 15 512 b0 rfl c0 (FV.l1 rfl (I0 0 _ rfl)) rfl <| RD.vw 4 31 b0 rfl c0 (fun _ => FV.move rfl) rfl <| RD.vw 5 63 b0 rfl c0 (fun _ => FV.move rfl) rfl ?_
 obtain ⟨Z0, Q0, h⟩ := bi h
 refine RD.vw 6 127 b0 rfl c0 (fun _ => FV.subc (i := d0) (j := 1) rfl rfl Q0) rfl ?_
 obtain ⟨s0, W0, h⟩ := bi h
 obtain ⟨F0, X0⟩ := idx_in W0
 obtain ⟨g1, p1, C0, H0, x0, P0, J0⟩ := Rep.nth p0 X0
 have D0 : x0 = [vI s0] := P0; subst D0
 refine RD.vw 7 255 b0 rfl c0 (fun _ => FV.ia 1 (Z0.toNat) rfl C0 rfl F0 H0) rfl <| RD.vx 8 511 512 b0 rfl c0 (FV.l1 rfl (J0 0 _ rfl)) rfl ?_
 obtain ⟨c1, Y0, h⟩ := bi h
 refine RD.cq 9 1023 0 (.bool c1) b0 rfl c0 body62 rfl (e2 rfl rfl) (fun w9 hw9 => cmp_Less_int_c n _ w9 (g0.hL0 hL hw9) q0 s0 Y0) rfl <| RD.done (doneD_ok b0 (by kernel_rfl)) <| MX.ifb rfl h (fun u0 h => ?_) (fun u0 h => ?_)
 refine MX.sr <| RG.so rfl <| RG.nil ?_
 have h := thn_inl h k0
 refine MX.ret rfl <| RT.t1 hb0 Tryz.func26 rfl rfl ?_
 cases h
 exact g0.gv
 refine MX.skip <| MX.inBlock <| MX.region <| RG.mo rfl ?_
 obtain ⟨b1, R0, h⟩ := bi h
 refine RG.va (FV.subc (i := d0) (j := 1) rfl rfl R0) <| RG.so rfl <| RG.nil ?_
 exact y0 b1 _ _ ⟨rfl, rfl, trivial⟩ ⟨g0, z0⟩ h
 refine MX.exit rfl ?_
 have h := thn_inr h k0
 try dsimp only at h
 refine MX.sr <| RG.so rfl <| RG.nil <| MX.ret rfl <| RT.t1 hb0 Tryz.func26 rfl rfl ?_
 cases h
 exact g0.gv
def slices_Index_int_int_l1 (_n : Nat) (a0 : List Int) (a1 : Int) (c0 : Nat → Option (Int ⊕ Unit)) : Nat → Option (Int ⊕ Unit)
  | b0 => (if b0 < a0.length then (a0[b0]?).bind fun d0 => (if a1 = d0 then some (.inl ((b0 : Nat) : Int)) else c0 (b0 + 1)) else some (.inr ()))
def slices_Index_int_int_p (n : Nat) (a0 : List Int) (a1 : Int) : Option Int :=
  thn (loopF (slices_Index_int_int_l1 n a0 a1) n 0) (fun _ => some (-1 : Int))
theorem slices_Index_int_int_c (n : Nat) (L : List Nat) (w : World) (_hL : ∀ b ∈ L, b < w.heap.size) (a0 : List Int) {v0_0 : Value} (h0_0 : Rep.R w L [v0_0] a0) (a1 : Int)  {r : Int} (h : slices_Index_int_int_p n a0 a1 = some r) :
    Calls Tryz.prog 63 #[v0_0, vI a1] w (Gives w fun _ u => u = vI r) := by
 unfold slices_Index_int_int_p at h
 have hS0 := St.start w
 refine MX.start Tryz.func63 rfl rfl rfl (fun _ cs0 hb0 => ?_)
 refine MX.sr <| RG.so rfl <| RG.nil <| MX.seq <| MX.sr <| RG.mo rfl ?_
 have hl1 : a0.length ≤ 281474976710656 := Rep.lenle h0_0
 refine RG.va (FV.len (xs := a0) Tryz.underlying42 rfl h0_0) <| RG.mo rfl <| RG.nil <| MX.block ?_
 obtain ⟨G0, A0, g0⟩ := thn_in h
 refine MX.loop (α := Nat) (fun b0 => [(0, v0_0), (1, vI a1), (7, vI ((a0.length : Nat) : Int)), (8, vI ((b0 : Nat) : Int))]) (fun b0 d0 => St w d0 [] ∧ Tr w [] d0 []) (fun b0 => b0) 0 A0 ⟨rfl, rfl, rfl, rfl, trivial⟩ ⟨hS0, Tr.refl _ _⟩ ?_
 rintro E0 b0 d0 s0 ⟨c0, t0⟩ h
 unfold slices_Index_int_int_l1 at h
 try dsimp only at h
 refine MX.sr <| RG.va (FV.lssN (i := b0) (j := a0.length) rfl rfl) <| RG.nil <| MX.seq <| MX.ifd rfl h (fun k0 h => ?_) (fun k0 h => ?_)
 refine MX.skip <| MX.seq <| MX.block <| MX.sr <| RG.mo rfl <| RG.so rfl <| RG.nil <| MX.sr <| RG.mo rfl <| RG.mo rfl <| RG.mo rfl ?_
 obtain ⟨j0, C0, h⟩ := bi h
 have z0 := Rep.mv0 h0_0 c0
 obtain ⟨D0, F0, u0, x0, q0, B0, y0⟩ := Rep.nth z0 C0
 have v0 : q0 = [vI j0] := B0; subst v0
 refine RG.va (FV.ia 1 b0 rfl u0 rfl rfl x0) <| RG.l1 rfl (y0 0 _ rfl) <| RG.va (FV.eql (i := a1) (j := j0) rfl rfl) <| RG.nil <| MX.ifd rfl h (fun p0 h => ?_) (fun p0 h => ?_)
 refine MX.sr <| RG.mo rfl <| RG.so rfl <| RG.nil ?_
 have h := thn_inl h g0
 refine MX.ret rfl <| RT.t1 hb0 Tryz.func63 rfl rfl ?_
 cases h
 exact c0.gv
 refine MX.skip <| MX.inBlock <| MX.region <| RG.va (FV.addN (i := b0) (j := 1) rfl rfl (by omega)) <| RG.mo rfl <| RG.nil ?_
 exact s0 (b0 + 1) _ _ ⟨rfl, rfl, rfl, rfl, trivial⟩ ⟨c0, t0⟩ h
 refine MX.exit rfl ?_
 have h := thn_inr h g0
 try dsimp only at h
 refine MX.sr <| RG.so rfl <| RG.nil <| MX.ret rfl <| RT.t1 hb0 Tryz.func63 rfl rfl ?_
 cases h
 exact c0.gv
theorem body63 : bodyB Tryz.prog 63 = true := by kernel_rfl
def slices_Contains_int_int_p (n : Nat) (a0 : List Int) (a1 : Int) : Option Bool :=
  (slices_Index_int_int_p n a0 a1).bind fun y1 => some (decide (0 ≤ y1))
theorem slices_Contains_int_int_c (n : Nat) (L : List Nat) (w : World) (hL : ∀ b ∈ L, b < w.heap.size) (a0 : List Int) {v0_0 : Value} (h0_0 : Rep.R w L [v0_0] a0) (a1 : Int)  {r : Bool} (h : slices_Contains_int_int_p n a0 a1 = some r) :
    Calls Tryz.prog 27 #[v0_0, vI a1] w (Gives w fun _ u => u = .bool r) := by
 unfold slices_Contains_int_int_p at h
 have hS0 := St.start w
 refine MX.start Tryz.func27 rfl rfl rfl (fun _ cs0 hb0 => ?_)
 refine MX.sr <| RG.so rfl <| RG.nil <| MX.sr <| RG.mo rfl <| RG.mo rfl ?_
 obtain ⟨y1, hy1, h⟩ := bi h
 refine RG.cq (vI y1) body63 rfl (e2 rfl rfl) (fun w9 hw9 => slices_Index_int_int_c n _ w9 (hS0.hL0 hL hw9) a0 (hS0.kd h0_0 hw9) a1 hy1) rfl <| RG.va (FV.geq (i := y1) (j := 0) rfl rfl) <| RG.so rfl <| RG.nil <| MX.ret rfl <| RT.t1 hb0 Tryz.func27 rfl rfl ?_
 cases h
 exact hS0.gv
def tb28_6 : List (Nat × Nat × Nat) := [(0, 65536, 1), (0, 131072, 32), (3, 262144, 196608), (4, 524288, 262144), (0, 1048576, 2), (0, 2097152, 32), (48, 4194304, 3145728), (64, 8388608, 4194304), (136, 16777216, 8912896)]
def slices_Equal_api_Plan_int_l1 (_n : Nat) (a0 : List Int) (a1 : List Int) (b0 : Nat → Option (Bool ⊕ Unit)) : Nat → Option (Bool ⊕ Unit)
  | i32 => (if i32 < a0.length then (a0[i32]?).bind fun c0 => (a1[i32]?).bind fun d0 => (if c0 = d0 then b0 (i32 + 1) else some (.inl false)) else some (.inr ()))
def slices_Equal_api_Plan_int_p (n : Nat) (a0 : List Int) (a1 : List Int) : Option Bool :=
  (if a0.length = a1.length then thn (loopF (slices_Equal_api_Plan_int_l1 n a0 a1) n 0) (fun _ => some true) else some false)
theorem slices_Equal_api_Plan_int_c (n : Nat) (L : List Nat) (w : World) (_hL : ∀ b ∈ L, b < w.heap.size) (a0 : List Int) {v0_0 : Value} (h0_0 : Rep.R w L [v0_0] a0) (a1 : List Int) {v1_0 : Value} (h1_0 : Rep.R w L [v1_0] a1)  {r : Bool} (h : slices_Equal_api_Plan_int_p n a0 a1 = some r) :
    Calls Tryz.prog 28 #[v0_0, v1_0] w (Gives w fun _ u => u = .bool r) := by
 unfold slices_Equal_api_Plan_int_p at h
 have hS0 := St.start w
 refine MX.start Tryz.func28 rfl rfl rfl (fun _ cs0 hb0 => ?_)
 refine MX.sr <| RG.so rfl <| RG.nil <| MX.seq <| MX.sr <| RG.mo rfl ?_
 have hl1 : a0.length ≤ 281474976710656 := Rep.lenle h0_0
 refine RG.va (FV.len (xs := a0) Tryz.underlying43 rfl h0_0) <| RG.mo rfl ?_
 have hl2 : a1.length ≤ 281474976710656 := Rep.lenle h1_0
 refine RG.va (FV.len (xs := a1) Tryz.underlying43 rfl h1_0) <| RG.va (FV.neqN (i := a0.length) (j := a1.length) rfl rfl) <| RG.nil <| MX.ifn rfl h (fun c3 h => ?_) (fun c3 h => ?_)
 refine MX.skip <| MX.seq <| MX.sr <| RG.mo rfl <| RG.va (FV.len (xs := a0) Tryz.underlying43 rfl h0_0) <| RG.mo rfl <| RG.nil <| MX.block ?_
 obtain ⟨X0, I0, j0⟩ := thn_in h
 refine MX.loop (α := Nat) (fun i32 => [(0, v0_0), (1, v1_0), (12, vI ((a0.length : Nat) : Int)), (13, vI ((i32 : Nat) : Int))]) (fun i32 g0 => St w g0 [] ∧ Tr w [] g0 []) (fun i32 => i32) 0 I0 ⟨rfl, rfl, rfl, rfl, trivial⟩ ⟨hS0, Tr.refl _ _⟩ ?_
 rintro U0 i32 g0 v0 ⟨d0, x0⟩ h
 unfold slices_Equal_api_Plan_int_l1 at h
 try dsimp only at h
 refine MX.sr <| RG.va (FV.lssN (i := i32) (j := a0.length) rfl rfl) <| RG.nil <| MX.seq <| MX.ifd rfl h (fun q0 h => ?_) (fun q0 h => ?_)
 refine MX.skip <| MX.seq <| MX.block <| MX.sr <| RG.mo rfl <| RG.so rfl <| RG.nil <| MX.seq <| MX.drawT 9 tb28_6 (by kernel_rfl) (by kernel_rfl) (by kernel_rfl) (fun b0 c0 => ?_)
 refine RD.vw 0 1 b0 rfl c0 (fun _ => FV.move rfl) rfl <| RD.vw 1 3 b0 rfl c0 (fun _ => FV.move rfl) rfl ?_
 obtain ⟨k0, M0, h⟩ := bi h
 have F0 := Rep.mv0 h0_0 d0
 obtain ⟨Q0, V0, y0, C0, t0, J0, E0⟩ := Rep.nth F0 M0
 have z0 : t0 = [vI k0] := J0; subst z0
 refine RD.vw 2 7 b0 rfl c0 (fun _ => FV.ia 1 i32 rfl y0 rfl rfl C0) rfl <| RD.vx 3 15 256 b0 rfl c0 (FV.l1 rfl (E0 0 _ rfl)) rfl <| RD.vw 4 31 b0 rfl c0 (fun _ => FV.move rfl) rfl <| RD.vw 5 63 b0 rfl c0 (fun _ => FV.move rfl) rfl ?_
 obtain ⟨p0, P0, h⟩ := bi h
 have H0 := Rep.mv0 h1_0 d0
 obtain ⟨R0, W0, A0, D0, u0, K0, G0⟩ := Rep.nth H0 P0
 have B0 : u0 = [vI p0] := K0; subst B0
 refine RD.vw 6 127 b0 rfl c0 (fun _ => FV.ia 1 i32 rfl A0 rfl rfl D0) rfl <| RD.vx 7 255 256 b0 rfl c0 (FV.l1 rfl (G0 0 _ rfl)) rfl <| RD.vw 8 511 b0 rfl c0 (fun _ => FV.neq (i := k0) (j := p0) rfl rfl) rfl <| RD.done (doneD_ok b0 (by kernel_rfl)) <| MX.ifn rfl h (fun s0 h => ?_) (fun s0 h => ?_)
 refine MX.skip <| MX.inBlock <| MX.region <| RG.va (FV.addN (i := i32) (j := 1) rfl rfl (by omega)) <| RG.mo rfl <| RG.nil ?_
 exact v0 (i32 + 1) _ _ ⟨rfl, rfl, rfl, rfl, trivial⟩ ⟨d0, x0⟩ h
 refine MX.sr <| RG.so rfl <| RG.nil ?_
 have h := thn_inl h j0
 refine MX.ret rfl <| RT.t1 hb0 Tryz.func28 rfl rfl ?_
 cases h
 exact d0.gv
 refine MX.exit rfl ?_
 have h := thn_inr h j0
 try dsimp only at h
 refine MX.sr <| RG.so rfl <| RG.nil <| MX.ret rfl <| RT.t1 hb0 Tryz.func28 rfl rfl ?_
 cases h
 exact d0.gv
 refine MX.sr <| RG.so rfl <| RG.nil <| MX.ret rfl <| RT.t1 hb0 Tryz.func28 rfl rfl ?_
 cases h
 exact hS0.gv
end Go.Proofs.YtcijnmkodpfpgaaGreatDoor
