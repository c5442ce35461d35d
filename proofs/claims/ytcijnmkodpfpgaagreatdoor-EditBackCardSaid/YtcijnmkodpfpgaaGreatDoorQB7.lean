/- Functions of the program, and what they give: part 7. -/
import Derived.Test.YtcijnmkodpfpgaaGreatDoorQB6
namespace Go.Proofs.YtcijnmkodpfpgaaGreatDoor
open Go Go.RowKit
set_option maxRecDepth 4000
set_option maxHeartbeats 4000000

def tb34_13 : List (Nat × Nat × Nat) := [(0, 2305843009213693952, 0), (0, 4611686018427387904, 32), (2, 9223372036854775808, 4611686018427387904), (5, 18446744073709551616, 11529215046068469760), (0, 36893488147419103232, 1024), (16, 73786976294838206464, 36893488147419103232), (40, 147573952589676412928, 92233720368547758080), (127, 295147905179352825856, 8192), (255, 0, 442721857769029238784)]
def wardmoteref26_Redo_p (n : Nat) (a0 : TGraph) (a1 : TRoll) (a2 : TSession) : Option (TSession × Int) :=
  (wardmoteref26_Check_p n a0 a1 a2).bind fun d0 => (if d0 = 0 then (if a2.fUndone.length = 0 then some ((⟨(0 : Int), ([] : List Int), ([] : List Int), ([] : List TMove), ([] : List TMove)⟩ : TSession), (4 : Int)) else (if a2.fDone.length = 200 then some ((⟨(0 : Int), ([] : List Int), ([] : List Int), ([] : List TMove), ([] : List TMove)⟩ : TSession), (3 : Int)) else (idx a2.fUndone (((a2.fUndone.length : Nat) : Int) - 1)).bind fun b0 => (wardmoteref26_put_p n a2.fPlan b0.fUnit b0.fFrom b0.fTo).bind fun p0 => (wardmoteref26_with_p n a1 a2 p0.1).bind fun c0 => (cut a2.fUndone 0 (((a2.fUndone.length : Nat) : Int) - 1)).bind fun k0 => (app ([] : List TMove) a2.fDone).bind fun g0 => (app g0 ([b0] : List TMove)).bind fun j0 => some ((⟨c0.fK, c0.fPlan, c0.fTotals, j0, k0⟩ : TSession), (0 : Int)))) else some ((⟨(0 : Int), ([] : List Int), ([] : List Int), ([] : List TMove), ([] : List TMove)⟩ : TSession), d0))
theorem wardmoteref26_Redo_c (n : Nat) (L : List Nat) (w : World) (hL : ∀ b ∈ L, b < w.heap.size) (a0 : TGraph) {v0_1 : Value} (h0_1 : Rep.R w L [v0_1] a0.fEdges) (a1 : TRoll) {v1_3 : Value} (h1_3 : Rep.R w L [v1_3] a1.fUnits) (a2 : TSession) {v2_1 : Value} (h2_1 : Rep.R w L [v2_1] a2.fPlan) {v2_2 : Value} (h2_2 : Rep.R w L [v2_2] a2.fTotals) {v2_3 : Value} (h2_3 : Rep.R w L [v2_3] a2.fDone) {v2_4 : Value} (h2_4 : Rep.R w L [v2_4] a2.fUndone)  {r : TSession × Int} (h : wardmoteref26_Redo_p n a0 a1 a2 = some r) :
    Calls Tryz.prog 34 #[.agg #[vI a0.fN, v0_1], .agg #[vI a1.fGroups, vI a1.fParties, vI a1.fLevels, v1_3], .agg #[vI a2.fK, v2_1, v2_2, v2_3, v2_4]] w (Gives w fun w' u => ∃ v0_1 v0_2 v0_3 v0_4 : Value, u = .tuple #[.agg #[vI r.1.fK, v0_1, v0_2, v0_3, v0_4], vI r.2] ∧ Rep.R w' L [v0_1] r.1.fPlan ∧ Rep.R w' L [v0_2] r.1.fTotals ∧ Rep.R w' L [v0_3] r.1.fDone ∧ Rep.R w' L [v0_4] r.1.fUndone) := by
 unfold wardmoteref26_Redo_p at h
 have hS0 := St.start w
 refine MX.start Tryz.func34 rfl rfl rfl (fun _ cs0 hb0 => ?_)
 refine MX.sr <| RG.new .plain rfl (Does.box hS0 rfl rfl) (fun w2 b5 hS3 hT4 => ?_)
 refine RG.new .plain rfl (Does.box hS3 rfl rfl) (fun w7 V2 hS8 hT9 => ?_)
 refine RG.new .plain rfl (Does.box hS8 rfl rfl) (fun Q6 W2 c3 z6 => ?_)
 refine RG.new .plain rfl (Does.al [vI 0, vN, vN, vN, vN] c3) (fun R6 v1 D0 A6 => ?_)
 refine RG.so rfl <| RG.nil <| MX.seq <| MX.sr <| RG.va (FV.lN rfl (D0.memA (.tl (.tl (.tl .hd))))) <| RG.va (FV.lN rfl (D0.memA (.tl (.tl .hd)))) ?_
 refine RG.va (FV.lN rfl (D0.memA (.tl .hd))) ?_
 obtain ⟨U2, j6, h⟩ := bind_in h
 refine RG.cq (vI U2) body21 rfl (e3 rfl rfl rfl) (fun w9 hw9 => wardmoteref26_Check_c n _ w9 (D0.hL0 hL hw9) a0 (D0.k0 h0_1 hw9) a1 (D0.k0 h1_3 hw9) a2 (D0.k0 h2_1 hw9) (D0.k0 h2_2 hw9) (D0.k0 h2_3 hw9) (D0.k0 h2_4 hw9) j6) rfl <| RG.so rfl <| RG.nil <| MX.sr <| RG.mo rfl <| RG.va (FV.neq (i := U2) (j := 0) rfl rfl) ?_
 refine RG.nil <| MX.ifn rfl h (fun Y2 h => ?_) (fun Y2 h => ?_)
 refine MX.skip <| MX.sr <| RG.fa 4 rfl <| RG.l1 rfl ((D0.memA (.tl .hd)) 4 _ rfl) ?_
 have k2 := Rep.mv0 h2_4 D0
 have I6 : a2.fUndone.length ≤ 281474976710656 := Rep.lenle k2
 refine RG.va (FV.len (xs := a2.fUndone) Tryz.underlying46 rfl k2) <| RG.so rfl <| RG.nil <| MX.seq <| MX.sr <| RG.mo rfl ?_
 refine RG.va (FV.eqlN (i := a2.fUndone.length) (j := 0) rfl rfl) <| RG.nil <| MX.ifd rfl h (fun Z2 h => ?_) (fun Z2 h => ?_)
 refine MX.sr <| RG.va (FV.buildV (vs := []) (u := .agg #[vI 0, vN, vN, vN, vN]) evs_nil (fun w9 => by kernel_rfl)) <| RG.sa [vI 0, vN, vN, vN, vN] D0 .hd (onesB rfl) (fun Y6 Z0 C6 => ?_)
 refine RG.so rfl <| RG.nil <| MX.ret rfl ?_
 have K2 := Rep.nilAt (α := Int) Z0 L
 have M2 := Rep.nilAt (α := TMove) Z0 L
 refine RT.leave hb0 Tryz.func34 rfl (.cons (.many (cs := [vI 0, vN, vN, vN, vN]) (by kernel_rfl) rfl (Z0.memA .hd)) (.cons (.tmp rfl) .nil)) rfl ?_
 cases h
 exact ⟨Z0.ag, fun w9 hw9 => ⟨vN, vN, vN, vN, rfl, Z0.kd K2 hw9, Z0.kd K2 hw9, Z0.kd M2 hw9, Z0.kd M2 hw9⟩⟩
 refine MX.skip <| MX.seq <| MX.sr <| RG.fa 3 rfl <| RG.l1 rfl ((D0.memA (.tl .hd)) 3 _ rfl) ?_
 have C2 := Rep.mv0 h2_3 D0
 have J6 : a2.fDone.length ≤ 281474976710656 := Rep.lenle C2
 refine RG.va (FV.len (xs := a2.fDone) Tryz.underlying46 rfl C2) <| RG.va (FV.eqlN (i := a2.fDone.length) (j := 200) rfl rfl) <| RG.nil <| MX.ifd rfl h (fun b3 h => ?_) (fun b3 h => ?_)
 refine MX.sr <| RG.va (FV.buildV (vs := []) (u := .agg #[vI 0, vN, vN, vN, vN]) evs_nil (fun w9 => by kernel_rfl)) <| RG.sa [vI 0, vN, vN, vN, vN] D0 .hd (onesB rfl) (fun Z6 b1 D6 => ?_)
 refine RG.so rfl <| RG.nil <| MX.ret rfl ?_
 have P2 := Rep.nilAt (α := Int) b1 L
 have Q2 := Rep.nilAt (α := TMove) b1 L
 refine RT.leave hb0 Tryz.func34 rfl (.cons (.many (cs := [vI 0, vN, vN, vN, vN]) (by kernel_rfl) rfl (b1.memA .hd)) (.cons (.tmp rfl) .nil)) rfl ?_
 cases h
 exact ⟨b1.ag, fun w9 hw9 => ⟨vN, vN, vN, vN, rfl, b1.kd P2 hw9, b1.kd P2 hw9, b1.kd Q2 hw9, b1.kd Q2 hw9⟩⟩
 refine MX.skip <| MX.sr <| RG.fa 4 rfl <| RG.l1 rfl ((D0.memA (.tl .hd)) 4 _ rfl) <| RG.mo rfl <| RG.va (FV.subI (i := ((a2.fUndone.length : Nat) : Int)) (j := 1) rfl rfl (by omega)) ?_
 obtain ⟨b0, b6, h⟩ := bind_in h
 obtain ⟨V3, c6⟩ := idx_in b6
 obtain ⟨u6, v6, U3, W3, y6, W5, q5⟩ := Rep.nth k2 c6
 obtain rfl := op_TMove W5
 refine RG.va (FV.idxAddr (m := 3) (i := (((a2.fUndone.length : Nat) : Int) - 1).toNat) (by kernel_rfl) rfl U3 rfl V3 W3) <| RG.va (FV.lN rfl q5) <| RG.new .plain rfl (Does.al [vI 0, vI 0, vI 0] D0) (fun b7 X2 G3 E6 => ?_)
 refine RG.sa [vI b0.fUnit, vI b0.fFrom, vI b0.fTo] G3 .hd (onesB rfl) (fun c7 p1 F6 => ?_)
 refine RG.nil <| MX.sr <| RG.fa 1 rfl <| RG.l1 rfl ((p1.memA (.tl (.tl .hd))) 1 _ rfl) <| RG.fa 0 rfl <| RG.l1 rfl ((p1.memA .hd) 0 _ rfl) ?_
 refine RG.fa 1 rfl <| RG.l1 rfl ((p1.memA .hd) 1 _ rfl) <| RG.fa 2 rfl <| RG.l1 rfl ((p1.memA .hd) 2 _ rfl) ?_
 obtain ⟨t6, k6, h⟩ := bind_in h
 refine RG.call' (fst := []) (cap := []) .plain body43 rfl (e4 rfl rfl rfl rfl) (fun w9 hw9 => wardmoteref26_put_c n _ w9 (p1.hL hL hw9) a2.fPlan (p1.km h2_1 hw9) b0.fUnit b0.fFrom b0.fTo k6) rfl (fun d7 M6 K3 ⟨K6, hu_, X5⟩ => ?_)
 subst hu_
 obtain ⟨W0, G6⟩ := p1.agr K3
 refine RG.mo rfl <| RG.va (FV.extract rfl rfl) <| RG.va (FV.extract rfl rfl) <| RG.so rfl <| RG.so rfl <| RG.nil ?_
 refine MX.sr <| RG.va (FV.lN rfl (W0.memA (.tl (.tl (.tl .hd))))) <| RG.va (FV.lN rfl (W0.memA (.tl (.tl .hd)))) <| RG.mo rfl ?_
 obtain ⟨U0, p6, h⟩ := bind_in h
 refine RG.call' (fst := []) (cap := []) .plain body44 rfl (e3 rfl rfl rfl) (fun w9 hw9 => wardmoteref26_with_c n _ w9 (W0.hL hL hw9) a1 (W0.km h1_3 hw9) a2 (W0.km h2_1 hw9) (W0.km h2_2 hw9) (W0.km h2_3 hw9) (W0.km h2_4 hw9) t6.1 (Rep.keep0 X5 hw9) p6) rfl (fun g7 P6 M3 ⟨M0, P0, X0, R2, hu_, q2, s2, Y5, Z5⟩ => ?_)
 subst hu_
 obtain ⟨H3, H6⟩ := W0.agr M3
 refine RG.new .plain rfl (Does.al [vI 0, vN, vN, vN, vN] H3) (fun j7 x1 I3 z1 => ?_)
 have s5 := Rep.mv q2 z1
 have t5 := Rep.mv s2 z1
 have u5 := Rep.mv Y5 z1
 have v5 := Rep.mv Z5 z1
 refine RG.sa [vI U0.fK, M0, P0, X0, R2] I3 .hd (o5 rfl (Rep.o1 s5) (Rep.o1 t5) (Rep.o1 u5) (Rep.o1 v5)) (fun k7 H1 J3 => ?_)
 refine RG.nil <| MX.sr <| RG.fa 4 rfl <| RG.va (FV.l1 rfl ((H1.memA (.tl (.tl (.tl .hd)))) 4 _ rfl)) <| RG.mo rfl <| RG.va (FV.subI (i := ((a2.fUndone.length : Nat) : Int)) (j := 1) rfl rfl (by omega)) ?_
 obtain ⟨p7, g6, h⟩ := bind_in h
 have x5 := Rep.mv0 h2_4 H1
 refine RG.valE .plain rfl (FV.cutL (α := TMove) g6 (by kernel_rfl) rfl x5 rfl ⟨_, rfl⟩) (fun R0 C1 => ?_)
 refine RG.fa 4 rfl <| RG.now .plain (Acts.store (j := 4) (old := [vI U0.fK, M0, P0, X0, R2]) (news := [R0]) (new' := [vI U0.fK, M0, P0, X0, R0]) H1 .hd rfl rfl rfl (Rep.c1 C1) rfl rfl (o1 (Rep.o1 C1)) rfl) (fun q6 Q0 B2 => ?_)
 refine RG.nil <| MX.seq <| MX.drawT 3 tb34_13 (by kernel_rfl) (by kernel_rfl) (by kernel_rfl) (fun c0 D1 => ?_)
 refine RD.vw 1 2 c0 rfl D1 (fun _ => FV.fa 3 rfl) rfl ?_
 obtain ⟨B1, E0, h⟩ := bind_in h
 refine RD.meet (α := Value × (List Value) × Value × (List Value)) (fun ⟨q1, g1, s1, j1⟩ => [(6, vP v1), (13, vP x1), (64, s1), (66, q1)]) (fun ⟨q1, g1, s1, j1⟩ A1 => St w A1 [.row w.heap.size 62 (Rep.size TMove) q1 (([b0] : List TMove).length) g1, .row w.heap.size 62 (Rep.size TMove) s1 B1.length j1, .cells x1 [vI U0.fK, M0, P0, X0, R0] 48, .cells v1 [vI 0, vN, vN, vN, vN] 48] ∧ Tr q6 [.cells x1 [vI U0.fK, M0, P0, X0, R0] 48, .cells X2 [vI b0.fUnit, vI b0.fFrom, vI b0.fTo] 62, .cells v1 [vI 0, vN, vN, vN, vN] 48, .cells W2 [vI a2.fK, v2_1, v2_2, v2_3, v2_4] 48, .cells V2 [vI a1.fGroups, vI a1.fParties, vI a1.fLevels, v1_3] 41, .cells b5 [vI a0.fN, v0_1] 38] A1 [.row w.heap.size 62 (Rep.size TMove) q1 (([b0] : List TMove).length) g1, .row w.heap.size 62 (Rep.size TMove) s1 B1.length j1, .cells x1 [vI U0.fK, M0, P0, X0, R0] 48, .cells v1 [vI 0, vN, vN, vN, vN] 48] ∧ Cells A1 (bl [.row w.heap.size 62 (Rep.size TMove) q1 (([b0] : List TMove).length) g1, .row w.heap.size 62 (Rep.size TMove) s1 B1.length j1, .cells x1 [vI U0.fK, M0, P0, X0, R0] 48, .cells v1 [vI 0, vN, vN, vN, vN] 48] ++ L) g1 (([b0] : List TMove) : List TMove) ∧ Cells A1 (bl [.row w.heap.size 62 (Rep.size TMove) q1 (([b0] : List TMove).length) g1, .row w.heap.size 62 (Rep.size TMove) s1 B1.length j1, .cells x1 [vI U0.fK, M0, P0, X0, R0] 48, .cells v1 [vI 0, vN, vN, vN, vN] 48] ++ L) j1 (B1 : List TMove)) 3 63 ?_ ?_
 rintro ⟨q1, g1, s1, j1⟩ A1 ⟨t2, u2, P3, Q3⟩
 try dsimp only
 obtain ⟨s6, d6, h⟩ := bind_in h
 refine RD.one (i := 6) (readyD_ok c0 (by kernel_rfl)) (RO.doesL (m' := 127) (stepC_ok c0 (by kernel_rfl)) rfl rfl .plain rfl (DoesL.app (α := TMove) (ys := ([b0] : List TMove)) d6 t2 (fun _ _ => (.tl .hd)) el46 rfl rfl Q3 (Src.row (α := TMove) t2 .hd P3)) (fun y1 U6 ⟨x6, E1, v2, R3⟩ => ?_))
 refine RD.one (i := 7) (readyD_ok c0 (by kernel_rfl)) (RO.val (m' := 255) (stepC_ok c0 (by kernel_rfl)) rfl .plain rfl (FV.fa 3 rfl) ?_)
 refine RD.nw 8 511 c0 rfl rfl .plain (Acts.store (j := 3) (old := [vI U0.fK, M0, P0, X0, R0]) (news := [y1]) (new' := [vI U0.fK, M0, P0, y1, R0]) E1 (.tl (.tl .hd)) rfl rfl rfl (St.c1 (α := TMove) E1 (.tl .hd)) rfl rfl (o1 (St.o1 (α := TMove) E1 (.tl .hd))) rfl) (fun V6 F1 I1 => ?_)
 refine RD.done (doneD_ok c0 (by kernel_rfl)) <| MX.sr <| RG.va (FV.lN rfl (F1.memA (.tl (.tl .hd)))) ?_
 have p2 := Tr.trans z1 (Tr.trans J3 (Tr.trans B2 (Tr.trans u2 (Tr.trans v2 I1))))
 have X3 := Rep.mv q2 p2
 have Y3 := Rep.mv s2 p2
 have D2 := Tr.trans B2 (Tr.trans u2 (Tr.trans v2 I1))
 have Z3 := Rep.mv C1 D2
 refine RG.sa [vI U0.fK, M0, P0, y1, R0] F1 (.tl (.tl (.tl .hd))) (o5 rfl (Rep.o1 X3) (Rep.o1 Y3) (St.o1 (α := TMove) F1 (.tl .hd)) (Rep.o1 Z3)) (fun W6 G1 J1 => ?_)
 refine RG.so rfl <| RG.nil <| MX.ret rfl ?_
 have b4 := Cells.mv R3 (Tr.trans I1 J1)
 have U5 := St.freeze (α := TMove) G1 (.tl .hd) b4 hL
 have k1 := St.delS G1 (.tl .hd)
 have x2 := St.delT G1 (.tl .hd)
 have V5 := Rep.at_ (α := TMove) (v := y1) (xs := s6) k1 L U5
 refine RT.leave hb0 Tryz.func34 rfl (.cons (.many (cs := [vI U0.fK, M0, P0, y1, R0]) (by kernel_rfl) rfl (k1.memA (.tl (.tl .hd)))) (.cons (.tmp rfl) .nil)) rfl ?_
 cases h
 have E2 := Tr.trans p2 (Tr.trans J1 x2)
 have c4 := Rep.mv q2 E2
 have d4 := Rep.mv s2 E2
 have y5 := Tr.trans D2 (Tr.trans J1 x2)
 have g4 := Rep.mv C1 y5
 exact ⟨k1.ag, fun w9 hw9 => ⟨M0, P0, y1, R0, rfl, k1.kd c4 hw9, k1.kd d4 hw9, k1.kd V5 hw9, k1.kd g4 hw9⟩⟩
 intro C0
 refine RD.each [0, 2, 4] (readyD_ok c0 (by kernel_rfl)) ⟨?_, ?_, ?_, trivial⟩
 refine RO.new (m' := 3) (stepC_ok c0 (by kernel_rfl)) rfl .plain rfl (Does.build (α := TMove) (xs := ([] : List TMove)) (vs := []) (ds' := []) rfl Q0 el46 rfl evs_nil (by kernel_rfl) rfl) (fun u1 d1 j0 t0 => ?_)
 have u0 := Cells.at_ (cs := []) (xs := (([] : List TMove) : List TMove)) j0 L (Cells.nil _ _)
 refine RD.each [2, 4] (readyD_ok c0 (by kernel_rfl)) ⟨?_, ?_, trivial⟩
 refine RO.val (m' := 7) (stepC_ok c0 (by kernel_rfl)) rfl .plain rfl (FV.l1 rfl ((j0.memA (.tl (.tl (.tl (.tl .hd))))) 3 _ rfl)) <| RD.each [3, 4] (readyD_ok c0 (by kernel_rfl)) ⟨?_, ?_, trivial⟩
 have s0 := Rep.mv0 h2_3 j0
 refine RO.doesL (m' := 15) (stepC_ok c0 (by kernel_rfl)) rfl rfl .plain rfl (DoesL.app (α := TMove) (ys := a2.fDone) E0 j0 (fun _ _ => .hd) el46 rfl rfl u0 (Src.rep s0)) (fun B0 V0 ⟨y0, v0, z0, A0⟩ => ?_)
 refine RD.one (i := 4) (readyD_ok c0 (by kernel_rfl)) (RO.val (m' := 31) (stepC_ok c0 (by kernel_rfl)) rfl .plain rfl (FV.lN rfl (v0.memA (.tl (.tl .hd)))) ?_)
 refine RD.nu 5 63 c0 rfl .plain rfl (Does.build (α := TMove) (xs := ([b0] : List TMove)) (vs := [.agg #[vI b0.fUnit, vI b0.fFrom, vI b0.fTo]]) (ds' := [vI b0.fUnit, vI b0.fFrom, vI b0.fTo]) rfl v0 el46 rfl (e1 rfl) (by kernel_rfl) rfl) (fun F0 p0 d0 g0 => ?_)
 have q0 := Cells.at_ (cs := [vI b0.fUnit, vI b0.fFrom, vI b0.fTo]) (xs := (([b0] : List TMove) : List TMove)) d0 L (Cells.cons (cs := [vI b0.fUnit, vI b0.fFrom, vI b0.fTo]) (ds := []) (mk_TMove b0.fUnit b0.fFrom b0.fTo) (Cells.nil _ _))
 obtain ⟨d3, K1⟩ := St.arrB d0 (.one .hd (.one .hd (.one .hd (.one (.tl .hd) .done))))
 have j4 := Cells.mv q0 K1
 have k4 := Cells.mv A0 (Tr.trans g0 K1)
 have z5 := Tr.trans t0 (Tr.trans z0 (Tr.trans g0 K1))
 exact C0 ((vS p0 1), [vI b0.fUnit, vI b0.fFrom, vI b0.fTo], B0, y0) _ _ ⟨rfl, rfl, rfl, rfl, trivial⟩ ⟨d3, z5, j4, k4⟩
 refine RO.val (m' := 23) (stepC_ok c0 (by kernel_rfl)) rfl .plain rfl (FV.lN rfl (j0.memA (.tl (.tl .hd)))) <| RD.each [3, 5] (readyD_ok c0 (by kernel_rfl)) ⟨?_, ?_, trivial⟩
 have s0 := Rep.mv0 h2_3 j0
 refine RO.doesL (m' := 31) (stepC_ok c0 (by kernel_rfl)) rfl rfl .plain rfl (DoesL.app (α := TMove) (ys := a2.fDone) E0 j0 (fun _ _ => .hd) el46 rfl rfl u0 (Src.rep s0)) (fun B0 V0 ⟨y0, v0, z0, A0⟩ => ?_)
 refine RD.nu 5 63 c0 rfl .plain rfl (Does.build (α := TMove) (xs := ([b0] : List TMove)) (vs := [.agg #[vI b0.fUnit, vI b0.fFrom, vI b0.fTo]]) (ds' := [vI b0.fUnit, vI b0.fFrom, vI b0.fTo]) rfl v0 el46 rfl (e1 rfl) (by kernel_rfl) rfl) (fun F0 p0 d0 g0 => ?_)
 have q0 := Cells.at_ (cs := [vI b0.fUnit, vI b0.fFrom, vI b0.fTo]) (xs := (([b0] : List TMove) : List TMove)) d0 L (Cells.cons (cs := [vI b0.fUnit, vI b0.fFrom, vI b0.fTo]) (ds := []) (mk_TMove b0.fUnit b0.fFrom b0.fTo) (Cells.nil _ _))
 obtain ⟨g3, M1⟩ := St.arrB d0 (.one .hd (.one .hd (.one .hd (.one (.tl .hd) .done))))
 have p4 := Cells.mv q0 M1
 have q4 := Cells.mv A0 (Tr.trans g0 M1)
 have A5 := Tr.trans t0 (Tr.trans z0 (Tr.trans g0 M1))
 exact C0 ((vS p0 1), [vI b0.fUnit, vI b0.fFrom, vI b0.fTo], B0, y0) _ _ ⟨rfl, rfl, rfl, rfl, trivial⟩ ⟨g3, A5, p4, q4⟩
 refine RO.new (m' := 55) (stepC_ok c0 (by kernel_rfl)) rfl .plain rfl (Does.build (α := TMove) (xs := ([b0] : List TMove)) (vs := [.agg #[vI b0.fUnit, vI b0.fFrom, vI b0.fTo]]) (ds' := [vI b0.fUnit, vI b0.fFrom, vI b0.fTo]) rfl j0 el46 rfl (e1 rfl) (by kernel_rfl) rfl) (fun F0 p0 d0 g0 => ?_)
 have q0 := Cells.at_ (cs := [vI b0.fUnit, vI b0.fFrom, vI b0.fTo]) (xs := (([b0] : List TMove) : List TMove)) d0 L (Cells.cons (cs := [vI b0.fUnit, vI b0.fFrom, vI b0.fTo]) (ds := []) (mk_TMove b0.fUnit b0.fFrom b0.fTo) (Cells.nil _ _))
 have s0 := Rep.mv0 h2_3 d0
 have J0 := Cells.mv u0 g0
 refine RD.one (i := 3) (readyD_ok c0 (by kernel_rfl)) (RO.doesL (m' := 63) (stepC_ok c0 (by kernel_rfl)) rfl rfl .plain rfl (DoesL.app (α := TMove) (ys := a2.fDone) E0 d0 (fun _ _ => (.tl .hd)) el46 rfl rfl J0 (Src.rep s0)) (fun K0 t1 ⟨G0, H0, x0, I0⟩ => ?_))
 obtain ⟨j3, P1⟩ := St.arrB H0 (.one .hd (.one .hd (.one .hd (.one (.tl .hd) .done))))
 have s4 := Cells.mv q0 (Tr.trans x0 P1)
 have t4 := Cells.mv I0 P1
 have B5 := Tr.trans t0 (Tr.trans g0 (Tr.trans x0 P1))
 exact C0 ((vS p0 1), [vI b0.fUnit, vI b0.fFrom, vI b0.fTo], K0, G0) _ _ ⟨rfl, rfl, rfl, rfl, trivial⟩ ⟨j3, B5, s4, t4⟩
 refine RO.val (m' := 19) (stepC_ok c0 (by kernel_rfl)) rfl .plain rfl (FV.lN rfl (j0.memA (.tl (.tl .hd)))) <| RD.each [2, 5] (readyD_ok c0 (by kernel_rfl)) ⟨?_, ?_, trivial⟩
 refine RO.val (m' := 23) (stepC_ok c0 (by kernel_rfl)) rfl .plain rfl (FV.l1 rfl ((j0.memA (.tl (.tl (.tl (.tl .hd))))) 3 _ rfl)) <| RD.each [3, 5] (readyD_ok c0 (by kernel_rfl)) ⟨?_, ?_, trivial⟩
 have s0 := Rep.mv0 h2_3 j0
 refine RO.doesL (m' := 31) (stepC_ok c0 (by kernel_rfl)) rfl rfl .plain rfl (DoesL.app (α := TMove) (ys := a2.fDone) E0 j0 (fun _ _ => .hd) el46 rfl rfl u0 (Src.rep s0)) (fun B0 V0 ⟨y0, v0, z0, A0⟩ => ?_)
 refine RD.nu 5 63 c0 rfl .plain rfl (Does.build (α := TMove) (xs := ([b0] : List TMove)) (vs := [.agg #[vI b0.fUnit, vI b0.fFrom, vI b0.fTo]]) (ds' := [vI b0.fUnit, vI b0.fFrom, vI b0.fTo]) rfl v0 el46 rfl (e1 rfl) (by kernel_rfl) rfl) (fun F0 p0 d0 g0 => ?_)
 have q0 := Cells.at_ (cs := [vI b0.fUnit, vI b0.fFrom, vI b0.fTo]) (xs := (([b0] : List TMove) : List TMove)) d0 L (Cells.cons (cs := [vI b0.fUnit, vI b0.fFrom, vI b0.fTo]) (ds := []) (mk_TMove b0.fUnit b0.fFrom b0.fTo) (Cells.nil _ _))
 obtain ⟨k3, Q1⟩ := St.arrB d0 (.one .hd (.one .hd (.one .hd (.one (.tl .hd) .done))))
 have u4 := Cells.mv q0 Q1
 have v4 := Cells.mv A0 (Tr.trans g0 Q1)
 have C5 := Tr.trans t0 (Tr.trans z0 (Tr.trans g0 Q1))
 exact C0 ((vS p0 1), [vI b0.fUnit, vI b0.fFrom, vI b0.fTo], B0, y0) _ _ ⟨rfl, rfl, rfl, rfl, trivial⟩ ⟨k3, C5, u4, v4⟩
 refine RO.new (m' := 55) (stepC_ok c0 (by kernel_rfl)) rfl .plain rfl (Does.build (α := TMove) (xs := ([b0] : List TMove)) (vs := [.agg #[vI b0.fUnit, vI b0.fFrom, vI b0.fTo]]) (ds' := [vI b0.fUnit, vI b0.fFrom, vI b0.fTo]) rfl j0 el46 rfl (e1 rfl) (by kernel_rfl) rfl) (fun F0 p0 d0 g0 => ?_)
 have q0 := Cells.at_ (cs := [vI b0.fUnit, vI b0.fFrom, vI b0.fTo]) (xs := (([b0] : List TMove) : List TMove)) d0 L (Cells.cons (cs := [vI b0.fUnit, vI b0.fFrom, vI b0.fTo]) (ds := []) (mk_TMove b0.fUnit b0.fFrom b0.fTo) (Cells.nil _ _))
 have s0 := Rep.mv0 h2_3 d0
 have J0 := Cells.mv u0 g0
 refine RD.one (i := 3) (readyD_ok c0 (by kernel_rfl)) (RO.doesL (m' := 63) (stepC_ok c0 (by kernel_rfl)) rfl rfl .plain rfl (DoesL.app (α := TMove) (ys := a2.fDone) E0 d0 (fun _ _ => (.tl .hd)) el46 rfl rfl J0 (Src.rep s0)) (fun K0 t1 ⟨G0, H0, x0, I0⟩ => ?_))
 obtain ⟨p3, R1⟩ := St.arrB H0 (.one .hd (.one .hd (.one .hd (.one (.tl .hd) .done))))
 have x4 := Cells.mv q0 (Tr.trans x0 R1)
 have y4 := Cells.mv I0 R1
 have D5 := Tr.trans t0 (Tr.trans g0 (Tr.trans x0 R1))
 exact C0 ((vS p0 1), [vI b0.fUnit, vI b0.fFrom, vI b0.fTo], K0, G0) _ _ ⟨rfl, rfl, rfl, rfl, trivial⟩ ⟨p3, D5, x4, y4⟩
 refine RO.new (m' := 51) (stepC_ok c0 (by kernel_rfl)) rfl .plain rfl (Does.build (α := TMove) (xs := ([b0] : List TMove)) (vs := [.agg #[vI b0.fUnit, vI b0.fFrom, vI b0.fTo]]) (ds' := [vI b0.fUnit, vI b0.fFrom, vI b0.fTo]) rfl j0 el46 rfl (e1 rfl) (by kernel_rfl) rfl) (fun F0 p0 d0 g0 => ?_)
 have q0 := Cells.at_ (cs := [vI b0.fUnit, vI b0.fFrom, vI b0.fTo]) (xs := (([b0] : List TMove) : List TMove)) d0 L (Cells.cons (cs := [vI b0.fUnit, vI b0.fFrom, vI b0.fTo]) (ds := []) (mk_TMove b0.fUnit b0.fFrom b0.fTo) (Cells.nil _ _))
 refine RD.vx 2 55 456 c0 rfl D1 (FV.l1 rfl ((d0.memA (.tl (.tl (.tl (.tl (.tl .hd)))))) 3 _ rfl)) rfl ?_
 have s0 := Rep.mv0 h2_3 d0
 have J0 := Cells.mv u0 g0
 refine RD.one (i := 3) (readyD_ok c0 (by kernel_rfl)) (RO.doesL (m' := 63) (stepC_ok c0 (by kernel_rfl)) rfl rfl .plain rfl (DoesL.app (α := TMove) (ys := a2.fDone) E0 d0 (fun _ _ => (.tl .hd)) el46 rfl rfl J0 (Src.rep s0)) (fun K0 t1 ⟨G0, H0, x0, I0⟩ => ?_))
 obtain ⟨q3, U1⟩ := St.arrB H0 (.one .hd (.one .hd (.one .hd (.one (.tl .hd) .done))))
 have z4 := Cells.mv q0 (Tr.trans x0 U1)
 have A4 := Cells.mv I0 U1
 have E5 := Tr.trans t0 (Tr.trans g0 (Tr.trans x0 U1))
 exact C0 ((vS p0 1), [vI b0.fUnit, vI b0.fFrom, vI b0.fTo], K0, G0) _ _ ⟨rfl, rfl, rfl, rfl, trivial⟩ ⟨q3, E5, z4, A4⟩
 refine RO.val (m' := 6) (stepC_ok c0 (by kernel_rfl)) rfl .plain rfl (FV.l1 rfl ((Q0.memA (.tl (.tl (.tl .hd)))) 3 _ rfl)) <| RD.each [0, 4] (readyD_ok c0 (by kernel_rfl)) ⟨?_, ?_, trivial⟩
 refine RO.new (m' := 7) (stepC_ok c0 (by kernel_rfl)) rfl .plain rfl (Does.build (α := TMove) (xs := ([] : List TMove)) (vs := []) (ds' := []) rfl Q0 el46 rfl evs_nil (by kernel_rfl) rfl) (fun u1 d1 j0 t0 => ?_)
 have u0 := Cells.at_ (cs := []) (xs := (([] : List TMove) : List TMove)) j0 L (Cells.nil _ _)
 refine RD.each [3, 4] (readyD_ok c0 (by kernel_rfl)) ⟨?_, ?_, trivial⟩
 have s0 := Rep.mv0 h2_3 j0
 refine RO.doesL (m' := 15) (stepC_ok c0 (by kernel_rfl)) rfl rfl .plain rfl (DoesL.app (α := TMove) (ys := a2.fDone) E0 j0 (fun _ _ => .hd) el46 rfl rfl u0 (Src.rep s0)) (fun B0 V0 ⟨y0, v0, z0, A0⟩ => ?_)
 refine RD.one (i := 4) (readyD_ok c0 (by kernel_rfl)) (RO.val (m' := 31) (stepC_ok c0 (by kernel_rfl)) rfl .plain rfl (FV.lN rfl (v0.memA (.tl (.tl .hd)))) ?_)
 refine RD.nu 5 63 c0 rfl .plain rfl (Does.build (α := TMove) (xs := ([b0] : List TMove)) (vs := [.agg #[vI b0.fUnit, vI b0.fFrom, vI b0.fTo]]) (ds' := [vI b0.fUnit, vI b0.fFrom, vI b0.fTo]) rfl v0 el46 rfl (e1 rfl) (by kernel_rfl) rfl) (fun F0 p0 d0 g0 => ?_)
 have q0 := Cells.at_ (cs := [vI b0.fUnit, vI b0.fFrom, vI b0.fTo]) (xs := (([b0] : List TMove) : List TMove)) d0 L (Cells.cons (cs := [vI b0.fUnit, vI b0.fFrom, vI b0.fTo]) (ds := []) (mk_TMove b0.fUnit b0.fFrom b0.fTo) (Cells.nil _ _))
 obtain ⟨s3, V1⟩ := St.arrB d0 (.one .hd (.one .hd (.one .hd (.one (.tl .hd) .done))))
 have B4 := Cells.mv q0 V1
 have C4 := Cells.mv A0 (Tr.trans g0 V1)
 have F5 := Tr.trans t0 (Tr.trans z0 (Tr.trans g0 V1))
 exact C0 ((vS p0 1), [vI b0.fUnit, vI b0.fFrom, vI b0.fTo], B0, y0) _ _ ⟨rfl, rfl, rfl, rfl, trivial⟩ ⟨s3, F5, B4, C4⟩
 refine RO.val (m' := 23) (stepC_ok c0 (by kernel_rfl)) rfl .plain rfl (FV.lN rfl (j0.memA (.tl (.tl .hd)))) <| RD.each [3, 5] (readyD_ok c0 (by kernel_rfl)) ⟨?_, ?_, trivial⟩
 have s0 := Rep.mv0 h2_3 j0
 refine RO.doesL (m' := 31) (stepC_ok c0 (by kernel_rfl)) rfl rfl .plain rfl (DoesL.app (α := TMove) (ys := a2.fDone) E0 j0 (fun _ _ => .hd) el46 rfl rfl u0 (Src.rep s0)) (fun B0 V0 ⟨y0, v0, z0, A0⟩ => ?_)
 refine RD.nu 5 63 c0 rfl .plain rfl (Does.build (α := TMove) (xs := ([b0] : List TMove)) (vs := [.agg #[vI b0.fUnit, vI b0.fFrom, vI b0.fTo]]) (ds' := [vI b0.fUnit, vI b0.fFrom, vI b0.fTo]) rfl v0 el46 rfl (e1 rfl) (by kernel_rfl) rfl) (fun F0 p0 d0 g0 => ?_)
 have q0 := Cells.at_ (cs := [vI b0.fUnit, vI b0.fFrom, vI b0.fTo]) (xs := (([b0] : List TMove) : List TMove)) d0 L (Cells.cons (cs := [vI b0.fUnit, vI b0.fFrom, vI b0.fTo]) (ds := []) (mk_TMove b0.fUnit b0.fFrom b0.fTo) (Cells.nil _ _))
 obtain ⟨t3, W1⟩ := St.arrB d0 (.one .hd (.one .hd (.one .hd (.one (.tl .hd) .done))))
 have D4 := Cells.mv q0 W1
 have E4 := Cells.mv A0 (Tr.trans g0 W1)
 have G5 := Tr.trans t0 (Tr.trans z0 (Tr.trans g0 W1))
 exact C0 ((vS p0 1), [vI b0.fUnit, vI b0.fFrom, vI b0.fTo], B0, y0) _ _ ⟨rfl, rfl, rfl, rfl, trivial⟩ ⟨t3, G5, D4, E4⟩
 refine RO.new (m' := 55) (stepC_ok c0 (by kernel_rfl)) rfl .plain rfl (Does.build (α := TMove) (xs := ([b0] : List TMove)) (vs := [.agg #[vI b0.fUnit, vI b0.fFrom, vI b0.fTo]]) (ds' := [vI b0.fUnit, vI b0.fFrom, vI b0.fTo]) rfl j0 el46 rfl (e1 rfl) (by kernel_rfl) rfl) (fun F0 p0 d0 g0 => ?_)
 have q0 := Cells.at_ (cs := [vI b0.fUnit, vI b0.fFrom, vI b0.fTo]) (xs := (([b0] : List TMove) : List TMove)) d0 L (Cells.cons (cs := [vI b0.fUnit, vI b0.fFrom, vI b0.fTo]) (ds := []) (mk_TMove b0.fUnit b0.fFrom b0.fTo) (Cells.nil _ _))
 have s0 := Rep.mv0 h2_3 d0
 have J0 := Cells.mv u0 g0
 refine RD.one (i := 3) (readyD_ok c0 (by kernel_rfl)) (RO.doesL (m' := 63) (stepC_ok c0 (by kernel_rfl)) rfl rfl .plain rfl (DoesL.app (α := TMove) (ys := a2.fDone) E0 d0 (fun _ _ => (.tl .hd)) el46 rfl rfl J0 (Src.rep s0)) (fun K0 t1 ⟨G0, H0, x0, I0⟩ => ?_))
 obtain ⟨u3, X1⟩ := St.arrB H0 (.one .hd (.one .hd (.one .hd (.one (.tl .hd) .done))))
 have F4 := Cells.mv q0 (Tr.trans x0 X1)
 have G4 := Cells.mv I0 X1
 have H5 := Tr.trans t0 (Tr.trans g0 (Tr.trans x0 X1))
 exact C0 ((vS p0 1), [vI b0.fUnit, vI b0.fFrom, vI b0.fTo], K0, G0) _ _ ⟨rfl, rfl, rfl, rfl, trivial⟩ ⟨u3, H5, F4, G4⟩
 refine RO.val (m' := 22) (stepC_ok c0 (by kernel_rfl)) rfl .plain rfl (FV.lN rfl (Q0.memA (.tl .hd))) <| RD.each [0, 5] (readyD_ok c0 (by kernel_rfl)) ⟨?_, ?_, trivial⟩
 refine RO.new (m' := 23) (stepC_ok c0 (by kernel_rfl)) rfl .plain rfl (Does.build (α := TMove) (xs := ([] : List TMove)) (vs := []) (ds' := []) rfl Q0 el46 rfl evs_nil (by kernel_rfl) rfl) (fun u1 d1 j0 t0 => ?_)
 have u0 := Cells.at_ (cs := []) (xs := (([] : List TMove) : List TMove)) j0 L (Cells.nil _ _)
 refine RD.each [3, 5] (readyD_ok c0 (by kernel_rfl)) ⟨?_, ?_, trivial⟩
 have s0 := Rep.mv0 h2_3 j0
 refine RO.doesL (m' := 31) (stepC_ok c0 (by kernel_rfl)) rfl rfl .plain rfl (DoesL.app (α := TMove) (ys := a2.fDone) E0 j0 (fun _ _ => .hd) el46 rfl rfl u0 (Src.rep s0)) (fun B0 V0 ⟨y0, v0, z0, A0⟩ => ?_)
 refine RD.nu 5 63 c0 rfl .plain rfl (Does.build (α := TMove) (xs := ([b0] : List TMove)) (vs := [.agg #[vI b0.fUnit, vI b0.fFrom, vI b0.fTo]]) (ds' := [vI b0.fUnit, vI b0.fFrom, vI b0.fTo]) rfl v0 el46 rfl (e1 rfl) (by kernel_rfl) rfl) (fun F0 p0 d0 g0 => ?_)
 have q0 := Cells.at_ (cs := [vI b0.fUnit, vI b0.fFrom, vI b0.fTo]) (xs := (([b0] : List TMove) : List TMove)) d0 L (Cells.cons (cs := [vI b0.fUnit, vI b0.fFrom, vI b0.fTo]) (ds := []) (mk_TMove b0.fUnit b0.fFrom b0.fTo) (Cells.nil _ _))
 obtain ⟨v3, Y1⟩ := St.arrB d0 (.one .hd (.one .hd (.one .hd (.one (.tl .hd) .done))))
 have H4 := Cells.mv q0 Y1
 have I4 := Cells.mv A0 (Tr.trans g0 Y1)
 have I5 := Tr.trans t0 (Tr.trans z0 (Tr.trans g0 Y1))
 exact C0 ((vS p0 1), [vI b0.fUnit, vI b0.fFrom, vI b0.fTo], B0, y0) _ _ ⟨rfl, rfl, rfl, rfl, trivial⟩ ⟨v3, I5, H4, I4⟩
 refine RO.new (m' := 55) (stepC_ok c0 (by kernel_rfl)) rfl .plain rfl (Does.build (α := TMove) (xs := ([b0] : List TMove)) (vs := [.agg #[vI b0.fUnit, vI b0.fFrom, vI b0.fTo]]) (ds' := [vI b0.fUnit, vI b0.fFrom, vI b0.fTo]) rfl j0 el46 rfl (e1 rfl) (by kernel_rfl) rfl) (fun F0 p0 d0 g0 => ?_)
 have q0 := Cells.at_ (cs := [vI b0.fUnit, vI b0.fFrom, vI b0.fTo]) (xs := (([b0] : List TMove) : List TMove)) d0 L (Cells.cons (cs := [vI b0.fUnit, vI b0.fFrom, vI b0.fTo]) (ds := []) (mk_TMove b0.fUnit b0.fFrom b0.fTo) (Cells.nil _ _))
 have s0 := Rep.mv0 h2_3 d0
 have J0 := Cells.mv u0 g0
 refine RD.one (i := 3) (readyD_ok c0 (by kernel_rfl)) (RO.doesL (m' := 63) (stepC_ok c0 (by kernel_rfl)) rfl rfl .plain rfl (DoesL.app (α := TMove) (ys := a2.fDone) E0 d0 (fun _ _ => (.tl .hd)) el46 rfl rfl J0 (Src.rep s0)) (fun K0 t1 ⟨G0, H0, x0, I0⟩ => ?_))
 obtain ⟨x3, Z1⟩ := St.arrB H0 (.one .hd (.one .hd (.one .hd (.one (.tl .hd) .done))))
 have J4 := Cells.mv q0 (Tr.trans x0 Z1)
 have K4 := Cells.mv I0 Z1
 have J5 := Tr.trans t0 (Tr.trans g0 (Tr.trans x0 Z1))
 exact C0 ((vS p0 1), [vI b0.fUnit, vI b0.fFrom, vI b0.fTo], K0, G0) _ _ ⟨rfl, rfl, rfl, rfl, trivial⟩ ⟨x3, J5, J4, K4⟩
 refine RO.new (m' := 54) (stepC_ok c0 (by kernel_rfl)) rfl .plain rfl (Does.build (α := TMove) (xs := ([b0] : List TMove)) (vs := [.agg #[vI b0.fUnit, vI b0.fFrom, vI b0.fTo]]) (ds' := [vI b0.fUnit, vI b0.fFrom, vI b0.fTo]) rfl Q0 el46 rfl (e1 rfl) (by kernel_rfl) rfl) (fun F0 p0 d0 g0 => ?_)
 have q0 := Cells.at_ (cs := [vI b0.fUnit, vI b0.fFrom, vI b0.fTo]) (xs := (([b0] : List TMove) : List TMove)) d0 L (Cells.cons (cs := [vI b0.fUnit, vI b0.fFrom, vI b0.fTo]) (ds := []) (mk_TMove b0.fUnit b0.fFrom b0.fTo) (Cells.nil _ _))
 refine RD.nu 0 55 c0 rfl .plain rfl (Does.build (α := TMove) (xs := ([] : List TMove)) (vs := []) (ds' := []) rfl d0 el46 rfl evs_nil (by kernel_rfl) rfl) (fun u1 d1 j0 t0 => ?_)
 have u0 := Cells.at_ (cs := []) (xs := (([] : List TMove) : List TMove)) j0 L (Cells.nil _ _)
 have s0 := Rep.mv0 h2_3 j0
 refine RD.one (i := 3) (readyD_ok c0 (by kernel_rfl)) (RO.doesL (m' := 63) (stepC_ok c0 (by kernel_rfl)) rfl rfl .plain rfl (DoesL.app (α := TMove) (ys := a2.fDone) E0 j0 (fun _ _ => .hd) el46 rfl rfl u0 (Src.rep s0)) (fun B0 V0 ⟨y0, v0, z0, A0⟩ => ?_))
 obtain ⟨y3, y2⟩ := St.arrB v0 (.one (.tl .hd) (.one .hd (.one .hd (.one (.tl .hd) .done))))
 have F2 := Tr.trans t0 (Tr.trans z0 y2)
 have M4 := Cells.mv q0 F2
 have P4 := Cells.mv A0 y2
 exact C0 ((vS p0 1), [vI b0.fUnit, vI b0.fFrom, vI b0.fTo], B0, y0) _ _ ⟨rfl, rfl, rfl, rfl, trivial⟩ ⟨y3, (Tr.trans g0 F2), M4, P4⟩
 refine RO.val (m' := 18) (stepC_ok c0 (by kernel_rfl)) rfl .plain rfl (FV.lN rfl (Q0.memA (.tl .hd))) <| RD.each [0, 2, 5] (readyD_ok c0 (by kernel_rfl)) ⟨?_, ?_, ?_, trivial⟩
 refine RO.new (m' := 19) (stepC_ok c0 (by kernel_rfl)) rfl .plain rfl (Does.build (α := TMove) (xs := ([] : List TMove)) (vs := []) (ds' := []) rfl Q0 el46 rfl evs_nil (by kernel_rfl) rfl) (fun u1 d1 j0 t0 => ?_)
 have u0 := Cells.at_ (cs := []) (xs := (([] : List TMove) : List TMove)) j0 L (Cells.nil _ _)
 refine RD.each [2, 5] (readyD_ok c0 (by kernel_rfl)) ⟨?_, ?_, trivial⟩
 refine RO.val (m' := 23) (stepC_ok c0 (by kernel_rfl)) rfl .plain rfl (FV.l1 rfl ((j0.memA (.tl (.tl (.tl (.tl .hd))))) 3 _ rfl)) <| RD.each [3, 5] (readyD_ok c0 (by kernel_rfl)) ⟨?_, ?_, trivial⟩
 have s0 := Rep.mv0 h2_3 j0
 refine RO.doesL (m' := 31) (stepC_ok c0 (by kernel_rfl)) rfl rfl .plain rfl (DoesL.app (α := TMove) (ys := a2.fDone) E0 j0 (fun _ _ => .hd) el46 rfl rfl u0 (Src.rep s0)) (fun B0 V0 ⟨y0, v0, z0, A0⟩ => ?_)
 refine RD.nu 5 63 c0 rfl .plain rfl (Does.build (α := TMove) (xs := ([b0] : List TMove)) (vs := [.agg #[vI b0.fUnit, vI b0.fFrom, vI b0.fTo]]) (ds' := [vI b0.fUnit, vI b0.fFrom, vI b0.fTo]) rfl v0 el46 rfl (e1 rfl) (by kernel_rfl) rfl) (fun F0 p0 d0 g0 => ?_)
 have q0 := Cells.at_ (cs := [vI b0.fUnit, vI b0.fFrom, vI b0.fTo]) (xs := (([b0] : List TMove) : List TMove)) d0 L (Cells.cons (cs := [vI b0.fUnit, vI b0.fFrom, vI b0.fTo]) (ds := []) (mk_TMove b0.fUnit b0.fFrom b0.fTo) (Cells.nil _ _))
 obtain ⟨z3, b2⟩ := St.arrB d0 (.one .hd (.one .hd (.one .hd (.one (.tl .hd) .done))))
 have Q4 := Cells.mv q0 b2
 have R4 := Cells.mv A0 (Tr.trans g0 b2)
 have K5 := Tr.trans t0 (Tr.trans z0 (Tr.trans g0 b2))
 exact C0 ((vS p0 1), [vI b0.fUnit, vI b0.fFrom, vI b0.fTo], B0, y0) _ _ ⟨rfl, rfl, rfl, rfl, trivial⟩ ⟨z3, K5, Q4, R4⟩
 refine RO.new (m' := 55) (stepC_ok c0 (by kernel_rfl)) rfl .plain rfl (Does.build (α := TMove) (xs := ([b0] : List TMove)) (vs := [.agg #[vI b0.fUnit, vI b0.fFrom, vI b0.fTo]]) (ds' := [vI b0.fUnit, vI b0.fFrom, vI b0.fTo]) rfl j0 el46 rfl (e1 rfl) (by kernel_rfl) rfl) (fun F0 p0 d0 g0 => ?_)
 have q0 := Cells.at_ (cs := [vI b0.fUnit, vI b0.fFrom, vI b0.fTo]) (xs := (([b0] : List TMove) : List TMove)) d0 L (Cells.cons (cs := [vI b0.fUnit, vI b0.fFrom, vI b0.fTo]) (ds := []) (mk_TMove b0.fUnit b0.fFrom b0.fTo) (Cells.nil _ _))
 have s0 := Rep.mv0 h2_3 d0
 have J0 := Cells.mv u0 g0
 refine RD.one (i := 3) (readyD_ok c0 (by kernel_rfl)) (RO.doesL (m' := 63) (stepC_ok c0 (by kernel_rfl)) rfl rfl .plain rfl (DoesL.app (α := TMove) (ys := a2.fDone) E0 d0 (fun _ _ => (.tl .hd)) el46 rfl rfl J0 (Src.rep s0)) (fun K0 t1 ⟨G0, H0, x0, I0⟩ => ?_))
 obtain ⟨A3, c2⟩ := St.arrB H0 (.one .hd (.one .hd (.one .hd (.one (.tl .hd) .done))))
 have U4 := Cells.mv q0 (Tr.trans x0 c2)
 have V4 := Cells.mv I0 c2
 have M5 := Tr.trans t0 (Tr.trans g0 (Tr.trans x0 c2))
 exact C0 ((vS p0 1), [vI b0.fUnit, vI b0.fFrom, vI b0.fTo], K0, G0) _ _ ⟨rfl, rfl, rfl, rfl, trivial⟩ ⟨A3, M5, U4, V4⟩
 refine RO.new (m' := 51) (stepC_ok c0 (by kernel_rfl)) rfl .plain rfl (Does.build (α := TMove) (xs := ([b0] : List TMove)) (vs := [.agg #[vI b0.fUnit, vI b0.fFrom, vI b0.fTo]]) (ds' := [vI b0.fUnit, vI b0.fFrom, vI b0.fTo]) rfl j0 el46 rfl (e1 rfl) (by kernel_rfl) rfl) (fun F0 p0 d0 g0 => ?_)
 have q0 := Cells.at_ (cs := [vI b0.fUnit, vI b0.fFrom, vI b0.fTo]) (xs := (([b0] : List TMove) : List TMove)) d0 L (Cells.cons (cs := [vI b0.fUnit, vI b0.fFrom, vI b0.fTo]) (ds := []) (mk_TMove b0.fUnit b0.fFrom b0.fTo) (Cells.nil _ _))
 refine RD.vx 2 55 456 c0 rfl D1 (FV.l1 rfl ((d0.memA (.tl (.tl (.tl (.tl (.tl .hd)))))) 3 _ rfl)) rfl ?_
 have s0 := Rep.mv0 h2_3 d0
 have J0 := Cells.mv u0 g0
 refine RD.one (i := 3) (readyD_ok c0 (by kernel_rfl)) (RO.doesL (m' := 63) (stepC_ok c0 (by kernel_rfl)) rfl rfl .plain rfl (DoesL.app (α := TMove) (ys := a2.fDone) E0 d0 (fun _ _ => (.tl .hd)) el46 rfl rfl J0 (Src.rep s0)) (fun K0 t1 ⟨G0, H0, x0, I0⟩ => ?_))
 obtain ⟨B3, d2⟩ := St.arrB H0 (.one .hd (.one .hd (.one .hd (.one (.tl .hd) .done))))
 have W4 := Cells.mv q0 (Tr.trans x0 d2)
 have X4 := Cells.mv I0 d2
 have P5 := Tr.trans t0 (Tr.trans g0 (Tr.trans x0 d2))
 exact C0 ((vS p0 1), [vI b0.fUnit, vI b0.fFrom, vI b0.fTo], K0, G0) _ _ ⟨rfl, rfl, rfl, rfl, trivial⟩ ⟨B3, P5, W4, X4⟩
 refine RO.val (m' := 22) (stepC_ok c0 (by kernel_rfl)) rfl .plain rfl (FV.l1 rfl ((Q0.memA (.tl (.tl (.tl .hd)))) 3 _ rfl)) <| RD.each [0, 5] (readyD_ok c0 (by kernel_rfl)) ⟨?_, ?_, trivial⟩
 refine RO.new (m' := 23) (stepC_ok c0 (by kernel_rfl)) rfl .plain rfl (Does.build (α := TMove) (xs := ([] : List TMove)) (vs := []) (ds' := []) rfl Q0 el46 rfl evs_nil (by kernel_rfl) rfl) (fun u1 d1 j0 t0 => ?_)
 have u0 := Cells.at_ (cs := []) (xs := (([] : List TMove) : List TMove)) j0 L (Cells.nil _ _)
 refine RD.each [3, 5] (readyD_ok c0 (by kernel_rfl)) ⟨?_, ?_, trivial⟩
 have s0 := Rep.mv0 h2_3 j0
 refine RO.doesL (m' := 31) (stepC_ok c0 (by kernel_rfl)) rfl rfl .plain rfl (DoesL.app (α := TMove) (ys := a2.fDone) E0 j0 (fun _ _ => .hd) el46 rfl rfl u0 (Src.rep s0)) (fun B0 V0 ⟨y0, v0, z0, A0⟩ => ?_)
 refine RD.nu 5 63 c0 rfl .plain rfl (Does.build (α := TMove) (xs := ([b0] : List TMove)) (vs := [.agg #[vI b0.fUnit, vI b0.fFrom, vI b0.fTo]]) (ds' := [vI b0.fUnit, vI b0.fFrom, vI b0.fTo]) rfl v0 el46 rfl (e1 rfl) (by kernel_rfl) rfl) (fun F0 p0 d0 g0 => ?_)
 have q0 := Cells.at_ (cs := [vI b0.fUnit, vI b0.fFrom, vI b0.fTo]) (xs := (([b0] : List TMove) : List TMove)) d0 L (Cells.cons (cs := [vI b0.fUnit, vI b0.fFrom, vI b0.fTo]) (ds := []) (mk_TMove b0.fUnit b0.fFrom b0.fTo) (Cells.nil _ _))
 obtain ⟨C3, g2⟩ := St.arrB d0 (.one .hd (.one .hd (.one .hd (.one (.tl .hd) .done))))
 have Y4 := Cells.mv q0 g2
 have Z4 := Cells.mv A0 (Tr.trans g0 g2)
 have Q5 := Tr.trans t0 (Tr.trans z0 (Tr.trans g0 g2))
 exact C0 ((vS p0 1), [vI b0.fUnit, vI b0.fFrom, vI b0.fTo], B0, y0) _ _ ⟨rfl, rfl, rfl, rfl, trivial⟩ ⟨C3, Q5, Y4, Z4⟩
 refine RO.new (m' := 55) (stepC_ok c0 (by kernel_rfl)) rfl .plain rfl (Does.build (α := TMove) (xs := ([b0] : List TMove)) (vs := [.agg #[vI b0.fUnit, vI b0.fFrom, vI b0.fTo]]) (ds' := [vI b0.fUnit, vI b0.fFrom, vI b0.fTo]) rfl j0 el46 rfl (e1 rfl) (by kernel_rfl) rfl) (fun F0 p0 d0 g0 => ?_)
 have q0 := Cells.at_ (cs := [vI b0.fUnit, vI b0.fFrom, vI b0.fTo]) (xs := (([b0] : List TMove) : List TMove)) d0 L (Cells.cons (cs := [vI b0.fUnit, vI b0.fFrom, vI b0.fTo]) (ds := []) (mk_TMove b0.fUnit b0.fFrom b0.fTo) (Cells.nil _ _))
 have s0 := Rep.mv0 h2_3 d0
 have J0 := Cells.mv u0 g0
 refine RD.one (i := 3) (readyD_ok c0 (by kernel_rfl)) (RO.doesL (m' := 63) (stepC_ok c0 (by kernel_rfl)) rfl rfl .plain rfl (DoesL.app (α := TMove) (ys := a2.fDone) E0 d0 (fun _ _ => (.tl .hd)) el46 rfl rfl J0 (Src.rep s0)) (fun K0 t1 ⟨G0, H0, x0, I0⟩ => ?_))
 obtain ⟨D3, j2⟩ := St.arrB H0 (.one .hd (.one .hd (.one .hd (.one (.tl .hd) .done))))
 have c5 := Cells.mv q0 (Tr.trans x0 j2)
 have d5 := Cells.mv I0 j2
 have R5 := Tr.trans t0 (Tr.trans g0 (Tr.trans x0 j2))
 exact C0 ((vS p0 1), [vI b0.fUnit, vI b0.fFrom, vI b0.fTo], K0, G0) _ _ ⟨rfl, rfl, rfl, rfl, trivial⟩ ⟨D3, R5, c5, d5⟩
 refine RO.new (m' := 54) (stepC_ok c0 (by kernel_rfl)) rfl .plain rfl (Does.build (α := TMove) (xs := ([b0] : List TMove)) (vs := [.agg #[vI b0.fUnit, vI b0.fFrom, vI b0.fTo]]) (ds' := [vI b0.fUnit, vI b0.fFrom, vI b0.fTo]) rfl Q0 el46 rfl (e1 rfl) (by kernel_rfl) rfl) (fun F0 p0 d0 g0 => ?_)
 have q0 := Cells.at_ (cs := [vI b0.fUnit, vI b0.fFrom, vI b0.fTo]) (xs := (([b0] : List TMove) : List TMove)) d0 L (Cells.cons (cs := [vI b0.fUnit, vI b0.fFrom, vI b0.fTo]) (ds := []) (mk_TMove b0.fUnit b0.fFrom b0.fTo) (Cells.nil _ _))
 refine RD.nu 0 55 c0 rfl .plain rfl (Does.build (α := TMove) (xs := ([] : List TMove)) (vs := []) (ds' := []) rfl d0 el46 rfl evs_nil (by kernel_rfl) rfl) (fun u1 d1 j0 t0 => ?_)
 have u0 := Cells.at_ (cs := []) (xs := (([] : List TMove) : List TMove)) j0 L (Cells.nil _ _)
 have s0 := Rep.mv0 h2_3 j0
 refine RD.one (i := 3) (readyD_ok c0 (by kernel_rfl)) (RO.doesL (m' := 63) (stepC_ok c0 (by kernel_rfl)) rfl rfl .plain rfl (DoesL.app (α := TMove) (ys := a2.fDone) E0 j0 (fun _ _ => .hd) el46 rfl rfl u0 (Src.rep s0)) (fun B0 V0 ⟨y0, v0, z0, A0⟩ => ?_))
 obtain ⟨E3, z2⟩ := St.arrB v0 (.one (.tl .hd) (.one .hd (.one .hd (.one (.tl .hd) .done))))
 have G2 := Tr.trans t0 (Tr.trans z0 z2)
 have g5 := Cells.mv q0 G2
 have j5 := Cells.mv A0 z2
 exact C0 ((vS p0 1), [vI b0.fUnit, vI b0.fFrom, vI b0.fTo], B0, y0) _ _ ⟨rfl, rfl, rfl, rfl, trivial⟩ ⟨E3, (Tr.trans g0 G2), g5, j5⟩
 refine RO.new (m' := 50) (stepC_ok c0 (by kernel_rfl)) rfl .plain rfl (Does.build (α := TMove) (xs := ([b0] : List TMove)) (vs := [.agg #[vI b0.fUnit, vI b0.fFrom, vI b0.fTo]]) (ds' := [vI b0.fUnit, vI b0.fFrom, vI b0.fTo]) rfl Q0 el46 rfl (e1 rfl) (by kernel_rfl) rfl) (fun F0 p0 d0 g0 => ?_)
 have q0 := Cells.at_ (cs := [vI b0.fUnit, vI b0.fFrom, vI b0.fTo]) (xs := (([b0] : List TMove) : List TMove)) d0 L (Cells.cons (cs := [vI b0.fUnit, vI b0.fFrom, vI b0.fTo]) (ds := []) (mk_TMove b0.fUnit b0.fFrom b0.fTo) (Cells.nil _ _))
 refine RD.vx 2 54 456 c0 rfl D1 (FV.l1 rfl ((d0.memA (.tl (.tl (.tl (.tl .hd))))) 3 _ rfl)) rfl <| RD.nu 0 55 c0 rfl .plain rfl (Does.build (α := TMove) (xs := ([] : List TMove)) (vs := []) (ds' := []) rfl d0 el46 rfl evs_nil (by kernel_rfl) rfl) (fun u1 d1 j0 t0 => ?_)
 have u0 := Cells.at_ (cs := []) (xs := (([] : List TMove) : List TMove)) j0 L (Cells.nil _ _)
 have s0 := Rep.mv0 h2_3 j0
 refine RD.one (i := 3) (readyD_ok c0 (by kernel_rfl)) (RO.doesL (m' := 63) (stepC_ok c0 (by kernel_rfl)) rfl rfl .plain rfl (DoesL.app (α := TMove) (ys := a2.fDone) E0 j0 (fun _ _ => .hd) el46 rfl rfl u0 (Src.rep s0)) (fun B0 V0 ⟨y0, v0, z0, A0⟩ => ?_))
 obtain ⟨F3, A2⟩ := St.arrB v0 (.one (.tl .hd) (.one .hd (.one .hd (.one (.tl .hd) .done))))
 have H2 := Tr.trans t0 (Tr.trans z0 A2)
 have k5 := Cells.mv q0 H2
 have p5 := Cells.mv A0 A2
 exact C0 ((vS p0 1), [vI b0.fUnit, vI b0.fFrom, vI b0.fTo], B0, y0) _ _ ⟨rfl, rfl, rfl, rfl, trivial⟩ ⟨F3, (Tr.trans g0 H2), k5, p5⟩
 refine MX.sr <| RG.va (FV.buildV (vs := []) (u := .agg #[vI 0, vN, vN, vN, vN]) evs_nil (fun w9 => by kernel_rfl)) <| RG.mo rfl <| RG.sa [vI 0, vN, vN, vN, vN] D0 .hd (onesB rfl) (fun X6 Y0 B6 => ?_)
 refine RG.so rfl <| RG.nil <| MX.ret rfl ?_
 have I2 := Rep.nilAt (α := Int) Y0 L
 have J2 := Rep.nilAt (α := TMove) Y0 L
 refine RT.leave hb0 Tryz.func34 rfl (.cons (.many (cs := [vI 0, vN, vN, vN, vN]) (by kernel_rfl) rfl (Y0.memA .hd)) (.cons (.tmp rfl) .nil)) rfl ?_
 cases h
 exact ⟨Y0.ag, fun w9 hw9 => ⟨vN, vN, vN, vN, rfl, Y0.kd I2 hw9, Y0.kd I2 hw9, Y0.kd J2 hw9, Y0.kd J2 hw9⟩⟩
theorem body14 : bodyB Tryz.prog 14 = true := by kernel_rfl
theorem body33 : bodyB Tryz.prog 33 = true := by kernel_rfl
theorem body34 : bodyB Tryz.prog 34 = true := by kernel_rfl
def wardmoteref26_Do_p (n : Nat) (a0 : TGraph) (a1 : TRoll) (a2 : TSession) (a3 : UInt8 × UInt8) : Option (TSession × Int) :=
  jn (fun k0 => (if k0 = true then (wardmoteref26_Undo_p n a0 a1 a2).bind fun d0 => some (d0.1, d0.2) else jn (fun p0 => (if p0 = true then (wardmoteref26_Redo_p n a0 a1 a2).bind fun g0 => some (g0.1, g0.2) else (wardmoteref26_Make_p n a0 a1 a2 ((a3.1.toNat % 16 : Nat) : Int) ((a3.2.toNat % 8 : Nat) : Int)).bind fun j0 => some (j0.1, j0.2))) (fun c0 => (if ((a3.1 % (16 : UInt8)).toNat) = 12 then c0 (decide (((a3.1 % (16 : UInt8)).toNat) = 12)) else c0 (decide (((a3.1 % (16 : UInt8)).toNat) = 11)))))) (fun b0 => (if ((a3.1 % (16 : UInt8)).toNat) = 15 then b0 (decide (((a3.1 % (16 : UInt8)).toNat) = 15)) else (if ((a3.1 % (16 : UInt8)).toNat) = 14 then b0 (decide (((a3.1 % (16 : UInt8)).toNat) = 14)) else b0 (decide (((a3.1 % (16 : UInt8)).toNat) = 13)))))
theorem wardmoteref26_Do_c (n : Nat) (L : List Nat) (w : World) (hL : ∀ b ∈ L, b < w.heap.size) (a0 : TGraph) {v0_1 : Value} (h0_1 : Rep.R w L [v0_1] a0.fEdges) (a1 : TRoll) {v1_3 : Value} (h1_3 : Rep.R w L [v1_3] a1.fUnits) (a2 : TSession) {v2_1 : Value} (h2_1 : Rep.R w L [v2_1] a2.fPlan) {v2_2 : Value} (h2_2 : Rep.R w L [v2_2] a2.fTotals) {v2_3 : Value} (h2_3 : Rep.R w L [v2_3] a2.fDone) {v2_4 : Value} (h2_4 : Rep.R w L [v2_4] a2.fUndone) (a3 : UInt8 × UInt8)  {r : TSession × Int} (h : wardmoteref26_Do_p n a0 a1 a2 a3 = some r) :
    Calls Tryz.prog 40 #[.agg #[vI a0.fN, v0_1], .agg #[vI a1.fGroups, vI a1.fParties, vI a1.fLevels, v1_3], .agg #[vI a2.fK, v2_1, v2_2, v2_3, v2_4], .agg #[.int .u8 (a3.1.toNat : Int), .int .u8 (a3.2.toNat : Int)]] w (Gives w fun w' u => ∃ v0_1 v0_2 v0_3 v0_4 : Value, u = .tuple #[.agg #[vI r.1.fK, v0_1, v0_2, v0_3, v0_4], vI r.2] ∧ Rep.R w' L [v0_1] r.1.fPlan ∧ Rep.R w' L [v0_2] r.1.fTotals ∧ Rep.R w' L [v0_3] r.1.fDone ∧ Rep.R w' L [v0_4] r.1.fUndone) := by
 unfold wardmoteref26_Do_p at h
 have hS0 := St.start w
 refine MX.start Tryz.func40 rfl rfl rfl (fun _ cs0 hb0 => ?_)
 refine MX.sr <| RG.new .plain rfl (Does.box hS0 rfl rfl) (fun w2 b5 hS3 hT4 => ?_)
 refine RG.new .plain rfl (Does.box hS3 rfl rfl) (fun w7 d0 hS8 hT9 => ?_)
 refine RG.new .plain rfl (Does.box hS8 rfl rfl) (fun E2 g0 A1 k2 => ?_)
 refine RG.new .plain rfl (Does.box A1 rfl rfl) (fun F2 j0 B1 p2 => ?_)
 refine RG.new .plain rfl (Does.al [vI 0, vN, vN, vN, vN] B1) (fun d2 k0 v0 q2 => ?_)
 refine RG.so rfl <| RG.nil <| MX.seq <| MX.sr <| RG.va (FV.indexArr (m := 1) (k := 0) (len := 2) (by kernel_rfl) rfl rfl rfl (by omega)) <| RG.l1 rfl ((v0.memA (.tl .hd)) 0 _ rfl) ?_
 refine RG.va (FV.rem8 (a := a3.1) (b := (16 : UInt8)) rfl rfl (by decide)) <| RG.nil <| MX.block <| MX.seq <| MX.sr <| RG.va (FV.eqlN (i := (a3.1 % (16 : UInt8)).toNat) (j := 15) rfl rfl) ?_
 refine RG.so rfl <| RG.nil <| MX.join (α := Bool) (fun t0 => [(4, vP b5), (5, vP d0), (6, vP g0), (7, vP j0), (8, vP k0), (12, .int .u8 ((a3.1 % (16 : UInt8)).toNat : Int)), (13, .bool t0)]) (fun t0 A0 => St w A0 [.cells k0 [vI 0, vN, vN, vN, vN] 48, .cells j0 [.int .u8 (a3.1.toNat : Int), .int .u8 (a3.2.toNat : Int)] 34, .cells g0 [vI a2.fK, v2_1, v2_2, v2_3, v2_4] 48, .cells d0 [vI a1.fGroups, vI a1.fParties, vI a1.fLevels, v1_3] 41, .cells b5 [vI a0.fN, v0_1] 38] ∧ Tr d2 [.cells k0 [vI 0, vN, vN, vN, vN] 48, .cells j0 [.int .u8 (a3.1.toNat : Int), .int .u8 (a3.2.toNat : Int)] 34, .cells g0 [vI a2.fK, v2_1, v2_2, v2_3, v2_4] 48, .cells d0 [vI a1.fGroups, vI a1.fParties, vI a1.fLevels, v1_3] 41, .cells b5 [vI a0.fN, v0_1] 38] A0 [.cells k0 [vI 0, vN, vN, vN, vN] 48, .cells j0 [.int .u8 (a3.1.toNat : Int), .int .u8 (a3.2.toNat : Int)] 34, .cells g0 [vI a2.fK, v2_1, v2_2, v2_3, v2_4] 48, .cells d0 [vI a1.fGroups, vI a1.fParties, vI a1.fLevels, v1_3] 41, .cells b5 [vI a0.fN, v0_1] 38]) (fun t0 => t0) h ?_ ?_
 rintro t0 A0 ⟨c0, s2⟩ h
 try dsimp only at h
 refine MX.ifb rfl h (fun y1 h => ?_) (fun y1 h => ?_)
 refine MX.sr <| RG.va (FV.lN rfl (c0.memA (.tl (.tl (.tl (.tl .hd)))))) <| RG.va (FV.lN rfl (c0.memA (.tl (.tl (.tl .hd))))) <| RG.va (FV.lN rfl (c0.memA (.tl (.tl .hd)))) ?_
 obtain ⟨q1, Z1, h⟩ := bind_in h
 refine RG.call' (fst := []) (cap := []) .plain body33 rfl (e3 rfl rfl rfl) (fun w9 hw9 => wardmoteref26_Undo_c n _ w9 (c0.hL hL hw9) a0 (c0.km h0_1 hw9) a1 (c0.km h1_3 hw9) a2 (c0.km h2_1 hw9) (c0.km h2_2 hw9) (c0.km h2_3 hw9) (c0.km h2_4 hw9) Z1) rfl (fun G2 A2 F1 ⟨C0, D0, E0, F0, hu_, W0, X0, Y0, Z0⟩ => ?_)
 subst hu_
 obtain ⟨C1, t2⟩ := c0.agr F1
 refine RG.va (FV.extract rfl rfl) <| RG.va (FV.extract rfl rfl) <| RG.sa [vI q1.1.fK, C0, D0, E0, F0] C1 .hd (o5 rfl (Rep.o1 W0) (Rep.o1 X0) (Rep.o1 Y0) (Rep.o1 Z0)) (fun H2 q0 y0 => ?_)
 refine RG.so rfl <| RG.nil <| MX.ret rfl <| RT.leave hb0 Tryz.func40 rfl (.cons (.many (cs := [vI q1.1.fK, C0, D0, E0, F0]) (by kernel_rfl) rfl (q0.memA .hd)) (.cons (.tmp rfl) .nil)) rfl ?_
 cases h
 have P1 := Rep.mv W0 y0
 have Q1 := Rep.mv X0 y0
 have R1 := Rep.mv Y0 y0
 have U1 := Rep.mv Z0 y0
 exact ⟨q0.ag, fun w9 hw9 => ⟨C0, D0, E0, F0, rfl, q0.kd P1 hw9, q0.kd Q1 hw9, q0.kd R1 hw9, q0.kd U1 hw9⟩⟩
 refine MX.seq <| MX.sr <| RG.va (FV.eqlN (i := (a3.1 % (16 : UInt8)).toNat) (j := 12) rfl rfl) <| RG.so rfl <| RG.nil <| MX.join (α := Bool) (fun u0 => [(4, vP b5), (5, vP d0), (6, vP g0), (7, vP j0), (8, vP k0), (23, .bool u0)]) (fun u0 R0 => St w R0 [.cells k0 [vI 0, vN, vN, vN, vN] 48, .cells j0 [.int .u8 (a3.1.toNat : Int), .int .u8 (a3.2.toNat : Int)] 34, .cells g0 [vI a2.fK, v2_1, v2_2, v2_3, v2_4] 48, .cells d0 [vI a1.fGroups, vI a1.fParties, vI a1.fLevels, v1_3] 41, .cells b5 [vI a0.fN, v0_1] 38] ∧ Tr A0 [.cells k0 [vI 0, vN, vN, vN, vN] 48, .cells j0 [.int .u8 (a3.1.toNat : Int), .int .u8 (a3.2.toNat : Int)] 34, .cells g0 [vI a2.fK, v2_1, v2_2, v2_3, v2_4] 48, .cells d0 [vI a1.fGroups, vI a1.fParties, vI a1.fLevels, v1_3] 41, .cells b5 [vI a0.fN, v0_1] 38] R0 [.cells k0 [vI 0, vN, vN, vN, vN] 48, .cells j0 [.int .u8 (a3.1.toNat : Int), .int .u8 (a3.2.toNat : Int)] 34, .cells g0 [vI a2.fK, v2_1, v2_2, v2_3, v2_4] 48, .cells d0 [vI a1.fGroups, vI a1.fParties, vI a1.fLevels, v1_3] 41, .cells b5 [vI a0.fN, v0_1] 38]) (fun u0 => u0) h ?_ ?_
 rintro u0 R0 ⟨b0, u2⟩ h
 try dsimp only at h
 refine MX.ifb rfl h (fun z1 h => ?_) (fun z1 h => ?_)
 refine MX.sr <| RG.va (FV.lN rfl (b0.memA (.tl (.tl (.tl (.tl .hd)))))) <| RG.va (FV.lN rfl (b0.memA (.tl (.tl (.tl .hd))))) <| RG.va (FV.lN rfl (b0.memA (.tl (.tl .hd)))) ?_
 obtain ⟨s1, b2, h⟩ := bind_in h
 refine RG.call' (fst := []) (cap := []) .plain body34 rfl (e3 rfl rfl rfl) (fun w9 hw9 => wardmoteref26_Redo_c n _ w9 (b0.hL hL hw9) a0 (b0.km h0_1 hw9) a1 (b0.km h1_3 hw9) a2 (b0.km h2_1 hw9) (b0.km h2_2 hw9) (b0.km h2_3 hw9) (b0.km h2_4 hw9) b2) rfl (fun I2 B2 G1 ⟨G0, H0, I0, J0, hu_, b1, c1, d1, g1⟩ => ?_)
 subst hu_
 obtain ⟨D1, v2⟩ := b0.agr G1
 refine RG.va (FV.extract rfl rfl) <| RG.va (FV.extract rfl rfl) <| RG.sa [vI s1.1.fK, G0, H0, I0, J0] D1 .hd (o5 rfl (Rep.o1 b1) (Rep.o1 c1) (Rep.o1 d1) (Rep.o1 g1)) (fun J2 s0 z0 => ?_)
 refine RG.so rfl <| RG.nil <| MX.ret rfl <| RT.leave hb0 Tryz.func40 rfl (.cons (.many (cs := [vI s1.1.fK, G0, H0, I0, J0]) (by kernel_rfl) rfl (s0.memA .hd)) (.cons (.tmp rfl) .nil)) rfl ?_
 cases h
 have V1 := Rep.mv b1 z0
 have W1 := Rep.mv c1 z0
 have X1 := Rep.mv d1 z0
 have Y1 := Rep.mv g1 z0
 exact ⟨s0.ag, fun w9 hw9 => ⟨G0, H0, I0, J0, rfl, s0.kd V1 hw9, s0.kd W1 hw9, s0.kd X1 hw9, s0.kd Y1 hw9⟩⟩
 refine MX.skip <| MX.inBlock <| MX.sr <| RG.va (FV.lN rfl (b0.memA (.tl (.tl (.tl (.tl .hd)))))) <| RG.va (FV.lN rfl (b0.memA (.tl (.tl (.tl .hd))))) <| RG.va (FV.lN rfl (b0.memA (.tl (.tl .hd)))) ?_
 refine RG.va (FV.indexArr (m := 1) (k := 0) (len := 2) (by kernel_rfl) rfl rfl rfl (by omega)) <| RG.l1 rfl ((b0.memA (.tl .hd)) 0 _ rfl) ?_
 have y2 := a3.1.toNat_lt
 refine RG.va (FV.convN (i := a3.1.toNat) Tryz.underlying5 Tryz.underlying3 rfl (by omega)) <| RG.va (FV.remN (i := a3.1.toNat) (j := 16) rfl rfl rfl) <| RG.va (FV.indexArr (m := 1) (k := 1) (len := 2) (by kernel_rfl) rfl rfl rfl (by omega)) <| RG.l1 rfl ((b0.memA (.tl .hd)) 1 _ rfl) ?_
 have z2 := a3.2.toNat_lt
 refine RG.va (FV.convN (i := a3.2.toNat) Tryz.underlying5 Tryz.underlying3 rfl (by omega)) <| RG.va (FV.remN (i := a3.2.toNat) (j := 8) rfl rfl rfl) ?_
 obtain ⟨t1, c2, h⟩ := bind_in h
 refine RG.call' (fst := []) (cap := []) .plain body14 rfl (e5 rfl rfl rfl rfl rfl) (fun w9 hw9 => wardmoteref26_Make_c n _ w9 (b0.hL hL hw9) a0 (b0.km h0_1 hw9) a1 (b0.km h1_3 hw9) a2 (b0.km h2_1 hw9) (b0.km h2_2 hw9) (b0.km h2_3 hw9) (b0.km h2_4 hw9) ((a3.1.toNat % 16 : Nat) : Int) ((a3.2.toNat % 8 : Nat) : Int) c2) rfl (fun K2 C2 H1 ⟨K0, M0, P0, Q0, hu_, j1, k1, p1, V0⟩ => ?_)
 subst hu_
 obtain ⟨E1, x2⟩ := b0.agr H1
 refine RG.va (FV.extract rfl rfl) <| RG.va (FV.extract rfl rfl) <| RG.sa [vI t1.1.fK, K0, M0, P0, Q0] E1 .hd (o5 rfl (Rep.o1 j1) (Rep.o1 k1) (Rep.o1 p1) (Rep.o1 V0)) (fun D2 p0 x0 => ?_)
 refine RG.so rfl <| RG.nil <| MX.ret rfl <| RT.leave hb0 Tryz.func40 rfl (.cons (.many (cs := [vI t1.1.fK, K0, M0, P0, Q0]) (by kernel_rfl) rfl (p0.memA .hd)) (.cons (.tmp rfl) .nil)) rfl ?_
 cases h
 have I1 := Rep.mv j1 x0
 have J1 := Rep.mv k1 x0
 have K1 := Rep.mv p1 x0
 have M1 := Rep.mv V0 x0
 exact ⟨p0.ag, fun w9 hw9 => ⟨K0, M0, P0, Q0, rfl, p0.kd I1 hw9, p0.kd J1 hw9, p0.kd K1 hw9, p0.kd M1 hw9⟩⟩
 intro j2 U0 h
 try dsimp only at h
 refine MX.ifd rfl h (fun u1 h => ?_) (fun u1 h => ?_)
 refine MX.skip ?_
 exact U0 (decide (((a3.1 % (16 : UInt8)).toNat) = 12)) _ _ ⟨rfl, rfl, rfl, rfl, rfl, rfl, trivial⟩ ⟨c0, Tr.refl _ _⟩ h
 refine MX.region <| RG.va (FV.eqlN (i := (a3.1 % (16 : UInt8)).toNat) (j := 11) rfl rfl) <| RG.so rfl <| RG.nil ?_
 exact U0 (decide (((a3.1 % (16 : UInt8)).toNat) = 11)) _ _ ⟨rfl, rfl, rfl, rfl, rfl, rfl, trivial⟩ ⟨c0, Tr.refl _ _⟩ h
 intro g2 B0 h
 try dsimp only at h
 refine MX.ifd rfl h (fun v1 h => ?_) (fun v1 h => ?_)
 refine MX.skip ?_
 exact B0 (decide (((a3.1 % (16 : UInt8)).toNat) = 15)) _ _ ⟨rfl, rfl, rfl, rfl, rfl, rfl, rfl, trivial⟩ ⟨v0, Tr.refl _ _⟩ h
 refine MX.sr <| RG.va (FV.eqlN (i := (a3.1 % (16 : UInt8)).toNat) (j := 14) rfl rfl) <| RG.so rfl <| RG.nil <| MX.ifd rfl h (fun x1 h => ?_) (fun x1 h => ?_)
 refine MX.skip ?_
 exact B0 (decide (((a3.1 % (16 : UInt8)).toNat) = 14)) _ _ ⟨rfl, rfl, rfl, rfl, rfl, rfl, rfl, trivial⟩ ⟨v0, Tr.refl _ _⟩ h
 refine MX.region <| RG.va (FV.eqlN (i := (a3.1 % (16 : UInt8)).toNat) (j := 13) rfl rfl) <| RG.so rfl <| RG.nil ?_
 exact B0 (decide (((a3.1 % (16 : UInt8)).toNat) = 13)) _ _ ⟨rfl, rfl, rfl, rfl, rfl, rfl, rfl, trivial⟩ ⟨v0, Tr.refl _ _⟩ h
def tb11_5 : List (Nat × Nat × Nat) := [(0, 68719476736, 64), (0, 137438953472, 128), (0, 274877906944, 2048), (0, 549755813888, 32), (8, 1099511627776, 549755813888), (0, 2199023255552, 8192), (48, 4398046511104, 3298534883328), (64, 8796093022208, 4398046511104), (135, 17592186044416, 9277129359360), (256, 34359738368, 17592186044416), (512, 35184372088832, 34359738368), (512, 70368744177664, 34359738368), (0, 16384, 0), (6143, 0, 35184372105216), (16383, 32768, 70368744177664)]
theorem body36 : bodyB Tryz.prog 36 = true := by kernel_rfl
theorem body40 : bodyB Tryz.prog 40 = true := by kernel_rfl
def wardmoteref26_Draft_Session_l1 (n : Nat) (a0 : TDraft28) (a1 : TGraph) (a2 : TRoll) (q0 : Nat × Int × (List Int) × (List Int) × (List TMove) × (List TMove) → Option (Int × (List Int) × (List Int) × (List TMove) × (List TMove))) : Nat × Int × (List Int) × (List Int) × (List TMove) × (List TMove) → Option (Int × (List Int) × (List Int) × (List TMove) × (List TMove))
  | (c0, p0, d0, g0, j0, k0) => (if c0 < a0.fL.length then (if c0 < 12 then (a0.fL[c0]?).bind fun s0 => (wardmoteref26_Do_p n a1 a2 (⟨p0, d0, g0, j0, k0⟩ : TSession) s0).bind fun b0 => (if b0.2 = 0 then q0 (c0 + 1, b0.1.fK, b0.1.fPlan, b0.1.fTotals, b0.1.fDone, b0.1.fUndone) else q0 (c0 + 1, p0, d0, g0, j0, k0)) else some (p0, d0, g0, j0, k0)) else some (p0, d0, g0, j0, k0))
def wardmoteref26_Draft_Session_p (n : Nat) (a0 : TDraft28) (a1 : TGraph) (a2 : TRoll) (a3 : List Int) (a4 : Int) : Option TSession :=
  (wardmoteref26_Start_p n a1 a2 a3 a4).bind fun b0 => jn (fun (p0, d0, g0, j0, k0) => some (⟨p0, d0, g0, j0, k0⟩ : TSession)) (fun c0 => Option.bind (loopF (wardmoteref26_Draft_Session_l1 n a0 a1 a2) n (0, b0.1.fK, b0.1.fPlan, b0.1.fTotals, b0.1.fDone, b0.1.fUndone)) (c0))
theorem wardmoteref26_Draft_Session_c (n : Nat) (L : List Nat) (w : World) (hL : ∀ b ∈ L, b < w.heap.size) (a0 : TDraft28) {v0_0 : Value} (h0_0 : Rep.R w L [v0_0] a0.fL) (a1 : TGraph) {v1_1 : Value} (h1_1 : Rep.R w L [v1_1] a1.fEdges) (a2 : TRoll) {v2_3 : Value} (h2_3 : Rep.R w L [v2_3] a2.fUnits) (a3 : List Int) {v3_0 : Value} (h3_0 : Rep.R w L [v3_0] a3) (a4 : Int)  {r : TSession} (h : wardmoteref26_Draft_Session_p n a0 a1 a2 a3 a4 = some r) :
    Calls Tryz.prog 11 #[.agg #[v0_0], .agg #[vI a1.fN, v1_1], .agg #[vI a2.fGroups, vI a2.fParties, vI a2.fLevels, v2_3], v3_0, vI a4] w (Gives w fun w' u => ∃ v0_1 v0_2 v0_3 v0_4 : Value, u = .agg #[vI r.fK, v0_1, v0_2, v0_3, v0_4] ∧ Rep.R w' L [v0_1] r.fPlan ∧ Rep.R w' L [v0_2] r.fTotals ∧ Rep.R w' L [v0_3] r.fDone ∧ Rep.R w' L [v0_4] r.fUndone) := by
 unfold wardmoteref26_Draft_Session_p at h
 have hS0 := St.start w
 refine MX.start Tryz.func11 rfl rfl rfl (fun _ cs0 hb0 => ?_)
 refine MX.sr <| RG.new .plain rfl (Does.box hS0 rfl rfl) (fun w2 b5 hS3 hT4 => ?_)
 refine RG.new .plain rfl (Does.box hS3 rfl rfl) (fun w7 s0 hS8 hT9 => ?_)
 refine RG.new .plain rfl (Does.box hS8 rfl rfl) (fun g5 t0 x2 R4 => ?_)
 refine RG.new .plain rfl (Does.al [vI 0, vN, vN, vN, vN] x2) (fun k5 b0 Q0 V4 => ?_)
 refine RG.nil <| MX.sr <| RG.va (FV.lN rfl (Q0.memA (.tl (.tl .hd)))) <| RG.va (FV.lN rfl (Q0.memA (.tl .hd))) <| RG.mo rfl <| RG.mo rfl ?_
 obtain ⟨P0, z4, h⟩ := bind_in h
 refine RG.call' (fst := []) (cap := []) .plain body36 rfl (e4 rfl rfl rfl rfl) (fun w9 hw9 => wardmoteref26_Start_c n _ w9 (Q0.hL hL hw9) a1 (Q0.km h1_1 hw9) a2 (Q0.km h2_3 hw9) a3 (Q0.km h3_0 hw9) a4 z4) rfl (fun p5 d5 V2 ⟨C1, D1, E1, F1, hu_, d2, g2, j2, k2⟩ => ?_)
 subst hu_
 obtain ⟨G2, W4⟩ := Q0.agr V2
 refine RG.mo rfl <| RG.va (FV.extract rfl rfl) <| RG.va (FV.extract rfl rfl) <| RG.new .plain rfl (Does.al [vI 0, vN, vN, vN, vN] G2) (fun v5 c0 H2 K0 => ?_)
 have Z3 := Rep.mv d2 K0
 have b4 := Rep.mv g2 K0
 have c4 := Rep.mv j2 K0
 have d4 := Rep.mv k2 K0
 refine RG.sa [vI P0.1.fK, C1, D1, E1, F1] H2 .hd (o5 rfl (Rep.o1 Z3) (Rep.o1 b4) (Rep.o1 c4) (Rep.o1 d4)) (fun q2 I2 B1 => ?_)
 refine RG.so rfl <| RG.nil <| MX.seq <| MX.sr <| RG.so rfl <| RG.nil ?_
 refine MX.block <| MX.joinx (α := Int × (List Int) × (List Int) × (List TMove) × (List TMove) × Value × Value × Value × Value) (fun ⟨D0, u1, v1, x1, y1, z0, A0, B0, C0⟩ => [(10, vP b0), (11, vP c0)]) (fun ⟨D0, u1, v1, x1, y1, z0, A0, B0, C0⟩ X0 => St w X0 [.cells c0 [vI D0, z0, A0, B0, C0] 48, .cells b0 [vI 0, vN, vN, vN, vN] 48] ∧ Tr q2 [.cells c0 [vI P0.1.fK, C1, D1, E1, F1] 48, .cells b0 [vI 0, vN, vN, vN, vN] 48, .cells t0 [vI a2.fGroups, vI a2.fParties, vI a2.fLevels, v2_3] 41, .cells s0 [vI a1.fN, v1_1] 38, .cells b5 [v0_0] 29] X0 [.cells c0 [vI D0, z0, A0, B0, C0] 48, .cells b0 [vI 0, vN, vN, vN, vN] 48] ∧ Rep.R X0 (bl [.cells c0 [vI D0, z0, A0, B0, C0] 48, .cells b0 [vI 0, vN, vN, vN, vN] 48] ++ L) [z0] u1 ∧ Rep.R X0 (bl [.cells c0 [vI D0, z0, A0, B0, C0] 48, .cells b0 [vI 0, vN, vN, vN, vN] 48] ++ L) [A0] v1 ∧ Rep.R X0 (bl [.cells c0 [vI D0, z0, A0, B0, C0] 48, .cells b0 [vI 0, vN, vN, vN, vN] 48] ++ L) [B0] x1 ∧ Rep.R X0 (bl [.cells c0 [vI D0, z0, A0, B0, C0] 48, .cells b0 [vI 0, vN, vN, vN, vN] 48] ++ L) [C0] y1) (fun ⟨D0, u1, v1, x1, y1, z0, A0, B0, C0⟩ => (D0, u1, v1, x1, y1)) (id := 0) rfl h ?_ ?_
 rintro ⟨D0, u1, v1, x1, y1, z0, A0, B0, C0⟩ X0 ⟨V1, U4, Y1, Z1, b2, c2⟩ h
 try dsimp only at h
 refine MX.sr <| RG.va (FV.lN rfl (V1.memA .hd)) <| RG.sa [vI D0, z0, A0, B0, C0] V1 (.tl .hd) (o5 rfl (Rep.o1 Y1) (Rep.o1 Z1) (Rep.o1 b2) (Rep.o1 c2)) (fun j5 Z0 z1 => ?_)
 refine RG.nil <| MX.ret rfl <| RT.leave hb0 Tryz.func11 rfl (.cons (.many (cs := [vI D0, z0, A0, B0, C0]) (by kernel_rfl) rfl (Z0.memA (.tl .hd))) .nil) rfl ?_
 cases h
 have Y2 := Rep.mv Y1 z1
 have Z2 := Rep.mv Z1 z1
 have b3 := Rep.mv b2 z1
 have c3 := Rep.mv c2 z1
 exact ⟨Z0.ag, fun w9 hw9 => ⟨z0, A0, B0, C0, rfl, Z0.kd Y2 hw9, Z0.kd Z2 hw9, Z0.kd b3 hw9, Z0.kd c3 hw9⟩⟩
 intro K4 Q1 h
 try dsimp only at h
 have d3 := Rep.mv d2 (Tr.trans K0 B1)
 have g3 := Rep.mv g2 (Tr.trans K0 B1)
 have j3 := Rep.mv j2 (Tr.trans K0 B1)
 have k3 := Rep.mv k2 (Tr.trans K0 B1)
 obtain ⟨Y4, g4, X1⟩ := bind_in2 h
 refine MX.loop (α := Nat × Int × (List Int) × (List Int) × (List TMove) × (List TMove) × Value × Value × Value × Value) (fun ⟨y0, g0, F0, G0, H0, I0, j0, k0, p0, q0⟩ => [(5, vP b5), (6, vP s0), (7, vP t0), (10, vP b0), (11, vP c0), (13, vI ((y0 : Nat) : Int))]) (fun ⟨y0, g0, F0, G0, H0, I0, j0, k0, p0, q0⟩ M0 => St w M0 [.cells c0 [vI g0, j0, k0, p0, q0] 48, .cells b0 [vI 0, vN, vN, vN, vN] 48, .cells t0 [vI a2.fGroups, vI a2.fParties, vI a2.fLevels, v2_3] 41, .cells s0 [vI a1.fN, v1_1] 38, .cells b5 [v0_0] 29] ∧ Tr q2 [.cells c0 [vI P0.1.fK, C1, D1, E1, F1] 48, .cells b0 [vI 0, vN, vN, vN, vN] 48, .cells t0 [vI a2.fGroups, vI a2.fParties, vI a2.fLevels, v2_3] 41, .cells s0 [vI a1.fN, v1_1] 38, .cells b5 [v0_0] 29] M0 [.cells c0 [vI g0, j0, k0, p0, q0] 48, .cells b0 [vI 0, vN, vN, vN, vN] 48, .cells t0 [vI a2.fGroups, vI a2.fParties, vI a2.fLevels, v2_3] 41, .cells s0 [vI a1.fN, v1_1] 38, .cells b5 [v0_0] 29] ∧ Rep.R M0 (bl [.cells c0 [vI g0, j0, k0, p0, q0] 48, .cells b0 [vI 0, vN, vN, vN, vN] 48, .cells t0 [vI a2.fGroups, vI a2.fParties, vI a2.fLevels, v2_3] 41, .cells s0 [vI a1.fN, v1_1] 38, .cells b5 [v0_0] 29] ++ L) [j0] F0 ∧ Rep.R M0 (bl [.cells c0 [vI g0, j0, k0, p0, q0] 48, .cells b0 [vI 0, vN, vN, vN, vN] 48, .cells t0 [vI a2.fGroups, vI a2.fParties, vI a2.fLevels, v2_3] 41, .cells s0 [vI a1.fN, v1_1] 38, .cells b5 [v0_0] 29] ++ L) [k0] G0 ∧ Rep.R M0 (bl [.cells c0 [vI g0, j0, k0, p0, q0] 48, .cells b0 [vI 0, vN, vN, vN, vN] 48, .cells t0 [vI a2.fGroups, vI a2.fParties, vI a2.fLevels, v2_3] 41, .cells s0 [vI a1.fN, v1_1] 38, .cells b5 [v0_0] 29] ++ L) [p0] H0 ∧ Rep.R M0 (bl [.cells c0 [vI g0, j0, k0, p0, q0] 48, .cells b0 [vI 0, vN, vN, vN, vN] 48, .cells t0 [vI a2.fGroups, vI a2.fParties, vI a2.fLevels, v2_3] 41, .cells s0 [vI a1.fN, v1_1] 38, .cells b5 [v0_0] 29] ++ L) [q0] I0) (fun ⟨y0, g0, F0, G0, H0, I0, j0, k0, p0, q0⟩ => (y0, g0, F0, G0, H0, I0)) (0, P0.1.fK, P0.1.fPlan, P0.1.fTotals, P0.1.fDone, P0.1.fUndone, C1, D1, E1, F1) g4 ⟨rfl, rfl, rfl, rfl, rfl, rfl, trivial⟩ ⟨I2, Tr.refl _ _, d3, g3, j3, k3⟩ ?_
 rintro M4 ⟨y0, g0, F0, G0, H0, I0, j0, k0, p0, q0⟩ M0 R1 ⟨x0, A1, p1, q1, s1, t1⟩ h
 unfold wardmoteref26_Draft_Session_l1 at h
 try dsimp only at h
 refine MX.seq <| MX.sr <| RG.mo rfl <| RG.fa 0 rfl <| RG.va (FV.l1 rfl ((x0.memA (.tl (.tl (.tl (.tl .hd))))) 0 _ rfl)) ?_
 have I1 := Rep.mv0 h0_0 x0
 have X4 : a0.fL.length ≤ 281474976710656 := Rep.lenle I1
 refine RG.va (FV.len (xs := a0.fL) Tryz.underlying23 rfl I1) <| RG.va (FV.lssN (i := y0) (j := a0.fL.length) rfl rfl) <| RG.mo rfl <| RG.ifd (s := 29) rfl h (fun t2 h => ?_) (fun t2 h => ?_)
 refine RG.ga (FV.move rfl) <| RG.ga (FV.lssN (i := y0) (j := 12) rfl rfl) <| RG.pt rfl rfl <| RG.nil <| MX.ifd rfl h (fun u2 h => ?_) (fun u2 h => ?_)
 refine MX.skip <| MX.seq <| MX.block <| MX.seq <| MX.drawT 13 tb11_5 (by kernel_rfl) (by kernel_rfl) (by kernel_rfl) (fun d0 u0 => ?_)
 refine RD.vx 0 1 28416 d0 rfl u0 (FV.lN rfl (x0.memA (.tl (.tl (.tl .hd))))) rfl <| RD.vx 1 3 28416 d0 rfl u0 (FV.lN rfl (x0.memA (.tl (.tl .hd)))) rfl <| RD.vx 2 7 28416 d0 rfl u0 (FV.lN rfl (x0.memA .hd)) rfl <| RD.vw 3 15 d0 rfl u0 (fun _ => FV.fa 0 rfl) rfl <| RD.vx 4 31 28608 d0 rfl u0 (FV.l1 rfl ((x0.memA (.tl (.tl (.tl (.tl .hd))))) 0 _ rfl)) rfl <| RD.vw 5 63 d0 rfl u0 (fun _ => FV.move rfl) rfl ?_
 obtain ⟨s2, y4, h⟩ := bind_in h
 obtain ⟨J4, P4, W2, X2, Q4, j4, p3⟩ := Rep.nth I1 y4
 obtain rfl := op_A34 j4
 refine RD.vw 6 127 d0 rfl u0 (fun _ => FV.ia 2 y0 rfl W2 rfl rfl X2) rfl <| RD.vx 7 255 28416 d0 rfl u0 (FV.lN rfl p3) rfl ?_
 obtain ⟨v0, p2, h⟩ := bind_in h
 refine RD.meet (α := Value × Value × Value × Value × Nat) (fun ⟨R0, U0, V0, W0, J0⟩ => [(5, vP b5), (6, vP s0), (7, vP t0), (10, vP b0), (11, vP c0), (13, vI ((y0 : Nat) : Int)), (45, .agg #[vI v0.1.fK, R0, U0, V0, W0]), (46, vI v0.2), (14, vP J0)]) (fun ⟨R0, U0, V0, W0, J0⟩ Y0 => St w Y0 [.cells J0 [vI 0, vN, vN, vN, vN] 48, .cells c0 [vI g0, j0, k0, p0, q0] 48, .cells b0 [vI 0, vN, vN, vN, vN] 48, .cells t0 [vI a2.fGroups, vI a2.fParties, vI a2.fLevels, v2_3] 41, .cells s0 [vI a1.fN, v1_1] 38, .cells b5 [v0_0] 29] ∧ Tr M0 [.cells c0 [vI g0, j0, k0, p0, q0] 48, .cells b0 [vI 0, vN, vN, vN, vN] 48, .cells t0 [vI a2.fGroups, vI a2.fParties, vI a2.fLevels, v2_3] 41, .cells s0 [vI a1.fN, v1_1] 38, .cells b5 [v0_0] 29] Y0 [.cells J0 [vI 0, vN, vN, vN, vN] 48, .cells c0 [vI g0, j0, k0, p0, q0] 48, .cells b0 [vI 0, vN, vN, vN, vN] 48, .cells t0 [vI a2.fGroups, vI a2.fParties, vI a2.fLevels, v2_3] 41, .cells s0 [vI a1.fN, v1_1] 38, .cells b5 [v0_0] 29] ∧ Rep.R Y0 (bl [.cells J0 [vI 0, vN, vN, vN, vN] 48, .cells c0 [vI g0, j0, k0, p0, q0] 48, .cells b0 [vI 0, vN, vN, vN, vN] 48, .cells t0 [vI a2.fGroups, vI a2.fParties, vI a2.fLevels, v2_3] 41, .cells s0 [vI a1.fN, v1_1] 38, .cells b5 [v0_0] 29] ++ L) [R0] v0.1.fPlan ∧ Rep.R Y0 (bl [.cells J0 [vI 0, vN, vN, vN, vN] 48, .cells c0 [vI g0, j0, k0, p0, q0] 48, .cells b0 [vI 0, vN, vN, vN, vN] 48, .cells t0 [vI a2.fGroups, vI a2.fParties, vI a2.fLevels, v2_3] 41, .cells s0 [vI a1.fN, v1_1] 38, .cells b5 [v0_0] 29] ++ L) [U0] v0.1.fTotals ∧ Rep.R Y0 (bl [.cells J0 [vI 0, vN, vN, vN, vN] 48, .cells c0 [vI g0, j0, k0, p0, q0] 48, .cells b0 [vI 0, vN, vN, vN, vN] 48, .cells t0 [vI a2.fGroups, vI a2.fParties, vI a2.fLevels, v2_3] 41, .cells s0 [vI a1.fN, v1_1] 38, .cells b5 [v0_0] 29] ++ L) [V0] v0.1.fDone ∧ Rep.R Y0 (bl [.cells J0 [vI 0, vN, vN, vN, vN] 48, .cells c0 [vI g0, j0, k0, p0, q0] 48, .cells b0 [vI 0, vN, vN, vN, vN] 48, .cells t0 [vI a2.fGroups, vI a2.fParties, vI a2.fLevels, v2_3] 41, .cells s0 [vI a1.fN, v1_1] 38, .cells b5 [v0_0] 29] ++ L) [W0] v0.1.fUndone) 2 8191 ?_ ?_
 rintro ⟨R0, U0, V0, W0, J0⟩ Y0 ⟨A2, W1, J1, K1, M1, P1⟩
 try dsimp only
 refine RD.nw 13 16383 d0 rfl rfl .plain (Acts.storeAll (news := [vI v0.1.fK, R0, U0, V0, W0]) A2 .hd rfl rfl rfl rfl rfl rfl (o5 rfl (Rep.o1 J1) (Rep.o1 K1) (Rep.o1 M1) (Rep.o1 P1))) (fun t5 H1 c1 => ?_)
 refine RD.one (i := 14) (readyD_ok d0 (by kernel_rfl)) (RO.val (m' := 32767) (stepC_ok d0 (by kernel_rfl)) rfl .plain rfl (FV.assign rfl) ?_)
 refine RD.done (doneD_ok d0 (by kernel_rfl)) <| MX.sr <| RG.mo rfl <| RG.va (FV.eql (i := v0.2) (j := 0) rfl rfl) <| RG.nil <| MX.ifd rfl h (fun v2 h => ?_) (fun v2 h => ?_)
 refine MX.region <| RG.va (FV.lN rfl (H1.memA .hd)) ?_
 have v3 := Rep.mv J1 c1
 have x3 := Rep.mv K1 c1
 have y3 := Rep.mv M1 c1
 have z3 := Rep.mv P1 c1
 refine RG.sa [vI v0.1.fK, R0, U0, V0, W0] H1 (.tl .hd) (o5 rfl (Rep.o1 v3) (Rep.o1 x3) (Rep.o1 y3) (Rep.o1 z3)) (fun u5 B2 M2 => ?_)
 refine RG.nil <| MX.inBlock <| MX.region <| RG.mo rfl <| RG.va (FV.addN (i := y0) (j := 1) rfl rfl (by omega)) <| RG.so rfl ?_
 refine RG.nil ?_
 obtain ⟨C2, P2⟩ := St.arrB B2 (.one (.tl .hd) (.one (.tl .hd) (.one (.tl .hd) (.one (.tl .hd) (.one (.tl .hd) .done)))))
 have j1 := Tr.trans c1 (Tr.trans M2 P2)
 have A3 := Rep.mv J1 j1
 have B3 := Rep.mv K1 j1
 have C3 := Rep.mv M1 j1
 have D3 := Rep.mv P1 j1
 exact R1 (y0 + 1, v0.1.fK, v0.1.fPlan, v0.1.fTotals, v0.1.fDone, v0.1.fUndone, R0, U0, V0, W0) _ _ ⟨rfl, rfl, rfl, rfl, rfl, rfl, trivial⟩ ⟨C2, (Tr.trans A1 (Tr.trans W1 j1)), A3, B3, C3, D3⟩ h
 refine MX.skip <| MX.inBlock <| MX.region <| RG.mo rfl <| RG.va (FV.addN (i := y0) (j := 1) rfl rfl (by omega)) <| RG.so rfl ?_
 refine RG.nil ?_
 obtain ⟨D2, Q2⟩ := St.arrB H1 (.one (.tl .hd) (.one (.tl .hd) (.one (.tl .hd) (.one (.tl .hd) (.one (.tl .hd) .done)))))
 have k1 := Tr.trans W1 (Tr.trans c1 Q2)
 have E3 := Rep.mv p1 k1
 have F3 := Rep.mv q1 k1
 have G3 := Rep.mv s1 k1
 have H3 := Rep.mv t1 k1
 exact R1 (y0 + 1, g0, F0, G0, H0, I0, j0, k0, p0, q0) _ _ ⟨rfl, rfl, rfl, rfl, rfl, rfl, trivial⟩ ⟨D2, (Tr.trans A1 k1), E3, F3, G3, H3⟩ h
 intro U1
 refine RD.each [8, 12] (readyD_ok d0 (by kernel_rfl)) ⟨?_, ?_, trivial⟩
 refine RO.call (m' := 511) (fst := []) (cap := []) (stepC_ok d0 (by kernel_rfl)) rfl .plain body40 rfl (e4 rfl rfl rfl rfl) (fun w9 hw9 => wardmoteref26_Do_c n _ w9 (x0.hL hL hw9) a1 (x0.km h1_1 hw9) a2 (x0.km h2_3 hw9) (⟨g0, F0, G0, H0, I0⟩ : TSession) (Rep.keep0 p1 hw9) (Rep.keep0 q1 hw9) (Rep.keep0 s1 hw9) (Rep.keep0 t1 hw9) s2 p2) rfl (fun q5 Z4 R2 ⟨A4, B4, C4, D4, hu_, k4, p4, q4, s4⟩ => ?_)
 subst hu_
 obtain ⟨y2, J2⟩ := x0.agr R2
 refine RD.vw 9 1023 d0 rfl u0 (fun _ => FV.move rfl) rfl <| RD.vw 10 2047 d0 rfl u0 (fun _ => FV.extract rfl rfl) rfl <| RD.vw 11 4095 d0 rfl u0 (fun _ => FV.extract rfl rfl) rfl <| RD.nu 12 8191 d0 rfl .plain rfl (Does.al [vI 0, vN, vN, vN, vN] y2) (fun I4 G1 b1 E0 => ?_)
 have I3 := Rep.mv k4 E0
 have J3 := Rep.mv p4 E0
 have K3 := Rep.mv q4 E0
 have M3 := Rep.mv s4 E0
 exact U1 (A4, B4, C4, D4, G1) _ _ ⟨rfl, rfl, rfl, rfl, rfl, rfl, rfl, rfl, rfl, trivial⟩ ⟨b1, (Tr.trans J2 E0), I3, J3, K3, M3⟩
 refine RO.new (m' := 4351) (stepC_ok d0 (by kernel_rfl)) rfl .plain rfl (Does.al [vI 0, vN, vN, vN, vN] x0) (fun I4 G1 b1 E0 => ?_)
 have q3 := Rep.mv p1 E0
 have s3 := Rep.mv q1 E0
 have t3 := Rep.mv s1 E0
 have u3 := Rep.mv t1 E0
 refine RD.cl 8 4607 d0 rfl .plain body40 rfl (e4 rfl rfl rfl rfl) (fun w9 hw9 => wardmoteref26_Do_c n _ w9 (b1.hL hL hw9) a1 (b1.km h1_1 hw9) a2 (b1.km h2_3 hw9) (⟨g0, F0, G0, H0, I0⟩ : TSession) (Rep.keep0 q3 hw9) (Rep.keep0 s3 hw9) (Rep.keep0 t3 hw9) (Rep.keep0 u3 hw9) s2 p2) rfl (fun s5 c5 U2 ⟨E4, F4, G4, H4, hu_, t4, u4, v4, x4⟩ => ?_)
 subst hu_
 obtain ⟨z2, K2⟩ := b1.agr U2
 refine RD.vw 9 5119 d0 rfl u0 (fun _ => FV.move rfl) rfl <| RD.vw 10 6143 d0 rfl u0 (fun _ => FV.extract rfl rfl) rfl <| RD.vw 11 8191 d0 rfl u0 (fun _ => FV.extract rfl rfl) rfl ?_
 exact U1 (E4, F4, G4, H4, G1) _ _ ⟨rfl, rfl, rfl, rfl, rfl, rfl, rfl, rfl, rfl, trivial⟩ ⟨z2, (Tr.trans E0 K2), t4, u4, v4, x4⟩
 refine MX.exit rfl ?_
 have h := X1 _ h
 try dsimp only at h
 obtain ⟨E2, d1⟩ := St.arrB x0 (.one .hd (.one .hd .done))
 have P3 := Rep.mv p1 d1
 have Q3 := Rep.mv q1 d1
 have R3 := Rep.mv s1 d1
 have U3 := Rep.mv t1 d1
 exact Q1 (g0, F0, G0, H0, I0, j0, k0, p0, q0) _ _ ⟨rfl, rfl, trivial⟩ ⟨E2, (Tr.trans A1 d1), P3, Q3, R3, U3⟩ h
 refine RG.no <| RG.no <| RG.pf rfl rfl <| RG.nil <| MX.cond_f rfl <| MX.exit rfl ?_
 have h := X1 _ h
 try dsimp only at h
 obtain ⟨F2, g1⟩ := St.arrB x0 (.one .hd (.one .hd .done))
 have V3 := Rep.mv p1 g1
 have W3 := Rep.mv q1 g1
 have X3 := Rep.mv s1 g1
 have Y3 := Rep.mv t1 g1
 exact Q1 (g0, F0, G0, H0, I0, j0, k0, p0, q0) _ _ ⟨rfl, rfl, trivial⟩ ⟨F2, (Tr.trans A1 g1), V3, W3, X3, Y3⟩ h
def tb28_6 : List (Nat × Nat × Nat) := [(0, 65536, 1), (0, 131072, 32), (3, 262144, 196608), (4, 524288, 262144), (0, 1048576, 2), (0, 2097152, 32), (48, 4194304, 3145728), (64, 8388608, 4194304), (136, 16777216, 8912896)]
def slices_Equal_api_Plan_int_l1 (_n : Nat) (a0 : List Int) (a1 : List Int) (b0 : Nat → Option (Bool ⊕ Unit)) : Nat → Option (Bool ⊕ Unit)
  | i32 => (if i32 < a0.length then (a0[i32]?).bind fun c0 => (a1[i32]?).bind fun d0 => (if c0 = d0 then b0 (i32 + 1) else some (.inl false)) else some (.inr ()))
def slices_Equal_api_Plan_int_p (n : Nat) (a0 : List Int) (a1 : List Int) : Option Bool :=
  (if a0.length = a1.length then thn (loopF (slices_Equal_api_Plan_int_l1 n a0 a1) n 0) (fun _ => some true) else some false)
theorem slices_Equal_api_Plan_int_c (n : Nat) (L : List Nat) (w : World) (_hL : ∀ b ∈ L, b < w.heap.size) (a0 : List Int) {v0_0 : Value} (h0_0 : Rep.R w L [v0_0] a0) (a1 : List Int) {v1_0 : Value} (h1_0 : Rep.R w L [v1_0] a1)  {r : Bool} (h : slices_Equal_api_Plan_int_p n a0 a1 = some r) :
    Calls Tryz.prog 28 #[v0_0, v1_0] w (Gives w fun _ u => u = .bool r) := by
 unfold slices_Equal_api_Plan_int_p at h
 have hS0 := St.start w
 refine MX.start Tryz.func28 rfl rfl rfl (fun _ cs0 hb0 => ?_)
 refine MX.sr <| RG.so rfl <| RG.nil <| MX.seq <| MX.sr <| RG.mo rfl ?_
 have hl1 : a0.length ≤ 281474976710656 := Rep.lenle h0_0
 refine RG.va (FV.len (xs := a0) Tryz.underlying43 rfl h0_0) <| RG.mo rfl ?_
 have hl2 : a1.length ≤ 281474976710656 := Rep.lenle h1_0
 refine RG.va (FV.len (xs := a1) Tryz.underlying43 rfl h1_0) <| RG.va (FV.neqN (i := a0.length) (j := a1.length) rfl rfl) <| RG.nil <| MX.ifn rfl h (fun c3 h => ?_) (fun c3 h => ?_)
 refine MX.skip <| MX.seq <| MX.sr <| RG.mo rfl <| RG.va (FV.len (xs := a0) Tryz.underlying43 rfl h0_0) <| RG.mo rfl ?_
 refine RG.nil <| MX.block ?_
 obtain ⟨X0, I0, j0⟩ := thn_in h
 refine MX.loop (α := Nat) (fun i32 => [(0, v0_0), (1, v1_0), (12, vI ((a0.length : Nat) : Int)), (13, vI ((i32 : Nat) : Int))]) (fun i32 g0 => St w g0 [] ∧ Tr w [] g0 []) (fun i32 => i32) 0 I0 ⟨rfl, rfl, rfl, rfl, trivial⟩ ⟨hS0, Tr.refl _ _⟩ ?_
 rintro U0 i32 g0 v0 ⟨d0, x0⟩ h
 unfold slices_Equal_api_Plan_int_l1 at h
 try dsimp only at h
 refine MX.sr <| RG.va (FV.lssN (i := i32) (j := a0.length) rfl rfl) <| RG.nil <| MX.seq <| MX.ifd rfl h (fun q0 h => ?_) (fun q0 h => ?_)
 refine MX.skip <| MX.seq <| MX.block <| MX.sr <| RG.mo rfl <| RG.so rfl ?_
 refine RG.nil <| MX.seq <| MX.drawT 9 tb28_6 (by kernel_rfl) (by kernel_rfl) (by kernel_rfl) (fun b0 c0 => ?_)
 refine RD.vw 0 1 b0 rfl c0 (fun _ => FV.move rfl) rfl <| RD.vw 1 3 b0 rfl c0 (fun _ => FV.move rfl) rfl ?_
 obtain ⟨k0, M0, h⟩ := bind_in h
 have F0 := Rep.mv0 h0_0 d0
 obtain ⟨Q0, V0, y0, C0, t0, J0, E0⟩ := Rep.nth F0 M0
 have z0 : t0 = [vI k0] := J0; subst z0
 refine RD.vw 2 7 b0 rfl c0 (fun _ => FV.ia 1 i32 rfl y0 rfl rfl C0) rfl <| RD.vx 3 15 256 b0 rfl c0 (FV.l1 rfl (E0 0 _ rfl)) rfl <| RD.vw 4 31 b0 rfl c0 (fun _ => FV.move rfl) rfl <| RD.vw 5 63 b0 rfl c0 (fun _ => FV.move rfl) rfl ?_
 obtain ⟨p0, P0, h⟩ := bind_in h
 have H0 := Rep.mv0 h1_0 d0
 obtain ⟨R0, W0, A0, D0, u0, K0, G0⟩ := Rep.nth H0 P0
 have B0 : u0 = [vI p0] := K0; subst B0
 refine RD.vw 6 127 b0 rfl c0 (fun _ => FV.ia 1 i32 rfl A0 rfl rfl D0) rfl <| RD.vx 7 255 256 b0 rfl c0 (FV.l1 rfl (G0 0 _ rfl)) rfl <| RD.vw 8 511 b0 rfl c0 (fun _ => FV.neq (i := k0) (j := p0) rfl rfl) rfl <| RD.done (doneD_ok b0 (by kernel_rfl)) <| MX.ifn rfl h (fun s0 h => ?_) (fun s0 h => ?_)
 refine MX.skip <| MX.inBlock <| MX.region <| RG.va (FV.addN (i := i32) (j := 1) rfl rfl (by omega)) <| RG.mo rfl <| RG.nil ?_
 exact v0 (i32 + 1) _ _ ⟨rfl, rfl, rfl, rfl, trivial⟩ ⟨d0, x0⟩ h
 refine MX.sr <| RG.so rfl <| RG.nil ?_
 have h := thn_inl h j0
 refine MX.ret rfl <| RT.t1 hb0 Tryz.func28 rfl rfl ?_
 cases h
 exact d0.gv
 refine MX.exit rfl ?_
 have h := thn_inr h j0
 try dsimp only at h
 refine MX.sr <| RG.so rfl <| RG.nil <| MX.ret rfl <| RT.t1 hb0 Tryz.func28 rfl rfl ?_
 cases h
 exact d0.gv
 refine MX.sr <| RG.so rfl <| RG.nil <| MX.ret rfl <| RT.t1 hb0 Tryz.func28 rfl rfl ?_
 cases h
 exact hS0.gv
def tb52_6 : List (Nat × Nat × Nat) := [(0, 65536, 1), (0, 131072, 32), (3, 262144, 196608), (4, 524288, 262144), (0, 1048576, 2), (0, 2097152, 32), (48, 4194304, 3145728), (64, 8388608, 4194304), (136, 16777216, 8912896)]
def slices_Equal_api_Move_api_Move_l1 (_n : Nat) (a0 : List TMove) (a1 : List TMove) (c0 : Nat → Option (Bool ⊕ Unit)) : Nat → Option (Bool ⊕ Unit)
  | b0 => (if b0 < a0.length then (a0[b0]?).bind fun d0 => (a1[b0]?).bind fun g0 => (if d0 = g0 then c0 (b0 + 1) else some (.inl false)) else some (.inr ()))
def slices_Equal_api_Move_api_Move_p (n : Nat) (a0 : List TMove) (a1 : List TMove) : Option Bool :=
  (if a0.length = a1.length then thn (loopF (slices_Equal_api_Move_api_Move_l1 n a0 a1) n 0) (fun _ => some true) else some false)
theorem slices_Equal_api_Move_api_Move_c (n : Nat) (L : List Nat) (w : World) (_hL : ∀ b ∈ L, b < w.heap.size) (a0 : List TMove) {v0_0 : Value} (h0_0 : Rep.R w L [v0_0] a0) (a1 : List TMove) {v1_0 : Value} (h1_0 : Rep.R w L [v1_0] a1)  {r : Bool} (h : slices_Equal_api_Move_api_Move_p n a0 a1 = some r) :
    Calls Tryz.prog 52 #[v0_0, v1_0] w (Gives w fun _ u => u = .bool r) := by
 unfold slices_Equal_api_Move_api_Move_p at h
 have hS0 := St.start w
 refine MX.start Tryz.func52 rfl rfl rfl (fun _ cs0 hb0 => ?_)
 refine MX.sr <| RG.so rfl <| RG.nil <| MX.seq <| MX.sr <| RG.mo rfl ?_
 have hl1 : a0.length ≤ 281474976710656 := Rep.lenle h0_0
 refine RG.va (FV.len (xs := a0) Tryz.underlying46 rfl h0_0) <| RG.mo rfl ?_
 have hl2 : a1.length ≤ 281474976710656 := Rep.lenle h1_0
 refine RG.va (FV.len (xs := a1) Tryz.underlying46 rfl h1_0) <| RG.va (FV.neqN (i := a0.length) (j := a1.length) rfl rfl) <| RG.nil <| MX.ifn rfl h (fun c3 h => ?_) (fun c3 h => ?_)
 refine MX.skip <| MX.seq <| MX.sr <| RG.mo rfl <| RG.va (FV.len (xs := a0) Tryz.underlying46 rfl h0_0) <| RG.mo rfl ?_
 refine RG.nil <| MX.block ?_
 obtain ⟨W0, F0, q0⟩ := thn_in h
 refine MX.loop (α := Nat) (fun b0 => [(0, v0_0), (1, v1_0), (12, vI ((a0.length : Nat) : Int)), (13, vI ((b0 : Nat) : Int))]) (fun b0 p0 => St w p0 [] ∧ Tr w [] p0 []) (fun b0 => b0) 0 F0 ⟨rfl, rfl, rfl, rfl, trivial⟩ ⟨hS0, Tr.refl _ _⟩ ?_
 rintro P0 b0 p0 u0 ⟨g0, v0⟩ h
 unfold slices_Equal_api_Move_api_Move_l1 at h
 try dsimp only at h
 refine MX.sr <| RG.va (FV.lssN (i := b0) (j := a0.length) rfl rfl) <| RG.nil <| MX.seq <| MX.ifd rfl h (fun s0 h => ?_) (fun s0 h => ?_)
 refine MX.skip <| MX.seq <| MX.block <| MX.sr <| RG.mo rfl <| RG.so rfl ?_
 refine RG.nil <| MX.seq <| MX.drawT 9 tb52_6 (by kernel_rfl) (by kernel_rfl) (by kernel_rfl) (fun c0 d0 => ?_)
 refine RD.vw 0 1 c0 rfl d0 (fun _ => FV.move rfl) rfl <| RD.vw 1 3 c0 rfl d0 (fun _ => FV.move rfl) rfl ?_
 obtain ⟨j0, I0, h⟩ := bind_in h
 have C0 := Rep.mv0 h0_0 g0
 obtain ⟨K0, Q0, x0, z0, U0, G0, B0⟩ := Rep.nth C0 I0
 obtain rfl := op_TMove G0
 refine RD.vw 2 7 c0 rfl d0 (fun _ => FV.ia 3 b0 rfl x0 rfl rfl z0) rfl <| RD.vx 3 15 256 c0 rfl d0 (FV.lN rfl B0) rfl <| RD.vw 4 31 c0 rfl d0 (fun _ => FV.move rfl) rfl <| RD.vw 5 63 c0 rfl d0 (fun _ => FV.move rfl) rfl ?_
 obtain ⟨k0, J0, h⟩ := bind_in h
 have E0 := Rep.mv0 h1_0 g0
 obtain ⟨M0, R0, y0, A0, V0, H0, D0⟩ := Rep.nth E0 J0
 obtain rfl := op_TMove H0
 refine RD.vw 6 127 c0 rfl d0 (fun _ => FV.ia 3 b0 rfl y0 rfl rfl A0) rfl <| RD.vx 7 255 256 c0 rfl d0 (FV.lN rfl D0) rfl <| RD.vw 8 511 c0 rfl d0 (fun _ => FV.neqV (xs := ([vI j0.fUnit, vI j0.fFrom, vI j0.fTo]).toArray) (ys := ([vI k0.fUnit, vI k0.fFrom, vI k0.fTo]).toArray) rfl rfl (by kernel_rfl) (eqlD_62 j0 k0)) rfl <| RD.done (doneD_ok c0 (by kernel_rfl)) <| MX.ifn rfl h (fun t0 h => ?_) (fun t0 h => ?_)
 refine MX.skip <| MX.inBlock <| MX.region <| RG.va (FV.addN (i := b0) (j := 1) rfl rfl (by omega)) <| RG.mo rfl <| RG.nil ?_
 exact u0 (b0 + 1) _ _ ⟨rfl, rfl, rfl, rfl, trivial⟩ ⟨g0, v0⟩ h
 refine MX.sr <| RG.so rfl <| RG.nil ?_
 have h := thn_inl h q0
 refine MX.ret rfl <| RT.t1 hb0 Tryz.func52 rfl rfl ?_
 cases h
 exact g0.gv
 refine MX.exit rfl ?_
 have h := thn_inr h q0
 try dsimp only at h
 refine MX.sr <| RG.so rfl <| RG.nil <| MX.ret rfl <| RT.t1 hb0 Tryz.func52 rfl rfl ?_
 cases h
 exact g0.gv
 refine MX.sr <| RG.so rfl <| RG.nil <| MX.ret rfl <| RT.t1 hb0 Tryz.func52 rfl rfl ?_
 cases h
 exact hS0.gv
theorem body28 : bodyB Tryz.prog 28 = true := by kernel_rfl
theorem body52 : bodyB Tryz.prog 52 = true := by kernel_rfl
def edit_Same_p (n : Nat) (a0 : TSession) (a1 : TSession) : Option Bool :=
  (if a0.fK = a1.fK then (slices_Equal_api_Plan_int_p n a0.fPlan a1.fPlan).bind fun b0 => (if b0 = true then (slices_Equal_int_int_p n a0.fTotals a1.fTotals).bind fun c0 => (if c0 = true then (slices_Equal_api_Move_api_Move_p n a0.fDone a1.fDone).bind fun d0 => (if d0 = true then (slices_Equal_api_Move_api_Move_p n a0.fUndone a1.fUndone).bind fun g0 => some g0 else some false) else some false) else some false) else some false)
theorem edit_Same_c (n : Nat) (L : List Nat) (w : World) (hL : ∀ b ∈ L, b < w.heap.size) (a0 : TSession) {v0_1 : Value} (h0_1 : Rep.R w L [v0_1] a0.fPlan) {v0_2 : Value} (h0_2 : Rep.R w L [v0_2] a0.fTotals) {v0_3 : Value} (h0_3 : Rep.R w L [v0_3] a0.fDone) {v0_4 : Value} (h0_4 : Rep.R w L [v0_4] a0.fUndone) (a1 : TSession) {v1_1 : Value} (h1_1 : Rep.R w L [v1_1] a1.fPlan) {v1_2 : Value} (h1_2 : Rep.R w L [v1_2] a1.fTotals) {v1_3 : Value} (h1_3 : Rep.R w L [v1_3] a1.fDone) {v1_4 : Value} (h1_4 : Rep.R w L [v1_4] a1.fUndone)  {r : Bool} (h : edit_Same_p n a0 a1 = some r) :
    Calls Tryz.prog 18 #[.agg #[vI a0.fK, v0_1, v0_2, v0_3, v0_4], .agg #[vI a1.fK, v1_1, v1_2, v1_3, v1_4]] w (Gives w fun _ u => u = .bool r) := by
 unfold edit_Same_p at h
 have hS0 := St.start w
 refine MX.start Tryz.func18 rfl rfl rfl (fun _ cs0 hb0 => ?_)
 refine MX.sr <| RG.new .plain rfl (Does.box hS0 rfl rfl) (fun w2 b5 hS3 hT4 => ?_)
 refine RG.new .plain rfl (Does.box hS3 rfl rfl) (fun w7 y0 hS8 hT9 => ?_)
 refine RG.so rfl <| RG.nil <| MX.seq <| MX.region <| RG.fa 0 rfl <| RG.l1 rfl ((hS8.memA (.tl .hd)) 0 _ rfl) ?_
 refine RG.fa 0 rfl <| RG.l1 rfl ((hS8.memA .hd) 0 _ rfl) <| RG.va (FV.eql (i := a0.fK) (j := a1.fK) rfl rfl) <| RG.mo rfl <| RG.ifd (s := 10) rfl h (fun b0 h => ?_) (fun b0 h => ?_)
 refine RG.fg 1 rfl <| RG.ga (FV.l1 rfl ((hS8.memA (.tl .hd)) 1 _ rfl)) <| RG.fg 1 rfl <| RG.ga (FV.l1 rfl ((hS8.memA .hd) 1 _ rfl)) ?_
 obtain ⟨t0, j0, h⟩ := bind_in h
 refine RG.callq' (v := .bool t0) (fst := []) (cap := []) (.yes rfl rfl) body28 rfl (e2 rfl rfl) (fun w9 hw9 => slices_Equal_api_Plan_int_c n _ w9 (hS8.hL0 hL hw9) a0.fPlan (hS8.k0 h0_1 hw9) a1.fPlan (hS8.k0 h1_1 hw9) j0) rfl <| RG.pt rfl rfl <| RG.mo rfl <| RG.ifb (s := 17) rfl h (fun c0 h => ?_) (fun c0 h => ?_)
 refine RG.fg 2 rfl <| RG.ga (FV.l1 rfl ((hS8.memA (.tl .hd)) 2 _ rfl)) <| RG.fg 2 rfl <| RG.ga (FV.l1 rfl ((hS8.memA .hd) 2 _ rfl)) ?_
 obtain ⟨u0, p0, h⟩ := bind_in h
 refine RG.callq' (v := .bool u0) (fst := []) (cap := []) (.yes rfl rfl) body23 rfl (e2 rfl rfl) (fun w9 hw9 => slices_Equal_int_int_c n _ w9 (hS8.hL0 hL hw9) a0.fTotals (hS8.k0 h0_2 hw9) a1.fTotals (hS8.k0 h1_2 hw9) p0) rfl <| RG.pt rfl rfl <| RG.mo rfl <| RG.ifb (s := 24) rfl h (fun d0 h => ?_) (fun d0 h => ?_)
 refine RG.fg 3 rfl <| RG.ga (FV.l1 rfl ((hS8.memA (.tl .hd)) 3 _ rfl)) <| RG.fg 3 rfl <| RG.ga (FV.l1 rfl ((hS8.memA .hd) 3 _ rfl)) ?_
 obtain ⟨v0, q0, h⟩ := bind_in h
 refine RG.callq' (v := .bool v0) (fst := []) (cap := []) (.yes rfl rfl) body52 rfl (e2 rfl rfl) (fun w9 hw9 => slices_Equal_api_Move_api_Move_c n _ w9 (hS8.hL0 hL hw9) a0.fDone (hS8.k0 h0_3 hw9) a1.fDone (hS8.k0 h1_3 hw9) q0) rfl <| RG.pt rfl rfl <| RG.mo rfl <| RG.ifb (s := 31) rfl h (fun g0 h => ?_) (fun g0 h => ?_)
 refine RG.fg 4 rfl <| RG.ga (FV.l1 rfl ((hS8.memA (.tl .hd)) 4 _ rfl)) <| RG.fg 4 rfl <| RG.ga (FV.l1 rfl ((hS8.memA .hd) 4 _ rfl)) ?_
 obtain ⟨x0, s0, h⟩ := bind_in h
 refine RG.callq' (v := .bool x0) (fst := []) (cap := []) (.yes rfl rfl) body52 rfl (e2 rfl rfl) (fun w9 hw9 => slices_Equal_api_Move_api_Move_c n _ w9 (hS8.hL0 hL hw9) a0.fUndone (hS8.k0 h0_4 hw9) a1.fUndone (hS8.k0 h1_4 hw9) s0) rfl <| RG.pt rfl rfl <| RG.so rfl <| RG.nil <| MX.ret rfl <| RT.t1 hb0 Tryz.func18 rfl rfl ?_
 cases h
 exact hS8.gv
 refine RG.no <| RG.no <| RG.no <| RG.no <| RG.no <| RG.pf rfl rfl ?_
 refine RG.so rfl <| RG.nil <| MX.ret rfl <| RT.t1 hb0 Tryz.func18 rfl rfl ?_
 cases h
 exact hS8.gv
 refine RG.no <| RG.no <| RG.no <| RG.no <| RG.no <| RG.pf rfl rfl ?_
 refine RG.mo rfl <| RG.no <| RG.no <| RG.no <| RG.no <| RG.no ?_
 refine RG.pf rfl rfl <| RG.so rfl <| RG.nil <| MX.ret rfl <| RT.t1 hb0 Tryz.func18 rfl rfl ?_
 cases h
 exact hS8.gv
 refine RG.no <| RG.no <| RG.no <| RG.no <| RG.no <| RG.pf rfl rfl ?_
 refine RG.mo rfl <| RG.no <| RG.no <| RG.no <| RG.no <| RG.no ?_
 refine RG.pf rfl rfl <| RG.mo rfl <| RG.no <| RG.no <| RG.no <| RG.no ?_
 refine RG.no <| RG.pf rfl rfl <| RG.so rfl <| RG.nil <| MX.ret rfl <| RT.t1 hb0 Tryz.func18 rfl rfl ?_
 cases h
 exact hS8.gv
 refine RG.no <| RG.no <| RG.no <| RG.no <| RG.no <| RG.pf rfl rfl ?_
 refine RG.mo rfl <| RG.no <| RG.no <| RG.no <| RG.no <| RG.no ?_
 refine RG.pf rfl rfl <| RG.mo rfl <| RG.no <| RG.no <| RG.no <| RG.no ?_
 refine RG.no <| RG.pf rfl rfl <| RG.mo rfl <| RG.no <| RG.no <| RG.no ?_
 refine RG.no <| RG.no <| RG.pf rfl rfl <| RG.so rfl <| RG.nil <| MX.ret rfl ?_
 refine RT.t1 hb0 Tryz.func18 rfl rfl ?_
 cases h
 exact hS8.gv
def edit_Redo_p (n : Nat) (a0 : TGraph) (a1 : TRoll) (a2 : TSession) : Option (TSession × Int) :=
  (edit_Check_p n a0 a1 a2).bind fun k0 => (if k0 = 0 then (edit_last_api_Move_p n a2.fUndone).bind fun b0 => (if b0.2.2 = true then (if 200 ≤ a2.fDone.length then some ((⟨(0 : Int), ([] : List Int), ([] : List Int), ([] : List TMove), ([] : List TMove)⟩ : TSession), (3 : Int)) else (idx a2.fPlan b0.1.fUnit).bind fun v0 => (if v0 = b0.1.fFrom then (slices_Clone_api_Plan_int_p n a2.fPlan).bind fun p0 => (idx p0 b0.1.fUnit).bind fun A0 => (put p0 ((b0.1.fUnit.toNat : Nat) : Int) b0.1.fTo).bind fun d0 => (slices_Contains_api_Plan_int_p n d0 b0.1.fFrom).bind fun y0 => (if y0 = true then (slices_Clone_int_int_p n a2.fTotals).bind fun j0 => (idx j0 b0.1.fFrom).bind fun t0 => (idx a1.fUnits b0.1.fUnit).bind fun c0 => (chk (t0 - c0.fPeople)).bind fun q0 => (put j0 ((b0.1.fFrom.toNat : Nat) : Int) q0).bind fun g0 => (idx g0 b0.1.fTo).bind fun u0 => (chk (u0 + c0.fPeople)).bind fun s0 => (put g0 ((b0.1.fTo.toNat : Nat) : Int) s0).bind fun x0 => (edit_more_api_Move_p n a2.fDone b0.1).bind fun z0 => some ((⟨a2.fK, d0, x0, z0, b0.2.1⟩ : TSession), (0 : Int)) else some ((⟨(0 : Int), ([] : List Int), ([] : List Int), ([] : List TMove), ([] : List TMove)⟩ : TSession), (260 : Int))) else some ((⟨(0 : Int), ([] : List Int), ([] : List Int), ([] : List TMove), ([] : List TMove)⟩ : TSession), (260 : Int)))) else some ((⟨(0 : Int), ([] : List Int), ([] : List Int), ([] : List TMove), ([] : List TMove)⟩ : TSession), (4 : Int))) else some ((⟨(0 : Int), ([] : List Int), ([] : List Int), ([] : List TMove), ([] : List TMove)⟩ : TSession), k0))
theorem edit_Redo_c (n : Nat) (L : List Nat) (w : World) (hL : ∀ b ∈ L, b < w.heap.size) (a0 : TGraph) {v0_1 : Value} (h0_1 : Rep.R w L [v0_1] a0.fEdges) (a1 : TRoll) {v1_3 : Value} (h1_3 : Rep.R w L [v1_3] a1.fUnits) (a2 : TSession) {v2_1 : Value} (h2_1 : Rep.R w L [v2_1] a2.fPlan) {v2_2 : Value} (h2_2 : Rep.R w L [v2_2] a2.fTotals) {v2_3 : Value} (h2_3 : Rep.R w L [v2_3] a2.fDone) {v2_4 : Value} (h2_4 : Rep.R w L [v2_4] a2.fUndone)  {r : TSession × Int} (h : edit_Redo_p n a0 a1 a2 = some r) :
    Calls Tryz.prog 20 #[.agg #[vI a0.fN, v0_1], .agg #[vI a1.fGroups, vI a1.fParties, vI a1.fLevels, v1_3], .agg #[vI a2.fK, v2_1, v2_2, v2_3, v2_4]] w (Gives w fun w' u => ∃ v0_1 v0_2 v0_3 v0_4 : Value, u = .tuple #[.agg #[vI r.1.fK, v0_1, v0_2, v0_3, v0_4], vI r.2] ∧ Rep.R w' L [v0_1] r.1.fPlan ∧ Rep.R w' L [v0_2] r.1.fTotals ∧ Rep.R w' L [v0_3] r.1.fDone ∧ Rep.R w' L [v0_4] r.1.fUndone) := by
 unfold edit_Redo_p at h
 have hS0 := St.start w
 refine MX.start Tryz.func20 rfl rfl rfl (fun _ cs0 hb0 => ?_)
 refine MX.sr <| RG.new .plain rfl (Does.box hS0 rfl rfl) (fun w2 b5 hS3 hT4 => ?_)
 refine RG.new .plain rfl (Does.box hS3 rfl rfl) (fun w7 J5 hS8 hT9 => ?_)
 refine RG.new .plain rfl (Does.box hS8 rfl rfl) (fun v7 K5 d3 z6 => ?_)
 refine RG.new .plain rfl (Does.al [vI 0, vN, vN, vN, vN] d3) (fun A7 M5 d0 A6 => ?_)
 refine RG.so rfl <| RG.nil <| MX.seq <| MX.sr <| RG.va (FV.lN rfl (d0.memA (.tl (.tl (.tl .hd))))) <| RG.va (FV.lN rfl (d0.memA (.tl (.tl .hd)))) ?_
 refine RG.va (FV.lN rfl (d0.memA (.tl .hd))) ?_
 obtain ⟨F2, s5, h⟩ := bind_in h
 refine RG.cq (vI F2) body16 rfl (e3 rfl rfl rfl) (fun w9 hw9 => edit_Check_c n _ w9 (d0.hL0 hL hw9) a0 (d0.k0 h0_1 hw9) a1 (d0.k0 h1_3 hw9) a2 (d0.k0 h2_1 hw9) (d0.k0 h2_2 hw9) (d0.k0 h2_3 hw9) (d0.k0 h2_4 hw9) s5) rfl <| RG.so rfl <| RG.nil <| MX.sr <| RG.mo rfl <| RG.va (FV.neq (i := F2) (j := 0) rfl rfl) ?_
 refine RG.nil <| MX.ifn rfl h (fun Q2 h => ?_) (fun Q2 h => ?_)
 refine MX.skip <| MX.sr <| RG.va (FV.lN rfl (d0.memA (.tl .hd))) ?_
 have Y3 := Rep.mv0 h2_1 d0
 obtain ⟨E5, d6, K4, _⟩ := Rep.sl Y3
 have g4 := Rep.mv0 h2_2 d0
 obtain ⟨F5, g6, M4, _⟩ := Rep.sl g4
 have j4 := Rep.mv0 h2_3 d0
 obtain ⟨G5, j6, P4, _⟩ := Rep.sl j4
 have k4 := Rep.mv0 h2_4 d0
 obtain ⟨H5, k6, Q4, _⟩ := Rep.sl k4
 refine RG.va (FV.buildV (vs := [.agg #[vI a2.fK, v2_1, v2_2, v2_3, v2_4]]) (u := .agg #[vI a2.fK, v2_1, v2_2, v2_3, v2_4]) (e1 rfl) (fun w9 => by rw [K4, M4, P4, Q4]; try kernel_rfl)) <| RG.new .plain rfl (Does.box d0 rfl rfl) (fun P7 z1 U0 F6 => ?_)
 refine RG.so rfl <| RG.nil <| MX.sr <| RG.fa 4 rfl <| RG.l1 rfl ((U0.memA (.tl (.tl .hd))) 4 _ rfl) ?_
 obtain ⟨c0, u5, h⟩ := bind_in h
 refine RG.call' (fst := []) (cap := []) .plain body51 rfl (e1 rfl) (fun w9 hw9 => edit_last_api_Move_c n _ w9 (U0.hL hL hw9) a2.fUndone (U0.km h2_4 hw9) u5) rfl (fun Q7 u7 t3 ⟨M0, hu_, y1⟩ => ?_)
 subst hu_
 obtain ⟨k3, G6⟩ := U0.agr t3
 refine RG.mo rfl <| RG.va (FV.extract rfl rfl) <| RG.va (FV.extract rfl rfl) <| RG.va (FV.extract rfl rfl) <| RG.new .plain rfl (Does.al [vI 0, vI 0, vI 0] k3) (fun R7 P5 p3 E1 => ?_)
 refine RG.sa [vI c0.1.fUnit, vI c0.1.fFrom, vI c0.1.fTo] p3 .hd (onesB rfl) (fun U7 E0 F1 => ?_)
 refine RG.so rfl <| RG.so rfl <| RG.nil <| MX.seq <| MX.block <| MX.sr ?_
 refine RG.mo rfl <| RG.va (FV.not rfl) <| RG.so rfl <| RG.nil <| MX.ifnb rfl h (fun R2 h => ?_) (fun R2 h => ?_)
 refine MX.sr <| RG.fa 3 rfl <| RG.va (FV.l1 rfl ((E0.memA (.tl (.tl (.tl .hd)))) 3 _ rfl)) ?_
 have Z1 := Rep.mv0 h2_3 E0
 have K6 : a2.fDone.length ≤ 281474976710656 := Rep.lenle Z1
 refine RG.va (FV.len (xs := a2.fDone) Tryz.underlying46 rfl Z1) <| RG.va (FV.geqN (i := a2.fDone.length) (j := 200) rfl rfl) <| RG.so rfl <| RG.nil <| MX.ifd rfl h (fun U2 h => ?_) (fun U2 h => ?_)
 refine MX.sr <| RG.va (FV.buildV (vs := []) (u := .agg #[vI 0, vN, vN, vN, vN]) evs_nil (fun w9 => by kernel_rfl)) <| RG.sa [vI 0, vN, vN, vN, vN] E0 (.tl (.tl .hd)) (onesB rfl) (fun V7 B0 H6 => ?_)
 refine RG.so rfl <| RG.nil <| MX.ret rfl ?_
 have u2 := Rep.nilAt (α := Int) B0 L
 have v2 := Rep.nilAt (α := TMove) B0 L
 refine RT.leave hb0 Tryz.func20 rfl (.cons (.many (cs := [vI 0, vN, vN, vN, vN]) (by kernel_rfl) rfl (B0.memA (.tl (.tl .hd)))) (.cons (.tmp rfl) .nil)) rfl ?_
 cases h
 exact ⟨B0.ag, fun w9 hw9 => ⟨vN, vN, vN, vN, rfl, B0.kd u2 hw9, B0.kd u2 hw9, B0.kd v2 hw9, B0.kd v2 hw9⟩⟩
 refine MX.sr <| RG.mo rfl <| RG.va (FV.lN rfl (E0.memA (.tl (.tl (.tl (.tl .hd)))))) <| RG.va (FV.lN rfl (E0.memA .hd)) <| RG.enterP (fst := []) (cap := []) (vs := [vP z1, .agg #[vI a1.fGroups, vI a1.fParties, vI a1.fLevels, v1_3], .agg #[vI c0.1.fUnit, vI c0.1.fFrom, vI c0.1.fTo]]) .plain body41 Tryz.func41 rfl rfl rfl rfl (e3 rfl rfl rfl) rfl (fun x6 s1 P6 => ?_)
 refine MX.sr <| RG.new .plain rfl (Does.box E0 rfl rfl) (fun W7 Q5 q3 G1 => ?_)
 refine RG.new .plain rfl (Does.box q3 rfl rfl) (fun X7 R5 s0 H1 => ?_)
 refine RG.so rfl <| RG.nil <| MX.seq <| MX.sr <| RG.mo rfl <| RG.fa 0 rfl ?_
 refine RG.l1 rfl ((s0.memA .hd) 0 _ rfl) <| RG.fa 1 rfl <| RG.l1 rfl ((s0.memA .hd) 1 _ rfl) <| RG.fa 2 rfl <| RG.l1 rfl ((s0.memA .hd) 2 _ rfl) <| RG.enterP (fst := []) (cap := []) (vs := [vP z1, vI c0.1.fUnit, vI c0.1.fFrom, vI c0.1.fTo]) .plain body71 Tryz.func71 rfl rfl rfl rfl (e4 rfl rfl rfl rfl) rfl (fun y6 t1 Q6 => ?_)
 refine MX.sr <| RG.so rfl <| RG.nil <| MX.seq <| MX.sr <| RG.mo rfl ?_
 refine RG.va (FV.nilCheck rfl) <| RG.fa 0 rfl <| RG.fa 1 rfl <| RG.va (FV.l1 rfl ((mem_from (s0.memA (.tl (.tl (.tl .hd)))) 0) 1 _ rfl)) <| RG.mo rfl ?_
 obtain ⟨D2, c5, h⟩ := bind_in h
 obtain ⟨G3, d5⟩ := idx_in c5
 have q4 := Rep.mv0 h2_1 s0
 obtain ⟨I5, p6, D3, J3, c3, F4, p4⟩ := Rep.nth q4 d5
 have E3 : c3 = [vI D2] := F4; subst E3
 refine RG.va (FV.ia 1 (c0.1.fUnit.toNat) rfl D3 rfl G3 J3) <| RG.l1 rfl (p4 0 _ rfl) <| RG.mo rfl <| RG.va (FV.neq (i := D2) (j := c0.1.fFrom) rfl rfl) <| RG.nil <| MX.ifn rfl h (fun V2 h => ?_) (fun V2 h => ?_)
 refine MX.skip <| MX.sr <| RG.mo rfl <| RG.va (FV.nilCheck rfl) <| RG.fa 0 rfl <| RG.fa 1 rfl ?_
 refine RG.va (FV.l1 rfl ((mem_from (s0.memA (.tl (.tl (.tl .hd)))) 0) 1 _ rfl)) ?_
 obtain ⟨B5, v5, h⟩ := bind_in h
 refine RG.call' (fst := []) (cap := []) .plain body91 rfl (e1 rfl) (fun w9 hw9 => own_gives (b0 := w.heap.size) (slices_Clone_api_Plan_int_c n _ w9 (s0.hL hL hw9) a2.fPlan (s0.km h2_1 hw9) v5) hw9 (Nat.le_trans s0.ag.size hw9.size)) rfl (fun Y7 t0 I6 ⟨c7, W2, I4, y2, u3⟩ => ?_)
 subst I4
 have P0 := own_push s0 y2
 have A1 := own_tr s0 y2
 have I1 := Cells.at_ (cs := W2) (xs := (B5 : List Int)) P0 L (own_cells u3)
 refine RG.so rfl <| RG.nil <| MX.sr <| RG.mo rfl <| RG.mo rfl <| RG.mo rfl ?_
 obtain ⟨x5, R4, h⟩ := bind_in h
 obtain ⟨F3, U4⟩ := idx_in R4
 obtain ⟨G2, U5, u1, X1, X2, v4, M6⟩ := St.nth (α := Int) P0 .hd I1 U4
 obtain ⟨J2, V5, P1⟩ := St.nthOwn (α := Int) P0 .hd X1
 obtain rfl : G2 = ⟨J2, 0, none⟩ := by rw [P1] at u1; cases u1; rfl
 have y3 : X2 = [vI x5] := v4; subst y3
 refine RG.va (FV.ia 1 (c0.1.fUnit.toNat) rfl u1 rfl F3 X1) ?_
 obtain ⟨E2, g5, h⟩ := bind_in h
 refine RG.acts' .plain (Acts.set (α := Int) (i := c0.1.fUnit.toNat) g5 P0 P1 (fun _ => .hd) I1 rfl rfl rfl rfl rfl (by kernel_rfl)) (fun x7 ⟨q6, G0, B1, J1⟩ => ?_)
 refine RG.nil <| MX.seq <| MX.sr <| RG.mo rfl <| RG.mo rfl ?_
 obtain ⟨z5, p5, h⟩ := bind_in h
 refine RG.cq (.bool z5) body92 rfl (e2 rfl rfl) (fun w9 hw9 => slices_Contains_api_Plan_int_c n _ w9 (G0.hL0 hL hw9) E2 (Rep.keep0 (St.lend (α := Int) (L := L) G0 .hd J1 hL) hw9) c0.1.fFrom p5) rfl <| RG.va (FV.not rfl) <| RG.nil <| MX.ifnb rfl h (fun P2 h => ?_) (fun P2 h => ?_)
 refine MX.skip <| MX.sr <| RG.mo rfl <| RG.mo rfl <| RG.va (FV.nilCheck rfl) <| RG.fa 0 rfl ?_
 refine RG.fa 1 rfl <| RG.now .plain (Acts.store (j := 1) (old := [vI a2.fK, v2_1, v2_2, v2_3, v2_4]) (news := [t0]) (new' := [vI a2.fK, t0, v2_2, v2_3, v2_4]) G0 (.tl (.tl (.tl (.tl .hd)))) rfl rfl rfl (St.c1 (α := Int) G0 .hd) rfl rfl (o1 (St.o1 (α := Int) G0 .hd)) rfl) (fun y7 H0 g1 => ?_)
 refine RG.nil <| MX.sr <| RG.so rfl <| RG.nil <| MX.ret rfl <| RT.leave (u := .bool true) t1 Tryz.func71 rfl (.cons (.tmp rfl) .nil) rfl ?_
 refine RG.va (FV.not rfl) <| RG.nil <| MX.cond_f rfl <| MX.skip <| MX.sr <| RG.mo rfl ?_
 refine RG.va (FV.nilCheck rfl) <| RG.fa 0 rfl <| RG.fa 2 rfl <| RG.va (FV.l1 rfl ((mem_from (H0.memA (.tl (.tl (.tl (.tl .hd))))) 0) 2 _ rfl)) ?_
 obtain ⟨A5, q5, h⟩ := bind_in h
 refine RG.call' (fst := []) (cap := []) .plain body22 rfl (e1 rfl) (fun w9 hw9 => own_gives (b0 := w.heap.size) (slices_Clone_int_int_c n _ w9 (H0.hL hL hw9) a2.fTotals (H0.km h2_2 hw9) q5) hw9 (Nat.le_trans H0.ag.size hw9.size)) rfl (fun z7 u0 J6 ⟨d7, Y2, J4, z2, v3⟩ => ?_)
 subst J4
 have v0 := own_push H0 z2
 have j1 := own_tr H0 z2
 have K1 := Cells.at_ (cs := Y2) (xs := (A5 : List Int)) v0 L (own_cells v3)
 refine RG.so rfl <| RG.nil <| MX.seq <| MX.drawT 14 tb41_4 (by kernel_rfl) (by kernel_rfl) (by kernel_rfl) (fun g0 p0 => ?_)
 refine RD.vw 0 1 g0 rfl p0 (fun _ => FV.move rfl) rfl <| RD.vw 1 3 g0 rfl p0 (fun _ => FV.fa 1 rfl) rfl <| RD.vx 2 7 28696 g0 rfl p0 (FV.l1 rfl ((v0.memA (.tl (.tl .hd))) 1 _ rfl)) rfl ?_
 obtain ⟨A2, V4, h⟩ := bind_in h
 obtain ⟨U1, W4⟩ := idx_in V4
 obtain ⟨H2, W5, X0, v1, Z2, x4, K3⟩ := St.nth (α := Int) v0 .hd K1 W4
 obtain ⟨K2, X5, Q1⟩ := St.nthOwn (α := Int) v0 .hd v1
 obtain rfl : H2 = ⟨K2, 0, none⟩ := by rw [Q1] at X0; cases X0; rfl
 have z3 : Z2 = [vI A2] := x4; subst z3
 refine RD.vw 3 15 g0 rfl p0 (fun _ => FV.ia 1 (c0.1.fFrom.toNat) rfl X0 rfl U1 v1) rfl <| RD.vx 4 31 28672 g0 rfl p0 (FV.l1 rfl (K3 0 _ rfl)) rfl <| RD.vw 5 63 g0 rfl p0 (fun _ => FV.fa 3 rfl) rfl <| RD.vx 6 127 32256 g0 rfl p0 (FV.l1 rfl ((v0.memA (.tl (.tl (.tl .hd)))) 3 _ rfl)) rfl <| RD.vw 7 255 g0 rfl p0 (fun _ => FV.fa 0 rfl) rfl <| RD.vx 8 511 32256 g0 rfl p0 (FV.l1 rfl ((v0.memA (.tl (.tl .hd))) 0 _ rfl)) rfl ?_
 obtain ⟨B2, X4, h⟩ := bind_in h
 obtain ⟨V1, x2⟩ := idx_in X4
 have P3 := Rep.mv0 h1_3 v0
 obtain ⟨C5, Y5, A3, H3, s6, y4, M3⟩ := Rep.nth P3 x2
 obtain ⟨g7, j7, k7, rfl, R6, U6, V6⟩ := op_TUnit y4
 refine RD.vw 9 1023 g0 rfl p0 (fun _ => FV.ia 6 (c0.1.fUnit.toNat) rfl A3 rfl V1 H3) rfl <| RD.vw 10 2047 g0 rfl p0 (fun _ => FV.fa 1 rfl) rfl <| RD.vx 11 4095 28672 g0 rfl p0 (FV.l1 rfl (M3 1 _ rfl)) rfl ?_
 obtain ⟨Z6, G4, h⟩ := bind_in h
 refine RD.vw 12 8191 g0 rfl p0 (fun _ => FV.subc (i := A2) (j := B2.fPeople) rfl rfl G4) rfl <| RD.vw 13 16383 g0 rfl p0 (fun _ => FV.ia 1 (c0.1.fFrom.toNat) rfl X0 rfl U1 v1) rfl ?_
 obtain ⟨Z7, j5, h⟩ := bind_in h
 refine RD.one (i := 14) (readyD_ok g0 (by kernel_rfl)) (RO.acts (m' := 32767) (stepC_ok g0 (by kernel_rfl)) rfl rfl .plain (Acts.set (α := Int) (i := c0.1.fFrom.toNat) j5 v0 Q1 (fun _ => .hd) K1 rfl rfl rfl rfl rfl (by kernel_rfl)) (fun B7 ⟨t6, C0, k1, M1⟩ => ?_))
 refine RD.done (doneD_ok g0 (by kernel_rfl)) <| MX.seq <| MX.drawT 14 tb41_5 (by kernel_rfl) (by kernel_rfl) (by kernel_rfl) (fun j0 q0 => ?_)
 refine RD.vw 0 1 j0 rfl q0 (fun _ => FV.move rfl) rfl <| RD.vw 1 3 j0 rfl q0 (fun _ => FV.fa 2 rfl) rfl <| RD.vx 2 7 28696 j0 rfl q0 (FV.l1 rfl ((C0.memA (.tl (.tl .hd))) 2 _ rfl)) rfl ?_
 obtain ⟨C2, Y4, h⟩ := bind_in h
 obtain ⟨W1, Z4⟩ := idx_in Y4
 obtain ⟨I2, Z5, Y0, x1, b3, z4, Q3⟩ := St.nth (α := Int) C0 .hd M1 Z4
 obtain ⟨M2, b6, R1⟩ := St.nthOwn (α := Int) C0 .hd x1
 obtain rfl : I2 = ⟨M2, 0, none⟩ := by rw [R1] at Y0; cases Y0; rfl
 have B3 : b3 = [vI C2] := z4; subst B3
 refine RD.vw 3 15 j0 rfl q0 (fun _ => FV.ia 1 (c0.1.fTo.toNat) rfl Y0 rfl W1 x1) rfl <| RD.vx 4 31 28672 j0 rfl q0 (FV.l1 rfl (Q3 0 _ rfl)) rfl <| RD.vw 5 63 j0 rfl q0 (fun _ => FV.fa 3 rfl) rfl <| RD.vx 6 127 32256 j0 rfl q0 (FV.l1 rfl ((C0.memA (.tl (.tl (.tl .hd)))) 3 _ rfl)) rfl <| RD.vw 7 255 j0 rfl q0 (fun _ => FV.fa 0 rfl) rfl <| RD.vx 8 511 32256 j0 rfl q0 (FV.l1 rfl ((C0.memA (.tl (.tl .hd))) 0 _ rfl)) rfl ?_
 have U3 := Rep.mv0 h1_3 C0
 obtain ⟨D5, c6, C3, I3, u6, A4, R3⟩ := Rep.nth U3 x2
 obtain ⟨p7, q7, s7, rfl, W6, X6, Y6⟩ := op_TUnit A4
 refine RD.vw 9 1023 j0 rfl q0 (fun _ => FV.ia 6 (c0.1.fUnit.toNat) rfl C3 rfl V1 I3) rfl <| RD.vw 10 2047 j0 rfl q0 (fun _ => FV.fa 1 rfl) rfl <| RD.vx 11 4095 28672 j0 rfl q0 (FV.l1 rfl (R3 1 _ rfl)) rfl ?_
 obtain ⟨b7, H4, h⟩ := bind_in h
 refine RD.vw 12 8191 j0 rfl q0 (fun _ => FV.addc (i := C2) (j := B2.fPeople) rfl rfl H4) rfl <| RD.vw 13 16383 j0 rfl q0 (fun _ => FV.ia 1 (c0.1.fTo.toNat) rfl Y0 rfl W1 x1) rfl ?_
 obtain ⟨y5, k5, h⟩ := bind_in h
 refine RD.one (i := 14) (readyD_ok j0 (by kernel_rfl)) (RO.acts (m' := 32767) (stepC_ok j0 (by kernel_rfl)) rfl rfl .plain (Acts.set (α := Int) (i := c0.1.fTo.toNat) k5 C0 R1 (fun _ => .hd) M1 rfl rfl rfl rfl rfl (by kernel_rfl)) (fun C7 ⟨v6, b1, p1, x3⟩ => ?_))
 refine RD.done (doneD_ok j0 (by kernel_rfl)) <| MX.sr <| RG.mo rfl <| RG.mo rfl <| RG.va (FV.nilCheck rfl) <| RG.fa 0 rfl ?_
 refine RG.fa 2 rfl <| RG.now .plain (Acts.store (j := 2) (old := [vI a2.fK, t0, v2_2, v2_3, v2_4]) (news := [u0]) (new' := [vI a2.fK, t0, u0, v2_3, v2_4]) b1 (.tl (.tl (.tl (.tl (.tl .hd))))) rfl rfl rfl (St.c1 (α := Int) b1 .hd) rfl rfl (o1 (St.o1 (α := Int) b1 .hd)) rfl) (fun D7 I0 V0 => ?_)
 refine RG.nil <| MX.sr <| RG.so rfl <| RG.nil <| MX.ret rfl <| RT.leave (u := .bool true) s1 Tryz.func41 rfl (.cons (.tmp rfl) .nil) rfl ?_
 refine RG.va (FV.not rfl) <| RG.so rfl <| RG.nil <| MX.cond_f rfl <| MX.skip <| MX.inBlock ?_
 refine MX.sr <| RG.mo rfl <| RG.mo rfl <| RG.fa 3 rfl <| RG.va (FV.l1 rfl ((I0.memA (.tl (.tl (.tl (.tl (.tl (.tl (.tl .hd)))))))) 3 _ rfl)) <| RG.va (FV.lN rfl (I0.memA (.tl (.tl (.tl (.tl .hd)))))) ?_
 obtain ⟨b8, t5, h⟩ := bind_in h
 refine RG.call' (fst := []) (cap := []) .plain body42 rfl (e2 rfl rfl) (fun w9 hw9 => edit_more_api_Move_c n _ w9 (I0.hL hL hw9) a2.fDone (I0.km h2_3 hw9) c0.1 t5) rfl (fun E7 F0 s3 ⟨t7, hu_, Z0⟩ => ?_)
 subst hu_
 obtain ⟨g3, W0⟩ := I0.agr s3
 refine RG.mo rfl <| RG.va (FV.nilCheck rfl) <| RG.fa 0 rfl <| RG.fa 3 rfl <| RG.now .plain (Acts.store (j := 3) (old := [vI a2.fK, t0, u0, v2_3, v2_4]) (news := [F0]) (new' := [vI a2.fK, t0, u0, F0, v2_4]) g3 (.tl (.tl (.tl (.tl (.tl .hd))))) rfl rfl rfl (Rep.c1 Z0) rfl rfl (o1 (Rep.o1 Z0)) rfl) (fun F7 j3 J0 => ?_)
 refine RG.va (FV.nilCheck rfl) <| RG.fa 0 rfl <| RG.fa 4 rfl ?_
 have b2 := Tr.trans E1 (Tr.trans F1 (Tr.trans G1 (Tr.trans H1 (Tr.trans A1 (Tr.trans B1 (Tr.trans g1 (Tr.trans j1 (Tr.trans k1 (Tr.trans p1 (Tr.trans V0 (Tr.trans W0 J0)))))))))))
 have Y1 := Rep.mv y1 b2
 refine RG.now .plain (Acts.store (j := 4) (old := [vI a2.fK, t0, u0, F0, v2_4]) (news := [M0]) (new' := [vI a2.fK, t0, u0, F0, M0]) j3 (.tl (.tl (.tl (.tl (.tl .hd))))) rfl rfl rfl (Rep.c1 Y1) rfl rfl (o1 (Rep.o1 Y1)) rfl) (fun G7 Q0 K0 => ?_)
 refine RG.nil <| MX.sr <| RG.mo rfl <| RG.va (FV.nilCheck rfl) <| RG.fa 0 rfl <| RG.va (FV.lN rfl (mem_from (Q0.memA (.tl (.tl (.tl (.tl (.tl .hd)))))) 0)) ?_
 have V3 := Rep.mv Z0 (Tr.trans J0 K0)
 have W3 := Rep.mv y1 (Tr.trans b2 K0)
 refine RG.sa [vI a2.fK, t0, u0, F0, M0] Q0 (.tl (.tl (.tl (.tl (.tl (.tl .hd)))))) (o5 rfl (St.o1 (α := Int) Q0 (.tl .hd)) (St.o1 (α := Int) Q0 .hd) (Rep.o1 V3) (Rep.o1 W3)) (fun H7 d1 q1 => ?_)
 refine RG.so rfl <| RG.nil <| MX.ret rfl ?_
 have s4 := Tr.trans g1 (Tr.trans j1 (Tr.trans k1 (Tr.trans p1 (Tr.trans V0 (Tr.trans W0 (Tr.trans J0 (Tr.trans K0 q1)))))))
 have X3 := Cells.mv J1 s4
 have B4 := St.freeze (α := Int) d1 (.tl .hd) X3 hL
 have R0 := St.delS d1 (.tl .hd)
 have C1 := St.delT d1 (.tl .hd)
 have C4 := Rep.at_ (α := Int) (v := t0) (xs := E2) R0 L B4
 have t4 := Tr.trans V0 (Tr.trans W0 (Tr.trans J0 (Tr.trans K0 (Tr.trans q1 C1))))
 have Z3 := Cells.mv x3 t4
 have D4 := St.freeze (α := Int) R0 .hd Z3 hL
 have D0 := St.delS R0 .hd
 have D1 := St.delT R0 .hd
 have E4 := Rep.at_ (α := Int) (v := u0) (xs := y5) D0 L D4
 refine RT.leave hb0 Tryz.func20 rfl (.cons (.many (cs := [vI a2.fK, t0, u0, F0, M0]) (by kernel_rfl) rfl (D0.memA (.tl (.tl (.tl (.tl .hd)))))) (.cons (.tmp rfl) .nil)) rfl ?_
 cases h
 have b4 := Rep.mv C4 D1
 have c2 := Tr.trans J0 (Tr.trans K0 (Tr.trans q1 (Tr.trans C1 D1)))
 have c4 := Rep.mv Z0 c2
 have u4 := Tr.trans E1 (Tr.trans F1 (Tr.trans G1 (Tr.trans H1 (Tr.trans A1 (Tr.trans B1 (Tr.trans g1 (Tr.trans j1 (Tr.trans k1 (Tr.trans p1 (Tr.trans V0 (Tr.trans W0 c2)))))))))))
 have d4 := Rep.mv y1 u4
 exact ⟨D0.ag, fun w9 hw9 => ⟨t0, u0, F0, M0, rfl, D0.kd b4 hw9, D0.kd E4 hw9, D0.kd c4 hw9, D0.kd d4 hw9⟩⟩
 refine MX.sr <| RG.so rfl <| RG.nil <| MX.ret rfl <| RT.leave (u := .bool false) t1 Tryz.func71 rfl (.cons (.tmp rfl) .nil) rfl <| RG.va (FV.not rfl) ?_
 refine RG.nil <| MX.cond_t rfl <| MX.sr <| RG.so rfl <| RG.nil <| MX.ret rfl ?_
 refine RT.leave (u := .bool false) s1 Tryz.func41 rfl (.cons (.tmp rfl) .nil) rfl <| RG.va (FV.not rfl) <| RG.so rfl <| RG.nil <| MX.cond_t rfl <| MX.sr ?_
 refine RG.va (FV.buildV (vs := []) (u := .agg #[vI 0, vN, vN, vN, vN]) evs_nil (fun w9 => by kernel_rfl)) <| RG.sa [vI 0, vN, vN, vN, vN] G0 (.tl (.tl (.tl (.tl (.tl .hd))))) (onesB rfl) (fun I7 x0 B6 => ?_)
 refine RG.so rfl <| RG.nil <| MX.ret rfl ?_
 have d2 := Rep.nilAt (α := Int) x0 L
 have g2 := Rep.nilAt (α := TMove) x0 L
 refine RT.leave hb0 Tryz.func20 rfl (.cons (.many (cs := [vI 0, vN, vN, vN, vN]) (by kernel_rfl) rfl (x0.memA (.tl (.tl (.tl (.tl (.tl .hd))))))) (.cons (.tmp rfl) .nil)) rfl ?_
 cases h
 exact ⟨x0.ag, fun w9 hw9 => ⟨vN, vN, vN, vN, rfl, x0.kd d2 hw9, x0.kd d2 hw9, x0.kd g2 hw9, x0.kd g2 hw9⟩⟩
 refine MX.sr <| RG.so rfl <| RG.nil <| MX.ret rfl <| RT.leave (u := .bool false) t1 Tryz.func71 rfl (.cons (.tmp rfl) .nil) rfl <| RG.va (FV.not rfl) ?_
 refine RG.nil <| MX.cond_t rfl <| MX.sr <| RG.so rfl <| RG.nil <| MX.ret rfl ?_
 refine RT.leave (u := .bool false) s1 Tryz.func41 rfl (.cons (.tmp rfl) .nil) rfl <| RG.va (FV.not rfl) <| RG.so rfl <| RG.nil <| MX.cond_t rfl <| MX.sr ?_
 refine RG.va (FV.buildV (vs := []) (u := .agg #[vI 0, vN, vN, vN, vN]) evs_nil (fun w9 => by kernel_rfl)) <| RG.sa [vI 0, vN, vN, vN, vN] s0 (.tl (.tl (.tl (.tl .hd)))) (onesB rfl) (fun J7 y0 C6 => ?_)
 refine RG.so rfl <| RG.nil <| MX.ret rfl ?_
 have j2 := Rep.nilAt (α := Int) y0 L
 have k2 := Rep.nilAt (α := TMove) y0 L
 refine RT.leave hb0 Tryz.func20 rfl (.cons (.many (cs := [vI 0, vN, vN, vN, vN]) (by kernel_rfl) rfl (y0.memA (.tl (.tl (.tl (.tl .hd)))))) (.cons (.tmp rfl) .nil)) rfl ?_
 cases h
 exact ⟨y0.ag, fun w9 hw9 => ⟨vN, vN, vN, vN, rfl, y0.kd j2 hw9, y0.kd j2 hw9, y0.kd k2 hw9, y0.kd k2 hw9⟩⟩
 refine MX.sr <| RG.va (FV.buildV (vs := []) (u := .agg #[vI 0, vN, vN, vN, vN]) evs_nil (fun w9 => by kernel_rfl)) <| RG.sa [vI 0, vN, vN, vN, vN] E0 (.tl (.tl .hd)) (onesB rfl) (fun K7 z0 D6 => ?_)
 refine RG.so rfl <| RG.nil <| MX.ret rfl ?_
 have p2 := Rep.nilAt (α := Int) z0 L
 have q2 := Rep.nilAt (α := TMove) z0 L
 refine RT.leave hb0 Tryz.func20 rfl (.cons (.many (cs := [vI 0, vN, vN, vN, vN]) (by kernel_rfl) rfl (z0.memA (.tl (.tl .hd)))) (.cons (.tmp rfl) .nil)) rfl ?_
 cases h
 exact ⟨z0.ag, fun w9 hw9 => ⟨vN, vN, vN, vN, rfl, z0.kd p2 hw9, z0.kd p2 hw9, z0.kd q2 hw9, z0.kd q2 hw9⟩⟩
 refine MX.sr <| RG.va (FV.buildV (vs := []) (u := .agg #[vI 0, vN, vN, vN, vN]) evs_nil (fun w9 => by kernel_rfl)) <| RG.mo rfl <| RG.sa [vI 0, vN, vN, vN, vN] d0 .hd (onesB rfl) (fun M7 A0 E6 => ?_)
 refine RG.so rfl <| RG.nil <| MX.ret rfl ?_
 have s2 := Rep.nilAt (α := Int) A0 L
 have t2 := Rep.nilAt (α := TMove) A0 L
 refine RT.leave hb0 Tryz.func20 rfl (.cons (.many (cs := [vI 0, vN, vN, vN, vN]) (by kernel_rfl) rfl (A0.memA .hd)) (.cons (.tmp rfl) .nil)) rfl ?_
 cases h
 exact ⟨A0.ag, fun w9 hw9 => ⟨vN, vN, vN, vN, rfl, A0.kd s2 hw9, A0.kd s2 hw9, A0.kd t2 hw9, A0.kd t2 hw9⟩⟩
end Go.Proofs.YtcijnmkodpfpgaaGreatDoor
