/- Functions of the program, and what they give: part 8. -/
import Derived.Test.YtcijnmkodpfpgaaGreatDoorWY7
namespace Go.Proofs.YtcijnmkodpfpgaaGreatDoor
open Go Go.RowKit
set_option maxRecDepth 4000
set_option maxHeartbeats 4000000

theorem body28 : bodyB Tryz.prog 28 = true := by kernel_rfl
theorem body52 : bodyB Tryz.prog 52 = true := by kernel_rfl
def edit_Same_p (n : Nat) (a0 : TSession) (a1 : TSession) : Option Bool :=
  (if a0.fK = a1.fK then (slices_Equal_api_Plan_int_p n a0.fPlan a1.fPlan).bind fun b0 => (if b0 = true then (slices_Equal_int_int_p n a0.fTotals a1.fTotals).bind fun c0 => (if c0 = true then (slices_Equal_api_Move_api_Move_p n a0.fDone a1.fDone).bind fun d0 => (if d0 = true then (slices_Equal_api_Move_api_Move_p n a0.fUndone a1.fUndone).bind fun g0 => some g0 else some false) else some false) else some false) else some false)
theorem edit_Same_c (n : Nat) (L : List Nat) (w : World) (hL : ∀ b ∈ L, b < w.heap.size) (a0 : TSession) {v0_1 : Value} (h0_1 : Rep.R w L [v0_1] a0.fPlan) {v0_2 : Value} (h0_2 : Rep.R w L [v0_2] a0.fTotals) {v0_3 : Value} (h0_3 : Rep.R w L [v0_3] a0.fDone) {v0_4 : Value} (h0_4 : Rep.R w L [v0_4] a0.fUndone) (a1 : TSession) {v1_1 : Value} (h1_1 : Rep.R w L [v1_1] a1.fPlan) {v1_2 : Value} (h1_2 : Rep.R w L [v1_2] a1.fTotals) {v1_3 : Value} (h1_3 : Rep.R w L [v1_3] a1.fDone) {v1_4 : Value} (h1_4 : Rep.R w L [v1_4] a1.fUndone)  {r : Bool} (h : edit_Same_p n a0 a1 = some r) :
    Calls Tryz.prog 18 #[.agg #[vI a0.fK, v0_1, v0_2, v0_3, v0_4], .agg #[vI a1.fK, v1_1, v1_2, v1_3, v1_4]] w (Gives w fun _ u => u = .bool r) := by
 unfold edit_Same_p at h
 have hS0 := St.start w
 refine MX.start Tryz.func18 rfl rfl rfl (fun _ cs0 hb0 => ?_)
 refine MX.sr <| RG.new .plain rfl (Does.box hS0 rfl rfl) (fun w2 b5 hS3 hT4 => ?_)
 refine RG.new .plain rfl (Does.box hS3 rfl rfl) (fun w7 y0 hS8 hT9 => ?_)
 refine RG.so rfl <| RG.nil <| MX.seq <| MX.region <| RG.fa 0 rfl <| RG.l1 rfl ((hS8.memA (.tl .hd)) 0 _ rfl) <| RG.fa 0 rfl <| RG.l1 rfl ((hS8.memA .hd) 0 _ rfl) <| RG.va (FV.eql (i := a0.fK) (j := a1.fK) rfl rfl) <| RG.mo rfl <| RG.ifd (s := 10) rfl h (fun b0 h => ?_) (fun b0 h => ?_)
 refine RG.fg 1 rfl <| RG.ga (FV.l1 rfl ((hS8.memA (.tl .hd)) 1 _ rfl)) <| RG.fg 1 rfl <| RG.ga (FV.l1 rfl ((hS8.memA .hd) 1 _ rfl)) ?_
 obtain ⟨t0, j0, h⟩ := bi h
 refine RG.callq' (v := .bool t0) (fst := []) (cap := []) (.yes rfl rfl) body28 rfl (e2 rfl rfl) (fun w9 hw9 => slices_Equal_api_Plan_int_c n _ w9 (hS8.hL0 hL hw9) a0.fPlan (hS8.k0 h0_1 hw9) a1.fPlan (hS8.k0 h1_1 hw9) j0) rfl <| RG.pt rfl rfl <| RG.mo rfl <| RG.ifb (s := 17) rfl h (fun c0 h => ?_) (fun c0 h => ?_)
 refine RG.fg 2 rfl <| RG.ga (FV.l1 rfl ((hS8.memA (.tl .hd)) 2 _ rfl)) <| RG.fg 2 rfl <| RG.ga (FV.l1 rfl ((hS8.memA .hd) 2 _ rfl)) ?_
 obtain ⟨u0, p0, h⟩ := bi h
 refine RG.callq' (v := .bool u0) (fst := []) (cap := []) (.yes rfl rfl) body23 rfl (e2 rfl rfl) (fun w9 hw9 => slices_Equal_int_int_c n _ w9 (hS8.hL0 hL hw9) a0.fTotals (hS8.k0 h0_2 hw9) a1.fTotals (hS8.k0 h1_2 hw9) p0) rfl <| RG.pt rfl rfl <| RG.mo rfl <| RG.ifb (s := 24) rfl h (fun d0 h => ?_) (fun d0 h => ?_)
 refine RG.fg 3 rfl <| RG.ga (FV.l1 rfl ((hS8.memA (.tl .hd)) 3 _ rfl)) <| RG.fg 3 rfl <| RG.ga (FV.l1 rfl ((hS8.memA .hd) 3 _ rfl)) ?_
 obtain ⟨v0, q0, h⟩ := bi h
 refine RG.callq' (v := .bool v0) (fst := []) (cap := []) (.yes rfl rfl) body52 rfl (e2 rfl rfl) (fun w9 hw9 => slices_Equal_api_Move_api_Move_c n _ w9 (hS8.hL0 hL hw9) a0.fDone (hS8.k0 h0_3 hw9) a1.fDone (hS8.k0 h1_3 hw9) q0) rfl <| RG.pt rfl rfl <| RG.mo rfl <| RG.ifb (s := 31) rfl h (fun g0 h => ?_) (fun g0 h => ?_)
 refine RG.fg 4 rfl <| RG.ga (FV.l1 rfl ((hS8.memA (.tl .hd)) 4 _ rfl)) <| RG.fg 4 rfl <| RG.ga (FV.l1 rfl ((hS8.memA .hd) 4 _ rfl)) ?_
 obtain ⟨x0, s0, h⟩ := bi h
 refine RG.callq' (v := .bool x0) (fst := []) (cap := []) (.yes rfl rfl) body52 rfl (e2 rfl rfl) (fun w9 hw9 => slices_Equal_api_Move_api_Move_c n _ w9 (hS8.hL0 hL hw9) a0.fUndone (hS8.k0 h0_4 hw9) a1.fUndone (hS8.k0 h1_4 hw9) s0) rfl <| RG.pt rfl rfl <| RG.so rfl <| RG.nil <| MX.ret rfl <| RT.t1 hb0 Tryz.func18 rfl rfl ?_
 cases h
 exact hS8.gv
 refine RG.no <| RG.no <| RG.no <| RG.no <| RG.no <| RG.pf rfl rfl <| RG.so rfl <| RG.nil <| MX.ret rfl <| RT.t1 hb0 Tryz.func18 rfl rfl ?_
 cases h
 exact hS8.gv
 refine RG.no <| RG.no <| RG.no <| RG.no <| RG.no <| RG.pf rfl rfl <| RG.mo rfl <| RG.no <| RG.no <| RG.no <| RG.no <| RG.no <| RG.pf rfl rfl <| RG.so rfl <| RG.nil <| MX.ret rfl <| RT.t1 hb0 Tryz.func18 rfl rfl ?_
 cases h
 exact hS8.gv
 refine RG.no <| RG.no <| RG.no <| RG.no <| RG.no <| RG.pf rfl rfl <| RG.mo rfl <| RG.no <| RG.no <| RG.no <| RG.no <| RG.no <| RG.pf rfl rfl <| RG.mo rfl <| RG.no <| RG.no <| RG.no <| RG.no <| RG.no <| RG.pf rfl rfl <| RG.so rfl <| RG.nil <| MX.ret rfl <| RT.t1 hb0 Tryz.func18 rfl rfl ?_
 cases h
 exact hS8.gv
 refine RG.no <| RG.no <| RG.no <| RG.no <| RG.no <| RG.pf rfl rfl <| RG.mo rfl <| RG.no <| RG.no <| RG.no <| RG.no <| RG.no <| RG.pf rfl rfl <| RG.mo rfl <| RG.no <| RG.no <| RG.no <| RG.no <| RG.no <| RG.pf rfl rfl <| RG.mo rfl <| RG.no <| RG.no <| RG.no ?_
 refine RG.no <| RG.no <| RG.pf rfl rfl <| RG.so rfl <| RG.nil <| MX.ret rfl <| RT.t1 hb0 Tryz.func18 rfl rfl ?_
 cases h
 exact hS8.gv
def edit_Redo_p (n : Nat) (a0 : TGraph) (a1 : TRoll) (a2 : TSession) : Option (TSession × Int) :=
  (edit_Check_p n a0 a1 a2).bind fun k0 => (if k0 = 0 then (edit_last_api_Move_p n a2.fUndone).bind fun b0 => (if b0.2.2 = true then (if 200 ≤ a2.fDone.length then some ((⟨(0 : Int), ([] : List Int), ([] : List Int), ([] : List TMove), ([] : List TMove)⟩ : TSession), (3 : Int)) else (idx a2.fPlan b0.1.fUnit).bind fun v0 => (if v0 = b0.1.fFrom then (slices_Clone_api_Plan_int_p n a2.fPlan).bind fun p0 => (idx p0 b0.1.fUnit).bind fun A0 => (put p0 ((b0.1.fUnit.toNat : Nat) : Int) b0.1.fTo).bind fun d0 => (slices_Contains_api_Plan_int_p n d0 b0.1.fFrom).bind fun y0 => (if y0 = true then (slices_Clone_int_int_p n a2.fTotals).bind fun j0 => (idx j0 b0.1.fFrom).bind fun t0 => (idx a1.fUnits b0.1.fUnit).bind fun c0 => (chk (t0 - c0.fPeople)).bind fun q0 => (put j0 ((b0.1.fFrom.toNat : Nat) : Int) q0).bind fun g0 => (idx g0 b0.1.fTo).bind fun u0 => (chk (u0 + c0.fPeople)).bind fun s0 => (put g0 ((b0.1.fTo.toNat : Nat) : Int) s0).bind fun x0 => (edit_more_api_Move_p n a2.fDone b0.1).bind fun z0 => some ((⟨a2.fK, d0, x0, z0, b0.2.1⟩ : TSession), (0 : Int)) else some ((⟨(0 : Int), ([] : List Int), ([] : List Int), ([] : List TMove), ([] : List TMove)⟩ : TSession), (260 : Int))) else some ((⟨(0 : Int), ([] : List Int), ([] : List Int), ([] : List TMove), ([] : List TMove)⟩ : TSession), (260 : Int)))) else some ((⟨(0 : Int), ([] : List Int), ([] : List Int), ([] : List TMove), ([] : List TMove)⟩ : TSession), (4 : Int))) else some ((⟨(0 : Int), ([] : List Int), ([] : List Int), ([] : List TMove), ([] : List TMove)⟩ : TSession), k0))
theorem edit_Redo_c (n : Nat) (L : List Nat) (w : World) (hL : ∀ b ∈ L, b < w.heap.size) (a0 : TGraph) {v0_1 : Value} (h0_1 : Rep.R w L [v0_1] a0.fEdges) (a1 : TRoll) {v1_3 : Value} (h1_3 : Rep.R w L [v1_3] a1.fUnits) (a2 : TSession) {v2_1 : Value} (h2_1 : Rep.R w L [v2_1] a2.fPlan) {v2_2 : Value} (h2_2 : Rep.R w L [v2_2] a2.fTotals) {v2_3 : Value} (h2_3 : Rep.R w L [v2_3] a2.fDone) {v2_4 : Value} (h2_4 : Rep.R w L [v2_4] a2.fUndone)  {r : TSession × Int} (h : edit_Redo_p n a0 a1 a2 = some r) :
    Calls Tryz.prog 20 #[.agg #[vI a0.fN, v0_1], .agg #[vI a1.fGroups, vI a1.fParties, vI a1.fLevels, v1_3], .agg #[vI a2.fK, v2_1, v2_2, v2_3, v2_4]] w (Gives w fun w' u => ∃ v0_1 v0_2 v0_3 v0_4 : Value, u = .tuple #[.agg #[vI r.1.fK, v0_1, v0_2, v0_3, v0_4], vI r.2] ∧ Rep.R w' L [v0_1] r.1.fPlan ∧ Rep.R w' L [v0_2] r.1.fTotals ∧ Rep.R w' L [v0_3] r.1.fDone ∧ Rep.R w' L [v0_4] r.1.fUndone) := by
 unfold edit_Redo_p at h
 have hS0 := St.start w
 refine MX.start Tryz.func20 rfl rfl rfl (fun _ cs0 hb0 => ?_)
 refine MX.sr <| RG.new .plain rfl (Does.box hS0 rfl rfl) (fun w2 b5 hS3 hT4 => ?_)
 refine RG.new .plain rfl (Does.box hS3 rfl rfl) (fun w7 J5 hS8 hT9 => ?_)
 refine RG.new .plain rfl (Does.box hS8 rfl rfl) (fun v7 K5 d3 z6 => ?_)
 refine RG.new .plain rfl (Does.al [vI 0, vN, vN, vN, vN] d3) (fun A7 M5 d0 A6 => ?_)
 refine RG.so rfl <| RG.nil <| MX.seq <| MX.sr <| RG.va (FV.lN rfl (d0.memA (.tl (.tl (.tl .hd))))) <| RG.va (FV.lN rfl (d0.memA (.tl (.tl .hd)))) <| RG.va (FV.lN rfl (d0.memA (.tl .hd))) ?_
 obtain ⟨F2, s5, h⟩ := bi h
 refine RG.cq (vI F2) body16 rfl (e3 rfl rfl rfl) (fun w9 hw9 => edit_Check_c n _ w9 (d0.hL0 hL hw9) a0 (d0.k0 h0_1 hw9) a1 (d0.k0 h1_3 hw9) a2 (d0.k0 h2_1 hw9) (d0.k0 h2_2 hw9) (d0.k0 h2_3 hw9) (d0.k0 h2_4 hw9) s5) rfl <| RG.so rfl <| RG.nil <| MX.sr <| RG.mo rfl <| RG.va (FV.neq (i := F2) (j := 0) rfl rfl) <| RG.nil <| MX.ifn rfl h (fun Q2 h => ?_) (fun Q2 h => ?_)
 refine MX.skip <| MX.sr <| RG.va (FV.lN rfl (d0.memA (.tl .hd))) ?_
 have Y3 := Rep.mv0 h2_1 d0
 obtain ⟨E5, d6, K4, _⟩ := Rep.sl Y3
 have g4 := Rep.mv0 h2_2 d0
 obtain ⟨F5, g6, M4, _⟩ := Rep.sl g4
 have j4 := Rep.mv0 h2_3 d0
 obtain ⟨G5, j6, P4, _⟩ := Rep.sl j4
 have k4 := Rep.mv0 h2_4 d0
 obtain ⟨H5, k6, Q4, _⟩ := Rep.sl k4
 refine RG.va (FV.buildV (vs := [.agg #[vI a2.fK, v2_1, v2_2, v2_3, v2_4]]) (u := .agg #[vI a2.fK, v2_1, v2_2, v2_3, v2_4]) (e1 rfl) (fun w9 => by rw [K4, M4, P4, Q4]; try kernel_rfl)) <| RG.new .plain rfl (Does.box d0 rfl rfl) (fun P7 z1 U0 F6 => ?_)
 refine RG.so rfl <| RG.nil <| MX.sr <| RG.fa 4 rfl <| RG.l1 rfl ((U0.memA (.tl (.tl .hd))) 4 _ rfl) ?_
 obtain ⟨c0, u5, h⟩ := bi h
 refine RG.call' (fst := []) (cap := []) .plain body51 rfl (e1 rfl) (fun w9 hw9 => edit_last_api_Move_c n _ w9 (U0.hL hL hw9) a2.fUndone (U0.km h2_4 hw9) u5) rfl (fun Q7 u7 t3 ⟨M0, hu_, y1⟩ => ?_)
 subst hu_
 obtain ⟨k3, G6⟩ := U0.agr t3
 refine RG.mo rfl <| RG.va (FV.extract rfl rfl) <| RG.va (FV.extract rfl rfl) <| RG.va (FV.extract rfl rfl) <| RG.new .plain rfl (Does.al [vI 0, vI 0, vI 0] k3) (fun R7 P5 p3 E1 => ?_)
 refine RG.sa [vI c0.1.fUnit, vI c0.1.fFrom, vI c0.1.fTo] p3 .hd (onesB rfl) (fun U7 E0 F1 => ?_)
 refine RG.so rfl <| RG.so rfl <| RG.nil <| MX.seq <| MX.block <| MX.sr <| RG.mo rfl <| RG.va (FV.not rfl) <| RG.so rfl <| RG.nil <| MX.ifnb rfl h (fun R2 h => ?_) (fun R2 h => ?_)
 refine MX.sr <| RG.fa 3 rfl <| RG.va (FV.l1 rfl ((E0.memA (.tl (.tl (.tl .hd)))) 3 _ rfl)) ?_
 have Z1 := Rep.mv0 h2_3 E0
 have K6 : a2.fDone.length ≤ 281474976710656 := Rep.lenle Z1
 refine RG.va (FV.len (xs := a2.fDone) Tryz.underlying46 rfl Z1) <| RG.va (FV.geqN (i := a2.fDone.length) (j := 200) rfl rfl) <| RG.so rfl <| RG.nil <| MX.ifd rfl h (fun U2 h => ?_) (fun U2 h => ?_)
 refine MX.sr <| RG.va (FV.buildV (vs := []) (u := .agg #[vI 0, vN, vN, vN, vN]) evs_nil (fun w9 => by kernel_rfl)) <| RG.sa [vI 0, vN, vN, vN, vN] E0 (.tl (.tl .hd)) (onesB rfl) (fun V7 B0 H6 => ?_)
 refine RG.so rfl <| RG.nil <| MX.ret rfl ?_
 have u2 := Rep.nilAt (α := Int) B0 L
 have v2 := Rep.nilAt (α := TMove) B0 L
 refine RT.leave hb0 Tryz.func20 rfl (.cons (.many (cs := [vI 0, vN, vN, vN, vN]) (by kernel_rfl) rfl (B0.memA (.tl (.tl .hd)))) (.cons (.tmp rfl) .nil)) rfl ?_
 cases h
 exact ⟨B0.ag, fun w9 hw9 => ⟨vN, vN, vN, vN, rfl, B0.kd u2 hw9, B0.kd u2 hw9, B0.kd v2 hw9, B0.kd v2 hw9⟩⟩
 refine MX.sr <| RG.mo rfl <| RG.va (FV.lN rfl (E0.memA (.tl (.tl (.tl (.tl .hd)))))) <| RG.va (FV.lN rfl (E0.memA .hd)) <| RG.enterP (fst := []) (cap := []) (vs := [vP z1, .agg #[vI a1.fGroups, vI a1.fParties, vI a1.fLevels, v1_3], .agg #[vI c0.1.fUnit, vI c0.1.fFrom, vI c0.1.fTo]]) .plain body41 Tryz.func41 rfl rfl rfl rfl (e3 rfl rfl rfl) rfl (fun x6 s1 P6 => ?_)
 refine MX.sr <| RG.new .plain rfl (Does.box E0 rfl rfl) (fun W7 Q5 q3 G1 => ?_)
 refine RG.new .plain rfl (Does.box q3 rfl rfl) (fun X7 R5 s0 H1 => ?_)
 refine RG.so rfl <| RG.nil <| MX.seq <| MX.sr <| RG.mo rfl <| RG.fa 0 rfl <| RG.l1 rfl ((s0.memA .hd) 0 _ rfl) <| RG.fa 1 rfl <| RG.l1 rfl ((s0.memA .hd) 1 _ rfl) <| RG.fa 2 rfl <| RG.l1 rfl ((s0.memA .hd) 2 _ rfl) <| RG.enterP (fst := []) (cap := []) (vs := [vP z1, vI c0.1.fUnit, vI c0.1.fFrom, vI c0.1.fTo]) .plain body71 Tryz.func71 rfl rfl rfl rfl (e4 rfl rfl rfl rfl) rfl (fun y6 t1 Q6 => ?_)
 refine MX.sr <| RG.so rfl <| RG.nil <| MX.seq <| MX.sr <| RG.mo rfl <| RG.va (FV.nilCheck rfl) <| RG.fa 0 rfl <| RG.fa 1 rfl <| RG.va (FV.l1 rfl ((mem_from (s0.memA (.tl (.tl (.tl .hd)))) 0) 1 _ rfl)) <| RG.mo rfl ?_
 obtain ⟨D2, c5, h⟩ := bi h
 obtain ⟨G3, d5⟩ := idx_in c5
 have q4 := Rep.mv0 h2_1 s0
 obtain ⟨I5, p6, D3, J3, c3, F4, p4⟩ := Rep.nth q4 d5
 have E3 : c3 = [vI D2] := F4; subst E3
 refine RG.va (FV.ia 1 (c0.1.fUnit.toNat) rfl D3 rfl G3 J3) <| RG.l1 rfl (p4 0 _ rfl) <| RG.mo rfl <| RG.va (FV.neq (i := D2) (j := c0.1.fFrom) rfl rfl) <| RG.nil <| MX.ifn rfl h (fun V2 h => ?_) (fun V2 h => ?_)
 refine MX.skip <| MX.sr <| RG.mo rfl <| RG.va (FV.nilCheck rfl) <| RG.fa 0 rfl <| RG.fa 1 rfl <| RG.va (FV.l1 rfl ((mem_from (s0.memA (.tl (.tl (.tl .hd)))) 0) 1 _ rfl)) ?_
 obtain ⟨B5, v5, h⟩ := bi h
 refine RG.call' (fst := []) (cap := []) .plain body91 rfl (e1 rfl) (fun w9 hw9 => own_gives (b0 := w.heap.size) (slices_Clone_api_Plan_int_c n _ w9 (s0.hL hL hw9) a2.fPlan (s0.km h2_1 hw9) v5) hw9 (Nat.le_trans s0.ag.size hw9.size)) rfl (fun Y7 t0 I6 ⟨c7, W2, I4, y2, u3⟩ => ?_)
 subst I4
 have P0 := own_push s0 y2
 have A1 := own_tr s0 y2
 have I1 := Cells.at_ (cs := W2) (xs := (B5 : List Int)) P0 L (own_cells u3)
 refine RG.so rfl <| RG.nil <| MX.sr <| RG.mo rfl <| RG.mo rfl <| RG.mo rfl ?_
 obtain ⟨x5, R4, h⟩ := bi h
 obtain ⟨F3, U4⟩ := idx_in R4
 obtain ⟨G2, U5, u1, X1, X2, v4, M6⟩ := St.nth (α := Int) P0 .hd I1 U4
 obtain ⟨J2, V5, P1⟩ := St.nthOwn (α := Int) P0 .hd X1
 obtain rfl : G2 = ⟨J2, 0, none⟩ := by rw [P1] at u1; cases u1; rfl
 have y3 : X2 = [vI x5] := v4; subst y3
 refine RG.va (FV.ia 1 (c0.1.fUnit.toNat) rfl u1 rfl F3 X1) ?_
 obtain ⟨E2, g5, h⟩ := bi h
 refine RG.acts' .plain (Acts.set (α := Int) (i := c0.1.fUnit.toNat) g5 P0 P1 (fun _ => .hd) I1 rfl rfl rfl rfl rfl (by kernel_rfl)) (fun x7 ⟨q6, G0, B1, J1⟩ => ?_)
 refine RG.nil <| MX.seq <| MX.sr <| RG.mo rfl <| RG.mo rfl ?_
 obtain ⟨z5, p5, h⟩ := bi h
 refine RG.cq (.bool z5) body92 rfl (e2 rfl rfl) (fun w9 hw9 => slices_Contains_api_Plan_int_c n _ w9 (G0.hL0 hL hw9) E2 (Rep.keep0 (St.lend (α := Int) (L := L) G0 .hd J1 hL) hw9) c0.1.fFrom p5) rfl <| RG.va (FV.not rfl) <| RG.nil <| MX.ifnb rfl h (fun P2 h => ?_) (fun P2 h => ?_)
 refine MX.skip <| MX.sr <| RG.mo rfl <| RG.mo rfl <| RG.va (FV.nilCheck rfl) <| RG.fa 0 rfl <| RG.fa 1 rfl <| RG.now .plain (Acts.store (j := 1) (old := [vI a2.fK, v2_1, v2_2, v2_3, v2_4]) (news := [t0]) (new' := [vI a2.fK, t0, v2_2, v2_3, v2_4]) G0 (.tl (.tl (.tl (.tl .hd)))) rfl rfl rfl (St.c1 (α := Int) G0 .hd) rfl rfl (o1 (St.o1 (α := Int) G0 .hd)) rfl) (fun y7 H0 g1 => ?_)
 refine RG.nil <| MX.sr <| RG.so rfl <| RG.nil <| MX.ret rfl <| RT.leave (u := .bool true) t1 Tryz.func71 rfl (.cons (.tmp rfl) .nil) rfl <| RG.va (FV.not rfl) <| RG.nil <| MX.cond_f rfl <| MX.skip <| MX.sr <| RG.mo rfl <| RG.va (FV.nilCheck rfl) <| RG.fa 0 rfl <| RG.fa 2 rfl <| RG.va (FV.l1 rfl ((mem_from (H0.memA (.tl (.tl (.tl (.tl .hd))))) 0) 2 _ rfl)) ?_
 obtain ⟨A5, q5, h⟩ := bi h
 refine RG.call' (fst := []) (cap := []) .plain body22 rfl (e1 rfl) (fun w9 hw9 => own_gives (b0 := w.heap.size) (slices_Clone_int_int_c n _ w9 (H0.hL hL hw9) a2.fTotals (H0.km h2_2 hw9) q5) hw9 (Nat.le_trans H0.ag.size hw9.size)) rfl (fun z7 u0 J6 ⟨d7, Y2, J4, z2, v3⟩ => ?_)
 subst J4
 have v0 := own_push H0 z2
 have j1 := own_tr H0 z2
 have K1 := Cells.at_ (cs := Y2) (xs := (A5 : List Int)) v0 L (own_cells v3)
 refine RG.so rfl <| RG.nil <| MX.seq <| MX.drawT 14 tb41_4 (by kernel_rfl) (by kernel_rfl) (by kernel_rfl) (fun g0 p0 => ?_)
 refine RD.vw 0 1 g0 rfl p0 (fun _ => FV.move rfl) rfl <| RD.vw 1 3 g0 rfl p0 (fun _ => FV.fa 1 rfl) rfl <| RD.vx 2 7 28696 g0 rfl p0 (FV.l1 rfl ((v0.memA (.tl (.tl .hd))) 1 _ rfl)) rfl ?_
 obtain ⟨A2, V4, h⟩ := bi h
 obtain ⟨U1, W4⟩ := idx_in V4
 obtain ⟨H2, W5, X0, v1, Z2, x4, K3⟩ := St.nth (α := Int) v0 .hd K1 W4
 obtain ⟨K2, X5, Q1⟩ := St.nthOwn (α := Int) v0 .hd v1
 obtain rfl : H2 = ⟨K2, 0, none⟩ := by rw [Q1] at X0; cases X0; rfl
 have z3 : Z2 = [vI A2] := x4; subst z3
 refine RD.vw 3 15 g0 rfl p0 (fun _ => FV.ia 1 (c0.1.fFrom.toNat) rfl X0 rfl U1 v1) rfl <| RD.vx 4 31 28672 g0 rfl p0 (FV.l1 rfl (K3 0 _ rfl)) rfl <| RD.vw 5 63 g0 rfl p0 (fun _ => FV.fa 3 rfl) rfl <| RD.vx 6 127 32256 g0 rfl p0 (FV.l1 rfl ((v0.memA (.tl (.tl (.tl .hd)))) 3 _ rfl)) rfl <| RD.vw 7 255 g0 rfl p0 (fun _ => FV.fa 0 rfl) rfl <| RD.vx 8 511 32256 g0 rfl p0 (FV.l1 rfl ((v0.memA (.tl (.tl .hd))) 0 _ rfl)) rfl ?_
 obtain ⟨B2, X4, h⟩ := bi h
 obtain ⟨V1, x2⟩ := idx_in X4
 have P3 := Rep.mv0 h1_3 v0
 obtain ⟨C5, Y5, A3, H3, s6, y4, M3⟩ := Rep.nth P3 x2
 obtain ⟨g7, j7, k7, rfl, R6, U6, V6⟩ := op_TUnit y4
 refine RD.vw 9 1023 g0 rfl p0 (fun _ => FV.ia 6 (c0.1.fUnit.toNat) rfl A3 rfl V1 H3) rfl <| RD.vw 10 2047 g0 rfl p0 (fun _ => FV.fa 1 rfl) rfl <| RD.vx 11 4095 28672 g0 rfl p0 (FV.l1 rfl (M3 1 _ rfl)) rfl ?_
 obtain ⟨Z6, G4, h⟩ := bi h
 refine RD.vw 12 8191 g0 rfl p0 (fun _ => FV.subc (i := A2) (j := B2.fPeople) rfl rfl G4) rfl <| RD.vw 13 16383 g0 rfl p0 (fun _ => FV.ia 1 (c0.1.fFrom.toNat) rfl X0 rfl U1 v1) rfl ?_
 obtain ⟨Z7, j5, h⟩ := bi h
 refine RD.one (i := 14) (readyD_ok g0 (by kernel_rfl)) (RO.acts (m' := 32767) (stepC_ok g0 (by kernel_rfl)) rfl rfl .plain (Acts.set (α := Int) (i := c0.1.fFrom.toNat) j5 v0 Q1 (fun _ => .hd) K1 rfl rfl rfl rfl rfl (by kernel_rfl)) (fun B7 ⟨t6, C0, k1, M1⟩ => ?_))
 refine RD.done (doneD_ok g0 (by kernel_rfl)) <| MX.seq <| MX.drawT 14 tb41_5 (by kernel_rfl) (by kernel_rfl) (by kernel_rfl) (fun j0 q0 => ?_)
 refine RD.vw 0 1 j0 rfl q0 (fun _ => FV.move rfl) rfl <| RD.vw 1 3 j0 rfl q0 (fun _ => FV.fa 2 rfl) rfl <| RD.vx 2 7 28696 j0 rfl q0 (FV.l1 rfl ((C0.memA (.tl (.tl .hd))) 2 _ rfl)) rfl ?_
 obtain ⟨C2, Y4, h⟩ := bi h
 obtain ⟨W1, Z4⟩ := idx_in Y4
 obtain ⟨I2, Z5, Y0, x1, b3, z4, Q3⟩ := St.nth (α := Int) C0 .hd M1 Z4
 obtain ⟨M2, b6, R1⟩ := St.nthOwn (α := Int) C0 .hd x1
 obtain rfl : I2 = ⟨M2, 0, none⟩ := by rw [R1] at Y0; cases Y0; rfl
 have B3 : b3 = [vI C2] := z4; subst B3
 refine RD.vw 3 15 j0 rfl q0 (fun _ => FV.ia 1 (c0.1.fTo.toNat) rfl Y0 rfl W1 x1) rfl <| RD.vx 4 31 28672 j0 rfl q0 (FV.l1 rfl (Q3 0 _ rfl)) rfl <| RD.vw 5 63 j0 rfl q0 (fun _ => FV.fa 3 rfl) rfl <| RD.vx 6 127 32256 j0 rfl q0 (FV.l1 rfl ((C0.memA (.tl (.tl (.tl .hd)))) 3 _ rfl)) rfl <| RD.vw 7 255 j0 rfl q0 (fun _ => FV.fa 0 rfl) rfl <| RD.vx 8 511 32256 j0 rfl q0 (FV.l1 rfl ((C0.memA (.tl (.tl .hd))) 0 _ rfl)) rfl ?_
 have U3 := Rep.mv0 h1_3 C0
 obtain ⟨D5, c6, C3, I3, u6, A4, R3⟩ := Rep.nth U3 x2
 obtain ⟨p7, q7, s7, rfl, W6, X6, Y6⟩ := op_TUnit A4
 refine RD.vw 9 1023 j0 rfl q0 (fun _ => FV.ia 6 (c0.1.fUnit.toNat) rfl C3 rfl V1 I3) rfl <| RD.vw 10 2047 j0 rfl q0 (fun _ => FV.fa 1 rfl) rfl <| RD.vx 11 4095 28672 j0 rfl q0 (FV.l1 rfl (R3 1 _ rfl)) rfl ?_
 obtain ⟨b7, H4, h⟩ := bi h
 refine RD.vw 12 8191 j0 rfl q0 (fun _ => FV.addc (i := C2) (j := B2.fPeople) rfl rfl H4) rfl <| RD.vw 13 16383 j0 rfl q0 (fun _ => FV.ia 1 (c0.1.fTo.toNat) rfl Y0 rfl W1 x1) rfl ?_
 obtain ⟨y5, k5, h⟩ := bi h
 refine RD.one (i := 14) (readyD_ok j0 (by kernel_rfl)) (RO.acts (m' := 32767) (stepC_ok j0 (by kernel_rfl)) rfl rfl .plain (Acts.set (α := Int) (i := c0.1.fTo.toNat) k5 C0 R1 (fun _ => .hd) M1 rfl rfl rfl rfl rfl (by kernel_rfl)) (fun C7 ⟨v6, b1, p1, x3⟩ => ?_))
 refine RD.done (doneD_ok j0 (by kernel_rfl)) <| MX.sr <| RG.mo rfl <| RG.mo rfl <| RG.va (FV.nilCheck rfl) <| RG.fa 0 rfl <| RG.fa 2 rfl <| RG.now .plain (Acts.store (j := 2) (old := [vI a2.fK, t0, v2_2, v2_3, v2_4]) (news := [u0]) (new' := [vI a2.fK, t0, u0, v2_3, v2_4]) b1 (.tl (.tl (.tl (.tl (.tl .hd))))) rfl rfl rfl (St.c1 (α := Int) b1 .hd) rfl rfl (o1 (St.o1 (α := Int) b1 .hd)) rfl) (fun D7 I0 V0 => ?_)
 refine RG.nil <| MX.sr <| RG.so rfl <| RG.nil <| MX.ret rfl <| RT.leave (u := .bool true) s1 Tryz.func41 rfl (.cons (.tmp rfl) .nil) rfl <| RG.va (FV.not rfl) <| RG.so rfl <| RG.nil <| MX.cond_f rfl <| MX.skip <| MX.inBlock <| MX.sr <| RG.mo rfl <| RG.mo rfl <| RG.fa 3 rfl <| RG.va (FV.l1 rfl ((I0.memA (.tl (.tl (.tl (.tl (.tl (.tl (.tl .hd)))))))) 3 _ rfl)) <| RG.va (FV.lN rfl (I0.memA (.tl (.tl (.tl (.tl .hd)))))) ?_
 obtain ⟨b8, t5, h⟩ := bi h
 refine RG.call' (fst := []) (cap := []) .plain body42 rfl (e2 rfl rfl) (fun w9 hw9 => edit_more_api_Move_c n _ w9 (I0.hL hL hw9) a2.fDone (I0.km h2_3 hw9) c0.1 t5) rfl (fun E7 F0 s3 ⟨t7, hu_, Z0⟩ => ?_)
 subst hu_
 obtain ⟨g3, W0⟩ := I0.agr s3
 refine RG.mo rfl <| RG.va (FV.nilCheck rfl) <| RG.fa 0 rfl <| RG.fa 3 rfl <| RG.now .plain (Acts.store (j := 3) (old := [vI a2.fK, t0, u0, v2_3, v2_4]) (news := [F0]) (new' := [vI a2.fK, t0, u0, F0, v2_4]) g3 (.tl (.tl (.tl (.tl (.tl .hd))))) rfl rfl rfl (Rep.c1 Z0) rfl rfl (o1 (Rep.o1 Z0)) rfl) (fun F7 j3 J0 => ?_)
 refine RG.va (FV.nilCheck rfl) <| RG.fa 0 rfl <| RG.fa 4 rfl ?_
 have b2 := Tt E1 (Tt F1 (Tt G1 (Tt H1 (Tt A1 (Tt B1 (Tt g1 (Tt j1 (Tt k1 (Tt p1 (Tt V0 (Tt W0 J0)))))))))))
 have Y1 := Rep.mv y1 b2
 refine RG.now .plain (Acts.store (j := 4) (old := [vI a2.fK, t0, u0, F0, v2_4]) (news := [M0]) (new' := [vI a2.fK, t0, u0, F0, M0]) j3 (.tl (.tl (.tl (.tl (.tl .hd))))) rfl rfl rfl (Rep.c1 Y1) rfl rfl (o1 (Rep.o1 Y1)) rfl) (fun G7 Q0 K0 => ?_)
 refine RG.nil <| MX.sr <| RG.mo rfl <| RG.va (FV.nilCheck rfl) <| RG.fa 0 rfl <| RG.va (FV.lN rfl (mem_from (Q0.memA (.tl (.tl (.tl (.tl (.tl .hd)))))) 0)) ?_
 have V3 := Rep.mv Z0 (Tt J0 K0)
 have W3 := Rep.mv y1 (Tt b2 K0)
 refine RG.sa [vI a2.fK, t0, u0, F0, M0] Q0 (.tl (.tl (.tl (.tl (.tl (.tl .hd)))))) (o5 rfl (St.o1 (α := Int) Q0 (.tl .hd)) (St.o1 (α := Int) Q0 .hd) (Rep.o1 V3) (Rep.o1 W3)) (fun H7 d1 q1 => ?_)
 refine RG.so rfl <| RG.nil <| MX.ret rfl ?_
 have s4 := Tt g1 (Tt j1 (Tt k1 (Tt p1 (Tt V0 (Tt W0 (Tt J0 (Tt K0 q1)))))))
 have X3 := Cells.mv J1 s4
 have B4 := St.freeze (α := Int) d1 (.tl .hd) X3 hL
 have R0 := St.delS d1 (.tl .hd)
 have C1 := St.delT d1 (.tl .hd)
 have C4 := Rep.at_ (α := Int) (v := t0) (xs := E2) R0 L B4
 have t4 := Tt V0 (Tt W0 (Tt J0 (Tt K0 (Tt q1 C1))))
 have Z3 := Cells.mv x3 t4
 have D4 := St.freeze (α := Int) R0 .hd Z3 hL
 have D0 := St.delS R0 .hd
 have D1 := St.delT R0 .hd
 have E4 := Rep.at_ (α := Int) (v := u0) (xs := y5) D0 L D4
 refine RT.leave hb0 Tryz.func20 rfl (.cons (.many (cs := [vI a2.fK, t0, u0, F0, M0]) (by kernel_rfl) rfl (D0.memA (.tl (.tl (.tl (.tl .hd)))))) (.cons (.tmp rfl) .nil)) rfl ?_
 cases h
 have b4 := Rep.mv C4 D1
 have c2 := Tt J0 (Tt K0 (Tt q1 (Tt C1 D1)))
 have c4 := Rep.mv Z0 c2
 have u4 := Tt E1 (Tt F1 (Tt G1 (Tt H1 (Tt A1 (Tt B1 (Tt g1 (Tt j1 (Tt k1 (Tt p1 (Tt V0 (Tt W0 c2)))))))))))
 have d4 := Rep.mv y1 u4
 exact ⟨D0.ag, fun w9 hw9 => ⟨t0, u0, F0, M0, rfl, D0.kd b4 hw9, D0.kd E4 hw9, D0.kd c4 hw9, D0.kd d4 hw9⟩⟩
 refine MX.sr <| RG.so rfl <| RG.nil <| MX.ret rfl <| RT.leave (u := .bool false) t1 Tryz.func71 rfl (.cons (.tmp rfl) .nil) rfl <| RG.va (FV.not rfl) <| RG.nil <| MX.cond_t rfl <| MX.sr <| RG.so rfl <| RG.nil <| MX.ret rfl <| RT.leave (u := .bool false) s1 Tryz.func41 rfl (.cons (.tmp rfl) .nil) rfl <| RG.va (FV.not rfl) <| RG.so rfl <| RG.nil <| MX.cond_t rfl <| MX.sr <| RG.va (FV.buildV (vs := []) (u := .agg #[vI 0, vN, vN, vN, vN]) evs_nil (fun w9 => by kernel_rfl)) <| RG.sa [vI 0, vN, vN, vN, vN] G0 (.tl (.tl (.tl (.tl (.tl .hd))))) (onesB rfl) (fun I7 x0 B6 => ?_)
 refine RG.so rfl <| RG.nil <| MX.ret rfl ?_
 have d2 := Rep.nilAt (α := Int) x0 L
 have g2 := Rep.nilAt (α := TMove) x0 L
 refine RT.leave hb0 Tryz.func20 rfl (.cons (.many (cs := [vI 0, vN, vN, vN, vN]) (by kernel_rfl) rfl (x0.memA (.tl (.tl (.tl (.tl (.tl .hd))))))) (.cons (.tmp rfl) .nil)) rfl ?_
 cases h
 exact ⟨x0.ag, fun w9 hw9 => ⟨vN, vN, vN, vN, rfl, x0.kd d2 hw9, x0.kd d2 hw9, x0.kd g2 hw9, x0.kd g2 hw9⟩⟩
 refine MX.sr <| RG.so rfl <| RG.nil <| MX.ret rfl <| RT.leave (u := .bool false) t1 Tryz.func71 rfl (.cons (.tmp rfl) .nil) rfl <| RG.va (FV.not rfl) <| RG.nil <| MX.cond_t rfl <| MX.sr <| RG.so rfl <| RG.nil <| MX.ret rfl <| RT.leave (u := .bool false) s1 Tryz.func41 rfl (.cons (.tmp rfl) .nil) rfl <| RG.va (FV.not rfl) <| RG.so rfl <| RG.nil <| MX.cond_t rfl <| MX.sr <| RG.va (FV.buildV (vs := []) (u := .agg #[vI 0, vN, vN, vN, vN]) evs_nil (fun w9 => by kernel_rfl)) <| RG.sa [vI 0, vN, vN, vN, vN] s0 (.tl (.tl (.tl (.tl .hd)))) (onesB rfl) (fun J7 y0 C6 => ?_)
 refine RG.so rfl <| RG.nil <| MX.ret rfl ?_
 have j2 := Rep.nilAt (α := Int) y0 L
 have k2 := Rep.nilAt (α := TMove) y0 L
 refine RT.leave hb0 Tryz.func20 rfl (.cons (.many (cs := [vI 0, vN, vN, vN, vN]) (by kernel_rfl) rfl (y0.memA (.tl (.tl (.tl (.tl .hd)))))) (.cons (.tmp rfl) .nil)) rfl ?_
 cases h
 exact ⟨y0.ag, fun w9 hw9 => ⟨vN, vN, vN, vN, rfl, y0.kd j2 hw9, y0.kd j2 hw9, y0.kd k2 hw9, y0.kd k2 hw9⟩⟩
 refine MX.sr <| RG.va (FV.buildV (vs := []) (u := .agg #[vI 0, vN, vN, vN, vN]) evs_nil (fun w9 => by kernel_rfl)) <| RG.sa [vI 0, vN, vN, vN, vN] E0 (.tl (.tl .hd)) (onesB rfl) (fun K7 z0 D6 => ?_)
 refine RG.so rfl <| RG.nil <| MX.ret rfl ?_
 have p2 := Rep.nilAt (α := Int) z0 L
 have q2 := Rep.nilAt (α := TMove) z0 L
 refine RT.leave hb0 Tryz.func20 rfl (.cons (.many (cs := [vI 0, vN, vN, vN, vN]) (by kernel_rfl) rfl (z0.memA (.tl (.tl .hd)))) (.cons (.tmp rfl) .nil)) rfl ?_
 cases h
 exact ⟨z0.ag, fun w9 hw9 => ⟨vN, vN, vN, vN, rfl, z0.kd p2 hw9, z0.kd p2 hw9, z0.kd q2 hw9, z0.kd q2 hw9⟩⟩
 refine MX.sr <| RG.va (FV.buildV (vs := []) (u := .agg #[vI 0, vN, vN, vN, vN]) evs_nil (fun w9 => by kernel_rfl)) <| RG.mo rfl <| RG.sa [vI 0, vN, vN, vN, vN] d0 .hd (onesB rfl) (fun M7 A0 E6 => ?_)
 refine RG.so rfl <| RG.nil <| MX.ret rfl ?_
 have s2 := Rep.nilAt (α := Int) A0 L
 have t2 := Rep.nilAt (α := TMove) A0 L
 refine RT.leave hb0 Tryz.func20 rfl (.cons (.many (cs := [vI 0, vN, vN, vN, vN]) (by kernel_rfl) rfl (A0.memA .hd)) (.cons (.tmp rfl) .nil)) rfl ?_
 cases h
 exact ⟨A0.ag, fun w9 hw9 => ⟨vN, vN, vN, vN, rfl, A0.kd s2 hw9, A0.kd s2 hw9, A0.kd t2 hw9, A0.kd t2 hw9⟩⟩
def tb5_4 : List (Nat × Nat × Nat) := [(0, 8589934592, 16), (0, 17179869184, 8), (2, 34359738368, 17179869184), (0, 68719476736, 128), (0, 137438953472, 256), (0, 274877906944, 512), (0, 549755813888, 1024), (124, 1099511627776, 1065151889408), (129, 2199023255552, 1108101562368), (0, 2048, 0), (1023, 0, 2199023257600)]
def tb5_5 : List (Nat × Nat × Nat) := [(0, 4398046511104, 32), (1, 8796093022208, 4398046511104), (2, 17592186044416, 8796093022208), (0, 35184372088832, 128), (8, 70368744177664, 35184372088832), (20, 140737488355328, 87960930222080), (0, 281474976710656, 32), (64, 562949953421312, 281474976710656), (128, 1125899906842624, 562949953421312), (0, 2251799813685248, 1024), (768, 4503599627370496, 3377699720527872), (63, 4096, 140737488355328), (4095, 8192, 4503599627370496)]
def tb5_23 : List (Nat × Nat × Nat) := [(0, 713623846352979940529142984724747568191373312, 8388608), (0, 1427247692705959881058285969449495136382746624, 2048), (2, 2854495385411919762116571938898990272765493248, 1427247692705959881058285969449495136382746624), (0, 5708990770823839524233143877797980545530986496, 4096), (12, 11417981541647679048466287755595961091061972992, 8563486156235759286349715816696970818296479744), (16, 22835963083295358096932575511191922182123945984, 11417981541647679048466287755595961091061972992), (33, 45671926166590716193865151022383844364247891968, 23549586929648338037461718495916669750315319296), (64, 91343852333181432387730302044767688728495783936, 45671926166590716193865151022383844364247891968), (0, 182687704666362864775460604089535377456991567872, 256), (256, 365375409332725729550921208179070754913983135744, 182687704666362864775460604089535377456991567872), (0, 730750818665451459101842416358141509827966271488, 4096), (1536, 1461501637330902918203684832716283019655932542976, 1096126227998177188652763624537212264741949407232), (2048, 2923003274661805836407369665432566039311865085952, 1461501637330902918203684832716283019655932542976), (4096, 5846006549323611672814739330865132078623730171904, 2923003274661805836407369665432566039311865085952), (8320, 11692013098647223345629478661730264157247460343808, 5937350401656793105202469632909899767352225955840), (32767, 23384026197294446691258957323460528314494920687616, 23549586929648338037461718495916669750315319296), (65535, 0, 35076039295941670036888435985190792471742381031424)]
def tb5_24 : List (Nat × Nat × Nat) := [(0, 46768052394588893382517914646921056628989841375232, 8388608), (0, 93536104789177786765035829293842113257979682750464, 8192), (3, 187072209578355573530071658587684226515959365500928, 140304157183766680147553743940763169886969524125696), (4, 374144419156711147060143317175368453031918731001856, 187072209578355573530071658587684226515959365500928), (0, 748288838313422294120286634350736906063837462003712, 256), (16, 1496577676626844588240573268701473812127674924007424, 748288838313422294120286634350736906063837462003712), (0, 2993155353253689176481146537402947624255349848014848, 4096), (96, 5986310706507378352962293074805895248510699696029696, 4489733029880533764721719806104421436383024772022272), (128, 11972621413014756705924586149611790497021399392059392, 5986310706507378352962293074805895248510699696029696), (256, 23945242826029513411849172299223580994042798784118784, 11972621413014756705924586149611790497021399392059392), (520, 47890485652059026823698344598447161988085597568237568, 24319387245186224558909315616398949447074717515120640), (2047, 95780971304118053647396689196894323976171195136475136, 140304157183766680147553743940763169886969524125696), (4095, 0, 143671456956177080471095033795341485964256792704712704)]
theorem body9 : bodyB Tryz.prog 9 = true := by kernel_rfl
theorem body10 : bodyB Tryz.prog 10 = true := by kernel_rfl
theorem body11 : bodyB Tryz.prog 11 = true := by kernel_rfl
theorem body12 : bodyB Tryz.prog 12 = true := by kernel_rfl
theorem body18 : bodyB Tryz.prog 18 = true := by kernel_rfl
theorem body20 : bodyB Tryz.prog 20 = true := by kernel_rfl
def wardmotelaw26_EditStays_p (n : Nat) (a0 : TScene) (a1 : TBend) (a2 : UInt8 × UInt8) : Option Bool :=
  (wardmotelaw26_works_p n).bind fun J0 => (if J0 = true then (wardmotelaw26_Scene_set_p n a0).bind fun b0 => (wardmoteref26_Draft_Session_p n a0.fL b0.1 b0.2.1 b0.2.2.1 b0.2.2.2).bind fun X0 => (wardmoteref26_Bend_Of_p n a1 X0).bind fun d0 => (remI ((a2.1.toNat : Nat) : Int) b0.1.fN).bind fun j0 => (remI ((a2.2.toNat : Nat) : Int) b0.2.2.2).bind fun k0 => (wardmoteref26_Check_p n b0.1 b0.2.1 d0).bind fun g0 => (edit_Check_p n b0.1 b0.2.1 d0).bind fun K0 => (if K0 = g0 then (edit_Make_p n b0.1 b0.2.1 d0 j0 k0).bind fun c0 => (edit_Undo_p n b0.1 b0.2.1 d0).bind fun p0 => (edit_Redo_p n b0.1 b0.2.1 d0).bind fun q0 => (if g0 = 0 then jn (fun A0 => (if A0 = true then some false else jn (fun B0 => (if B0 = true then some false else jn (fun C0 => (if C0 = true then some false else (if c0.2 = 0 then (slices_Clone_int_int_p n d0.fTotals).bind fun z0 => (idx d0.fPlan j0).bind fun v0 => (idx z0 v0).bind fun F0 => (idx b0.2.1.fUnits j0).bind fun x0 => (chk (F0 - x0.fPeople)).bind fun D0 => (put z0 ((v0.toNat : Nat) : Int) D0).bind fun y0 => (idx y0 k0).bind fun G0 => (chk (G0 + x0.fPeople)).bind fun E0 => (put y0 ((k0.toNat : Nat) : Int) E0).bind fun I0 => (slices_Equal_int_int_p n I0 c0.1.fTotals).bind fun M0 => (if M0 = true then (if ((c0.1.fPlan.length : Nat) : Int) = b0.1.fN then (idx c0.1.fPlan j0).bind fun H0 => some (decide (H0 = k0)) else some false) else some false) else (if c0.2 = 2 then some true else some (decide (c0.2 = 4)))))) (fun u0 => (if q0.2 = 0 then (edit_Check_p n b0.1 b0.2.1 q0.1).bind fun P0 => (if P0 = 0 then u0 false else u0 true) else (edit_Same_p n q0.1 (⟨(0 : Int), ([] : List Int), ([] : List Int), ([] : List TMove), ([] : List TMove)⟩ : TSession)).bind fun Q0 => u0 (!Q0))))) (fun t0 => (if p0.2 = 0 then (edit_Check_p n b0.1 b0.2.1 p0.1).bind fun R0 => (if R0 = 0 then t0 false else t0 true) else (edit_Same_p n p0.1 (⟨(0 : Int), ([] : List Int), ([] : List Int), ([] : List TMove), ([] : List TMove)⟩ : TSession)).bind fun U0 => t0 (!U0))))) (fun s0 => (if c0.2 = 0 then (edit_Check_p n b0.1 b0.2.1 c0.1).bind fun V0 => (if V0 = 0 then s0 false else s0 true) else (edit_Same_p n c0.1 (⟨(0 : Int), ([] : List Int), ([] : List Int), ([] : List TMove), ([] : List TMove)⟩ : TSession)).bind fun W0 => s0 (!W0))) else (if c0.2 = g0 then (if p0.2 = g0 then some (decide (q0.2 = g0)) else some false) else some false)) else some false) else some false)
theorem wardmotelaw26_EditStays_c (n : Nat) (L : List Nat) (w : World) (hL : ∀ b ∈ L, b < w.heap.size) (a0 : TScene) {v0_1 : Value} (h0_1 : Rep.R w L [v0_1] a0.fD.fParents) {v0_2 : Value} (h0_2 : Rep.R w L [v0_2] a0.fD.fMore) {v0_3 : Value} (h0_3 : Rep.R w L [v0_3] a0.fD.fLabels) {v0_9 : Value} (h0_9 : Rep.R w L [v0_9] a0.fX.fNums) {v0_10 : Value} (h0_10 : Rep.R w L [v0_10] a0.fL.fL) (a1 : TBend) (a2 : UInt8 × UInt8)  {r : Bool} (h : wardmotelaw26_EditStays_p n a0 a1 a2 = some r) :
    Calls Tryz.prog 5 #[.agg #[.int .u8 (a0.fD.fN.toNat : Int), v0_1, v0_2, v0_3, .int .u8 (a0.fD.fK.toNat : Int), .int .u8 (a0.fX.fGroups.toNat : Int), .int .u8 (a0.fX.fParties.toNat : Int), .int .u8 (a0.fX.fLevels.toNat : Int), .int .u8 (a0.fX.fWater.toNat : Int), v0_9, v0_10], .agg #[.int .u8 (a1.fWhat.toNat : Int), .int .u8 (a1.fAt.toNat : Int), vI a1.fN], .agg #[.int .u8 (a2.1.toNat : Int), .int .u8 (a2.2.toNat : Int)]] w (Gives w fun _ u => u = .bool r) := by
 unfold wardmotelaw26_EditStays_p at h
 have hS0 := St.start w
 refine MX.start Tryz.func5 rfl rfl rfl (fun _ cs0 hb0 => ?_)
 refine MX.sr <| RG.new .plain rfl (Does.box hS0 rfl rfl) (fun w2 b5 hS3 hT4 => ?_)
 refine RG.new .plain rfl (Does.box hS3 rfl rfl) (fun w7 R5 hS8 hT9 => ?_)
 refine RG.new .plain rfl (Does.box hS8 rfl rfl) (fun w12 C1 z1 x05 => ?_)
 refine RG.so rfl <| RG.nil <| MX.seq <| MX.sr ?_
 obtain ⟨y16, G02, h⟩ := bi h
 refine RG.cq (.bool y16) body9 rfl evs_nil (fun w9 hw9 => wardmotelaw26_works_c n _ w9 (z1.hL0 hL hw9)  G02) rfl <| RG.va (FV.not rfl) <| RG.nil <| MX.ifnb rfl h (fun d6 h => ?_) (fun d6 h => ?_)
 refine MX.skip <| MX.sr <| RG.va (FV.lN rfl (z1.memA (.tl (.tl .hd)))) ?_
 obtain ⟨c0, P02, h⟩ := bi h
 refine RG.call' (fst := []) (cap := []) .plain body10 rfl (e1 rfl) (fun w9 hw9 => wardmotelaw26_Scene_set_c n _ w9 (z1.hL hL hw9) a0 (z1.km h0_1 hw9) (z1.km h0_2 hw9) (z1.km h0_3 hw9) (z1.km h0_9 hw9) (z1.km h0_10 hw9) P02) rfl (fun w19 j06 R7 ⟨E0, F0, v26, hu_, D1, y1, u5⟩ => ?_)
 subst hu_
 obtain ⟨q7, y05⟩ := z1.agr R7
 refine RG.mo rfl <| RG.va (FV.extract rfl rfl) <| RG.va (FV.extract rfl rfl) <| RG.va (FV.extract rfl rfl) <| RG.va (FV.extract rfl rfl) <| RG.new .plain rfl (Does.al [vI 0, vN] q7) (fun w31 A0 s7 C4 => ?_)
 refine RG.new .plain rfl (Does.al [vI 0, vI 0, vI 0, vN] s7) (fun w36 B0 t7 E4 => ?_)
 have X00 := Rep.mv D1 (Tt C4 E4)
 refine RG.sa [vI c0.1.fN, E0] t7 (.tl .hd) (o2 rfl (Rep.o1 X00)) (fun w41 u7 J7 => ?_)
 have Z1 := Tt C4 (Tt E4 J7)
 have Y00 := Rep.mv y1 Z1
 refine RG.sa [vI c0.2.1.fGroups, vI c0.2.1.fParties, vI c0.2.1.fLevels, F0] u7 .hd (o4 rfl rfl rfl (Rep.o1 Y00)) (fun w46 F1 v2 => ?_)
 refine RG.so rfl <| RG.so rfl <| RG.nil <| MX.seq <| MX.drawT 10 tb5_4 (by kernel_rfl) (by kernel_rfl) (by kernel_rfl) (fun D0 U1 => ?_)
 refine RD.vx 0 1 1280 D0 rfl U1 (FV.lN rfl (F1.memA (.tl (.tl (.tl .hd))))) rfl <| RD.vw 1 3 D0 rfl U1 (fun _ => FV.fa 10 rfl) rfl <| RD.vx 2 7 1408 D0 rfl U1 (FV.loadN (cs := [v0_10]) (by kernel_rfl) rfl (mem_part (F1.memA (.tl (.tl (.tl (.tl .hd))))) 10 1)) rfl <| RD.vx 3 15 1408 D0 rfl U1 (FV.lN rfl (F1.memA (.tl .hd))) rfl <| RD.vx 4 31 1408 D0 rfl U1 (FV.lN rfl (F1.memA .hd)) rfl <| RD.vw 5 63 D0 rfl U1 (fun _ => FV.move rfl) rfl <| RD.vw 6 127 D0 rfl U1 (fun _ => FV.move rfl) rfl ?_
 obtain ⟨v4, y5, h⟩ := bi h
 obtain ⟨z0, g4, h⟩ := bi h
 refine RD.meet (α := Value × Value × Value × Value × Nat) (fun ⟨b1, c1, d1, g1, y0⟩ => [(5, vP C1), (7, vP A0), (8, vP B0), (10, vI c0.2.2.2), (41, .agg #[vI z0.fK, b1, c1, d1, g1]), (11, vP y0)]) (fun ⟨b1, c1, d1, g1, y0⟩ V1 => St w V1 [.cells y0 [vI 0, vN, vN, vN, vN] 48, .cells B0 [vI c0.2.1.fGroups, vI c0.2.1.fParties, vI c0.2.1.fLevels, F0] 41, .cells A0 [vI c0.1.fN, E0] 38, .cells C1 [.int .u8 (a2.1.toNat : Int), .int .u8 (a2.2.toNat : Int)] 34] ∧ Tr w46 [.cells B0 [vI c0.2.1.fGroups, vI c0.2.1.fParties, vI c0.2.1.fLevels, F0] 41, .cells A0 [vI c0.1.fN, E0] 38, .cells C1 [.int .u8 (a2.1.toNat : Int), .int .u8 (a2.2.toNat : Int)] 34, .cells R5 [.int .u8 (a1.fWhat.toNat : Int), .int .u8 (a1.fAt.toNat : Int), vI a1.fN] 33, .cells b5 [.int .u8 (a0.fD.fN.toNat : Int), v0_1, v0_2, v0_3, .int .u8 (a0.fD.fK.toNat : Int), .int .u8 (a0.fX.fGroups.toNat : Int), .int .u8 (a0.fX.fParties.toNat : Int), .int .u8 (a0.fX.fLevels.toNat : Int), .int .u8 (a0.fX.fWater.toNat : Int), v0_9, v0_10] 31] V1 [.cells y0 [vI 0, vN, vN, vN, vN] 48, .cells B0 [vI c0.2.1.fGroups, vI c0.2.1.fParties, vI c0.2.1.fLevels, F0] 41, .cells A0 [vI c0.1.fN, E0] 38, .cells C1 [.int .u8 (a2.1.toNat : Int), .int .u8 (a2.2.toNat : Int)] 34] ∧ Rep.R V1 (bl [.cells y0 [vI 0, vN, vN, vN, vN] 48, .cells B0 [vI c0.2.1.fGroups, vI c0.2.1.fParties, vI c0.2.1.fLevels, F0] 41, .cells A0 [vI c0.1.fN, E0] 38, .cells C1 [.int .u8 (a2.1.toNat : Int), .int .u8 (a2.2.toNat : Int)] 34] ++ L) [b1] z0.fPlan ∧ Rep.R V1 (bl [.cells y0 [vI 0, vN, vN, vN, vN] 48, .cells B0 [vI c0.2.1.fGroups, vI c0.2.1.fParties, vI c0.2.1.fLevels, F0] 41, .cells A0 [vI c0.1.fN, E0] 38, .cells C1 [.int .u8 (a2.1.toNat : Int), .int .u8 (a2.2.toNat : Int)] 34] ++ L) [c1] z0.fTotals ∧ Rep.R V1 (bl [.cells y0 [vI 0, vN, vN, vN, vN] 48, .cells B0 [vI c0.2.1.fGroups, vI c0.2.1.fParties, vI c0.2.1.fLevels, F0] 41, .cells A0 [vI c0.1.fN, E0] 38, .cells C1 [.int .u8 (a2.1.toNat : Int), .int .u8 (a2.2.toNat : Int)] 34] ++ L) [d1] z0.fDone ∧ Rep.R V1 (bl [.cells y0 [vI 0, vN, vN, vN, vN] 48, .cells B0 [vI c0.2.1.fGroups, vI c0.2.1.fParties, vI c0.2.1.fLevels, F0] 41, .cells A0 [vI c0.1.fN, E0] 38, .cells C1 [.int .u8 (a2.1.toNat : Int), .int .u8 (a2.2.toNat : Int)] 34] ++ L) [g1] z0.fUndone) 1 1023 ?_ ?_
 rintro ⟨b1, c1, d1, g1, y0⟩ V1 ⟨G6, x7, A2, B2, b3, c3⟩
 try dsimp only
 refine RD.nw 10 2047 D0 rfl rfl .plain (Acts.storeAll (news := [vI z0.fK, b1, c1, d1, g1]) G6 .hd rfl rfl rfl rfl rfl rfl (o5 rfl (Rep.o1 A2) (Rep.o1 B2) (Rep.o1 b3) (Rep.o1 c3))) (fun t06 k0 X1 => ?_)
 refine RD.done (doneD_ok D0 (by kernel_rfl)) <| MX.seq <| MX.drawT 13 tb5_5 (by kernel_rfl) (by kernel_rfl) (by kernel_rfl) (fun Z0 j1 => ?_)
 refine RD.vw 0 1 Z0 rfl j1 (fun _ => FV.indexArr (m := 1) (k := 0) (len := 2) (by kernel_rfl) rfl rfl rfl (by omega)) rfl <| RD.vx 1 3 6180 Z0 rfl j1 (FV.l1 rfl ((k0.memA (.tl (.tl (.tl .hd)))) 0 _ rfl)) rfl ?_
 have H05 := a2.1.toNat_lt
 refine RD.vw 2 7 Z0 rfl j1 (fun _ => FV.convN (i := a2.1.toNat) Tryz.underlying5 Tryz.underlying3 rfl (by omega)) rfl <| RD.vw 3 15 Z0 rfl j1 (fun _ => FV.fa 0 rfl) rfl <| RD.vx 4 31 6176 Z0 rfl j1 (FV.l1 rfl ((k0.memA (.tl (.tl .hd))) 0 _ rfl)) rfl ?_
 obtain ⟨I1, C01, h⟩ := bi h
 refine RD.vw 5 63 Z0 rfl j1 (fun _ => FV.remc (i := ((a2.1.toNat : Nat) : Int)) (j := c0.1.fN) rfl rfl C01) rfl <| RD.vw 6 127 Z0 rfl j1 (fun _ => FV.indexArr (m := 1) (k := 1) (len := 2) (by kernel_rfl) rfl rfl rfl (by omega)) rfl <| RD.vx 7 255 5376 Z0 rfl j1 (FV.l1 rfl ((k0.memA (.tl (.tl (.tl .hd)))) 1 _ rfl)) rfl ?_
 have I05 := a2.2.toNat_lt
 refine RD.vw 8 511 Z0 rfl j1 (fun _ => FV.convN (i := a2.2.toNat) Tryz.underlying5 Tryz.underlying3 rfl (by omega)) rfl <| RD.vw 9 1023 Z0 rfl j1 (fun _ => FV.move rfl) rfl ?_
 obtain ⟨J1, D01, h⟩ := bi h
 refine RD.vw 10 2047 Z0 rfl j1 (fun _ => FV.remc (i := ((a2.2.toNat : Nat) : Int)) (j := c0.2.2.2) rfl rfl D01) rfl <| RD.vw 11 4095 Z0 rfl j1 (fun _ => FV.assign rfl) rfl <| RD.vw 12 8191 Z0 rfl j1 (fun _ => FV.assign rfl) rfl <| RD.done (doneD_ok Z0 (by kernel_rfl)) <| MX.sr <| RG.va (FV.lN rfl (k0.memA (.tl (.tl .hd)))) <| RG.va (FV.lN rfl (k0.memA (.tl .hd))) <| RG.va (FV.lN rfl (k0.memA .hd)) ?_
 obtain ⟨d2, H02, h⟩ := bi h
 have W3 := Tt Z1 (Tt v2 (Tt x7 X1))
 have I3 := Rep.mv D1 W3
 have J3 := Rep.mv y1 W3
 have K3 := Rep.mv A2 X1
 have M3 := Rep.mv B2 X1
 have P3 := Rep.mv b3 X1
 have Q3 := Rep.mv c3 X1
 refine RG.cq (vI d2) body21 rfl (e3 rfl rfl rfl) (fun w9 hw9 => wardmoteref26_Check_c n _ w9 (k0.hL0 hL hw9) c0.1 (k0.kd I3 hw9) c0.2.1 (k0.kd J3 hw9) z0 (k0.kd K3 hw9) (k0.kd M3 hw9) (k0.kd P3 hw9) (k0.kd Q3 hw9) H02) rfl <| RG.so rfl <| RG.nil <| MX.seq <| MX.sr <| RG.va (FV.lN rfl (k0.memA (.tl (.tl .hd)))) <| RG.va (FV.lN rfl (k0.memA (.tl .hd))) <| RG.va (FV.lN rfl (k0.memA .hd)) ?_
 obtain ⟨F5, I02, h⟩ := bi h
 refine RG.cq (vI F5) body16 rfl (e3 rfl rfl rfl) (fun w9 hw9 => edit_Check_c n _ w9 (k0.hL0 hL hw9) c0.1 (k0.kd I3 hw9) c0.2.1 (k0.kd J3 hw9) z0 (k0.kd K3 hw9) (k0.kd M3 hw9) (k0.kd P3 hw9) (k0.kd Q3 hw9) I02) rfl <| RG.mo rfl <| RG.va (FV.neq (i := F5) (j := d2) rfl rfl) <| RG.nil <| MX.ifn rfl h (fun c6 h => ?_) (fun c6 h => ?_)
 refine MX.skip <| MX.sr <| RG.va (FV.lN rfl (k0.memA (.tl (.tl .hd)))) <| RG.va (FV.lN rfl (k0.memA (.tl .hd))) <| RG.va (FV.lN rfl (k0.memA .hd)) <| RG.mo rfl <| RG.mo rfl ?_
 obtain ⟨d0, J02, h⟩ := bi h
 refine RG.call' (fst := []) (cap := []) .plain body13 rfl (e5 rfl rfl rfl rfl rfl) (fun w9 hw9 => edit_Make_c n _ w9 (k0.hL hL hw9) c0.1 (Rep.keep0 I3 hw9) c0.2.1 (Rep.keep0 J3 hw9) z0 (Rep.keep0 K3 hw9) (Rep.keep0 M3 hw9) (Rep.keep0 P3 hw9) (Rep.keep0 Q3 hw9) I1 J1 J02) rfl (fun u06 b06 M7 ⟨p0, q0, s0, t0, hu_, b2, c2, C2, D2⟩ => ?_)
 subst hu_
 obtain ⟨H6, A4⟩ := k0.agr M7
 refine RG.mo rfl <| RG.va (FV.extract rfl rfl) <| RG.va (FV.extract rfl rfl) <| RG.new .plain rfl (Does.al [vI 0, vN, vN, vN, vN] H6) (fun v06 k1 I6 M1 => ?_)
 have z8 := Rep.mv b2 M1
 have A8 := Rep.mv c2 M1
 have B8 := Rep.mv C2 M1
 have C8 := Rep.mv D2 M1
 refine RG.sa [vI d0.1.fK, p0, q0, s0, t0] I6 .hd (o5 rfl (Rep.o1 z8) (Rep.o1 A8) (Rep.o1 B8) (Rep.o1 C8)) (fun x06 j2 A3 => ?_)
 refine RG.so rfl <| RG.nil <| MX.sr <| RG.va (FV.lN rfl (j2.memA (.tl (.tl (.tl .hd))))) <| RG.va (FV.lN rfl (j2.memA (.tl (.tl .hd)))) <| RG.va (FV.lN rfl (j2.memA (.tl .hd))) ?_
 obtain ⟨g0, K02, h⟩ := bi h
 have X3 := Tt W3 (Tt A4 (Tt M1 A3))
 have D8 := Rep.mv D1 X3
 have E8 := Rep.mv y1 X3
 have x2 := Tt X1 (Tt A4 (Tt M1 A3))
 have F8 := Rep.mv A2 x2
 have G8 := Rep.mv B2 x2
 have H8 := Rep.mv b3 x2
 have I8 := Rep.mv c3 x2
 refine RG.call' (fst := []) (cap := []) .plain body17 rfl (e3 rfl rfl rfl) (fun w9 hw9 => edit_Undo_c n _ w9 (j2.hL hL hw9) c0.1 (Rep.keep0 D8 hw9) c0.2.1 (Rep.keep0 E8 hw9) z0 (Rep.keep0 F8 hw9) (Rep.keep0 G8 hw9) (Rep.keep0 H8 hw9) (Rep.keep0 I8 hw9) K02) rfl (fun y06 c06 P7 ⟨I0, J0, K0, M0, hu_, E2, F2, G2, H2⟩ => ?_)
 subst hu_
 obtain ⟨J6, B3⟩ := j2.agr P7
 refine RG.mo rfl <| RG.va (FV.extract rfl rfl) <| RG.va (FV.extract rfl rfl) <| RG.new .plain rfl (Does.al [vI 0, vN, vN, vN, vN] J6) (fun z06 U5 K6 H1 => ?_)
 have J8 := Rep.mv E2 H1
 have K8 := Rep.mv F2 H1
 have M8 := Rep.mv G2 H1
 have P8 := Rep.mv H2 H1
 refine RG.sa [vI g0.1.fK, I0, J0, K0, M0] K6 .hd (o5 rfl (Rep.o1 J8) (Rep.o1 K8) (Rep.o1 M8) (Rep.o1 P8)) (fun A06 k2 V2 => ?_)
 refine RG.so rfl <| RG.nil <| MX.sr <| RG.va (FV.lN rfl (k2.memA (.tl (.tl (.tl (.tl .hd)))))) <| RG.va (FV.lN rfl (k2.memA (.tl (.tl (.tl .hd))))) <| RG.va (FV.lN rfl (k2.memA (.tl (.tl .hd)))) ?_
 obtain ⟨j0, M02, h⟩ := bi h
 have Y1 := Tt X3 (Tt B3 (Tt H1 V2))
 have Q8 := Rep.mv D1 Y1
 have R8 := Rep.mv y1 Y1
 have y2 := Tt x2 (Tt B3 (Tt H1 V2))
 have U8 := Rep.mv A2 y2
 have V8 := Rep.mv B2 y2
 have W8 := Rep.mv b3 y2
 have X8 := Rep.mv c3 y2
 refine RG.call' (fst := []) (cap := []) .plain body20 rfl (e3 rfl rfl rfl) (fun w9 hw9 => edit_Redo_c n _ w9 (k2.hL hL hw9) c0.1 (Rep.keep0 Q8 hw9) c0.2.1 (Rep.keep0 R8 hw9) z0 (Rep.keep0 U8 hw9) (Rep.keep0 V8 hw9) (Rep.keep0 W8 hw9) (Rep.keep0 X8 hw9) M02) rfl (fun B06 d06 Q7 ⟨P0, Q0, R0, U0, hu_, I2, J2, K2, M2⟩ => ?_)
 subst hu_
 obtain ⟨M6, P1⟩ := k2.agr Q7
 refine RG.mo rfl <| RG.va (FV.extract rfl rfl) <| RG.va (FV.extract rfl rfl) <| RG.new .plain rfl (Does.al [vI 0, vN, vN, vN, vN] M6) (fun C06 V5 P6 G0 => ?_)
 have Y8 := Rep.mv I2 G0
 have Z8 := Rep.mv J2 G0
 have b9 := Rep.mv K2 G0
 have c9 := Rep.mv M2 G0
 refine RG.sa [vI j0.1.fK, P0, Q0, R0, U0] P6 .hd (o5 rfl (Rep.o1 Y8) (Rep.o1 Z8) (Rep.o1 b9) (Rep.o1 c9)) (fun D06 K1 p1 => ?_)
 refine RG.so rfl <| RG.nil <| MX.seq <| MX.sr <| RG.mo rfl <| RG.va (FV.neq (i := d2) (j := 0) rfl rfl) <| RG.nil <| MX.ifn rfl h (fun g6 h => ?_) (fun g6 h => ?_)
 refine MX.skip <| MX.seq <| MX.sr <| RG.va (FV.lN rfl (K1.memA (.tl (.tl .hd)))) <| RG.mo rfl ?_
 have x1 := Tt M1 (Tt A3 (Tt B3 (Tt H1 (Tt V2 (Tt P1 (Tt G0 p1))))))
 have P4 := Rep.mv b2 x1
 obtain ⟨C03, x04, H01, _⟩ := Rep.sl P4
 have Q4 := Rep.mv c2 x1
 obtain ⟨D03, y04, I01, _⟩ := Rep.sl Q4
 have R4 := Rep.mv C2 x1
 obtain ⟨E03, z04, J01, _⟩ := Rep.sl R4
 have U4 := Rep.mv D2 x1
 obtain ⟨F03, A04, K01, _⟩ := Rep.sl U4
 refine RG.va (FV.buildV (vs := [.agg #[vI d0.1.fK, p0, q0, s0, t0], vI d0.2]) (u := .agg #[vI d0.1.fK, p0, q0, s0, t0, vI d0.2]) (e2 rfl rfl) (fun w9 => by rw [H01, I01, J01, K01]; try kernel_rfl)) <| RG.va (FV.lN rfl (K1.memA (.tl .hd))) <| RG.mo rfl ?_
 have z2 := Tt H1 (Tt V2 (Tt P1 (Tt G0 p1)))
 have V4 := Rep.mv E2 z2
 obtain ⟨G03, B04, M01, _⟩ := Rep.sl V4
 have W4 := Rep.mv F2 z2
 obtain ⟨H03, C04, P01, _⟩ := Rep.sl W4
 have X4 := Rep.mv G2 z2
 obtain ⟨I03, D04, Q01, _⟩ := Rep.sl X4
 have Y4 := Rep.mv H2 z2
 obtain ⟨J03, E04, R01, _⟩ := Rep.sl Y4
 refine RG.va (FV.buildV (vs := [.agg #[vI g0.1.fK, I0, J0, K0, M0], vI g0.2]) (u := .agg #[vI g0.1.fK, I0, J0, K0, M0, vI g0.2]) (e2 rfl rfl) (fun w9 => by rw [M01, P01, Q01, R01]; try kernel_rfl)) <| RG.va (FV.lN rfl (K1.memA .hd)) <| RG.mo rfl ?_
 have Z4 := Rep.mv I2 (Tt G0 p1)
 obtain ⟨K03, F04, U01, _⟩ := Rep.sl Z4
 have c5 := Rep.mv J2 (Tt G0 p1)
 obtain ⟨M03, G04, V01, _⟩ := Rep.sl c5
 have d5 := Rep.mv K2 (Tt G0 p1)
 obtain ⟨P03, H04, W01, _⟩ := Rep.sl d5
 have g5 := Rep.mv M2 (Tt G0 p1)
 obtain ⟨Q03, I04, X01, _⟩ := Rep.sl g5
 refine RG.va (FV.buildV (vs := [.agg #[vI j0.1.fK, P0, Q0, R0, U0], vI j0.2]) (u := .agg #[vI j0.1.fK, P0, Q0, R0, U0, vI j0.2]) (e2 rfl rfl) (fun w9 => by rw [U01, V01, W01, X01]; try kernel_rfl)) ?_
 obtain ⟨R03, J04, Y01, _⟩ := Rep.sl P4
 obtain ⟨U03, K04, Z01, _⟩ := Rep.sl Q4
 obtain ⟨V03, M04, b02, _⟩ := Rep.sl R4
 obtain ⟨W03, P04, c02, _⟩ := Rep.sl U4
 obtain ⟨X03, Q04, d02, _⟩ := Rep.sl V4
 obtain ⟨Y03, R04, g02, _⟩ := Rep.sl W4
 obtain ⟨Z03, U04, j02, _⟩ := Rep.sl X4
 obtain ⟨b04, V04, k02, _⟩ := Rep.sl Y4
 obtain ⟨c04, W04, p02, _⟩ := Rep.sl Z4
 obtain ⟨d04, X04, q02, _⟩ := Rep.sl c5
 obtain ⟨g04, Y04, s02, _⟩ := Rep.sl d5
 obtain ⟨j04, Z04, t02, _⟩ := Rep.sl g5
 refine RG.va (FV.buildV (vs := [.agg #[vI d0.1.fK, p0, q0, s0, t0, vI d0.2], .agg #[vI g0.1.fK, I0, J0, K0, M0, vI g0.2], .agg #[vI j0.1.fK, P0, Q0, R0, U0, vI j0.2]]) (u := .agg #[vI d0.1.fK, p0, q0, s0, t0, vI d0.2, vI g0.1.fK, I0, J0, K0, M0, vI g0.2, vI j0.1.fK, P0, Q0, R0, U0, vI j0.2]) (e3 rfl rfl rfl) (fun w9 => by rw [Y01, Z01, b02, c02, d02, g02, j02, k02, p02, q02, s02, t02]; try kernel_rfl)) <| RG.mo rfl <| RG.nil <| MX.block <| MX.loop1 <| MX.sr <| RG.va (FV.lssN (i := 0) (j := 3) rfl rfl) <| RG.nil <| MX.seq <| MX.cond_t rfl <| MX.skip <| MX.seq <| MX.block <| MX.sr <| RG.va (FV.idxN (cs := [vI d0.1.fK, p0, q0, s0, t0, vI d0.2, vI g0.1.fK, I0, J0, K0, M0, vI g0.2, vI j0.1.fK, P0, Q0, R0, U0, vI j0.2]) (k := 0) (m := 6) (len := 3) (by kernel_rfl) (by kernel_rfl) rfl rfl rfl (by omega) rfl) <| RG.new .plain rfl (Does.al [vI 0, vN, vN, vN, vN, vI 0] K1) (fun E06 W5 Q6 W0 => ?_)
 have d9 := Rep.mv b2 (Tt x1 W0)
 have g9 := Rep.mv c2 (Tt x1 W0)
 have j9 := Rep.mv C2 (Tt x1 W0)
 have k9 := Rep.mv D2 (Tt x1 W0)
 refine RG.sa [vI d0.1.fK, p0, q0, s0, t0, vI d0.2] Q6 .hd (o6 rfl (Rep.o1 d9) (Rep.o1 g9) (Rep.o1 j9) (Rep.o1 k9) rfl) (fun s03 u0 B1 => ?_)
 refine RG.nil <| MX.seq <| MX.join (α := Bool) (fun P2 => [(7, vP A0), (8, vP B0), (11, vP y0), (12, vI I1), (13, vI J1), (15, vP k1), (16, vI d0.2), (110, .agg #[vI d0.1.fK, p0, q0, s0, t0, vI d0.2, vI g0.1.fK, I0, J0, K0, M0, vI g0.2, vI j0.1.fK, P0, Q0, R0, U0, vI j0.2]), (111, vI 0), (136, .bool P2)]) (fun P2 s4 => St w s4 [.cells k1 [vI d0.1.fK, p0, q0, s0, t0] 48, .cells y0 [vI z0.fK, b1, c1, d1, g1] 48, .cells B0 [vI c0.2.1.fGroups, vI c0.2.1.fParties, vI c0.2.1.fLevels, F0] 41, .cells A0 [vI c0.1.fN, E0] 38] ∧ Tr s03 [.cells W5 [vI d0.1.fK, p0, q0, s0, t0, vI d0.2] 66, .cells V5 [vI j0.1.fK, P0, Q0, R0, U0] 48, .cells U5 [vI g0.1.fK, I0, J0, K0, M0] 48, .cells k1 [vI d0.1.fK, p0, q0, s0, t0] 48, .cells y0 [vI z0.fK, b1, c1, d1, g1] 48, .cells B0 [vI c0.2.1.fGroups, vI c0.2.1.fParties, vI c0.2.1.fLevels, F0] 41, .cells A0 [vI c0.1.fN, E0] 38, .cells C1 [.int .u8 (a2.1.toNat : Int), .int .u8 (a2.2.toNat : Int)] 34] s4 [.cells k1 [vI d0.1.fK, p0, q0, s0, t0] 48, .cells y0 [vI z0.fK, b1, c1, d1, g1] 48, .cells B0 [vI c0.2.1.fGroups, vI c0.2.1.fParties, vI c0.2.1.fLevels, F0] 41, .cells A0 [vI c0.1.fN, E0] 38]) (fun P2 => P2) h ?_ ?_
 rintro P2 s4 ⟨x4, Q1⟩ h
 try dsimp only at h
 refine MX.ifb rfl h (fun j6 h => ?_) (fun j6 h => ?_)
 refine MX.sr <| RG.so rfl <| RG.nil <| MX.ret rfl <| RT.t1 hb0 Tryz.func5 rfl rfl ?_
 cases h
 exact x4.gv
 refine MX.skip <| MX.inBlock <| MX.region <| RG.va (FV.add (i := 0) (j := 1) (r := 1) rfl rfl (by decide)) <| RG.mo rfl <| RG.nil <| MX.again1 <| MX.sr <| RG.va (FV.lssN (i := 1) (j := 3) rfl rfl) <| RG.nil <| MX.seq <| MX.cond_t rfl <| MX.skip <| MX.seq <| MX.block <| MX.sr <| RG.va (FV.idxN (cs := [vI d0.1.fK, p0, q0, s0, t0, vI d0.2, vI g0.1.fK, I0, J0, K0, M0, vI g0.2, vI j0.1.fK, P0, Q0, R0, U0, vI j0.2]) (k := 1) (m := 6) (len := 3) (by kernel_rfl) (by kernel_rfl) rfl rfl rfl (by omega) rfl) <| RG.new .plain rfl (Does.al [vI 0, vN, vN, vN, vN, vI 0] x4) (fun F06 X5 R6 R1 => ?_)
 have s1 := Tt z2 (Tt W0 (Tt B1 (Tt Q1 R1)))
 have p9 := Rep.mv E2 s1
 have q9 := Rep.mv F2 s1
 have s9 := Rep.mv G2 s1
 have t9 := Rep.mv H2 s1
 refine RG.sa [vI g0.1.fK, I0, J0, K0, M0, vI g0.2] R6 .hd (o6 rfl (Rep.o1 p9) (Rep.o1 q9) (Rep.o1 s9) (Rep.o1 t9) rfl) (fun t03 v0 X0 => ?_)
 refine RG.nil <| MX.seq <| MX.join (α := Bool) (fun Q2 => [(7, vP A0), (8, vP B0), (11, vP y0), (12, vI I1), (13, vI J1), (15, vP k1), (16, vI d0.2), (110, .agg #[vI d0.1.fK, p0, q0, s0, t0, vI d0.2, vI g0.1.fK, I0, J0, K0, M0, vI g0.2, vI j0.1.fK, P0, Q0, R0, U0, vI j0.2]), (111, vI 1), (136, .bool Q2)]) (fun Q2 t4 => St w t4 [.cells k1 [vI d0.1.fK, p0, q0, s0, t0] 48, .cells y0 [vI z0.fK, b1, c1, d1, g1] 48, .cells B0 [vI c0.2.1.fGroups, vI c0.2.1.fParties, vI c0.2.1.fLevels, F0] 41, .cells A0 [vI c0.1.fN, E0] 38] ∧ Tr t03 [.cells X5 [vI g0.1.fK, I0, J0, K0, M0, vI g0.2] 66, .cells k1 [vI d0.1.fK, p0, q0, s0, t0] 48, .cells y0 [vI z0.fK, b1, c1, d1, g1] 48, .cells B0 [vI c0.2.1.fGroups, vI c0.2.1.fParties, vI c0.2.1.fLevels, F0] 41, .cells A0 [vI c0.1.fN, E0] 38] t4 [.cells k1 [vI d0.1.fK, p0, q0, s0, t0] 48, .cells y0 [vI z0.fK, b1, c1, d1, g1] 48, .cells B0 [vI c0.2.1.fGroups, vI c0.2.1.fParties, vI c0.2.1.fLevels, F0] 41, .cells A0 [vI c0.1.fN, E0] 38]) (fun Q2 => Q2) h ?_ ?_
 rintro Q2 t4 ⟨y4, p2⟩ h
 try dsimp only at h
 refine MX.ifb rfl h (fun k6 h => ?_) (fun k6 h => ?_)
 refine MX.sr <| RG.so rfl <| RG.nil <| MX.ret rfl <| RT.t1 hb0 Tryz.func5 rfl rfl ?_
 cases h
 exact y4.gv
 refine MX.skip <| MX.inBlock <| MX.region <| RG.va (FV.add (i := 1) (j := 1) (r := 2) rfl rfl (by decide)) <| RG.mo rfl <| RG.nil <| MX.again1 <| MX.sr <| RG.va (FV.lssN (i := 2) (j := 3) rfl rfl) <| RG.nil <| MX.seq <| MX.cond_t rfl <| MX.skip <| MX.seq <| MX.block <| MX.sr <| RG.va (FV.idxN (cs := [vI d0.1.fK, p0, q0, s0, t0, vI d0.2, vI g0.1.fK, I0, J0, K0, M0, vI g0.2, vI j0.1.fK, P0, Q0, R0, U0, vI j0.2]) (k := 2) (m := 6) (len := 3) (by kernel_rfl) (by kernel_rfl) rfl rfl rfl (by omega) rfl) <| RG.new .plain rfl (Does.al [vI 0, vN, vN, vN, vN, vI 0] y4) (fun G06 Y5 U6 q2 => ?_)
 have u1 := Tt G0 (Tt p1 (Tt W0 (Tt B1 (Tt Q1 (Tt R1 (Tt X0 (Tt p2 q2)))))))
 have u9 := Rep.mv I2 u1
 have v9 := Rep.mv J2 u1
 have x9 := Rep.mv K2 u1
 have y9 := Rep.mv M2 u1
 refine RG.sa [vI j0.1.fK, P0, Q0, R0, U0, vI j0.2] U6 .hd (o6 rfl (Rep.o1 u9) (Rep.o1 v9) (Rep.o1 x9) (Rep.o1 y9) rfl) (fun u03 x0 q1 => ?_)
 refine RG.nil <| MX.seq <| MX.join (α := Bool) (fun R2 => [(7, vP A0), (8, vP B0), (11, vP y0), (12, vI I1), (13, vI J1), (15, vP k1), (16, vI d0.2), (110, .agg #[vI d0.1.fK, p0, q0, s0, t0, vI d0.2, vI g0.1.fK, I0, J0, K0, M0, vI g0.2, vI j0.1.fK, P0, Q0, R0, U0, vI j0.2]), (111, vI 2), (136, .bool R2)]) (fun R2 u4 => St w u4 [.cells k1 [vI d0.1.fK, p0, q0, s0, t0] 48, .cells y0 [vI z0.fK, b1, c1, d1, g1] 48, .cells B0 [vI c0.2.1.fGroups, vI c0.2.1.fParties, vI c0.2.1.fLevels, F0] 41, .cells A0 [vI c0.1.fN, E0] 38] ∧ Tr u03 [.cells Y5 [vI j0.1.fK, P0, Q0, R0, U0, vI j0.2] 66, .cells k1 [vI d0.1.fK, p0, q0, s0, t0] 48, .cells y0 [vI z0.fK, b1, c1, d1, g1] 48, .cells B0 [vI c0.2.1.fGroups, vI c0.2.1.fParties, vI c0.2.1.fLevels, F0] 41, .cells A0 [vI c0.1.fN, E0] 38] u4 [.cells k1 [vI d0.1.fK, p0, q0, s0, t0] 48, .cells y0 [vI z0.fK, b1, c1, d1, g1] 48, .cells B0 [vI c0.2.1.fGroups, vI c0.2.1.fParties, vI c0.2.1.fLevels, F0] 41, .cells A0 [vI c0.1.fN, E0] 38]) (fun R2 => R2) h ?_ ?_
 rintro R2 u4 ⟨E1, C3⟩ h
 try dsimp only at h
 refine MX.ifb rfl h (fun p6 h => ?_) (fun p6 h => ?_)
 refine MX.sr <| RG.so rfl <| RG.nil <| MX.ret rfl <| RT.t1 hb0 Tryz.func5 rfl rfl ?_
 cases h
 exact E1.gv
 refine MX.skip <| MX.inBlock <| MX.region <| RG.va (FV.add (i := 2) (j := 1) (r := 3) rfl rfl (by decide)) <| RG.mo rfl <| RG.nil <| MX.again1 <| MX.sr <| RG.va (FV.lssN (i := 3) (j := 3) rfl rfl) <| RG.nil <| MX.seq <| MX.cond_f rfl <| MX.exit rfl <| MX.seq <| MX.sr <| RG.mo rfl <| RG.va (FV.neq (i := d0.2) (j := 0) rfl rfl) <| RG.nil <| MX.ifn rfl h (fun q6 h => ?_) (fun q6 h => ?_)
 refine MX.skip <| MX.sr <| RG.fa 2 rfl <| RG.l1 rfl ((E1.memA (.tl .hd)) 2 _ rfl) ?_
 obtain ⟨A03, Q02, h⟩ := bi h
 have j5 := Tt y2 (Tt P1 (Tt G0 (Tt p1 (Tt W0 (Tt B1 (Tt Q1 (Tt R1 (Tt X0 (Tt p2 (Tt q2 (Tt q1 C3)))))))))))
 have z9 := Rep.mv B2 j5
 refine RG.call' (fst := []) (cap := []) .plain body22 rfl (e1 rfl) (fun w9 hw9 => own_gives (b0 := w.heap.size) (slices_Clone_int_int_c n _ w9 (E1.hL hL hw9) z0.fTotals (Rep.keep0 z9 hw9) Q02) hw9 (Nat.le_trans E1.ag.size hw9.size)) rfl (fun I06 g06 z05 ⟨M05, B6, G01, z5, X7⟩ => ?_)
 subst G01
 have W1 := own_push E1 z5
 have D3 := own_tr E1 z5
 have F4 := Cells.at_ (cs := B6) (xs := (A03 : List Int)) W1 L (own_cells X7)
 refine RG.so rfl <| RG.nil <| MX.seq <| MX.drawT 16 tb5_23 (by kernel_rfl) (by kernel_rfl) (by kernel_rfl) (fun C0 H0 => ?_)
 refine RD.vw 0 1 C0 rfl H0 (fun _ => FV.move rfl) rfl <| RD.vw 1 3 C0 rfl H0 (fun _ => FV.fa 1 rfl) rfl <| RD.vx 2 7 114928 C0 rfl H0 (FV.l1 rfl ((W1.memA (.tl (.tl .hd))) 1 _ rfl)) rfl <| RD.vw 3 15 C0 rfl H0 (fun _ => FV.move rfl) rfl ?_
 obtain ⟨k3, u02, h⟩ := bi h
 obtain ⟨q8, v02⟩ := idx_in u02
 have B9 := Rep.mv A2 (Tt j5 D3)
 obtain ⟨k04, b05, Z7, t8, C6, p01, A9⟩ := Rep.nth B9 v02
 have b8 : C6 = [vI k3] := p01; subst b8
 refine RD.vw 4 31 C0 rfl H0 (fun _ => FV.ia 1 (I1.toNat) rfl Z7 rfl q8 t8) rfl <| RD.vx 5 63 114880 C0 rfl H0 (FV.l1 rfl (A9 0 _ rfl)) rfl ?_
 obtain ⟨B5, x02, h⟩ := bi h
 obtain ⟨J4, y02⟩ := idx_in x02
 obtain ⟨P5, c05, W2, G3, D6, q01, C9⟩ := St.nth (α := Int) W1 .hd F4 y02
 obtain ⟨Z5, d05, H4⟩ := St.nthOwn (α := Int) W1 .hd G3
 obtain rfl : P5 = ⟨Z5, 0, none⟩ := by rw [H4] at W2; cases W2; rfl
 have c8 : D6 = [vI B5] := q01; subst c8
 refine RD.vw 6 127 C0 rfl H0 (fun _ => FV.ia 1 (k3.toNat) rfl W2 rfl J4 G3) rfl <| RD.vx 7 255 114688 C0 rfl H0 (FV.l1 rfl (C9 0 _ rfl)) rfl <| RD.vw 8 511 C0 rfl H0 (fun _ => FV.fa 3 rfl) rfl <| RD.vx 9 1023 129024 C0 rfl H0 (FV.l1 rfl ((W1.memA (.tl (.tl (.tl .hd)))) 3 _ rfl)) rfl <| RD.vw 10 2047 C0 rfl H0 (fun _ => FV.move rfl) rfl ?_
 obtain ⟨C5, z02, h⟩ := bi h
 obtain ⟨K4, x5⟩ := idx_in z02
 have k5 := Tt Y1 (Tt P1 (Tt G0 (Tt p1 (Tt W0 (Tt B1 (Tt Q1 (Tt R1 (Tt X0 (Tt p2 (Tt q2 (Tt q1 (Tt C3 D3))))))))))))
 have E9 := Rep.mv y1 k5
 obtain ⟨p04, g05, d8, v8, s05, s01, D9⟩ := Rep.nth E9 x5
 obtain ⟨P05, Q05, R05, rfl, B05, C05, D05⟩ := op_TUnit s01
 refine RD.vw 11 4095 C0 rfl H0 (fun _ => FV.ia 6 (I1.toNat) rfl d8 rfl K4 v8) rfl <| RD.vw 12 8191 C0 rfl H0 (fun _ => FV.fa 1 rfl) rfl <| RD.vx 13 16383 114688 C0 rfl H0 (FV.l1 rfl (D9 1 _ rfl)) rfl ?_
 obtain ⟨J05, E01, h⟩ := bi h
 refine RD.vw 14 32767 C0 rfl H0 (fun _ => FV.subc (i := B5) (j := C5.fPeople) rfl rfl E01) rfl <| RD.vw 15 65535 C0 rfl H0 (fun _ => FV.ia 1 (k3.toNat) rfl W2 rfl J4 G3) rfl ?_
 obtain ⟨W06, E02, h⟩ := bi h
 refine RD.one (i := 16) (readyD_ok C0 (by kernel_rfl)) (RO.acts (m' := 131071) (stepC_ok C0 (by kernel_rfl)) rfl rfl .plain (Acts.set (α := Int) (i := k3.toNat) E02 W1 H4 (fun _ => .hd) F4 rfl rfl rfl rfl rfl (by kernel_rfl)) (fun J06 ⟨t05, U2, B4, G4⟩ => ?_))
 refine RD.done (doneD_ok C0 (by kernel_rfl)) <| MX.seq <| MX.drawT 12 tb5_24 (by kernel_rfl) (by kernel_rfl) (by kernel_rfl) (fun V0 v1 => ?_)
 refine RD.vw 0 1 V0 rfl v1 (fun _ => FV.move rfl) rfl <| RD.vw 1 3 V0 rfl v1 (fun _ => FV.move rfl) rfl ?_
 obtain ⟨D5, A02, h⟩ := bi h
 obtain ⟨M4, B02⟩ := idx_in A02
 obtain ⟨Q5, j05, X2, H3, E6, t01, F9⟩ := St.nth (α := Int) U2 .hd G4 B02
 obtain ⟨b6, k05, I4⟩ := St.nthOwn (α := Int) U2 .hd H3
 obtain rfl : Q5 = ⟨b6, 0, none⟩ := by rw [I4] at X2; cases X2; rfl
 have g8 : E6 = [vI D5] := t01; subst g8
 refine RD.vw 2 7 V0 rfl v1 (fun _ => FV.ia 1 (J1.toNat) rfl X2 rfl M4 H3) rfl <| RD.vx 3 15 7168 V0 rfl v1 (FV.l1 rfl (F9 0 _ rfl)) rfl <| RD.vw 4 31 V0 rfl v1 (fun _ => FV.fa 3 rfl) rfl <| RD.vx 5 63 8064 V0 rfl v1 (FV.l1 rfl ((U2.memA (.tl (.tl (.tl .hd)))) 3 _ rfl)) rfl <| RD.vw 6 127 V0 rfl v1 (fun _ => FV.move rfl) rfl ?_
 have H9 := Rep.mv y1 (Tt k5 B4)
 obtain ⟨q04, p05, j8, x8, u05, u01, G9⟩ := Rep.nth H9 x5
 obtain ⟨U05, V05, W05, rfl, E05, F05, G05⟩ := op_TUnit u01
 refine RD.vw 7 255 V0 rfl v1 (fun _ => FV.ia 6 (I1.toNat) rfl j8 rfl K4 x8) rfl <| RD.vw 8 511 V0 rfl v1 (fun _ => FV.fa 1 rfl) rfl <| RD.vx 9 1023 7168 V0 rfl v1 (FV.l1 rfl (G9 1 _ rfl)) rfl ?_
 obtain ⟨K05, F01, h⟩ := bi h
 refine RD.vw 10 2047 V0 rfl v1 (fun _ => FV.addc (i := D5) (j := C5.fPeople) rfl rfl F01) rfl <| RD.vw 11 4095 V0 rfl v1 (fun _ => FV.ia 1 (J1.toNat) rfl X2 rfl M4 H3) rfl ?_
 obtain ⟨y03, F02, h⟩ := bi h
 refine RD.one (i := 12) (readyD_ok V0 (by kernel_rfl)) (RO.acts (m' := 8191) (stepC_ok V0 (by kernel_rfl)) rfl rfl .plain (Acts.set (α := Int) (i := J1.toNat) F02 U2 I4 (fun _ => .hd) G4 rfl rfl rfl rfl rfl (by kernel_rfl)) (fun K06 ⟨v05, A1, y7, Y7⟩ => ?_))
 refine RD.done (doneD_ok V0 (by kernel_rfl)) <| MX.sr <| RG.mo rfl <| RG.fa 2 rfl <| RG.l1 rfl ((A1.memA (.tl .hd)) 2 _ rfl) ?_
 obtain ⟨B03, R02, h⟩ := bi h
 have p5 := Tt x1 (Tt W0 (Tt B1 (Tt Q1 (Tt R1 (Tt X0 (Tt p2 (Tt q2 (Tt q1 (Tt C3 (Tt D3 (Tt B4 y7)))))))))))
 have I9 := Rep.mv c2 p5
 refine RG.cq (.bool B03) body23 rfl (e2 rfl rfl) (fun w9 hw9 => slices_Equal_int_int_c n _ w9 (A1.hL0 hL hw9) y03 (Rep.keep0 (St.lend (α := Int) (L := L) A1 .hd Y7 hL) hw9) d0.1.fTotals (A1.kd I9 hw9) R02) rfl <| RG.mo rfl <| RG.ifb (s := 181) rfl h (fun s6 h => ?_) (fun s6 h => ?_)
 refine RG.fg 1 rfl <| RG.ga (FV.l1 rfl ((A1.memA (.tl .hd)) 1 _ rfl)) ?_
 have R3 := Rep.mv b2 p5
 have A05 : d0.1.fPlan.length ≤ 281474976710656 := Rep.lenle R3
 refine RG.ga (FV.len (xs := d0.1.fPlan) Tryz.underlying43 rfl R3) <| RG.fg 0 rfl <| RG.ga (FV.l1 rfl ((A1.memA (.tl (.tl (.tl (.tl .hd))))) 0 _ rfl)) <| RG.ga (FV.eql (i := ((d0.1.fPlan.length : Nat) : Int)) (j := c0.1.fN) rfl rfl) <| RG.pt rfl rfl <| RG.mo rfl <| RG.ifd (s := 189) rfl h (fun t6 h => ?_) (fun t6 h => ?_)
 refine RG.fg 1 rfl <| RG.ga (FV.l1 rfl ((A1.memA (.tl .hd)) 1 _ rfl)) <| RG.ga (FV.move rfl) ?_
 obtain ⟨E5, C02, h⟩ := bi h
 obtain ⟨s8, D02⟩ := idx_in C02
 obtain ⟨s04, q05, k8, y8, F6, v01, J9⟩ := Rep.nth R3 D02
 have p8 : F6 = [vI E5] := v01; subst p8
 refine RG.ga (FV.ia 1 (I1.toNat) rfl k8 rfl s8 y8) <| RG.ga (FV.l1 rfl (J9 0 _ rfl)) <| RG.ga (FV.move rfl) <| RG.ga (FV.eql (i := E5) (j := J1) rfl rfl) <| RG.pt rfl rfl <| RG.so rfl <| RG.nil <| MX.ret rfl <| RT.t1 hb0 Tryz.func5 rfl rfl ?_
 cases h
 exact A1.gv
 refine RG.no <| RG.no <| RG.no <| RG.no <| RG.no <| RG.no <| RG.no <| RG.pf rfl rfl <| RG.so rfl <| RG.nil <| MX.ret rfl <| RT.t1 hb0 Tryz.func5 rfl rfl ?_
 cases h
 exact A1.gv
 refine RG.no <| RG.no <| RG.no <| RG.no <| RG.no <| RG.no <| RG.pf rfl rfl <| RG.mo rfl <| RG.no <| RG.no <| RG.no <| RG.no <| RG.no <| RG.no <| RG.no <| RG.pf rfl rfl <| RG.so rfl <| RG.nil <| MX.ret rfl <| RT.t1 hb0 Tryz.func5 rfl rfl ?_
 cases h
 exact A1.gv
 refine MX.sr <| RG.mo rfl <| RG.va (FV.eql (i := d0.2) (j := 2) rfl rfl) <| RG.mo rfl <| RG.ifd (s := 142) rfl h (fun u6 h => ?_) (fun u6 h => ?_)
 refine RG.no <| RG.no <| RG.pt rfl rfl <| RG.so rfl <| RG.nil <| MX.ret rfl <| RT.t1 hb0 Tryz.func5 rfl rfl ?_
 cases h
 exact E1.gv
 refine RG.ga (FV.move rfl) <| RG.ga (FV.eql (i := d0.2) (j := 4) rfl rfl) <| RG.pf rfl rfl <| RG.so rfl <| RG.nil <| MX.ret rfl <| RT.t1 hb0 Tryz.func5 rfl rfl ?_
 cases h
 exact E1.gv
 intro v04 v3 h
 try dsimp only at h
 refine MX.region <| RG.fa 5 rfl <| RG.l1 rfl ((x0.memA .hd) 5 _ rfl) <| RG.va (FV.eql (i := j0.2) (j := 0) rfl rfl) <| RG.mo rfl <| RG.ifd (s := 117) rfl h (fun p3 h => ?_) (fun p3 h => ?_)
 refine RG.ga (FV.lN rfl (x0.memA (.tl (.tl (.tl (.tl .hd)))))) <| RG.ga (FV.lN rfl (x0.memA (.tl (.tl (.tl .hd))))) <| RG.fg 0 rfl <| RG.ga (FV.loadN (cs := [vI j0.1.fK, P0, Q0, R0, U0]) (by kernel_rfl) rfl (mem_part (x0.memA .hd) 0 5)) ?_
 obtain ⟨G5, U02, h⟩ := bi h
 have q5 := Tt Y1 (Tt P1 (Tt G0 (Tt p1 (Tt W0 (Tt B1 (Tt Q1 (Tt R1 (Tt X0 (Tt p2 (Tt q2 q1))))))))))
 have K9 := Rep.mv D1 q5
 have M9 := Rep.mv y1 q5
 have P9 := Rep.mv I2 (Tt u1 q1)
 have Q9 := Rep.mv J2 (Tt u1 q1)
 have R9 := Rep.mv K2 (Tt u1 q1)
 have U9 := Rep.mv M2 (Tt u1 q1)
 refine RG.callq' (v := vI G5) (fst := []) (cap := []) (.yes rfl rfl) body16 rfl (e3 rfl rfl rfl) (fun w9 hw9 => edit_Check_c n _ w9 (x0.hL0 hL hw9) c0.1 (x0.kd K9 hw9) c0.2.1 (x0.kd M9 hw9) j0.1 (x0.kd P9 hw9) (x0.kd Q9 hw9) (x0.kd R9 hw9) (x0.kd U9 hw9) U02) rfl <| RG.ga (FV.neq (i := G5) (j := 0) rfl rfl) <| RG.pt rfl rfl <| RG.mo rfl <| RG.ifn (s := 125) rfl h (fun v6 h => ?_) (fun v6 h => ?_)
 refine RG.fg 5 rfl <| RG.ga (FV.l1 rfl ((x0.memA .hd) 5 _ rfl)) <| RG.ga (FV.neq (i := j0.2) (j := 0) rfl rfl) <| RG.ga (FV.move rfl) <| RG.known (s := 129) rfl (not_of (decide_eq_true p3)) <| RG.no <| RG.no <| RG.no <| RG.no <| RG.no <| RG.ga (FV.pick_f rfl rfl) <| RG.pf rfl rfl <| RG.nil ?_
 obtain ⟨V6, z7⟩ := St.arrB x0 (.one (.tl .hd) (.one (.tl .hd) (.one (.tl .hd) (.one (.tl .hd) .done))))
 exact v3 false _ _ ⟨rfl, rfl, rfl, rfl, rfl, rfl, rfl, rfl, rfl, rfl, trivial⟩ ⟨V6, z7⟩ h
 refine RG.no <| RG.no <| RG.no <| RG.no <| RG.un <| RG.un <| RG.un <| RG.un <| RG.un <| RG.no <| RG.pt rfl rfl <| RG.nil ?_
 obtain ⟨W6, A7⟩ := St.arrB x0 (.one (.tl .hd) (.one (.tl .hd) (.one (.tl .hd) (.one (.tl .hd) .done))))
 exact v3 true _ _ ⟨rfl, rfl, rfl, rfl, rfl, rfl, rfl, rfl, rfl, rfl, trivial⟩ ⟨W6, A7⟩ h
 refine RG.no <| RG.no <| RG.no <| RG.no <| RG.no <| RG.no <| RG.pf rfl rfl <| RG.mo rfl <| RG.fg 5 rfl <| RG.ga (FV.l1 rfl ((x0.memA .hd) 5 _ rfl)) <| RG.ga (FV.neq (i := j0.2) (j := 0) rfl rfl) <| RG.ga (FV.move rfl) <| RG.known (s := 129) rfl (not_of (decide_eq_false p3)) <| RG.fg 0 rfl <| RG.ga (FV.loadN (cs := [vI j0.1.fK, P0, Q0, R0, U0]) (by kernel_rfl) rfl (mem_part (x0.memA .hd) 0 5)) <| RG.ga (FV.buildV (vs := []) (u := .agg #[vI 0, vN, vN, vN, vN]) evs_nil (fun w9 => by kernel_rfl)) ?_
 obtain ⟨H5, V02, h⟩ := bi h
 have V9 := Rep.mv I2 (Tt u1 q1)
 have W9 := Rep.mv J2 (Tt u1 q1)
 have X9 := Rep.mv K2 (Tt u1 q1)
 have Y9 := Rep.mv M2 (Tt u1 q1)
 refine RG.callq' (v := .bool H5) (fst := []) (cap := []) (.yes rfl rfl) body18 rfl (e2 rfl rfl) (fun w9 hw9 => edit_Same_c n _ w9 (x0.hL0 hL hw9) j0.1 (x0.kd V9 hw9) (x0.kd W9 hw9) (x0.kd X9 hw9) (x0.kd Y9 hw9) (⟨(0 : Int), ([] : List Int), ([] : List Int), ([] : List TMove), ([] : List TMove)⟩ : TSession) (Rep.keep0 (Rep.nilSlice _ _) hw9) (Rep.keep0 (Rep.nilSlice _ _) hw9) (Rep.keep0 (Rep.nilSlice _ _) hw9) (Rep.keep0 (Rep.nilSlice _ _) hw9) V02) rfl <| RG.ga (FV.not rfl) <| RG.ga (FV.pick_t rfl rfl) <| RG.pf rfl rfl <| RG.nil ?_
 obtain ⟨X6, B7⟩ := St.arrB x0 (.one (.tl .hd) (.one (.tl .hd) (.one (.tl .hd) (.one (.tl .hd) .done))))
 exact v3 (!H5) _ _ ⟨rfl, rfl, rfl, rfl, rfl, rfl, rfl, rfl, rfl, rfl, trivial⟩ ⟨X6, B7⟩ h
 intro u04 u3 h
 try dsimp only at h
 refine MX.region <| RG.fa 5 rfl <| RG.l1 rfl ((v0.memA .hd) 5 _ rfl) <| RG.va (FV.eql (i := g0.2) (j := 0) rfl rfl) <| RG.mo rfl <| RG.ifd (s := 117) rfl h (fun q3 h => ?_) (fun q3 h => ?_)
 refine RG.ga (FV.lN rfl (v0.memA (.tl (.tl (.tl (.tl .hd)))))) <| RG.ga (FV.lN rfl (v0.memA (.tl (.tl (.tl .hd))))) <| RG.fg 0 rfl <| RG.ga (FV.loadN (cs := [vI g0.1.fK, I0, J0, K0, M0]) (by kernel_rfl) rfl (mem_part (v0.memA .hd) 0 5)) ?_
 obtain ⟨I5, W02, h⟩ := bi h
 have s5 := Tt Y1 (Tt P1 (Tt G0 (Tt p1 (Tt W0 (Tt B1 (Tt Q1 (Tt R1 X0)))))))
 have Z9 := Rep.mv D1 s5
 have b00 := Rep.mv y1 s5
 have c00 := Rep.mv E2 (Tt s1 X0)
 have d00 := Rep.mv F2 (Tt s1 X0)
 have g00 := Rep.mv G2 (Tt s1 X0)
 have j00 := Rep.mv H2 (Tt s1 X0)
 refine RG.callq' (v := vI I5) (fst := []) (cap := []) (.yes rfl rfl) body16 rfl (e3 rfl rfl rfl) (fun w9 hw9 => edit_Check_c n _ w9 (v0.hL0 hL hw9) c0.1 (v0.kd Z9 hw9) c0.2.1 (v0.kd b00 hw9) g0.1 (v0.kd c00 hw9) (v0.kd d00 hw9) (v0.kd g00 hw9) (v0.kd j00 hw9) W02) rfl <| RG.ga (FV.neq (i := I5) (j := 0) rfl rfl) <| RG.pt rfl rfl <| RG.mo rfl <| RG.ifn (s := 125) rfl h (fun x6 h => ?_) (fun x6 h => ?_)
 refine RG.fg 5 rfl <| RG.ga (FV.l1 rfl ((v0.memA .hd) 5 _ rfl)) <| RG.ga (FV.neq (i := g0.2) (j := 0) rfl rfl) <| RG.ga (FV.move rfl) <| RG.known (s := 129) rfl (not_of (decide_eq_true q3)) <| RG.no <| RG.no <| RG.no <| RG.no <| RG.no <| RG.ga (FV.pick_f rfl rfl) <| RG.pf rfl rfl <| RG.nil ?_
 obtain ⟨Y6, C7⟩ := St.arrB v0 (.one (.tl .hd) (.one (.tl .hd) (.one (.tl .hd) (.one (.tl .hd) .done))))
 exact u3 false _ _ ⟨rfl, rfl, rfl, rfl, rfl, rfl, rfl, rfl, rfl, rfl, trivial⟩ ⟨Y6, C7⟩ h
 refine RG.no <| RG.no <| RG.no <| RG.no <| RG.un <| RG.un <| RG.un <| RG.un <| RG.un <| RG.no <| RG.pt rfl rfl <| RG.nil ?_
 obtain ⟨Z6, D7⟩ := St.arrB v0 (.one (.tl .hd) (.one (.tl .hd) (.one (.tl .hd) (.one (.tl .hd) .done))))
 exact u3 true _ _ ⟨rfl, rfl, rfl, rfl, rfl, rfl, rfl, rfl, rfl, rfl, trivial⟩ ⟨Z6, D7⟩ h
 refine RG.no <| RG.no <| RG.no <| RG.no <| RG.no <| RG.no <| RG.pf rfl rfl <| RG.mo rfl <| RG.fg 5 rfl <| RG.ga (FV.l1 rfl ((v0.memA .hd) 5 _ rfl)) <| RG.ga (FV.neq (i := g0.2) (j := 0) rfl rfl) <| RG.ga (FV.move rfl) <| RG.known (s := 129) rfl (not_of (decide_eq_false q3)) <| RG.fg 0 rfl <| RG.ga (FV.loadN (cs := [vI g0.1.fK, I0, J0, K0, M0]) (by kernel_rfl) rfl (mem_part (v0.memA .hd) 0 5)) <| RG.ga (FV.buildV (vs := []) (u := .agg #[vI 0, vN, vN, vN, vN]) evs_nil (fun w9 => by kernel_rfl)) ?_
 obtain ⟨J5, X02, h⟩ := bi h
 have k00 := Rep.mv E2 (Tt s1 X0)
 have p00 := Rep.mv F2 (Tt s1 X0)
 have q00 := Rep.mv G2 (Tt s1 X0)
 have s00 := Rep.mv H2 (Tt s1 X0)
 refine RG.callq' (v := .bool J5) (fst := []) (cap := []) (.yes rfl rfl) body18 rfl (e2 rfl rfl) (fun w9 hw9 => edit_Same_c n _ w9 (v0.hL0 hL hw9) g0.1 (v0.kd k00 hw9) (v0.kd p00 hw9) (v0.kd q00 hw9) (v0.kd s00 hw9) (⟨(0 : Int), ([] : List Int), ([] : List Int), ([] : List TMove), ([] : List TMove)⟩ : TSession) (Rep.keep0 (Rep.nilSlice _ _) hw9) (Rep.keep0 (Rep.nilSlice _ _) hw9) (Rep.keep0 (Rep.nilSlice _ _) hw9) (Rep.keep0 (Rep.nilSlice _ _) hw9) X02) rfl <| RG.ga (FV.not rfl) <| RG.ga (FV.pick_t rfl rfl) <| RG.pf rfl rfl <| RG.nil ?_
 obtain ⟨b7, E7⟩ := St.arrB v0 (.one (.tl .hd) (.one (.tl .hd) (.one (.tl .hd) (.one (.tl .hd) .done))))
 exact u3 (!J5) _ _ ⟨rfl, rfl, rfl, rfl, rfl, rfl, rfl, rfl, rfl, rfl, trivial⟩ ⟨b7, E7⟩ h
 intro t04 t3 h
 try dsimp only at h
 refine MX.region <| RG.fa 5 rfl <| RG.l1 rfl ((u0.memA .hd) 5 _ rfl) <| RG.va (FV.eql (i := d0.2) (j := 0) rfl rfl) <| RG.mo rfl <| RG.ifd (s := 117) rfl h (fun s3 h => ?_) (fun s3 h => ?_)
 refine RG.ga (FV.lN rfl (u0.memA (.tl (.tl (.tl (.tl (.tl (.tl .hd)))))))) <| RG.ga (FV.lN rfl (u0.memA (.tl (.tl (.tl (.tl (.tl .hd))))))) <| RG.fg 0 rfl <| RG.ga (FV.loadN (cs := [vI d0.1.fK, p0, q0, s0, t0]) (by kernel_rfl) rfl (mem_part (u0.memA .hd) 0 5)) ?_
 obtain ⟨K5, Y02, h⟩ := bi h
 have t5 := Tt Y1 (Tt P1 (Tt G0 (Tt p1 (Tt W0 B1))))
 have t00 := Rep.mv D1 t5
 have u00 := Rep.mv y1 t5
 have Y2 := Tt x1 (Tt W0 B1)
 have v00 := Rep.mv b2 Y2
 have x00 := Rep.mv c2 Y2
 have y00 := Rep.mv C2 Y2
 have z00 := Rep.mv D2 Y2
 refine RG.callq' (v := vI K5) (fst := []) (cap := []) (.yes rfl rfl) body16 rfl (e3 rfl rfl rfl) (fun w9 hw9 => edit_Check_c n _ w9 (u0.hL0 hL hw9) c0.1 (u0.kd t00 hw9) c0.2.1 (u0.kd u00 hw9) d0.1 (u0.kd v00 hw9) (u0.kd x00 hw9) (u0.kd y00 hw9) (u0.kd z00 hw9) Y02) rfl <| RG.ga (FV.neq (i := K5) (j := 0) rfl rfl) <| RG.pt rfl rfl <| RG.mo rfl <| RG.ifn (s := 125) rfl h (fun y6 h => ?_) (fun y6 h => ?_)
 refine RG.fg 5 rfl <| RG.ga (FV.l1 rfl ((u0.memA .hd) 5 _ rfl)) <| RG.ga (FV.neq (i := d0.2) (j := 0) rfl rfl) <| RG.ga (FV.move rfl) <| RG.known (s := 129) rfl (not_of (decide_eq_true s3)) <| RG.no <| RG.no <| RG.no <| RG.no <| RG.no <| RG.ga (FV.pick_f rfl rfl) <| RG.pf rfl rfl <| RG.nil ?_
 obtain ⟨c7, F7⟩ := St.arrB u0 (.one (.tl (.tl (.tl .hd))) (.one (.tl (.tl (.tl .hd))) (.one (.tl (.tl (.tl .hd))) (.one (.tl (.tl (.tl .hd))) .done))))
 exact t3 false _ _ ⟨rfl, rfl, rfl, rfl, rfl, rfl, rfl, rfl, rfl, rfl, trivial⟩ ⟨c7, F7⟩ h
 refine RG.no <| RG.no <| RG.no <| RG.no <| RG.un <| RG.un <| RG.un <| RG.un <| RG.un <| RG.no <| RG.pt rfl rfl <| RG.nil ?_
 obtain ⟨d7, G7⟩ := St.arrB u0 (.one (.tl (.tl (.tl .hd))) (.one (.tl (.tl (.tl .hd))) (.one (.tl (.tl (.tl .hd))) (.one (.tl (.tl (.tl .hd))) .done))))
 exact t3 true _ _ ⟨rfl, rfl, rfl, rfl, rfl, rfl, rfl, rfl, rfl, rfl, trivial⟩ ⟨d7, G7⟩ h
 refine RG.no <| RG.no <| RG.no <| RG.no <| RG.no <| RG.no <| RG.pf rfl rfl <| RG.mo rfl <| RG.fg 5 rfl <| RG.ga (FV.l1 rfl ((u0.memA .hd) 5 _ rfl)) <| RG.ga (FV.neq (i := d0.2) (j := 0) rfl rfl) <| RG.ga (FV.move rfl) <| RG.known (s := 129) rfl (not_of (decide_eq_false s3)) <| RG.fg 0 rfl <| RG.ga (FV.loadN (cs := [vI d0.1.fK, p0, q0, s0, t0]) (by kernel_rfl) rfl (mem_part (u0.memA .hd) 0 5)) <| RG.ga (FV.buildV (vs := []) (u := .agg #[vI 0, vN, vN, vN, vN]) evs_nil (fun w9 => by kernel_rfl)) ?_
 obtain ⟨M5, Z02, h⟩ := bi h
 have Z2 := Tt x1 (Tt W0 B1)
 have A00 := Rep.mv b2 Z2
 have B00 := Rep.mv c2 Z2
 have C00 := Rep.mv C2 Z2
 have D00 := Rep.mv D2 Z2
 refine RG.callq' (v := .bool M5) (fst := []) (cap := []) (.yes rfl rfl) body18 rfl (e2 rfl rfl) (fun w9 hw9 => edit_Same_c n _ w9 (u0.hL0 hL hw9) d0.1 (u0.kd A00 hw9) (u0.kd B00 hw9) (u0.kd C00 hw9) (u0.kd D00 hw9) (⟨(0 : Int), ([] : List Int), ([] : List Int), ([] : List TMove), ([] : List TMove)⟩ : TSession) (Rep.keep0 (Rep.nilSlice _ _) hw9) (Rep.keep0 (Rep.nilSlice _ _) hw9) (Rep.keep0 (Rep.nilSlice _ _) hw9) (Rep.keep0 (Rep.nilSlice _ _) hw9) Z02) rfl <| RG.ga (FV.not rfl) <| RG.ga (FV.pick_t rfl rfl) <| RG.pf rfl rfl <| RG.nil ?_
 obtain ⟨g7, H7⟩ := St.arrB u0 (.one (.tl (.tl (.tl .hd))) (.one (.tl (.tl (.tl .hd))) (.one (.tl (.tl (.tl .hd))) (.one (.tl (.tl (.tl .hd))) .done))))
 exact t3 (!M5) _ _ ⟨rfl, rfl, rfl, rfl, rfl, rfl, rfl, rfl, rfl, rfl, trivial⟩ ⟨g7, H7⟩ h
 refine MX.sr <| RG.mo rfl <| RG.mo rfl <| RG.va (FV.eql (i := d0.2) (j := d2) rfl rfl) <| RG.mo rfl <| RG.ifd (s := 91) rfl h (fun z6 h => ?_) (fun z6 h => ?_)
 refine RG.ga (FV.move rfl) <| RG.ga (FV.move rfl) <| RG.ga (FV.eql (i := g0.2) (j := d2) rfl rfl) <| RG.pt rfl rfl <| RG.mo rfl <| RG.ifd (s := 96) rfl h (fun A6 h => ?_) (fun A6 h => ?_)
 refine RG.ga (FV.move rfl) <| RG.ga (FV.move rfl) <| RG.ga (FV.eql (i := j0.2) (j := d2) rfl rfl) <| RG.pt rfl rfl <| RG.so rfl <| RG.nil <| MX.ret rfl <| RT.t1 hb0 Tryz.func5 rfl rfl ?_
 cases h
 exact K1.gv
 refine RG.no <| RG.no <| RG.no <| RG.pf rfl rfl <| RG.so rfl <| RG.nil <| MX.ret rfl <| RT.t1 hb0 Tryz.func5 rfl rfl ?_
 cases h
 exact K1.gv
 refine RG.no <| RG.no <| RG.no <| RG.pf rfl rfl <| RG.mo rfl <| RG.no <| RG.no <| RG.no <| RG.pf rfl rfl <| RG.so rfl <| RG.nil <| MX.ret rfl <| RT.t1 hb0 Tryz.func5 rfl rfl ?_
 cases h
 exact K1.gv
 refine MX.sr <| RG.so rfl <| RG.nil <| MX.ret rfl <| RT.t1 hb0 Tryz.func5 rfl rfl ?_
 cases h
 exact k0.gv
 intro x3
 refine RD.each [7, 9] (readyD_ok D0 (by kernel_rfl)) ⟨?_, ?_, trivial⟩
 have V00 := Rep.mv D1 (Tt Z1 v2)
 have U3 := Rep.mv y1 (Tt Z1 v2)
 have V3 := Rep.mv u5 (Tt Z1 v2)
 refine RO.call (m' := 255) (fst := []) (cap := []) (stepC_ok D0 (by kernel_rfl)) rfl .plain body11 rfl (e5 rfl rfl rfl rfl rfl) (fun w9 hw9 => wardmoteref26_Draft_Session_c n _ w9 (F1.hL hL hw9) a0.fL (F1.km h0_10 hw9) c0.1 (Rep.keep0 V00 hw9) c0.2.1 (Rep.keep0 U3 hw9) c0.2.2.1 (Rep.keep0 V3 hw9) c0.2.2.2 y5) rfl (fun P06 k06 U7 ⟨Y05, b03, c03, d03, hu_, v5, d3, g3, j3⟩ => ?_)
 subst hu_
 obtain ⟨y3, D4⟩ := F1.agr U7
 refine RD.each [8, 9] (readyD_ok D0 (by kernel_rfl)) ⟨?_, ?_, trivial⟩
 refine RO.call (m' := 511) (fst := []) (cap := []) (stepC_ok D0 (by kernel_rfl)) rfl .plain body12 rfl (e2 rfl rfl) (fun w9 hw9 => wardmoteref26_Bend_Of_c n _ w9 (y3.hL hL hw9) a1 v4 (Rep.keep0 v5 hw9) (Rep.keep0 d3 hw9) (Rep.keep0 g3 hw9) (Rep.keep0 j3 hw9) g4) rfl (fun x03 q03 F3 ⟨j4, k4, p4, q4, hu_, Z3, b4, c4, d4⟩ => ?_)
 subst hu_
 obtain ⟨z3, E3⟩ := y3.agr F3
 refine RD.nu 9 1023 D0 rfl .plain rfl (Does.al [vI 0, vN, vN, vN, vN] z3) (fun A5 g2 G1 Y0 => ?_)
 obtain ⟨j7, s2⟩ := St.arrB G1 (.one .hd (.one .hd (.one .hd (.one .hd .done))))
 have E00 := Rep.mv Z3 (Tt Y0 s2)
 have F00 := Rep.mv b4 (Tt Y0 s2)
 have G00 := Rep.mv c4 (Tt Y0 s2)
 have H00 := Rep.mv d4 (Tt Y0 s2)
 have g01 := Tt D4 (Tt E3 (Tt Y0 s2))
 exact x3 (j4, k4, p4, q4, g2) _ _ ⟨rfl, rfl, rfl, rfl, rfl, rfl, trivial⟩ ⟨j7, g01, E00, F00, G00, H00⟩
 refine RO.new (m' := 767) (stepC_ok D0 (by kernel_rfl)) rfl .plain rfl (Does.al [vI 0, vN, vN, vN, vN] y3) (fun A5 g2 G1 Y0 => ?_)
 have Z00 := Rep.mv v5 Y0
 have b01 := Rep.mv d3 Y0
 have c01 := Rep.mv g3 Y0
 have d01 := Rep.mv j3 Y0
 refine RD.cl 8 1023 D0 rfl .plain body12 rfl (e2 rfl rfl) (fun w9 hw9 => wardmoteref26_Bend_Of_c n _ w9 (G1.hL hL hw9) a1 v4 (Rep.keep0 Z00 hw9) (Rep.keep0 b01 hw9) (Rep.keep0 c01 hw9) (Rep.keep0 d01 hw9) g4) rfl (fun V06 q06 W7 ⟨g03, j03, k03, p03, hu_, y01, z01, A01, B01⟩ => ?_)
 subst hu_
 obtain ⟨v7, K7⟩ := G1.agr W7
 obtain ⟨k7, t2⟩ := St.arrB v7 (.one .hd (.one .hd (.one .hd (.one .hd .done))))
 have I00 := Rep.mv y01 t2
 have J00 := Rep.mv z01 t2
 have K00 := Rep.mv A01 t2
 have M00 := Rep.mv B01 t2
 have j01 := Tt D4 (Tt Y0 (Tt K7 t2))
 exact x3 (g03, j03, k03, p03, g2) _ _ ⟨rfl, rfl, rfl, rfl, rfl, rfl, trivial⟩ ⟨k7, j01, I00, J00, K00, M00⟩
 refine RO.new (m' := 639) (stepC_ok D0 (by kernel_rfl)) rfl .plain rfl (Does.al [vI 0, vN, vN, vN, vN] F1) (fun A5 g2 G1 Y0 => ?_)
 have Y3 := Tt Z1 (Tt v2 Y0)
 have U3 := Rep.mv D1 Y3
 have V3 := Rep.mv y1 Y3
 have W00 := Rep.mv u5 Y3
 refine RD.cl 7 767 D0 rfl .plain body11 rfl (e5 rfl rfl rfl rfl rfl) (fun w9 hw9 => wardmoteref26_Draft_Session_c n _ w9 (G1.hL hL hw9) a0.fL (G1.km h0_10 hw9) c0.1 (Rep.keep0 U3 hw9) c0.2.1 (Rep.keep0 V3 hw9) c0.2.2.1 (Rep.keep0 W00 hw9) c0.2.2.2 y5) rfl (fun Q06 p06 V7 ⟨b03, c03, d03, Z05, hu_, d3, g3, j3, x01⟩ => ?_)
 subst hu_
 obtain ⟨z4, I7⟩ := G1.agr V7
 refine RD.cl 8 1023 D0 rfl .plain body12 rfl (e2 rfl rfl) (fun w9 hw9 => wardmoteref26_Bend_Of_c n _ w9 (z4.hL hL hw9) a1 v4 (Rep.keep0 d3 hw9) (Rep.keep0 g3 hw9) (Rep.keep0 j3 hw9) (Rep.keep0 x01 hw9) g4) rfl (fun x03 q03 F3 ⟨j4, k4, p4, q4, hu_, Z3, b4, c4, d4⟩ => ?_)
 subst hu_
 obtain ⟨z3, E3⟩ := z4.agr F3
 obtain ⟨p7, u2⟩ := St.arrB z3 (.one .hd (.one .hd (.one .hd (.one .hd .done))))
 have P00 := Rep.mv Z3 u2
 have Q00 := Rep.mv b4 u2
 have R00 := Rep.mv c4 u2
 have U00 := Rep.mv d4 u2
 have k01 := Tt Y0 (Tt I7 (Tt E3 u2))
 exact x3 (j4, k4, p4, q4, g2) _ _ ⟨rfl, rfl, rfl, rfl, rfl, rfl, trivial⟩ ⟨p7, k01, P00, Q00, R00, U00⟩
 refine MX.sr <| RG.so rfl <| RG.nil <| MX.ret rfl <| RT.t1 hb0 Tryz.func5 rfl rfl ?_
 cases h
 exact z1.gv
end Go.Proofs.YtcijnmkodpfpgaaGreatDoor
