/- Functions of the program, and what they give: part 8. -/
import Derived.Test.YtcijnmkodpfpgaaGreatDoorVF7
namespace Go.Proofs.YtcijnmkodpfpgaaGreatDoor
open Go Go.RowKit
set_option maxRecDepth 4000
set_option maxHeartbeats 4000000

theorem body9 : bodyB Tryz.prog 9 = true := by kernel_rfl
theorem body10 : bodyB Tryz.prog 10 = true := by kernel_rfl
theorem body11 : bodyB Tryz.prog 11 = true := by kernel_rfl
theorem body25 : bodyB Tryz.prog 25 = true := by kernel_rfl
theorem body26 : bodyB Tryz.prog 26 = true := by kernel_rfl
theorem body27 : bodyB Tryz.prog 27 = true := by kernel_rfl
theorem body28 : bodyB Tryz.prog 28 = true := by kernel_rfl
def wardmotelaw26_EditTotals_l1 (n : Nat) (y8 : TGraph × TRoll × (List Int) × Int) (s0 : Nat × Int × (List Int) × (List Int) × (List TMove) × (List TMove) → Option (Bool ⊕ (Int × (List Int) × (List Int) × (List TMove) × (List TMove)))) : Nat × Int × (List Int) × (List Int) × (List TMove) × (List TMove) → Option (Bool ⊕ (Int × (List Int) × (List Int) × (List TMove) × (List TMove)))
  | (p0, k0, d0, g0, c0, j0) => (if p0 < 200 then (if c0.length = 0 then some (.inr (k0, d0, g0, c0, j0)) else (edit_Undo_p n y8.1 y8.2.1 (⟨k0, d0, g0, c0, j0⟩ : TSession)).bind fun b0 => (balance_Totals_p n y8.2.1 b0.1.fPlan y8.2.2.2).bind fun q0 => (if b0.2 = 0 then (if q0.2 = 0 then (slices_Equal_int_int_p n q0.1 b0.1.fTotals).bind fun t0 => (if t0 = true then s0 (p0 + 1, b0.1.fK, b0.1.fPlan, b0.1.fTotals, b0.1.fDone, b0.1.fUndone) else some (.inl false)) else some (.inl false)) else some (.inl false))) else some (.inr (k0, d0, g0, c0, j0)))
def wardmotelaw26_EditTotals_l2 (n : Nat) (d0 : TSession) (p0 : List Int) (y8 : TGraph × TRoll × (List Int) × Int) (c0 : Nat → Option (Bool ⊕ Unit)) : Nat → Option (Bool ⊕ Unit)
  | b0 => (if b0 < d0.fPlan.length then (d0.fPlan[b0]?).bind fun g0 => (slices_Contains_int_int_p n p0 ((b0 : Nat) : Int)).bind fun k0 => (if k0 = true then c0 (b0 + 1) else (y8.2.2.1[b0]?).bind fun j0 => (if g0 = j0 then c0 (b0 + 1) else some (.inl false))) else some (.inr ()))
def wardmotelaw26_EditTotals_p (n : Nat) (a0 : TScene) : Option Bool :=
  (wardmotelaw26_works_p n).bind fun y6 => (if y6 = true then (wardmotelaw26_Scene_set_p n a0).bind fun y8 => (wardmoteref26_Draft_Session_p n a0.fL y8.1 y8.2.1 y8.2.2.1 y8.2.2.2).bind fun b0 => (balance_Totals_p n y8.2.1 b0.fPlan y8.2.2.2).bind fun j0 => (if j0.2 = 0 then (slices_Equal_int_int_p n j0.1 b0.fTotals).bind fun u0 => (if u0 = true then (if ((b0.fPlan.length : Nat) : Int) = y8.1.fN then (edit_Changed_p n b0).bind fun c0 => (slices_IsSorted_int_int_p n c0).bind fun v0 => (if v0 = true then (if b0.fDone.length < c0.length then some false else thn (loopF (wardmotelaw26_EditTotals_l2 n b0 c0 y8) n 0) (fun _ => jn (fun (x0, d0, p0, g0, q0) => (slices_Equal_api_Plan_int_p n d0 y8.2.2.1).bind fun s0 => (if s0 = true then (if g0.length = 0 then (edit_Changed_p n (⟨x0, d0, p0, g0, q0⟩ : TSession)).bind fun t0 => some (decide (t0.length = 0)) else some false) else some false)) (fun k0 => thn (loopF (wardmotelaw26_EditTotals_l1 n y8) n (0, b0.fK, b0.fPlan, b0.fTotals, b0.fDone, b0.fUndone)) (k0)))) else some false) else some false) else some false) else some false) else some false)
theorem wardmotelaw26_EditTotals_c (n : Nat) (L : List Nat) (w : World) (hL : ∀ b ∈ L, b < w.heap.size) (a0 : TScene) {v0_1 : Value} (h0_1 : Rep.R w L [v0_1] a0.fD.fParents) {v0_2 : Value} (h0_2 : Rep.R w L [v0_2] a0.fD.fMore) {v0_3 : Value} (h0_3 : Rep.R w L [v0_3] a0.fD.fLabels) {v0_9 : Value} (h0_9 : Rep.R w L [v0_9] a0.fX.fNums) {v0_10 : Value} (h0_10 : Rep.R w L [v0_10] a0.fL.fL)  {r : Bool} (h : wardmotelaw26_EditTotals_p n a0 = some r) :
    Calls Tryz.prog 6 #[.agg #[.int .u8 (a0.fD.fN.toNat : Int), v0_1, v0_2, v0_3, .int .u8 (a0.fD.fK.toNat : Int), .int .u8 (a0.fX.fGroups.toNat : Int), .int .u8 (a0.fX.fParties.toNat : Int), .int .u8 (a0.fX.fLevels.toNat : Int), .int .u8 (a0.fX.fWater.toNat : Int), v0_9, v0_10]] w (Gives w fun _ u => u = .bool r) := by
 unfold wardmotelaw26_EditTotals_p at h
 have hS0 := St.start w
 refine MX.start Tryz.func6 rfl rfl rfl (fun _ cs0 hb0 => ?_)
 refine MX.sr <| RG.new .plain rfl (Does.box hS0 rfl rfl) (fun w2 b5 hS3 hT4 => ?_)
 refine RG.so rfl <| RG.nil <| MX.seq <| MX.sr ?_
 obtain ⟨y6, hy6, h⟩ := bi h
 refine RG.cq (.bool y6) body9 rfl evs_nil (fun w9 hw9 => wardmotelaw26_works_c n _ w9 (hS3.hL0 hL hw9)  hy6) rfl <| RG.va (FV.not rfl) <| RG.nil <| MX.ifnb rfl h (fun c7 h => ?_) (fun c7 h => ?_)
 refine MX.skip <| MX.sr <| RG.va (FV.lN rfl (hS3.memA .hd)) ?_
 obtain ⟨y8, hy8, h⟩ := bi h
 refine RG.call' (fst := []) (cap := []) .plain body10 rfl (e1 rfl) (fun w9 hw9 => wardmotelaw26_Scene_set_c n _ w9 (hS3.hL hL hw9) a0 (hS3.km h0_1 hw9) (hS3.km h0_2 hw9) (hS3.km h0_3 hw9) (hS3.km h0_9 hw9) (hS3.km h0_10 hw9) hy8) rfl (fun w9 M6 P3 ⟨q0, s0, s2, hu_, Z1, D1, b2⟩ => ?_)
 subst hu_
 obtain ⟨A3, v6⟩ := hS3.agr P3
 refine RG.mo rfl <| RG.va (FV.extract rfl rfl) <| RG.va (FV.extract rfl rfl) <| RG.va (FV.extract rfl rfl) <| RG.va (FV.extract rfl rfl) <| RG.new .plain rfl (Does.al [vI 0, vN] A3) (fun W6 d0 C3 Q1 => ?_)
 refine RG.new .plain rfl (Does.al [vI 0, vI 0, vI 0, vN] C3) (fun X6 g0 D3 R1 => ?_)
 have u4 := Rep.mv Z1 (Tt Q1 R1)
 refine RG.sa [vI y8.1.fN, q0] D3 (.tl .hd) (o2 rfl (Rep.o1 u4)) (fun Y6 E3 x2 => ?_)
 have C1 := Tt Q1 (Tt R1 x2)
 have v4 := Rep.mv D1 C1
 refine RG.sa [vI y8.2.1.fGroups, vI y8.2.1.fParties, vI y8.2.1.fLevels, s0] E3 .hd (o4 rfl rfl rfl (Rep.o1 v4)) (fun Z6 k1 x1 => ?_)
 refine RG.so rfl <| RG.so rfl <| RG.nil <| MX.sr <| RG.fa 10 rfl <| RG.va (FV.loadN (cs := [v0_10]) (by kernel_rfl) rfl (mem_part (k1.memA (.tl (.tl .hd))) 10 1)) <| RG.va (FV.lN rfl (k1.memA (.tl .hd))) <| RG.va (FV.lN rfl (k1.memA .hd)) <| RG.mo rfl <| RG.mo rfl ?_
 obtain ⟨b0, I5, h⟩ := bi h
 have x4 := Rep.mv Z1 (Tt C1 x1)
 have y4 := Rep.mv D1 (Tt C1 x1)
 have z4 := Rep.mv b2 (Tt C1 x1)
 refine RG.call' (fst := []) (cap := []) .plain body11 rfl (e5 rfl rfl rfl rfl rfl) (fun w9 hw9 => wardmoteref26_Draft_Session_c n _ w9 (k1.hL hL hw9) a0.fL (k1.km h0_10 hw9) y8.1 (Rep.keep0 x4 hw9) y8.2.1 (Rep.keep0 y4 hw9) y8.2.2.1 (Rep.keep0 z4 hw9) y8.2.2.2 I5) rfl (fun b7 P6 Q3 ⟨M0, Y0, Z0, b1, hu_, q1, d2, M1, g2⟩ => ?_)
 subst hu_
 obtain ⟨F3, y2⟩ := k1.agr Q3
 refine RG.new .plain rfl (Does.al [vI 0, vN, vN, vN, vN] F3) (fun g7 c0 H3 W0 => ?_)
 have F4 := Rep.mv q1 W0
 have G4 := Rep.mv d2 W0
 have Q4 := Rep.mv M1 W0
 have R4 := Rep.mv g2 W0
 refine RG.sa [vI b0.fK, M0, Y0, Z0, b1] H3 .hd (o5 rfl (Rep.o1 F4) (Rep.o1 G4) (Rep.o1 Q4) (Rep.o1 R4)) (fun q7 I1 U1 => ?_)
 refine RG.nil <| MX.sr <| RG.va (FV.lN rfl (I1.memA (.tl .hd))) <| RG.fa 1 rfl <| RG.l1 rfl ((I1.memA .hd) 1 _ rfl) <| RG.mo rfl ?_
 obtain ⟨W2, R5, h⟩ := bi h
 have Y1 := Tt C1 (Tt x1 (Tt y2 (Tt W0 U1)))
 have j5 := Rep.mv D1 Y1
 have k5 := Rep.mv q1 (Tt W0 U1)
 refine RG.call' (fst := []) (cap := []) .plain body24 rfl (e3 rfl rfl rfl) (fun w9 hw9 => balance_Totals_c n _ w9 (I1.hL hL hw9) y8.2.1 (Rep.keep0 j5 hw9) b0.fPlan (Rep.keep0 k5 hw9) y8.2.2.2 R5) rfl (fun s7 V6 W3 ⟨J6, hu_, E5⟩ => ?_)
 subst hu_
 obtain ⟨p0, V1⟩ := I1.agr W3
 refine RG.mo rfl <| RG.va (FV.extract rfl rfl) <| RG.va (FV.extract rfl rfl) <| RG.so rfl <| RG.so rfl <| RG.nil <| MX.seq <| MX.sr <| RG.mo rfl <| RG.va (FV.neq (i := W2.2) (j := 0) rfl rfl) <| RG.mo rfl <| RG.ifn (s := 41) rfl h (fun s3 h => ?_) (fun s3 h => ?_)
 refine RG.ga (FV.move rfl) <| RG.fg 2 rfl <| RG.ga (FV.l1 rfl ((p0.memA .hd) 2 _ rfl)) ?_
 obtain ⟨d6, U5, h⟩ := bi h
 have J0 := Tt W0 (Tt U1 V1)
 have D2 := Rep.mv d2 J0
 refine RG.callq' (v := .bool d6) (fst := []) (cap := []) (.yes rfl rfl) body23 rfl (e2 rfl rfl) (fun w9 hw9 => slices_Equal_int_int_c n _ w9 (p0.hL0 hL hw9) W2.1 (p0.kd E5 hw9) b0.fTotals (p0.kd D2 hw9) U5) rfl <| RG.ga (FV.not rfl) <| RG.pf rfl rfl <| RG.mo rfl <| RG.ifnb (s := 48) rfl h (fun t3 h => ?_) (fun t3 h => ?_)
 refine RG.fg 1 rfl <| RG.ga (FV.l1 rfl ((p0.memA .hd) 1 _ rfl)) ?_
 have W1 := Rep.mv q1 J0
 have D6 : b0.fPlan.length ≤ 281474976710656 := Rep.lenle W1
 refine RG.ga (FV.len (xs := b0.fPlan) Tryz.underlying43 rfl W1) <| RG.fg 0 rfl <| RG.ga (FV.l1 rfl ((p0.memA (.tl (.tl .hd))) 0 _ rfl)) <| RG.ga (FV.neq (i := ((b0.fPlan.length : Nat) : Int)) (j := y8.1.fN) rfl rfl) <| RG.pf rfl rfl <| RG.nil <| MX.ifn rfl h (fun u3 h => ?_) (fun u3 h => ?_)
 refine MX.skip <| MX.sr <| RG.va (FV.lN rfl (p0.memA .hd)) ?_
 obtain ⟨G1, V5, h⟩ := bi h
 have p5 := Rep.mv M1 J0
 have q5 := Rep.mv g2 J0
 refine RG.call' (fst := []) (cap := []) .plain body25 rfl (e1 rfl) (fun w9 hw9 => edit_Changed_c n _ w9 (p0.hL hL hw9) b0 (Rep.keep0 W1 hw9) (Rep.keep0 D2 hw9) (Rep.keep0 p5 hw9) (Rep.keep0 q5 hw9) V5) rfl (fun Y5 X5 X3 ⟨K6, hu_, P1⟩ => ?_)
 subst hu_
 obtain ⟨U0, p1⟩ := p0.agr X3
 refine RG.so rfl <| RG.nil <| MX.seq <| MX.sr <| RG.mo rfl ?_
 obtain ⟨g6, W5, h⟩ := bi h
 refine RG.cq (.bool g6) body26 rfl (e1 rfl) (fun w9 hw9 => slices_IsSorted_int_int_c n _ w9 (U0.hL0 hL hw9) G1 (U0.kd P1 hw9) W5) rfl <| RG.va (FV.not rfl) <| RG.mo rfl <| RG.ifnb (s := 61) rfl h (fun v3 h => ?_) (fun v3 h => ?_)
 refine RG.ga (FV.move rfl) ?_
 have E6 : G1.length ≤ 281474976710656 := Rep.lenle P1
 refine RG.ga (FV.len (xs := G1) Tryz.underlying42 rfl P1) <| RG.fg 3 rfl <| RG.ga (FV.l1 rfl ((U0.memA .hd) 3 _ rfl)) ?_
 have B2 := Rep.mv M1 (Tt J0 p1)
 have z6 : b0.fDone.length ≤ 281474976710656 := Rep.lenle B2
 refine RG.ga (FV.len (xs := b0.fDone) Tryz.underlying46 rfl B2) <| RG.ga (FV.gtrN (i := G1.length) (j := b0.fDone.length) rfl rfl) <| RG.pf rfl rfl <| RG.nil <| MX.ifd rfl h (fun X2 h => ?_) (fun X2 h => ?_)
 refine MX.sr <| RG.so rfl <| RG.nil <| MX.ret rfl <| RT.t1 hb0 Tryz.func6 rfl rfl ?_
 cases h
 exact U0.gv
 refine MX.skip <| MX.seq <| MX.sr <| RG.fa 1 rfl <| RG.l1 rfl ((U0.memA .hd) 1 _ rfl) ?_
 have j4 := Rep.mv q1 (Tt J0 p1)
 refine RG.va (FV.len (xs := b0.fPlan) Tryz.underlying43 rfl j4) <| RG.mo rfl <| RG.nil <| MX.block ?_
 obtain ⟨B3, v1⟩ := St.arrB U0 (.one .hd (.one .hd (.one .hd .done)))
 obtain ⟨F6, s5, A2⟩ := thn_in h
 refine MX.loop (α := Nat) (fun j0 => [(3, vP d0), (4, vP g0), (5, s2), (6, vI y8.2.2.2), (7, vP c0), (10, X5), (70, M0), (71, vI ((b0.fPlan.length : Nat) : Int)), (72, vI ((j0 : Nat) : Int))]) (fun j0 F1 => St w F1 [.cells c0 [vI b0.fK, M0, Y0, Z0, b1] 48, .cells g0 [vI y8.2.1.fGroups, vI y8.2.1.fParties, vI y8.2.1.fLevels, s0] 41, .cells d0 [vI y8.1.fN, q0] 38] ∧ Tr Y5 [.cells c0 [vI b0.fK, M0, Y0, Z0, b1] 48, .cells g0 [vI y8.2.1.fGroups, vI y8.2.1.fParties, vI y8.2.1.fLevels, s0] 41, .cells d0 [vI y8.1.fN, q0] 38] F1 [.cells c0 [vI b0.fK, M0, Y0, Z0, b1] 48, .cells g0 [vI y8.2.1.fGroups, vI y8.2.1.fParties, vI y8.2.1.fLevels, s0] 41, .cells d0 [vI y8.1.fN, q0] 38]) (fun j0 => j0) 0 s5 ⟨rfl, rfl, rfl, rfl, rfl, rfl, rfl, rfl, rfl, trivial⟩ ⟨B3, Tr.refl _ _⟩ ?_
 rintro p6 j0 F1 u2 ⟨j1, V0⟩ h
 unfold wardmotelaw26_EditTotals_l2 at h
 try dsimp only at h
 refine MX.sr <| RG.va (FV.lssN (i := j0) (j := b0.fPlan.length) rfl rfl) <| RG.nil <| MX.seq <| MX.ifd rfl h (fun Y2 h => ?_) (fun Y2 h => ?_)
 refine MX.skip <| MX.seq <| MX.block <| MX.sr <| RG.mo rfl ?_
 obtain ⟨R2, F5, h⟩ := bi h
 have E2 := Tt J0 (Tt p1 (Tt v1 V0))
 have p4 := Rep.mv q1 E2
 obtain ⟨j6, t6, Y3, d4, x3, z5, k4⟩ := Rep.nth p4 F5
 have Z3 : x3 = [vI R2] := z5; subst Z3
 refine RG.va (FV.ia 1 j0 rfl Y3 rfl rfl d4) <| RG.l1 rfl (k4 0 _ rfl) <| RG.so rfl <| RG.so rfl <| RG.nil <| MX.sr <| RG.mo rfl <| RG.mo rfl ?_
 obtain ⟨Z5, H5, h⟩ := bi h
 have q4 := Rep.mv P1 (Tt v1 V0)
 refine RG.cq (.bool Z5) body27 rfl (e2 rfl rfl) (fun w9 hw9 => slices_Contains_int_int_c n _ w9 (j1.hL0 hL hw9) G1 (j1.kd q4 hw9) ((j0 : Nat) : Int) H5) rfl <| RG.va (FV.not rfl) <| RG.mo rfl <| RG.ifnb (s := 81) rfl h (fun Z2 h => ?_) (fun Z2 h => ?_)
 refine RG.no <| RG.no <| RG.no <| RG.no <| RG.no <| RG.no <| RG.pf rfl rfl <| RG.nil <| MX.cond_f rfl <| MX.skip <| MX.inBlock <| MX.region <| RG.va (FV.addN (i := j0) (j := 1) rfl rfl (by omega)) <| RG.mo rfl <| RG.nil ?_
 exact u2 (j0 + 1) _ _ ⟨rfl, rfl, rfl, rfl, rfl, rfl, rfl, rfl, rfl, trivial⟩ ⟨j1, V0⟩ h
 refine RG.ga (FV.move rfl) <| RG.ga (FV.move rfl) <| RG.ga (FV.move rfl) ?_
 obtain ⟨U2, G5, h⟩ := bi h
 have u5 := Tt Q1 (Tt R1 (Tt x2 (Tt x1 (Tt y2 E2))))
 have t4 := Rep.mv b2 u5
 obtain ⟨k6, u6, b4, g4, y3, A5, s4⟩ := Rep.nth t4 G5
 have c4 : y3 = [vI U2] := A5; subst c4
 refine RG.ga (FV.ia 1 j0 rfl b4 rfl rfl g4) <| RG.ga (FV.l1 rfl (s4 0 _ rfl)) <| RG.ga (FV.neq (i := R2) (j := U2) rfl rfl) <| RG.pt rfl rfl <| RG.nil <| MX.ifn rfl h (fun b3 h => ?_) (fun b3 h => ?_)
 refine MX.skip <| MX.inBlock <| MX.region <| RG.va (FV.addN (i := j0) (j := 1) rfl rfl (by omega)) <| RG.mo rfl <| RG.nil ?_
 exact u2 (j0 + 1) _ _ ⟨rfl, rfl, rfl, rfl, rfl, rfl, rfl, rfl, rfl, trivial⟩ ⟨j1, V0⟩ h
 refine MX.sr <| RG.so rfl <| RG.nil ?_
 have h := thn_inl h A2
 refine MX.ret rfl <| RT.t1 hb0 Tryz.func6 rfl rfl ?_
 cases h
 exact j1.gv
 refine MX.exit rfl ?_
 have h := thn_inr h A2
 try dsimp only at h
 refine MX.seq <| MX.sr <| RG.mo rfl <| RG.nil <| MX.block <| MX.joinx (α := Int × (List Int) × (List Int) × (List TMove) × (List TMove) × Value × Value × Value × Value) (fun ⟨z0, g1, s1, F0, u1, B0, C0, D0, E0⟩ => [(5, s2), (7, vP c0)]) (fun ⟨z0, g1, s1, F0, u1, B0, C0, D0, E0⟩ c1 => St w c1 [.cells c0 [vI z0, B0, C0, D0, E0] 48] ∧ Tr F1 [.cells c0 [vI b0.fK, M0, Y0, Z0, b1] 48, .cells g0 [vI y8.2.1.fGroups, vI y8.2.1.fParties, vI y8.2.1.fLevels, s0] 41, .cells d0 [vI y8.1.fN, q0] 38] c1 [.cells c0 [vI z0, B0, C0, D0, E0] 48] ∧ Rep.R c1 (bl [.cells c0 [vI z0, B0, C0, D0, E0] 48] ++ L) [B0] g1 ∧ Rep.R c1 (bl [.cells c0 [vI z0, B0, C0, D0, E0] 48] ++ L) [C0] s1 ∧ Rep.R c1 (bl [.cells c0 [vI z0, B0, C0, D0, E0] 48] ++ L) [D0] F0 ∧ Rep.R c1 (bl [.cells c0 [vI z0, B0, C0, D0, E0] 48] ++ L) [E0] u1) (fun ⟨z0, g1, s1, F0, u1, B0, C0, D0, E0⟩ => (z0, g1, s1, F0, u1)) (id := 2) rfl h ?_ ?_
 rintro ⟨z0, g1, s1, F0, u1, B0, C0, D0, E0⟩ c1 ⟨A0, M3, F2, B5, c2, C5⟩ h
 try dsimp only at h
 refine MX.sr <| RG.fa 1 rfl <| RG.l1 rfl ((A0.memA .hd) 1 _ rfl) <| RG.mo rfl ?_
 obtain ⟨b6, J5, h⟩ := bi h
 have v5 := Tt Y1 (Tt V1 (Tt p1 (Tt v1 (Tt V0 M3))))
 have A4 := Rep.mv b2 v5
 refine RG.cq (.bool b6) body28 rfl (e2 rfl rfl) (fun w9 hw9 => slices_Equal_api_Plan_int_c n _ w9 (A0.hL0 hL hw9) g1 (A0.kd F2 hw9) y8.2.2.1 (A0.kd A4 hw9) J5) rfl <| RG.mo rfl <| RG.ifb (s := 129) rfl h (fun c3 h => ?_) (fun c3 h => ?_)
 refine RG.fg 3 rfl <| RG.ga (FV.l1 rfl ((A0.memA .hd) 3 _ rfl)) ?_
 have A6 : F0.length ≤ 281474976710656 := Rep.lenle c2
 refine RG.ga (FV.len (xs := F0) Tryz.underlying46 rfl c2) <| RG.ga (FV.eqlN (i := F0.length) (j := 0) rfl rfl) <| RG.pt rfl rfl <| RG.mo rfl <| RG.ifd (s := 135) rfl h (fun d3 h => ?_) (fun d3 h => ?_)
 refine RG.ga (FV.lN rfl (A0.memA .hd)) ?_
 obtain ⟨t2, K5, h⟩ := bi h
 refine RG.call' (fst := []) (cap := []) (.yes rfl rfl) body25 rfl (e1 rfl) (fun w9 hw9 => edit_Changed_c n _ w9 (A0.hL hL hw9) (⟨z0, g1, s1, F0, u1⟩ : TSession) (Rep.keep0 F2 hw9) (Rep.keep0 B5 hw9) (Rep.keep0 c2 hw9) (Rep.keep0 C5 hw9) K5) rfl (fun d7 Q6 R3 ⟨H6, hu_, G2⟩ => ?_)
 subst hu_
 obtain ⟨G3, x6⟩ := A0.agr R3
 have B6 : t2.length ≤ 281474976710656 := Rep.lenle G2
 refine RG.ga (FV.len (xs := t2) Tryz.underlying42 rfl G2) <| RG.ga (FV.eqlN (i := t2.length) (j := 0) rfl rfl) <| RG.pt rfl rfl <| RG.so rfl <| RG.nil <| MX.ret rfl <| RT.t1 hb0 Tryz.func6 rfl rfl ?_
 cases h
 exact G3.gv
 refine RG.no <| RG.no <| RG.no <| RG.no <| RG.pf rfl rfl <| RG.so rfl <| RG.nil <| MX.ret rfl <| RT.t1 hb0 Tryz.func6 rfl rfl ?_
 cases h
 exact A0.gv
 refine RG.no <| RG.no <| RG.no <| RG.no <| RG.pf rfl rfl <| RG.mo rfl <| RG.no <| RG.no <| RG.no <| RG.no <| RG.pf rfl rfl <| RG.so rfl <| RG.nil <| MX.ret rfl <| RT.t1 hb0 Tryz.func6 rfl rfl ?_
 cases h
 exact A0.gv
 intro q6 v2 h
 try dsimp only at h
 have K1 := Tt J0 (Tt p1 (Tt v1 V0))
 have B4 := Rep.mv q1 K1
 have C4 := Rep.mv d2 K1
 have D4 := Rep.mv M1 K1
 have E4 := Rep.mv g2 K1
 obtain ⟨G6, t5, B1⟩ := thn_in h
 refine MX.loop (α := Nat × Int × (List Int) × (List Int) × (List TMove) × (List TMove) × Value × Value × Value × Value) (fun ⟨K0, k0, P0, Q0, y0, R0, t0, u0, v0, x0⟩ => [(3, vP d0), (4, vP g0), (5, s2), (6, vI y8.2.2.2), (7, vP c0), (90, vI ((K0 : Nat) : Int))]) (fun ⟨K0, k0, P0, Q0, y0, R0, t0, u0, v0, x0⟩ d1 => St w d1 [.cells c0 [vI k0, t0, u0, v0, x0] 48, .cells g0 [vI y8.2.1.fGroups, vI y8.2.1.fParties, vI y8.2.1.fLevels, s0] 41, .cells d0 [vI y8.1.fN, q0] 38] ∧ Tr F1 [.cells c0 [vI b0.fK, M0, Y0, Z0, b1] 48, .cells g0 [vI y8.2.1.fGroups, vI y8.2.1.fParties, vI y8.2.1.fLevels, s0] 41, .cells d0 [vI y8.1.fN, q0] 38] d1 [.cells c0 [vI k0, t0, u0, v0, x0] 48, .cells g0 [vI y8.2.1.fGroups, vI y8.2.1.fParties, vI y8.2.1.fLevels, s0] 41, .cells d0 [vI y8.1.fN, q0] 38] ∧ Rep.R d1 (bl [.cells c0 [vI k0, t0, u0, v0, x0] 48, .cells g0 [vI y8.2.1.fGroups, vI y8.2.1.fParties, vI y8.2.1.fLevels, s0] 41, .cells d0 [vI y8.1.fN, q0] 38] ++ L) [t0] P0 ∧ Rep.R d1 (bl [.cells c0 [vI k0, t0, u0, v0, x0] 48, .cells g0 [vI y8.2.1.fGroups, vI y8.2.1.fParties, vI y8.2.1.fLevels, s0] 41, .cells d0 [vI y8.1.fN, q0] 38] ++ L) [u0] Q0 ∧ Rep.R d1 (bl [.cells c0 [vI k0, t0, u0, v0, x0] 48, .cells g0 [vI y8.2.1.fGroups, vI y8.2.1.fParties, vI y8.2.1.fLevels, s0] 41, .cells d0 [vI y8.1.fN, q0] 38] ++ L) [v0] y0 ∧ Rep.R d1 (bl [.cells c0 [vI k0, t0, u0, v0, x0] 48, .cells g0 [vI y8.2.1.fGroups, vI y8.2.1.fParties, vI y8.2.1.fLevels, s0] 41, .cells d0 [vI y8.1.fN, q0] 38] ++ L) [x0] R0) (fun ⟨K0, k0, P0, Q0, y0, R0, t0, u0, v0, x0⟩ => (K0, k0, P0, Q0, y0, R0)) (0, b0.fK, b0.fPlan, b0.fTotals, b0.fDone, b0.fUndone, M0, Y0, Z0, b1) t5 ⟨rfl, rfl, rfl, rfl, rfl, rfl, trivial⟩ ⟨j1, Tr.refl _ _, B4, C4, D4, E4⟩ ?_
 rintro s6 ⟨K0, k0, P0, Q0, y0, R0, t0, u0, v0, x0⟩ d1 z3 ⟨H0, J1, j2, k2, E1, p2⟩ h
 unfold wardmotelaw26_EditTotals_l1 at h
 try dsimp only at h
 refine MX.sr <| RG.va (FV.lssN (i := K0) (j := 200) rfl rfl) <| RG.nil <| MX.seq <| MX.ifd rfl h (fun g3 h => ?_) (fun g3 h => ?_)
 refine MX.skip <| MX.seq <| MX.block <| MX.seq <| MX.sr <| RG.fa 3 rfl <| RG.l1 rfl ((H0.memA .hd) 3 _ rfl) ?_
 have C6 : y0.length ≤ 281474976710656 := Rep.lenle E1
 refine RG.va (FV.len (xs := y0) Tryz.underlying46 rfl E1) <| RG.va (FV.eqlN (i := y0.length) (j := 0) rfl rfl) <| RG.nil <| MX.ifd rfl h (fun j3 h => ?_) (fun j3 h => ?_)
 refine MX.exit rfl ?_
 have h := thn_inr h B1
 try dsimp only at h
 obtain ⟨I3, y1⟩ := St.arrB H0 (.one .hd .done)
 have H4 := Rep.mv j2 y1
 have I4 := Rep.mv k2 y1
 have J4 := Rep.mv E1 y1
 have K4 := Rep.mv p2 y1
 exact v2 (k0, P0, Q0, y0, R0, t0, u0, v0, x0) _ _ ⟨rfl, rfl, trivial⟩ ⟨I3, (Tt J1 y1), H4, I4, J4, K4⟩ h
 refine MX.skip <| MX.sr <| RG.va (FV.lN rfl (H0.memA (.tl (.tl .hd)))) <| RG.va (FV.lN rfl (H0.memA (.tl .hd))) <| RG.va (FV.lN rfl (H0.memA .hd)) ?_
 obtain ⟨G0, M5, h⟩ := bi h
 have X1 := Tt Y1 (Tt V1 (Tt p1 (Tt v1 (Tt V0 J1))))
 have M4 := Rep.mv Z1 X1
 have P4 := Rep.mv D1 X1
 refine RG.call' (fst := []) (cap := []) .plain body17 rfl (e3 rfl rfl rfl) (fun w9 hw9 => edit_Undo_c n _ w9 (H0.hL hL hw9) y8.1 (Rep.keep0 M4 hw9) y8.2.1 (Rep.keep0 P4 hw9) (⟨k0, P0, Q0, y0, R0⟩ : TSession) (Rep.keep0 j2 hw9) (Rep.keep0 k2 hw9) (Rep.keep0 E1 hw9) (Rep.keep0 p2 hw9) M5) rfl (fun j7 R6 U3 ⟨K2, M2, P2, Q2, hu_, q2, H2, I2, J2⟩ => ?_)
 subst hu_
 obtain ⟨J3, z2⟩ := H0.agr U3
 refine RG.mo rfl <| RG.va (FV.extract rfl rfl) <| RG.va (FV.extract rfl rfl) <| RG.sa [vI G0.1.fK, K2, M2, P2, Q2] J3 .hd (o5 rfl (Rep.o1 q2) (Rep.o1 H2) (Rep.o1 I2) (Rep.o1 J2)) (fun k7 H1 X0 => ?_)
 refine RG.so rfl <| RG.nil <| MX.sr <| RG.va (FV.lN rfl (H1.memA (.tl .hd))) <| RG.fa 1 rfl <| RG.l1 rfl ((H1.memA .hd) 1 _ rfl) <| RG.mo rfl ?_
 obtain ⟨V2, P5, h⟩ := bi h
 have x5 := Tt X1 (Tt z2 X0)
 have U4 := Rep.mv D1 x5
 have V4 := Rep.mv q2 X0
 refine RG.call' (fst := []) (cap := []) .plain body24 rfl (e3 rfl rfl rfl) (fun w9 hw9 => balance_Totals_c n _ w9 (H1.hL hL hw9) y8.2.1 (Rep.keep0 U4 hw9) G0.1.fPlan (Rep.keep0 V4 hw9) y8.2.2.2 P5) rfl (fun p7 U6 V3 ⟨I6, hu_, D5⟩ => ?_)
 subst hu_
 obtain ⟨I0, z1⟩ := H1.agr V3
 refine RG.mo rfl <| RG.va (FV.extract rfl rfl) <| RG.va (FV.extract rfl rfl) <| RG.so rfl <| RG.so rfl <| RG.nil <| MX.sr <| RG.mo rfl <| RG.va (FV.neq (i := G0.2) (j := 0) rfl rfl) <| RG.mo rfl <| RG.ifn (s := 113) rfl h (fun k3 h => ?_) (fun k3 h => ?_)
 refine RG.ga (FV.move rfl) <| RG.ga (FV.neq (i := V2.2) (j := 0) rfl rfl) <| RG.pf rfl rfl <| RG.mo rfl <| RG.ifn (s := 117) rfl h (fun p3 h => ?_) (fun p3 h => ?_)
 refine RG.ga (FV.move rfl) <| RG.fg 2 rfl <| RG.ga (FV.l1 rfl ((I0.memA .hd) 2 _ rfl)) ?_
 obtain ⟨c6, Q5, h⟩ := bi h
 have C2 := Rep.mv H2 (Tt X0 z1)
 refine RG.callq' (v := .bool c6) (fst := []) (cap := []) (.yes rfl rfl) body23 rfl (e2 rfl rfl) (fun w9 hw9 => slices_Equal_int_int_c n _ w9 (I0.hL0 hL hw9) V2.1 (I0.kd D5 hw9) G0.1.fTotals (I0.kd C2 hw9) Q5) rfl <| RG.ga (FV.not rfl) <| RG.pf rfl rfl <| RG.nil <| MX.ifnb rfl h (fun q3 h => ?_) (fun q3 h => ?_)
 refine MX.skip <| MX.inBlock <| MX.region <| RG.va (FV.addN (i := K0) (j := 1) rfl rfl (by omega)) <| RG.mo rfl <| RG.nil ?_
 have W4 := Rep.mv q2 (Tt X0 z1)
 have X4 := Rep.mv I2 (Tt X0 z1)
 have Y4 := Rep.mv J2 (Tt X0 z1)
 have y5 := Tt z2 (Tt X0 z1)
 exact z3 (K0 + 1, G0.1.fK, G0.1.fPlan, G0.1.fTotals, G0.1.fDone, G0.1.fUndone, K2, M2, P2, Q2) _ _ ⟨rfl, rfl, rfl, rfl, rfl, rfl, trivial⟩ ⟨I0, (Tt J1 y5), W4, C2, X4, Y4⟩ h
 refine MX.sr <| RG.so rfl <| RG.nil ?_
 have h := thn_inl h B1
 refine MX.ret rfl <| RT.t1 hb0 Tryz.func6 rfl rfl ?_
 cases h
 exact I0.gv
 refine RG.no <| RG.no <| RG.no <| RG.no <| RG.no <| RG.pt rfl rfl <| RG.nil <| MX.cond_t rfl <| MX.sr <| RG.so rfl <| RG.nil ?_
 have h := thn_inl h B1
 refine MX.ret rfl <| RT.t1 hb0 Tryz.func6 rfl rfl ?_
 cases h
 exact I0.gv
 refine RG.no <| RG.no <| RG.pt rfl rfl <| RG.mo rfl <| RG.no <| RG.no <| RG.no <| RG.no <| RG.no <| RG.pt rfl rfl <| RG.nil <| MX.cond_t rfl <| MX.sr <| RG.so rfl <| RG.nil ?_
 have h := thn_inl h B1
 refine MX.ret rfl <| RT.t1 hb0 Tryz.func6 rfl rfl ?_
 cases h
 exact I0.gv
 refine MX.exit rfl ?_
 have h := thn_inr h B1
 try dsimp only at h
 obtain ⟨K3, A1⟩ := St.arrB H0 (.one .hd .done)
 have Z4 := Rep.mv j2 A1
 have c5 := Rep.mv k2 A1
 have d5 := Rep.mv E1 A1
 have g5 := Rep.mv p2 A1
 exact v2 (k0, P0, Q0, y0, R0, t0, u0, v0, x0) _ _ ⟨rfl, rfl, trivial⟩ ⟨K3, (Tt J1 A1), Z4, c5, d5, g5⟩ h
 refine RG.no <| RG.no <| RG.no <| RG.no <| RG.no <| RG.no <| RG.pt rfl rfl <| RG.nil <| MX.cond_t rfl <| MX.sr <| RG.so rfl <| RG.nil <| MX.ret rfl <| RT.t1 hb0 Tryz.func6 rfl rfl ?_
 cases h
 exact U0.gv
 refine MX.sr <| RG.so rfl <| RG.nil <| MX.ret rfl <| RT.t1 hb0 Tryz.func6 rfl rfl ?_
 cases h
 exact p0.gv
 refine RG.no <| RG.no <| RG.no <| RG.no <| RG.no <| RG.no <| RG.pt rfl rfl <| RG.nil <| MX.cond_t rfl <| MX.sr <| RG.so rfl <| RG.nil <| MX.ret rfl <| RT.t1 hb0 Tryz.func6 rfl rfl ?_
 cases h
 exact p0.gv
 refine RG.no <| RG.no <| RG.no <| RG.no <| RG.no <| RG.pt rfl rfl <| RG.mo rfl <| RG.no <| RG.no <| RG.no <| RG.no <| RG.no <| RG.no <| RG.pt rfl rfl <| RG.nil <| MX.cond_t rfl <| MX.sr <| RG.so rfl <| RG.nil <| MX.ret rfl <| RT.t1 hb0 Tryz.func6 rfl rfl ?_
 cases h
 exact p0.gv
 refine MX.sr <| RG.so rfl <| RG.nil <| MX.ret rfl <| RT.t1 hb0 Tryz.func6 rfl rfl ?_
 cases h
 exact hS3.gv
end Go.Proofs.YtcijnmkodpfpgaaGreatDoor
