/- Functions of the program, and what they give: part 4. -/
import Derived.Test.YtcijnmkodpfpgaaGreatDoorRK3
namespace Go.Proofs.YtcijnmkodpfpgaaGreatDoor
open Go Go.RowKit
set_option maxRecDepth 4000
set_option maxHeartbeats 4000000

def tb29_7 : List (Nat × Nat × Nat) := [(0, 2097152, 0), (0, 4194304, 0), (0, 8388608, 0), (7, 16777216, 14680064), (8, 33554432, 16777216), (0, 67108864, 4), (31, 0, 33554433), (127, 0, 67108866)]
theorem el39 : ElT Tryz.prog 39 70 (Rep.size TUnit) 104 (.agg #[.string ⟨#[]⟩, vI 0, vN, vN, vN, .bool false]) [.string ⟨#[]⟩, vI 0, vN, vN, vN, .bool false] := ⟨Tryz.underlying39, by kernel_rfl, rfl, rfl, rfl, rfl⟩
theorem el36 : ElT Tryz.prog 36 52 (Rep.size (Int × Int)) 16 (.agg #[vI 0, vI 0]) [vI 0, vI 0] := ⟨Tryz.underlying36, by kernel_rfl, rfl, rfl, rfl, rfl⟩
def wardmotelaw26_example_p (_n : Nat) : Option (TGraph × TRoll) :=
  (app ([] : List TUnit) ([(⟨⟨#[97]⟩, (10 : Int), ([] : List Int), ([] : List Int), ([] : List Int), false⟩ : TUnit)] : List TUnit)).bind fun b0 => (app b0 ([(⟨⟨#[98]⟩, (20 : Int), ([] : List Int), ([] : List Int), ([] : List Int), false⟩ : TUnit)] : List TUnit)).bind fun c0 => (app c0 ([(⟨⟨#[99]⟩, (30 : Int), ([] : List Int), ([] : List Int), ([] : List Int), false⟩ : TUnit)] : List TUnit)).bind fun d0 => (app d0 ([(⟨⟨#[100]⟩, (40 : Int), ([] : List Int), ([] : List Int), ([] : List Int), false⟩ : TUnit)] : List TUnit)).bind fun g0 => some ((⟨(4 : Int), ([((0 : Int), (1 : Int)), ((1 : Int), (2 : Int)), ((2 : Int), (3 : Int))] : List (Int × Int))⟩ : TGraph), (⟨(0 : Int), (0 : Int), (0 : Int), g0⟩ : TRoll))
theorem wardmotelaw26_example_c (n : Nat) (L : List Nat) (w : World) (_hL : ∀ b ∈ L, b < w.heap.size)  {r : TGraph × TRoll} (h : wardmotelaw26_example_p n = some r) :
    Calls Tryz.prog 29 #[] w (Gives w fun w' u => ∃ (v0_1 v1_3 : Value) (cs0_1 cs1_3 : List Value), u = .tuple #[.agg #[vI r.1.fN, v0_1], .agg #[vI r.2.fGroups, vI r.2.fParties, vI r.2.fLevels, v1_3]] ∧ St w w' (rowsOf w.heap.size [(52, Rep.size (Int × Int), v0_1, r.1.fEdges.length, cs0_1), (70, Rep.size TUnit, v1_3, r.2.fUnits.length, cs1_3)]) ∧ Cells w' (bl (rowsOf w.heap.size [(52, Rep.size (Int × Int), v0_1, r.1.fEdges.length, cs0_1), (70, Rep.size TUnit, v1_3, r.2.fUnits.length, cs1_3)]) ++ L) cs0_1 (r.1.fEdges : List (Int × Int)) ∧ Cells w' (bl (rowsOf w.heap.size [(52, Rep.size (Int × Int), v0_1, r.1.fEdges.length, cs0_1), (70, Rep.size TUnit, v1_3, r.2.fUnits.length, cs1_3)]) ++ L) cs1_3 (r.2.fUnits : List TUnit)) := by
 unfold wardmotelaw26_example_p at h
 have hS0 := St.start w
 refine MX.start Tryz.func29 rfl rfl rfl (fun _ cs0 hb0 => ?_)
 refine MX.sr <| RG.new .plain rfl (Does.al [vI 0, vN] hS0) (fun w2 b5 hS3 hT4 => ?_)
 refine RG.new .plain rfl (Does.al [vI 0, vI 0, vI 0, vN] hS3) (fun w7 t0 hS8 hT9 => ?_)
 refine RG.nil <| MX.sr <| RG.new .plain rfl (Does.al [vI 0, vI 0, vI 0, vN] hS8) (fun t3 v1 H0 b3 => ?_)
 refine RG.nil <| MX.seq <| MX.sr <| RG.va (FV.buildV (vs := [.string ⟨#[97]⟩, .string ⟨#[98]⟩, .string ⟨#[99]⟩, .string ⟨#[100]⟩]) (u := .agg #[.string ⟨#[97]⟩, .string ⟨#[98]⟩, .string ⟨#[99]⟩, .string ⟨#[100]⟩]) (e4 rfl rfl rfl rfl) (fun w9 => by kernel_rfl)) <| RG.mo rfl <| RG.nil <| MX.block <| MX.loop1 <| MX.sr <| RG.va (FV.lssN (i := 0) (j := 4) rfl rfl) <| RG.nil <| MX.seq <| MX.cond_t rfl <| MX.skip <| MX.seq <| MX.block <| MX.sr <| RG.mo rfl <| RG.va (FV.idx1 (cs := [.string ⟨#[97]⟩, .string ⟨#[98]⟩, .string ⟨#[99]⟩, .string ⟨#[100]⟩]) (k := 0) (m := 1) (len := 4) (by kernel_rfl) (by kernel_rfl) rfl rfl rfl (by omega) rfl) <| RG.so rfl <| RG.so rfl <| RG.nil <| MX.region <| RG.fa 3 rfl ?_
 refine RG.l1 rfl ((H0.memA .hd) 3 _ rfl) <| RG.mo rfl <| RG.mo rfl <| RG.va (FV.add (i := 0) (j := 1) (r := 1) rfl rfl (by decide)) <| RG.va (FV.mul (i := 10) (j := 1) (r := 10) rfl rfl (by decide)) <| RG.va (FV.buildV (vs := [.string ⟨#[97]⟩, vI 10]) (u := .agg #[.string ⟨#[97]⟩, vI 10, vN, vN, vN, .bool false]) (e2 rfl rfl) (fun w9 => by kernel_rfl)) ?_
 have k3 := Rep.nilAt (α := Int) H0 L
 refine RG.new .plain rfl (Does.build (α := TUnit) (xs := ([(⟨⟨#[97]⟩, (10 : Int), ([] : List Int), ([] : List Int), ([] : List Int), false⟩ : TUnit)] : List TUnit)) (vs := [.agg #[.string ⟨#[97]⟩, vI 10, vN, vN, vN, .bool false]]) (ds' := [.string ⟨#[97]⟩, vI 10, vN, vN, vN, .bool false]) rfl H0 el39 rfl (e1 rfl) (by kernel_rfl) rfl) (fun u3 Q2 v0 c3 => ?_)
 have V0 := Rep.nilAt (α := Int) v0 L
 have Y1 := Cells.at_ (cs := [.string ⟨#[97]⟩, vI 10, vN, vN, vN, .bool false]) (xs := (([(⟨⟨#[97]⟩, (10 : Int), ([] : List Int), ([] : List Int), ([] : List Int), false⟩ : TUnit)] : List TUnit) : List TUnit)) v0 L (Cells.cons (cs := [.string ⟨#[97]⟩, vI 10, vN, vN, vN, .bool false]) (ds := []) (mk_TUnit ⟨#[97]⟩ (10 : Int) ([] : List Int) V0 ([] : List Int) V0 ([] : List Int) V0 false) (Cells.nil _ _))
 have J0 := v0.nilRow 70 (Rep.size TUnit)
 have H1 := St.nilRowT v0 70 (Rep.size TUnit)
 have Z1 := Cells.at_ (cs := []) (xs := ([] : List TUnit)) J0 L (Cells.nil _ _)
 obtain ⟨H3, H2, h⟩ := bi h
 have v2 := Cells.mv Y1 H1
 refine RG.doesL .plain rfl (DoesL.app (α := TUnit) (ys := ([(⟨⟨#[97]⟩, (10 : Int), ([] : List Int), ([] : List Int), ([] : List Int), false⟩ : TUnit)] : List TUnit)) H2 J0 (fun _ _ => .hd) el39 rfl rfl Z1 (Src.row (α := TUnit) J0 (.tl .hd) v2)) (fun Z0 x3 ⟨W2, K0, d3, b2⟩ => ?_)
 refine RG.fa 3 rfl <| RG.now .plain (Acts.store (j := 3) (old := [vI 0, vI 0, vI 0, vN]) (news := [Z0]) (new' := [vI 0, vI 0, vI 0, Z0]) K0 (.tl (.tl .hd)) rfl rfl rfl (St.c1 (α := TUnit) K0 .hd) rfl rfl (o1 (St.o1 (α := TUnit) K0 .hd)) rfl) (fun y3 B1 I1 => ?_)
 refine RG.nil <| MX.inBlock <| MX.region <| RG.va (FV.add (i := 0) (j := 1) (r := 1) rfl rfl (by decide)) <| RG.mo rfl <| RG.nil <| MX.again1 ?_
 obtain ⟨M0, J1⟩ := St.arrB B1 (.one .hd (.one (.tl .hd) (.one (.tl .hd) (.one (.tl .hd) .done))))
 refine MX.sr <| RG.va (FV.lssN (i := 1) (j := 4) rfl rfl) <| RG.nil <| MX.seq <| MX.cond_t rfl <| MX.skip <| MX.seq <| MX.block <| MX.sr <| RG.mo rfl <| RG.va (FV.idx1 (cs := [.string ⟨#[97]⟩, .string ⟨#[98]⟩, .string ⟨#[99]⟩, .string ⟨#[100]⟩]) (k := 1) (m := 1) (len := 4) (by kernel_rfl) (by kernel_rfl) rfl rfl rfl (by omega) rfl) <| RG.so rfl <| RG.so rfl <| RG.nil <| MX.region <| RG.fa 3 rfl <| RG.l1 rfl ((M0.memA (.tl .hd)) 3 _ rfl) <| RG.mo rfl <| RG.mo rfl <| RG.va (FV.add (i := 1) (j := 1) (r := 2) rfl rfl (by decide)) <| RG.va (FV.mul (i := 10) (j := 2) (r := 20) rfl rfl (by decide)) <| RG.va (FV.buildV (vs := [.string ⟨#[98]⟩, vI 20]) (u := .agg #[.string ⟨#[98]⟩, vI 20, vN, vN, vN, .bool false]) (e2 rfl rfl) (fun w9 => by kernel_rfl)) ?_
 have p3 := Rep.nilAt (α := Int) M0 L
 refine RG.new .plain rfl (Does.build (α := TUnit) (xs := ([(⟨⟨#[98]⟩, (20 : Int), ([] : List Int), ([] : List Int), ([] : List Int), false⟩ : TUnit)] : List TUnit)) (vs := [.agg #[.string ⟨#[98]⟩, vI 20, vN, vN, vN, .bool false]]) (ds' := [.string ⟨#[98]⟩, vI 20, vN, vN, vN, .bool false]) rfl M0 el39 rfl (e1 rfl) (by kernel_rfl) rfl) (fun z3 R2 x0 K1 => ?_)
 have W0 := Rep.nilAt (α := Int) x0 L
 have c2 := Cells.at_ (cs := [.string ⟨#[98]⟩, vI 20, vN, vN, vN, .bool false]) (xs := (([(⟨⟨#[98]⟩, (20 : Int), ([] : List Int), ([] : List Int), ([] : List Int), false⟩ : TUnit)] : List TUnit) : List TUnit)) x0 L (Cells.cons (cs := [.string ⟨#[98]⟩, vI 20, vN, vN, vN, .bool false]) (ds := []) (mk_TUnit ⟨#[98]⟩ (20 : Int) ([] : List Int) W0 ([] : List Int) W0 ([] : List Int) W0 false) (Cells.nil _ _))
 obtain ⟨I3, I2, h⟩ := bi h
 have E2 := Tt I1 (Tt J1 K1)
 have x2 := Cells.mv b2 E2
 refine RG.doesL .plain rfl (DoesL.app (α := TUnit) (ys := ([(⟨⟨#[98]⟩, (20 : Int), ([] : List Int), ([] : List Int), ([] : List Int), false⟩ : TUnit)] : List TUnit)) I2 x0 (fun _ _ => (.tl .hd)) el39 rfl rfl x2 (Src.row (α := TUnit) x0 .hd c2)) (fun b1 A3 ⟨X2, P0, g3, d2⟩ => ?_)
 refine RG.fa 3 rfl <| RG.now .plain (Acts.store (j := 3) (old := [vI 0, vI 0, vI 0, Z0]) (news := [b1]) (new' := [vI 0, vI 0, vI 0, b1]) P0 (.tl (.tl .hd)) rfl rfl rfl (St.c1 (α := TUnit) P0 (.tl .hd)) rfl rfl (o1 (St.o1 (α := TUnit) P0 (.tl .hd))) rfl) (fun B3 C1 M1 => ?_)
 refine RG.nil <| MX.inBlock <| MX.region <| RG.va (FV.add (i := 1) (j := 1) (r := 2) rfl rfl (by decide)) <| RG.mo rfl <| RG.nil <| MX.again1 ?_
 obtain ⟨Q0, P1⟩ := St.arrB C1 (.one (.tl .hd) (.one (.tl .hd) (.one (.tl .hd) (.one (.tl .hd) .done))))
 refine MX.sr <| RG.va (FV.lssN (i := 2) (j := 4) rfl rfl) <| RG.nil <| MX.seq <| MX.cond_t rfl <| MX.skip <| MX.seq <| MX.block <| MX.sr <| RG.mo rfl <| RG.va (FV.idx1 (cs := [.string ⟨#[97]⟩, .string ⟨#[98]⟩, .string ⟨#[99]⟩, .string ⟨#[100]⟩]) (k := 2) (m := 1) (len := 4) (by kernel_rfl) (by kernel_rfl) rfl rfl rfl (by omega) rfl) <| RG.so rfl <| RG.so rfl <| RG.nil <| MX.region <| RG.fa 3 rfl <| RG.l1 rfl ((Q0.memA (.tl .hd)) 3 _ rfl) <| RG.mo rfl <| RG.mo rfl <| RG.va (FV.add (i := 2) (j := 1) (r := 3) rfl rfl (by decide)) <| RG.va (FV.mul (i := 10) (j := 3) (r := 30) rfl rfl (by decide)) <| RG.va (FV.buildV (vs := [.string ⟨#[99]⟩, vI 30]) (u := .agg #[.string ⟨#[99]⟩, vI 30, vN, vN, vN, .bool false]) (e2 rfl rfl) (fun w9 => by kernel_rfl)) ?_
 have q3 := Rep.nilAt (α := Int) Q0 L
 refine RG.new .plain rfl (Does.build (α := TUnit) (xs := ([(⟨⟨#[99]⟩, (30 : Int), ([] : List Int), ([] : List Int), ([] : List Int), false⟩ : TUnit)] : List TUnit)) (vs := [.agg #[.string ⟨#[99]⟩, vI 30, vN, vN, vN, .bool false]]) (ds' := [.string ⟨#[99]⟩, vI 30, vN, vN, vN, .bool false]) rfl Q0 el39 rfl (e1 rfl) (by kernel_rfl) rfl) (fun C3 U2 y0 Q1 => ?_)
 have X0 := Rep.nilAt (α := Int) y0 L
 have g2 := Cells.at_ (cs := [.string ⟨#[99]⟩, vI 30, vN, vN, vN, .bool false]) (xs := (([(⟨⟨#[99]⟩, (30 : Int), ([] : List Int), ([] : List Int), ([] : List Int), false⟩ : TUnit)] : List TUnit) : List TUnit)) y0 L (Cells.cons (cs := [.string ⟨#[99]⟩, vI 30, vN, vN, vN, .bool false]) (ds := []) (mk_TUnit ⟨#[99]⟩ (30 : Int) ([] : List Int) X0 ([] : List Int) X0 ([] : List Int) X0 false) (Cells.nil _ _))
 obtain ⟨J3, J2, h⟩ := bi h
 have F2 := Tt M1 (Tt P1 Q1)
 have y2 := Cells.mv d2 F2
 refine RG.doesL .plain rfl (DoesL.app (α := TUnit) (ys := ([(⟨⟨#[99]⟩, (30 : Int), ([] : List Int), ([] : List Int), ([] : List Int), false⟩ : TUnit)] : List TUnit)) J2 y0 (fun _ _ => (.tl .hd)) el39 rfl rfl y2 (Src.row (α := TUnit) y0 .hd g2)) (fun d1 D3 ⟨Y2, R0, j3, j2⟩ => ?_)
 refine RG.fa 3 rfl <| RG.now .plain (Acts.store (j := 3) (old := [vI 0, vI 0, vI 0, b1]) (news := [d1]) (new' := [vI 0, vI 0, vI 0, d1]) R0 (.tl (.tl .hd)) rfl rfl rfl (St.c1 (α := TUnit) R0 (.tl .hd)) rfl rfl (o1 (St.o1 (α := TUnit) R0 (.tl .hd))) rfl) (fun E3 D1 R1 => ?_)
 refine RG.nil <| MX.inBlock <| MX.region <| RG.va (FV.add (i := 2) (j := 1) (r := 3) rfl rfl (by decide)) <| RG.mo rfl <| RG.nil <| MX.again1 ?_
 obtain ⟨U0, U1⟩ := St.arrB D1 (.one (.tl .hd) (.one (.tl .hd) (.one (.tl .hd) (.one (.tl .hd) .done))))
 refine MX.sr <| RG.va (FV.lssN (i := 3) (j := 4) rfl rfl) <| RG.nil <| MX.seq <| MX.cond_t rfl <| MX.skip <| MX.seq <| MX.block <| MX.sr <| RG.mo rfl <| RG.va (FV.idx1 (cs := [.string ⟨#[97]⟩, .string ⟨#[98]⟩, .string ⟨#[99]⟩, .string ⟨#[100]⟩]) (k := 3) (m := 1) (len := 4) (by kernel_rfl) (by kernel_rfl) rfl rfl rfl (by omega) rfl) <| RG.so rfl <| RG.so rfl <| RG.nil <| MX.region <| RG.fa 3 rfl <| RG.l1 rfl ((U0.memA (.tl .hd)) 3 _ rfl) <| RG.mo rfl <| RG.mo rfl <| RG.va (FV.add (i := 3) (j := 1) (r := 4) rfl rfl (by decide)) <| RG.va (FV.mul (i := 10) (j := 4) (r := 40) rfl rfl (by decide)) <| RG.va (FV.buildV (vs := [.string ⟨#[100]⟩, vI 40]) (u := .agg #[.string ⟨#[100]⟩, vI 40, vN, vN, vN, .bool false]) (e2 rfl rfl) (fun w9 => by kernel_rfl)) ?_
 have s3 := Rep.nilAt (α := Int) U0 L
 refine RG.new .plain rfl (Does.build (α := TUnit) (xs := ([(⟨⟨#[100]⟩, (40 : Int), ([] : List Int), ([] : List Int), ([] : List Int), false⟩ : TUnit)] : List TUnit)) (vs := [.agg #[.string ⟨#[100]⟩, vI 40, vN, vN, vN, .bool false]]) (ds' := [.string ⟨#[100]⟩, vI 40, vN, vN, vN, .bool false]) rfl U0 el39 rfl (e1 rfl) (by kernel_rfl) rfl) (fun F3 V2 z0 V1 => ?_)
 have Y0 := Rep.nilAt (α := Int) z0 L
 have k2 := Cells.at_ (cs := [.string ⟨#[100]⟩, vI 40, vN, vN, vN, .bool false]) (xs := (([(⟨⟨#[100]⟩, (40 : Int), ([] : List Int), ([] : List Int), ([] : List Int), false⟩ : TUnit)] : List TUnit) : List TUnit)) z0 L (Cells.cons (cs := [.string ⟨#[100]⟩, vI 40, vN, vN, vN, .bool false]) (ds := []) (mk_TUnit ⟨#[100]⟩ (40 : Int) ([] : List Int) Y0 ([] : List Int) Y0 ([] : List Int) Y0 false) (Cells.nil _ _))
 obtain ⟨D0, K2, h⟩ := bi h
 have G2 := Tt R1 (Tt U1 V1)
 have z2 := Cells.mv j2 G2
 refine RG.doesL .plain rfl (DoesL.app (α := TUnit) (ys := ([(⟨⟨#[100]⟩, (40 : Int), ([] : List Int), ([] : List Int), ([] : List Int), false⟩ : TUnit)] : List TUnit)) K2 z0 (fun _ _ => (.tl .hd)) el39 rfl rfl z2 (Src.row (α := TUnit) z0 .hd k2)) (fun c0 G3 ⟨u0, F0, Z2, W1⟩ => ?_)
 refine RG.fa 3 rfl <| RG.now .plain (Acts.store (j := 3) (old := [vI 0, vI 0, vI 0, d1]) (news := [c0]) (new' := [vI 0, vI 0, vI 0, c0]) F0 (.tl (.tl .hd)) rfl rfl rfl (St.c1 (α := TUnit) F0 (.tl .hd)) rfl rfl (o1 (St.o1 (α := TUnit) F0 (.tl .hd))) rfl) (fun M2 x1 E1 => ?_)
 refine RG.nil <| MX.inBlock <| MX.region <| RG.va (FV.add (i := 3) (j := 1) (r := 4) rfl rfl (by decide)) <| RG.mo rfl <| RG.nil <| MX.again1 ?_
 obtain ⟨G0, F1⟩ := St.arrB x1 (.one (.tl .hd) (.one (.tl .hd) (.one (.tl .hd) (.one (.tl .hd) .done))))
 refine MX.sr <| RG.va (FV.lssN (i := 4) (j := 4) rfl rfl) <| RG.nil <| MX.seq <| MX.cond_f rfl <| MX.exit rfl <| MX.seq <| MX.drawT 6 tb29_7 (by kernel_rfl) (by kernel_rfl) (by kernel_rfl) (fun b0 s0 => ?_)
 refine RD.vw 0 1 b0 rfl s0 (fun _ => FV.buildV (vs := [vI 0, vI 1]) (u := .agg #[vI 0, vI 1]) (e2 rfl rfl) (fun w9 => by kernel_rfl)) rfl <| RD.vw 1 3 b0 rfl s0 (fun _ => FV.buildV (vs := [vI 1, vI 2]) (u := .agg #[vI 1, vI 2]) (e2 rfl rfl) (fun w9 => by kernel_rfl)) rfl <| RD.vw 2 7 b0 rfl s0 (fun _ => FV.buildV (vs := [vI 2, vI 3]) (u := .agg #[vI 2, vI 3]) (e2 rfl rfl) (fun w9 => by kernel_rfl)) rfl <| RD.meet (α := Value × (List Value)) (fun ⟨g0, p0⟩ => [(0, vP b5), (1, vP t0), (26, .agg #[vI 0, vI 0, vI 0, c0])]) (fun ⟨g0, p0⟩ C0 => St w C0 [.row w.heap.size 52 (Rep.size (Int × Int)) g0 (([((0 : Int), (1 : Int)), ((1 : Int), (2 : Int)), ((2 : Int), (3 : Int))] : List (Int × Int)).length) p0, .row w.heap.size 70 (Rep.size TUnit) c0 D0.length u0, .cells t0 [vI 0, vI 0, vI 0, vN] 41, .cells b5 [vI 4, g0] 38] ∧ Tr M2 [.row w.heap.size 70 (Rep.size TUnit) c0 D0.length u0, .cells v1 [vI 0, vI 0, vI 0, c0] 41, .cells t0 [vI 0, vI 0, vI 0, vN] 41, .cells b5 [vI 0, vN] 38] C0 [.row w.heap.size 52 (Rep.size (Int × Int)) g0 (([((0 : Int), (1 : Int)), ((1 : Int), (2 : Int)), ((2 : Int), (3 : Int))] : List (Int × Int)).length) p0, .row w.heap.size 70 (Rep.size TUnit) c0 D0.length u0, .cells t0 [vI 0, vI 0, vI 0, vN] 41, .cells b5 [vI 4, g0] 38] ∧ Cells C0 (bl [.row w.heap.size 52 (Rep.size (Int × Int)) g0 (([((0 : Int), (1 : Int)), ((1 : Int), (2 : Int)), ((2 : Int), (3 : Int))] : List (Int × Int)).length) p0, .row w.heap.size 70 (Rep.size TUnit) c0 D0.length u0, .cells t0 [vI 0, vI 0, vI 0, vN] 41, .cells b5 [vI 4, g0] 38] ++ L) p0 (([((0 : Int), (1 : Int)), ((1 : Int), (2 : Int)), ((2 : Int), (3 : Int))] : List (Int × Int)) : List (Int × Int))) 1 127 ?_ ?_
 rintro ⟨g0, p0⟩ C0 ⟨g1, G1, X1⟩
 try dsimp only
 refine RD.nw 7 255 b0 rfl rfl .plain (Acts.storeAll (news := [vI 0, vI 0, vI 0, c0]) g1 (.tl (.tl .hd)) rfl rfl rfl rfl rfl rfl (o4 rfl rfl rfl (St.o1 (α := TUnit) g1 (.tl .hd)))) (fun v3 I0 k1 => ?_)
 refine RD.done (doneD_ok b0 (by kernel_rfl)) <| MX.ret rfl <| RT.leave (u := .tuple #[.agg #[vI 4, g0], .agg #[vI 0, vI 0, vI 0, c0]]) hb0 Tryz.func29 rfl (.cons (.many (cs := [vI 4, g0]) (by kernel_rfl) rfl (I0.memA (.tl (.tl (.tl .hd))))) (.cons (.many (cs := [vI 0, vI 0, vI 0, c0]) (by kernel_rfl) rfl (I0.memA (.tl (.tl .hd)))) .nil)) rfl ?_
 obtain ⟨j1, p1⟩ := St.arrB I0 (.one .hd (.one .hd .done))
 cases h
 have p2 := Cells.mv X1 (Tt k1 p1)
 have A2 := Tt E1 (Tt F1 (Tt G1 (Tt k1 p1)))
 have q2 := Cells.mv W1 A2
 exact ⟨j1.ag, fun w9 hw9 => ⟨g0, c0, p0, u0, rfl, j1.agree hw9, Cells.keep0 p2 hw9, Cells.keep0 q2 hw9⟩⟩
 intro E0
 refine RD.each [3, 5] (readyD_ok b0 (by kernel_rfl)) ⟨?_, ?_, trivial⟩
 refine RO.new (m' := 15) (stepC_ok b0 (by kernel_rfl)) rfl .plain rfl (Does.build (α := Int × Int) (xs := ([((0 : Int), (1 : Int)), ((1 : Int), (2 : Int)), ((2 : Int), (3 : Int))] : List (Int × Int))) (vs := [.agg #[vI 0, vI 1], .agg #[vI 1, vI 2], .agg #[vI 2, vI 3]]) (ds' := [vI 0, vI 1, vI 1, vI 2, vI 2, vI 3]) rfl G0 el36 rfl (e3 rfl rfl rfl) (by kernel_rfl) rfl) (fun P2 d0 j0 A0 => ?_)
 have B0 := Cells.at_ (cs := [vI 0, vI 1, vI 1, vI 2, vI 2, vI 3]) (xs := (([((0 : Int), (1 : Int)), ((1 : Int), (2 : Int)), ((2 : Int), (3 : Int))] : List (Int × Int)) : List (Int × Int))) j0 L (Cells.cons (cs := [vI 0, vI 1]) (ds := [vI 1, vI 2, vI 2, vI 3]) (mk_A52 (0 : Int) (1 : Int)) (Cells.cons (cs := [vI 1, vI 2]) (ds := [vI 2, vI 3]) (mk_A52 (1 : Int) (2 : Int)) (Cells.cons (cs := [vI 2, vI 3]) (ds := []) (mk_A52 (2 : Int) (3 : Int)) (Cells.nil _ _))))
 refine RD.vw 4 31 b0 rfl s0 (fun _ => FV.buildV (vs := [vI 4, (vS d0 3)]) (u := .agg #[vI 4, (vS d0 3)]) (e2 rfl rfl) (fun w9 => by kernel_rfl)) rfl <| RD.each [5, 6] (readyD_ok b0 (by kernel_rfl)) ⟨?_, ?_, trivial⟩
 refine RO.val (m' := 63) (stepC_ok b0 (by kernel_rfl)) rfl .plain rfl (FV.lN rfl (j0.memA (.tl (.tl .hd)))) <| RD.nw 6 127 b0 rfl rfl .plain (Acts.storeAll (news := [vI 4, (vS d0 3)]) j0 (.tl (.tl (.tl (.tl .hd)))) rfl rfl rfl rfl rfl rfl (o2 rfl (St.o1 (α := Int × Int) j0 .hd))) (fun u1 q0 k0 => ?_)
 obtain ⟨y1, q1⟩ := St.arrB q0 (.one .hd (.one .hd (.one (.tl .hd) (.one (.tl .hd) .done))))
 have s2 := Cells.mv B0 (Tt k0 q1)
 have B2 := Tt A0 (Tt k0 q1)
 exact E0 ((vS d0 3), [vI 0, vI 1, vI 1, vI 2, vI 2, vI 3]) _ _ ⟨rfl, rfl, rfl, trivial⟩ ⟨y1, B2, s2⟩
 refine RO.now (m' := 95) (stepC_ok b0 (by kernel_rfl)) rfl rfl .plain (Acts.storeAll (news := [vI 4, (vS d0 3)]) j0 (.tl (.tl (.tl (.tl .hd)))) rfl rfl rfl rfl rfl rfl (o2 rfl (St.o1 (α := Int × Int) j0 .hd))) (fun u1 q0 k0 => ?_)
 refine RD.vx 5 127 128 b0 rfl s0 (FV.lN rfl (q0.memA (.tl (.tl .hd)))) rfl ?_
 obtain ⟨z1, s1⟩ := St.arrB q0 (.one .hd (.one .hd (.one (.tl .hd) (.one (.tl .hd) .done))))
 have t2 := Cells.mv B0 (Tt k0 s1)
 have C2 := Tt A0 (Tt k0 s1)
 exact E0 ((vS d0 3), [vI 0, vI 1, vI 1, vI 2, vI 2, vI 3]) _ _ ⟨rfl, rfl, rfl, trivial⟩ ⟨z1, C2, t2⟩
 refine RO.val (m' := 39) (stepC_ok b0 (by kernel_rfl)) rfl .plain rfl (FV.lN rfl (G0.memA (.tl .hd))) <| RD.nu 3 47 b0 rfl .plain rfl (Does.build (α := Int × Int) (xs := ([((0 : Int), (1 : Int)), ((1 : Int), (2 : Int)), ((2 : Int), (3 : Int))] : List (Int × Int))) (vs := [.agg #[vI 0, vI 1], .agg #[vI 1, vI 2], .agg #[vI 2, vI 3]]) (ds' := [vI 0, vI 1, vI 1, vI 2, vI 2, vI 3]) rfl G0 el36 rfl (e3 rfl rfl rfl) (by kernel_rfl) rfl) (fun P2 d0 j0 A0 => ?_)
 have B0 := Cells.at_ (cs := [vI 0, vI 1, vI 1, vI 2, vI 2, vI 3]) (xs := (([((0 : Int), (1 : Int)), ((1 : Int), (2 : Int)), ((2 : Int), (3 : Int))] : List (Int × Int)) : List (Int × Int))) j0 L (Cells.cons (cs := [vI 0, vI 1]) (ds := [vI 1, vI 2, vI 2, vI 3]) (mk_A52 (0 : Int) (1 : Int)) (Cells.cons (cs := [vI 1, vI 2]) (ds := [vI 2, vI 3]) (mk_A52 (1 : Int) (2 : Int)) (Cells.cons (cs := [vI 2, vI 3]) (ds := []) (mk_A52 (2 : Int) (3 : Int)) (Cells.nil _ _))))
 refine RD.vw 4 63 b0 rfl s0 (fun _ => FV.buildV (vs := [vI 4, (vS d0 3)]) (u := .agg #[vI 4, (vS d0 3)]) (e2 rfl rfl) (fun w9 => by kernel_rfl)) rfl <| RD.nw 6 127 b0 rfl rfl .plain (Acts.storeAll (news := [vI 4, (vS d0 3)]) j0 (.tl (.tl (.tl (.tl .hd)))) rfl rfl rfl rfl rfl rfl (o2 rfl (St.o1 (α := Int × Int) j0 .hd))) (fun u1 q0 k0 => ?_)
 obtain ⟨A1, t1⟩ := St.arrB q0 (.one .hd (.one .hd (.one (.tl .hd) (.one (.tl .hd) .done))))
 have u2 := Cells.mv B0 (Tt k0 t1)
 have D2 := Tt A0 (Tt k0 t1)
 exact E0 ((vS d0 3), [vI 0, vI 1, vI 1, vI 2, vI 2, vI 3]) _ _ ⟨rfl, rfl, rfl, trivial⟩ ⟨A1, D2, u2⟩
def edit_Start_p (n : Nat) (a0 : TGraph) (a1 : TRoll) (a2 : List Int) (a3 : Int) : Option (TSession × Int) :=
  (judge_Check_p n a0 a1 a2 a3).bind fun c0 => (if c0 = 0 then (balance_Totals_p n a1 a2 a3).bind fun b0 => (if b0.2 = 0 then some ((⟨a3, a2, b0.1, ([] : List TMove), ([] : List TMove)⟩ : TSession), (0 : Int)) else some ((⟨(0 : Int), ([] : List Int), ([] : List Int), ([] : List TMove), ([] : List TMove)⟩ : TSession), b0.2)) else some ((⟨(0 : Int), ([] : List Int), ([] : List Int), ([] : List TMove), ([] : List TMove)⟩ : TSession), c0))
theorem edit_Start_c (n : Nat) (L : List Nat) (w : World) (hL : ∀ b ∈ L, b < w.heap.size) (a0 : TGraph) {v0_1 : Value} (h0_1 : Rep.R w L [v0_1] a0.fEdges) (a1 : TRoll) {v1_3 : Value} (h1_3 : Rep.R w L [v1_3] a1.fUnits) (a2 : List Int) {v2_0 : Value} (h2_0 : Rep.R w L [v2_0] a2) (a3 : Int)  {r : TSession × Int} (h : edit_Start_p n a0 a1 a2 a3 = some r) :
    Calls Tryz.prog 30 #[.agg #[vI a0.fN, v0_1], .agg #[vI a1.fGroups, vI a1.fParties, vI a1.fLevels, v1_3], v2_0, vI a3] w (Gives w fun w' u => ∃ v0_1 v0_2 v0_3 v0_4 : Value, u = .tuple #[.agg #[vI r.1.fK, v0_1, v0_2, v0_3, v0_4], vI r.2] ∧ Rep.R w' L [v0_1] r.1.fPlan ∧ Rep.R w' L [v0_2] r.1.fTotals ∧ Rep.R w' L [v0_3] r.1.fDone ∧ Rep.R w' L [v0_4] r.1.fUndone) := by
 unfold edit_Start_p at h
 have hS0 := St.start w
 refine MX.start Tryz.func30 rfl rfl rfl (fun _ cs0 hb0 => ?_)
 refine MX.sr <| RG.new .plain rfl (Does.box hS0 rfl rfl) (fun w2 b5 hS3 hT4 => ?_)
 refine RG.new .plain rfl (Does.box hS3 rfl rfl) (fun w7 P0 hS8 hT9 => ?_)
 refine RG.new .plain rfl (Does.al [vI 0, vN, vN, vN, vN] hS8) (fun b1 Q0 b0 V0 => ?_)
 refine RG.so rfl <| RG.nil <| MX.seq <| MX.sr <| RG.va (FV.lN rfl (b0.memA (.tl (.tl .hd)))) <| RG.va (FV.lN rfl (b0.memA (.tl .hd))) <| RG.mo rfl <| RG.mo rfl ?_
 obtain ⟨z0, H0, h⟩ := bi h
 refine RG.cq (vI z0) body47 rfl (e4 rfl rfl rfl rfl) (fun w9 hw9 => judge_Check_c n _ w9 (b0.hL0 hL hw9) a0 (b0.k0 h0_1 hw9) a1 (b0.k0 h1_3 hw9) a2 (b0.k0 h2_0 hw9) a3 H0) rfl <| RG.so rfl <| RG.nil <| MX.sr <| RG.mo rfl <| RG.va (FV.neq (i := z0) (j := 0) rfl rfl) <| RG.nil <| MX.ifn rfl h (fun A0 h => ?_) (fun A0 h => ?_)
 refine MX.skip <| MX.sr <| RG.va (FV.lN rfl (b0.memA (.tl .hd))) <| RG.mo rfl <| RG.mo rfl ?_
 obtain ⟨J0, I0, h⟩ := bi h
 refine RG.call' (fst := []) (cap := []) .plain body24 rfl (e3 rfl rfl rfl) (fun w9 hw9 => balance_Totals_c n _ w9 (b0.hL hL hw9) a1 (b0.km h1_3 hw9) a2 (b0.km h2_0 hw9) a3 I0) rfl (fun c1 Z0 D0 ⟨j0, hu_, q0⟩ => ?_)
 subst hu_
 obtain ⟨p0, W0⟩ := b0.agr D0
 refine RG.mo rfl <| RG.va (FV.extract rfl rfl) <| RG.va (FV.extract rfl rfl) <| RG.so rfl <| RG.so rfl <| RG.nil <| MX.seq <| MX.sr <| RG.mo rfl <| RG.va (FV.neq (i := J0.2) (j := 0) rfl rfl) <| RG.nil <| MX.ifn rfl h (fun B0 h => ?_) (fun B0 h => ?_)
 refine MX.skip <| MX.sr <| RG.mo rfl <| RG.mo rfl <| RG.mo rfl ?_
 have s0 := Rep.mv0 h2_0 p0
 obtain ⟨K0, R0, F0, _⟩ := Rep.sl s0
 obtain ⟨M0, U0, G0, _⟩ := Rep.sl q0
 refine RG.va (FV.buildV (vs := [vI a3, v2_0, j0]) (u := .agg #[vI a3, v2_0, j0, vN, vN]) (e3 rfl rfl rfl) (fun w9 => by rw [F0, G0]; try kernel_rfl)) <| RG.sa [vI a3, v2_0, j0, vN, vN] p0 .hd (o5 rfl (Rep.o1 s0) (Rep.o1 q0) rfl rfl) (fun d1 g0 C0 => ?_)
 refine RG.so rfl <| RG.nil <| MX.ret rfl ?_
 have t0 := Rep.nilAt (α := TMove) g0 L
 refine RT.leave hb0 Tryz.func30 rfl (.cons (.many (cs := [vI a3, v2_0, j0, vN, vN]) (by kernel_rfl) rfl (g0.memA .hd)) (.cons (.tmp rfl) .nil)) rfl ?_
 cases h
 have E0 := Rep.mv q0 C0
 exact ⟨g0.ag, fun w9 hw9 => ⟨v2_0, j0, vN, vN, rfl, g0.k0 h2_0 hw9, g0.kd E0 hw9, g0.kd t0 hw9, g0.kd t0 hw9⟩⟩
 refine MX.sr <| RG.va (FV.buildV (vs := []) (u := .agg #[vI 0, vN, vN, vN, vN]) evs_nil (fun w9 => by kernel_rfl)) <| RG.mo rfl <| RG.sa [vI 0, vN, vN, vN, vN] p0 .hd (onesB rfl) (fun g1 c0 X0 => ?_)
 refine RG.so rfl <| RG.nil <| MX.ret rfl ?_
 have u0 := Rep.nilAt (α := Int) c0 L
 have v0 := Rep.nilAt (α := TMove) c0 L
 refine RT.leave hb0 Tryz.func30 rfl (.cons (.many (cs := [vI 0, vN, vN, vN, vN]) (by kernel_rfl) rfl (c0.memA .hd)) (.cons (.tmp rfl) .nil)) rfl ?_
 cases h
 exact ⟨c0.ag, fun w9 hw9 => ⟨vN, vN, vN, vN, rfl, c0.kd u0 hw9, c0.kd u0 hw9, c0.kd v0 hw9, c0.kd v0 hw9⟩⟩
 refine MX.sr <| RG.va (FV.buildV (vs := []) (u := .agg #[vI 0, vN, vN, vN, vN]) evs_nil (fun w9 => by kernel_rfl)) <| RG.mo rfl <| RG.sa [vI 0, vN, vN, vN, vN] b0 .hd (onesB rfl) (fun j1 d0 Y0 => ?_)
 refine RG.so rfl <| RG.nil <| MX.ret rfl ?_
 have x0 := Rep.nilAt (α := Int) d0 L
 have y0 := Rep.nilAt (α := TMove) d0 L
 refine RT.leave hb0 Tryz.func30 rfl (.cons (.many (cs := [vI 0, vN, vN, vN, vN]) (by kernel_rfl) rfl (d0.memA .hd)) (.cons (.tmp rfl) .nil)) rfl ?_
 cases h
 exact ⟨d0.ag, fun w9 hw9 => ⟨vN, vN, vN, vN, rfl, d0.kd x0 hw9, d0.kd x0 hw9, d0.kd y0 hw9, d0.kd y0 hw9⟩⟩
def wardmotelaw26_fails_1_p (n : Nat) (a0 : TSession) (a1 : Int) (a2 : Int) : Option Bool :=
  (wardmoteref26_Same_p n a0 (⟨(0 : Int), ([] : List Int), ([] : List Int), ([] : List TMove), ([] : List TMove)⟩ : TSession)).bind fun y6 => (if y6 = true then some (decide (a1 = a2)) else some false)
theorem wardmotelaw26_fails_1_c (n : Nat) (L : List Nat) (w : World) (hL : ∀ b ∈ L, b < w.heap.size) (a0 : TSession) {v0_1 : Value} (h0_1 : Rep.R w L [v0_1] a0.fPlan) {v0_2 : Value} (h0_2 : Rep.R w L [v0_2] a0.fTotals) {v0_3 : Value} (h0_3 : Rep.R w L [v0_3] a0.fDone) {v0_4 : Value} (h0_4 : Rep.R w L [v0_4] a0.fUndone) (a1 : Int) (a2 : Int) {p2 : Nat} (m2 : ∀ j9 v9, ([vI a2] : List Value)[j9]? = some v9 → w.cell? ((⟨p2, 0, none⟩ : Addr).add j9) = some v9)  {r : Bool} (h : wardmotelaw26_fails_1_p n a0 a1 a2 = some r) :
    Calls Tryz.prog 64 #[.agg #[vI a0.fK, v0_1, v0_2, v0_3, v0_4], vI a1, .pointer (some ⟨p2, 0, none⟩)] w (Gives w fun _ u => u = .bool r) := by
 unfold wardmotelaw26_fails_1_p at h
 have hS0 := St.start w
 refine MX.start Tryz.func64 rfl rfl rfl (fun _ cs0 hb0 => ?_)
 refine MX.sr <| RG.new .plain rfl (Does.box hS0 rfl rfl) (fun w2 b5 hS3 hT4 => ?_)
 refine RG.so rfl <| RG.nil <| MX.sr <| RG.va (FV.lN rfl (hS3.memA .hd)) <| RG.va (FV.buildV (vs := []) (u := .agg #[vI 0, vN, vN, vN, vN]) evs_nil (fun w9 => by kernel_rfl)) ?_
 obtain ⟨y6, hy6, h⟩ := bi h
 refine RG.cq (.bool y6) body15 rfl (e2 rfl rfl) (fun w9 hw9 => wardmoteref26_Same_c n _ w9 (hS3.hL0 hL hw9) a0 (hS3.k0 h0_1 hw9) (hS3.k0 h0_2 hw9) (hS3.k0 h0_3 hw9) (hS3.k0 h0_4 hw9) (⟨(0 : Int), ([] : List Int), ([] : List Int), ([] : List TMove), ([] : List TMove)⟩ : TSession) (Rep.keep0 (Rep.nilSlice _ _) hw9) (Rep.keep0 (Rep.nilSlice _ _) hw9) (Rep.keep0 (Rep.nilSlice _ _) hw9) (Rep.keep0 (Rep.nilSlice _ _) hw9) hy6) rfl <| RG.mo rfl <| RG.ifb (s := 9) rfl h (fun c7 h => ?_) (fun c7 h => ?_)
 refine RG.ga (FV.move rfl) <| RG.ga (FV.l1 rfl ((fun j9 v9 h9 => hS3.ag.cell0 (m2 j9 v9 h9)) 0 _ rfl)) <| RG.ga (FV.eql (i := a1) (j := a2) rfl rfl) <| RG.pt rfl rfl <| RG.so rfl <| RG.nil <| MX.ret rfl <| RT.t1 hb0 Tryz.func64 rfl rfl ?_
 cases h
 exact hS3.gv
 refine RG.no <| RG.no <| RG.no <| RG.pf rfl rfl <| RG.so rfl <| RG.nil <| MX.ret rfl <| RT.t1 hb0 Tryz.func64 rfl rfl ?_
 cases h
 exact hS3.gv
theorem wardmotelaw26_fails_c (n : Nat) (L : List Nat) (w : World) (_hL : ∀ b ∈ L, b < w.heap.size) (a0 : Int)  :
    Calls Tryz.prog 31 #[vI a0] w (Gives w fun w' u => ∃ b5 : Nat, u = .func (.func 64) #[] #[vP b5] ∧ St w w' [.cells b5 [vI a0] 54]) := by
 have hS0 := St.start w
 refine MX.start Tryz.func31 rfl rfl rfl (fun _ cs0 hb0 => ?_)
 refine MX.sr <| RG.new .plain rfl (Does.box hS0 rfl rfl) (fun w2 b5 hS3 hT4 => ?_)
 refine RG.so rfl <| RG.nil <| MX.sr <| RG.va (FV.makeFunc (vs := []) (us := [vP b5]) evs_nil (e1 rfl)) <| RG.so rfl <| RG.nil <| MX.ret rfl <| RT.leave (u := .func (.func 64) #[] #[vP b5]) hb0 Tryz.func31 rfl (.cons (.tmp rfl) .nil) rfl ?_
 exact ⟨hS3.ag, fun w9 hw9 => ⟨b5, rfl, hS3.agree hw9⟩⟩
def tb9_7 : List (Nat × Nat × Nat) := [(0, 16777216, 16), (1, 33554432, 16777216), (0, 67108864, 2), (0, 134217728, 4), (0, 268435456, 0), (30, 536870912, 469762048), (32, 1073741824, 536870912), (32, 2147483648, 536870912), (226, 4294967296, 3254779904), (256, 8589934592, 4294967296), (512, 17179869184, 8589934624), (1536, 34359738368, 25769803776), (512, 68719476736, 8589934594), (512, 137438953472, 8589934596), (512, 274877906944, 8589934608), (31232, 549755813888, 489626271744), (33280, 1099511627776, 558345748480), (33280, 2199023255552, 558345748480), (231936, 4398046511104, 3341484556288), (262656, 8796093022208, 4406636445696), (786432, 17592186044416, 8796093022208), (1048576, 35184372088832, 17592186044480), (3145728, 70368744177664, 52776558133248), (1048576, 140737488355328, 17592186044418), (1048576, 281474976710656, 17592186044420), (1048576, 562949953421312, 17592186044448), (63963136, 1125899906842624, 1002754604531712), (68157440, 2251799813685248, 1143492092887040), (68157440, 4503599627370496, 1143492092887040), (475004928, 9007199254740992, 6843360371277824), (537919488, 18014398509481984, 9024791440785408), (1610612736, 36028797018963968, 18014398509481984), (2147483648, 72057594037927936, 36028797018963968), (2147483648, 144115188075855872, 36028797018963970), (2147483648, 288230376151711744, 36028797018963972), (2147483648, 576460752303423488, 36028797018963984), (66571993088, 1152921504606846976, 1044835113549955072), (70866960384, 2305843009213693952, 1188950301625810944), (70866960384, 4611686018427387904, 1188950301625810944), (487478788096, 9223372036854775808, 7025615418697973760), (551903297536, 18446744073709551616, 9259400833873739776), (1649267441664, 36893488147419103232, 18446744073709551616), (2199023255552, 73786976294838206464, 36893488147419103232), (2199023255552, 147573952589676412928, 36893488147419103234), (2199023255552, 295147905179352825856, 36893488147419103236), (2199023255552, 590295810358705651712, 36893488147419103248), (68169720922112, 1180591620717411303424, 1069911156275153993728), (72567767433216, 2361183241434822606848, 1217485108864830406656), (72567767433216, 4722366482869645213696, 1217485108864830406656), (499178279010304, 9444732965739290427392, 7194230188746725130240), (565148976676864, 18889465931478580854784, 9481626453886709530624), (1688849860263936, 37778931862957161709568, 18889465931478580854784), (2251799813685248, 75557863725914323419136, 37778931862957161709568), (2251799813685248, 151115727451828646838272, 37778931862957161709570), (2251799813685248, 302231454903657293676544, 37778931862957161709572), (2251799813685248, 604462909807314587353088, 37778931862957161709584), (69805794224242688, 1208925819614629174706176, 1095589024025757689577472), (74309393851613184, 2417851639229258349412352, 1246704751477586336415744), (74309393851613184, 4835703278458516698824704, 1246704751477586336415744), (511158557706551296, 9671406556917033397649408, 7366891713276646533365760), (578712552117108736, 19342813113834066795298816, 9709185488779990559358976), (1729382256910270464, 38685626227668133590597632, 19342813113834066795298816), (2305843009213693952, 77371252455336267181195264, 38685626227668133590597632), (2305843009213693952, 154742504910672534362390528, 38685626227668133590597634), (2305843009213693952, 309485009821345068724781056, 38685626227668133590597636), (2305843009213693952, 618970019642690137449562112, 38685626227668133590597664), (71481133285624512512, 1237940039285380274899124224, 1121883160602375874127331328), (76092819304051900416, 2475880078570760549798248448, 1276625665513048408489721856), (76092819304051900416, 4951760157141521099596496896, 1276625665513048408489721856), (523426363091508527104, 9903520314283042199192993792, 7543697114395286050166538240), (592601653367919345664, 19807040628566084398385987584, 9942205940510710332783591424), (2361183241434822606847, 1, 19807040628566084398385987584)]
theorem body13 : bodyB Tryz.prog 13 = true := by kernel_rfl
theorem body17 : bodyB Tryz.prog 17 = true := by kernel_rfl
theorem body19 : bodyB Tryz.prog 19 = true := by kernel_rfl
theorem body29 : bodyB Tryz.prog 29 = true := by kernel_rfl
theorem body30 : bodyB Tryz.prog 30 = true := by kernel_rfl
theorem body31 : bodyB Tryz.prog 31 = true := by kernel_rfl
theorem body53 : bodyB Tryz.prog 53 = true := by kernel_rfl
theorem body64 : bodyB Tryz.prog 64 = true := by kernel_rfl
def wardmotelaw26_works_p (n : Nat) : Option Bool :=
  (wardmotelaw26_example_p n).bind fun y1 => (edit_Start_p n y1.1 y1.2 ([(0 : Int), (0 : Int), (1 : Int), (1 : Int)] : List Int) (2 : Int)).bind fun b0 => (wardmotelaw26_is_1_p n b0.1 b0.2 (⟨(2 : Int), ([(0 : Int), (0 : Int), (1 : Int), (1 : Int)] : List Int), ([(30 : Int), (70 : Int)] : List Int), ([] : List TMove), ([] : List TMove)⟩ : TSession)).bind fun q0 => (if q0 = true then (edit_Make_p n y1.1 y1.2 (⟨(2 : Int), ([(0 : Int), (0 : Int), (1 : Int), (1 : Int)] : List Int), ([(30 : Int), (70 : Int)] : List Int), ([] : List TMove), ([] : List TMove)⟩ : TSession) (2 : Int) (0 : Int)).bind fun c0 => (wardmotelaw26_is_1_p n c0.1 c0.2 (⟨(2 : Int), ([(0 : Int), (0 : Int), (0 : Int), (1 : Int)] : List Int), ([(60 : Int), (40 : Int)] : List Int), ([(⟨(2 : Int), (1 : Int), (0 : Int)⟩ : TMove)] : List TMove), ([] : List TMove)⟩ : TSession)).bind fun s0 => (if s0 = true then (edit_Undo_p n y1.1 y1.2 (⟨(2 : Int), ([(0 : Int), (0 : Int), (0 : Int), (1 : Int)] : List Int), ([(60 : Int), (40 : Int)] : List Int), ([(⟨(2 : Int), (1 : Int), (0 : Int)⟩ : TMove)] : List TMove), ([] : List TMove)⟩ : TSession)).bind fun d0 => (wardmotelaw26_is_1_p n d0.1 d0.2 (⟨(2 : Int), ([(0 : Int), (0 : Int), (1 : Int), (1 : Int)] : List Int), ([(30 : Int), (70 : Int)] : List Int), ([] : List TMove), ([(⟨(2 : Int), (1 : Int), (0 : Int)⟩ : TMove)] : List TMove)⟩ : TSession)).bind fun t0 => (if t0 = true then (edit_Make_p n y1.1 y1.2 (⟨(2 : Int), ([(0 : Int), (0 : Int), (1 : Int), (1 : Int)] : List Int), ([(30 : Int), (70 : Int)] : List Int), ([] : List TMove), ([] : List TMove)⟩ : TSession) (2 : Int) (1 : Int)).bind fun g0 => (wardmotelaw26_fails_1_p n g0.1 g0.2 (2 : Int)).bind fun u0 => (if u0 = true then (edit_Make_p n y1.1 y1.2 (⟨(2 : Int), ([(0 : Int), (0 : Int), (1 : Int), (1 : Int)] : List Int), ([(30 : Int), (70 : Int)] : List Int), ([] : List TMove), ([] : List TMove)⟩ : TSession) (2 : Int) (2 : Int)).bind fun j0 => (wardmotelaw26_fails_1_p n j0.1 j0.2 (2 : Int)).bind fun v0 => (if v0 = true then (edit_Undo_p n y1.1 y1.2 (⟨(2 : Int), ([(0 : Int), (0 : Int), (1 : Int), (1 : Int)] : List Int), ([(30 : Int), (70 : Int)] : List Int), ([] : List TMove), ([] : List TMove)⟩ : TSession)).bind fun k0 => (wardmotelaw26_fails_1_p n k0.1 k0.2 (4 : Int)).bind fun x0 => (if x0 = true then (edit_Make_p n y1.1 y1.2 (⟨(2 : Int), ([(0 : Int), (0 : Int), (0 : Int), (1 : Int)] : List Int), ([(60 : Int), (40 : Int)] : List Int), ([(⟨(2 : Int), (1 : Int), (0 : Int)⟩ : TMove)] : List TMove), ([] : List TMove)⟩ : TSession) (3 : Int) (0 : Int)).bind fun p0 => (wardmotelaw26_fails_1_p n p0.1 p0.2 (4 : Int)).bind fun y0 => some y0 else some false) else some false) else some false) else some false) else some false) else some false)
theorem wardmotelaw26_works_c (n : Nat) (L : List Nat) (w : World) (hL : ∀ b ∈ L, b < w.heap.size)  {r : Bool} (h : wardmotelaw26_works_p n = some r) :
    Calls Tryz.prog 9 #[] w (Gives w fun _ u => u = .bool r) := by
 unfold wardmotelaw26_works_p at h
 have hS0 := St.start w
 refine MX.start Tryz.func9 rfl rfl rfl (fun _ cs0 hb0 => ?_)
 refine MX.sr <| RG.so rfl <| RG.nil <| MX.sr ?_
 obtain ⟨y1, hy1, h⟩ := bi h
 refine RG.call' (fst := []) (cap := []) .plain body29 rfl evs_nil (fun w9 hw9 => own_gives2 (b0 := w.heap.size) (wardmotelaw26_example_c n _ w9 (hS0.hL hL hw9)  hy1) hw9 (Nat.le_trans hS0.ag.size hw9.size)) rfl (fun w2 vu3 hag4 ⟨v9, A0, z1, A1, hu6, s5, u5, v5⟩ => ?_)
 subst hu6
 have hS7 := own_push2 hS0 s5
 have hT8 := own_tr2 hS0 s5
 have x5 := Cells.at_ (cs := z1) (xs := (y1.1.fEdges : List (Int × Int))) hS7 L (own_cells u5)
 have y5 := Cells.at_ (cs := A1) (xs := (y1.2.fUnits : List TUnit)) hS7 L (own_cells v5)
 refine RG.mo rfl <| RG.va (FV.extract rfl rfl) <| RG.va (FV.extract rfl rfl) <| RG.new .plain rfl (Does.al [vI 0, vN] hS7) (fun w20 q1 I4 V4 => ?_)
 refine RG.new .plain rfl (Does.al [vI 0, vI 0, vI 0, vN] I4) (fun w25 s1 k3 W4 => ?_)
 refine RG.sa [vI y1.1.fN, v9] k3 (.tl .hd) (o2 rfl (St.o1 (α := Int × Int) k3 (.tl (.tl .hd)))) (fun w29 p3 X4 => ?_)
 refine RG.sa [vI y1.2.fGroups, vI y1.2.fParties, vI y1.2.fLevels, A0] p3 .hd (o4 rfl rfl rfl (St.o1 (α := TUnit) p3 (.tl (.tl (.tl .hd))))) (fun w32 M4 Y4 => ?_)
 refine RG.nil <| MX.sr <| RG.va (FV.buildV (vs := [vI 2, vI 1]) (u := .agg #[vI 2, vI 1, vI 0]) (e2 rfl rfl) (fun w9 => by kernel_rfl)) <| RG.new .plain rfl (Does.al [vI 0, vI 0, vI 0] M4) (fun w36 z4 P4 Z4 => ?_)
 refine RG.sa [vI 2, vI 1, vI 0] P4 .hd (onesB rfl) (fun w40 Q4 b5 => ?_)
 refine RG.nil <| MX.sr <| RG.new .plain rfl (Does.build (α := Int) (xs := ([(0 : Int), (0 : Int), (1 : Int), (1 : Int)] : List Int)) (vs := [vI 0, vI 0, vI 1, vI 1]) (ds' := [vI 0, vI 0, vI 1, vI 1]) rfl Q4 el43 rfl (e4 rfl rfl rfl rfl) (by kernel_rfl) rfl) (fun w44 g0 q3 c5 => ?_)
 have A5 := Cells.at_ (cs := [vI 0, vI 0, vI 1, vI 1]) (xs := (([(0 : Int), (0 : Int), (1 : Int), (1 : Int)] : List Int) : List Int)) q3 L (Cells.cons (cs := [vI 0]) (ds := [vI 0, vI 1, vI 1]) rfl (Cells.cons (cs := [vI 0]) (ds := [vI 1, vI 1]) rfl (Cells.cons (cs := [vI 1]) (ds := [vI 1]) rfl (Cells.cons (cs := [vI 1]) (ds := []) rfl (Cells.nil _ _)))))
 refine RG.new .plain rfl (Does.build (α := Int) (xs := ([(30 : Int), (70 : Int)] : List Int)) (vs := [vI 30, vI 70]) (ds' := [vI 30, vI 70]) rfl q3 el42 rfl (e2 rfl rfl) (by kernel_rfl) rfl) (fun w50 j0 s3 A3 => ?_)
 have B5 := Cells.at_ (cs := [vI 30, vI 70]) (xs := (([(30 : Int), (70 : Int)] : List Int) : List Int)) s3 L (Cells.cons (cs := [vI 30]) (ds := [vI 70]) rfl (Cells.cons (cs := [vI 70]) (ds := []) rfl (Cells.nil _ _)))
 refine RG.va (FV.buildV (vs := [vI 2, (vS g0 4), (vS j0 2)]) (u := .agg #[vI 2, (vS g0 4), (vS j0 2), vN, vN]) (e3 rfl rfl rfl) (fun w9 => by kernel_rfl)) <| RG.new .plain rfl (Does.al [vI 0, vN, vN, vN, vN] s3) (fun w56 u1 J2 P2 => ?_)
 refine RG.sa [vI 2, (vS g0 4), (vS j0 2), vN, vN] J2 .hd (o5 rfl (St.o1 (α := Int) J2 (.tl (.tl .hd))) (St.o1 (α := Int) J2 (.tl .hd)) rfl rfl) (fun w60 R4 Q2 => ?_)
 refine RG.nil <| MX.sr <| RG.new .plain rfl (Does.build (α := Int) (xs := ([(0 : Int), (0 : Int), (0 : Int), (1 : Int)] : List Int)) (vs := [vI 0, vI 0, vI 0, vI 1]) (ds' := [vI 0, vI 0, vI 0, vI 1]) rfl R4 el43 rfl (e4 rfl rfl rfl rfl) (by kernel_rfl) rfl) (fun w64 t0 t3 R2 => ?_)
 have C5 := Cells.at_ (cs := [vI 0, vI 0, vI 0, vI 1]) (xs := (([(0 : Int), (0 : Int), (0 : Int), (1 : Int)] : List Int) : List Int)) t3 L (Cells.cons (cs := [vI 0]) (ds := [vI 0, vI 0, vI 1]) rfl (Cells.cons (cs := [vI 0]) (ds := [vI 0, vI 1]) rfl (Cells.cons (cs := [vI 0]) (ds := [vI 1]) rfl (Cells.cons (cs := [vI 1]) (ds := []) rfl (Cells.nil _ _)))))
 refine RG.new .plain rfl (Does.build (α := Int) (xs := ([(60 : Int), (40 : Int)] : List Int)) (vs := [vI 60, vI 40]) (ds' := [vI 60, vI 40]) rfl t3 el42 rfl (e2 rfl rfl) (by kernel_rfl) rfl) (fun w70 u0 K2 u2 => ?_)
 have D5 := Cells.at_ (cs := [vI 60, vI 40]) (xs := (([(60 : Int), (40 : Int)] : List Int) : List Int)) K2 L (Cells.cons (cs := [vI 60]) (ds := [vI 40]) rfl (Cells.cons (cs := [vI 40]) (ds := []) rfl (Cells.nil _ _)))
 refine RG.va (FV.lN rfl (K2.memA (.tl (.tl (.tl (.tl (.tl .hd))))))) <| RG.new .plain rfl (Does.build (α := TMove) (xs := ([(⟨(2 : Int), (1 : Int), (0 : Int)⟩ : TMove)] : List TMove)) (vs := [.agg #[vI 2, vI 1, vI 0]]) (ds' := [vI 2, vI 1, vI 0]) rfl K2 el46 rfl (e1 rfl) (by kernel_rfl) rfl) (fun w76 k0 u3 Q1 => ?_)
 have E5 := Cells.at_ (cs := [vI 2, vI 1, vI 0]) (xs := (([(⟨(2 : Int), (1 : Int), (0 : Int)⟩ : TMove)] : List TMove) : List TMove)) u3 L (Cells.cons (cs := [vI 2, vI 1, vI 0]) (ds := []) (mk_TMove (2 : Int) (1 : Int) (0 : Int)) (Cells.nil _ _))
 refine RG.va (FV.buildV (vs := [vI 2, (vS t0 4), (vS u0 2), (vS k0 1)]) (u := .agg #[vI 2, (vS t0 4), (vS u0 2), (vS k0 1), vN]) (e4 rfl rfl rfl rfl) (fun w9 => by kernel_rfl)) <| RG.new .plain rfl (Does.al [vI 0, vN, vN, vN, vN] u3) (fun w82 v1 s2 d1 => ?_)
 refine RG.sa [vI 2, (vS t0 4), (vS u0 2), (vS k0 1), vN] s2 .hd (o5 rfl (St.o1 (α := Int) s2 (.tl (.tl (.tl .hd)))) (St.o1 (α := Int) s2 (.tl (.tl .hd))) (St.o1 (α := TMove) s2 (.tl .hd)) rfl) (fun w86 v3 g1 => ?_)
 refine RG.nil <| MX.sr <| RG.va (FV.lN rfl (v3.memA (.tl (.tl (.tl (.tl .hd)))))) <| RG.new .plain rfl (Does.al [vI 0, vN, vN, vN, vN] v3) (fun w90 x1 M2 j1 => ?_)
 refine RG.sa [vI 2, (vS g0 4), (vS j0 2), vN, vN] M2 .hd (o5 rfl (St.o1 (α := Int) M2 (.tl (.tl (.tl (.tl (.tl (.tl (.tl .hd)))))))) (St.o1 (α := Int) M2 (.tl (.tl (.tl (.tl (.tl (.tl .hd))))))) rfl rfl) (fun w94 t2 k1 => ?_)
 refine RG.nil <| MX.sr <| RG.fa 3 rfl <| RG.l1 rfl ((t2.memA (.tl .hd)) 3 _ rfl) <| RG.fa 4 rfl <| RG.now .plain (Acts.store (j := 4) (old := [vI 2, (vS g0 4), (vS j0 2), vN, vN]) (news := [(vS k0 1)]) (new' := [vI 2, (vS g0 4), (vS j0 2), vN, (vS k0 1)]) t2 .hd rfl rfl rfl (St.c1 (α := TMove) t2 (.tl (.tl .hd))) rfl rfl (o1 (St.o1 (α := TMove) t2 (.tl (.tl .hd)))) rfl) (fun p4 W0 p1 => ?_)
 refine RG.nil <| MX.seq <| MX.drawT 72 tb9_7 (by kernel_rfl) (by kernel_rfl) (by kernel_rfl) (fun c0 d0 => ?_)
 refine RD.vx 0 1 4722366482869645213666 c0 rfl d0 (FV.lN rfl (W0.memA (.tl (.tl (.tl (.tl (.tl .hd))))))) rfl <| RD.vx 2 5 4722366482869645213664 c0 rfl d0 (FV.lN rfl (W0.memA (.tl (.tl (.tl (.tl (.tl (.tl (.tl (.tl (.tl (.tl .hd)))))))))))) rfl <| RD.vx 3 13 4722366482869645213664 c0 rfl d0 (FV.lN rfl (W0.memA (.tl (.tl (.tl (.tl (.tl (.tl (.tl (.tl (.tl .hd))))))))))) rfl ?_
 have Y6 := Tt P2 (Tt Q2 (Tt R2 (Tt u2 (Tt Q1 (Tt d1 (Tt g1 (Tt j1 (Tt k1 p1))))))))
 have F5 := Cells.mv B5 Y6
 have u7 := St.freeze (α := Int) W0 (.tl (.tl (.tl (.tl (.tl (.tl .hd)))))) F5 hL
 have g2 := St.delS W0 (.tl (.tl (.tl (.tl (.tl (.tl .hd))))))
 have C1 := St.delT W0 (.tl (.tl (.tl (.tl (.tl (.tl .hd))))))
 have D0 := Rep.at_ (α := Int) (v := (vS j0 2)) (xs := ([(30 : Int), (70 : Int)] : List Int)) g2 L u7
 have Z6 := Tt A3 (Tt P2 (Tt Q2 (Tt R2 (Tt u2 (Tt Q1 (Tt d1 (Tt g1 (Tt j1 (Tt k1 (Tt p1 C1))))))))))
 have G5 := Cells.mv A5 Z6
 have v7 := St.freeze (α := Int) g2 (.tl (.tl (.tl (.tl (.tl (.tl .hd)))))) G5 hL
 have V0 := St.delS g2 (.tl (.tl (.tl (.tl (.tl (.tl .hd))))))
 have z0 := St.delT g2 (.tl (.tl (.tl (.tl (.tl (.tl .hd))))))
 have E0 := Rep.at_ (α := Int) (v := (vS g0 4)) (xs := ([(0 : Int), (0 : Int), (1 : Int), (1 : Int)] : List Int)) V0 L v7
 refine RD.meet (α := Value × (List Value) × Nat) (fun ⟨R0, U0, I0⟩ => [(0, .bool false), (1, vP q1), (2, vP s1), (4, vP u1), (5, vP v1), (6, vP x1), (26, .agg #[vI y1.1.fN, v9]), (27, .agg #[vI y1.2.fGroups, vI y1.2.fParties, vI y1.2.fLevels, A0]), (25, .func (.func 53) #[] #[vP I0]), (28, R0)]) (fun ⟨R0, U0, I0⟩ z2 => St w z2 [.row w.heap.size 3 (Rep.size Int) R0 (([(0 : Int), (0 : Int), (1 : Int), (1 : Int)] : List Int).length) U0, .cells I0 [vI 2, (vS g0 4), (vS j0 2), vN, vN] 48, .cells x1 [vI 2, (vS g0 4), (vS j0 2), vN, (vS k0 1)] 48, .cells v1 [vI 2, (vS t0 4), (vS u0 2), (vS k0 1), vN] 48, .row w.heap.size 62 (Rep.size TMove) (vS k0 1) (([(⟨(2 : Int), (1 : Int), (0 : Int)⟩ : TMove)] : List TMove).length) [vI 2, vI 1, vI 0], .row w.heap.size 3 (Rep.size Int) (vS u0 2) (([(60 : Int), (40 : Int)] : List Int).length) [vI 60, vI 40], .row w.heap.size 3 (Rep.size Int) (vS t0 4) (([(0 : Int), (0 : Int), (0 : Int), (1 : Int)] : List Int).length) [vI 0, vI 0, vI 0, vI 1], .cells u1 [vI 2, (vS g0 4), (vS j0 2), vN, vN] 48, .cells s1 [vI y1.2.fGroups, vI y1.2.fParties, vI y1.2.fLevels, A0] 41, .cells q1 [vI y1.1.fN, v9] 38, .row w.heap.size 52 (Rep.size (Int × Int)) v9 y1.1.fEdges.length z1, .row w.heap.size 70 (Rep.size TUnit) A0 y1.2.fUnits.length A1] ∧ Tr p4 [.cells x1 [vI 2, (vS g0 4), (vS j0 2), vN, (vS k0 1)] 48, .cells v1 [vI 2, (vS t0 4), (vS u0 2), (vS k0 1), vN] 48, .row w.heap.size 62 (Rep.size TMove) (vS k0 1) (([(⟨(2 : Int), (1 : Int), (0 : Int)⟩ : TMove)] : List TMove).length) [vI 2, vI 1, vI 0], .row w.heap.size 3 (Rep.size Int) (vS u0 2) (([(60 : Int), (40 : Int)] : List Int).length) [vI 60, vI 40], .row w.heap.size 3 (Rep.size Int) (vS t0 4) (([(0 : Int), (0 : Int), (0 : Int), (1 : Int)] : List Int).length) [vI 0, vI 0, vI 0, vI 1], .cells u1 [vI 2, (vS g0 4), (vS j0 2), vN, vN] 48, .cells z4 [vI 2, vI 1, vI 0] 62, .cells s1 [vI y1.2.fGroups, vI y1.2.fParties, vI y1.2.fLevels, A0] 41, .cells q1 [vI y1.1.fN, v9] 38, .row w.heap.size 52 (Rep.size (Int × Int)) v9 y1.1.fEdges.length z1, .row w.heap.size 70 (Rep.size TUnit) A0 y1.2.fUnits.length A1] z2 [.row w.heap.size 3 (Rep.size Int) R0 (([(0 : Int), (0 : Int), (1 : Int), (1 : Int)] : List Int).length) U0, .cells I0 [vI 2, (vS g0 4), (vS j0 2), vN, vN] 48, .cells x1 [vI 2, (vS g0 4), (vS j0 2), vN, (vS k0 1)] 48, .cells v1 [vI 2, (vS t0 4), (vS u0 2), (vS k0 1), vN] 48, .row w.heap.size 62 (Rep.size TMove) (vS k0 1) (([(⟨(2 : Int), (1 : Int), (0 : Int)⟩ : TMove)] : List TMove).length) [vI 2, vI 1, vI 0], .row w.heap.size 3 (Rep.size Int) (vS u0 2) (([(60 : Int), (40 : Int)] : List Int).length) [vI 60, vI 40], .row w.heap.size 3 (Rep.size Int) (vS t0 4) (([(0 : Int), (0 : Int), (0 : Int), (1 : Int)] : List Int).length) [vI 0, vI 0, vI 0, vI 1], .cells u1 [vI 2, (vS g0 4), (vS j0 2), vN, vN] 48, .cells s1 [vI y1.2.fGroups, vI y1.2.fParties, vI y1.2.fLevels, A0] 41, .cells q1 [vI y1.1.fN, v9] 38, .row w.heap.size 52 (Rep.size (Int × Int)) v9 y1.1.fEdges.length z1, .row w.heap.size 70 (Rep.size TUnit) A0 y1.2.fUnits.length A1] ∧ Cells z2 (bl [.row w.heap.size 3 (Rep.size Int) R0 (([(0 : Int), (0 : Int), (1 : Int), (1 : Int)] : List Int).length) U0, .cells I0 [vI 2, (vS g0 4), (vS j0 2), vN, vN] 48, .cells x1 [vI 2, (vS g0 4), (vS j0 2), vN, (vS k0 1)] 48, .cells v1 [vI 2, (vS t0 4), (vS u0 2), (vS k0 1), vN] 48, .row w.heap.size 62 (Rep.size TMove) (vS k0 1) (([(⟨(2 : Int), (1 : Int), (0 : Int)⟩ : TMove)] : List TMove).length) [vI 2, vI 1, vI 0], .row w.heap.size 3 (Rep.size Int) (vS u0 2) (([(60 : Int), (40 : Int)] : List Int).length) [vI 60, vI 40], .row w.heap.size 3 (Rep.size Int) (vS t0 4) (([(0 : Int), (0 : Int), (0 : Int), (1 : Int)] : List Int).length) [vI 0, vI 0, vI 0, vI 1], .cells u1 [vI 2, (vS g0 4), (vS j0 2), vN, vN] 48, .cells s1 [vI y1.2.fGroups, vI y1.2.fParties, vI y1.2.fLevels, A0] 41, .cells q1 [vI y1.1.fN, v9] 38, .row w.heap.size 52 (Rep.size (Int × Int)) v9 y1.1.fEdges.length z1, .row w.heap.size 70 (Rep.size TUnit) A0 y1.2.fUnits.length A1] ++ L) U0 (([(0 : Int), (0 : Int), (1 : Int), (1 : Int)] : List Int) : List Int)) 67 31 ?_ ?_
 rintro ⟨R0, U0, I0⟩ z2 ⟨B2, C0, z5⟩
 try dsimp only
 have C3 := Tt V4 (Tt W4 (Tt X4 (Tt Y4 (Tt Z4 (Tt b5 (Tt c5 (Tt A3 (Tt P2 (Tt Q2 (Tt R2 (Tt u2 (Tt Q1 (Tt d1 (Tt g1 (Tt j1 (Tt k1 (Tt p1 (Tt C1 (Tt z0 C0)))))))))))))))))))
 have I5 := Cells.mv x5 C3
 have x7 := St.freeze (α := Int × Int) B2 (.tl (.tl (.tl (.tl (.tl (.tl (.tl (.tl (.tl (.tl .hd)))))))))) I5 hL
 have j2 := St.delS B2 (.tl (.tl (.tl (.tl (.tl (.tl (.tl (.tl (.tl (.tl .hd))))))))))
 have B0 := St.delT B2 (.tl (.tl (.tl (.tl (.tl (.tl (.tl (.tl (.tl (.tl .hd))))))))))
 have P0 := Rep.at_ (α := Int × Int) (v := v9) (xs := y1.1.fEdges) j2 L x7
 have J5 := Cells.mv y5 (Tt C3 B0)
 have y7 := St.freeze (α := TUnit) j2 (.tl (.tl (.tl (.tl (.tl (.tl (.tl (.tl (.tl (.tl .hd)))))))))) J5 hL
 have k2 := St.delS j2 (.tl (.tl (.tl (.tl (.tl (.tl (.tl (.tl (.tl (.tl .hd))))))))))
 have K0 := St.delT j2 (.tl (.tl (.tl (.tl (.tl (.tl (.tl (.tl (.tl (.tl .hd))))))))))
 have Q0 := Rep.at_ (α := TUnit) (v := A0) (xs := y1.2.fUnits) k2 L y7
 have K5 := Cells.mv z5 (Tt B0 K0)
 have z7 := St.freeze (α := Int) k2 .hd K5 hL
 have C2 := St.delS k2 .hd
 have G0 := St.delT k2 .hd
 have A7 := Rep.at_ (α := Int) (v := R0) (xs := ([(0 : Int), (0 : Int), (1 : Int), (1 : Int)] : List Int)) C2 L z7
 obtain ⟨q4, J8, h⟩ := bi h
 have M5 := Rep.mv P0 (Tt K0 G0)
 have P5 := Rep.mv Q0 G0
 refine RD.cl 5 63 c0 rfl .plain body30 rfl (e4 rfl rfl rfl rfl) (fun w9 hw9 => edit_Start_c n _ w9 (C2.hL hL hw9) y1.1 (Rep.keep0 M5 hw9) y1.2 (Rep.keep0 P5 hw9) ([(0 : Int), (0 : Int), (1 : Int), (1 : Int)] : List Int) (Rep.keep0 A7 hw9) (2 : Int) J8) rfl (fun d9 F00 d5 ⟨M9, P9, Q9, R9, hu_, B7, C7, D7, E7⟩ => ?_)
 subst hu_
 obtain ⟨q0, X0⟩ := C2.agr d5
 refine RD.vw 6 127 c0 rfl d0 (fun _ => FV.extract rfl rfl) rfl <| RD.vw 7 255 c0 rfl d0 (fun _ => FV.extract rfl rfl) rfl ?_
 obtain ⟨t9, K8, h⟩ := bi h
 have W2 := Tt C0 (Tt B0 (Tt K0 (Tt G0 X0)))
 have Q5 := Rep.mv E0 W2
 have R5 := Rep.mv D0 (Tt z0 W2)
 refine RD.callq (i := 8) (m' := 511) (W := 4722366482869645213184) (takeC_ok c0 (by kernel_rfl)) rfl d0 (v := .bool t9) (fst := []) (cap := [vP I0]) .plain body53 rfl (e2 rfl rfl) (fun w9 hw9 => wardmotelaw26_is_1_c n _ w9 (q0.hL0 hL hw9) q4.1 (q0.kd B7 hw9) (q0.kd C7 hw9) (q0.kd D7 hw9) (q0.kd E7 hw9) q4.2 (⟨(2 : Int), ([(0 : Int), (0 : Int), (1 : Int), (1 : Int)] : List Int), ([(30 : Int), (70 : Int)] : List Int), ([] : List TMove), ([] : List TMove)⟩ : TSession) (q0.kd Q5 hw9) (q0.kd R5 hw9) (Rep.keep0 (Rep.nilSlice _ _) hw9) (Rep.keep0 (Rep.nilSlice _ _) hw9) (fun j9 v9 h9 => hw9.cell0 ((q0.memA .hd) j9 v9 h9)) K8) rfl <| RD.vw 9 1023 c0 rfl d0 (fun _ => FV.move rfl) rfl <| RD.ifb (s := 33) rfl h (fun A4 h => ?_) (fun A4 h => ?_)
 refine RD.val (i := 10) (m' := 2047) (W := 4722366482869645182976) (takeC_ok c0 (by kernel_rfl)) rfl d0 (.yes rfl rfl) (FV.lN rfl (q0.memA (.tl (.tl .hd)))) rfl <| RD.val (i := 12) (m' := 6143) (W := 4722366482869645180928) (takeC_ok c0 (by kernel_rfl)) rfl d0 (.yes rfl rfl) (FV.lN rfl (q0.memA (.tl (.tl (.tl (.tl (.tl (.tl (.tl (.tl .hd)))))))))) rfl <| RD.val (i := 13) (m' := 14335) (W := 4722366482869645180928) (takeC_ok c0 (by kernel_rfl)) rfl d0 (.yes rfl rfl) (FV.lN rfl (q0.memA (.tl (.tl (.tl (.tl (.tl (.tl (.tl .hd))))))))) rfl <| RD.val (i := 14) (m' := 30719) (W := 4722366482869645180928) (takeC_ok c0 (by kernel_rfl)) rfl d0 (.yes rfl rfl) (FV.lN rfl (q0.memA (.tl (.tl (.tl (.tl (.tl (.tl .hd)))))))) rfl ?_
 have b7 := Tt u2 (Tt Q1 (Tt d1 (Tt g1 (Tt j1 (Tt k1 (Tt p1 (Tt C1 (Tt z0 W2))))))))
 have U5 := Cells.mv C5 b7
 have F7 := St.freeze (α := Int) q0 (.tl (.tl (.tl (.tl (.tl .hd))))) U5 hL
 have p2 := St.delS q0 (.tl (.tl (.tl (.tl (.tl .hd)))))
 have E1 := St.delT q0 (.tl (.tl (.tl (.tl (.tl .hd)))))
 have x2 := Rep.at_ (α := Int) (v := (vS t0 4)) (xs := ([(0 : Int), (0 : Int), (0 : Int), (1 : Int)] : List Int)) p2 L F7
 have c7 := Tt Q1 (Tt d1 (Tt g1 (Tt j1 (Tt k1 (Tt p1 (Tt C1 (Tt z0 (Tt C0 (Tt B0 (Tt K0 (Tt G0 (Tt X0 E1))))))))))))
 have V5 := Cells.mv D5 c7
 have G7 := St.freeze (α := Int) p2 (.tl (.tl (.tl (.tl .hd)))) V5 hL
 have q2 := St.delS p2 (.tl (.tl (.tl (.tl .hd))))
 have F1 := St.delT p2 (.tl (.tl (.tl (.tl .hd))))
 have y2 := Rep.at_ (α := Int) (v := (vS u0 2)) (xs := ([(60 : Int), (40 : Int)] : List Int)) q2 L G7
 have d7 := Tt d1 (Tt g1 (Tt j1 (Tt k1 (Tt p1 (Tt C1 (Tt z0 (Tt C0 (Tt B0 (Tt K0 (Tt G0 (Tt X0 (Tt E1 F1))))))))))))
 have W5 := Cells.mv E5 d7
 have H7 := St.freeze (α := TMove) q2 (.tl (.tl (.tl .hd))) W5 hL
 have B1 := St.delS q2 (.tl (.tl (.tl .hd)))
 have Y0 := St.delT q2 (.tl (.tl (.tl .hd)))
 have U1 := Rep.at_ (α := TMove) (v := (vS k0 1)) (xs := ([(⟨(2 : Int), (1 : Int), (0 : Int)⟩ : TMove)] : List TMove)) B1 L H7
 have I7 := Rep.nilAt (α := TMove) B1 L
 have X5 := Rep.mv x2 (Tt F1 Y0)
 have Y5 := Rep.mv y2 Y0
 refine RD.cl 11 32767 c0 rfl (.yes rfl rfl) body19 rfl (e1 rfl) (fun w9 hw9 => Calls.gives (wardmotelaw26_is_c n _ w9 (B1.hL hL hw9) (⟨(2 : Int), ([(0 : Int), (0 : Int), (0 : Int), (1 : Int)] : List Int), ([(60 : Int), (40 : Int)] : List Int), ([(⟨(2 : Int), (1 : Int), (0 : Int)⟩ : TMove)] : List TMove), ([] : List TMove)⟩ : TSession) (Rep.keep0 X5 hw9) (Rep.keep0 Y5 hw9) (Rep.keep0 U1 hw9) (Rep.keep0 I7 hw9)) fun (w8 : World) (u8 : Value) ⟨b0_, hu_, s_⟩ => (⟨b0_, hu_, s_.from hw9⟩ : ∃ X1 : Nat, u8 = Value.func (.func 53) #[] #[vP X1] ∧ St d9 w8 [.cells X1 [vI 2, (vS t0 4), (vS u0 2), (vS k0 1), vN] 48])) rfl (fun c01 G00 F9 ⟨X1, D8, Z3⟩ => ?_)
 subst D8
 have D2 := mk_push1 B1 Z3
 have Z0 := mk_tr1 B1 Z3
 have R3 := Rep.nilAt (α := TMove) D2 L
 obtain ⟨s4, M8, h⟩ := bi h
 have X2 := Tt K0 (Tt G0 (Tt X0 (Tt E1 (Tt F1 (Tt Y0 Z0)))))
 have Z5 := Rep.mv P0 X2
 have D3 := Tt G0 (Tt X0 (Tt E1 (Tt F1 (Tt Y0 Z0))))
 have b6 := Rep.mv Q0 D3
 have E3 := Tt C0 (Tt B0 X2)
 have c6 := Rep.mv E0 E3
 have d6 := Rep.mv D0 (Tt z0 E3)
 refine RD.cl 15 65535 c0 rfl (.yes rfl rfl) body13 rfl (e5 rfl rfl rfl rfl rfl) (fun w9 hw9 => edit_Make_c n _ w9 (D2.hL hL hw9) y1.1 (Rep.keep0 Z5 hw9) y1.2 (Rep.keep0 b6 hw9) (⟨(2 : Int), ([(0 : Int), (0 : Int), (1 : Int), (1 : Int)] : List Int), ([(30 : Int), (70 : Int)] : List Int), ([] : List TMove), ([] : List TMove)⟩ : TSession) (Rep.keep0 c6 hw9) (Rep.keep0 d6 hw9) (Rep.keep0 R3 hw9) (Rep.keep0 R3 hw9) (2 : Int) (0 : Int) M8) rfl (fun g9 H00 g5 ⟨U9, V9, W9, X9, hu_, J7, K7, M7, P7⟩ => ?_)
 subst hu_
 obtain ⟨p0, b1⟩ := D2.agr g5
 refine RD.vP 16 131071 c0 rfl d0 (.yes rfl rfl) (fun _ => FV.extract rfl rfl) rfl <| RD.vP 17 262143 c0 rfl d0 (.yes rfl rfl) (fun _ => FV.extract rfl rfl) rfl ?_
 obtain ⟨u9, P8, h⟩ := bi h
 have v2 := Tt F1 (Tt Y0 (Tt Z0 b1))
 have g6 := Rep.mv x2 v2
 have Y2 := Tt Y0 (Tt Z0 b1)
 have j6 := Rep.mv y2 Y2
 have B3 := Rep.mv U1 (Tt Z0 b1)
 refine RD.callq (i := 18) (m' := 524287) (W := 4722366482869644689408) (takeC_ok c0 (by kernel_rfl)) rfl d0 (v := .bool u9) (fst := []) (cap := [vP X1]) (.yes rfl rfl) body53 rfl (e2 rfl rfl) (fun w9 hw9 => wardmotelaw26_is_1_c n _ w9 (p0.hL0 hL hw9) s4.1 (p0.kd J7 hw9) (p0.kd K7 hw9) (p0.kd M7 hw9) (p0.kd P7 hw9) s4.2 (⟨(2 : Int), ([(0 : Int), (0 : Int), (0 : Int), (1 : Int)] : List Int), ([(60 : Int), (40 : Int)] : List Int), ([(⟨(2 : Int), (1 : Int), (0 : Int)⟩ : TMove)] : List TMove), ([] : List TMove)⟩ : TSession) (p0.kd g6 hw9) (p0.kd j6 hw9) (p0.kd B3 hw9) (Rep.keep0 (Rep.nilSlice _ _) hw9) (fun j9 v9 h9 => hw9.cell0 ((p0.memA .hd) j9 v9 h9)) P8) rfl <| RD.vw 19 1048575 c0 rfl d0 (fun _ => FV.pick_t rfl rfl) rfl <| RD.vw 20 2097151 c0 rfl d0 (fun _ => FV.move rfl) rfl <| RD.ifb (s := 44) rfl h (fun B4 h => ?_) (fun B4 h => ?_)
 refine RD.val (i := 21) (m' := 4194303) (W := 4722366482869582299136) (takeC_ok c0 (by kernel_rfl)) rfl d0 (.yes rfl rfl) (FV.lN rfl (p0.memA (.tl (.tl .hd)))) rfl <| RD.val (i := 23) (m' := 12582911) (W := 4722366482869578104832) (takeC_ok c0 (by kernel_rfl)) rfl d0 (.yes rfl rfl) (FV.lN rfl (p0.memA (.tl (.tl (.tl (.tl (.tl (.tl .hd)))))))) rfl <| RD.val (i := 24) (m' := 29360127) (W := 4722366482869578104832) (takeC_ok c0 (by kernel_rfl)) rfl d0 (.yes rfl rfl) (FV.lN rfl (p0.memA (.tl (.tl (.tl (.tl (.tl .hd))))))) rfl <| RD.val (i := 25) (m' := 62914559) (W := 4722366482869578104832) (takeC_ok c0 (by kernel_rfl)) rfl d0 (.yes rfl rfl) (FV.lN rfl (p0.memA (.tl (.tl (.tl .hd))))) rfl ?_
 have Q7 := Rep.nilAt (α := TMove) p0 L
 have Z2 := Tt C0 (Tt B0 (Tt K0 (Tt G0 (Tt X0 (Tt E1 v2)))))
 have k6 := Rep.mv E0 Z2
 have p6 := Rep.mv D0 (Tt z0 Z2)
 refine RD.cl 22 67108863 c0 rfl (.yes rfl rfl) body19 rfl (e1 rfl) (fun w9 hw9 => Calls.gives (wardmotelaw26_is_c n _ w9 (p0.hL hL hw9) (⟨(2 : Int), ([(0 : Int), (0 : Int), (1 : Int), (1 : Int)] : List Int), ([(30 : Int), (70 : Int)] : List Int), ([] : List TMove), ([(⟨(2 : Int), (1 : Int), (0 : Int)⟩ : TMove)] : List TMove)⟩ : TSession) (Rep.keep0 k6 hw9) (Rep.keep0 p6 hw9) (Rep.keep0 Q7 hw9) (Rep.keep0 B3 hw9)) fun (w8 : World) (u8 : Value) ⟨b0_, hu_, s_⟩ => (⟨b0_, hu_, s_.from hw9⟩ : ∃ Y1 : Nat, u8 = Value.func (.func 53) #[] #[vP Y1] ∧ St g9 w8 [.cells Y1 [vI 2, (vS g0 4), (vS j0 2), vN, (vS k0 1)] 48])) rfl (fun d01 I00 G9 ⟨Y1, E8, b4⟩ => ?_)
 subst E8
 have E2 := mk_push1 p0 b4
 have H0 := mk_tr1 p0 b4
 have R7 := Rep.nilAt (α := TMove) E2 L
 obtain ⟨t4, Q8, h⟩ := bi h
 have F3 := Tt X2 (Tt b1 H0)
 have q6 := Rep.mv P0 F3
 have G3 := Tt D3 (Tt b1 H0)
 have s6 := Rep.mv Q0 G3
 have t6 := Rep.mv x2 (Tt v2 H0)
 have u6 := Rep.mv y2 (Tt Y2 H0)
 have b3 := Tt Z0 (Tt b1 H0)
 have v6 := Rep.mv U1 b3
 refine RD.cl 26 134217727 c0 rfl (.yes rfl rfl) body17 rfl (e3 rfl rfl rfl) (fun w9 hw9 => edit_Undo_c n _ w9 (E2.hL hL hw9) y1.1 (Rep.keep0 q6 hw9) y1.2 (Rep.keep0 s6 hw9) (⟨(2 : Int), ([(0 : Int), (0 : Int), (0 : Int), (1 : Int)] : List Int), ([(60 : Int), (40 : Int)] : List Int), ([(⟨(2 : Int), (1 : Int), (0 : Int)⟩ : TMove)] : List TMove), ([] : List TMove)⟩ : TSession) (Rep.keep0 t6 hw9) (Rep.keep0 u6 hw9) (Rep.keep0 v6 hw9) (Rep.keep0 R7 hw9) Q8) rfl (fun k9 J00 j5 ⟨Y9, Z9, b00, c00, hu_, U7, V7, W7, X7⟩ => ?_)
 subst hu_
 obtain ⟨s0, M0⟩ := E2.agr j5
 refine RD.vP 27 268435455 c0 rfl d0 (.yes rfl rfl) (fun _ => FV.extract rfl rfl) rfl <| RD.vP 28 536870911 c0 rfl d0 (.yes rfl rfl) (fun _ => FV.extract rfl rfl) rfl ?_
 obtain ⟨x9, R8, h⟩ := bi h
 have H3 := Tt Z2 (Tt H0 M0)
 have x6 := Rep.mv E0 H3
 have y6 := Rep.mv D0 (Tt z0 H3)
 have z6 := Rep.mv U1 (Tt b3 M0)
 refine RD.callq (i := 29) (m' := 1073741823) (W := 4722366482868571471872) (takeC_ok c0 (by kernel_rfl)) rfl d0 (v := .bool x9) (fst := []) (cap := [vP Y1]) (.yes rfl rfl) body53 rfl (e2 rfl rfl) (fun w9 hw9 => wardmotelaw26_is_1_c n _ w9 (s0.hL0 hL hw9) t4.1 (s0.kd U7 hw9) (s0.kd V7 hw9) (s0.kd W7 hw9) (s0.kd X7 hw9) t4.2 (⟨(2 : Int), ([(0 : Int), (0 : Int), (1 : Int), (1 : Int)] : List Int), ([(30 : Int), (70 : Int)] : List Int), ([] : List TMove), ([(⟨(2 : Int), (1 : Int), (0 : Int)⟩ : TMove)] : List TMove)⟩ : TSession) (s0.kd x6 hw9) (s0.kd y6 hw9) (Rep.keep0 (Rep.nilSlice _ _) hw9) (s0.kd z6 hw9) (fun j9 v9 h9 => hw9.cell0 ((s0.memA .hd) j9 v9 h9)) R8) rfl <| RD.vw 30 2147483647 c0 rfl d0 (fun _ => FV.pick_t rfl rfl) rfl <| RD.vw 31 4294967295 c0 rfl d0 (fun _ => FV.move rfl) rfl <| RD.ifb (s := 55) rfl h (fun C4 h => ?_) (fun C4 h => ?_)
 refine RD.val (i := 33) (m' := 12884901887) (W := 4722366482800925736960) (takeC_ok c0 (by kernel_rfl)) rfl d0 (.yes rfl rfl) (FV.lN rfl (s0.memA (.tl (.tl (.tl (.tl (.tl (.tl (.tl .hd))))))))) rfl <| RD.val (i := 34) (m' := 30064771071) (W := 4722366482800925736960) (takeC_ok c0 (by kernel_rfl)) rfl d0 (.yes rfl rfl) (FV.lN rfl (s0.memA (.tl (.tl (.tl (.tl (.tl (.tl .hd)))))))) rfl <| RD.val (i := 35) (m' := 64424509439) (W := 4722366482800925736960) (takeC_ok c0 (by kernel_rfl)) rfl d0 (.yes rfl rfl) (FV.lN rfl (s0.memA (.tl (.tl (.tl (.tl (.tl .hd))))))) rfl <| RD.cl 32 68719476735 c0 rfl (.yes rfl rfl) body31 rfl (e1 rfl) (fun w9 hw9 => Calls.gives (wardmotelaw26_fails_c n _ w9 (s0.hL hL hw9) (2 : Int)) fun (w8 : World) (u8 : Value) ⟨b0_, hu_, s_⟩ => (⟨b0_, hu_, s_.from hw9⟩ : ∃ Z1 : Nat, u8 = Value.func (.func 64) #[] #[vP Z1] ∧ St k9 w8 [.cells Z1 [vI 2] 54])) rfl (fun g01 K00 H9 ⟨Z1, F8, c4⟩ => ?_)
 subst F8
 have F2 := mk_push1 s0 c4
 have G1 := mk_tr1 s0 c4
 have U3 := Rep.nilAt (α := TMove) F2 L
 obtain ⟨u4, U8, h⟩ := bi h
 have c3 := Tt F3 (Tt M0 G1)
 have A6 := Rep.mv P0 c3
 have I3 := Tt G3 (Tt M0 G1)
 have B6 := Rep.mv Q0 I3
 have J3 := Tt C0 (Tt B0 c3)
 have C6 := Rep.mv E0 J3
 have D6 := Rep.mv D0 (Tt z0 J3)
 refine RD.cl 36 137438953471 c0 rfl (.yes rfl rfl) body13 rfl (e5 rfl rfl rfl rfl rfl) (fun w9 hw9 => edit_Make_c n _ w9 (F2.hL hL hw9) y1.1 (Rep.keep0 A6 hw9) y1.2 (Rep.keep0 B6 hw9) (⟨(2 : Int), ([(0 : Int), (0 : Int), (1 : Int), (1 : Int)] : List Int), ([(30 : Int), (70 : Int)] : List Int), ([] : List TMove), ([] : List TMove)⟩ : TSession) (Rep.keep0 C6 hw9) (Rep.keep0 D6 hw9) (Rep.keep0 U3 hw9) (Rep.keep0 U3 hw9) (2 : Int) (1 : Int) U8) rfl (fun p9 M00 k5 ⟨d00, g00, j00, k00, hu_, Y7, Z7, b8, c8⟩ => ?_)
 subst hu_
 obtain ⟨v0, H1⟩ := F2.agr k5
 refine RD.vP 37 274877906943 c0 rfl d0 (.yes rfl rfl) (fun _ => FV.extract rfl rfl) rfl <| RD.vP 38 549755813887 c0 rfl d0 (.yes rfl rfl) (fun _ => FV.extract rfl rfl) rfl ?_
 obtain ⟨y9, V8, h⟩ := bi h
 refine RD.callq (i := 39) (m' := 1099511627775) (W := 4722366481770133585920) (takeC_ok c0 (by kernel_rfl)) rfl d0 (v := .bool y9) (fst := []) (cap := [vP Z1]) (.yes rfl rfl) body64 rfl (e2 rfl rfl) (fun w9 hw9 => wardmotelaw26_fails_1_c n _ w9 (v0.hL0 hL hw9) u4.1 (v0.kd Y7 hw9) (v0.kd Z7 hw9) (v0.kd b8 hw9) (v0.kd c8 hw9) u4.2 (2 : Int) (fun j9 v9 h9 => hw9.cell0 ((v0.memA .hd) j9 v9 h9)) V8) rfl <| RD.vw 40 2199023255551 c0 rfl d0 (fun _ => FV.pick_t rfl rfl) rfl <| RD.vw 41 4398046511103 c0 rfl d0 (fun _ => FV.move rfl) rfl <| RD.ifb (s := 65) rfl h (fun D4 h => ?_) (fun D4 h => ?_)
 refine RD.val (i := 43) (m' := 13194139533311) (W := 4722366412500901036032) (takeC_ok c0 (by kernel_rfl)) rfl d0 (.yes rfl rfl) (FV.lN rfl (v0.memA (.tl (.tl (.tl (.tl (.tl (.tl (.tl (.tl .hd)))))))))) rfl <| RD.val (i := 44) (m' := 30786325577727) (W := 4722366412500901036032) (takeC_ok c0 (by kernel_rfl)) rfl d0 (.yes rfl rfl) (FV.lN rfl (v0.memA (.tl (.tl (.tl (.tl (.tl (.tl (.tl .hd))))))))) rfl <| RD.val (i := 45) (m' := 65970697666559) (W := 4722366412500901036032) (takeC_ok c0 (by kernel_rfl)) rfl d0 (.yes rfl rfl) (FV.lN rfl (v0.memA (.tl (.tl (.tl (.tl (.tl (.tl .hd)))))))) rfl <| RD.cl 42 70368744177663 c0 rfl (.yes rfl rfl) body31 rfl (e1 rfl) (fun w9 hw9 => Calls.gives (wardmotelaw26_fails_c n _ w9 (v0.hL hL hw9) (2 : Int)) fun (w8 : World) (u8 : Value) ⟨b0_, hu_, s_⟩ => (⟨b0_, hu_, s_.from hw9⟩ : ∃ b2 : Nat, u8 = Value.func (.func 64) #[] #[vP b2] ∧ St p9 w8 [.cells b2 [vI 2] 54])) rfl (fun j01 P00 I9 ⟨b2, G8, d4⟩ => ?_)
 subst G8
 have G2 := mk_push1 v0 d4
 have I1 := mk_tr1 v0 d4
 have V3 := Rep.nilAt (α := TMove) G2 L
 obtain ⟨v4, W8, h⟩ := bi h
 have d3 := Tt c3 (Tt H1 I1)
 have E6 := Rep.mv P0 d3
 have K3 := Tt I3 (Tt H1 I1)
 have F6 := Rep.mv Q0 K3
 have M3 := Tt C0 (Tt B0 d3)
 have G6 := Rep.mv E0 M3
 have H6 := Rep.mv D0 (Tt z0 M3)
 refine RD.cl 46 140737488355327 c0 rfl (.yes rfl rfl) body13 rfl (e5 rfl rfl rfl rfl rfl) (fun w9 hw9 => edit_Make_c n _ w9 (G2.hL hL hw9) y1.1 (Rep.keep0 E6 hw9) y1.2 (Rep.keep0 F6 hw9) (⟨(2 : Int), ([(0 : Int), (0 : Int), (1 : Int), (1 : Int)] : List Int), ([(30 : Int), (70 : Int)] : List Int), ([] : List TMove), ([] : List TMove)⟩ : TSession) (Rep.keep0 G6 hw9) (Rep.keep0 H6 hw9) (Rep.keep0 V3 hw9) (Rep.keep0 V3 hw9) (2 : Int) (2 : Int) W8) rfl (fun q9 Q00 p5 ⟨p00, q00, s00, t00, hu_, d8, g8, j8, k8⟩ => ?_)
 subst hu_
 obtain ⟨x0, J1⟩ := G2.agr p5
 refine RD.vP 47 281474976710655 c0 rfl d0 (.yes rfl rfl) (fun _ => FV.extract rfl rfl) rfl <| RD.vP 48 562949953421311 c0 rfl d0 (.yes rfl rfl) (fun _ => FV.extract rfl rfl) rfl ?_
 obtain ⟨z9, X8, h⟩ := bi h
 refine RD.callq (i := 49) (m' := 1125899906842623) (W := 4722365356969738371072) (takeC_ok c0 (by kernel_rfl)) rfl d0 (v := .bool z9) (fst := []) (cap := [vP b2]) (.yes rfl rfl) body64 rfl (e2 rfl rfl) (fun w9 hw9 => wardmotelaw26_fails_1_c n _ w9 (x0.hL0 hL hw9) v4.1 (x0.kd d8 hw9) (x0.kd g8 hw9) (x0.kd j8 hw9) (x0.kd k8 hw9) v4.2 (2 : Int) (fun j9 v9 h9 => hw9.cell0 ((x0.memA .hd) j9 v9 h9)) X8) rfl <| RD.vw 50 2251799813685247 c0 rfl d0 (fun _ => FV.pick_t rfl rfl) rfl <| RD.vw 51 4503599627370495 c0 rfl d0 (fun _ => FV.move rfl) rfl <| RD.ifb (s := 75) rfl h (fun E4 h => ?_) (fun E4 h => ?_)
 refine RD.val (i := 53) (m' := 13510798882111487) (W := 4722294425275607285760) (takeC_ok c0 (by kernel_rfl)) rfl d0 (.yes rfl rfl) (FV.lN rfl (x0.memA (.tl (.tl (.tl (.tl (.tl (.tl (.tl (.tl (.tl .hd))))))))))) rfl <| RD.val (i := 54) (m' := 31525197391593471) (W := 4722294425275607285760) (takeC_ok c0 (by kernel_rfl)) rfl d0 (.yes rfl rfl) (FV.lN rfl (x0.memA (.tl (.tl (.tl (.tl (.tl (.tl (.tl (.tl .hd)))))))))) rfl <| RD.val (i := 55) (m' := 67553994410557439) (W := 4722294425275607285760) (takeC_ok c0 (by kernel_rfl)) rfl d0 (.yes rfl rfl) (FV.lN rfl (x0.memA (.tl (.tl (.tl (.tl (.tl (.tl (.tl .hd))))))))) rfl <| RD.cl 52 72057594037927935 c0 rfl (.yes rfl rfl) body31 rfl (e1 rfl) (fun w9 hw9 => Calls.gives (wardmotelaw26_fails_c n _ w9 (x0.hL hL hw9) (4 : Int)) fun (w8 : World) (u8 : Value) ⟨b0_, hu_, s_⟩ => (⟨b0_, hu_, s_.from hw9⟩ : ∃ c2 : Nat, u8 = Value.func (.func 64) #[] #[vP c2] ∧ St q9 w8 [.cells c2 [vI 4] 54])) rfl (fun k01 R00 J9 ⟨c2, H8, g4⟩ => ?_)
 subst H8
 have H2 := mk_push1 x0 g4
 have K1 := mk_tr1 x0 g4
 have W3 := Rep.nilAt (α := TMove) H2 L
 obtain ⟨x4, Y8, h⟩ := bi h
 have g3 := Tt d3 (Tt J1 K1)
 have I6 := Rep.mv P0 g3
 have P3 := Tt K3 (Tt J1 K1)
 have J6 := Rep.mv Q0 P3
 have Q3 := Tt C0 (Tt B0 g3)
 have K6 := Rep.mv E0 Q3
 have M6 := Rep.mv D0 (Tt z0 Q3)
 refine RD.cl 56 144115188075855871 c0 rfl (.yes rfl rfl) body17 rfl (e3 rfl rfl rfl) (fun w9 hw9 => edit_Undo_c n _ w9 (H2.hL hL hw9) y1.1 (Rep.keep0 I6 hw9) y1.2 (Rep.keep0 J6 hw9) (⟨(2 : Int), ([(0 : Int), (0 : Int), (1 : Int), (1 : Int)] : List Int), ([(30 : Int), (70 : Int)] : List Int), ([] : List TMove), ([] : List TMove)⟩ : TSession) (Rep.keep0 K6 hw9) (Rep.keep0 M6 hw9) (Rep.keep0 W3 hw9) (Rep.keep0 W3 hw9) Y8) rfl (fun s9 U00 q5 ⟨u00, v00, x00, y00, hu_, p8, q8, s8, t8⟩ => ?_)
 subst hu_
 obtain ⟨y0, M1⟩ := H2.agr q5
 refine RD.vP 57 288230376151711743 c0 rfl d0 (.yes rfl rfl) (fun _ => FV.extract rfl rfl) rfl <| RD.vP 58 576460752303423487 c0 rfl d0 (.yes rfl rfl) (fun _ => FV.extract rfl rfl) rfl ?_
 obtain ⟨A9, Z8, h⟩ := bi h
 refine RD.callq (i := 59) (m' := 1152921504606846975) (W := 4721213561365038366720) (takeC_ok c0 (by kernel_rfl)) rfl d0 (v := .bool A9) (fst := []) (cap := [vP c2]) (.yes rfl rfl) body64 rfl (e2 rfl rfl) (fun w9 hw9 => wardmotelaw26_fails_1_c n _ w9 (y0.hL0 hL hw9) x4.1 (y0.kd p8 hw9) (y0.kd q8 hw9) (y0.kd s8 hw9) (y0.kd t8 hw9) x4.2 (4 : Int) (fun j9 v9 h9 => hw9.cell0 ((y0.memA .hd) j9 v9 h9)) Z8) rfl <| RD.vw 60 2305843009213693951 c0 rfl d0 (fun _ => FV.pick_t rfl rfl) rfl <| RD.vw 61 4611686018427387903 c0 rfl d0 (fun _ => FV.move rfl) rfl <| RD.ifb (s := 85) rfl h (fun F4 h => ?_) (fun F4 h => ?_)
 refine RD.val (i := 63) (m' := 13835058055282163711) (W := 4648579506574807007232) (takeC_ok c0 (by kernel_rfl)) rfl d0 (.yes rfl rfl) (FV.lN rfl (y0.memA (.tl (.tl (.tl (.tl (.tl (.tl (.tl (.tl (.tl (.tl .hd)))))))))))) rfl <| RD.val (i := 64) (m' := 32281802128991715327) (W := 4648579506574807007232) (takeC_ok c0 (by kernel_rfl)) rfl d0 (.yes rfl rfl) (FV.lN rfl (y0.memA (.tl (.tl (.tl (.tl (.tl (.tl (.tl (.tl (.tl .hd))))))))))) rfl <| RD.val (i := 65) (m' := 69175290276410818559) (W := 4648579506574807007232) (takeC_ok c0 (by kernel_rfl)) rfl d0 (.yes rfl rfl) (FV.lN rfl (y0.memA (.tl (.tl (.tl (.tl (.tl (.tl (.tl .hd))))))))) rfl <| RD.cl 62 73786976294838206463 c0 rfl (.yes rfl rfl) body31 rfl (e1 rfl) (fun w9 hw9 => Calls.gives (wardmotelaw26_fails_c n _ w9 (y0.hL hL hw9) (4 : Int)) fun (w8 : World) (u8 : Value) ⟨b0_, hu_, s_⟩ => (⟨b0_, hu_, s_.from hw9⟩ : ∃ d2 : Nat, u8 = Value.func (.func 64) #[] #[vP d2] ∧ St s9 w8 [.cells d2 [vI 4] 54])) rfl (fun p01 V00 K9 ⟨d2, I8, j4⟩ => ?_)
 subst I8
 have I2 := mk_push1 y0 j4
 have P1 := mk_tr1 y0 j4
 have v8 := Rep.nilAt (α := TMove) I2 L
 obtain ⟨y4, b9, h⟩ := bi h
 have g7 := Tt g3 (Tt M1 P1)
 have P6 := Rep.mv P0 g7
 have j7 := Tt P3 (Tt M1 P1)
 have Q6 := Rep.mv Q0 j7
 have k7 := Tt v2 (Tt H0 (Tt M0 (Tt G1 (Tt H1 (Tt I1 (Tt J1 (Tt K1 (Tt M1 P1))))))))
 have R6 := Rep.mv x2 k7
 have p7 := Tt Y2 (Tt H0 (Tt M0 (Tt G1 (Tt H1 (Tt I1 (Tt J1 (Tt K1 (Tt M1 P1))))))))
 have U6 := Rep.mv y2 p7
 have q7 := Tt b3 (Tt M0 (Tt G1 (Tt H1 (Tt I1 (Tt J1 (Tt K1 (Tt M1 P1)))))))
 have V6 := Rep.mv U1 q7
 refine RD.cl 66 147573952589676412927 c0 rfl (.yes rfl rfl) body13 rfl (e5 rfl rfl rfl rfl rfl) (fun w9 hw9 => edit_Make_c n _ w9 (I2.hL hL hw9) y1.1 (Rep.keep0 P6 hw9) y1.2 (Rep.keep0 Q6 hw9) (⟨(2 : Int), ([(0 : Int), (0 : Int), (0 : Int), (1 : Int)] : List Int), ([(60 : Int), (40 : Int)] : List Int), ([(⟨(2 : Int), (1 : Int), (0 : Int)⟩ : TMove)] : List TMove), ([] : List TMove)⟩ : TSession) (Rep.keep0 R6 hw9) (Rep.keep0 U6 hw9) (Rep.keep0 V6 hw9) (Rep.keep0 v8 hw9) (3 : Int) (0 : Int) b9) rfl (fun q01 W00 t5 ⟨z00, A00, B00, C00, hu_, x8, y8, z8, A8⟩ => ?_)
 subst hu_
 obtain ⟨J0, C9⟩ := I2.agr t5
 refine RD.vP 67 295147905179352825855 c0 rfl d0 (.yes rfl rfl) (fun _ => FV.extract rfl rfl) rfl <| RD.vP 68 590295810358705651711 c0 rfl d0 (.yes rfl rfl) (fun _ => FV.extract rfl rfl) rfl ?_
 obtain ⟨B9, c9, h⟩ := bi h
 refine RD.callq (i := 69) (m' := 1180591620717411303423) (W := 3541774862152233910272) (takeC_ok c0 (by kernel_rfl)) rfl d0 (v := .bool B9) (fst := []) (cap := [vP d2]) (.yes rfl rfl) body64 rfl (e2 rfl rfl) (fun w9 hw9 => wardmotelaw26_fails_1_c n _ w9 (J0.hL0 hL hw9) y4.1 (J0.kd x8 hw9) (J0.kd y8 hw9) (J0.kd z8 hw9) (J0.kd A8 hw9) y4.2 (4 : Int) (fun j9 v9 h9 => hw9.cell0 ((J0.memA .hd) j9 v9 h9)) c9) rfl <| RD.vw 70 2361183241434822606847 c0 rfl d0 (fun _ => FV.pick_t rfl rfl) rfl <| RD.vw 71 4722366482869645213695 c0 rfl d0 (fun _ => FV.assign rfl) rfl <| RD.done (doneD_ok c0 (by kernel_rfl)) <| MX.ret rfl <| RT.t1 hb0 Tryz.func9 rfl rfl ?_
 cases h
 exact J0.gv
 refine RD.offs 1180591620717411303423 2 [(62, 86), (63, 87), (64, 88), (65, 89), (66, 90), (67, 91), (68, 92), (69, 93)] (F := [(85, false)]) (U := []) c0 d0 (.cons rfl .nil) .nil ?_
 dsimp only [offS, List.map]
 refine RD.vw 70 2361183241434822606847 c0 rfl d0 (fun _ => FV.pick_f rfl rfl) rfl <| RD.vw 71 4722366482869645213695 c0 rfl d0 (fun _ => FV.assign rfl) rfl <| RD.done (doneD_ok c0 (by kernel_rfl)) <| MX.ret rfl <| RT.t1 hb0 Tryz.func9 rfl rfl ?_
 cases h
 exact y0.gv
 refine RD.offs 1152921504606846975 12 [(52, 76), (53, 77), (54, 78), (55, 79), (56, 80), (57, 81), (58, 82), (59, 83)] (F := [(75, false)]) (U := []) c0 d0 (.cons rfl .nil) .nil ?_
 dsimp only [offS, List.map]
 refine RD.vw 60 2305843009213693951 c0 rfl d0 (fun _ => FV.pick_f rfl rfl) rfl <| RD.vw 61 4611686018427387903 c0 rfl d0 (fun _ => FV.move rfl) rfl <| RD.offs 1180591620717411303423 2 [(62, 86), (63, 87), (64, 88), (65, 89), (66, 90), (67, 91), (68, 92), (69, 93)] (F := [(85, false)]) (U := []) c0 d0 (.cons rfl .nil) .nil ?_
 dsimp only [offS, List.map]
 refine RD.vw 70 2361183241434822606847 c0 rfl d0 (fun _ => FV.pick_f rfl rfl) rfl <| RD.vw 71 4722366482869645213695 c0 rfl d0 (fun _ => FV.assign rfl) rfl <| RD.done (doneD_ok c0 (by kernel_rfl)) <| MX.ret rfl <| RT.t1 hb0 Tryz.func9 rfl rfl ?_
 cases h
 exact x0.gv
 refine RD.offs 1125899906842623 22 [(42, 66), (43, 67), (44, 68), (45, 69), (46, 70), (47, 71), (48, 72), (49, 73)] (F := [(65, false)]) (U := []) c0 d0 (.cons rfl .nil) .nil ?_
 dsimp only [offS, List.map]
 refine RD.vw 50 2251799813685247 c0 rfl d0 (fun _ => FV.pick_f rfl rfl) rfl <| RD.vw 51 4503599627370495 c0 rfl d0 (fun _ => FV.move rfl) rfl <| RD.offs 1152921504606846975 12 [(52, 76), (53, 77), (54, 78), (55, 79), (56, 80), (57, 81), (58, 82), (59, 83)] (F := [(75, false)]) (U := []) c0 d0 (.cons rfl .nil) .nil ?_
 dsimp only [offS, List.map]
 refine RD.vw 60 2305843009213693951 c0 rfl d0 (fun _ => FV.pick_f rfl rfl) rfl <| RD.vw 61 4611686018427387903 c0 rfl d0 (fun _ => FV.move rfl) rfl <| RD.offs 1180591620717411303423 2 [(62, 86), (63, 87), (64, 88), (65, 89), (66, 90), (67, 91), (68, 92), (69, 93)] (F := [(85, false)]) (U := []) c0 d0 (.cons rfl .nil) .nil ?_
 dsimp only [offS, List.map]
 refine RD.vw 70 2361183241434822606847 c0 rfl d0 (fun _ => FV.pick_f rfl rfl) rfl <| RD.vw 71 4722366482869645213695 c0 rfl d0 (fun _ => FV.assign rfl) rfl <| RD.done (doneD_ok c0 (by kernel_rfl)) <| MX.ret rfl <| RT.t1 hb0 Tryz.func9 rfl rfl ?_
 cases h
 exact v0.gv
 refine RD.offs 1099511627775 32 [(32, 56), (33, 57), (34, 58), (35, 59), (36, 60), (37, 61), (38, 62), (39, 63)] (F := [(55, false)]) (U := []) c0 d0 (.cons rfl .nil) .nil ?_
 dsimp only [offS, List.map]
 refine RD.vw 40 2199023255551 c0 rfl d0 (fun _ => FV.pick_f rfl rfl) rfl <| RD.vw 41 4398046511103 c0 rfl d0 (fun _ => FV.move rfl) rfl <| RD.offs 1125899906842623 22 [(42, 66), (43, 67), (44, 68), (45, 69), (46, 70), (47, 71), (48, 72), (49, 73)] (F := [(65, false)]) (U := []) c0 d0 (.cons rfl .nil) .nil ?_
 dsimp only [offS, List.map]
 refine RD.vw 50 2251799813685247 c0 rfl d0 (fun _ => FV.pick_f rfl rfl) rfl <| RD.vw 51 4503599627370495 c0 rfl d0 (fun _ => FV.move rfl) rfl <| RD.offs 1152921504606846975 12 [(52, 76), (53, 77), (54, 78), (55, 79), (56, 80), (57, 81), (58, 82), (59, 83)] (F := [(75, false)]) (U := []) c0 d0 (.cons rfl .nil) .nil ?_
 dsimp only [offS, List.map]
 refine RD.vw 60 2305843009213693951 c0 rfl d0 (fun _ => FV.pick_f rfl rfl) rfl <| RD.vw 61 4611686018427387903 c0 rfl d0 (fun _ => FV.move rfl) rfl <| RD.offs 1180591620717411303423 2 [(62, 86), (63, 87), (64, 88), (65, 89), (66, 90), (67, 91), (68, 92), (69, 93)] (F := [(85, false)]) (U := []) c0 d0 (.cons rfl .nil) .nil ?_
 dsimp only [offS, List.map]
 refine RD.vw 70 2361183241434822606847 c0 rfl d0 (fun _ => FV.pick_f rfl rfl) rfl <| RD.vw 71 4722366482869645213695 c0 rfl d0 (fun _ => FV.assign rfl) rfl <| RD.done (doneD_ok c0 (by kernel_rfl)) <| MX.ret rfl <| RT.t1 hb0 Tryz.func9 rfl rfl ?_
 cases h
 exact s0.gv
 refine RD.offs 1073741823 42 [(21, 45), (22, 46), (23, 47), (24, 48), (25, 49), (26, 50), (27, 51), (28, 52), (29, 53)] (F := [(44, false)]) (U := []) c0 d0 (.cons rfl .nil) .nil ?_
 dsimp only [offS, List.map]
 refine RD.vw 30 2147483647 c0 rfl d0 (fun _ => FV.pick_f rfl rfl) rfl <| RD.vw 31 4294967295 c0 rfl d0 (fun _ => FV.move rfl) rfl <| RD.offs 1099511627775 32 [(32, 56), (33, 57), (34, 58), (35, 59), (36, 60), (37, 61), (38, 62), (39, 63)] (F := [(55, false)]) (U := []) c0 d0 (.cons rfl .nil) .nil ?_
 dsimp only [offS, List.map]
 refine RD.vw 40 2199023255551 c0 rfl d0 (fun _ => FV.pick_f rfl rfl) rfl <| RD.vw 41 4398046511103 c0 rfl d0 (fun _ => FV.move rfl) rfl <| RD.offs 1125899906842623 22 [(42, 66), (43, 67), (44, 68), (45, 69), (46, 70), (47, 71), (48, 72), (49, 73)] (F := [(65, false)]) (U := []) c0 d0 (.cons rfl .nil) .nil ?_
 dsimp only [offS, List.map]
 refine RD.vw 50 2251799813685247 c0 rfl d0 (fun _ => FV.pick_f rfl rfl) rfl <| RD.vw 51 4503599627370495 c0 rfl d0 (fun _ => FV.move rfl) rfl <| RD.offs 1152921504606846975 12 [(52, 76), (53, 77), (54, 78), (55, 79), (56, 80), (57, 81), (58, 82), (59, 83)] (F := [(75, false)]) (U := []) c0 d0 (.cons rfl .nil) .nil ?_
 dsimp only [offS, List.map]
 refine RD.vw 60 2305843009213693951 c0 rfl d0 (fun _ => FV.pick_f rfl rfl) rfl <| RD.vw 61 4611686018427387903 c0 rfl d0 (fun _ => FV.move rfl) rfl <| RD.offs 1180591620717411303423 2 [(62, 86), (63, 87), (64, 88), (65, 89), (66, 90), (67, 91), (68, 92), (69, 93)] (F := [(85, false)]) (U := []) c0 d0 (.cons rfl .nil) .nil ?_
 dsimp only [offS, List.map]
 refine RD.vw 70 2361183241434822606847 c0 rfl d0 (fun _ => FV.pick_f rfl rfl) rfl <| RD.vw 71 4722366482869645213695 c0 rfl d0 (fun _ => FV.assign rfl) rfl <| RD.done (doneD_ok c0 (by kernel_rfl)) <| MX.ret rfl <| RT.t1 hb0 Tryz.func9 rfl rfl ?_
 cases h
 exact p0.gv
 refine RD.offs 524287 53 [(10, 34), (11, 35), (12, 36), (13, 37), (14, 38), (15, 39), (16, 40), (17, 41), (18, 42)] (F := [(33, false)]) (U := []) c0 d0 (.cons rfl .nil) .nil ?_
 dsimp only [offS, List.map]
 refine RD.vw 19 1048575 c0 rfl d0 (fun _ => FV.pick_f rfl rfl) rfl <| RD.vw 20 2097151 c0 rfl d0 (fun _ => FV.move rfl) rfl <| RD.offs 1073741823 42 [(21, 45), (22, 46), (23, 47), (24, 48), (25, 49), (26, 50), (27, 51), (28, 52), (29, 53)] (F := [(44, false)]) (U := []) c0 d0 (.cons rfl .nil) .nil ?_
 dsimp only [offS, List.map]
 refine RD.vw 30 2147483647 c0 rfl d0 (fun _ => FV.pick_f rfl rfl) rfl <| RD.vw 31 4294967295 c0 rfl d0 (fun _ => FV.move rfl) rfl <| RD.offs 1099511627775 32 [(32, 56), (33, 57), (34, 58), (35, 59), (36, 60), (37, 61), (38, 62), (39, 63)] (F := [(55, false)]) (U := []) c0 d0 (.cons rfl .nil) .nil ?_
 dsimp only [offS, List.map]
 refine RD.vw 40 2199023255551 c0 rfl d0 (fun _ => FV.pick_f rfl rfl) rfl <| RD.vw 41 4398046511103 c0 rfl d0 (fun _ => FV.move rfl) rfl <| RD.offs 1125899906842623 22 [(42, 66), (43, 67), (44, 68), (45, 69), (46, 70), (47, 71), (48, 72), (49, 73)] (F := [(65, false)]) (U := []) c0 d0 (.cons rfl .nil) .nil ?_
 dsimp only [offS, List.map]
 refine RD.vw 50 2251799813685247 c0 rfl d0 (fun _ => FV.pick_f rfl rfl) rfl <| RD.vw 51 4503599627370495 c0 rfl d0 (fun _ => FV.move rfl) rfl <| RD.offs 1152921504606846975 12 [(52, 76), (53, 77), (54, 78), (55, 79), (56, 80), (57, 81), (58, 82), (59, 83)] (F := [(75, false)]) (U := []) c0 d0 (.cons rfl .nil) .nil ?_
 dsimp only [offS, List.map]
 refine RD.vw 60 2305843009213693951 c0 rfl d0 (fun _ => FV.pick_f rfl rfl) rfl <| RD.vw 61 4611686018427387903 c0 rfl d0 (fun _ => FV.move rfl) rfl <| RD.offs 1180591620717411303423 2 [(62, 86), (63, 87), (64, 88), (65, 89), (66, 90), (67, 91), (68, 92), (69, 93)] (F := [(85, false)]) (U := []) c0 d0 (.cons rfl .nil) .nil ?_
 dsimp only [offS, List.map]
 refine RD.vw 70 2361183241434822606847 c0 rfl d0 (fun _ => FV.pick_f rfl rfl) rfl <| RD.vw 71 4722366482869645213695 c0 rfl d0 (fun _ => FV.assign rfl) rfl <| RD.done (doneD_ok c0 (by kernel_rfl)) <| MX.ret rfl <| RT.t1 hb0 Tryz.func9 rfl rfl ?_
 cases h
 exact q0.gv
 intro j3
 refine RD.each [1, 4] (readyD_ok c0 (by kernel_rfl)) ⟨?_, ?_, trivial⟩
 have R1 := Rep.nilAt (α := TMove) V0 L
 have V2 := Rep.mv D0 z0
 refine RO.call (m' := 15) (fst := []) (cap := []) (stepC_ok c0 (by kernel_rfl)) rfl .plain body19 rfl (e1 rfl) (fun w9 hw9 => Calls.gives (wardmotelaw26_is_c n _ w9 (V0.hL hL hw9) (⟨(2 : Int), ([(0 : Int), (0 : Int), (1 : Int), (1 : Int)] : List Int), ([(30 : Int), (70 : Int)] : List Int), ([] : List TMove), ([] : List TMove)⟩ : TSession) (Rep.keep0 E0 hw9) (Rep.keep0 V2 hw9) (Rep.keep0 R1 hw9) (Rep.keep0 R1 hw9)) fun (w8 : World) (u8 : Value) ⟨b0_, hu_, s_⟩ => (⟨b0_, hu_, s_.from hw9⟩ : ∃ V1 : Nat, u8 = Value.func (.func 53) #[] #[vP V1] ∧ St p4 w8 [.cells V1 [vI 2, (vS g0 4), (vS j0 2), vN, vN] 48])) rfl (fun X00 D00 D9 ⟨V1, B8, X3⟩ => ?_)
 subst B8
 have G4 := mk_push1 V0 X3
 have U4 := mk_tr1 V0 X3
 refine RD.nu 4 31 c0 rfl .plain rfl (Does.build (α := Int) (xs := ([(0 : Int), (0 : Int), (1 : Int), (1 : Int)] : List Int)) (vs := [vI 0, vI 0, vI 1, vI 1]) (ds' := [vI 0, vI 0, vI 1, vI 1]) rfl G4 el43 rfl (e4 rfl rfl rfl rfl) (by kernel_rfl) rfl) (fun k4 A2 F0 D1 => ?_)
 have U2 := Cells.at_ (cs := [vI 0, vI 0, vI 1, vI 1]) (xs := (([(0 : Int), (0 : Int), (1 : Int), (1 : Int)] : List Int) : List Int)) F0 L (Cells.cons (cs := [vI 0]) (ds := [vI 0, vI 1, vI 1]) rfl (Cells.cons (cs := [vI 0]) (ds := [vI 1, vI 1]) rfl (Cells.cons (cs := [vI 1]) (ds := [vI 1]) rfl (Cells.cons (cs := [vI 1]) (ds := []) rfl (Cells.nil _ _)))))
 obtain ⟨J4, y3⟩ := St.arrB F0 (.one .hd (.one .hd (.one .hd (.one .hd (.one .hd (.one .hd (.one .hd (.one .hd (.one (.tl .hd) (.one (.tl .hd) (.one (.tl .hd) (.one (.tl .hd) .done))))))))))))
 have W6 := Cells.mv U2 y3
 have s7 := Tt U4 (Tt D1 y3)
 exact j3 ((vS A2 4), [vI 0, vI 0, vI 1, vI 1], V1) _ _ ⟨rfl, rfl, rfl, rfl, rfl, rfl, rfl, rfl, rfl, rfl, trivial⟩ ⟨J4, s7, W6⟩
 refine RO.new (m' := 29) (stepC_ok c0 (by kernel_rfl)) rfl .plain rfl (Does.build (α := Int) (xs := ([(0 : Int), (0 : Int), (1 : Int), (1 : Int)] : List Int)) (vs := [vI 0, vI 0, vI 1, vI 1]) (ds' := [vI 0, vI 0, vI 1, vI 1]) rfl V0 el43 rfl (e4 rfl rfl rfl rfl) (by kernel_rfl) rfl) (fun k4 A2 F0 D1 => ?_)
 have U2 := Cells.at_ (cs := [vI 0, vI 0, vI 1, vI 1]) (xs := (([(0 : Int), (0 : Int), (1 : Int), (1 : Int)] : List Int) : List Int)) F0 L (Cells.cons (cs := [vI 0]) (ds := [vI 0, vI 1, vI 1]) rfl (Cells.cons (cs := [vI 0]) (ds := [vI 1, vI 1]) rfl (Cells.cons (cs := [vI 1]) (ds := [vI 1]) rfl (Cells.cons (cs := [vI 1]) (ds := []) rfl (Cells.nil _ _)))))
 have R1 := Rep.nilAt (α := TMove) F0 L
 have V2 := Rep.mv E0 D1
 have H5 := Rep.mv D0 (Tt z0 D1)
 refine RD.cl 1 31 c0 rfl .plain body19 rfl (e1 rfl) (fun w9 hw9 => Calls.gives (wardmotelaw26_is_c n _ w9 (F0.hL hL hw9) (⟨(2 : Int), ([(0 : Int), (0 : Int), (1 : Int), (1 : Int)] : List Int), ([(30 : Int), (70 : Int)] : List Int), ([] : List TMove), ([] : List TMove)⟩ : TSession) (Rep.keep0 V2 hw9) (Rep.keep0 H5 hw9) (Rep.keep0 R1 hw9) (Rep.keep0 R1 hw9)) fun (w8 : World) (u8 : Value) ⟨b0_, hu_, s_⟩ => (⟨b0_, hu_, s_.from hw9⟩ : ∃ W1 : Nat, u8 = Value.func (.func 53) #[] #[vP W1] ∧ St k4 w8 [.cells W1 [vI 2, (vS g0 4), (vS j0 2), vN, vN] 48])) rfl (fun Y00 E00 E9 ⟨W1, C8, Y3⟩ => ?_)
 subst C8
 have H4 := mk_push1 F0 Y3
 have x3 := mk_tr1 F0 Y3
 obtain ⟨K4, z3⟩ := St.arrB H4 (.one (.tl .hd) (.one .hd (.one .hd (.one .hd (.one .hd (.one .hd (.one .hd (.one .hd (.one (.tl .hd) (.one (.tl .hd) (.one (.tl .hd) (.one (.tl .hd) .done))))))))))))
 have X6 := Cells.mv U2 (Tt x3 z3)
 have t7 := Tt D1 (Tt x3 z3)
 exact j3 ((vS A2 4), [vI 0, vI 0, vI 1, vI 1], W1) _ _ ⟨rfl, rfl, rfl, rfl, rfl, rfl, rfl, rfl, rfl, rfl, trivial⟩ ⟨K4, t7, X6⟩
def edit_Redo_p (n : Nat) (a0 : TGraph) (a1 : TRoll) (a2 : TSession) : Option (TSession × Int) :=
  (edit_Check_p n a0 a1 a2).bind fun k0 => (if k0 = 0 then (edit_last_api_Move_p n a2.fUndone).bind fun b0 => (if b0.2.2 = true then (if 200 ≤ a2.fDone.length then some ((⟨(0 : Int), ([] : List Int), ([] : List Int), ([] : List TMove), ([] : List TMove)⟩ : TSession), (3 : Int)) else (idx a2.fPlan b0.1.fUnit).bind fun v0 => (if v0 = b0.1.fFrom then (slices_Clone_api_Plan_int_p n a2.fPlan).bind fun p0 => (idx p0 b0.1.fUnit).bind fun A0 => (put p0 ((b0.1.fUnit.toNat : Nat) : Int) b0.1.fTo).bind fun d0 => (slices_Contains_api_Plan_int_p n d0 b0.1.fFrom).bind fun y0 => (if y0 = true then (slices_Clone_int_int_p n a2.fTotals).bind fun j0 => (idx j0 b0.1.fFrom).bind fun t0 => (idx a1.fUnits b0.1.fUnit).bind fun c0 => (chk (t0 - c0.fPeople)).bind fun q0 => (put j0 ((b0.1.fFrom.toNat : Nat) : Int) q0).bind fun g0 => (idx g0 b0.1.fTo).bind fun u0 => (chk (u0 + c0.fPeople)).bind fun s0 => (put g0 ((b0.1.fTo.toNat : Nat) : Int) s0).bind fun x0 => (edit_more_api_Move_p n a2.fDone b0.1).bind fun z0 => some ((⟨a2.fK, d0, x0, z0, b0.2.1⟩ : TSession), (0 : Int)) else some ((⟨(0 : Int), ([] : List Int), ([] : List Int), ([] : List TMove), ([] : List TMove)⟩ : TSession), (260 : Int))) else some ((⟨(0 : Int), ([] : List Int), ([] : List Int), ([] : List TMove), ([] : List TMove)⟩ : TSession), (260 : Int)))) else some ((⟨(0 : Int), ([] : List Int), ([] : List Int), ([] : List TMove), ([] : List TMove)⟩ : TSession), (4 : Int))) else some ((⟨(0 : Int), ([] : List Int), ([] : List Int), ([] : List TMove), ([] : List TMove)⟩ : TSession), k0))
theorem edit_Redo_c (n : Nat) (L : List Nat) (w : World) (hL : ∀ b ∈ L, b < w.heap.size) (a0 : TGraph) {v0_1 : Value} (h0_1 : Rep.R w L [v0_1] a0.fEdges) (a1 : TRoll) {v1_3 : Value} (h1_3 : Rep.R w L [v1_3] a1.fUnits) (a2 : TSession) {v2_1 : Value} (h2_1 : Rep.R w L [v2_1] a2.fPlan) {v2_2 : Value} (h2_2 : Rep.R w L [v2_2] a2.fTotals) {v2_3 : Value} (h2_3 : Rep.R w L [v2_3] a2.fDone) {v2_4 : Value} (h2_4 : Rep.R w L [v2_4] a2.fUndone)  {r : TSession × Int} (h : edit_Redo_p n a0 a1 a2 = some r) :
    Calls Tryz.prog 20 #[.agg #[vI a0.fN, v0_1], .agg #[vI a1.fGroups, vI a1.fParties, vI a1.fLevels, v1_3], .agg #[vI a2.fK, v2_1, v2_2, v2_3, v2_4]] w (Gives w fun w' u => ∃ v0_1 v0_2 v0_3 v0_4 : Value, u = .tuple #[.agg #[vI r.1.fK, v0_1, v0_2, v0_3, v0_4], vI r.2] ∧ Rep.R w' L [v0_1] r.1.fPlan ∧ Rep.R w' L [v0_2] r.1.fTotals ∧ Rep.R w' L [v0_3] r.1.fDone ∧ Rep.R w' L [v0_4] r.1.fUndone) := by
 unfold edit_Redo_p at h
 have hS0 := St.start w
 refine MX.start Tryz.func20 rfl rfl rfl (fun _ cs0 hb0 => ?_)
 refine MX.sr <| RG.new .plain rfl (Does.box hS0 rfl rfl) (fun w2 b5 hS3 hT4 => ?_)
 refine RG.new .plain rfl (Does.box hS3 rfl rfl) (fun w7 J5 hS8 hT9 => ?_)
 refine RG.new .plain rfl (Does.box hS8 rfl rfl) (fun v7 K5 d3 z6 => ?_)
 refine RG.new .plain rfl (Does.al [vI 0, vN, vN, vN, vN] d3) (fun A7 M5 d0 A6 => ?_)
 refine RG.so rfl <| RG.nil <| MX.seq <| MX.sr <| RG.va (FV.lN rfl (d0.memA (.tl (.tl (.tl .hd))))) <| RG.va (FV.lN rfl (d0.memA (.tl (.tl .hd)))) <| RG.va (FV.lN rfl (d0.memA (.tl .hd))) ?_
 obtain ⟨F2, s5, h⟩ := bi h
 refine RG.cq (vI F2) body16 rfl (e3 rfl rfl rfl) (fun w9 hw9 => edit_Check_c n _ w9 (d0.hL0 hL hw9) a0 (d0.k0 h0_1 hw9) a1 (d0.k0 h1_3 hw9) a2 (d0.k0 h2_1 hw9) (d0.k0 h2_2 hw9) (d0.k0 h2_3 hw9) (d0.k0 h2_4 hw9) s5) rfl <| RG.so rfl <| RG.nil <| MX.sr <| RG.mo rfl <| RG.va (FV.neq (i := F2) (j := 0) rfl rfl) <| RG.nil <| MX.ifn rfl h (fun Q2 h => ?_) (fun Q2 h => ?_)
 refine MX.skip <| MX.sr <| RG.va (FV.lN rfl (d0.memA (.tl .hd))) ?_
 have Y3 := Rep.mv0 h2_1 d0
 obtain ⟨E5, d6, K4, _⟩ := Rep.sl Y3
 have g4 := Rep.mv0 h2_2 d0
 obtain ⟨F5, g6, M4, _⟩ := Rep.sl g4
 have j4 := Rep.mv0 h2_3 d0
 obtain ⟨G5, j6, P4, _⟩ := Rep.sl j4
 have k4 := Rep.mv0 h2_4 d0
 obtain ⟨H5, k6, Q4, _⟩ := Rep.sl k4
 refine RG.va (FV.buildV (vs := [.agg #[vI a2.fK, v2_1, v2_2, v2_3, v2_4]]) (u := .agg #[vI a2.fK, v2_1, v2_2, v2_3, v2_4]) (e1 rfl) (fun w9 => by rw [K4, M4, P4, Q4]; try kernel_rfl)) <| RG.new .plain rfl (Does.box d0 rfl rfl) (fun P7 z1 U0 F6 => ?_)
 refine RG.so rfl <| RG.nil <| MX.sr <| RG.fa 4 rfl <| RG.l1 rfl ((U0.memA (.tl (.tl .hd))) 4 _ rfl) ?_
 obtain ⟨c0, u5, h⟩ := bi h
 refine RG.call' (fst := []) (cap := []) .plain body51 rfl (e1 rfl) (fun w9 hw9 => edit_last_api_Move_c n _ w9 (U0.hL hL hw9) a2.fUndone (U0.km h2_4 hw9) u5) rfl (fun Q7 u7 t3 ⟨M0, hu_, y1⟩ => ?_)
 subst hu_
 obtain ⟨k3, G6⟩ := U0.agr t3
 refine RG.mo rfl <| RG.va (FV.extract rfl rfl) <| RG.va (FV.extract rfl rfl) <| RG.va (FV.extract rfl rfl) <| RG.new .plain rfl (Does.al [vI 0, vI 0, vI 0] k3) (fun R7 P5 p3 E1 => ?_)
 refine RG.sa [vI c0.1.fUnit, vI c0.1.fFrom, vI c0.1.fTo] p3 .hd (onesB rfl) (fun U7 E0 F1 => ?_)
 refine RG.so rfl <| RG.so rfl <| RG.nil <| MX.seq <| MX.block <| MX.sr <| RG.mo rfl <| RG.va (FV.not rfl) <| RG.so rfl <| RG.nil <| MX.ifnb rfl h (fun R2 h => ?_) (fun R2 h => ?_)
 refine MX.sr <| RG.fa 3 rfl <| RG.va (FV.l1 rfl ((E0.memA (.tl (.tl (.tl .hd)))) 3 _ rfl)) ?_
 have Z1 := Rep.mv0 h2_3 E0
 have K6 : a2.fDone.length ≤ 281474976710656 := Rep.lenle Z1
 refine RG.va (FV.len (xs := a2.fDone) Tryz.underlying46 rfl Z1) <| RG.va (FV.geqN (i := a2.fDone.length) (j := 200) rfl rfl) <| RG.so rfl <| RG.nil <| MX.ifd rfl h (fun U2 h => ?_) (fun U2 h => ?_)
 refine MX.sr <| RG.va (FV.buildV (vs := []) (u := .agg #[vI 0, vN, vN, vN, vN]) evs_nil (fun w9 => by kernel_rfl)) <| RG.sa [vI 0, vN, vN, vN, vN] E0 (.tl (.tl .hd)) (onesB rfl) (fun V7 B0 H6 => ?_)
 refine RG.so rfl <| RG.nil <| MX.ret rfl ?_
 have u2 := Rep.nilAt (α := Int) B0 L
 have v2 := Rep.nilAt (α := TMove) B0 L
 refine RT.leave hb0 Tryz.func20 rfl (.cons (.many (cs := [vI 0, vN, vN, vN, vN]) (by kernel_rfl) rfl (B0.memA (.tl (.tl .hd)))) (.cons (.tmp rfl) .nil)) rfl ?_
 cases h
 exact ⟨B0.ag, fun w9 hw9 => ⟨vN, vN, vN, vN, rfl, B0.kd u2 hw9, B0.kd u2 hw9, B0.kd v2 hw9, B0.kd v2 hw9⟩⟩
 refine MX.sr <| RG.mo rfl <| RG.va (FV.lN rfl (E0.memA (.tl (.tl (.tl (.tl .hd)))))) <| RG.va (FV.lN rfl (E0.memA .hd)) <| RG.enterP (fst := []) (cap := []) (vs := [vP z1, .agg #[vI a1.fGroups, vI a1.fParties, vI a1.fLevels, v1_3], .agg #[vI c0.1.fUnit, vI c0.1.fFrom, vI c0.1.fTo]]) .plain body41 Tryz.func41 rfl rfl rfl rfl (e3 rfl rfl rfl) rfl (fun x6 s1 P6 => ?_)
 refine MX.sr <| RG.new .plain rfl (Does.box E0 rfl rfl) (fun W7 Q5 q3 G1 => ?_)
 refine RG.new .plain rfl (Does.box q3 rfl rfl) (fun X7 R5 s0 H1 => ?_)
 refine RG.so rfl <| RG.nil <| MX.seq <| MX.sr <| RG.mo rfl <| RG.fa 0 rfl <| RG.l1 rfl ((s0.memA .hd) 0 _ rfl) <| RG.fa 1 rfl <| RG.l1 rfl ((s0.memA .hd) 1 _ rfl) <| RG.fa 2 rfl <| RG.l1 rfl ((s0.memA .hd) 2 _ rfl) <| RG.enterP (fst := []) (cap := []) (vs := [vP z1, vI c0.1.fUnit, vI c0.1.fFrom, vI c0.1.fTo]) .plain body71 Tryz.func71 rfl rfl rfl rfl (e4 rfl rfl rfl rfl) rfl (fun y6 t1 Q6 => ?_)
 refine MX.sr <| RG.so rfl <| RG.nil <| MX.seq <| MX.sr <| RG.mo rfl <| RG.va (FV.nilCheck rfl) <| RG.fa 0 rfl <| RG.fa 1 rfl <| RG.va (FV.l1 rfl ((mem_from (s0.memA (.tl (.tl (.tl .hd)))) 0) 1 _ rfl)) <| RG.mo rfl ?_
 obtain ⟨D2, c5, h⟩ := bi h
 obtain ⟨G3, d5⟩ := idx_in c5
 have q4 := Rep.mv0 h2_1 s0
 obtain ⟨I5, p6, D3, J3, c3, F4, p4⟩ := Rep.nth q4 d5
 have E3 : c3 = [vI D2] := F4; subst E3
 refine RG.va (FV.ia 1 (c0.1.fUnit.toNat) rfl D3 rfl G3 J3) <| RG.l1 rfl (p4 0 _ rfl) <| RG.mo rfl <| RG.va (FV.neq (i := D2) (j := c0.1.fFrom) rfl rfl) <| RG.nil <| MX.ifn rfl h (fun V2 h => ?_) (fun V2 h => ?_)
 refine MX.skip <| MX.sr <| RG.mo rfl <| RG.va (FV.nilCheck rfl) <| RG.fa 0 rfl <| RG.fa 1 rfl <| RG.va (FV.l1 rfl ((mem_from (s0.memA (.tl (.tl (.tl .hd)))) 0) 1 _ rfl)) ?_
 obtain ⟨B5, v5, h⟩ := bi h
 refine RG.call' (fst := []) (cap := []) .plain body91 rfl (e1 rfl) (fun w9 hw9 => own_gives (b0 := w.heap.size) (slices_Clone_api_Plan_int_c n _ w9 (s0.hL hL hw9) a2.fPlan (s0.km h2_1 hw9) v5) hw9 (Nat.le_trans s0.ag.size hw9.size)) rfl (fun Y7 t0 I6 ⟨c7, W2, I4, y2, u3⟩ => ?_)
 subst I4
 have P0 := own_push s0 y2
 have A1 := own_tr s0 y2
 have I1 := Cells.at_ (cs := W2) (xs := (B5 : List Int)) P0 L (own_cells u3)
 refine RG.so rfl <| RG.nil <| MX.sr <| RG.mo rfl <| RG.mo rfl <| RG.mo rfl ?_
 obtain ⟨x5, R4, h⟩ := bi h
 obtain ⟨F3, U4⟩ := idx_in R4
 obtain ⟨G2, U5, u1, X1, X2, v4, M6⟩ := St.nth (α := Int) P0 .hd I1 U4
 obtain ⟨J2, V5, P1⟩ := St.nthOwn (α := Int) P0 .hd X1
 obtain rfl : G2 = ⟨J2, 0, none⟩ := by rw [P1] at u1; cases u1; rfl
 have y3 : X2 = [vI x5] := v4; subst y3
 refine RG.va (FV.ia 1 (c0.1.fUnit.toNat) rfl u1 rfl F3 X1) ?_
 obtain ⟨E2, g5, h⟩ := bi h
 refine RG.acts' .plain (Acts.set (α := Int) (i := c0.1.fUnit.toNat) g5 P0 P1 (fun _ => .hd) I1 rfl rfl rfl rfl rfl (by kernel_rfl)) (fun x7 ⟨q6, G0, B1, J1⟩ => ?_)
 refine RG.nil <| MX.seq <| MX.sr <| RG.mo rfl <| RG.mo rfl ?_
 obtain ⟨z5, p5, h⟩ := bi h
 refine RG.cq (.bool z5) body92 rfl (e2 rfl rfl) (fun w9 hw9 => slices_Contains_api_Plan_int_c n _ w9 (G0.hL0 hL hw9) E2 (Rep.keep0 (St.lend (α := Int) (L := L) G0 .hd J1 hL) hw9) c0.1.fFrom p5) rfl <| RG.va (FV.not rfl) <| RG.nil <| MX.ifnb rfl h (fun P2 h => ?_) (fun P2 h => ?_)
 refine MX.skip <| MX.sr <| RG.mo rfl <| RG.mo rfl <| RG.va (FV.nilCheck rfl) <| RG.fa 0 rfl <| RG.fa 1 rfl <| RG.now .plain (Acts.store (j := 1) (old := [vI a2.fK, v2_1, v2_2, v2_3, v2_4]) (news := [t0]) (new' := [vI a2.fK, t0, v2_2, v2_3, v2_4]) G0 (.tl (.tl (.tl (.tl .hd)))) rfl rfl rfl (St.c1 (α := Int) G0 .hd) rfl rfl (o1 (St.o1 (α := Int) G0 .hd)) rfl) (fun y7 H0 g1 => ?_)
 refine RG.nil <| MX.sr <| RG.so rfl <| RG.nil <| MX.ret rfl <| RT.leave (u := .bool true) t1 Tryz.func71 rfl (.cons (.tmp rfl) .nil) rfl <| RG.va (FV.not rfl) <| RG.nil <| MX.cond_f rfl <| MX.skip <| MX.sr <| RG.mo rfl <| RG.va (FV.nilCheck rfl) <| RG.fa 0 rfl <| RG.fa 2 rfl <| RG.va (FV.l1 rfl ((mem_from (H0.memA (.tl (.tl (.tl (.tl .hd))))) 0) 2 _ rfl)) ?_
 obtain ⟨A5, q5, h⟩ := bi h
 refine RG.call' (fst := []) (cap := []) .plain body22 rfl (e1 rfl) (fun w9 hw9 => own_gives (b0 := w.heap.size) (slices_Clone_int_int_c n _ w9 (H0.hL hL hw9) a2.fTotals (H0.km h2_2 hw9) q5) hw9 (Nat.le_trans H0.ag.size hw9.size)) rfl (fun z7 u0 J6 ⟨d7, Y2, J4, z2, v3⟩ => ?_)
 subst J4
 have v0 := own_push H0 z2
 have j1 := own_tr H0 z2
 have K1 := Cells.at_ (cs := Y2) (xs := (A5 : List Int)) v0 L (own_cells v3)
 refine RG.so rfl <| RG.nil <| MX.seq <| MX.drawT 14 tb41_4 (by kernel_rfl) (by kernel_rfl) (by kernel_rfl) (fun g0 p0 => ?_)
 refine RD.vw 0 1 g0 rfl p0 (fun _ => FV.move rfl) rfl <| RD.vw 1 3 g0 rfl p0 (fun _ => FV.fa 1 rfl) rfl <| RD.vx 2 7 28696 g0 rfl p0 (FV.l1 rfl ((v0.memA (.tl (.tl .hd))) 1 _ rfl)) rfl ?_
 obtain ⟨A2, V4, h⟩ := bi h
 obtain ⟨U1, W4⟩ := idx_in V4
 obtain ⟨H2, W5, X0, v1, Z2, x4, K3⟩ := St.nth (α := Int) v0 .hd K1 W4
 obtain ⟨K2, X5, Q1⟩ := St.nthOwn (α := Int) v0 .hd v1
 obtain rfl : H2 = ⟨K2, 0, none⟩ := by rw [Q1] at X0; cases X0; rfl
 have z3 : Z2 = [vI A2] := x4; subst z3
 refine RD.vw 3 15 g0 rfl p0 (fun _ => FV.ia 1 (c0.1.fFrom.toNat) rfl X0 rfl U1 v1) rfl <| RD.vx 4 31 28672 g0 rfl p0 (FV.l1 rfl (K3 0 _ rfl)) rfl <| RD.vw 5 63 g0 rfl p0 (fun _ => FV.fa 3 rfl) rfl <| RD.vx 6 127 32256 g0 rfl p0 (FV.l1 rfl ((v0.memA (.tl (.tl (.tl .hd)))) 3 _ rfl)) rfl <| RD.vw 7 255 g0 rfl p0 (fun _ => FV.fa 0 rfl) rfl <| RD.vx 8 511 32256 g0 rfl p0 (FV.l1 rfl ((v0.memA (.tl (.tl .hd))) 0 _ rfl)) rfl ?_
 obtain ⟨B2, X4, h⟩ := bi h
 obtain ⟨V1, x2⟩ := idx_in X4
 have P3 := Rep.mv0 h1_3 v0
 obtain ⟨C5, Y5, A3, H3, s6, y4, M3⟩ := Rep.nth P3 x2
 obtain ⟨g7, j7, k7, rfl, R6, U6, V6⟩ := op_TUnit y4
 refine RD.vw 9 1023 g0 rfl p0 (fun _ => FV.ia 6 (c0.1.fUnit.toNat) rfl A3 rfl V1 H3) rfl <| RD.vw 10 2047 g0 rfl p0 (fun _ => FV.fa 1 rfl) rfl <| RD.vx 11 4095 28672 g0 rfl p0 (FV.l1 rfl (M3 1 _ rfl)) rfl ?_
 obtain ⟨Z6, G4, h⟩ := bi h
 refine RD.vw 12 8191 g0 rfl p0 (fun _ => FV.subc (i := A2) (j := B2.fPeople) rfl rfl G4) rfl <| RD.vw 13 16383 g0 rfl p0 (fun _ => FV.ia 1 (c0.1.fFrom.toNat) rfl X0 rfl U1 v1) rfl ?_
 obtain ⟨Z7, j5, h⟩ := bi h
 refine RD.one (i := 14) (readyD_ok g0 (by kernel_rfl)) (RO.acts (m' := 32767) (stepC_ok g0 (by kernel_rfl)) rfl rfl .plain (Acts.set (α := Int) (i := c0.1.fFrom.toNat) j5 v0 Q1 (fun _ => .hd) K1 rfl rfl rfl rfl rfl (by kernel_rfl)) (fun B7 ⟨t6, C0, k1, M1⟩ => ?_))
 refine RD.done (doneD_ok g0 (by kernel_rfl)) <| MX.seq <| MX.drawT 14 tb41_5 (by kernel_rfl) (by kernel_rfl) (by kernel_rfl) (fun j0 q0 => ?_)
 refine RD.vw 0 1 j0 rfl q0 (fun _ => FV.move rfl) rfl <| RD.vw 1 3 j0 rfl q0 (fun _ => FV.fa 2 rfl) rfl <| RD.vx 2 7 28696 j0 rfl q0 (FV.l1 rfl ((C0.memA (.tl (.tl .hd))) 2 _ rfl)) rfl ?_
 obtain ⟨C2, Y4, h⟩ := bi h
 obtain ⟨W1, Z4⟩ := idx_in Y4
 obtain ⟨I2, Z5, Y0, x1, b3, z4, Q3⟩ := St.nth (α := Int) C0 .hd M1 Z4
 obtain ⟨M2, b6, R1⟩ := St.nthOwn (α := Int) C0 .hd x1
 obtain rfl : I2 = ⟨M2, 0, none⟩ := by rw [R1] at Y0; cases Y0; rfl
 have B3 : b3 = [vI C2] := z4; subst B3
 refine RD.vw 3 15 j0 rfl q0 (fun _ => FV.ia 1 (c0.1.fTo.toNat) rfl Y0 rfl W1 x1) rfl <| RD.vx 4 31 28672 j0 rfl q0 (FV.l1 rfl (Q3 0 _ rfl)) rfl <| RD.vw 5 63 j0 rfl q0 (fun _ => FV.fa 3 rfl) rfl <| RD.vx 6 127 32256 j0 rfl q0 (FV.l1 rfl ((C0.memA (.tl (.tl (.tl .hd)))) 3 _ rfl)) rfl <| RD.vw 7 255 j0 rfl q0 (fun _ => FV.fa 0 rfl) rfl <| RD.vx 8 511 32256 j0 rfl q0 (FV.l1 rfl ((C0.memA (.tl (.tl .hd))) 0 _ rfl)) rfl ?_
 have U3 := Rep.mv0 h1_3 C0
 obtain ⟨D5, c6, C3, I3, u6, A4, R3⟩ := Rep.nth U3 x2
 obtain ⟨p7, q7, s7, rfl, W6, X6, Y6⟩ := op_TUnit A4
 refine RD.vw 9 1023 j0 rfl q0 (fun _ => FV.ia 6 (c0.1.fUnit.toNat) rfl C3 rfl V1 I3) rfl <| RD.vw 10 2047 j0 rfl q0 (fun _ => FV.fa 1 rfl) rfl <| RD.vx 11 4095 28672 j0 rfl q0 (FV.l1 rfl (R3 1 _ rfl)) rfl ?_
 obtain ⟨b7, H4, h⟩ := bi h
 refine RD.vw 12 8191 j0 rfl q0 (fun _ => FV.addc (i := C2) (j := B2.fPeople) rfl rfl H4) rfl <| RD.vw 13 16383 j0 rfl q0 (fun _ => FV.ia 1 (c0.1.fTo.toNat) rfl Y0 rfl W1 x1) rfl ?_
 obtain ⟨y5, k5, h⟩ := bi h
 refine RD.one (i := 14) (readyD_ok j0 (by kernel_rfl)) (RO.acts (m' := 32767) (stepC_ok j0 (by kernel_rfl)) rfl rfl .plain (Acts.set (α := Int) (i := c0.1.fTo.toNat) k5 C0 R1 (fun _ => .hd) M1 rfl rfl rfl rfl rfl (by kernel_rfl)) (fun C7 ⟨v6, b1, p1, x3⟩ => ?_))
 refine RD.done (doneD_ok j0 (by kernel_rfl)) <| MX.sr <| RG.mo rfl <| RG.mo rfl <| RG.va (FV.nilCheck rfl) <| RG.fa 0 rfl <| RG.fa 2 rfl <| RG.now .plain (Acts.store (j := 2) (old := [vI a2.fK, t0, v2_2, v2_3, v2_4]) (news := [u0]) (new' := [vI a2.fK, t0, u0, v2_3, v2_4]) b1 (.tl (.tl (.tl (.tl (.tl .hd))))) rfl rfl rfl (St.c1 (α := Int) b1 .hd) rfl rfl (o1 (St.o1 (α := Int) b1 .hd)) rfl) (fun D7 I0 V0 => ?_)
 refine RG.nil <| MX.sr <| RG.so rfl <| RG.nil <| MX.ret rfl <| RT.leave (u := .bool true) s1 Tryz.func41 rfl (.cons (.tmp rfl) .nil) rfl <| RG.va (FV.not rfl) <| RG.so rfl <| RG.nil <| MX.cond_f rfl <| MX.skip <| MX.inBlock <| MX.sr <| RG.mo rfl <| RG.mo rfl <| RG.fa 3 rfl <| RG.va (FV.l1 rfl ((I0.memA (.tl (.tl (.tl (.tl (.tl (.tl (.tl .hd)))))))) 3 _ rfl)) <| RG.va (FV.lN rfl (I0.memA (.tl (.tl (.tl (.tl .hd)))))) ?_
 obtain ⟨b8, t5, h⟩ := bi h
 refine RG.call' (fst := []) (cap := []) .plain body42 rfl (e2 rfl rfl) (fun w9 hw9 => edit_more_api_Move_c n _ w9 (I0.hL hL hw9) a2.fDone (I0.km h2_3 hw9) c0.1 t5) rfl (fun E7 F0 s3 ⟨t7, hu_, Z0⟩ => ?_)
 subst hu_
 obtain ⟨g3, W0⟩ := I0.agr s3
 refine RG.mo rfl <| RG.va (FV.nilCheck rfl) <| RG.fa 0 rfl <| RG.fa 3 rfl <| RG.now .plain (Acts.store (j := 3) (old := [vI a2.fK, t0, u0, v2_3, v2_4]) (news := [F0]) (new' := [vI a2.fK, t0, u0, F0, v2_4]) g3 (.tl (.tl (.tl (.tl (.tl .hd))))) rfl rfl rfl (Rep.c1 Z0) rfl rfl (o1 (Rep.o1 Z0)) rfl) (fun F7 j3 J0 => ?_)
 refine RG.va (FV.nilCheck rfl) <| RG.fa 0 rfl <| RG.fa 4 rfl ?_
 have b2 := Tt E1 (Tt F1 (Tt G1 (Tt H1 (Tt A1 (Tt B1 (Tt g1 (Tt j1 (Tt k1 (Tt p1 (Tt V0 (Tt W0 J0)))))))))))
 have Y1 := Rep.mv y1 b2
 refine RG.now .plain (Acts.store (j := 4) (old := [vI a2.fK, t0, u0, F0, v2_4]) (news := [M0]) (new' := [vI a2.fK, t0, u0, F0, M0]) j3 (.tl (.tl (.tl (.tl (.tl .hd))))) rfl rfl rfl (Rep.c1 Y1) rfl rfl (o1 (Rep.o1 Y1)) rfl) (fun G7 Q0 K0 => ?_)
 refine RG.nil <| MX.sr <| RG.mo rfl <| RG.va (FV.nilCheck rfl) <| RG.fa 0 rfl <| RG.va (FV.lN rfl (mem_from (Q0.memA (.tl (.tl (.tl (.tl (.tl .hd)))))) 0)) ?_
 have V3 := Rep.mv Z0 (Tt J0 K0)
 have W3 := Rep.mv y1 (Tt b2 K0)
 refine RG.sa [vI a2.fK, t0, u0, F0, M0] Q0 (.tl (.tl (.tl (.tl (.tl (.tl .hd)))))) (o5 rfl (St.o1 (α := Int) Q0 (.tl .hd)) (St.o1 (α := Int) Q0 .hd) (Rep.o1 V3) (Rep.o1 W3)) (fun H7 d1 q1 => ?_)
 refine RG.so rfl <| RG.nil <| MX.ret rfl ?_
 have s4 := Tt g1 (Tt j1 (Tt k1 (Tt p1 (Tt V0 (Tt W0 (Tt J0 (Tt K0 q1)))))))
 have X3 := Cells.mv J1 s4
 have B4 := St.freeze (α := Int) d1 (.tl .hd) X3 hL
 have R0 := St.delS d1 (.tl .hd)
 have C1 := St.delT d1 (.tl .hd)
 have C4 := Rep.at_ (α := Int) (v := t0) (xs := E2) R0 L B4
 have t4 := Tt V0 (Tt W0 (Tt J0 (Tt K0 (Tt q1 C1))))
 have Z3 := Cells.mv x3 t4
 have D4 := St.freeze (α := Int) R0 .hd Z3 hL
 have D0 := St.delS R0 .hd
 have D1 := St.delT R0 .hd
 have E4 := Rep.at_ (α := Int) (v := u0) (xs := y5) D0 L D4
 refine RT.leave hb0 Tryz.func20 rfl (.cons (.many (cs := [vI a2.fK, t0, u0, F0, M0]) (by kernel_rfl) rfl (D0.memA (.tl (.tl (.tl (.tl .hd)))))) (.cons (.tmp rfl) .nil)) rfl ?_
 cases h
 have b4 := Rep.mv C4 D1
 have c2 := Tt J0 (Tt K0 (Tt q1 (Tt C1 D1)))
 have c4 := Rep.mv Z0 c2
 have u4 := Tt E1 (Tt F1 (Tt G1 (Tt H1 (Tt A1 (Tt B1 (Tt g1 (Tt j1 (Tt k1 (Tt p1 (Tt V0 (Tt W0 c2)))))))))))
 have d4 := Rep.mv y1 u4
 exact ⟨D0.ag, fun w9 hw9 => ⟨t0, u0, F0, M0, rfl, D0.kd b4 hw9, D0.kd E4 hw9, D0.kd c4 hw9, D0.kd d4 hw9⟩⟩
 refine MX.sr <| RG.so rfl <| RG.nil <| MX.ret rfl <| RT.leave (u := .bool false) t1 Tryz.func71 rfl (.cons (.tmp rfl) .nil) rfl <| RG.va (FV.not rfl) <| RG.nil <| MX.cond_t rfl <| MX.sr <| RG.so rfl <| RG.nil <| MX.ret rfl <| RT.leave (u := .bool false) s1 Tryz.func41 rfl (.cons (.tmp rfl) .nil) rfl <| RG.va (FV.not rfl) <| RG.so rfl <| RG.nil <| MX.cond_t rfl <| MX.sr <| RG.va (FV.buildV (vs := []) (u := .agg #[vI 0, vN, vN, vN, vN]) evs_nil (fun w9 => by kernel_rfl)) <| RG.sa [vI 0, vN, vN, vN, vN] G0 (.tl (.tl (.tl (.tl (.tl .hd))))) (onesB rfl) (fun I7 x0 B6 => ?_)
 refine RG.so rfl <| RG.nil <| MX.ret rfl ?_
 have d2 := Rep.nilAt (α := Int) x0 L
 have g2 := Rep.nilAt (α := TMove) x0 L
 refine RT.leave hb0 Tryz.func20 rfl (.cons (.many (cs := [vI 0, vN, vN, vN, vN]) (by kernel_rfl) rfl (x0.memA (.tl (.tl (.tl (.tl (.tl .hd))))))) (.cons (.tmp rfl) .nil)) rfl ?_
 cases h
 exact ⟨x0.ag, fun w9 hw9 => ⟨vN, vN, vN, vN, rfl, x0.kd d2 hw9, x0.kd d2 hw9, x0.kd g2 hw9, x0.kd g2 hw9⟩⟩
 refine MX.sr <| RG.so rfl <| RG.nil <| MX.ret rfl <| RT.leave (u := .bool false) t1 Tryz.func71 rfl (.cons (.tmp rfl) .nil) rfl <| RG.va (FV.not rfl) <| RG.nil <| MX.cond_t rfl <| MX.sr <| RG.so rfl <| RG.nil <| MX.ret rfl <| RT.leave (u := .bool false) s1 Tryz.func41 rfl (.cons (.tmp rfl) .nil) rfl <| RG.va (FV.not rfl) <| RG.so rfl <| RG.nil <| MX.cond_t rfl <| MX.sr <| RG.va (FV.buildV (vs := []) (u := .agg #[vI 0, vN, vN, vN, vN]) evs_nil (fun w9 => by kernel_rfl)) <| RG.sa [vI 0, vN, vN, vN, vN] s0 (.tl (.tl (.tl (.tl .hd)))) (onesB rfl) (fun J7 y0 C6 => ?_)
 refine RG.so rfl <| RG.nil <| MX.ret rfl ?_
 have j2 := Rep.nilAt (α := Int) y0 L
 have k2 := Rep.nilAt (α := TMove) y0 L
 refine RT.leave hb0 Tryz.func20 rfl (.cons (.many (cs := [vI 0, vN, vN, vN, vN]) (by kernel_rfl) rfl (y0.memA (.tl (.tl (.tl (.tl .hd)))))) (.cons (.tmp rfl) .nil)) rfl ?_
 cases h
 exact ⟨y0.ag, fun w9 hw9 => ⟨vN, vN, vN, vN, rfl, y0.kd j2 hw9, y0.kd j2 hw9, y0.kd k2 hw9, y0.kd k2 hw9⟩⟩
 refine MX.sr <| RG.va (FV.buildV (vs := []) (u := .agg #[vI 0, vN, vN, vN, vN]) evs_nil (fun w9 => by kernel_rfl)) <| RG.sa [vI 0, vN, vN, vN, vN] E0 (.tl (.tl .hd)) (onesB rfl) (fun K7 z0 D6 => ?_)
 refine RG.so rfl <| RG.nil <| MX.ret rfl ?_
 have p2 := Rep.nilAt (α := Int) z0 L
 have q2 := Rep.nilAt (α := TMove) z0 L
 refine RT.leave hb0 Tryz.func20 rfl (.cons (.many (cs := [vI 0, vN, vN, vN, vN]) (by kernel_rfl) rfl (z0.memA (.tl (.tl .hd)))) (.cons (.tmp rfl) .nil)) rfl ?_
 cases h
 exact ⟨z0.ag, fun w9 hw9 => ⟨vN, vN, vN, vN, rfl, z0.kd p2 hw9, z0.kd p2 hw9, z0.kd q2 hw9, z0.kd q2 hw9⟩⟩
 refine MX.sr <| RG.va (FV.buildV (vs := []) (u := .agg #[vI 0, vN, vN, vN, vN]) evs_nil (fun w9 => by kernel_rfl)) <| RG.mo rfl <| RG.sa [vI 0, vN, vN, vN, vN] d0 .hd (onesB rfl) (fun M7 A0 E6 => ?_)
 refine RG.so rfl <| RG.nil <| MX.ret rfl ?_
 have s2 := Rep.nilAt (α := Int) A0 L
 have t2 := Rep.nilAt (α := TMove) A0 L
 refine RT.leave hb0 Tryz.func20 rfl (.cons (.many (cs := [vI 0, vN, vN, vN, vN]) (by kernel_rfl) rfl (A0.memA .hd)) (.cons (.tmp rfl) .nil)) rfl ?_
 cases h
 exact ⟨A0.ag, fun w9 hw9 => ⟨vN, vN, vN, vN, rfl, A0.kd s2 hw9, A0.kd s2 hw9, A0.kd t2 hw9, A0.kd t2 hw9⟩⟩
def cmp_Less_int_p (n : Nat) (a0 : Int) (a1 : Int) : Option Bool :=
  (cmp_isNaN_int_p n a0).bind fun y1 => (if y1 = true then (cmp_isNaN_int_p n a1).bind fun y3 => (if y3 = true then some (decide (a0 < a1)) else some true) else some (decide (a0 < a1)))
theorem cmp_Less_int_c (n : Nat) (L : List Nat) (w : World) (hL : ∀ b ∈ L, b < w.heap.size) (a0 : Int) (a1 : Int)  {r : Bool} (h : cmp_Less_int_p n a0 a1 = some r) :
    Calls Tryz.prog 62 #[vI a0, vI a1] w (Gives w fun _ u => u = .bool r) := by
 unfold cmp_Less_int_p at h
 have hS0 := St.start w
 refine MX.start Tryz.func62 rfl rfl rfl (fun _ cs0 hb0 => ?_)
 refine MX.sr <| RG.so rfl <| RG.nil <| MX.sr <| RG.mo rfl ?_
 obtain ⟨y1, hy1, h⟩ := bi h
 refine RG.cq (.bool y1) body88 rfl (e1 rfl) (fun w9 hw9 => cmp_isNaN_int_c n _ w9 (hS0.hL0 hL hw9) a0 hy1) rfl <| RG.mo rfl <| RG.ifb (s := 7) rfl h (fun c2 h => ?_) (fun c2 h => ?_)
 refine RG.ga (FV.move rfl) ?_
 obtain ⟨y3, hy3, h⟩ := bi h
 refine RG.callq' (v := .bool y3) (fst := []) (cap := []) (.yes rfl rfl) body88 rfl (e1 rfl) (fun w9 hw9 => cmp_isNaN_int_c n _ w9 (hS0.hL0 hL hw9) a1 hy3) rfl <| RG.ga (FV.not rfl) <| RG.pt rfl rfl <| RG.mo rfl <| RG.ifnb (s := 12) rfl h (fun c4 h => ?_) (fun c4 h => ?_)
 refine RG.ga (FV.move rfl) <| RG.ga (FV.move rfl) <| RG.ga (FV.lss (i := a0) (j := a1) rfl rfl) <| RG.pf rfl rfl <| RG.so rfl <| RG.nil <| MX.ret rfl <| RT.t1 hb0 Tryz.func62 rfl rfl ?_
 cases h
 exact hS0.gv
 refine RG.no <| RG.no <| RG.no <| RG.pt rfl rfl <| RG.so rfl <| RG.nil <| MX.ret rfl <| RT.t1 hb0 Tryz.func62 rfl rfl ?_
 cases h
 exact hS0.gv
 refine RG.no <| RG.no <| RG.no <| RG.pf rfl rfl <| RG.mo rfl <| RG.ga (FV.move rfl) <| RG.ga (FV.move rfl) <| RG.ga (FV.lss (i := a0) (j := a1) rfl rfl) <| RG.pf rfl rfl <| RG.so rfl <| RG.nil <| MX.ret rfl <| RT.t1 hb0 Tryz.func62 rfl rfl ?_
 cases h
 exact hS0.gv
def stab0 : List UInt8 := [0, 1, 2, 2, 3, 3, 3, 3, 4, 4, 4, 4, 4, 4, 4, 4, 5, 5, 5, 5, 5, 5, 5, 5, 5, 5, 5, 5, 5, 5, 5, 5, 6, 6, 6, 6, 6, 6, 6, 6, 6, 6, 6, 6, 6, 6, 6, 6, 6, 6, 6, 6, 6, 6, 6, 6, 6, 6, 6, 6, 6, 6, 6, 6, 7, 7, 7, 7, 7, 7, 7, 7, 7, 7, 7, 7, 7, 7, 7, 7, 7, 7, 7, 7, 7, 7, 7, 7, 7, 7, 7, 7, 7, 7, 7, 7, 7, 7, 7, 7, 7, 7, 7, 7, 7, 7, 7, 7, 7, 7, 7, 7, 7, 7, 7, 7, 7, 7, 7, 7, 7, 7, 7, 7, 7, 7, 7, 7, 8, 8, 8, 8, 8, 8, 8, 8, 8, 8, 8, 8, 8, 8, 8, 8, 8, 8, 8, 8, 8, 8, 8, 8, 8, 8, 8, 8, 8, 8, 8, 8, 8, 8, 8, 8, 8, 8, 8, 8, 8, 8, 8, 8, 8, 8, 8, 8, 8, 8, 8, 8, 8, 8, 8, 8, 8, 8, 8, 8, 8, 8, 8, 8, 8, 8, 8, 8, 8, 8, 8, 8, 8, 8, 8, 8, 8, 8, 8, 8, 8, 8, 8, 8, 8, 8, 8, 8, 8, 8, 8, 8, 8, 8, 8, 8, 8, 8, 8, 8, 8, 8, 8, 8, 8, 8, 8, 8, 8, 8, 8, 8, 8, 8, 8, 8, 8, 8, 8, 8, 8, 8, 8, 8, 8, 8, 8, 8]
def tb107_4 : List (Nat × Nat × Nat) := [(0, 65536, 128), (0, 131072, 2), (3, 262144, 196608), (4, 524288, 262144), (8, 1048576, 524289), (8, 2097152, 524416), (56, 4194304, 3670016), (72, 8388608, 4718592), (8, 16777216, 524289), (8, 33554432, 524416), (520, 67108864, 34078720), (1288, 134217728, 84410368), (2056, 268435456, 134742016), (4232, 536870912, 277348352), (8200, 1073741824, 537395200)]
def tb107_6 : List (Nat × Nat × Nat) := [(0, 8589934592, 1), (0, 17179869184, 128), (0, 34359738368, 1), (0, 68719476736, 128), (8, 137438953472, 68719476736), (0, 274877906944, 1), (0, 549755813888, 128), (64, 1099511627776, 549755813888), (160, 2199023255552, 1374389534720), (256, 4398046511104, 2199023255552), (0, 8796093022208, 1), (0, 17592186044416, 128), (3072, 35184372088832, 26388279066624), (4096, 70368744177664, 35184372088832), (9187, 140737488355328, 25769803776), (25571, 0, 145135534866432), (65535, 281474976710656, 171798691840), (131071, 0, 351843720888320)]
def tb127_3 : List (Nat × Nat × Nat) := [(0, 131072, 512), (1, 262144, 131072), (0, 524288, 4), (6, 1048576, 786432), (8, 2097152, 1048576), (16, 4194304, 2097153), (16, 8388608, 2097160), (16, 16777216, 2097664), (208, 33554432, 27262976), (304, 67108864, 39845888), (528, 134217728, 69206016), (16, 268435456, 2097153), (16, 536870912, 2097160), (16, 1073741824, 2097664), (12304, 2147483648, 1612709888), (16400, 4294967296, 2149580800), (34832, 8589934592, 4565499904), (65552, 17179869184, 8592031744), (132112, 34359738368, 17316184064), (262160, 68719476736, 34361835520)]
def tb127_5 : List (Nat × Nat × Nat) := [(0, 549755813888, 1), (0, 1099511627776, 8), (0, 2199023255552, 256), (6, 4398046511104, 3298534883328), (9, 8796093022208, 4947802324992), (16, 17592186044416, 8796093022208), (0, 35184372088832, 1), (0, 70368744177664, 8), (0, 140737488355328, 512), (384, 281474976710656, 211106232532992), (576, 562949953421312, 316659348799488), (1024, 1125899906842624, 562949953421312), (2080, 2251799813685248, 1143492092887040), (4096, 4503599627370496, 2251799813685248)]
def tb127_6 : List (Nat × Nat × Nat) := [(0, 9007199254740992, 1), (0, 18014398509481984, 8), (0, 36028797018963968, 256), (6, 72057594037927936, 54043195528445952), (0, 144115188075855872, 1), (0, 288230376151711744, 8), (0, 576460752303423488, 512), (96, 1152921504606846976, 864691128455135232), (0, 2305843009213693952, 1), (0, 4611686018427387904, 8), (0, 9223372036854775808, 512), (1536, 18446744073709551616, 13835058055282163712), (2304, 36893488147419103232, 20752587082923245568), (4096, 73786976294838206464, 36893488147419103232), (0, 147573952589676412928, 1), (0, 295147905179352825856, 8), (0, 590295810358705651712, 256), (98304, 1180591620717411303424, 885443715538058477568), (147456, 2361183241434822606848, 1328165573307087716352), (262144, 4722366482869645213696, 2361183241434822606848), (540431, 9444732965739290427392, 81064793292668928), (1589007, 0, 9518519942034128633856), (4194303, 18889465931478580854784, 1297036692682702848), (8388607, 0, 23611832414348226068480)]
theorem body62 : bodyB Tryz.prog 62 = true := by kernel_rfl
def math_bits_Len64_p (_n : Nat) (a0 : UInt64) : Option Int :=
  jn (fun (u2, i3) => jn (fun (b0, g0) => jn (fun (q0, s0) => (stab0[(u8of q0).toNat]?).bind fun t0 => (chk (s0 + ((t0.toNat : Nat) : Int))).bind fun j0 => some j0) (fun d0 => (if (256 : UInt64) ≤ b0 then (chk (g0 + 8)).bind fun k0 => d0 (shrU b0 8, k0) else d0 (b0, g0)))) (fun c0 => (if (65536 : UInt64) ≤ u2 then (chk (((i3 : Nat) : Int) + 16)).bind fun p0 => c0 (shrU u2 16, p0) else c0 (u2, ((i3 : Nat) : Int))))) (fun J7 => (if (4294967296 : UInt64) ≤ a0 then J7 (shrU a0 32, 32) else J7 (a0, 0)))
theorem math_bits_Len64_c (n : Nat) (L : List Nat) (w : World) (_hL : ∀ b ∈ L, b < w.heap.size) (a0 : UInt64)  {r : Int} (h : math_bits_Len64_p n a0 = some r) :
    Calls Tryz.prog 116 #[.int .u64 (a0.toNat : Int)] w (Gives w fun _ u => u = vI r) := by
 unfold math_bits_Len64_p at h
 have hS0 := St.start w
 refine MX.start Tryz.func116 rfl rfl rfl (fun _ cs0 hb0 => ?_)
 refine MX.sr <| RG.so rfl <| RG.nil <| MX.seq <| MX.sr <| RG.mo rfl <| RG.va (FV.geqU (a := a0) (b := (4294967296 : UInt64)) rfl rfl) <| RG.nil <| MX.join (α := UInt64 × Nat) (fun ⟨u2, i3⟩ => [(0, .int .u64 (u2.toNat : Int)), (2, vI ((i3 : Nat) : Int))]) (fun ⟨u2, i3⟩ wx3 => St w wx3 [] ∧ Tr w [] wx3 []) (fun ⟨u2, i3⟩ => (u2, i3)) h ?_ ?_
 rintro ⟨u2, i3⟩ wx3 ⟨hS4, hT5⟩ h
 try dsimp only at h
 refine MX.seq <| MX.sr <| RG.mo rfl <| RG.va (FV.geqU (a := u2) (b := (65536 : UInt64)) rfl rfl) <| RG.nil <| MX.join (α := UInt64 × Int) (fun ⟨b0, d0⟩ => [(0, .int .u64 (b0.toNat : Int)), (2, vI d0)]) (fun ⟨b0, d0⟩ j0 => St w j0 [] ∧ Tr wx3 [] j0 []) (fun ⟨b0, d0⟩ => (b0, d0)) h ?_ ?_
 rintro ⟨b0, d0⟩ j0 ⟨t0, H0⟩ h
 try dsimp only at h
 refine MX.seq <| MX.sr <| RG.mo rfl <| RG.va (FV.geqU (a := b0) (b := (256 : UInt64)) rfl rfl) <| RG.nil <| MX.join (α := UInt64 × Int) (fun ⟨c0, g0⟩ => [(0, .int .u64 (c0.toNat : Int)), (2, vI g0)]) (fun ⟨c0, g0⟩ k0 => St w k0 [] ∧ Tr j0 [] k0 []) (fun ⟨c0, g0⟩ => (c0, g0)) h ?_ ?_
 rintro ⟨c0, g0⟩ k0 ⟨y0, I0⟩ h
 try dsimp only at h
 refine MX.sr <| RG.mo rfl <| RG.mo rfl <| RG.va (FV.conv8 (a := c0) Tryz.underlying174 Tryz.underlying5 rfl) ?_
 obtain ⟨p0, C0, h⟩ := bi h
 refine RG.va (FV.strIdx (k := (u8of c0).toNat) (tab := stab0) Tryz.underlying9 rfl rfl rfl rfl C0) ?_
 have J0 := p0.toNat_lt
 refine RG.va (FV.convN (i := p0.toNat) Tryz.underlying5 Tryz.underlying3 rfl (by omega)) ?_
 obtain ⟨K0, z0, h⟩ := bi h
 refine RG.va (FV.addc (i := g0) (j := ((p0.toNat : Nat) : Int)) rfl rfl z0) <| RG.so rfl <| RG.nil <| MX.ret rfl <| RT.t1 hb0 Tryz.func116 rfl rfl ?_
 cases h
 exact y0.gv
 intro G0 s0 h
 try dsimp only at h
 refine MX.ifd rfl h (fun u0 h => ?_) (fun u0 h => ?_)
 refine MX.sr <| RG.mo rfl <| RG.va (FV.shrU (a := b0) (j := 8) rfl rfl) <| RG.so rfl <| RG.nil <| MX.region <| RG.mo rfl ?_
 obtain ⟨D0, A0, h⟩ := bi h
 refine RG.va (FV.addc (i := d0) (j := 8) rfl rfl A0) <| RG.so rfl <| RG.nil ?_
 exact s0 (shrU b0 8, D0) _ _ ⟨rfl, rfl, trivial⟩ ⟨t0, Tr.refl _ _⟩ h
 refine MX.skip ?_
 exact s0 (b0, d0) _ _ ⟨rfl, rfl, trivial⟩ ⟨t0, Tr.refl _ _⟩ h
 intro F0 q0 h
 try dsimp only at h
 refine MX.ifd rfl h (fun v0 h => ?_) (fun v0 h => ?_)
 refine MX.sr <| RG.mo rfl <| RG.va (FV.shrU (a := u2) (j := 16) rfl rfl) <| RG.so rfl <| RG.nil <| MX.region <| RG.mo rfl ?_
 obtain ⟨E0, B0, h⟩ := bi h
 refine RG.va (FV.addc (i := ((i3 : Nat) : Int)) (j := 16) rfl rfl B0) <| RG.so rfl <| RG.nil ?_
 exact q0 (shrU u2 16, E0) _ _ ⟨rfl, rfl, trivial⟩ ⟨hS4, Tr.refl _ _⟩ h
 refine MX.skip ?_
 exact q0 (u2, ((i3 : Nat) : Int)) _ _ ⟨rfl, rfl, trivial⟩ ⟨hS4, Tr.refl _ _⟩ h
 intro J7 hJ8 h
 try dsimp only at h
 refine MX.ifd rfl h (fun x0 h => ?_) (fun x0 h => ?_)
 refine MX.sr <| RG.mo rfl <| RG.va (FV.shrU (a := a0) (j := 32) rfl rfl) <| RG.so rfl <| RG.nil <| MX.region <| RG.so rfl <| RG.nil ?_
 exact hJ8 (shrU a0 32, 32) _ _ ⟨rfl, rfl, trivial⟩ ⟨hS0, Tr.refl _ _⟩ h
 refine MX.skip ?_
 exact hJ8 (a0, 0) _ _ ⟨rfl, rfl, trivial⟩ ⟨hS0, Tr.refl _ _⟩ h
theorem body116 : bodyB Tryz.prog 116 = true := by kernel_rfl
def math_bits_Len_p (n : Nat) (a0 : UInt64) : Option Int :=
  (math_bits_Len64_p n a0).bind fun y1 => some y1
theorem math_bits_Len_c (n : Nat) (L : List Nat) (w : World) (hL : ∀ b ∈ L, b < w.heap.size) (a0 : UInt64)  {r : Int} (h : math_bits_Len_p n a0 = some r) :
    Calls Tryz.prog 87 #[.int .u64 (a0.toNat : Int)] w (Gives w fun _ u => u = vI r) := by
 unfold math_bits_Len_p at h
 have hS0 := St.start w
 refine MX.start Tryz.func87 rfl rfl rfl (fun _ cs0 hb0 => ?_)
 refine MX.sr <| RG.so rfl <| RG.nil <| MX.seq <| MX.cond_f rfl <| MX.skip <| MX.sr <| RG.mo rfl ?_
 obtain ⟨y1, hy1, h⟩ := bi h
 refine RG.cq (vI y1) body116 rfl (e1 rfl) (fun w9 hw9 => math_bits_Len64_c n _ w9 (hS0.hL0 hL hw9) a0 hy1) rfl <| RG.so rfl <| RG.nil <| MX.ret rfl <| RT.t1 hb0 Tryz.func87 rfl rfl ?_
 cases h
 exact hS0.gv
theorem body87 : bodyB Tryz.prog 87 = true := by kernel_rfl
def slices_nextPowerOfTwo_p (n : Nat) (a0 : Int) : Option UInt64 :=
  (math_bits_Len_p n (u64of a0)).bind fun y1 => (natOf y1).bind fun k2 => some (shlU (1 : UInt64) k2)
theorem slices_nextPowerOfTwo_c (n : Nat) (L : List Nat) (w : World) (hL : ∀ b ∈ L, b < w.heap.size) (a0 : Int)  {r : UInt64} (h : slices_nextPowerOfTwo_p n a0 = some r) :
    Calls Tryz.prog 128 #[vI a0] w (Gives w fun _ u => u = .int .u64 (r.toNat : Int)) := by
 unfold slices_nextPowerOfTwo_p at h
 have hS0 := St.start w
 refine MX.start Tryz.func128 rfl rfl rfl (fun _ cs0 hb0 => ?_)
 refine MX.sr <| RG.so rfl <| RG.nil <| MX.sr <| RG.mo rfl <| RG.va (FV.convU (i := a0) Tryz.underlying3 Tryz.underlying146 rfl) ?_
 obtain ⟨y1, hy1, h⟩ := bi h
 refine RG.cq (vI y1) body87 rfl (e1 rfl) (fun w9 hw9 => math_bits_Len_c n _ w9 (hS0.hL0 hL hw9) (u64of a0) hy1) rfl ?_
 obtain ⟨k2, hk2, h⟩ := bi h
 refine RG.va (FV.shlI (a := (1 : UInt64)) (i := y1) rfl rfl hk2) <| RG.so rfl <| RG.nil <| MX.ret rfl <| RT.t1 hb0 Tryz.func128 rfl rfl ?_
 cases h
 exact hS0.gv
end Go.Proofs.YtcijnmkodpfpgaaGreatDoor
