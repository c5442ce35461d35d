/- Functions of the program, and what they give: part 5. -/
import Derived.Test.YtcijnmkodpfpgaaGreatDoorRK4
namespace Go.Proofs.YtcijnmkodpfpgaaGreatDoor
open Go Go.RowKit
set_option maxRecDepth 4000
set_option maxHeartbeats 4000000

def tb129_1 : List (Nat × Nat × Nat) := [(0, 8, 1), (1, 16, 8), (2, 32, 16), (0, 64, 1), (8, 128, 64), (16, 256, 128), (32, 512, 256), (68, 1024, 544), (255, 2048, 8), (511, 0, 3072)]
def tb145_1 : List (Nat × Nat × Nat) := [(0, 1024, 1), (0, 2048, 4), (3, 4096, 3072), (4, 8192, 4096), (0, 16384, 1), (0, 32768, 2), (48, 65536, 49152), (64, 131072, 65536), (136, 262144, 139264)]
def tb111_3 : List (Nat × Nat × Nat) := [(0, 16384, 1), (0, 32768, 64), (0, 65536, 1), (0, 131072, 128), (0, 262144, 1), (0, 524288, 128), (48, 1048576, 786432), (64, 2097152, 1048576), (0, 4194304, 1), (0, 8388608, 64), (768, 16777216, 12582912), (1024, 33554432, 16777216), (2291, 67108864, 49152), (6387, 0, 69206016), (16383, 134217728, 196608), (32767, 0, 167772160)]
def tb112_5 : List (Nat × Nat × Nat) := [(0, 131072, 128), (0, 262144, 4), (3, 524288, 393216), (4, 1048576, 524288), (8, 2097152, 1048577), (8, 4194304, 1048704), (56, 8388608, 7340032), (72, 16777216, 9437184), (8, 33554432, 1048577), (8, 67108864, 1048704), (520, 134217728, 68157440), (1288, 268435456, 168820736), (2056, 536870912, 269484032), (4232, 1073741824, 554696704), (8200, 2147483648, 1074790400), (16392, 4294967296, 2148532224)]
def tb112_11 : List (Nat × Nat × Nat) := [(0, 4398046511104, 1), (0, 8796093022208, 128), (0, 17592186044416, 1), (0, 35184372088832, 128), (8, 70368744177664, 35184372088832), (0, 140737488355328, 1), (0, 281474976710656, 128), (64, 562949953421312, 281474976710656), (160, 1125899906842624, 703687441776640), (256, 2251799813685248, 1125899906842624), (0, 4503599627370496, 1), (0, 9007199254740992, 128), (3072, 18014398509481984, 13510798882111488), (4096, 36028797018963968, 18014398509481984), (9187, 72057594037927936, 13194139533312), (25571, 0, 74309393851613184), (65535, 144115188075855872, 87960930222080), (131071, 0, 180143985094819840)]
def tb113_1 : List (Nat × Nat × Nat) := [(0, 2048, 1), (0, 4096, 2), (0, 8192, 1), (0, 16384, 8), (0, 32768, 1), (0, 65536, 8), (48, 131072, 98304), (64, 262144, 131072), (0, 524288, 1), (0, 1048576, 2), (768, 2097152, 1572864), (1024, 4194304, 2097152), (2291, 8388608, 6144), (6387, 0, 8650752), (16383, 16777216, 24576), (32767, 0, 20971520)]
def tb114_1 : List (Nat × Nat × Nat) := [(0, 4096, 1), (0, 8192, 2), (0, 16384, 1), (0, 32768, 8), (0, 65536, 1), (0, 131072, 8), (48, 262144, 196608), (64, 524288, 262144), (0, 1048576, 1), (0, 2097152, 2), (768, 4194304, 3145728), (1024, 8388608, 4194304), (2291, 16777216, 12288), (6387, 0, 17301504), (16383, 33554432, 49152), (32767, 0, 41943040)]
theorem body61 : bodyB Tryz.prog 61 = true := by kernel_rfl
theorem body86 : bodyB Tryz.prog 86 = true := by kernel_rfl
theorem body107 : bodyB Tryz.prog 107 = true := by kernel_rfl
theorem body131 : bodyB Tryz.prog 131 = true := by kernel_rfl
theorem body145 : bodyB Tryz.prog 145 = true := by kernel_rfl
def edit_Changed_l1 (n : Nat) (p0 : Nat) (k0 : Int × (List Int) → Option (List Int)) : Int × (List Int) → Option (List Int)
  | (b0, c0) => (if ((p0 : Nat) : Int) < b0 then (idx c0 b0).bind fun g0 => (chk (b0 - 1)).bind fun q0 => (idx c0 q0).bind fun u0 => (cmp_Less_int_p n g0 u0).bind fun y0 => (if y0 = true then (chk (b0 - 1)).bind fun d0 => (chk (b0 - 1)).bind fun s0 => (idx c0 s0).bind fun v0 => (put c0 ((b0.toNat : Nat) : Int) v0).bind fun j0 => (idx j0 d0).bind fun z0 => (put j0 ((d0.toNat : Nat) : Int) g0).bind fun x0 => (chk (b0 - 1)).bind fun t0 => k0 (t0, x0) else some c0) else some c0)
def edit_Changed_l2 (n : Nat) (k0 : Nat) (j0 : Nat) (d0 : Int × (List Int) → Option (List Int)) : Int × (List Int) → Option (List Int)
  | (b0, c0) => (if b0 < ((k0 : Nat) : Int) then jn (fun q0 => (chk (b0 + 1)).bind fun p0 => d0 (p0, q0)) (fun g0 => Option.bind (loopF (edit_Changed_l1 n j0) n (b0, c0)) (g0)) else some c0)
def edit_Changed_l3 (n : Nat) (p0 : List Int) (_J1073 : Nat × Nat × Int × Bool × Bool → Option (List Int)) : Nat × Nat × Int × Bool × Bool → Option (List Int)
  | (b0, c0, q0, d0, s0) => (chk (((c0 : Nat) : Int) - ((b0 : Nat) : Int))).bind fun g0 => (if g0 ≤ 12 then (chk (((b0 : Nat) : Int) + 1)).bind fun j0 => Option.bind (loopF (edit_Changed_l2 n c0 b0) n (j0, p0)) (fun k0 => some k0) else (if q0 = 0 then none else (if d0 = true then none else none)))
def edit_Changed_b193 (_n : Nat) (c0 : Int × Bool) (b0 : (List Int) → Option (List Int)) : (List Int) → Option (List Int)
  | d0 => (app d0 ([c0.1] : List Int)).bind fun g0 => b0 g0
def edit_Changed_l4 (_n : Nat) (a0 : TSession) (d0 : Nat × (List (Int × Bool)) → Option (List (Int × Bool))) : Nat × (List (Int × Bool)) → Option (List (Int × Bool))
  | (b0, c0) => (if b0 < a0.fDone.length then (a0.fDone[b0]?).bind fun g0 => d0 (b0 + 1, mset c0 g0.fUnit true) else some c0)
def edit_Changed_p (n : Nat) (a0 : TSession) : Option (List Int) :=
  Option.bind (loopF (edit_Changed_l4 n a0) n (0, ([] : List (Int × Bool)))) (fun c0 => mloop (fun b0 => (math_bits_Len_p n (u64of ((b0.length : Nat) : Int))).bind fun d0 => loopF (edit_Changed_l3 n b0) n (0, b0.length, d0, true, true)) (edit_Changed_b193 n) n c0 ([] : List Int))
theorem edit_Changed_c (n : Nat) (L : List Nat) (w : World) (hL : ∀ b ∈ L, b < w.heap.size) (a0 : TSession) {v0_1 : Value} (h0_1 : Rep.R w L [v0_1] a0.fPlan) {v0_2 : Value} (h0_2 : Rep.R w L [v0_2] a0.fTotals) {v0_3 : Value} (h0_3 : Rep.R w L [v0_3] a0.fDone) {v0_4 : Value} (h0_4 : Rep.R w L [v0_4] a0.fUndone)  {r : List Int} (h : edit_Changed_p n a0 = some r) :
    Calls Tryz.prog 25 #[.agg #[vI a0.fK, v0_1, v0_2, v0_3, v0_4]] w (Gives w fun w' u => ∃ v0_0 : Value, u = v0_0 ∧ Rep.R w' L [v0_0] r) := by
 unfold edit_Changed_p at h
 have hS0 := St.start w
 refine MX.start Tryz.func25 rfl rfl rfl (fun _ cs0 hb0 => ?_)
 refine MX.sr <| RG.new .plain rfl (Does.box hS0 rfl rfl) (fun w2 b5 hS3 hT4 => ?_)
 refine RG.so rfl <| RG.nil <| MX.sr <| RG.new .plain rfl (Does.makeMap (κ := Int) (ν := Bool) hS3) (fun w7 c0 hS8 hT9 => ?_)
 refine RG.so rfl <| RG.nil <| MX.seq <| MX.sr <| RG.fa 3 rfl <| RG.l1 rfl ((hS8.memA (.tl .hd)) 3 _ rfl) ?_
 have V1 := Rep.mv0 h0_3 hS8
 have I6 : a0.fDone.length ≤ 281474976710656 := Rep.lenle V1
 refine RG.va (FV.len (xs := a0.fDone) Tryz.underlying46 rfl V1) <| RG.mo rfl <| RG.nil <| MX.block ?_
 obtain ⟨W2, H6⟩ := St.arrB hS8 (.one .hd .done)
 obtain ⟨V6, B4, V3⟩ := bind_in2 h
 refine MX.loop (α := Nat × (List (Int × Bool))) (fun ⟨F0, b0⟩ => [(3, .map (some c0)), (10, v0_3), (11, vI ((a0.fDone.length : Nat) : Int)), (12, vI ((F0 : Nat) : Int))]) (fun ⟨F0, b0⟩ x1 => St w x1 [.obj c0 (mapO (b0 : List (Int × Bool)))] ∧ Tr w7 [.obj c0 (mapO ([] : List (Int × Bool)))] x1 [.obj c0 (mapO (b0 : List (Int × Bool)))]) (fun ⟨F0, b0⟩ => (F0, b0)) (0, ([] : List (Int × Bool))) B4 ⟨rfl, rfl, rfl, rfl, trivial⟩ ⟨W2, Tr.refl _ _⟩ ?_
 rintro b6 ⟨F0, b0⟩ x1 K2 ⟨k1, s3⟩ h
 unfold edit_Changed_l4 at h
 try dsimp only at h
 refine MX.sr <| RG.va (FV.lssN (i := F0) (j := a0.fDone.length) rfl rfl) <| RG.nil <| MX.seq <| MX.ifd rfl h (fun A2 h => ?_) (fun A2 h => ?_)
 refine MX.skip <| MX.seq <| MX.block <| MX.sr ?_
 obtain ⟨U0, q5, h⟩ := bi h
 have t4 := Rep.mv0 h0_3 k1
 obtain ⟨U5, x6, R3, b4, C6, M4, s4⟩ := Rep.nth t4 q5
 obtain rfl := op_TMove M4
 refine RG.va (FV.ia 3 F0 rfl R3 rfl rfl b4) <| RG.va (FV.lN rfl s4) <| RG.new .plain rfl (Does.al [vI 0, vI 0, vI 0] k1) (fun c7 d6 X2 t3 => ?_)
 refine RG.sa [vI U0.fUnit, vI U0.fFrom, vI U0.fTo] X2 .hd (onesB rfl) (fun d7 D1 u3 => ?_)
 refine RG.nil <| MX.region <| RG.mo rfl <| RG.fa 0 rfl <| RG.l1 rfl ((D1.memA .hd) 0 _ rfl) <| RG.now .plain (Acts.mapUpdate (kv := U0.fUnit) (vv := true) D1 (.tl .hd) Tryz.underlying115 Tryz.underlying3 rfl rfl rfl rfl) (fun g7 Y2 v3 => ?_)
 refine RG.nil <| MX.inBlock <| MX.region <| RG.va (FV.addN (i := F0) (j := 1) rfl rfl (by omega)) <| RG.mo rfl <| RG.nil ?_
 obtain ⟨Z2, x3⟩ := St.arrB Y2 (.one (.tl .hd) .done)
 have D4 := Tt t3 (Tt u3 (Tt v3 x3))
 exact K2 (F0 + 1, mset b0 U0.fUnit true) _ _ ⟨rfl, rfl, rfl, rfl, trivial⟩ ⟨Z2, (Tt s3 D4)⟩ h
 refine MX.exit rfl ?_
 have h := V3 _ h
 try dsimp only at h
 refine MX.sr <| RG.so rfl <| RG.nil <| MX.seq <| MX.sr <| RG.mo rfl <| RG.new .plain rfl (Does.range (D := b0) k1 .hd Tryz.underlying115 rfl) (fun H5 k0 A1 E6 => ?_)
 refine RG.nil <| MX.block ?_
 have B1 := A1.nilRow 3 (Rep.size Int)
 have F6 := St.nilRowT A1 3 (Rep.size Int)
 have B3 := Cells.at_ (cs := []) (xs := ([] : List Int)) B1 L (Cells.nil _ _)
 have z4 := h
 refine MX.mloop (α := (List Int) × Value × (List Value) × (Array Nat)) (fun ⟨q0, d0, v0, g0⟩ => [(6, d0), (21, vP k0)]) (fun X1 ⟨q0, d0, v0, g0⟩ Z0 => St w Z0 [.row w.heap.size 3 (Rep.size Int) d0 q0.length v0, .obj k0 (iterO c0 b0.length g0), .obj c0 (mapO (b0 : List (Int × Bool)))] ∧ Tr H5 [.row w.heap.size 3 (Rep.size Int) vN (([] : List Int).length) [], .obj k0 (iterO c0 b0.length #[]), .obj c0 (mapO (b0 : List (Int × Bool)))] Z0 [.row w.heap.size 3 (Rep.size Int) d0 q0.length v0, .obj k0 (iterO c0 b0.length g0), .obj c0 (mapO (b0 : List (Int × Bool)))] ∧ Cells Z0 (bl [.row w.heap.size 3 (Rep.size Int) d0 q0.length v0, .obj k0 (iterO c0 b0.length g0), .obj c0 (mapO (b0 : List (Int × Bool)))] ++ L) v0 q0 ∧ left b0 g0 = X1) (fun ⟨q0, d0, v0, g0⟩ => q0) (([] : List Int), vN, [], #[]) z4 ⟨rfl, rfl, trivial⟩ ⟨B1, Tr.refl _ _, B3, (left_nil _)⟩ ?_
 rintro X1 ⟨q0, d0, v0, g0⟩ Z0 X5 I2 ⟨P2, d3, I1, c4⟩ u4 G3
 refine MX.sr <| RG.next (D := b0) P2 (.tl (.tl .hd)) (fun _ => (.tl .hd)) rfl rfl c4 (fun I5 v4 W0 g3 => ?_) (fun W6 y5 I0 z5 W3 C4 d4 C1 E1 => ?_)
 have h := u4 v4
 try dsimp only at h
 refine RG.va (FV.extract rfl rfl) <| RG.nil <| MX.seq <| MX.cond_f rfl <| MX.exit rfl <| MX.sr <| RG.mo rfl <| RG.enterP (fst := []) (cap := []) (vs := [d0]) .plain body61 Tryz.func61 rfl rfl rfl rfl (e1 rfl) rfl (fun z6 z3 P6 => ?_)
 refine MX.sr <| RG.mo rfl ?_
 have J6 : q0.length ≤ 4294967296 := St.rowLe (α := Int) W0 .hd
 obtain ⟨R5, g6, H3⟩ := St.rowV (α := Int) W0 .hd
 refine RG.va (FV.lenV Tryz.underlying42 rfl H3) <| RG.so rfl <| RG.nil <| MX.region <| RG.mo rfl <| RG.mo rfl <| RG.mo rfl <| RG.va (FV.convU (i := ((q0.length : Nat) : Int)) Tryz.underlying3 Tryz.underlying146 rfl) ?_
 obtain ⟨y1, v5, h⟩ := bi h
 refine RG.cq (vI y1) body87 rfl (e1 rfl) (fun w9 hw9 => math_bits_Len_c n _ w9 (W0.hL0 hL hw9) (u64of ((q0.length : Nat) : Int)) v5) rfl <| RG.enterP (fst := []) (cap := []) (vs := [d0, vI 0, vI ((q0.length : Nat) : Int), vI y1]) .plain body86 Tryz.func86 rfl rfl rfl rfl (e4 rfl rfl rfl rfl) rfl (fun A6 A3 Q6 => ?_)
 refine MX.sr <| RG.so rfl <| RG.nil <| MX.sr <| RG.so rfl <| RG.nil <| MX.block ?_
 have x4 := h
 refine MX.loop (α := Nat × Nat × Int × Bool × Bool) (fun ⟨x0, z0, M0, Q0, R0⟩ => [(0, d0), (1, vI ((x0 : Nat) : Int)), (2, vI ((z0 : Nat) : Int)), (3, vI M0), (8, .bool Q0), (9, .bool R0)]) (fun ⟨x0, z0, M0, Q0, R0⟩ Y0 => St w Y0 [.row w.heap.size 3 (Rep.size Int) d0 q0.length v0, .obj k0 (iterO c0 b0.length g0), .obj c0 (mapO (b0 : List (Int × Bool)))] ∧ Tr I5 [.row w.heap.size 3 (Rep.size Int) d0 q0.length v0, .obj k0 (iterO c0 b0.length g0), .obj c0 (mapO (b0 : List (Int × Bool)))] Y0 [.row w.heap.size 3 (Rep.size Int) d0 q0.length v0, .obj k0 (iterO c0 b0.length g0), .obj c0 (mapO (b0 : List (Int × Bool)))]) (fun ⟨x0, z0, M0, Q0, R0⟩ => (x0, z0, M0, Q0, R0)) (0, q0.length, y1, true, true) x4 ⟨rfl, rfl, rfl, rfl, rfl, rfl, trivial⟩ ⟨W0, Tr.refl _ _⟩ ?_
 rintro V5 ⟨x0, z0, M0, Q0, R0⟩ Y0 D6 ⟨M2, b3⟩ h
 unfold edit_Changed_l3 at h
 try dsimp only at h
 refine MX.block <| MX.sr <| RG.mo rfl <| RG.mo rfl ?_
 obtain ⟨A5, P4, h⟩ := bi h
 refine RG.va (FV.subc (i := ((z0 : Nat) : Int)) (j := ((x0 : Nat) : Int)) rfl rfl P4) <| RG.so rfl <| RG.nil <| MX.seq <| MX.sr <| RG.mo rfl <| RG.va (FV.leq (i := A5) (j := 12) rfl rfl) <| RG.nil <| MX.ifd rfl h (fun t2 h => ?_) (fun t2 h => ?_)
 refine MX.sr <| RG.mo rfl <| RG.mo rfl <| RG.mo rfl <| RG.enterP (fst := []) (cap := []) (vs := [d0, vI ((x0 : Nat) : Int), vI ((z0 : Nat) : Int)]) .plain body107 Tryz.func107 rfl rfl rfl rfl (e3 rfl rfl rfl) rfl (fun y6 y3 M6 => ?_)
 refine MX.sr <| RG.mo rfl ?_
 obtain ⟨B5, Q4, h⟩ := bi h
 refine RG.va (FV.addc (i := ((x0 : Nat) : Int)) (j := 1) rfl rfl Q4) <| RG.so rfl <| RG.nil <| MX.block ?_
 have g4 := Cells.mv I1 (Tt g3 b3)
 obtain ⟨R6, y4, U3⟩ := bind_in2 h
 refine MX.loop (α := Int × (List Int) × (List Value)) (fun ⟨D0, y0, A0⟩ => [(0, d0), (1, vI ((x0 : Nat) : Int)), (2, vI ((z0 : Nat) : Int)), (6, vI D0)]) (fun ⟨D0, y0, A0⟩ K0 => St w K0 [.row w.heap.size 3 (Rep.size Int) d0 y0.length A0, .obj k0 (iterO c0 b0.length g0), .obj c0 (mapO (b0 : List (Int × Bool)))] ∧ Tr Y0 [.row w.heap.size 3 (Rep.size Int) d0 q0.length v0, .obj k0 (iterO c0 b0.length g0), .obj c0 (mapO (b0 : List (Int × Bool)))] K0 [.row w.heap.size 3 (Rep.size Int) d0 y0.length A0, .obj k0 (iterO c0 b0.length g0), .obj c0 (mapO (b0 : List (Int × Bool)))] ∧ Cells K0 (bl [.row w.heap.size 3 (Rep.size Int) d0 y0.length A0, .obj k0 (iterO c0 b0.length g0), .obj c0 (mapO (b0 : List (Int × Bool)))] ++ L) A0 y0) (fun ⟨D0, y0, A0⟩ => (D0, y0)) (B5, q0, v0) y4 ⟨rfl, rfl, rfl, rfl, trivial⟩ ⟨M2, Tr.refl _ _, g4⟩ ?_
 rintro W5 ⟨D0, y0, A0⟩ K0 H2 ⟨V0, c3, H1⟩ h
 unfold edit_Changed_l2 at h
 try dsimp only at h
 refine MX.seq <| MX.sr <| RG.mo rfl <| RG.mo rfl <| RG.va (FV.lss (i := D0) (j := ((z0 : Nat) : Int)) rfl rfl) <| RG.nil <| MX.ifd rfl h (fun u2 h => ?_) (fun u2 h => ?_)
 refine MX.skip <| MX.seq <| MX.block <| MX.sr <| RG.mo rfl <| RG.so rfl <| RG.nil <| MX.block <| MX.joinx (α := (List Int) × (List Value)) (fun ⟨G0, H0⟩ => [(0, d0), (1, vI ((x0 : Nat) : Int)), (2, vI ((z0 : Nat) : Int)), (6, vI D0)]) (fun ⟨G0, H0⟩ b1 => St w b1 [.row w.heap.size 3 (Rep.size Int) d0 G0.length H0, .obj k0 (iterO c0 b0.length g0), .obj c0 (mapO (b0 : List (Int × Bool)))] ∧ Tr K0 [.row w.heap.size 3 (Rep.size Int) d0 y0.length A0, .obj k0 (iterO c0 b0.length g0), .obj c0 (mapO (b0 : List (Int × Bool)))] b1 [.row w.heap.size 3 (Rep.size Int) d0 G0.length H0, .obj k0 (iterO c0 b0.length g0), .obj c0 (mapO (b0 : List (Int × Bool)))] ∧ Cells b1 (bl [.row w.heap.size 3 (Rep.size Int) d0 G0.length H0, .obj k0 (iterO c0 b0.length g0), .obj c0 (mapO (b0 : List (Int × Bool)))] ++ L) H0 G0) (fun ⟨G0, H0⟩ => G0) (id := 2) rfl h ?_ ?_
 rintro ⟨G0, H0⟩ b1 ⟨Q2, j3, C3⟩ h
 try dsimp only at h
 refine MX.inBlock <| MX.region <| RG.mo rfl ?_
 obtain ⟨C5, R4, h⟩ := bi h
 refine RG.va (FV.addc (i := D0) (j := 1) rfl rfl R4) <| RG.so rfl <| RG.nil ?_
 exact H2 (C5, G0, H0) _ _ ⟨rfl, rfl, rfl, rfl, trivial⟩ ⟨Q2, (Tt c3 j3), C3⟩ h
 intro Y5 z1 h
 try dsimp only at h
 obtain ⟨U6, A4, P1⟩ := bind_in2 h
 refine MX.loop (α := Int × (List Int) × (List Value)) (fun ⟨u0, C0, E0⟩ => [(0, d0), (1, vI ((x0 : Nat) : Int)), (2, vI ((z0 : Nat) : Int)), (6, vI D0), (7, vI u0)]) (fun ⟨u0, C0, E0⟩ c1 => St w c1 [.row w.heap.size 3 (Rep.size Int) d0 C0.length E0, .obj k0 (iterO c0 b0.length g0), .obj c0 (mapO (b0 : List (Int × Bool)))] ∧ Tr K0 [.row w.heap.size 3 (Rep.size Int) d0 y0.length A0, .obj k0 (iterO c0 b0.length g0), .obj c0 (mapO (b0 : List (Int × Bool)))] c1 [.row w.heap.size 3 (Rep.size Int) d0 C0.length E0, .obj k0 (iterO c0 b0.length g0), .obj c0 (mapO (b0 : List (Int × Bool)))] ∧ Cells c1 (bl [.row w.heap.size 3 (Rep.size Int) d0 C0.length E0, .obj k0 (iterO c0 b0.length g0), .obj c0 (mapO (b0 : List (Int × Bool)))] ++ L) E0 C0) (fun ⟨u0, C0, E0⟩ => (u0, C0)) (D0, y0, A0) A4 ⟨rfl, rfl, rfl, rfl, rfl, trivial⟩ ⟨V0, Tr.refl _ _, H1⟩ ?_
 rintro Z5 ⟨u0, C0, E0⟩ c1 J2 ⟨B0, p1, J0⟩ h
 unfold edit_Changed_l1 at h
 try dsimp only at h
 refine MX.seq <| MX.seq <| MX.drawT 15 tb107_4 (by kernel_rfl) (by kernel_rfl) (by kernel_rfl) (fun p0 s0 => ?_)
 refine RD.vw 0 1 p0 rfl s0 (fun _ => FV.move rfl) rfl <| RD.vw 1 3 p0 rfl s0 (fun _ => FV.move rfl) rfl <| RD.vw 2 7 p0 rfl s0 (fun _ => FV.gtr (i := u0) (j := ((x0 : Nat) : Int)) rfl rfl) rfl <| RD.vw 3 15 p0 rfl s0 (fun _ => FV.move rfl) rfl <| RD.ifd (s := 19) rfl h (fun v2 h => ?_) (fun v2 h => ?_)
 refine RD.vP 4 31 p0 rfl s0 (.yes rfl rfl) (fun _ => FV.move rfl) rfl <| RD.vP 5 63 p0 rfl s0 (.yes rfl rfl) (fun _ => FV.move rfl) rfl ?_
 obtain ⟨Z1, Y4, h⟩ := bi h
 obtain ⟨v1, Z4⟩ := idx_in Y4
 obtain ⟨c2, j6, P0, X0, B2, F4, W1⟩ := St.nth (α := Int) B0 .hd J0 Z4
 obtain ⟨k2, k6, K1⟩ := St.nthOwn (α := Int) B0 .hd X0
 obtain rfl : c2 = ⟨k2, 0, none⟩ := by rw [K1] at P0; cases P0; rfl
 have I3 : B2 = [vI Z1] := F4; subst I3
 refine RD.vP 6 127 p0 rfl s0 (.yes rfl rfl) (fun _ => FV.ia 1 (u0.toNat) rfl P0 rfl v1 X0) rfl <| RD.val (i := 7) (m' := 255) (W := 24576) (takeC_ok p0 (by kernel_rfl)) rfl s0 (.yes rfl rfl) (FV.l1 rfl (W1 0 _ rfl)) rfl <| RD.vP 8 511 p0 rfl s0 (.yes rfl rfl) (fun _ => FV.move rfl) rfl <| RD.vP 9 1023 p0 rfl s0 (.yes rfl rfl) (fun _ => FV.move rfl) rfl ?_
 obtain ⟨D5, U4, h⟩ := bi h
 refine RD.vP 10 2047 p0 rfl s0 (.yes rfl rfl) (fun _ => FV.subc (i := u0) (j := 1) rfl rfl U4) rfl ?_
 obtain ⟨b2, c5, h⟩ := bi h
 obtain ⟨X3, d5⟩ := idx_in c5
 obtain ⟨d2, p6, q1, Q1, C2, G4, j4⟩ := St.nth (α := Int) B0 .hd J0 d5
 obtain ⟨p2, q6, J3⟩ := St.nthOwn (α := Int) B0 .hd Q1
 obtain rfl : d2 = ⟨p2, 0, none⟩ := by rw [J3] at q1; cases q1; rfl
 have K3 : C2 = [vI b2] := G4; subst K3
 refine RD.vP 11 4095 p0 rfl s0 (.yes rfl rfl) (fun _ => FV.ia 1 (D5.toNat) rfl q1 rfl X3 Q1) rfl <| RD.val (i := 12) (m' := 8191) (W := 24576) (takeC_ok p0 (by kernel_rfl)) rfl s0 (.yes rfl rfl) (FV.l1 rfl (j4 0 _ rfl)) rfl ?_
 obtain ⟨Q5, x5, h⟩ := bi h
 refine RD.callq (i := 13) (m' := 16383) (W := 16384) (takeC_ok p0 (by kernel_rfl)) rfl s0 (v := .bool Q5) (fst := []) (cap := []) (.yes rfl rfl) body62 rfl (e2 rfl rfl) (fun w9 hw9 => cmp_Less_int_c n _ w9 (B0.hL0 hL hw9) Z1 b2 x5) rfl <| RD.vw 14 32767 p0 rfl s0 (fun _ => FV.pick_t rfl rfl) rfl <| RD.done (doneD_ok p0 (by kernel_rfl)) <| MX.ifb rfl h (fun x2 h => ?_) (fun x2 h => ?_)
 refine MX.skip <| MX.seq <| MX.block <| MX.drawT 15 tb107_6 (by kernel_rfl) (by kernel_rfl) (by kernel_rfl) (fun j0 t0 => ?_)
 refine RD.vw 0 1 j0 rfl t0 (fun _ => FV.move rfl) rfl <| RD.vw 1 3 j0 rfl t0 (fun _ => FV.move rfl) rfl <| RD.vw 2 7 j0 rfl t0 (fun _ => FV.move rfl) rfl <| RD.vw 3 15 j0 rfl t0 (fun _ => FV.move rfl) rfl ?_
 obtain ⟨Y1, V4, h⟩ := bi h
 refine RD.vw 4 31 j0 rfl t0 (fun _ => FV.subc (i := u0) (j := 1) rfl rfl V4) rfl <| RD.vw 5 63 j0 rfl t0 (fun _ => FV.move rfl) rfl <| RD.vw 6 127 j0 rfl t0 (fun _ => FV.move rfl) rfl ?_
 obtain ⟨E5, W4, h⟩ := bi h
 refine RD.vw 7 255 j0 rfl t0 (fun _ => FV.subc (i := u0) (j := 1) rfl rfl W4) rfl ?_
 obtain ⟨J5, g5, h⟩ := bi h
 obtain ⟨Y3, j5⟩ := idx_in g5
 obtain ⟨g2, s6, s1, R1, D2, H4, k4⟩ := St.nth (α := Int) B0 .hd J0 j5
 obtain ⟨q2, t6, M3⟩ := St.nthOwn (α := Int) B0 .hd R1
 obtain rfl : g2 = ⟨q2, 0, none⟩ := by rw [M3] at s1; cases s1; rfl
 have P3 : D2 = [vI J5] := H4; subst P3
 refine RD.vw 8 511 j0 rfl t0 (fun _ => FV.ia 1 (E5.toNat) rfl s1 rfl Y3 R1) rfl <| RD.vx 9 1023 245760 j0 rfl t0 (FV.l1 rfl (k4 0 _ rfl)) rfl <| RD.vw 10 2047 j0 rfl t0 (fun _ => FV.move rfl) rfl <| RD.vw 11 4095 j0 rfl t0 (fun _ => FV.move rfl) rfl <| RD.vw 12 8191 j0 rfl t0 (fun _ => FV.ia 1 (u0.toNat) rfl P0 rfl v1 X0) rfl <| RD.vx 13 16383 245760 j0 rfl t0 (FV.l1 rfl (W1 0 _ rfl)) rfl <| RD.vw 14 32767 j0 rfl t0 (fun _ => FV.ia 1 (u0.toNat) rfl P0 rfl v1 X0) rfl ?_
 obtain ⟨j7, s5, h⟩ := bi h
 refine RD.one (i := 15) (readyD_ok j0 (by kernel_rfl)) (RO.acts (m' := 65535) (stepC_ok j0 (by kernel_rfl)) rfl rfl .plain (Acts.set (α := Int) (i := u0.toNat) s5 B0 K1 (fun _ => .hd) J0 rfl rfl rfl rfl rfl (by kernel_rfl)) (fun X6 ⟨B6, d1, k3, J1⟩ => ?_))
 obtain ⟨K5, k5, h⟩ := bi h
 obtain ⟨Z3, p5⟩ := idx_in k5
 obtain ⟨j2, u6, u1, U1, E2, I4, K6⟩ := St.nth (α := Int) d1 .hd J1 p5
 obtain ⟨s2, v6, M1⟩ := St.nthOwn (α := Int) d1 .hd U1
 obtain rfl : j2 = ⟨s2, 0, none⟩ := by rw [M1] at u1; cases u1; rfl
 have Q3 : E2 = [vI K5] := I4; subst Q3
 refine RD.vw 16 131071 j0 rfl t0 (fun _ => FV.ia 1 (Y1.toNat) rfl u1 rfl Z3 U1) rfl ?_
 obtain ⟨M5, t5, h⟩ := bi h
 refine RD.one (i := 17) (readyD_ok j0 (by kernel_rfl)) (RO.acts (m' := 262143) (stepC_ok j0 (by kernel_rfl)) rfl rfl .plain (Acts.set (α := Int) (i := Y1.toNat) t5 d1 M1 (fun _ => .hd) J1 rfl rfl rfl rfl rfl (by kernel_rfl)) (fun Y6 ⟨F2, R2, p3, D3⟩ => ?_))
 refine RD.done (doneD_ok j0 (by kernel_rfl)) <| MX.inBlock <| MX.region <| RG.mo rfl ?_
 obtain ⟨F5, X4, h⟩ := bi h
 refine RG.va (FV.subc (i := u0) (j := 1) rfl rfl X4) <| RG.so rfl <| RG.nil ?_
 exact J2 (F5, M5, F2) _ _ ⟨rfl, rfl, rfl, rfl, rfl, trivial⟩ ⟨R2, (Tt p1 (Tt k3 p3)), D3⟩ h
 refine MX.exit rfl ?_
 have h := P1 _ h
 try dsimp only at h
 exact z1 (C0, E0) _ _ ⟨rfl, rfl, rfl, rfl, trivial⟩ ⟨B0, p1, J0⟩ h
 refine RD.offs 16383 1 [(4, 20), (5, 21), (6, 22), (7, 23), (8, 24), (9, 25), (10, 26), (11, 27), (12, 28), (13, 29)] (F := [(19, false)]) (U := []) p0 s0 (.cons rfl .nil) .nil ?_
 dsimp only [offS, List.map]
 refine RD.vw 14 32767 p0 rfl s0 (fun _ => FV.pick_f rfl rfl) rfl <| RD.done (doneD_ok p0 (by kernel_rfl)) <| MX.cond_f rfl <| MX.exit rfl ?_
 have h := P1 _ h
 try dsimp only at h
 exact z1 (C0, E0) _ _ ⟨rfl, rfl, rfl, rfl, trivial⟩ ⟨B0, p1, J0⟩ h
 refine MX.exit rfl ?_
 have h := U3 _ h
 try dsimp only at h
 refine MX.fin rfl <| RT.leave (u := .tuple #[]) y3 Tryz.func107 rfl .nil rfl <| RG.nil <| MX.ret rfl <| RT.leave (u := .tuple #[]) A3 Tryz.func86 rfl .nil rfl <| RG.nil <| MX.fin rfl <| RT.leave (u := .tuple #[]) z3 Tryz.func61 rfl .nil rfl <| RG.nil <| MX.sr <| RG.mo rfl <| RG.so rfl <| RG.nil <| MX.ret rfl ?_
 have J4 := St.freeze (α := Int) V0 .hd H1 hL
 have g1 := St.delS V0 .hd
 have G6 := St.delT V0 .hd
 have K4 := Rep.at_ (α := Int) (v := d0) (xs := y0) g1 L J4
 refine RT.t1 hb0 Tryz.func25 rfl rfl ?_
 cases h
 exact ⟨g1.ag, fun w9 hw9 => ⟨d0, rfl, g1.kd K4 hw9⟩⟩
 refine MX.skip <| MX.seq <| MX.sr <| RG.mo rfl <| RG.va (FV.eql (i := M0) (j := 0) rfl rfl) <| RG.nil <| MX.ifd rfl h (fun y2 h => ?_) (fun y2 h => ?_)
 refine MX.sr <| RG.mo rfl <| RG.mo rfl <| RG.mo rfl ?_
 cases h
 refine MX.skip <| MX.seq <| MX.sr <| RG.mo rfl <| RG.va (FV.not rfl) <| RG.nil <| MX.ifnb rfl h (fun z2 h => ?_) (fun z2 h => ?_)
 refine MX.skip <| MX.sr <| RG.mo rfl <| RG.mo rfl <| RG.mo rfl ?_
 cases h
 refine MX.sr <| RG.mo rfl <| RG.mo rfl <| RG.mo rfl ?_
 cases h
 have h := G3 _ _ C4
 unfold edit_Changed_b193 at h
 try dsimp only at h
 refine RG.va (FV.extract rfl rfl) <| RG.nil <| MX.seq <| MX.cond_t rfl <| MX.skip <| MX.block <| MX.sr <| RG.va (FV.entry (D := b0) C1 (.tl (.tl .hd)) (.tl .hd) W3 rfl) <| RG.va (FV.extract rfl rfl) <| RG.so rfl <| RG.nil <| MX.region <| RG.mo rfl <| RG.mo rfl <| RG.new .plain rfl (Does.build (α := Int) (xs := ([I0.1] : List Int)) (vs := [vI I0.1]) (ds' := [vI I0.1]) rfl C1 el42 rfl (e1 rfl) (by kernel_rfl) rfl) (fun Z6 c6 j1 F1 => ?_)
 have E3 := Cells.at_ (cs := [vI I0.1]) (xs := (([I0.1] : List Int) : List Int)) j1 L (Cells.cons (cs := [vI I0.1]) (ds := []) rfl (Cells.nil _ _))
 obtain ⟨P5, u5, h⟩ := bi h
 have p4 := Cells.mv I1 (Tt E1 F1)
 refine RG.doesL .plain rfl (DoesL.app (α := Int) (ys := ([I0.1] : List Int)) u5 j1 (fun _ _ => (.tl .hd)) el42 rfl rfl p4 (Src.row (α := Int) j1 .hd E3)) (fun G5 b7 ⟨G2, U2, q3, F3⟩ => ?_)
 refine RG.so rfl <| RG.nil <| MX.inBlock ?_
 obtain ⟨V2, G1⟩ := St.arrB U2 (.one (.tl .hd) (.one (.tl .hd) (.one (.tl .hd) .done)))
 have q4 := Cells.mv F3 G1
 have E4 := Tt E1 (Tt F1 (Tt q3 G1))
 exact I2 z5 (P5, G5, G2, (g0.push y5)) _ _ ⟨rfl, rfl, trivial⟩ ⟨V2, (Tt d3 E4), q4, d4⟩ h
def slices_Clone_api_Move_api_Move_p (_n : Nat) (a0 : List TMove) : Option (List TMove) :=
  nilCase a0 (some ([] : List TMove)) ((app ([] : List TMove) a0).bind fun b0 => some b0)
theorem slices_Clone_api_Move_api_Move_c (n : Nat) (L : List Nat) (w : World) (_hL : ∀ b ∈ L, b < w.heap.size) (a0 : List TMove) {v0_0 : Value} (h0_0 : Rep.R w L [v0_0] a0)  {r : List TMove} (h : slices_Clone_api_Move_api_Move_p n a0 = some r) :
    Calls Tryz.prog 32 #[v0_0] w (Gives w fun w' u => ∃ (v0_0 : Value) (cs0_0 : List Value), u = v0_0 ∧ St w w' (rowsOf w.heap.size [(62, Rep.size TMove, v0_0, r.length, cs0_0)]) ∧ Cells w' (bl (rowsOf w.heap.size [(62, Rep.size TMove, v0_0, r.length, cs0_0)]) ++ L) cs0_0 (r : List TMove)) := by
 unfold slices_Clone_api_Move_api_Move_p at h
 have hS0 := St.start w
 refine MX.start Tryz.func32 rfl rfl rfl (fun _ cs0 hb0 => ?_)
 refine MX.sr <| RG.so rfl <| RG.nil <| MX.seq <| MX.sr <| RG.mo rfl ?_
 rcases Rep.nilOr h0_0 with ⟨c1, he3, hx4⟩ | ⟨ad2, c1, he3⟩
 have h := nilCase_n h hx4
 refine RG.va (FV.eqlNil1 Tryz.underlying46 rfl he3 rfl) <| RG.nil <| MX.cond_t rfl <| MX.sr <| RG.so rfl <| RG.nil <| MX.ret rfl ?_
 have hS6 := hS0.nilRow 62 (Rep.size TMove)
 have hT7 := St.nilRowT hS0 62 (Rep.size TMove)
 have hc8 := Cells.at_ (cs := []) (xs := ([] : List TMove)) hS6 L (Cells.nil _ _)
 refine RT.leave (u := vN) hb0 Tryz.func32 rfl (.cons (.tmp rfl) .nil) rfl ?_
 cases h
 exact ⟨hS6.ag, fun w9 hw9 => ⟨vN, [], rfl, hS6.agree hw9, Cells.keep0 hc8 hw9⟩⟩
 have h := nilCase_s h
 refine RG.va (FV.eqlNil0 Tryz.underlying46 rfl he3 rfl) <| RG.nil <| MX.cond_f rfl <| MX.skip <| MX.sr <| RG.new .plain rfl (Does.build (α := TMove) (xs := ([] : List TMove)) (vs := []) (ds' := []) rfl hS0 el46 rfl evs_nil (by kernel_rfl) rfl) (fun v0 s0 b0 t0 => ?_)
 have j0 := Cells.at_ (cs := []) (xs := (([] : List TMove) : List TMove)) b0 L (Cells.nil _ _)
 refine RG.mo rfl ?_
 obtain ⟨y0, q0, h⟩ := bi h
 have p0 := Rep.mv0 h0_0 b0
 refine RG.doesL .plain rfl (DoesL.app (α := TMove) (ys := a0) q0 b0 (fun _ _ => .hd) el46 rfl rfl j0 (Src.rep p0)) (fun d0 x0 ⟨g0, c0, u0, k0⟩ => ?_)
 refine RG.so rfl <| RG.nil <| MX.ret rfl <| RT.leave (u := d0) hb0 Tryz.func32 rfl (.cons (.tmp rfl) .nil) rfl ?_
 cases h
 exact ⟨c0.ag, fun w9 hw9 => ⟨d0, g0, rfl, c0.agree hw9, Cells.keep0 k0 hw9⟩⟩
end Go.Proofs.YtcijnmkodpfpgaaGreatDoor
