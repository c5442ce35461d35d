/- Functions of the program, and what they give: part 8. -/
import Derived.Test.YtcijnmkodpfpgaaGreatDoorPE7
namespace Go.Proofs.YtcijnmkodpfpgaaGreatDoor
open Go Go.RowKit
set_option maxRecDepth 4000
set_option maxHeartbeats 4000000

def tb3_5 : List (Nat × Nat × Nat) := [(0, 1099511627776, 32768), (0, 2199023255552, 64), (0, 4398046511104, 32768), (6, 8796093022208, 6597069766656), (9, 17592186044416, 9895604649984), (0, 35184372088832, 0)]
def tb3_8 : List (Nat × Nat × Nat) := [(0, 281474976710656, 128), (1, 562949953421312, 281474976710656), (2, 1125899906842624, 562949953421312), (0, 2251799813685248, 2048), (8, 4503599627370496, 2251799813685248), (20, 9007199254740992, 5629499534213120), (0, 18014398509481984, 128), (64, 36028797018963968, 18014398509481984), (128, 72057594037927936, 36028797018963968), (0, 144115188075855872, 16384), (768, 288230376151711744, 216172782113783808), (1056, 576460752303423488, 297237575406452736), (0, 1152921504606846976, 128), (4096, 2305843009213693952, 1152921504606846976), (8192, 4611686018427387904, 2305843009213693952), (16384, 9223372036854775808, 4611686018427387904), (0, 18446744073709551616, 16), (98304, 36893488147419103232, 27670116110564327424), (0, 73786976294838206464, 8), (0, 147573952589676412928, 128), (524288, 295147905179352825856, 147573952589676412928), (1048576, 590295810358705651712, 295147905179352825856), (2097152, 1180591620717411303424, 590295810358705651712), (4456448, 2361183241434822606848, 1254378597012249509888), (8521728, 4722366482869645213696, 2398653190334545133568), (0, 9444732965739290427392, 0)]
theorem body9 : bodyB Tryz.prog 9 = true := by kernel_rfl
theorem body10 : bodyB Tryz.prog 10 = true := by kernel_rfl
theorem body11 : bodyB Tryz.prog 11 = true := by kernel_rfl
theorem body12 : bodyB Tryz.prog 12 = true := by kernel_rfl
def wardmotelaw26_EditMakes_p (n : Nat) (a0 : TScene) (a1 : TBend) (a2 : UInt8 × UInt8) (a3 : Int) (a4 : Int) : Option Bool :=
  (wardmotelaw26_works_p n).bind fun E0 => (if E0 = true then (wardmotelaw26_Scene_set_p n a0).bind fun b0 => (wardmoteref26_Draft_Session_p n a0.fL b0.1 b0.2.1 b0.2.2.1 b0.2.2.2).bind fun c0 => (wardmoteref26_Bend_Of_p n a1 c0).bind fun d0 => (remI ((a2.1.toNat : Nat) : Int) b0.1.fN).bind fun g0 => (remI ((a2.2.toNat : Nat) : Int) b0.2.2.2).bind fun j0 => (edit_Make_p n b0.1 b0.2.1 c0 g0 j0).bind fun q0 => (wardmoteref26_Make_p n b0.1 b0.2.1 c0 g0 j0).bind fun s0 => (wardmoteref26_Same_p n q0.1 s0.1).bind fun F0 => (if F0 = true then (if q0.2 = s0.2 then (edit_Make_p n b0.1 b0.2.1 c0 ((a2.1.toNat % 10 : Nat) : Int) a4).bind fun t0 => (wardmoteref26_Make_p n b0.1 b0.2.1 c0 ((a2.1.toNat % 10 : Nat) : Int) a4).bind fun u0 => (wardmoteref26_Same_p n t0.1 u0.1).bind fun G0 => (if G0 = true then (if t0.2 = u0.2 then (edit_Make_p n b0.1 b0.2.1 c0 a3 ((a2.2.toNat % 3 : Nat) : Int)).bind fun v0 => (wardmoteref26_Make_p n b0.1 b0.2.1 c0 a3 ((a2.2.toNat % 3 : Nat) : Int)).bind fun x0 => (wardmoteref26_Same_p n v0.1 x0.1).bind fun H0 => (if H0 = true then (if v0.2 = x0.2 then (remI ((a2.1.toNat : Nat) : Int) b0.1.fN).bind fun k0 => (remI ((a2.2.toNat : Nat) : Int) b0.2.2.2).bind fun p0 => (edit_Make_p n b0.1 b0.2.1 d0 k0 p0).bind fun y0 => (wardmoteref26_Make_p n b0.1 b0.2.1 d0 k0 p0).bind fun z0 => (wardmoteref26_Same_p n y0.1 z0.1).bind fun I0 => (if I0 = true then (if y0.2 = z0.2 then (edit_Make_p n b0.1 b0.2.1 d0 ((a2.1.toNat % 10 : Nat) : Int) a4).bind fun A0 => (wardmoteref26_Make_p n b0.1 b0.2.1 d0 ((a2.1.toNat % 10 : Nat) : Int) a4).bind fun B0 => (wardmoteref26_Same_p n A0.1 B0.1).bind fun J0 => (if J0 = true then (if A0.2 = B0.2 then (edit_Make_p n b0.1 b0.2.1 d0 a3 ((a2.2.toNat % 3 : Nat) : Int)).bind fun C0 => (wardmoteref26_Make_p n b0.1 b0.2.1 d0 a3 ((a2.2.toNat % 3 : Nat) : Int)).bind fun D0 => (wardmoteref26_Same_p n C0.1 D0.1).bind fun K0 => (if K0 = true then (if C0.2 = D0.2 then some true else some false) else some false) else some false) else some false) else some false) else some false) else some false) else some false) else some false) else some false) else some false) else some false) else some false)
theorem wardmotelaw26_EditMakes_c (n : Nat) (L : List Nat) (w : World) (hL : ∀ b ∈ L, b < w.heap.size) (a0 : TScene) {v0_1 : Value} (h0_1 : Rep.R w L [v0_1] a0.fD.fParents) {v0_2 : Value} (h0_2 : Rep.R w L [v0_2] a0.fD.fMore) {v0_3 : Value} (h0_3 : Rep.R w L [v0_3] a0.fD.fLabels) {v0_9 : Value} (h0_9 : Rep.R w L [v0_9] a0.fX.fNums) {v0_10 : Value} (h0_10 : Rep.R w L [v0_10] a0.fL.fL) (a1 : TBend) (a2 : UInt8 × UInt8) (a3 : Int) (a4 : Int)  {r : Bool} (h : wardmotelaw26_EditMakes_p n a0 a1 a2 a3 a4 = some r) :
    Calls Tryz.prog 3 #[.agg #[.int .u8 (a0.fD.fN.toNat : Int), v0_1, v0_2, v0_3, .int .u8 (a0.fD.fK.toNat : Int), .int .u8 (a0.fX.fGroups.toNat : Int), .int .u8 (a0.fX.fParties.toNat : Int), .int .u8 (a0.fX.fLevels.toNat : Int), .int .u8 (a0.fX.fWater.toNat : Int), v0_9, v0_10], .agg #[.int .u8 (a1.fWhat.toNat : Int), .int .u8 (a1.fAt.toNat : Int), vI a1.fN], .agg #[.int .u8 (a2.1.toNat : Int), .int .u8 (a2.2.toNat : Int)], vI a3, vI a4] w (Gives w fun _ u => u = .bool r) := by
 unfold wardmotelaw26_EditMakes_p at h
 have hS0 := St.start w
 refine MX.start Tryz.func3 rfl rfl rfl (fun _ cs0 hb0 => ?_)
 refine MX.sr <| RG.new .plain rfl (Does.box hS0 rfl rfl) (fun w2 b5 hS3 hT4 => ?_)
 refine RG.new .plain rfl (Does.box hS3 rfl rfl) (fun w7 b10 hS8 hT9 => ?_)
 refine RG.new .plain rfl (Does.box hS8 rfl rfl) (fun w12 b15 F0 P06 => ?_)
 refine RG.so rfl <| RG.nil <| MX.seq <| MX.sr ?_
 obtain ⟨y16, B03, h⟩ := bind_in h
 refine RG.cq (.bool y16) body9 rfl evs_nil (fun w9 hw9 => wardmotelaw26_works_c n _ w9 (F0.hL0 hL hw9)  B03) rfl <| RG.va (FV.not rfl) <| RG.nil <| MX.ifnb rfl h (fun M5 h => ?_) (fun M5 h => ?_)
 refine MX.skip <| MX.sr <| RG.va (FV.lN rfl (F0.memA (.tl (.tl .hd)))) ?_
 obtain ⟨b0, C03, h⟩ := bind_in h
 refine RG.call' (fst := []) (cap := []) .plain body10 rfl (e1 rfl) (fun w9 hw9 => wardmotelaw26_Scene_set_c n _ w9 (F0.hL hL hw9) a0 (F0.km h0_1 hw9) (F0.km h0_2 hw9) (F0.km h0_3 hw9) (F0.km h0_9 hw9) (F0.km h0_10 hw9) C03) rfl (fun w19 j07 v7 ⟨v24, v25, v26, hu_, v0, x0, d03⟩ => ?_)
 subst hu_
 obtain ⟨t6, Q06⟩ := F0.agr v7
 refine RG.mo rfl <| RG.va (FV.extract rfl rfl) <| RG.va (FV.extract rfl rfl) <| RG.va (FV.extract rfl rfl) <| RG.va (FV.extract rfl rfl) <| RG.new .plain rfl (Does.al [vI 0, vN] t6) (fun w31 b34 A6 Y3 => ?_)
 refine RG.new .plain rfl (Does.al [vI 0, vI 0, vI 0, vN] A6) (fun w36 b39 E6 Z3 => ?_)
 have c00 := Rep.mv v0 (Tr.trans Y3 Z3)
 refine RG.sa [vI b0.1.fN, v24] E6 (.tl .hd) (o2 rfl (Rep.o1 c00)) (fun w41 I6 p7 => ?_)
 have p2 := Tr.trans Y3 (Tr.trans Z3 p7)
 have F00 := Rep.mv x0 p2
 refine RG.sa [vI b0.2.1.fGroups, vI b0.2.1.fParties, vI b0.2.1.fLevels, v25] I6 .hd (o4 rfl rfl rfl (Rep.o1 F00)) (fun w46 Q1 H2 => ?_)
 refine RG.so rfl <| RG.so rfl <| RG.nil <| MX.sr <| RG.fa 10 rfl <| RG.va (FV.loadN (cs := [v0_10]) (by kernel_rfl) rfl (mem_part (Q1.memA (.tl (.tl (.tl (.tl .hd))))) 10 1)) ?_
 refine RG.va (FV.lN rfl (Q1.memA (.tl .hd))) <| RG.va (FV.lN rfl (Q1.memA .hd)) <| RG.mo rfl <| RG.mo rfl ?_
 obtain ⟨y0, Q03, h⟩ := bind_in h
 have V00 := Rep.mv v0 (Tr.trans p2 H2)
 have b01 := Rep.mv x0 (Tr.trans p2 H2)
 have t01 := Rep.mv d03 (Tr.trans p2 H2)
 refine RG.call' (fst := []) (cap := []) .plain body11 rfl (e5 rfl rfl rfl rfl rfl) (fun w9 hw9 => wardmoteref26_Draft_Session_c n _ w9 (Q1.hL hL hw9) a0.fL (Q1.km h0_10 hw9) b0.1 (Rep.keep0 V00 hw9) b0.2.1 (Rep.keep0 b01 hw9) b0.2.2.1 (Rep.keep0 t01 hw9) b0.2.2.2 Q03) rfl (fun w53 x07 E7 ⟨U1, V1, W1, X1, hu_, H0, I0, J0, K0⟩ => ?_)
 subst hu_
 obtain ⟨W6, q7⟩ := Q1.agr E7
 refine RG.new .plain rfl (Does.al [vI 0, vN, vN, vN, vN] W6) (fun w67 b70 j7 G0 => ?_)
 have U02 := Rep.mv H0 G0
 have V02 := Rep.mv I0 G0
 have W02 := Rep.mv J0 G0
 have X02 := Rep.mv K0 G0
 refine RG.sa [vI y0.fK, U1, V1, W1, X1] j7 .hd (o5 rfl (Rep.o1 U02) (Rep.o1 V02) (Rep.o1 W02) (Rep.o1 X02)) (fun w75 Y1 R1 => ?_)
 refine RG.nil <| MX.seq <| MX.seq <| MX.drawT 6 tb3_5 (by kernel_rfl) (by kernel_rfl) (by kernel_rfl) (fun K1 x2 => ?_)
 refine RD.vx 0 1 16 K1 rfl x2 (FV.lN rfl (Y1.memA .hd)) rfl <| RD.vx 1 3 24 K1 rfl x2 (FV.lN rfl (Y1.memA (.tl (.tl (.tl (.tl .hd)))))) rfl <| RD.vx 2 7 24 K1 rfl x2 (FV.lN rfl (Y1.memA .hd)) rfl <| RD.vw 5 39 K1 rfl x2 (fun _ => FV.move rfl) rfl ?_
 obtain ⟨E0, b04, h⟩ := bind_in h
 have Y02 := Rep.mv H0 (Tr.trans G0 R1)
 have Z02 := Rep.mv I0 (Tr.trans G0 R1)
 have b03 := Rep.mv J0 (Tr.trans G0 R1)
 have c03 := Rep.mv K0 (Tr.trans G0 R1)
 refine RD.cl 3 47 K1 rfl .plain body12 rfl (e2 rfl rfl) (fun w9 hw9 => wardmoteref26_Bend_Of_c n _ w9 (Y1.hL hL hw9) a1 y0 (Rep.keep0 Y02 hw9) (Rep.keep0 Z02 hw9) (Rep.keep0 b03 hw9) (Rep.keep0 c03 hw9) b04) rfl (fun w85 B07 I7 ⟨y2, z2, A2, B2, hu_, c1, d1, g1, j1⟩ => ?_)
 subst hu_
 obtain ⟨k7, v4⟩ := Y1.agr I7
 have V0 := Tr.trans G0 (Tr.trans R1 v4)
 have J7 := Rep.mv H0 V0
 obtain ⟨A98, c99, q03, _⟩ := Rep.sl J7
 have K7 := Rep.mv I0 V0
 obtain ⟨H05, E06, s03, _⟩ := Rep.sl K7
 have M7 := Rep.mv J0 V0
 obtain ⟨I05, F06, t03, _⟩ := Rep.sl M7
 have P7 := Rep.mv K0 V0
 obtain ⟨J05, G06, u03, _⟩ := Rep.sl P7
 obtain ⟨K05, H06, v03, _⟩ := Rep.sl c1
 obtain ⟨M05, I06, x03, _⟩ := Rep.sl d1
 obtain ⟨P05, J06, y03, _⟩ := Rep.sl g1
 obtain ⟨Q05, K06, z03, _⟩ := Rep.sl j1
 refine RD.vw 4 63 K1 rfl x2 (fun _ => FV.buildV (vs := [.agg #[vI y0.fK, U1, V1, W1, X1], .agg #[vI E0.fK, y2, z2, A2, B2]]) (u := .agg #[vI y0.fK, U1, V1, W1, X1, vI E0.fK, y2, z2, A2, B2]) (e2 rfl rfl) (fun w9 => by rw [q03, s03, t03, u03, v03, x03, y03, z03]; try kernel_rfl)) rfl <| RD.done (doneD_ok K1 (by kernel_rfl)) <| MX.block <| MX.loop1 <| MX.sr <| RG.va (FV.lssN (i := 0) (j := 2) rfl rfl) ?_
 refine RG.nil <| MX.seq <| MX.cond_t rfl <| MX.skip <| MX.seq <| MX.block ?_
 refine MX.sr <| RG.va (FV.idxN (cs := [vI y0.fK, U1, V1, W1, X1, vI E0.fK, y2, z2, A2, B2]) (k := 0) (m := 5) (len := 2) (by kernel_rfl) (by kernel_rfl) rfl rfl rfl (by omega) rfl) <| RG.new .plain rfl (Does.al [vI 0, vN, vN, vN, vN] k7) (fun D07 V05 g6 D1 => ?_)
 have Q7 := Rep.mv H0 (Tr.trans V0 D1)
 have R7 := Rep.mv I0 (Tr.trans V0 D1)
 have U7 := Rep.mv J0 (Tr.trans V0 D1)
 have V7 := Rep.mv K0 (Tr.trans V0 D1)
 refine RG.sa [vI y0.fK, U1, V1, W1, X1] g6 .hd (o5 rfl (Rep.o1 Q7) (Rep.o1 R7) (Rep.o1 U7) (Rep.o1 V7)) (fun E07 M1 V2 => ?_)
 refine RG.nil <| MX.seq <| MX.drawT 26 tb3_8 (by kernel_rfl) (by kernel_rfl) (by kernel_rfl) (fun c0 g0 => ?_)
 refine RD.vw 0 1 c0 rfl g0 (fun _ => FV.indexArr (m := 1) (k := 0) (len := 2) (by kernel_rfl) rfl rfl rfl (by omega)) rfl <| RD.vx 1 3 16779300 c0 rfl g0 (FV.l1 rfl ((M1.memA (.tl (.tl (.tl (.tl .hd))))) 0 _ rfl)) rfl ?_
 have R06 := a2.1.toNat_lt
 refine RD.vw 2 7 c0 rfl g0 (fun _ => FV.convN (i := a2.1.toNat) Tryz.underlying5 Tryz.underlying3 rfl (by omega)) rfl <| RD.vw 3 15 c0 rfl g0 (fun _ => FV.fa 0 rfl) rfl <| RD.vx 4 31 16779296 c0 rfl g0 (FV.l1 rfl ((M1.memA (.tl (.tl (.tl .hd)))) 0 _ rfl)) rfl ?_
 obtain ⟨M0, g03, h⟩ := bind_in h
 refine RD.vw 5 63 c0 rfl g0 (fun _ => FV.remc (i := ((a2.1.toNat : Nat) : Int)) (j := b0.1.fN) rfl rfl g03) rfl <| RD.vw 6 127 c0 rfl g0 (fun _ => FV.indexArr (m := 1) (k := 1) (len := 2) (by kernel_rfl) rfl rfl rfl (by omega)) rfl <| RD.vx 7 255 16780544 c0 rfl g0 (FV.l1 rfl ((M1.memA (.tl (.tl (.tl (.tl .hd))))) 1 _ rfl)) rfl ?_
 have U06 := a2.2.toNat_lt
 refine RD.vw 8 511 c0 rfl g0 (fun _ => FV.convN (i := a2.2.toNat) Tryz.underlying5 Tryz.underlying3 rfl (by omega)) rfl <| RD.vw 9 1023 c0 rfl g0 (fun _ => FV.move rfl) rfl ?_
 obtain ⟨P0, j03, h⟩ := bind_in h
 refine RD.vw 10 2047 c0 rfl g0 (fun _ => FV.remc (i := ((a2.2.toNat : Nat) : Int)) (j := b0.2.2.2) rfl rfl j03) rfl <| RD.vw 11 4095 c0 rfl g0 (fun _ => FV.buildV (vs := [vI M0, vI P0]) (u := .agg #[vI M0, vI P0]) (e2 rfl rfl) (fun w9 => by kernel_rfl)) rfl <| RD.vw 12 8191 c0 rfl g0 (fun _ => FV.indexArr (m := 1) (k := 0) (len := 2) (by kernel_rfl) rfl rfl rfl (by omega)) rfl <| RD.vx 13 16383 16957440 c0 rfl g0 (FV.l1 rfl ((M1.memA (.tl (.tl (.tl (.tl .hd))))) 0 _ rfl)) rfl ?_
 have V06 := a2.1.toNat_lt
 refine RD.vw 14 32767 c0 rfl g0 (fun _ => FV.convN (i := a2.1.toNat) Tryz.underlying5 Tryz.underlying3 rfl (by omega)) rfl <| RD.vw 15 65535 c0 rfl g0 (fun _ => FV.remN (i := a2.1.toNat) (j := 10) rfl rfl rfl) rfl <| RD.vw 16 131071 c0 rfl g0 (fun _ => FV.move rfl) rfl <| RD.vw 17 262143 c0 rfl g0 (fun _ => FV.buildV (vs := [vI ((a2.1.toNat % 10 : Nat) : Int), vI a4]) (u := .agg #[vI ((a2.1.toNat % 10 : Nat) : Int), vI a4]) (e2 rfl rfl) (fun w9 => by kernel_rfl)) rfl <| RD.vw 18 524287 c0 rfl g0 (fun _ => FV.move rfl) rfl <| RD.vw 19 1048575 c0 rfl g0 (fun _ => FV.indexArr (m := 1) (k := 1) (len := 2) (by kernel_rfl) rfl rfl rfl (by omega)) rfl ?_
 refine RD.vx 20 2097151 31457280 c0 rfl g0 (FV.l1 rfl ((M1.memA (.tl (.tl (.tl (.tl .hd))))) 1 _ rfl)) rfl ?_
 have W06 := a2.2.toNat_lt
 refine RD.vw 21 4194303 c0 rfl g0 (fun _ => FV.convN (i := a2.2.toNat) Tryz.underlying5 Tryz.underlying3 rfl (by omega)) rfl <| RD.vw 22 8388607 c0 rfl g0 (fun _ => FV.remN (i := a2.2.toNat) (j := 3) rfl rfl rfl) rfl <| RD.vw 23 16777215 c0 rfl g0 (fun _ => FV.buildV (vs := [vI a3, vI ((a2.2.toNat % 3 : Nat) : Int)]) (u := .agg #[vI a3, vI ((a2.2.toNat % 3 : Nat) : Int)]) (e2 rfl rfl) (fun w9 => by kernel_rfl)) rfl <| RD.vw 24 33554431 c0 rfl g0 (fun _ => FV.buildV (vs := [.agg #[vI M0, vI P0], .agg #[vI ((a2.1.toNat % 10 : Nat) : Int), vI a4], .agg #[vI a3, vI ((a2.2.toNat % 3 : Nat) : Int)]]) (u := .agg #[vI M0, vI P0, vI ((a2.1.toNat % 10 : Nat) : Int), vI a4, vI a3, vI ((a2.2.toNat % 3 : Nat) : Int)]) (e3 rfl rfl rfl) (fun w9 => by kernel_rfl)) rfl <| RD.vw 25 67108863 c0 rfl g0 (fun _ => FV.move rfl) rfl <| RD.done (doneD_ok c0 (by kernel_rfl)) ?_
 refine MX.block <| MX.loop1 <| MX.sr <| RG.va (FV.lssN (i := 0) (j := 3) rfl rfl) <| RG.nil <| MX.seq ?_
 refine MX.cond_t rfl <| MX.skip <| MX.seq <| MX.block <| MX.sr <| RG.va (FV.idxN (cs := [vI M0, vI P0, vI ((a2.1.toNat % 10 : Nat) : Int), vI a4, vI a3, vI ((a2.2.toNat % 3 : Nat) : Int)]) (k := 0) (m := 2) (len := 3) (by kernel_rfl) (by kernel_rfl) rfl rfl rfl (by omega) rfl) ?_
 refine RG.new .plain rfl (Does.al [vI 0, vI 0] M1) (fun F07 X05 j6 W2 => ?_)
 refine RG.sa [vI M0, vI P0] j6 .hd (onesB rfl) (fun G07 k1 X2 => ?_)
 refine RG.nil <| MX.sr <| RG.va (FV.lN rfl (k1.memA (.tl (.tl (.tl (.tl .hd)))))) <| RG.va (FV.lN rfl (k1.memA (.tl (.tl (.tl .hd))))) <| RG.va (FV.lN rfl (k1.memA (.tl .hd))) <| RG.va (FV.indexArr (m := 1) (k := 0) (len := 2) (by kernel_rfl) rfl rfl rfl (by omega)) ?_
 refine RG.l1 rfl ((k1.memA .hd) 0 _ rfl) <| RG.va (FV.indexArr (m := 1) (k := 1) (len := 2) (by kernel_rfl) rfl rfl rfl (by omega)) <| RG.l1 rfl ((k1.memA .hd) 1 _ rfl) ?_
 obtain ⟨H3, A03, h⟩ := bind_in h
 have v3 := Tr.trans p2 (Tr.trans H2 (Tr.trans q7 (Tr.trans G0 (Tr.trans R1 (Tr.trans v4 (Tr.trans D1 (Tr.trans V2 (Tr.trans W2 X2))))))))
 have W7 := Rep.mv v0 v3
 have X7 := Rep.mv x0 v3
 have b2 := Tr.trans V0 (Tr.trans D1 (Tr.trans V2 (Tr.trans W2 X2)))
 have Y7 := Rep.mv H0 b2
 have Z7 := Rep.mv I0 b2
 have b8 := Rep.mv J0 b2
 have c8 := Rep.mv K0 b2
 refine RG.call' (fst := []) (cap := []) .plain body13 rfl (e5 rfl rfl rfl rfl rfl) (fun w9 hw9 => edit_Make_c n _ w9 (k1.hL hL hw9) b0.1 (Rep.keep0 W7 hw9) b0.2.1 (Rep.keep0 X7 hw9) y0 (Rep.keep0 Y7 hw9) (Rep.keep0 Z7 hw9) (Rep.keep0 b8 hw9) (Rep.keep0 c8 hw9) M0 P0 A03) rfl (fun H07 d07 t7 ⟨c04, d04, g04, j04, hu_, y4, z4, A4, B4⟩ => ?_)
 subst hu_
 obtain ⟨k6, Y2⟩ := k1.agr t7
 refine RG.mo rfl <| RG.va (FV.extract rfl rfl) <| RG.va (FV.extract rfl rfl) <| RG.new .plain rfl (Does.al [vI 0, vN, vN, vN, vN] k6) (fun I07 Y05 p6 W0 => ?_)
 have d8 := Rep.mv y4 W0
 have g8 := Rep.mv z4 W0
 have j8 := Rep.mv A4 W0
 have k8 := Rep.mv B4 W0
 refine RG.sa [vI H3.1.fK, c04, d04, g04, j04] p6 .hd (o5 rfl (Rep.o1 d8) (Rep.o1 g8) (Rep.o1 j8) (Rep.o1 k8)) (fun J07 p1 C2 => ?_)
 refine RG.so rfl <| RG.nil <| MX.sr <| RG.va (FV.lN rfl (p1.memA (.tl (.tl (.tl (.tl (.tl .hd))))))) <| RG.va (FV.lN rfl (p1.memA (.tl (.tl (.tl (.tl .hd)))))) <| RG.va (FV.lN rfl (p1.memA (.tl (.tl .hd)))) ?_
 refine RG.va (FV.indexArr (m := 1) (k := 0) (len := 2) (by kernel_rfl) rfl rfl rfl (by omega)) <| RG.l1 rfl ((p1.memA (.tl .hd)) 0 _ rfl) <| RG.va (FV.indexArr (m := 1) (k := 1) (len := 2) (by kernel_rfl) rfl rfl rfl (by omega)) <| RG.l1 rfl ((p1.memA (.tl .hd)) 1 _ rfl) ?_
 obtain ⟨I3, D03, h⟩ := bind_in h
 have x3 := Tr.trans v3 (Tr.trans Y2 (Tr.trans W0 C2))
 have p8 := Rep.mv v0 x3
 have q8 := Rep.mv x0 x3
 have c2 := Tr.trans b2 (Tr.trans Y2 (Tr.trans W0 C2))
 have s8 := Rep.mv H0 c2
 have t8 := Rep.mv I0 c2
 have v8 := Rep.mv J0 c2
 have x8 := Rep.mv K0 c2
 refine RG.call' (fst := []) (cap := []) .plain body14 rfl (e5 rfl rfl rfl rfl rfl) (fun w9 hw9 => wardmoteref26_Make_c n _ w9 (p1.hL hL hw9) b0.1 (Rep.keep0 p8 hw9) b0.2.1 (Rep.keep0 q8 hw9) y0 (Rep.keep0 s8 hw9) (Rep.keep0 t8 hw9) (Rep.keep0 v8 hw9) (Rep.keep0 x8 hw9) M0 P0 D03) rfl (fun M07 g07 u7 ⟨k04, p04, q04, s04, hu_, C4, D4, E4, F4⟩ => ?_)
 subst hu_
 obtain ⟨q6, D2⟩ := p1.agr u7
 refine RG.mo rfl <| RG.va (FV.extract rfl rfl) <| RG.va (FV.extract rfl rfl) <| RG.new .plain rfl (Does.al [vI 0, vN, vN, vN, vN] q6) (fun P07 Z05 s6 z0 => ?_)
 have y8 := Rep.mv C4 z0
 have z8 := Rep.mv D4 z0
 have A8 := Rep.mv E4 z0
 have B8 := Rep.mv F4 z0
 refine RG.sa [vI I3.1.fK, k04, p04, q04, s04] s6 .hd (o5 rfl (Rep.o1 y8) (Rep.o1 z8) (Rep.o1 A8) (Rep.o1 B8)) (fun Q07 k0 X0 => ?_)
 refine RG.so rfl <| RG.nil <| MX.sr <| RG.va (FV.lN rfl (k0.memA (.tl .hd))) <| RG.va (FV.lN rfl (k0.memA .hd)) ?_
 obtain ⟨B05, E03, h⟩ := bind_in h
 have I2 := Tr.trans W0 (Tr.trans C2 (Tr.trans D2 (Tr.trans z0 X0)))
 have C8 := Rep.mv y4 I2
 have D8 := Rep.mv z4 I2
 have E8 := Rep.mv A4 I2
 have F8 := Rep.mv B4 I2
 have G8 := Rep.mv C4 (Tr.trans z0 X0)
 have H8 := Rep.mv D4 (Tr.trans z0 X0)
 have I8 := Rep.mv E4 (Tr.trans z0 X0)
 have J8 := Rep.mv F4 (Tr.trans z0 X0)
 refine RG.cq (.bool B05) body15 rfl (e2 rfl rfl) (fun w9 hw9 => wardmoteref26_Same_c n _ w9 (k0.hL0 hL hw9) H3.1 (k0.kd C8 hw9) (k0.kd D8 hw9) (k0.kd E8 hw9) (k0.kd F8 hw9) I3.1 (k0.kd G8 hw9) (k0.kd H8 hw9) (k0.kd I8 hw9) (k0.kd J8 hw9) E03) rfl <| RG.va (FV.not rfl) <| RG.mo rfl <| RG.ifnb (s := 102) rfl h (fun P5 h => ?_) (fun P5 h => ?_)
 refine RG.ga (FV.move rfl) <| RG.ga (FV.move rfl) <| RG.ga (FV.neq (i := H3.2) (j := I3.2) rfl rfl) <| RG.pf rfl rfl <| RG.nil <| MX.ifn rfl h (fun Q5 h => ?_) (fun Q5 h => ?_)
 refine MX.skip <| MX.inBlock <| MX.region <| RG.va (FV.add (i := 0) (j := 1) (r := 1) rfl rfl (by decide)) <| RG.mo rfl <| RG.nil ?_
 refine MX.again1 <| MX.sr <| RG.va (FV.lssN (i := 1) (j := 3) rfl rfl) <| RG.nil <| MX.seq <| MX.cond_t rfl ?_
 refine MX.skip <| MX.seq <| MX.block <| MX.sr <| RG.va (FV.idxN (cs := [vI M0, vI P0, vI ((a2.1.toNat % 10 : Nat) : Int), vI a4, vI a3, vI ((a2.2.toNat % 3 : Nat) : Int)]) (k := 1) (m := 2) (len := 3) (by kernel_rfl) (by kernel_rfl) rfl rfl rfl (by omega) rfl) <| RG.new .plain rfl (Does.al [vI 0, vI 0] k0) (fun R07 b06 u6 Z2 => ?_)
 refine RG.sa [vI ((a2.1.toNat % 10 : Nat) : Int), vI a4] u6 .hd (onesB rfl) (fun U07 q1 b3 => ?_)
 refine RG.nil <| MX.sr <| RG.va (FV.lN rfl (q1.memA (.tl (.tl (.tl (.tl (.tl (.tl (.tl .hd))))))))) <| RG.va (FV.lN rfl (q1.memA (.tl (.tl (.tl (.tl (.tl (.tl .hd)))))))) <| RG.va (FV.lN rfl (q1.memA (.tl (.tl (.tl (.tl .hd)))))) <| RG.va (FV.indexArr (m := 1) (k := 0) (len := 2) (by kernel_rfl) rfl rfl rfl (by omega)) ?_
 refine RG.l1 rfl ((q1.memA .hd) 0 _ rfl) <| RG.va (FV.indexArr (m := 1) (k := 1) (len := 2) (by kernel_rfl) rfl rfl rfl (by omega)) <| RG.l1 rfl ((q1.memA .hd) 1 _ rfl) ?_
 obtain ⟨J3, F03, h⟩ := bind_in h
 have y3 := Tr.trans x3 (Tr.trans D2 (Tr.trans z0 (Tr.trans X0 (Tr.trans Z2 b3))))
 have K8 := Rep.mv v0 y3
 have M8 := Rep.mv x0 y3
 have d2 := Tr.trans c2 (Tr.trans D2 (Tr.trans z0 (Tr.trans X0 (Tr.trans Z2 b3))))
 have P8 := Rep.mv H0 d2
 have Q8 := Rep.mv I0 d2
 have R8 := Rep.mv J0 d2
 have U8 := Rep.mv K0 d2
 refine RG.call' (fst := []) (cap := []) .plain body13 rfl (e5 rfl rfl rfl rfl rfl) (fun w9 hw9 => edit_Make_c n _ w9 (q1.hL hL hw9) b0.1 (Rep.keep0 K8 hw9) b0.2.1 (Rep.keep0 M8 hw9) y0 (Rep.keep0 P8 hw9) (Rep.keep0 Q8 hw9) (Rep.keep0 R8 hw9) (Rep.keep0 U8 hw9) ((a2.1.toNat % 10 : Nat) : Int) a4 F03) rfl (fun V07 k07 x7 ⟨v04, x04, y04, z04, hu_, G4, H4, I4, J4⟩ => ?_)
 subst hu_
 obtain ⟨v6, c3⟩ := q1.agr x7
 refine RG.mo rfl <| RG.va (FV.extract rfl rfl) <| RG.va (FV.extract rfl rfl) <| RG.new .plain rfl (Does.al [vI 0, vN, vN, vN, vN] v6) (fun W07 c06 x6 Y0 => ?_)
 have V8 := Rep.mv G4 Y0
 have W8 := Rep.mv H4 Y0
 have X8 := Rep.mv I4 Y0
 have Y8 := Rep.mv J4 Y0
 refine RG.sa [vI J3.1.fK, v04, x04, y04, z04] x6 .hd (o5 rfl (Rep.o1 V8) (Rep.o1 W8) (Rep.o1 X8) (Rep.o1 Y8)) (fun X07 s1 E2 => ?_)
 refine RG.so rfl <| RG.nil <| MX.sr <| RG.va (FV.lN rfl (s1.memA (.tl (.tl (.tl (.tl (.tl (.tl (.tl (.tl .hd)))))))))) <| RG.va (FV.lN rfl (s1.memA (.tl (.tl (.tl (.tl (.tl (.tl (.tl .hd))))))))) <| RG.va (FV.lN rfl (s1.memA (.tl (.tl (.tl (.tl (.tl .hd))))))) ?_
 refine RG.va (FV.indexArr (m := 1) (k := 0) (len := 2) (by kernel_rfl) rfl rfl rfl (by omega)) <| RG.l1 rfl ((s1.memA (.tl .hd)) 0 _ rfl) <| RG.va (FV.indexArr (m := 1) (k := 1) (len := 2) (by kernel_rfl) rfl rfl rfl (by omega)) <| RG.l1 rfl ((s1.memA (.tl .hd)) 1 _ rfl) ?_
 obtain ⟨K3, G03, h⟩ := bind_in h
 have z3 := Tr.trans y3 (Tr.trans c3 (Tr.trans Y0 E2))
 have Z8 := Rep.mv v0 z3
 have b9 := Rep.mv x0 z3
 have g2 := Tr.trans d2 (Tr.trans c3 (Tr.trans Y0 E2))
 have c9 := Rep.mv H0 g2
 have d9 := Rep.mv I0 g2
 have g9 := Rep.mv J0 g2
 have j9 := Rep.mv K0 g2
 refine RG.call' (fst := []) (cap := []) .plain body14 rfl (e5 rfl rfl rfl rfl rfl) (fun w9 hw9 => wardmoteref26_Make_c n _ w9 (s1.hL hL hw9) b0.1 (Rep.keep0 Z8 hw9) b0.2.1 (Rep.keep0 b9 hw9) y0 (Rep.keep0 c9 hw9) (Rep.keep0 d9 hw9) (Rep.keep0 g9 hw9) (Rep.keep0 j9 hw9) ((a2.1.toNat % 10 : Nat) : Int) a4 G03) rfl (fun Y07 p07 y7 ⟨A04, B04, C04, D04, hu_, K4, M4, P4, Q4⟩ => ?_)
 subst hu_
 obtain ⟨y6, F2⟩ := s1.agr y7
 refine RG.mo rfl <| RG.va (FV.extract rfl rfl) <| RG.va (FV.extract rfl rfl) <| RG.new .plain rfl (Does.al [vI 0, vN, vN, vN, vN] y6) (fun Z07 d06 z6 A0 => ?_)
 have k9 := Rep.mv K4 A0
 have p9 := Rep.mv M4 A0
 have q9 := Rep.mv P4 A0
 have s9 := Rep.mv Q4 A0
 refine RG.sa [vI K3.1.fK, A04, B04, C04, D04] z6 .hd (o5 rfl (Rep.o1 k9) (Rep.o1 p9) (Rep.o1 q9) (Rep.o1 s9)) (fun b08 p0 Z0 => ?_)
 refine RG.so rfl <| RG.nil <| MX.sr <| RG.va (FV.lN rfl (p0.memA (.tl .hd))) <| RG.va (FV.lN rfl (p0.memA .hd)) ?_
 obtain ⟨C05, H03, h⟩ := bind_in h
 have J2 := Tr.trans Y0 (Tr.trans E2 (Tr.trans F2 (Tr.trans A0 Z0)))
 have t9 := Rep.mv G4 J2
 have u9 := Rep.mv H4 J2
 have v9 := Rep.mv I4 J2
 have x9 := Rep.mv J4 J2
 have y9 := Rep.mv K4 (Tr.trans A0 Z0)
 have z9 := Rep.mv M4 (Tr.trans A0 Z0)
 have A9 := Rep.mv P4 (Tr.trans A0 Z0)
 have B9 := Rep.mv Q4 (Tr.trans A0 Z0)
 refine RG.cq (.bool C05) body15 rfl (e2 rfl rfl) (fun w9 hw9 => wardmoteref26_Same_c n _ w9 (p0.hL0 hL hw9) J3.1 (p0.kd t9 hw9) (p0.kd u9 hw9) (p0.kd v9 hw9) (p0.kd x9 hw9) K3.1 (p0.kd y9 hw9) (p0.kd z9 hw9) (p0.kd A9 hw9) (p0.kd B9 hw9) H03) rfl <| RG.va (FV.not rfl) <| RG.mo rfl <| RG.ifnb (s := 102) rfl h (fun R5 h => ?_) (fun R5 h => ?_)
 refine RG.ga (FV.move rfl) <| RG.ga (FV.move rfl) <| RG.ga (FV.neq (i := J3.2) (j := K3.2) rfl rfl) <| RG.pf rfl rfl <| RG.nil <| MX.ifn rfl h (fun U5 h => ?_) (fun U5 h => ?_)
 refine MX.skip <| MX.inBlock <| MX.region <| RG.va (FV.add (i := 1) (j := 1) (r := 2) rfl rfl (by decide)) <| RG.mo rfl <| RG.nil ?_
 refine MX.again1 <| MX.sr <| RG.va (FV.lssN (i := 2) (j := 3) rfl rfl) <| RG.nil <| MX.seq <| MX.cond_t rfl ?_
 refine MX.skip <| MX.seq <| MX.block <| MX.sr <| RG.va (FV.idxN (cs := [vI M0, vI P0, vI ((a2.1.toNat % 10 : Nat) : Int), vI a4, vI a3, vI ((a2.2.toNat % 3 : Nat) : Int)]) (k := 2) (m := 2) (len := 3) (by kernel_rfl) (by kernel_rfl) rfl rfl rfl (by omega) rfl) <| RG.new .plain rfl (Does.al [vI 0, vI 0] p0) (fun d08 g06 B6 d3 => ?_)
 refine RG.sa [vI a3, vI ((a2.2.toNat % 3 : Nat) : Int)] B6 .hd (onesB rfl) (fun g08 u1 g3 => ?_)
 refine RG.nil <| MX.sr <| RG.va (FV.lN rfl (u1.memA (.tl (.tl (.tl (.tl (.tl (.tl (.tl (.tl (.tl (.tl .hd)))))))))))) <| RG.va (FV.lN rfl (u1.memA (.tl (.tl (.tl (.tl (.tl (.tl (.tl (.tl (.tl .hd))))))))))) <| RG.va (FV.lN rfl (u1.memA (.tl (.tl (.tl (.tl (.tl (.tl (.tl .hd))))))))) <| RG.va (FV.indexArr (m := 1) (k := 0) (len := 2) (by kernel_rfl) rfl rfl rfl (by omega)) ?_
 refine RG.l1 rfl ((u1.memA .hd) 0 _ rfl) <| RG.va (FV.indexArr (m := 1) (k := 1) (len := 2) (by kernel_rfl) rfl rfl rfl (by omega)) <| RG.l1 rfl ((u1.memA .hd) 1 _ rfl) ?_
 obtain ⟨M3, I03, h⟩ := bind_in h
 have A3 := Tr.trans z3 (Tr.trans F2 (Tr.trans A0 (Tr.trans Z0 (Tr.trans d3 g3))))
 have C9 := Rep.mv v0 A3
 have D9 := Rep.mv x0 A3
 have j2 := Tr.trans g2 (Tr.trans F2 (Tr.trans A0 (Tr.trans Z0 (Tr.trans d3 g3))))
 have E9 := Rep.mv H0 j2
 have F9 := Rep.mv I0 j2
 have G9 := Rep.mv J0 j2
 have H9 := Rep.mv K0 j2
 refine RG.call' (fst := []) (cap := []) .plain body13 rfl (e5 rfl rfl rfl rfl rfl) (fun w9 hw9 => edit_Make_c n _ w9 (u1.hL hL hw9) b0.1 (Rep.keep0 C9 hw9) b0.2.1 (Rep.keep0 D9 hw9) y0 (Rep.keep0 E9 hw9) (Rep.keep0 F9 hw9) (Rep.keep0 G9 hw9) (Rep.keep0 H9 hw9) a3 ((a2.2.toNat % 3 : Nat) : Int) I03) rfl (fun j08 q07 z7 ⟨E04, F04, G04, H04, hu_, R4, U4, V4, W4⟩ => ?_)
 subst hu_
 obtain ⟨C6, j3⟩ := u1.agr z7
 refine RG.mo rfl <| RG.va (FV.extract rfl rfl) <| RG.va (FV.extract rfl rfl) <| RG.new .plain rfl (Does.al [vI 0, vN, vN, vN, vN] C6) (fun k08 k06 D6 b1 => ?_)
 have I9 := Rep.mv R4 b1
 have J9 := Rep.mv U4 b1
 have K9 := Rep.mv V4 b1
 have M9 := Rep.mv W4 b1
 refine RG.sa [vI M3.1.fK, E04, F04, G04, H04] D6 .hd (o5 rfl (Rep.o1 I9) (Rep.o1 J9) (Rep.o1 K9) (Rep.o1 M9)) (fun q08 v1 G2 => ?_)
 refine RG.so rfl <| RG.nil <| MX.sr <| RG.va (FV.lN rfl (v1.memA (.tl (.tl (.tl (.tl (.tl (.tl (.tl (.tl (.tl (.tl (.tl .hd))))))))))))) <| RG.va (FV.lN rfl (v1.memA (.tl (.tl (.tl (.tl (.tl (.tl (.tl (.tl (.tl (.tl .hd)))))))))))) <| RG.va (FV.lN rfl (v1.memA (.tl (.tl (.tl (.tl (.tl (.tl (.tl (.tl .hd)))))))))) ?_
 refine RG.va (FV.indexArr (m := 1) (k := 0) (len := 2) (by kernel_rfl) rfl rfl rfl (by omega)) <| RG.l1 rfl ((v1.memA (.tl .hd)) 0 _ rfl) <| RG.va (FV.indexArr (m := 1) (k := 1) (len := 2) (by kernel_rfl) rfl rfl rfl (by omega)) <| RG.l1 rfl ((v1.memA (.tl .hd)) 1 _ rfl) ?_
 obtain ⟨P3, J03, h⟩ := bind_in h
 have B3 := Tr.trans A3 (Tr.trans j3 (Tr.trans b1 G2))
 have P9 := Rep.mv v0 B3
 have Q9 := Rep.mv x0 B3
 have K2 := Tr.trans j2 (Tr.trans j3 (Tr.trans b1 G2))
 have R9 := Rep.mv H0 K2
 have U9 := Rep.mv I0 K2
 have V9 := Rep.mv J0 K2
 have W9 := Rep.mv K0 K2
 refine RG.call' (fst := []) (cap := []) .plain body14 rfl (e5 rfl rfl rfl rfl rfl) (fun w9 hw9 => wardmoteref26_Make_c n _ w9 (v1.hL hL hw9) b0.1 (Rep.keep0 P9 hw9) b0.2.1 (Rep.keep0 Q9 hw9) y0 (Rep.keep0 R9 hw9) (Rep.keep0 U9 hw9) (Rep.keep0 V9 hw9) (Rep.keep0 W9 hw9) a3 ((a2.2.toNat % 3 : Nat) : Int) J03) rfl (fun s08 s07 A7 ⟨I04, J04, K04, M04, hu_, X4, Y4, Z4, c5⟩ => ?_)
 subst hu_
 obtain ⟨F6, k3⟩ := v1.agr A7
 refine RG.mo rfl <| RG.va (FV.extract rfl rfl) <| RG.va (FV.extract rfl rfl) <| RG.new .plain rfl (Does.al [vI 0, vN, vN, vN, vN] F6) (fun t08 q06 G6 B0 => ?_)
 have X9 := Rep.mv X4 B0
 have Y9 := Rep.mv Y4 B0
 have Z9 := Rep.mv Z4 B0
 have b00 := Rep.mv c5 B0
 refine RG.sa [vI P3.1.fK, I04, J04, K04, M04] G6 .hd (o5 rfl (Rep.o1 X9) (Rep.o1 Y9) (Rep.o1 Z9) (Rep.o1 b00)) (fun u08 q0 E1 => ?_)
 refine RG.so rfl <| RG.nil <| MX.sr <| RG.va (FV.lN rfl (q0.memA (.tl .hd))) <| RG.va (FV.lN rfl (q0.memA .hd)) ?_
 obtain ⟨D05, K03, h⟩ := bind_in h
 have M2 := Tr.trans b1 (Tr.trans G2 (Tr.trans k3 (Tr.trans B0 E1)))
 have d00 := Rep.mv R4 M2
 have g00 := Rep.mv U4 M2
 have j00 := Rep.mv V4 M2
 have k00 := Rep.mv W4 M2
 have p00 := Rep.mv X4 (Tr.trans B0 E1)
 have q00 := Rep.mv Y4 (Tr.trans B0 E1)
 have s00 := Rep.mv Z4 (Tr.trans B0 E1)
 have t00 := Rep.mv c5 (Tr.trans B0 E1)
 refine RG.cq (.bool D05) body15 rfl (e2 rfl rfl) (fun w9 hw9 => wardmoteref26_Same_c n _ w9 (q0.hL0 hL hw9) M3.1 (q0.kd d00 hw9) (q0.kd g00 hw9) (q0.kd j00 hw9) (q0.kd k00 hw9) P3.1 (q0.kd p00 hw9) (q0.kd q00 hw9) (q0.kd s00 hw9) (q0.kd t00 hw9) K03) rfl <| RG.va (FV.not rfl) <| RG.mo rfl <| RG.ifnb (s := 102) rfl h (fun V5 h => ?_) (fun V5 h => ?_)
 refine RG.ga (FV.move rfl) <| RG.ga (FV.move rfl) <| RG.ga (FV.neq (i := M3.2) (j := P3.2) rfl rfl) <| RG.pf rfl rfl <| RG.nil <| MX.ifn rfl h (fun W5 h => ?_) (fun W5 h => ?_)
 refine MX.skip <| MX.inBlock <| MX.region <| RG.va (FV.add (i := 2) (j := 1) (r := 3) rfl rfl (by decide)) <| RG.mo rfl <| RG.nil ?_
 refine MX.again1 <| MX.sr <| RG.va (FV.lssN (i := 3) (j := 3) rfl rfl) <| RG.nil <| MX.seq <| MX.cond_f rfl ?_
 refine MX.exit rfl <| MX.inBlock <| MX.region <| RG.va (FV.add (i := 0) (j := 1) (r := 1) rfl rfl (by decide)) <| RG.mo rfl <| RG.nil ?_
 refine MX.again1 <| MX.sr <| RG.va (FV.lssN (i := 1) (j := 2) rfl rfl) <| RG.nil <| MX.seq <| MX.cond_t rfl ?_
 refine MX.skip <| MX.seq <| MX.block <| MX.sr <| RG.va (FV.idxN (cs := [vI y0.fK, U1, V1, W1, X1, vI E0.fK, y2, z2, A2, B2]) (k := 1) (m := 5) (len := 2) (by kernel_rfl) (by kernel_rfl) rfl rfl rfl (by omega) rfl) <| RG.new .plain rfl (Does.al [vI 0, vN, vN, vN, vN] q0) (fun x08 s06 H6 b4 => ?_)
 have k2 := Tr.trans D1 (Tr.trans V2 (Tr.trans W2 (Tr.trans X2 (Tr.trans Y2 (Tr.trans W0 (Tr.trans C2 (Tr.trans D2 (Tr.trans z0 (Tr.trans X0 (Tr.trans Z2 (Tr.trans b3 (Tr.trans c3 (Tr.trans Y0 (Tr.trans E2 (Tr.trans F2 (Tr.trans A0 (Tr.trans Z0 (Tr.trans d3 (Tr.trans g3 (Tr.trans j3 (Tr.trans b1 (Tr.trans G2 (Tr.trans k3 (Tr.trans B0 (Tr.trans E1 b4)))))))))))))))))))))))))
 have u00 := Rep.mv c1 k2
 have v00 := Rep.mv d1 k2
 have x00 := Rep.mv g1 k2
 have y00 := Rep.mv j1 k2
 refine RG.sa [vI E0.fK, y2, z2, A2, B2] H6 .hd (o5 rfl (Rep.o1 u00) (Rep.o1 v00) (Rep.o1 x00) (Rep.o1 y00)) (fun y08 P1 c4 => ?_)
 refine RG.nil <| MX.seq <| MX.drawT 26 tb3_8 (by kernel_rfl) (by kernel_rfl) (by kernel_rfl) (fun d0 j0 => ?_)
 refine RD.vw 0 1 d0 rfl j0 (fun _ => FV.indexArr (m := 1) (k := 0) (len := 2) (by kernel_rfl) rfl rfl rfl (by omega)) rfl <| RD.vx 1 3 16779300 d0 rfl j0 (FV.l1 rfl ((P1.memA (.tl (.tl (.tl (.tl (.tl (.tl (.tl (.tl (.tl (.tl (.tl (.tl (.tl (.tl .hd))))))))))))))) 0 _ rfl)) rfl ?_
 have X06 := a2.1.toNat_lt
 refine RD.vw 2 7 d0 rfl j0 (fun _ => FV.convN (i := a2.1.toNat) Tryz.underlying5 Tryz.underlying3 rfl (by omega)) rfl <| RD.vw 3 15 d0 rfl j0 (fun _ => FV.fa 0 rfl) rfl <| RD.vx 4 31 16779296 d0 rfl j0 (FV.l1 rfl ((P1.memA (.tl (.tl (.tl (.tl (.tl (.tl (.tl (.tl (.tl (.tl (.tl (.tl (.tl .hd)))))))))))))) 0 _ rfl)) rfl ?_
 obtain ⟨Q0, k03, h⟩ := bind_in h
 refine RD.vw 5 63 d0 rfl j0 (fun _ => FV.remc (i := ((a2.1.toNat : Nat) : Int)) (j := b0.1.fN) rfl rfl k03) rfl <| RD.vw 6 127 d0 rfl j0 (fun _ => FV.indexArr (m := 1) (k := 1) (len := 2) (by kernel_rfl) rfl rfl rfl (by omega)) rfl <| RD.vx 7 255 16780544 d0 rfl j0 (FV.l1 rfl ((P1.memA (.tl (.tl (.tl (.tl (.tl (.tl (.tl (.tl (.tl (.tl (.tl (.tl (.tl (.tl .hd))))))))))))))) 1 _ rfl)) rfl ?_
 have Y06 := a2.2.toNat_lt
 refine RD.vw 8 511 d0 rfl j0 (fun _ => FV.convN (i := a2.2.toNat) Tryz.underlying5 Tryz.underlying3 rfl (by omega)) rfl <| RD.vw 9 1023 d0 rfl j0 (fun _ => FV.move rfl) rfl ?_
 obtain ⟨R0, p03, h⟩ := bind_in h
 refine RD.vw 10 2047 d0 rfl j0 (fun _ => FV.remc (i := ((a2.2.toNat : Nat) : Int)) (j := b0.2.2.2) rfl rfl p03) rfl <| RD.vw 11 4095 d0 rfl j0 (fun _ => FV.buildV (vs := [vI Q0, vI R0]) (u := .agg #[vI Q0, vI R0]) (e2 rfl rfl) (fun w9 => by kernel_rfl)) rfl <| RD.vw 12 8191 d0 rfl j0 (fun _ => FV.indexArr (m := 1) (k := 0) (len := 2) (by kernel_rfl) rfl rfl rfl (by omega)) rfl <| RD.vx 13 16383 16957440 d0 rfl j0 (FV.l1 rfl ((P1.memA (.tl (.tl (.tl (.tl (.tl (.tl (.tl (.tl (.tl (.tl (.tl (.tl (.tl (.tl .hd))))))))))))))) 0 _ rfl)) rfl ?_
 have Z06 := a2.1.toNat_lt
 refine RD.vw 14 32767 d0 rfl j0 (fun _ => FV.convN (i := a2.1.toNat) Tryz.underlying5 Tryz.underlying3 rfl (by omega)) rfl <| RD.vw 15 65535 d0 rfl j0 (fun _ => FV.remN (i := a2.1.toNat) (j := 10) rfl rfl rfl) rfl <| RD.vw 16 131071 d0 rfl j0 (fun _ => FV.move rfl) rfl <| RD.vw 17 262143 d0 rfl j0 (fun _ => FV.buildV (vs := [vI ((a2.1.toNat % 10 : Nat) : Int), vI a4]) (u := .agg #[vI ((a2.1.toNat % 10 : Nat) : Int), vI a4]) (e2 rfl rfl) (fun w9 => by kernel_rfl)) rfl <| RD.vw 18 524287 d0 rfl j0 (fun _ => FV.move rfl) rfl <| RD.vw 19 1048575 d0 rfl j0 (fun _ => FV.indexArr (m := 1) (k := 1) (len := 2) (by kernel_rfl) rfl rfl rfl (by omega)) rfl ?_
 refine RD.vx 20 2097151 31457280 d0 rfl j0 (FV.l1 rfl ((P1.memA (.tl (.tl (.tl (.tl (.tl (.tl (.tl (.tl (.tl (.tl (.tl (.tl (.tl (.tl .hd))))))))))))))) 1 _ rfl)) rfl ?_
 have b07 := a2.2.toNat_lt
 refine RD.vw 21 4194303 d0 rfl j0 (fun _ => FV.convN (i := a2.2.toNat) Tryz.underlying5 Tryz.underlying3 rfl (by omega)) rfl <| RD.vw 22 8388607 d0 rfl j0 (fun _ => FV.remN (i := a2.2.toNat) (j := 3) rfl rfl rfl) rfl <| RD.vw 23 16777215 d0 rfl j0 (fun _ => FV.buildV (vs := [vI a3, vI ((a2.2.toNat % 3 : Nat) : Int)]) (u := .agg #[vI a3, vI ((a2.2.toNat % 3 : Nat) : Int)]) (e2 rfl rfl) (fun w9 => by kernel_rfl)) rfl <| RD.vw 24 33554431 d0 rfl j0 (fun _ => FV.buildV (vs := [.agg #[vI Q0, vI R0], .agg #[vI ((a2.1.toNat % 10 : Nat) : Int), vI a4], .agg #[vI a3, vI ((a2.2.toNat % 3 : Nat) : Int)]]) (u := .agg #[vI Q0, vI R0, vI ((a2.1.toNat % 10 : Nat) : Int), vI a4, vI a3, vI ((a2.2.toNat % 3 : Nat) : Int)]) (e3 rfl rfl rfl) (fun w9 => by kernel_rfl)) rfl <| RD.vw 25 67108863 d0 rfl j0 (fun _ => FV.move rfl) rfl <| RD.done (doneD_ok d0 (by kernel_rfl)) ?_
 refine MX.block <| MX.loop1 <| MX.sr <| RG.va (FV.lssN (i := 0) (j := 3) rfl rfl) <| RG.nil <| MX.seq ?_
 refine MX.cond_t rfl <| MX.skip <| MX.seq <| MX.block <| MX.sr <| RG.va (FV.idxN (cs := [vI Q0, vI R0, vI ((a2.1.toNat % 10 : Nat) : Int), vI a4, vI a3, vI ((a2.2.toNat % 3 : Nat) : Int)]) (k := 0) (m := 2) (len := 3) (by kernel_rfl) (by kernel_rfl) rfl rfl rfl (by omega) rfl) ?_
 refine RG.new .plain rfl (Does.al [vI 0, vI 0] P1) (fun z08 t06 J6 d4 => ?_)
 refine RG.sa [vI Q0, vI R0] J6 .hd (onesB rfl) (fun A08 x1 g4 => ?_)
 refine RG.nil <| MX.sr <| RG.va (FV.lN rfl (x1.memA (.tl (.tl (.tl (.tl (.tl (.tl (.tl (.tl (.tl (.tl (.tl (.tl (.tl (.tl .hd)))))))))))))))) <| RG.va (FV.lN rfl (x1.memA (.tl (.tl (.tl (.tl (.tl (.tl (.tl (.tl (.tl (.tl (.tl (.tl (.tl .hd))))))))))))))) <| RG.va (FV.lN rfl (x1.memA (.tl .hd))) <| RG.va (FV.indexArr (m := 1) (k := 0) (len := 2) (by kernel_rfl) rfl rfl rfl (by omega)) ?_
 refine RG.l1 rfl ((x1.memA .hd) 0 _ rfl) <| RG.va (FV.indexArr (m := 1) (k := 1) (len := 2) (by kernel_rfl) rfl rfl rfl (by omega)) <| RG.l1 rfl ((x1.memA .hd) 1 _ rfl) ?_
 obtain ⟨Q3, M03, h⟩ := bind_in h
 have C3 := Tr.trans B3 (Tr.trans k3 (Tr.trans B0 (Tr.trans E1 (Tr.trans b4 (Tr.trans c4 (Tr.trans d4 g4))))))
 have z00 := Rep.mv v0 C3
 have A00 := Rep.mv x0 C3
 have q2 := Tr.trans k2 (Tr.trans c4 (Tr.trans d4 g4))
 have B00 := Rep.mv c1 q2
 have C00 := Rep.mv d1 q2
 have D00 := Rep.mv g1 q2
 have E00 := Rep.mv j1 q2
 refine RG.call' (fst := []) (cap := []) .plain body13 rfl (e5 rfl rfl rfl rfl rfl) (fun w9 hw9 => edit_Make_c n _ w9 (x1.hL hL hw9) b0.1 (Rep.keep0 z00 hw9) b0.2.1 (Rep.keep0 A00 hw9) E0 (Rep.keep0 B00 hw9) (Rep.keep0 C00 hw9) (Rep.keep0 D00 hw9) (Rep.keep0 E00 hw9) Q0 R0 M03) rfl (fun B08 t07 B7 ⟨P04, Q04, R04, U04, hu_, d5, g5, j5, k5⟩ => ?_)
 subst hu_
 obtain ⟨K6, j4⟩ := x1.agr B7
 refine RG.mo rfl <| RG.va (FV.extract rfl rfl) <| RG.va (FV.extract rfl rfl) <| RG.new .plain rfl (Does.al [vI 0, vN, vN, vN, vN] K6) (fun D08 u06 M6 F1 => ?_)
 have G00 := Rep.mv d5 F1
 have H00 := Rep.mv g5 F1
 have I00 := Rep.mv j5 F1
 have J00 := Rep.mv k5 F1
 refine RG.sa [vI Q3.1.fK, P04, Q04, R04, U04] M6 .hd (o5 rfl (Rep.o1 G00) (Rep.o1 H00) (Rep.o1 I00) (Rep.o1 J00)) (fun E08 y1 p3 => ?_)
 refine RG.so rfl <| RG.nil <| MX.sr <| RG.va (FV.lN rfl (y1.memA (.tl (.tl (.tl (.tl (.tl (.tl (.tl (.tl (.tl (.tl (.tl (.tl (.tl (.tl (.tl .hd))))))))))))))))) <| RG.va (FV.lN rfl (y1.memA (.tl (.tl (.tl (.tl (.tl (.tl (.tl (.tl (.tl (.tl (.tl (.tl (.tl (.tl .hd)))))))))))))))) <| RG.va (FV.lN rfl (y1.memA (.tl (.tl .hd)))) ?_
 refine RG.va (FV.indexArr (m := 1) (k := 0) (len := 2) (by kernel_rfl) rfl rfl rfl (by omega)) <| RG.l1 rfl ((y1.memA (.tl .hd)) 0 _ rfl) <| RG.va (FV.indexArr (m := 1) (k := 1) (len := 2) (by kernel_rfl) rfl rfl rfl (by omega)) <| RG.l1 rfl ((y1.memA (.tl .hd)) 1 _ rfl) ?_
 obtain ⟨R3, P03, h⟩ := bind_in h
 have D3 := Tr.trans C3 (Tr.trans j4 (Tr.trans F1 p3))
 have K00 := Rep.mv v0 D3
 have M00 := Rep.mv x0 D3
 have s2 := Tr.trans q2 (Tr.trans j4 (Tr.trans F1 p3))
 have P00 := Rep.mv c1 s2
 have Q00 := Rep.mv d1 s2
 have R00 := Rep.mv g1 s2
 have U00 := Rep.mv j1 s2
 refine RG.call' (fst := []) (cap := []) .plain body14 rfl (e5 rfl rfl rfl rfl rfl) (fun w9 hw9 => wardmoteref26_Make_c n _ w9 (y1.hL hL hw9) b0.1 (Rep.keep0 K00 hw9) b0.2.1 (Rep.keep0 M00 hw9) E0 (Rep.keep0 P00 hw9) (Rep.keep0 Q00 hw9) (Rep.keep0 R00 hw9) (Rep.keep0 U00 hw9) Q0 R0 P03) rfl (fun F08 u07 C7 ⟨V04, W04, X04, Y04, hu_, p5, q5, s5, t5⟩ => ?_)
 subst hu_
 obtain ⟨P6, q3⟩ := y1.agr C7
 refine RG.mo rfl <| RG.va (FV.extract rfl rfl) <| RG.va (FV.extract rfl rfl) <| RG.new .plain rfl (Does.al [vI 0, vN, vN, vN, vN] P6) (fun G08 v06 Q6 C0 => ?_)
 have W00 := Rep.mv p5 C0
 have X00 := Rep.mv q5 C0
 have Y00 := Rep.mv s5 C0
 have Z00 := Rep.mv t5 C0
 refine RG.sa [vI R3.1.fK, V04, W04, X04, Y04] Q6 .hd (o5 rfl (Rep.o1 W00) (Rep.o1 X00) (Rep.o1 Y00) (Rep.o1 Z00)) (fun H08 s0 G1 => ?_)
 refine RG.so rfl <| RG.nil <| MX.sr <| RG.va (FV.lN rfl (s0.memA (.tl .hd))) <| RG.va (FV.lN rfl (s0.memA .hd)) ?_
 obtain ⟨E05, R03, h⟩ := bind_in h
 have P2 := Tr.trans F1 (Tr.trans p3 (Tr.trans q3 (Tr.trans C0 G1)))
 have c01 := Rep.mv d5 P2
 have d01 := Rep.mv g5 P2
 have g01 := Rep.mv j5 P2
 have j01 := Rep.mv k5 P2
 have k01 := Rep.mv p5 (Tr.trans C0 G1)
 have p01 := Rep.mv q5 (Tr.trans C0 G1)
 have q01 := Rep.mv s5 (Tr.trans C0 G1)
 have s01 := Rep.mv t5 (Tr.trans C0 G1)
 refine RG.cq (.bool E05) body15 rfl (e2 rfl rfl) (fun w9 hw9 => wardmoteref26_Same_c n _ w9 (s0.hL0 hL hw9) Q3.1 (s0.kd c01 hw9) (s0.kd d01 hw9) (s0.kd g01 hw9) (s0.kd j01 hw9) R3.1 (s0.kd k01 hw9) (s0.kd p01 hw9) (s0.kd q01 hw9) (s0.kd s01 hw9) R03) rfl <| RG.va (FV.not rfl) <| RG.mo rfl <| RG.ifnb (s := 102) rfl h (fun X5 h => ?_) (fun X5 h => ?_)
 refine RG.ga (FV.move rfl) <| RG.ga (FV.move rfl) <| RG.ga (FV.neq (i := Q3.2) (j := R3.2) rfl rfl) <| RG.pf rfl rfl <| RG.nil <| MX.ifn rfl h (fun Y5 h => ?_) (fun Y5 h => ?_)
 refine MX.skip <| MX.inBlock <| MX.region <| RG.va (FV.add (i := 0) (j := 1) (r := 1) rfl rfl (by decide)) <| RG.mo rfl <| RG.nil ?_
 refine MX.again1 <| MX.sr <| RG.va (FV.lssN (i := 1) (j := 3) rfl rfl) <| RG.nil <| MX.seq <| MX.cond_t rfl ?_
 refine MX.skip <| MX.seq <| MX.block <| MX.sr <| RG.va (FV.idxN (cs := [vI Q0, vI R0, vI ((a2.1.toNat % 10 : Nat) : Int), vI a4, vI a3, vI ((a2.2.toNat % 3 : Nat) : Int)]) (k := 1) (m := 2) (len := 3) (by kernel_rfl) (by kernel_rfl) rfl rfl rfl (by omega) rfl) <| RG.new .plain rfl (Does.al [vI 0, vI 0] s0) (fun I08 x06 R6 k4 => ?_)
 refine RG.sa [vI ((a2.1.toNat % 10 : Nat) : Int), vI a4] R6 .hd (onesB rfl) (fun J08 z1 p4 => ?_)
 refine RG.nil <| MX.sr <| RG.va (FV.lN rfl (z1.memA (.tl (.tl (.tl (.tl (.tl (.tl (.tl (.tl (.tl (.tl (.tl (.tl (.tl (.tl (.tl (.tl (.tl .hd))))))))))))))))))) <| RG.va (FV.lN rfl (z1.memA (.tl (.tl (.tl (.tl (.tl (.tl (.tl (.tl (.tl (.tl (.tl (.tl (.tl (.tl (.tl (.tl .hd)))))))))))))))))) <| RG.va (FV.lN rfl (z1.memA (.tl (.tl (.tl (.tl .hd)))))) <| RG.va (FV.indexArr (m := 1) (k := 0) (len := 2) (by kernel_rfl) rfl rfl rfl (by omega)) ?_
 refine RG.l1 rfl ((z1.memA .hd) 0 _ rfl) <| RG.va (FV.indexArr (m := 1) (k := 1) (len := 2) (by kernel_rfl) rfl rfl rfl (by omega)) <| RG.l1 rfl ((z1.memA .hd) 1 _ rfl) ?_
 obtain ⟨U3, U03, h⟩ := bind_in h
 have E3 := Tr.trans D3 (Tr.trans q3 (Tr.trans C0 (Tr.trans G1 (Tr.trans k4 p4))))
 have u01 := Rep.mv v0 E3
 have v01 := Rep.mv x0 E3
 have t2 := Tr.trans s2 (Tr.trans q3 (Tr.trans C0 (Tr.trans G1 (Tr.trans k4 p4))))
 have x01 := Rep.mv c1 t2
 have y01 := Rep.mv d1 t2
 have z01 := Rep.mv g1 t2
 have A01 := Rep.mv j1 t2
 refine RG.call' (fst := []) (cap := []) .plain body13 rfl (e5 rfl rfl rfl rfl rfl) (fun w9 hw9 => edit_Make_c n _ w9 (z1.hL hL hw9) b0.1 (Rep.keep0 u01 hw9) b0.2.1 (Rep.keep0 v01 hw9) E0 (Rep.keep0 x01 hw9) (Rep.keep0 y01 hw9) (Rep.keep0 z01 hw9) (Rep.keep0 A01 hw9) ((a2.1.toNat % 10 : Nat) : Int) a4 U03) rfl (fun M08 v07 D7 ⟨Z04, b05, c05, d05, hu_, u5, v5, x5, y5⟩ => ?_)
 subst hu_
 obtain ⟨U6, q4⟩ := z1.agr D7
 refine RG.mo rfl <| RG.va (FV.extract rfl rfl) <| RG.va (FV.extract rfl rfl) <| RG.new .plain rfl (Does.al [vI 0, vN, vN, vN, vN] U6) (fun P08 y06 V6 H1 => ?_)
 have B01 := Rep.mv u5 H1
 have C01 := Rep.mv v5 H1
 have D01 := Rep.mv x5 H1
 have E01 := Rep.mv y5 H1
 refine RG.sa [vI U3.1.fK, Z04, b05, c05, d05] V6 .hd (o5 rfl (Rep.o1 B01) (Rep.o1 C01) (Rep.o1 D01) (Rep.o1 E01)) (fun Q08 A1 s3 => ?_)
 refine RG.so rfl <| RG.nil <| MX.sr <| RG.va (FV.lN rfl (A1.memA (.tl (.tl (.tl (.tl (.tl (.tl (.tl (.tl (.tl (.tl (.tl (.tl (.tl (.tl (.tl (.tl (.tl (.tl .hd)))))))))))))))))))) <| RG.va (FV.lN rfl (A1.memA (.tl (.tl (.tl (.tl (.tl (.tl (.tl (.tl (.tl (.tl (.tl (.tl (.tl (.tl (.tl (.tl (.tl .hd))))))))))))))))))) <| RG.va (FV.lN rfl (A1.memA (.tl (.tl (.tl (.tl (.tl .hd))))))) ?_
 refine RG.va (FV.indexArr (m := 1) (k := 0) (len := 2) (by kernel_rfl) rfl rfl rfl (by omega)) <| RG.l1 rfl ((A1.memA (.tl .hd)) 0 _ rfl) <| RG.va (FV.indexArr (m := 1) (k := 1) (len := 2) (by kernel_rfl) rfl rfl rfl (by omega)) <| RG.l1 rfl ((A1.memA (.tl .hd)) 1 _ rfl) ?_
 obtain ⟨V3, V03, h⟩ := bind_in h
 have F3 := Tr.trans E3 (Tr.trans q4 (Tr.trans H1 s3))
 have F01 := Rep.mv v0 F3
 have G01 := Rep.mv x0 F3
 have u2 := Tr.trans t2 (Tr.trans q4 (Tr.trans H1 s3))
 have H01 := Rep.mv c1 u2
 have I01 := Rep.mv d1 u2
 have J01 := Rep.mv g1 u2
 have K01 := Rep.mv j1 u2
 refine RG.call' (fst := []) (cap := []) .plain body14 rfl (e5 rfl rfl rfl rfl rfl) (fun w9 hw9 => wardmoteref26_Make_c n _ w9 (A1.hL hL hw9) b0.1 (Rep.keep0 F01 hw9) b0.2.1 (Rep.keep0 G01 hw9) E0 (Rep.keep0 H01 hw9) (Rep.keep0 I01 hw9) (Rep.keep0 J01 hw9) (Rep.keep0 K01 hw9) ((a2.1.toNat % 10 : Nat) : Int) a4 V03) rfl (fun R08 y07 F7 ⟨g05, j05, k05, p05, hu_, z5, A5, B5, C5⟩ => ?_)
 subst hu_
 obtain ⟨X6, t3⟩ := A1.agr F7
 refine RG.mo rfl <| RG.va (FV.extract rfl rfl) <| RG.va (FV.extract rfl rfl) <| RG.new .plain rfl (Does.al [vI 0, vN, vN, vN, vN] X6) (fun U08 z06 Y6 D0 => ?_)
 have M01 := Rep.mv z5 D0
 have P01 := Rep.mv A5 D0
 have Q01 := Rep.mv B5 D0
 have R01 := Rep.mv C5 D0
 refine RG.sa [vI V3.1.fK, g05, j05, k05, p05] Y6 .hd (o5 rfl (Rep.o1 M01) (Rep.o1 P01) (Rep.o1 Q01) (Rep.o1 R01)) (fun V08 t0 I1 => ?_)
 refine RG.so rfl <| RG.nil <| MX.sr <| RG.va (FV.lN rfl (t0.memA (.tl .hd))) <| RG.va (FV.lN rfl (t0.memA .hd)) ?_
 obtain ⟨F05, W03, h⟩ := bind_in h
 have Q2 := Tr.trans H1 (Tr.trans s3 (Tr.trans t3 (Tr.trans D0 I1)))
 have U01 := Rep.mv u5 Q2
 have V01 := Rep.mv v5 Q2
 have W01 := Rep.mv x5 Q2
 have X01 := Rep.mv y5 Q2
 have Y01 := Rep.mv z5 (Tr.trans D0 I1)
 have Z01 := Rep.mv A5 (Tr.trans D0 I1)
 have b02 := Rep.mv B5 (Tr.trans D0 I1)
 have c02 := Rep.mv C5 (Tr.trans D0 I1)
 refine RG.cq (.bool F05) body15 rfl (e2 rfl rfl) (fun w9 hw9 => wardmoteref26_Same_c n _ w9 (t0.hL0 hL hw9) U3.1 (t0.kd U01 hw9) (t0.kd V01 hw9) (t0.kd W01 hw9) (t0.kd X01 hw9) V3.1 (t0.kd Y01 hw9) (t0.kd Z01 hw9) (t0.kd b02 hw9) (t0.kd c02 hw9) W03) rfl <| RG.va (FV.not rfl) <| RG.mo rfl <| RG.ifnb (s := 102) rfl h (fun Z5 h => ?_) (fun Z5 h => ?_)
 refine RG.ga (FV.move rfl) <| RG.ga (FV.move rfl) <| RG.ga (FV.neq (i := U3.2) (j := V3.2) rfl rfl) <| RG.pf rfl rfl <| RG.nil <| MX.ifn rfl h (fun b6 h => ?_) (fun b6 h => ?_)
 refine MX.skip <| MX.inBlock <| MX.region <| RG.va (FV.add (i := 1) (j := 1) (r := 2) rfl rfl (by decide)) <| RG.mo rfl <| RG.nil ?_
 refine MX.again1 <| MX.sr <| RG.va (FV.lssN (i := 2) (j := 3) rfl rfl) <| RG.nil <| MX.seq <| MX.cond_t rfl ?_
 refine MX.skip <| MX.seq <| MX.block <| MX.sr <| RG.va (FV.idxN (cs := [vI Q0, vI R0, vI ((a2.1.toNat % 10 : Nat) : Int), vI a4, vI a3, vI ((a2.2.toNat % 3 : Nat) : Int)]) (k := 2) (m := 2) (len := 3) (by kernel_rfl) (by kernel_rfl) rfl rfl rfl (by omega) rfl) <| RG.new .plain rfl (Does.al [vI 0, vI 0] t0) (fun W08 A06 Z6 s4 => ?_)
 refine RG.sa [vI a3, vI ((a2.2.toNat % 3 : Nat) : Int)] Z6 .hd (onesB rfl) (fun X08 B1 t4 => ?_)
 refine RG.nil <| MX.sr <| RG.va (FV.lN rfl (B1.memA (.tl (.tl (.tl (.tl (.tl (.tl (.tl (.tl (.tl (.tl (.tl (.tl (.tl (.tl (.tl (.tl (.tl (.tl (.tl (.tl .hd)))))))))))))))))))))) <| RG.va (FV.lN rfl (B1.memA (.tl (.tl (.tl (.tl (.tl (.tl (.tl (.tl (.tl (.tl (.tl (.tl (.tl (.tl (.tl (.tl (.tl (.tl (.tl .hd))))))))))))))))))))) <| RG.va (FV.lN rfl (B1.memA (.tl (.tl (.tl (.tl (.tl (.tl (.tl .hd))))))))) <| RG.va (FV.indexArr (m := 1) (k := 0) (len := 2) (by kernel_rfl) rfl rfl rfl (by omega)) ?_
 refine RG.l1 rfl ((B1.memA .hd) 0 _ rfl) <| RG.va (FV.indexArr (m := 1) (k := 1) (len := 2) (by kernel_rfl) rfl rfl rfl (by omega)) <| RG.l1 rfl ((B1.memA .hd) 1 _ rfl) ?_
 obtain ⟨W3, X03, h⟩ := bind_in h
 have G3 := Tr.trans F3 (Tr.trans t3 (Tr.trans D0 (Tr.trans I1 (Tr.trans s4 t4))))
 have d02 := Rep.mv v0 G3
 have g02 := Rep.mv x0 G3
 have v2 := Tr.trans u2 (Tr.trans t3 (Tr.trans D0 (Tr.trans I1 (Tr.trans s4 t4))))
 have j02 := Rep.mv c1 v2
 have k02 := Rep.mv d1 v2
 have p02 := Rep.mv g1 v2
 have q02 := Rep.mv j1 v2
 refine RG.call' (fst := []) (cap := []) .plain body13 rfl (e5 rfl rfl rfl rfl rfl) (fun w9 hw9 => edit_Make_c n _ w9 (B1.hL hL hw9) b0.1 (Rep.keep0 d02 hw9) b0.2.1 (Rep.keep0 g02 hw9) E0 (Rep.keep0 j02 hw9) (Rep.keep0 k02 hw9) (Rep.keep0 p02 hw9) (Rep.keep0 q02 hw9) a3 ((a2.2.toNat % 3 : Nat) : Int) X03) rfl (fun Y08 z07 G7 ⟨q05, s05, t05, u05, hu_, D5, E5, F5, G5⟩ => ?_)
 subst hu_
 obtain ⟨b7, u4⟩ := B1.agr G7
 refine RG.mo rfl <| RG.va (FV.extract rfl rfl) <| RG.va (FV.extract rfl rfl) <| RG.new .plain rfl (Does.al [vI 0, vN, vN, vN, vN] b7) (fun Z08 B06 c7 J1 => ?_)
 have s02 := Rep.mv D5 J1
 have t02 := Rep.mv E5 J1
 have u02 := Rep.mv F5 J1
 have v02 := Rep.mv G5 J1
 refine RG.sa [vI W3.1.fK, q05, s05, t05, u05] c7 .hd (o5 rfl (Rep.o1 s02) (Rep.o1 t02) (Rep.o1 u02) (Rep.o1 v02)) (fun b09 C1 u3 => ?_)
 refine RG.so rfl <| RG.nil <| MX.sr <| RG.va (FV.lN rfl (C1.memA (.tl (.tl (.tl (.tl (.tl (.tl (.tl (.tl (.tl (.tl (.tl (.tl (.tl (.tl (.tl (.tl (.tl (.tl (.tl (.tl (.tl .hd))))))))))))))))))))))) <| RG.va (FV.lN rfl (C1.memA (.tl (.tl (.tl (.tl (.tl (.tl (.tl (.tl (.tl (.tl (.tl (.tl (.tl (.tl (.tl (.tl (.tl (.tl (.tl (.tl .hd)))))))))))))))))))))) <| RG.va (FV.lN rfl (C1.memA (.tl (.tl (.tl (.tl (.tl (.tl (.tl (.tl .hd)))))))))) ?_
 refine RG.va (FV.indexArr (m := 1) (k := 0) (len := 2) (by kernel_rfl) rfl rfl rfl (by omega)) <| RG.l1 rfl ((C1.memA (.tl .hd)) 0 _ rfl) <| RG.va (FV.indexArr (m := 1) (k := 1) (len := 2) (by kernel_rfl) rfl rfl rfl (by omega)) <| RG.l1 rfl ((C1.memA (.tl .hd)) 1 _ rfl) ?_
 obtain ⟨X3, Y03, h⟩ := bind_in h
 have x4 := Tr.trans G3 (Tr.trans u4 (Tr.trans J1 u3))
 have x02 := Rep.mv v0 x4
 have y02 := Rep.mv x0 x4
 have R2 := Tr.trans v2 (Tr.trans u4 (Tr.trans J1 u3))
 have z02 := Rep.mv c1 R2
 have A02 := Rep.mv d1 R2
 have B02 := Rep.mv g1 R2
 have C02 := Rep.mv j1 R2
 refine RG.call' (fst := []) (cap := []) .plain body14 rfl (e5 rfl rfl rfl rfl rfl) (fun w9 hw9 => wardmoteref26_Make_c n _ w9 (C1.hL hL hw9) b0.1 (Rep.keep0 x02 hw9) b0.2.1 (Rep.keep0 y02 hw9) E0 (Rep.keep0 z02 hw9) (Rep.keep0 A02 hw9) (Rep.keep0 B02 hw9) (Rep.keep0 C02 hw9) a3 ((a2.2.toNat % 3 : Nat) : Int) Y03) rfl (fun c09 A07 H7 ⟨v05, x05, y05, z05, hu_, H5, I5, J5, K5⟩ => ?_)
 subst hu_
 obtain ⟨d7, s7⟩ := C1.agr H7
 refine RG.mo rfl <| RG.va (FV.extract rfl rfl) <| RG.va (FV.extract rfl rfl) <| RG.new .plain rfl (Does.al [vI 0, vN, vN, vN, vN] d7) (fun g09 C06 g7 U0 => ?_)
 have D02 := Rep.mv H5 U0
 have E02 := Rep.mv I5 U0
 have F02 := Rep.mv J5 U0
 have G02 := Rep.mv K5 U0
 refine RG.sa [vI X3.1.fK, v05, x05, y05, z05] g7 .hd (o5 rfl (Rep.o1 D02) (Rep.o1 E02) (Rep.o1 F02) (Rep.o1 G02)) (fun j09 u0 Z1 => ?_)
 refine RG.so rfl <| RG.nil <| MX.sr <| RG.va (FV.lN rfl (u0.memA (.tl .hd))) <| RG.va (FV.lN rfl (u0.memA .hd)) ?_
 obtain ⟨G05, Z03, h⟩ := bind_in h
 have U2 := Tr.trans J1 (Tr.trans u3 (Tr.trans s7 (Tr.trans U0 Z1)))
 have H02 := Rep.mv D5 U2
 have I02 := Rep.mv E5 U2
 have J02 := Rep.mv F5 U2
 have K02 := Rep.mv G5 U2
 have M02 := Rep.mv H5 (Tr.trans U0 Z1)
 have P02 := Rep.mv I5 (Tr.trans U0 Z1)
 have Q02 := Rep.mv J5 (Tr.trans U0 Z1)
 have R02 := Rep.mv K5 (Tr.trans U0 Z1)
 refine RG.cq (.bool G05) body15 rfl (e2 rfl rfl) (fun w9 hw9 => wardmoteref26_Same_c n _ w9 (u0.hL0 hL hw9) W3.1 (u0.kd H02 hw9) (u0.kd I02 hw9) (u0.kd J02 hw9) (u0.kd K02 hw9) X3.1 (u0.kd M02 hw9) (u0.kd P02 hw9) (u0.kd Q02 hw9) (u0.kd R02 hw9) Z03) rfl <| RG.va (FV.not rfl) <| RG.mo rfl <| RG.ifnb (s := 102) rfl h (fun c6 h => ?_) (fun c6 h => ?_)
 refine RG.ga (FV.move rfl) <| RG.ga (FV.move rfl) <| RG.ga (FV.neq (i := W3.2) (j := X3.2) rfl rfl) <| RG.pf rfl rfl <| RG.nil <| MX.ifn rfl h (fun d6 h => ?_) (fun d6 h => ?_)
 refine MX.skip <| MX.inBlock <| MX.region <| RG.va (FV.add (i := 2) (j := 1) (r := 3) rfl rfl (by decide)) <| RG.mo rfl <| RG.nil ?_
 refine MX.again1 <| MX.sr <| RG.va (FV.lssN (i := 3) (j := 3) rfl rfl) <| RG.nil <| MX.seq <| MX.cond_f rfl ?_
 refine MX.exit rfl <| MX.inBlock <| MX.region <| RG.va (FV.add (i := 1) (j := 1) (r := 2) rfl rfl (by decide)) <| RG.mo rfl <| RG.nil ?_
 refine MX.again1 <| MX.sr <| RG.va (FV.lssN (i := 2) (j := 2) rfl rfl) <| RG.nil <| MX.seq <| MX.cond_f rfl ?_
 refine MX.exit rfl <| MX.sr <| RG.so rfl <| RG.nil <| MX.ret rfl <| RT.t1 hb0 Tryz.func3 rfl rfl ?_
 cases h
 exact u0.gv
 refine MX.sr <| RG.so rfl <| RG.nil <| MX.ret rfl <| RT.t1 hb0 Tryz.func3 rfl rfl ?_
 cases h
 exact u0.gv
 refine RG.no <| RG.no <| RG.no <| RG.pt rfl rfl <| RG.nil <| MX.cond_t rfl ?_
 refine MX.sr <| RG.so rfl <| RG.nil <| MX.ret rfl <| RT.t1 hb0 Tryz.func3 rfl rfl ?_
 cases h
 exact u0.gv
 refine MX.sr <| RG.so rfl <| RG.nil <| MX.ret rfl <| RT.t1 hb0 Tryz.func3 rfl rfl ?_
 cases h
 exact t0.gv
 refine RG.no <| RG.no <| RG.no <| RG.pt rfl rfl <| RG.nil <| MX.cond_t rfl ?_
 refine MX.sr <| RG.so rfl <| RG.nil <| MX.ret rfl <| RT.t1 hb0 Tryz.func3 rfl rfl ?_
 cases h
 exact t0.gv
 refine MX.sr <| RG.so rfl <| RG.nil <| MX.ret rfl <| RT.t1 hb0 Tryz.func3 rfl rfl ?_
 cases h
 exact s0.gv
 refine RG.no <| RG.no <| RG.no <| RG.pt rfl rfl <| RG.nil <| MX.cond_t rfl ?_
 refine MX.sr <| RG.so rfl <| RG.nil <| MX.ret rfl <| RT.t1 hb0 Tryz.func3 rfl rfl ?_
 cases h
 exact s0.gv
 refine MX.sr <| RG.so rfl <| RG.nil <| MX.ret rfl <| RT.t1 hb0 Tryz.func3 rfl rfl ?_
 cases h
 exact q0.gv
 refine RG.no <| RG.no <| RG.no <| RG.pt rfl rfl <| RG.nil <| MX.cond_t rfl ?_
 refine MX.sr <| RG.so rfl <| RG.nil <| MX.ret rfl <| RT.t1 hb0 Tryz.func3 rfl rfl ?_
 cases h
 exact q0.gv
 refine MX.sr <| RG.so rfl <| RG.nil <| MX.ret rfl <| RT.t1 hb0 Tryz.func3 rfl rfl ?_
 cases h
 exact p0.gv
 refine RG.no <| RG.no <| RG.no <| RG.pt rfl rfl <| RG.nil <| MX.cond_t rfl ?_
 refine MX.sr <| RG.so rfl <| RG.nil <| MX.ret rfl <| RT.t1 hb0 Tryz.func3 rfl rfl ?_
 cases h
 exact p0.gv
 refine MX.sr <| RG.so rfl <| RG.nil <| MX.ret rfl <| RT.t1 hb0 Tryz.func3 rfl rfl ?_
 cases h
 exact k0.gv
 refine RG.no <| RG.no <| RG.no <| RG.pt rfl rfl <| RG.nil <| MX.cond_t rfl ?_
 refine MX.sr <| RG.so rfl <| RG.nil <| MX.ret rfl <| RT.t1 hb0 Tryz.func3 rfl rfl ?_
 cases h
 exact k0.gv
 refine MX.sr <| RG.so rfl <| RG.nil <| MX.ret rfl <| RT.t1 hb0 Tryz.func3 rfl rfl ?_
 cases h
 exact F0.gv
end Go.Proofs.YtcijnmkodpfpgaaGreatDoor
