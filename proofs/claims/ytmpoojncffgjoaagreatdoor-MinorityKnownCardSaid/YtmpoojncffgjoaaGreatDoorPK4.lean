/- Functions of the program, and what they give: part 4. -/
import Derived.Test.YtmpoojncffgjoaaGreatDoorPK3
namespace Go.Proofs.YtmpoojncffgjoaaGreatDoor
open Go Go.RowKit
set_option maxRecDepth 4000
set_option maxHeartbeats 4000000

def tb73_3 : List (Nat × Nat × Nat) := [(0, 1024, 4), (1, 2048, 1024), (0, 4096, 8), (6, 8192, 4096), (10, 16384, 10240), (16, 32768, 16384), (32, 65536, 32768), (32, 131072, 32768), (255, 0, 65552), (511, 32, 131072)]
theorem op_A36 {w : World} {L : List Nat} {cs : List Value} {x : UInt64 × UInt64 × UInt64 × UInt64 × UInt64 × UInt64 × UInt64 × UInt64} (h : Rep.R w L cs x) : cs = [.int .u64 (x.1.toNat : Int), .int .u64 (x.2.1.toNat : Int), .int .u64 (x.2.2.1.toNat : Int), .int .u64 (x.2.2.2.1.toNat : Int), .int .u64 (x.2.2.2.2.1.toNat : Int), .int .u64 (x.2.2.2.2.2.1.toNat : Int), .int .u64 (x.2.2.2.2.2.2.1.toNat : Int), .int .u64 (x.2.2.2.2.2.2.2.toNat : Int)] := by
  obtain ⟨c0, r0, rfl, h0, h⟩ := h
  have e0 : c0 = [.int .u64 (x.1.toNat : Int)] := h0; subst e0
  obtain ⟨c1, r1, rfl, h1, h⟩ := h
  have e1 : c1 = [.int .u64 (x.2.1.toNat : Int)] := h1; subst e1
  obtain ⟨c2, r2, rfl, h2, h⟩ := h
  have e2 : c2 = [.int .u64 (x.2.2.1.toNat : Int)] := h2; subst e2
  obtain ⟨c3, r3, rfl, h3, h⟩ := h
  have e3 : c3 = [.int .u64 (x.2.2.2.1.toNat : Int)] := h3; subst e3
  obtain ⟨c4, r4, rfl, h4, h⟩ := h
  have e4 : c4 = [.int .u64 (x.2.2.2.2.1.toNat : Int)] := h4; subst e4
  obtain ⟨c5, r5, rfl, h5, h⟩ := h
  have e5 : c5 = [.int .u64 (x.2.2.2.2.2.1.toNat : Int)] := h5; subst e5
  obtain ⟨c6, r6, rfl, h6, h⟩ := h
  have e6 : c6 = [.int .u64 (x.2.2.2.2.2.2.1.toNat : Int)] := h6; subst e6
  have e7 : r6 = [.int .u64 (x.2.2.2.2.2.2.2.toNat : Int)] := h; subst e7
  rfl
theorem mk_A36 {w : World} {L : List Nat} (a0 : UInt64) (a1 : UInt64) (a2 : UInt64) (a3 : UInt64) (a4 : UInt64) (a5 : UInt64) (a6 : UInt64) (a7 : UInt64) : Rep.R w L [.int .u64 (a0.toNat : Int), .int .u64 (a1.toNat : Int), .int .u64 (a2.toNat : Int), .int .u64 (a3.toNat : Int), .int .u64 (a4.toNat : Int), .int .u64 (a5.toNat : Int), .int .u64 (a6.toNat : Int), .int .u64 (a7.toNat : Int)] ((a0, a1, a2, a3, a4, a5, a6, a7) : UInt64 × UInt64 × UInt64 × UInt64 × UInt64 × UInt64 × UInt64 × UInt64) := ⟨[.int .u64 (a0.toNat : Int)], [.int .u64 (a1.toNat : Int), .int .u64 (a2.toNat : Int), .int .u64 (a3.toNat : Int), .int .u64 (a4.toNat : Int), .int .u64 (a5.toNat : Int), .int .u64 (a6.toNat : Int), .int .u64 (a7.toNat : Int)], rfl, rfl, ⟨[.int .u64 (a1.toNat : Int)], [.int .u64 (a2.toNat : Int), .int .u64 (a3.toNat : Int), .int .u64 (a4.toNat : Int), .int .u64 (a5.toNat : Int), .int .u64 (a6.toNat : Int), .int .u64 (a7.toNat : Int)], rfl, rfl, ⟨[.int .u64 (a2.toNat : Int)], [.int .u64 (a3.toNat : Int), .int .u64 (a4.toNat : Int), .int .u64 (a5.toNat : Int), .int .u64 (a6.toNat : Int), .int .u64 (a7.toNat : Int)], rfl, rfl, ⟨[.int .u64 (a3.toNat : Int)], [.int .u64 (a4.toNat : Int), .int .u64 (a5.toNat : Int), .int .u64 (a6.toNat : Int), .int .u64 (a7.toNat : Int)], rfl, rfl, ⟨[.int .u64 (a4.toNat : Int)], [.int .u64 (a5.toNat : Int), .int .u64 (a6.toNat : Int), .int .u64 (a7.toNat : Int)], rfl, rfl, ⟨[.int .u64 (a5.toNat : Int)], [.int .u64 (a6.toNat : Int), .int .u64 (a7.toNat : Int)], rfl, rfl, ⟨[.int .u64 (a6.toNat : Int)], [.int .u64 (a7.toNat : Int)], rfl, rfl, rfl⟩⟩⟩⟩⟩⟩⟩
theorem body79 : bodyB Tryz.prog 79 = true := by kernel_rfl
theorem body86 : bodyB Tryz.prog 86 = true := by kernel_rfl
theorem body94 : bodyB Tryz.prog 94 = true := by kernel_rfl
theorem ex_A36 {a b : UInt64 × UInt64 × UInt64 × UInt64 × UInt64 × UInt64 × UInt64 × UInt64} (h0 : a.1 = b.1) (h1 : a.2.1 = b.2.1) (h2 : a.2.2.1 = b.2.2.1) (h3 : a.2.2.2.1 = b.2.2.2.1) (h4 : a.2.2.2.2.1 = b.2.2.2.2.1) (h5 : a.2.2.2.2.2.1 = b.2.2.2.2.2.1) (h6 : a.2.2.2.2.2.2.1 = b.2.2.2.2.2.2.1) (h7 : a.2.2.2.2.2.2.2 = b.2.2.2.2.2.2.2) : a = b := Prod.ext h0 (Prod.ext h1 (Prod.ext h2 (Prod.ext h3 (Prod.ext h4 (Prod.ext h5 (Prod.ext h6 (h7)))))))
theorem eqlD_37 (a b : UInt64 × UInt64 × UInt64 × UInt64 × UInt64 × UInt64 × UInt64 × UInt64) (w9 : World) : (do eqGuard .eql 37 (.tmp 0) (.tmp 0) (.agg #[.int .u64 (a.1.toNat : Int), .int .u64 (a.2.1.toNat : Int), .int .u64 (a.2.2.1.toNat : Int), .int .u64 (a.2.2.2.1.toNat : Int), .int .u64 (a.2.2.2.2.1.toNat : Int), .int .u64 (a.2.2.2.2.2.1.toNat : Int), .int .u64 (a.2.2.2.2.2.2.1.toNat : Int), .int .u64 (a.2.2.2.2.2.2.2.toNat : Int)]) (.agg #[.int .u64 (b.1.toNat : Int), .int .u64 (b.2.1.toNat : Int), .int .u64 (b.2.2.1.toNat : Int), .int .u64 (b.2.2.2.1.toNat : Int), .int .u64 (b.2.2.2.2.1.toNat : Int), .int .u64 (b.2.2.2.2.2.1.toNat : Int), .int .u64 (b.2.2.2.2.2.2.1.toNat : Int), .int .u64 (b.2.2.2.2.2.2.2.toNat : Int)]); binOp .eql 37 (.agg #[.int .u64 (a.1.toNat : Int), .int .u64 (a.2.1.toNat : Int), .int .u64 (a.2.2.1.toNat : Int), .int .u64 (a.2.2.2.1.toNat : Int), .int .u64 (a.2.2.2.2.1.toNat : Int), .int .u64 (a.2.2.2.2.2.1.toNat : Int), .int .u64 (a.2.2.2.2.2.2.1.toNat : Int), .int .u64 (a.2.2.2.2.2.2.2.toNat : Int)]) (.agg #[.int .u64 (b.1.toNat : Int), .int .u64 (b.2.1.toNat : Int), .int .u64 (b.2.2.1.toNat : Int), .int .u64 (b.2.2.2.1.toNat : Int), .int .u64 (b.2.2.2.2.1.toNat : Int), .int .u64 (b.2.2.2.2.2.1.toNat : Int), .int .u64 (b.2.2.2.2.2.2.1.toNat : Int), .int .u64 (b.2.2.2.2.2.2.2.toNat : Int)]) : Sem Value).run Tryz.prog w9 = .ok (.bool (decide (a = b))) w9 :=
  eqAgg (ks := [.int .u64, .int .u64, .int .u64, .int .u64, .int .u64, .int .u64, .int .u64, .int .u64]) (xs := [.int .u64 (a.1.toNat : Int), .int .u64 (a.2.1.toNat : Int), .int .u64 (a.2.2.1.toNat : Int), .int .u64 (a.2.2.2.1.toNat : Int), .int .u64 (a.2.2.2.2.1.toNat : Int), .int .u64 (a.2.2.2.2.2.1.toNat : Int), .int .u64 (a.2.2.2.2.2.2.1.toNat : Int), .int .u64 (a.2.2.2.2.2.2.2.toNat : Int)]) (ys := [.int .u64 (b.1.toNat : Int), .int .u64 (b.2.1.toNat : Int), .int .u64 (b.2.2.1.toNat : Int), .int .u64 (b.2.2.2.1.toNat : Int), .int .u64 (b.2.2.2.2.1.toNat : Int), .int .u64 (b.2.2.2.2.2.1.toNat : Int), .int .u64 (b.2.2.2.2.2.2.1.toNat : Int), .int .u64 (b.2.2.2.2.2.2.2.toNat : Int)]) (by kernel_rfl) (by kernel_rfl) (by kernel_rfl) rfl rfl ⟨fun h => by
    simp only [allEq, veq, Bool.and_eq_true, beq_iff_eq, and_true] at h
    obtain ⟨h0, h1, h2, h3, h4, h5, h6, h7⟩ := h
    exact ex_A36 (UInt_inj64 h0) (UInt_inj64 h1) (UInt_inj64 h2) (UInt_inj64 h3) (UInt_inj64 h4) (UInt_inj64 h5) (UInt_inj64 h6) (UInt_inj64 h7), fun h => by subst h; simp [allEq, veq]⟩ _ _ w9
def share_Make_p (n : Nat) (a0 : UInt64 × UInt64 × UInt64 × UInt64 × UInt64 × UInt64 × UInt64 × UInt64) (a1 : UInt64 × UInt64 × UInt64 × UInt64 × UInt64 × UInt64 × UInt64 × UInt64) : Option (TShare × Int) :=
  (if a1 = ((0 : UInt64), (0 : UInt64), (0 : UInt64), (0 : UInt64), (0 : UInt64), (0 : UInt64), (0 : UInt64), (0 : UInt64)) then some ((⟨((0 : UInt64), (0 : UInt64), (0 : UInt64), (0 : UInt64), (0 : UInt64), (0 : UInt64), (0 : UInt64), (0 : UInt64)), ((0 : UInt64), (0 : UInt64), (0 : UInt64), (0 : UInt64), (0 : UInt64), (0 : UInt64), (0 : UInt64), (0 : UInt64))⟩ : TShare), (7 : Int)) else (wide_Longer_p n a0).bind fun y0 => (wide_Longer_p n a1).bind fun y1 => (share_Lowest_p n y0 y1).bind fun y2 => (share_Ratio_Told_p n y2).bind fun y3 => some (y3.1, y3.2))
theorem share_Make_c (n : Nat) (L : List Nat) (w : World) (hL : ∀ b ∈ L, b < w.heap.size) (a0 : UInt64 × UInt64 × UInt64 × UInt64 × UInt64 × UInt64 × UInt64 × UInt64) (a1 : UInt64 × UInt64 × UInt64 × UInt64 × UInt64 × UInt64 × UInt64 × UInt64)  {r : TShare × Int} (h : share_Make_p n a0 a1 = some r) :
    Calls Tryz.prog 73 #[.agg ((cs_A36 a0)).toArray, .agg ((cs_A36 a1)).toArray] w (Gives w fun _ u => u = .tuple #[.agg ((cs_TShare r.1)).toArray, vI r.2]) := by
 unfold share_Make_p at h
 have hS0 := St.start w
 refine MX.start Tryz.func73 rfl rfl rfl (fun _ cs0 hb0 => ?_)
 refine MX.sr <| RG.new .plain rfl (Does.box (vs := (cs_A36 a0)) hS0 rfl rfl) (fun w2 b5 hS3 hT4 => ?_)
 refine RG.new .plain rfl (Does.box (vs := (cs_A36 a1)) hS3 rfl rfl) (fun w7 b0 hS8 hT9 => ?_)
 refine RG.new .plain rfl (Does.alloc (zs := [.int .u64 0, .int .u64 0, .int .u64 0, .int .u64 0, .int .u64 0, .int .u64 0, .int .u64 0, .int .u64 0, .int .u64 0, .int .u64 0, .int .u64 0, .int .u64 0, .int .u64 0, .int .u64 0, .int .u64 0, .int .u64 0]) hS8 (zB (by kernel_rfl))) (fun w0 b1 hS1 hT0 => ?_)
 refine RG.so rfl <| RG.nil <| MX.seq <| MX.sr <| RG.va (FV.lN rfl (hS1.memA (.tl .hd))) <| RG.va (FV.buildV (vs := []) (u := .agg #[.int .u64 0, .int .u64 0, .int .u64 0, .int .u64 0, .int .u64 0, .int .u64 0, .int .u64 0, .int .u64 0]) evs_nil (fun w9 => by kernel_rfl)) ?_
 refine RG.va (FV.eqlV (v := .agg ((cs_A36 a1)).toArray) (u := .agg #[.int .u64 0, .int .u64 0, .int .u64 0, .int .u64 0, .int .u64 0, .int .u64 0, .int .u64 0, .int .u64 0]) rfl rfl (eqlD_37 a1 ((0 : UInt64), (0 : UInt64), (0 : UInt64), (0 : UInt64), (0 : UInt64), (0 : UInt64), (0 : UInt64), (0 : UInt64)))) <| RG.nil <| MX.ifd rfl h (fun c0 h => ?_) (fun c0 h => ?_)
 refine MX.sr <| RG.va (FV.buildV (vs := []) (u := .agg #[.int .u64 0, .int .u64 0, .int .u64 0, .int .u64 0, .int .u64 0, .int .u64 0, .int .u64 0, .int .u64 0, .int .u64 0, .int .u64 0, .int .u64 0, .int .u64 0, .int .u64 0, .int .u64 0, .int .u64 0, .int .u64 0]) evs_nil (fun w9 => by kernel_rfl)) <| RG.now .plain (Acts.storeAll (news := [.int .u64 0, .int .u64 0, .int .u64 0, .int .u64 0, .int .u64 0, .int .u64 0, .int .u64 0, .int .u64 0, .int .u64 0, .int .u64 0, .int .u64 0, .int .u64 0, .int .u64 0, .int .u64 0, .int .u64 0, .int .u64 0]) hS1 .hd rfl rfl rfl rfl rfl rfl (onesB rfl)) (fun w1 hS2 hT1 => ?_)
 refine RG.so rfl <| RG.nil <| MX.ret rfl <| RT.leave hb0 Tryz.func73 rfl (.cons (.many (cs := [.int .u64 0, .int .u64 0, .int .u64 0, .int .u64 0, .int .u64 0, .int .u64 0, .int .u64 0, .int .u64 0, .int .u64 0, .int .u64 0, .int .u64 0, .int .u64 0, .int .u64 0, .int .u64 0, .int .u64 0, .int .u64 0]) (by kernel_rfl) rfl (hS2.memA .hd)) (.cons (.tmp rfl) .nil)) rfl ?_
 cases h
 exact hS2.gv
 refine MX.skip <| MX.seq <| MX.drawT 8 tb73_3 (by kernel_rfl) (by kernel_rfl) (by kernel_rfl) (fun kt0 kp0 => ?_)
 refine RD.vx 0 1 1018 kt0 rfl kp0 (FV.lN rfl (hS1.memA (.tl (.tl .hd)))) rfl <| RD.vx 2 5 1016 kt0 rfl kp0 (FV.lN rfl (hS1.memA (.tl .hd))) rfl ?_
 obtain ⟨y0, hy0, h⟩ := bind_in h
 refine RD.cl 1 7 kt0 rfl .plain body86 rfl (e1 rfl) (fun w9 hw9 => wide_Longer_c n _ w9 (hS1.hL hL hw9) a0 hy0) rfl (fun w3 vu0 hag0 ⟨v0, hu_, hr0⟩ => ?_)
 subst hu_
 obtain ⟨hS4, hT2⟩ := hS1.agr hag0
 obtain ⟨y1, hy1, h⟩ := bind_in h
 refine RD.cl 3 15 kt0 rfl .plain body86 rfl (e1 rfl) (fun w9 hw9 => wide_Longer_c n _ w9 (hS4.hL hL hw9) a1 hy1) rfl (fun w4 vu1 hag1 ⟨v1, hu_, hr1⟩ => ?_)
 subst hu_
 obtain ⟨hS5, hT3⟩ := hS4.agr hag1
 obtain ⟨y2, hy2, h⟩ := bind_in h
 have hm0 := Rep.mv hr0 hT3
 refine RD.cl 4 31 kt0 rfl .plain body94 rfl (e2 rfl rfl) (fun w9 hw9 => share_Lowest_c n _ w9 (hS5.hL hL hw9) y0 (Rep.keep0 hm0 hw9) y1 (Rep.keep0 hr1 hw9) hy2) rfl (fun w5 vu2 hag2 ⟨v2, v3, hu_, hr2, hr3⟩ => ?_)
 subst hu_
 obtain ⟨hS6, hT5⟩ := hS5.agr hag2
 obtain ⟨y3, hy3, h⟩ := bind_in h
 refine RD.cq 5 63 960 (.tuple #[.agg ((cs_TShare y3.1)).toArray, vI y3.2]) kt0 rfl kp0 body79 rfl (e1 rfl) (fun w9 hw9 => share_Ratio_Told_c n _ w9 (hS6.hL0 hL hw9) y2 (hS6.kd hr2 hw9) (hS6.kd hr3 hw9) hy3) rfl <| RD.vw 6 127 kt0 rfl kp0 (fun _ => FV.extract rfl rfl) rfl <| RD.vw 7 255 kt0 rfl kp0 (fun _ => FV.extract rfl rfl) rfl <| RD.nw 8 511 kt0 rfl rfl .plain (Acts.storeAll (news := (cs_TShare y3.1)) hS6 .hd rfl rfl rfl rfl rfl rfl (onesB rfl)) (fun w6 hS7 hT6 => ?_)
 refine RD.one (i := 9) (readyD_ok kt0 (by kernel_rfl)) (RO.val (m' := 1023) (stepC_ok kt0 (by kernel_rfl)) rfl .plain rfl (FV.assign rfl) ?_)
 refine RD.done (doneD_ok kt0 (by kernel_rfl)) <| MX.ret rfl <| RT.leave hb0 Tryz.func73 rfl (.cons (.many (cs := (cs_TShare y3.1)) (by kernel_rfl) rfl (hS7.memA .hd)) (.cons (.tmp rfl) .nil)) rfl ?_
 cases h
 exact hS7.gv
def wide_Of_l1 (_n : Nat) (J0 : Nat × UInt64 × UInt64 × UInt64 × UInt64 × UInt64 × UInt64 × UInt64 × UInt64 → Option (UInt64 × UInt64 × UInt64 × UInt64 × UInt64 × UInt64 × UInt64 × UInt64)) : Nat × UInt64 × UInt64 × UInt64 × UInt64 × UInt64 × UInt64 × UInt64 × UInt64 → Option (UInt64 × UInt64 × UInt64 × UInt64 × UInt64 × UInt64 × UInt64 × UInt64)
  | (i0, u0, u1, u2, u3, u4, u5, u6, u7) => (if i0 < 8 then (([u0, u1, u2, u3, u4, u5, u6, u7] : List UInt64)[i0]?).bind fun z0 => J0 (i0 + 1, setA i0 0 (18446744073709551615 : UInt64) u0, setA i0 1 (18446744073709551615 : UInt64) u1, setA i0 2 (18446744073709551615 : UInt64) u2, setA i0 3 (18446744073709551615 : UInt64) u3, setA i0 4 (18446744073709551615 : UInt64) u4, setA i0 5 (18446744073709551615 : UInt64) u5, setA i0 6 (18446744073709551615 : UInt64) u6, setA i0 7 (18446744073709551615 : UInt64) u7) else some (u0, u1, u2, u3, u4, u5, u6, u7))
def wide_Of_p (n : Nat) (a0 : Int) : Option (UInt64 × UInt64 × UInt64 × UInt64 × UInt64 × UInt64 × UInt64 × UInt64) :=
  (if a0 < 0 then Option.bind (loopF (wide_Of_l1 n) n (1, u64of a0, (0 : UInt64), (0 : UInt64), (0 : UInt64), (0 : UInt64), (0 : UInt64), (0 : UInt64), (0 : UInt64))) (fun (u0, u1, u2, u3, u4, u5, u6, u7) => some (u0, u1, u2, u3, u4, u5, u6, u7)) else some (u64of a0, (0 : UInt64), (0 : UInt64), (0 : UInt64), (0 : UInt64), (0 : UInt64), (0 : UInt64), (0 : UInt64)))
theorem wide_Of_c (n : Nat) (L : List Nat) (w : World) (_hL : ∀ b ∈ L, b < w.heap.size) (a0 : Int)  {r : UInt64 × UInt64 × UInt64 × UInt64 × UInt64 × UInt64 × UInt64 × UInt64} (h : wide_Of_p n a0 = some r) :
    Calls Tryz.prog 74 #[vI a0] w (Gives w fun _ u => u = .agg ((cs_A36 r)).toArray) := by
 unfold wide_Of_p at h
 have hS0 := St.start w
 refine MX.start Tryz.func74 rfl rfl rfl (fun _ cs0 hb0 => ?_)
 refine MX.sr <| RG.new .plain rfl (Does.alloc (zs := [.int .u64 0, .int .u64 0, .int .u64 0, .int .u64 0, .int .u64 0, .int .u64 0, .int .u64 0, .int .u64 0]) hS0 (zB (by kernel_rfl))) (fun w2 b5 hS3 hT4 => ?_)
 refine RG.nil <| MX.sr <| RG.mo rfl <| RG.va (FV.convU (i := a0) Tryz.underlying3 Tryz.underlying35 rfl) <| RG.va (FV.buildV (vs := [.int .u64 ((u64of a0).toNat : Int)]) (u := .agg #[.int .u64 ((u64of a0).toNat : Int), .int .u64 0, .int .u64 0, .int .u64 0, .int .u64 0, .int .u64 0, .int .u64 0, .int .u64 0]) (e1 rfl) (fun w9 => by kernel_rfl)) <| RG.new .plain rfl (Does.alloc (zs := [.int .u64 0, .int .u64 0, .int .u64 0, .int .u64 0, .int .u64 0, .int .u64 0, .int .u64 0, .int .u64 0]) hS3 (zB (by kernel_rfl))) (fun w7 b0 hS8 hT9 => ?_)
 refine RG.now .plain (Acts.storeAll (news := [.int .u64 ((u64of a0).toNat : Int), .int .u64 0, .int .u64 0, .int .u64 0, .int .u64 0, .int .u64 0, .int .u64 0, .int .u64 0]) hS8 .hd rfl rfl rfl rfl rfl rfl (onesB rfl)) (fun w0 hS1 hT0 => ?_)
 refine RG.nil <| MX.seq <| MX.sr <| RG.mo rfl <| RG.va (FV.lss (i := a0) (j := 0) rfl rfl) <| RG.nil ?_
 refine MX.ifd rfl h (fun c0 h => ?_) (fun c0 h => ?_)
 refine MX.sr <| RG.so rfl <| RG.nil <| MX.block ?_
 obtain ⟨o0, ho56, hh58⟩ := bind_in2 h
 refine MX.loop (α := Nat × UInt64 × UInt64 × UInt64 × UInt64 × UInt64 × UInt64 × UInt64 × UInt64) (fun ⟨i0, u0, u1, u2, u3, u4, u5, u6, u7⟩ => [(2, vP b5), (3, vP b0), (4, vI ((i0 : Nat) : Int))]) (fun ⟨i0, u0, u1, u2, u3, u4, u5, u6, u7⟩ wx0 => St w wx0 [.cells b0 [.int .u64 (u0.toNat : Int), .int .u64 (u1.toNat : Int), .int .u64 (u2.toNat : Int), .int .u64 (u3.toNat : Int), .int .u64 (u4.toNat : Int), .int .u64 (u5.toNat : Int), .int .u64 (u6.toNat : Int), .int .u64 (u7.toNat : Int)] 37, .cells b5 [.int .u64 0, .int .u64 0, .int .u64 0, .int .u64 0, .int .u64 0, .int .u64 0, .int .u64 0, .int .u64 0] 37] ∧ Tr w0 [.cells b0 [.int .u64 ((u64of a0).toNat : Int), .int .u64 0, .int .u64 0, .int .u64 0, .int .u64 0, .int .u64 0, .int .u64 0, .int .u64 0] 37, .cells b5 [.int .u64 0, .int .u64 0, .int .u64 0, .int .u64 0, .int .u64 0, .int .u64 0, .int .u64 0, .int .u64 0] 37] wx0 [.cells b0 [.int .u64 (u0.toNat : Int), .int .u64 (u1.toNat : Int), .int .u64 (u2.toNat : Int), .int .u64 (u3.toNat : Int), .int .u64 (u4.toNat : Int), .int .u64 (u5.toNat : Int), .int .u64 (u6.toNat : Int), .int .u64 (u7.toNat : Int)] 37, .cells b5 [.int .u64 0, .int .u64 0, .int .u64 0, .int .u64 0, .int .u64 0, .int .u64 0, .int .u64 0, .int .u64 0] 37]) (fun ⟨i0, u0, u1, u2, u3, u4, u5, u6, u7⟩ => (i0, u0, u1, u2, u3, u4, u5, u6, u7)) (1, u64of a0, (0 : UInt64), (0 : UInt64), (0 : UInt64), (0 : UInt64), (0 : UInt64), (0 : UInt64), (0 : UInt64)) ho56 ⟨rfl, rfl, rfl, trivial⟩ ⟨hS1, Tr.refl _ _⟩ ?_
 rintro J0 ⟨i0, u0, u1, u2, u3, u4, u5, u6, u7⟩ wx0 hJ60 ⟨hS2, hT1⟩ h
 unfold wide_Of_l1 at h
 try dsimp only at h
 refine MX.seq <| MX.sr <| RG.mo rfl <| RG.va (FV.lssN (i := i0) (j := 8) rfl rfl) <| RG.nil <| MX.ifd rfl h (fun c1 h => ?_) (fun c1 h => ?_)
 refine MX.skip <| MX.seq <| MX.block <| MX.region <| RG.mo rfl ?_
 obtain ⟨z0, hz62, h⟩ := bind_in h
 have hm0 := mem_elem1 (p := ⟨b0, 0, none⟩) (cs := ([u0, u1, u2, u3, u4, u5, u6, u7] : List UInt64).map (fun z9 : UInt64 => (.int .u64 (z9.toNat : Int) : Value)) ++ []) (i := i0) (hS2.memA .hd) (arr_get (fun z9 : UInt64 => (.int .u64 (z9.toNat : Int) : Value)) hz62)
 refine RG.va (FV.indexArr (m := 1) (k := i0) (len := 8) (by kernel_rfl) rfl rfl rfl (arr_lt hz62 rfl)) <| RG.now .plain (Acts.storeArr (fun z9 : UInt64 => (.int .u64 (z9.toNat : Int) : Value)) (xs := ([u0, u1, u2, u3, u4, u5, u6, u7] : List UInt64)) (pre := []) (post := []) (i := i0) (m := 8) (x := (18446744073709551615 : UInt64)) (old := [.int .u64 (u0.toNat : Int), .int .u64 (u1.toNat : Int), .int .u64 (u2.toNat : Int), .int .u64 (u3.toNat : Int), .int .u64 (u4.toNat : Int), .int .u64 (u5.toNat : Int), .int .u64 (u6.toNat : Int), .int .u64 (u7.toNat : Int)]) (new' := [.int .u64 ((setA i0 0 (18446744073709551615 : UInt64) u0).toNat : Int), .int .u64 ((setA i0 1 (18446744073709551615 : UInt64) u1).toNat : Int), .int .u64 ((setA i0 2 (18446744073709551615 : UInt64) u2).toNat : Int), .int .u64 ((setA i0 3 (18446744073709551615 : UInt64) u3).toNat : Int), .int .u64 ((setA i0 4 (18446744073709551615 : UInt64) u4).toNat : Int), .int .u64 ((setA i0 5 (18446744073709551615 : UInt64) u5).toNat : Int), .int .u64 ((setA i0 6 (18446744073709551615 : UInt64) u6).toNat : Int), .int .u64 ((setA i0 7 (18446744073709551615 : UInt64) u7).toNat : Int)]) rfl rfl (arr_lt hz62 rfl) hS2 .hd rfl (addr_at _ _ _) rfl (by kernel_rfl) (fun _ => ⟨rfl, rfl⟩) rfl rfl) (fun w1 hS4 hT2 => ?_)
 refine RG.nil <| MX.inBlock <| MX.region <| RG.mo rfl <| RG.va (FV.addN (i := i0) (j := 1) rfl rfl (by omega)) <| RG.so rfl ?_
 refine RG.nil ?_
 exact hJ60 (i0 + 1, setA i0 0 (18446744073709551615 : UInt64) u0, setA i0 1 (18446744073709551615 : UInt64) u1, setA i0 2 (18446744073709551615 : UInt64) u2, setA i0 3 (18446744073709551615 : UInt64) u3, setA i0 4 (18446744073709551615 : UInt64) u4, setA i0 5 (18446744073709551615 : UInt64) u5, setA i0 6 (18446744073709551615 : UInt64) u6, setA i0 7 (18446744073709551615 : UInt64) u7) _ _ ⟨rfl, rfl, rfl, trivial⟩ ⟨hS4, (Tr.trans hT1 hT2)⟩ h
 refine MX.exit rfl ?_
 have h := hh58 _ h
 try dsimp only at h
 refine MX.sr <| RG.va (FV.lN rfl (hS2.memA .hd)) <| RG.now .plain (Acts.storeAll (news := [.int .u64 (u0.toNat : Int), .int .u64 (u1.toNat : Int), .int .u64 (u2.toNat : Int), .int .u64 (u3.toNat : Int), .int .u64 (u4.toNat : Int), .int .u64 (u5.toNat : Int), .int .u64 (u6.toNat : Int), .int .u64 (u7.toNat : Int)]) hS2 (.tl .hd) rfl rfl rfl rfl rfl rfl (onesB rfl)) (fun w3 hS5 hT3 => ?_)
 refine RG.nil <| MX.ret rfl <| RT.leave hb0 Tryz.func74 rfl (.cons (.many (cs := [.int .u64 (u0.toNat : Int), .int .u64 (u1.toNat : Int), .int .u64 (u2.toNat : Int), .int .u64 (u3.toNat : Int), .int .u64 (u4.toNat : Int), .int .u64 (u5.toNat : Int), .int .u64 (u6.toNat : Int), .int .u64 (u7.toNat : Int)]) (by kernel_rfl) rfl (hS5.memA (.tl .hd))) .nil) rfl ?_
 cases h
 exact hS5.gv
 refine MX.skip <| MX.sr <| RG.va (FV.lN rfl (hS1.memA .hd)) <| RG.now .plain (Acts.storeAll (news := [.int .u64 ((u64of a0).toNat : Int), .int .u64 0, .int .u64 0, .int .u64 0, .int .u64 0, .int .u64 0, .int .u64 0, .int .u64 0]) hS1 (.tl .hd) rfl rfl rfl rfl rfl rfl (onesB rfl)) (fun w4 hS6 hT5 => ?_)
 refine RG.nil <| MX.ret rfl <| RT.leave hb0 Tryz.func74 rfl (.cons (.many (cs := [.int .u64 ((u64of a0).toNat : Int), .int .u64 0, .int .u64 0, .int .u64 0, .int .u64 0, .int .u64 0, .int .u64 0, .int .u64 0]) (by kernel_rfl) rfl (hS6.memA (.tl .hd))) .nil) rfl ?_
 cases h
 exact hS6.gv
theorem body73 : bodyB Tryz.prog 73 = true := by kernel_rfl
theorem body74 : bodyB Tryz.prog 74 = true := by kernel_rfl
def share_Of_p (n : Nat) (a0 : Int) (a1 : Int) : Option (TShare × Int) :=
  (wide_Of_p n a0).bind fun y6 => (wide_Of_p n a1).bind fun y7 => (share_Make_p n y6 y7).bind fun y8 => some (y8.1, y8.2)
theorem share_Of_c (n : Nat) (L : List Nat) (w : World) (hL : ∀ b ∈ L, b < w.heap.size) (a0 : Int) (a1 : Int)  {r : TShare × Int} (h : share_Of_p n a0 a1 = some r) :
    Calls Tryz.prog 44 #[vI a0, vI a1] w (Gives w fun _ u => u = .tuple #[.agg ((cs_TShare r.1)).toArray, vI r.2]) := by
 unfold share_Of_p at h
 have hS0 := St.start w
 refine MX.start Tryz.func44 rfl rfl rfl (fun _ cs0 hb0 => ?_)
 refine MX.sr <| RG.new .plain rfl (Does.alloc (zs := [.int .u64 0, .int .u64 0, .int .u64 0, .int .u64 0, .int .u64 0, .int .u64 0, .int .u64 0, .int .u64 0, .int .u64 0, .int .u64 0, .int .u64 0, .int .u64 0, .int .u64 0, .int .u64 0, .int .u64 0, .int .u64 0]) hS0 (zB (by kernel_rfl))) (fun w2 b5 hS3 hT4 => ?_)
 refine RG.so rfl <| RG.nil <| MX.sr <| RG.mo rfl ?_
 obtain ⟨y6, hy6, h⟩ := bind_in h
 refine RG.cq (.agg ((cs_A36 y6)).toArray) body74 rfl (e1 rfl) (fun w9 hw9 => wide_Of_c n _ w9 (hS3.hL0 hL hw9) a0 hy6) rfl <| RG.mo rfl ?_
 obtain ⟨y7, hy7, h⟩ := bind_in h
 refine RG.cq (.agg ((cs_A36 y7)).toArray) body74 rfl (e1 rfl) (fun w9 hw9 => wide_Of_c n _ w9 (hS3.hL0 hL hw9) a1 hy7) rfl ?_
 obtain ⟨y8, hy8, h⟩ := bind_in h
 refine RG.cq (.tuple #[.agg ((cs_TShare y8.1)).toArray, vI y8.2]) body73 rfl (e2 rfl rfl) (fun w9 hw9 => share_Make_c n _ w9 (hS3.hL0 hL hw9) y6 y7 hy8) rfl <| RG.va (FV.extract rfl rfl) <| RG.va (FV.extract rfl rfl) <| RG.now .plain (Acts.storeAll (news := (cs_TShare y8.1)) hS3 .hd rfl rfl rfl rfl rfl rfl (onesB rfl)) (fun w9 hS1 hT0 => ?_)
 refine RG.so rfl <| RG.nil <| MX.ret rfl <| RT.leave hb0 Tryz.func44 rfl (.cons (.many (cs := (cs_TShare y8.1)) (by kernel_rfl) rfl (hS1.memA .hd)) (.cons (.tmp rfl) .nil)) rfl ?_
 cases h
 exact hS1.gv
theorem body24 : bodyB Tryz.prog 24 = true := by kernel_rfl
theorem body44 : bodyB Tryz.prog 44 = true := by kernel_rfl
def minority_of_p (n : Nat) (a0 : Int) (a1 : Int) : Option (Except Tbroken TShare) :=
  (share_Of_p n a0 a1).bind fun y6 => (minority_must_api_Share_p n y6.1 y6.2).bind fun y7 => exc y7 (fun y9 => some (.ok y9)) (fun e8 => some (.error e8))
theorem minority_of_c (n : Nat) (L : List Nat) (w : World) (hL : ∀ b ∈ L, b < w.heap.size) (a0 : Int) (a1 : Int)  {r : Except Tbroken TShare} (h : minority_of_p n a0 a1 = some r) :
    Calls Tryz.prog 27 #[vI a0, vI a1] w (PGives w (fun (y : TShare) _ u => u = .agg ((cs_TShare y)).toArray) (fun e => .iface 93 (.agg #[vI e.fErrno])) r) := by
 unfold minority_of_p at h
 have hS0 := St.start w
 refine MX.startP Tryz.func27 rfl rfl rfl (fun _ cs0 hb0 hp0 => ?_)
 refine MX.sr <| RG.new .plain rfl (Does.alloc (zs := [.int .u64 0, .int .u64 0, .int .u64 0, .int .u64 0, .int .u64 0, .int .u64 0, .int .u64 0, .int .u64 0, .int .u64 0, .int .u64 0, .int .u64 0, .int .u64 0, .int .u64 0, .int .u64 0, .int .u64 0, .int .u64 0]) hS0 (zB (by kernel_rfl))) (fun w2 b5 hS3 hT4 => ?_)
 refine RG.nil <| MX.sr <| RG.mo rfl <| RG.mo rfl ?_
 obtain ⟨y6, hy6, h⟩ := bind_in h
 refine RG.cq (.tuple #[.agg ((cs_TShare y6.1)).toArray, vI y6.2]) body44 rfl (e2 rfl rfl) (fun w9 hw9 => share_Of_c n _ w9 (hS3.hL0 hL hw9) a0 a1 hy6) rfl <| RG.va (FV.extract rfl rfl) <| RG.va (FV.extract rfl rfl) ?_
 obtain ⟨y7, hy7, h⟩ := bind_in h
 rcases y7 with e8 | y9
 have h := exc_e h
 try dsimp only at h
 refine RG.callE (fst := []) (cap := []) .plain body24 rfl (e2 rfl rfl) (fun w9 hw9 => minority_must_api_Share_c n _ w9 (hS3.hL0 hL hw9) y6.1 y6.2 hy7) (fun w0 hag0 => ?_)
 obtain ⟨hS1, hT0⟩ := hS3.agr hag0
 cases h
 exact PN.leave hp0 Tryz.func27 ⟨hS1.ag, rfl⟩
 have h := exc_o h
 try dsimp only at h
 refine RG.cq (.agg ((cs_TShare y9)).toArray) body24 rfl (e2 rfl rfl) (fun w9 hw9 => Calls.okp (minority_must_api_Share_c n _ w9 (hS3.hL0 hL hw9) y6.1 y6.2 hy7)) rfl <| RG.now .plain (Acts.storeAll (news := (cs_TShare y9)) hS3 .hd rfl rfl rfl rfl rfl rfl (onesB rfl)) (fun w1 hS2 hT1 => ?_)
 refine RG.nil <| MX.ret rfl <| RT.leave hb0 Tryz.func27 rfl (.cons (.many (cs := (cs_TShare y9)) (by kernel_rfl) rfl (hS2.memA .hd)) .nil) rfl ?_
 cases h
 exact ⟨hS2.ag, fun w9 hw9 => okOf_in rfl⟩
theorem body27 : bodyB Tryz.prog 27 = true := by kernel_rfl
def minority_part_share_p (n : Nat) (a0 : Tpart) : Option (Except Tbroken TShare) :=
  (if a0.fall = 0 then (minority_of_p n (0 : Int) (1 : Int)).bind fun y0 => exc y0 (fun y1 => some (.ok y1)) (fun e0 => some (.error e0)) else (minority_of_p n a0.fgroup a0.fall).bind fun y2 => exc y2 (fun y3 => some (.ok y3)) (fun e1 => some (.error e1)))
theorem minority_part_share_c (n : Nat) (L : List Nat) (w : World) (hL : ∀ b ∈ L, b < w.heap.size) (a0 : Tpart)  {r : Except Tbroken TShare} (h : minority_part_share_p n a0 = some r) :
    Calls Tryz.prog 20 #[.agg #[vI a0.fgroup, vI a0.fall]] w (PGives w (fun (y : TShare) _ u => u = .agg ((cs_TShare y)).toArray) (fun e => .iface 93 (.agg #[vI e.fErrno])) r) := by
 unfold minority_part_share_p at h
 have hS0 := St.start w
 refine MX.startP Tryz.func20 rfl rfl rfl (fun _ cs0 hb0 hp0 => ?_)
 refine MX.sr <| RG.new .plain rfl (Does.box (vs := [vI a0.fgroup, vI a0.fall]) hS0 rfl rfl) (fun w2 b5 hS3 hT4 => ?_)
 refine RG.new .plain rfl (Does.alloc (zs := [.int .u64 0, .int .u64 0, .int .u64 0, .int .u64 0, .int .u64 0, .int .u64 0, .int .u64 0, .int .u64 0, .int .u64 0, .int .u64 0, .int .u64 0, .int .u64 0, .int .u64 0, .int .u64 0, .int .u64 0, .int .u64 0]) hS3 (zB (by kernel_rfl))) (fun w7 b0 hS8 hT9 => ?_)
 refine RG.nil <| MX.seq <| MX.sr <| RG.fa 1 rfl <| RG.l1 rfl ((hS8.memA (.tl .hd)) 1 _ rfl) <| RG.va (FV.eql (i := a0.fall) (j := 0) rfl rfl) ?_
 refine RG.nil <| MX.ifd rfl h (fun c0 h => ?_) (fun c0 h => ?_)
 refine MX.sr ?_
 obtain ⟨y0, hy0, h⟩ := bind_in h
 rcases y0 with e0 | y1
 have h := exc_e h
 try dsimp only at h
 refine RG.callE (fst := []) (cap := []) .plain body27 rfl (e2 rfl rfl) (fun w9 hw9 => minority_of_c n _ w9 (hS8.hL0 hL hw9) (0 : Int) (1 : Int) hy0) (fun w0 hag0 => ?_)
 obtain ⟨hS1, hT0⟩ := hS8.agr hag0
 cases h
 exact PN.leave hp0 Tryz.func20 ⟨hS1.ag, rfl⟩
 have h := exc_o h
 try dsimp only at h
 refine RG.cq (.agg ((cs_TShare y1)).toArray) body27 rfl (e2 rfl rfl) (fun w9 hw9 => Calls.okp (minority_of_c n _ w9 (hS8.hL0 hL hw9) (0 : Int) (1 : Int) hy0)) rfl <| RG.now .plain (Acts.storeAll (news := (cs_TShare y1)) hS8 .hd rfl rfl rfl rfl rfl rfl (onesB rfl)) (fun w1 hS2 hT1 => ?_)
 refine RG.nil <| MX.ret rfl <| RT.leave hb0 Tryz.func20 rfl (.cons (.many (cs := (cs_TShare y1)) (by kernel_rfl) rfl (hS2.memA .hd)) .nil) rfl ?_
 cases h
 exact ⟨hS2.ag, fun w9 hw9 => okOf_in rfl⟩
 refine MX.skip <| MX.sr <| RG.fa 0 rfl <| RG.l1 rfl ((hS8.memA (.tl .hd)) 0 _ rfl) <| RG.fa 1 rfl <| RG.l1 rfl ((hS8.memA (.tl .hd)) 1 _ rfl) ?_
 obtain ⟨y2, hy1, h⟩ := bind_in h
 rcases y2 with e1 | y3
 have h := exc_e h
 try dsimp only at h
 refine RG.callE (fst := []) (cap := []) .plain body27 rfl (e2 rfl rfl) (fun w9 hw9 => minority_of_c n _ w9 (hS8.hL0 hL hw9) a0.fgroup a0.fall hy1) (fun w3 hag1 => ?_)
 obtain ⟨hS4, hT2⟩ := hS8.agr hag1
 cases h
 exact PN.leave hp0 Tryz.func20 ⟨hS4.ag, rfl⟩
 have h := exc_o h
 try dsimp only at h
 refine RG.cq (.agg ((cs_TShare y3)).toArray) body27 rfl (e2 rfl rfl) (fun w9 hw9 => Calls.okp (minority_of_c n _ w9 (hS8.hL0 hL hw9) a0.fgroup a0.fall hy1)) rfl <| RG.now .plain (Acts.storeAll (news := (cs_TShare y3)) hS8 .hd rfl rfl rfl rfl rfl rfl (onesB rfl)) (fun w4 hS5 hT3 => ?_)
 refine RG.nil <| MX.ret rfl <| RT.leave hb0 Tryz.func20 rfl (.cons (.many (cs := (cs_TShare y3)) (by kernel_rfl) rfl (hS5.memA .hd)) .nil) rfl ?_
 cases h
 exact ⟨hS5.ag, fun w9 hw9 => okOf_in rfl⟩
theorem op_TShare {w : World} {L : List Nat} {cs : List Value} {x : TShare} (h : Rep.R w L cs x) : cs = [.int .u64 (x.fN.1.toNat : Int), .int .u64 (x.fN.2.1.toNat : Int), .int .u64 (x.fN.2.2.1.toNat : Int), .int .u64 (x.fN.2.2.2.1.toNat : Int), .int .u64 (x.fN.2.2.2.2.1.toNat : Int), .int .u64 (x.fN.2.2.2.2.2.1.toNat : Int), .int .u64 (x.fN.2.2.2.2.2.2.1.toNat : Int), .int .u64 (x.fN.2.2.2.2.2.2.2.toNat : Int), .int .u64 (x.fD.1.toNat : Int), .int .u64 (x.fD.2.1.toNat : Int), .int .u64 (x.fD.2.2.1.toNat : Int), .int .u64 (x.fD.2.2.2.1.toNat : Int), .int .u64 (x.fD.2.2.2.2.1.toNat : Int), .int .u64 (x.fD.2.2.2.2.2.1.toNat : Int), .int .u64 (x.fD.2.2.2.2.2.2.1.toNat : Int), .int .u64 (x.fD.2.2.2.2.2.2.2.toNat : Int)] := by
  obtain ⟨c0, r0, rfl, h0, h⟩ := h
  obtain rfl := op_A36 (x := x.fN) h0
  obtain rfl := op_A36 (x := x.fD) h
  rfl
theorem mk_TShare {w : World} {L : List Nat} (a0 : UInt64 × UInt64 × UInt64 × UInt64 × UInt64 × UInt64 × UInt64 × UInt64) (a1 : UInt64 × UInt64 × UInt64 × UInt64 × UInt64 × UInt64 × UInt64 × UInt64) : Rep.R w L [.int .u64 (a0.1.toNat : Int), .int .u64 (a0.2.1.toNat : Int), .int .u64 (a0.2.2.1.toNat : Int), .int .u64 (a0.2.2.2.1.toNat : Int), .int .u64 (a0.2.2.2.2.1.toNat : Int), .int .u64 (a0.2.2.2.2.2.1.toNat : Int), .int .u64 (a0.2.2.2.2.2.2.1.toNat : Int), .int .u64 (a0.2.2.2.2.2.2.2.toNat : Int), .int .u64 (a1.1.toNat : Int), .int .u64 (a1.2.1.toNat : Int), .int .u64 (a1.2.2.1.toNat : Int), .int .u64 (a1.2.2.2.1.toNat : Int), .int .u64 (a1.2.2.2.2.1.toNat : Int), .int .u64 (a1.2.2.2.2.2.1.toNat : Int), .int .u64 (a1.2.2.2.2.2.2.1.toNat : Int), .int .u64 (a1.2.2.2.2.2.2.2.toNat : Int)] (⟨a0, a1⟩ : TShare) := ⟨[.int .u64 (a0.1.toNat : Int), .int .u64 (a0.2.1.toNat : Int), .int .u64 (a0.2.2.1.toNat : Int), .int .u64 (a0.2.2.2.1.toNat : Int), .int .u64 (a0.2.2.2.2.1.toNat : Int), .int .u64 (a0.2.2.2.2.2.1.toNat : Int), .int .u64 (a0.2.2.2.2.2.2.1.toNat : Int), .int .u64 (a0.2.2.2.2.2.2.2.toNat : Int)], [.int .u64 (a1.1.toNat : Int), .int .u64 (a1.2.1.toNat : Int), .int .u64 (a1.2.2.1.toNat : Int), .int .u64 (a1.2.2.2.1.toNat : Int), .int .u64 (a1.2.2.2.2.1.toNat : Int), .int .u64 (a1.2.2.2.2.2.1.toNat : Int), .int .u64 (a1.2.2.2.2.2.2.1.toNat : Int), .int .u64 (a1.2.2.2.2.2.2.2.toNat : Int)], rfl, mk_A36 a0.1 a0.2.1 a0.2.2.1 a0.2.2.2.1 a0.2.2.2.2.1 a0.2.2.2.2.2.1 a0.2.2.2.2.2.2.1 a0.2.2.2.2.2.2.2, mk_A36 a1.1 a1.2.1 a1.2.2.1 a1.2.2.2.1 a1.2.2.2.2.1 a1.2.2.2.2.2.1 a1.2.2.2.2.2.2.1 a1.2.2.2.2.2.2.2⟩
theorem el31 : ElT Tryz.prog 31 39 (Rep.size TShare) 128 (.agg #[.int .u64 0, .int .u64 0, .int .u64 0, .int .u64 0, .int .u64 0, .int .u64 0, .int .u64 0, .int .u64 0, .int .u64 0, .int .u64 0, .int .u64 0, .int .u64 0, .int .u64 0, .int .u64 0, .int .u64 0, .int .u64 0]) [.int .u64 0, .int .u64 0, .int .u64 0, .int .u64 0, .int .u64 0, .int .u64 0, .int .u64 0, .int .u64 0, .int .u64 0, .int .u64 0, .int .u64 0, .int .u64 0, .int .u64 0, .int .u64 0, .int .u64 0, .int .u64 0] := ⟨Tryz.underlying31, by kernel_rfl, rfl, rfl, rfl, rfl⟩
theorem body19 : bodyB Tryz.prog 19 = true := by kernel_rfl
theorem body20 : bodyB Tryz.prog 20 = true := by kernel_rfl
def minority_Shares_1_l1 (n : Nat) (y3 : List Tpart) (J0 : Nat × (List TShare) → Option ((Except Tbroken (List TShare)) ⊕ (List TShare))) : Nat × (List TShare) → Option ((Except Tbroken (List TShare)) ⊕ (List TShare))
  | (i0, xs0) => (if i0 < y3.length then (y3[i0]?).bind fun x0 => (minority_part_share_p n x0).bind fun y0 => exc y0 (fun y1 => (app xs0 ([y1] : List TShare)).bind fun xs1 => J0 (i0 + 1, xs1)) (fun e0 => some (.inl (.error e0))) else some (.inr xs0))
def minority_Shares_1_p (n : Nat) (a0 : TRoll) (a1 : List Int) (a2 : Int) (a3 : Int) : Option (Except Tbroken (List TShare)) :=
  (minority_grouped_p n a0 a1 a2 a3).bind fun y1 => exc y1 (fun y3 => thn (loopF (minority_Shares_1_l1 n y3) n (0, ([] : List TShare))) (fun xs0 => some (.ok xs0))) (fun e2 => some (.error e2))
theorem minority_Shares_1_c (n : Nat) (L : List Nat) (w : World) (hL : ∀ b ∈ L, b < w.heap.size) (a0 : TRoll) {v0_3 : Value} (h0_3 : Rep.R w L [v0_3] a0.fUnits) {p0 : Nat} (m0 : ∀ j9 v9, ([vI a0.fGroups, vI a0.fParties, vI a0.fLevels, v0_3] : List Value)[j9]? = some v9 → w.cell? ((⟨p0, 0, none⟩ : Addr).add j9) = some v9) (a1 : List Int) {v1_0 : Value} (h1_0 : Rep.R w L [v1_0] a1) {p1 : Nat} (m1 : ∀ j9 v9, ([v1_0] : List Value)[j9]? = some v9 → w.cell? ((⟨p1, 0, none⟩ : Addr).add j9) = some v9) (a2 : Int) {p2 : Nat} (m2 : ∀ j9 v9, ([vI a2] : List Value)[j9]? = some v9 → w.cell? ((⟨p2, 0, none⟩ : Addr).add j9) = some v9) (a3 : Int) {p3 : Nat} (m3 : ∀ j9 v9, ([vI a3] : List Value)[j9]? = some v9 → w.cell? ((⟨p3, 0, none⟩ : Addr).add j9) = some v9)  {r : Except Tbroken (List TShare)} (h : minority_Shares_1_p n a0 a1 a2 a3 = some r) :
    Calls Tryz.prog 18 #[.pointer (some ⟨p0, 0, none⟩), .pointer (some ⟨p1, 0, none⟩), .pointer (some ⟨p2, 0, none⟩), .pointer (some ⟨p3, 0, none⟩)] w (PGives w (fun (y : List TShare) w' u => ∃ v0_0 : Value, u = v0_0 ∧ Rep.R w' L [v0_0] y) (fun e => .iface 93 (.agg #[vI e.fErrno])) r) := by
 unfold minority_Shares_1_p at h
 have hS0 := St.start w
 refine MX.startP Tryz.func18 rfl rfl rfl (fun _ cs0 hb0 hp0 => ?_)
 refine MX.sr <| RG.so rfl <| RG.nil <| MX.seq <| MX.sr <| RG.va (FV.lN rfl (fun j9 v9 h9 => hS0.ag.cell0 (m0 j9 v9 h9))) ?_
 refine RG.l1 rfl ((fun j9 v9 h9 => hS0.ag.cell0 (m1 j9 v9 h9)) 0 _ rfl) <| RG.l1 rfl ((fun j9 v9 h9 => hS0.ag.cell0 (m2 j9 v9 h9)) 0 _ rfl) <| RG.l1 rfl ((fun j9 v9 h9 => hS0.ag.cell0 (m3 j9 v9 h9)) 0 _ rfl) ?_
 obtain ⟨y1, hy1, h⟩ := bind_in h
 rcases y1 with e2 | y3
 have h := exc_e h
 try dsimp only at h
 refine RG.callE (fst := []) (cap := []) .plain body19 rfl (e4 rfl rfl rfl rfl) (fun w9 hw9 => minority_grouped_c n _ w9 (hS0.hL hL hw9) a0 (Rep.keep0 h0_3 hw9) a1 (Rep.keep0 h1_0 hw9) a2 a3 hy1) (fun w4 hag5 => ?_)
 obtain ⟨hS6, hT7⟩ := hS0.agr hag5
 cases h
 exact PN.leave hp0 Tryz.func18 ⟨hS6.ag, rfl⟩
 have h := exc_o h
 try dsimp only at h
 refine RG.call' (fst := []) (cap := []) .plain body19 rfl (e4 rfl rfl rfl rfl) (fun w9 hw9 => Calls.okp (minority_grouped_c n _ w9 (hS0.hL hL hw9) a0 (Rep.keep0 h0_3 hw9) a1 (Rep.keep0 h1_0 hw9) a2 a3 hy1)) rfl (fun w9 vu0 hag0 ⟨v0, hu_, hr0⟩ => ?_)
 subst hu_
 obtain ⟨hS1, hT0⟩ := hS0.agr hag0
 have hl16 : y3.length ≤ 281474976710656 := Rep.lenle hr0
 refine RG.va (FV.len (xs := y3) Tryz.underlying59 rfl hr0) <| RG.mo rfl <| RG.nil <| MX.block ?_
 have hS2 := hS1.nilRow 39 (Rep.size TShare)
 have hT1 := St.nilRowT hS1 39 (Rep.size TShare)
 have hc0 := Cells.at_ (cs := []) (xs := ([] : List TShare)) hS2 L (Cells.nil _ _)
 obtain ⟨o0, ho118, hh120⟩ := thn_in h
 refine MX.loop (α := Nat × (List TShare) × Value × (List Value)) (fun ⟨i0, xs0, v1, cs1⟩ => [(4, v1), (11, vu0), (12, vI ((y3.length : Nat) : Int)), (13, vI ((i0 : Nat) : Int))]) (fun ⟨i0, xs0, v1, cs1⟩ wx0 => St w wx0 [.row w.heap.size 39 (Rep.size TShare) v1 xs0.length cs1] ∧ Tr w9 [.row w.heap.size 39 (Rep.size TShare) vN (([] : List TShare).length) []] wx0 [.row w.heap.size 39 (Rep.size TShare) v1 xs0.length cs1] ∧ Cells wx0 (bl [.row w.heap.size 39 (Rep.size TShare) v1 xs0.length cs1] ++ L) cs1 xs0) (fun ⟨i0, xs0, v1, cs1⟩ => (i0, xs0)) (0, ([] : List TShare), vN, []) ho118 ⟨rfl, rfl, rfl, rfl, trivial⟩ ⟨hS2, Tr.refl _ _, hc0⟩ ?_
 rintro J0 ⟨i0, xs0, v1, cs1⟩ wx0 hJ122 ⟨hS3, hT2, hc1⟩ h
 unfold minority_Shares_1_l1 at h
 try dsimp only at h
 refine MX.sr <| RG.va (FV.lssN (i := i0) (j := y3.length) rfl rfl) <| RG.nil <| MX.seq <| MX.ifd rfl h (fun c0 h => ?_) (fun c0 h => ?_)
 refine MX.skip <| MX.seq <| MX.block <| MX.sr ?_
 obtain ⟨x0, hx0, h⟩ := bind_in h
 have hm0 := Rep.mv hr0 (Tr.trans hT1 hT2)
 obtain ⟨A125, c1, he0, hk0, cs2, hr1, hm1⟩ := Rep.nth hm0 hx0
 obtain rfl := op_Tpart hr1
 refine RG.va (FV.ia 2 i0 rfl he0 rfl rfl hk0) <| RG.va (FV.lN rfl hm1) <| RG.new .plain rfl (Does.alloc (zs := [vI 0, vI 0]) hS3 (zB (by kernel_rfl))) (fun w0 b0 hS4 hT3 => ?_)
 refine RG.now .plain (Acts.storeAll (news := [vI x0.fgroup, vI x0.fall]) hS4 .hd rfl rfl rfl rfl rfl rfl (onesB rfl)) (fun w1 hS5 hT4 => ?_)
 refine RG.nil <| MX.region <| RG.mo rfl <| RG.va (FV.lN rfl (hS5.memA .hd)) ?_
 obtain ⟨y0, hy0, h⟩ := bind_in h
 rcases y0 with e0 | y2
 have h := exc_e h
 try dsimp only at h
 have h := thn_inl h hh120
 refine RG.callE (fst := []) (cap := []) .plain body20 rfl (e1 rfl) (fun w9 hw9 => minority_part_share_c n _ w9 (hS5.hL0 hL hw9) x0 hy0) (fun w2 hag1 => ?_)
 obtain ⟨hS7, hT5⟩ := hS5.agr hag1
 cases h
 exact PN.leave hp0 Tryz.func18 ⟨hS7.ag, rfl⟩
 have h := exc_o h
 try dsimp only at h
 refine RG.cq (.agg ((cs_TShare y2)).toArray) body20 rfl (e1 rfl) (fun w9 hw9 => Calls.okp (minority_part_share_c n _ w9 (hS5.hL0 hL hw9) x0 hy0)) rfl <| RG.new .plain rfl (Does.build (α := TShare) (xs := ([y2] : List TShare)) (vs := [.agg ((cs_TShare y2)).toArray]) (ds' := (cs_TShare y2)) rfl hS5 el31 rfl (e1 rfl) (by kernel_rfl) rfl) (fun w3 b1 hS8 hT6 => ?_)
 have hc2 := Cells.at_ (cs := (cs_TShare y2)) (xs := (([y2] : List TShare) : List TShare)) hS8 L (Cells.cons (cs := (cs_TShare y2)) (ds := []) (mk_TShare y2.fN y2.fD) (Cells.nil _ _))
 obtain ⟨xs1, hxs155, h⟩ := bind_in h
 have hq156 := Tr.trans hT3 (Tr.trans hT4 hT6)
 have hm2 := Cells.mv hc1 hq156
 refine RG.doesL .plain rfl (DoesL.app (α := TShare) (ys := ([y2] : List TShare)) hxs155 hS8 (fun _ _ => (.tl (.tl .hd))) el31 rfl rfl hm2 (Src.row (α := TShare) hS8 .hd hc2)) (fun v2 w5 ⟨cs3, hS9, hT8, hc3⟩ => ?_)
 refine RG.so rfl <| RG.nil <| MX.inBlock <| MX.region <| RG.va (FV.addN (i := i0) (j := 1) rfl rfl (by omega)) <| RG.mo rfl ?_
 refine RG.nil ?_
 obtain ⟨hS10, hT9⟩ := St.arrB hS9 (.one (.tl (.tl .hd)) .done)
 have hm3 := Cells.mv hc3 hT9
 have hq168 := Tr.trans hq156 (Tr.trans hT8 hT9)
 exact hJ122 (i0 + 1, xs1, v2, cs3) _ _ ⟨rfl, rfl, rfl, rfl, trivial⟩ ⟨hS10, (Tr.trans hT2 hq168), hm3⟩ h
 refine MX.exit rfl ?_
 have h := thn_inr h hh120
 try dsimp only at h
 refine MX.sr <| RG.mo rfl <| RG.so rfl <| RG.nil <| MX.ret rfl ?_
 have hr2 := St.freeze (α := TShare) hS3 .hd hc1 hL
 have hS11 := St.delS hS3 .hd
 have hT10 := St.delT hS3 .hd
 have hr3 := Rep.at_ (α := TShare) (v := v1) (xs := xs0) hS11 L hr2
 refine RT.t1 hb0 Tryz.func18 rfl rfl ?_
 cases h
 exact ⟨hS11.ag, fun w9 hw9 => okOf_in ⟨v1, rfl, hS11.kd hr3 hw9⟩⟩
def tb48_6 : List (Nat × Nat × Nat) := [(0, 131072, 32), (0, 262144, 8), (2, 524288, 262144), (1, 0, 131073), (15, 0, 524290)]
theorem body17 : bodyB Tryz.prog 17 = true := by kernel_rfl
theorem body18 : bodyB Tryz.prog 18 = true := by kernel_rfl
theorem body48 : bodyB Tryz.prog 48 = true := by kernel_rfl
def minority_Shares_p (n : Nat) (a0 : TRoll) (a1 : List Int) (a2 : Int) (a3 : Int) : Option ((List TShare) × Int) :=
  (minority_Shares_1_p n a0 a1 a2 a3).bind fun y0 => exc y0 (fun y1 => some (y1, (0 : Int))) (fun e0 => some (([] : List TShare), e0.fErrno))
theorem minority_Shares_c (n : Nat) (L : List Nat) (w : World) (hL : ∀ b ∈ L, b < w.heap.size) (a0 : TRoll) {v0_3 : Value} (h0_3 : Rep.R w L [v0_3] a0.fUnits) (a1 : List Int) {v1_0 : Value} (h1_0 : Rep.R w L [v1_0] a1) (a2 : Int) (a3 : Int)  {r : (List TShare) × Int} (h : minority_Shares_p n a0 a1 a2 a3 = some r) :
    Calls Tryz.prog 6 #[.agg #[vI a0.fGroups, vI a0.fParties, vI a0.fLevels, v0_3], v1_0, vI a2, vI a3] w (Gives w fun w' u => ∃ v0_0 : Value, u = .tuple #[v0_0, vI r.2] ∧ Rep.R w' L [v0_0] r.1) := by
 unfold minority_Shares_p at h
 have hS0 := St.start w
 refine MX.start Tryz.func6 rfl rfl rfl (fun _ cs0 hb0 => ?_)
 refine MX.sr <| RG.new .plain rfl (Does.box (vs := [vI a0.fGroups, vI a0.fParties, vI a0.fLevels, v0_3]) hS0 rfl rfl) (fun w2 b5 hS3 hT4 => ?_)
 have hm7 := Rep.mv0 h1_0 hS3
 refine RG.new .plain rfl (Does.box (vs := [v1_0]) hS3 rfl (Rep.c1 hm7)) (fun w8 b0 hS9 hT0 => ?_)
 refine RG.new .plain rfl (Does.box (vs := [vI a2]) hS9 rfl rfl) (fun w0 b1 hS1 hT1 => ?_)
 refine RG.new .plain rfl (Does.box (vs := [vI a3]) hS1 rfl rfl) (fun w1 b2 hS2 hT2 => ?_)
 refine RG.so rfl <| RG.so rfl <| RG.nil <| MX.sr <| RG.va (FV.makeFunc (vs := []) (us := [vP b5, vP b0, vP b1, vP b2]) evs_nil (e4 rfl rfl rfl rfl)) <| RG.enterP (fst := []) (cap := []) (vs := [.func (.func 18) #[] #[vP b5, vP b0, vP b1, vP b2]]) .plain body17 Tryz.func17 rfl rfl rfl rfl (e1 rfl) rfl (fun cs1 hb1 hp0 => ?_)
 refine MX.sr <| RG.new .plain rfl (Does.alloc (zs := [vN]) hS2 (zB (by kernel_rfl))) (fun w3 b3 hS4 hT3 => ?_)
 refine RG.new .plain rfl (Does.alloc (zs := [vI 0]) hS4 (zB (by kernel_rfl))) (fun w4 b4 hS5 hT5 => ?_)
 refine RG.nil <| MX.sr <| RG.va (FV.makeFunc (vs := []) (us := [vP b3, vP b4]) evs_nil (e2 rfl rfl)) <| RG.defer (fst := []) (cap := [vP b3, vP b4]) (vs := []) rfl .plain rfl evs_nil <| RG.nil <| MX.sr ?_
 refine RG.mo rfl ?_
 obtain ⟨y0, hy0, h⟩ := bind_in h
 rcases y0 with e0 | y1
 have h := exc_e h
 try dsimp only at h
 refine RG.callE (fst := []) (cap := [vP b5, vP b0, vP b1, vP b2]) .plain body18 rfl evs_nil (fun w9 hw9 => minority_Shares_1_c n _ w9 (hS5.hL hL hw9) a0 (hS5.km h0_3 hw9) (fun j9 v9 h9 => hw9.cell0 ((hS5.memA (.tl (.tl (.tl (.tl (.tl .hd)))))) j9 v9 h9)) a1 (hS5.km h1_0 hw9) (fun j9 v9 h9 => hw9.cell0 ((hS5.memA (.tl (.tl (.tl (.tl .hd))))) j9 v9 h9)) a2 (fun j9 v9 h9 => hw9.cell0 ((hS5.memA (.tl (.tl (.tl .hd)))) j9 v9 h9)) a3 (fun j9 v9 h9 => hw9.cell0 ((hS5.memA (.tl (.tl .hd))) j9 v9 h9)) hy0) (fun w5 hag0 => ?_)
 obtain ⟨hS6, hT6⟩ := hS5.agr hag0
 refine PN.callD (vs := []) (cap := [vP b3, vP b4]) body48 Tryz.func48 rfl rfl rfl (fun c0 hc0 hk0 => ?_)
 refine MX.sr <| RG.recover1 .plain hc0 rfl <| RG.so rfl <| RG.nil <| MX.sr <| RG.mo rfl ?_
 refine RG.va (FV.neqI Tryz.underlying20 rfl rfl) <| RG.nil <| MX.cond_t rfl <| MX.sr <| RG.mo rfl <| RG.va (FV.assertT (by kernel_rfl) rfl) ?_
 refine RG.mo rfl <| RG.va (FV.extract rfl rfl) <| RG.va (FV.extract rfl rfl) <| RG.new .plain rfl (Does.alloc (zs := [vI 0]) hS6 (zB (by kernel_rfl))) (fun w6 b6 hS7 hT7 => ?_)
 refine RG.now .plain (Acts.storeAll (news := [vI e0.fErrno]) hS7 .hd rfl rfl rfl rfl rfl rfl (o1 rfl)) (fun w7 hS8 hT8 => ?_)
 refine RG.so rfl <| RG.nil <| MX.seq <| MX.sr <| RG.mo rfl <| RG.va (FV.not rfl) ?_
 refine RG.nil <| MX.cond_f rfl <| MX.skip <| MX.sr <| RG.so rfl <| RG.nil ?_
 refine MX.drawT 3 tb48_6 (by kernel_rfl) (by kernel_rfl) (by kernel_rfl) (fun kt0 kp0 => ?_)
 refine RD.vw 0 1 kt0 rfl kp0 (fun _ => FV.move rfl) rfl <| RD.vw 1 3 kt0 rfl kp0 (fun _ => FV.fa 0 rfl) rfl <| RD.meet (α := Unit) (fun () => [(1, vP b4), (19, vI e0.fErrno)]) (fun () wx0 => St w wx0 [.cells b4 [vI 0] 32, .cells b3 [vN] 31, .cells b2 [vI a3] 3, .cells b1 [vI a2] 3, .cells b0 [v1_0] 28, .cells b5 [vI a0.fGroups, vI a0.fParties, vI a0.fLevels, v0_3] 25] ∧ Tr w7 [.cells b6 [vI e0.fErrno] 93, .cells b4 [vI 0] 32, .cells b3 [vN] 31, .cells b2 [vI a3] 3, .cells b1 [vI a2] 3, .cells b0 [v1_0] 28, .cells b5 [vI a0.fGroups, vI a0.fParties, vI a0.fLevels, v0_3] 25] wx0 [.cells b4 [vI 0] 32, .cells b3 [vN] 31, .cells b2 [vI a3] 3, .cells b1 [vI a2] 3, .cells b0 [v1_0] 28, .cells b5 [vI a0.fGroups, vI a0.fParties, vI a0.fLevels, v0_3] 25]) 1 15 ?_ ?_
 rintro ⟨⟩ wx0 ⟨hS10, hT9⟩
 try dsimp only
 refine RD.nw 4 31 kt0 rfl rfl .plain (Acts.storeAll (news := [vI e0.fErrno]) hS10 .hd rfl rfl rfl rfl rfl rfl (o1 rfl)) (fun w10 hS11 hT11 => ?_)
 refine RD.done (doneD_ok kt0 (by kernel_rfl)) <| MX.fin rfl <| RT.leaveD1 hk0 Tryz.func48 rfl .nil <| RT.leave (u := .tuple #[vN, vI e0.fErrno]) hb1 Tryz.func17 rfl (.cons (.one (by kernel_rfl) rfl ((hS11.memA (.tl .hd)) 0 _ rfl)) (.cons (.one (by kernel_rfl) rfl ((hS11.memA .hd) 0 _ rfl)) .nil)) rfl <| RG.va (FV.extract rfl rfl) <| RG.va (FV.extract rfl rfl) ?_
 refine RG.so rfl <| RG.so rfl <| RG.nil <| MX.ret rfl ?_
 have hr0 := Rep.nilAt (α := TShare) hS11 L
 refine RT.leave hb0 Tryz.func6 rfl (.cons (.tmp rfl) (.cons (.tmp rfl) .nil)) rfl ?_
 cases h
 exact ⟨hS11.ag, fun w9 hw9 => ⟨vN, rfl, hS11.kd hr0 hw9⟩⟩
 intro hJ1265
 refine RD.each [2, 3] (readyD_ok kt0 (by kernel_rfl)) ⟨?_, ?_, trivial⟩
 refine RO.val (m' := 7) (stepC_ok kt0 (by kernel_rfl)) rfl .plain rfl (FV.l1 rfl ((hS8.memA .hd) 0 _ rfl)) <| RD.nw 3 15 kt0 rfl rfl .plain (Acts.storeAll (news := [vN]) hS8 (.tl (.tl .hd)) rfl rfl rfl rfl rfl rfl (o1 rfl)) (fun w11 hS12 hT12 => ?_)
 obtain ⟨hS13, hT13⟩ := St.arrB hS12 (.one (.tl .hd) (.one (.tl .hd) (.one (.tl .hd) (.one (.tl .hd) (.one (.tl .hd) (.one (.tl .hd) .done))))))
 exact hJ1265 () _ _ ⟨rfl, rfl, trivial⟩ ⟨hS13, (Tr.trans hT12 hT13)⟩
 refine RO.now (m' := 11) (stepC_ok kt0 (by kernel_rfl)) rfl rfl .plain (Acts.storeAll (news := [vN]) hS8 (.tl (.tl .hd)) rfl rfl rfl rfl rfl rfl (o1 rfl)) (fun w11 hS12 hT12 => ?_)
 refine RD.vx 2 15 16 kt0 rfl kp0 (FV.l1 rfl ((hS12.memA .hd) 0 _ rfl)) rfl ?_
 obtain ⟨hS15, hT14⟩ := St.arrB hS12 (.one (.tl .hd) (.one (.tl .hd) (.one (.tl .hd) (.one (.tl .hd) (.one (.tl .hd) (.one (.tl .hd) .done))))))
 exact hJ1265 () _ _ ⟨rfl, rfl, trivial⟩ ⟨hS15, (Tr.trans hT12 hT14)⟩
 have h := exc_o h
 try dsimp only at h
 refine RG.call' (fst := []) (cap := [vP b5, vP b0, vP b1, vP b2]) .plain body18 rfl evs_nil (fun w9 hw9 => Calls.okp (minority_Shares_1_c n _ w9 (hS5.hL hL hw9) a0 (hS5.km h0_3 hw9) (fun j9 v9 h9 => hw9.cell0 ((hS5.memA (.tl (.tl (.tl (.tl (.tl .hd)))))) j9 v9 h9)) a1 (hS5.km h1_0 hw9) (fun j9 v9 h9 => hw9.cell0 ((hS5.memA (.tl (.tl (.tl (.tl .hd))))) j9 v9 h9)) a2 (fun j9 v9 h9 => hw9.cell0 ((hS5.memA (.tl (.tl (.tl .hd)))) j9 v9 h9)) a3 (fun j9 v9 h9 => hw9.cell0 ((hS5.memA (.tl (.tl .hd))) j9 v9 h9)) hy0)) rfl (fun w12 vu0 hag1 ⟨v0, hu_, hr1⟩ => ?_)
 subst hu_
 obtain ⟨hS16, hT16⟩ := hS5.agr hag1
 refine RG.now .plain (Acts.storeAll (news := [vu0]) hS16 (.tl .hd) rfl rfl rfl (Rep.c1 hr1) rfl rfl (o1 (Rep.o1 hr1))) (fun w14 hS17 hT17 => ?_)
 refine RG.now .plain (Acts.storeAll (news := [vI 0]) hS17 .hd rfl rfl rfl rfl rfl rfl (o1 rfl)) (fun w15 hS18 hT18 => ?_)
 refine RG.nil <| MX.ret rfl <| RT.callD (vs := []) (cap := [vP b3, vP b4]) body48 Tryz.func48 rfl rfl rfl (fun c1 hc1 hk1 => ?_)
 refine MX.sr <| RG.recover0 .plain hc1 rfl <| RG.so rfl <| RG.nil <| MX.sr <| RG.mo rfl ?_
 refine RG.va (FV.neqI0 Tryz.underlying20 rfl rfl) <| RG.nil <| MX.cond_f rfl <| MX.skip <| MX.fin rfl <| RT.leaveD0 hc1 hk1 Tryz.func48 rfl .nil ?_
 refine RT.leave (u := .tuple #[vu0, vI 0]) hb1 Tryz.func17 rfl (.cons (.one (by kernel_rfl) rfl ((hS18.memA (.tl .hd)) 0 _ rfl)) (.cons (.one (by kernel_rfl) rfl ((hS18.memA .hd) 0 _ rfl)) .nil)) rfl <| RG.va (FV.extract rfl rfl) <| RG.va (FV.extract rfl rfl) <| RG.so rfl <| RG.so rfl <| RG.nil ?_
 refine MX.ret rfl <| RT.leave hb0 Tryz.func6 rfl (.cons (.tmp rfl) (.cons (.tmp rfl) .nil)) rfl ?_
 cases h
 have hm0 := Rep.mv hr1 (Tr.trans hT17 hT18)
 exact ⟨hS18.ag, fun w9 hw9 => ⟨vu0, rfl, hS18.kd hm0 hw9⟩⟩
def share_told_p (n : Nat) (a0 : TRatio) (a1 : Int) : Option (TShare × Int) :=
  (if a1 = 0 then (share_Ratio_Told_p n a0).bind fun y0 => some (y0.1, y0.2) else some ((⟨((0 : UInt64), (0 : UInt64), (0 : UInt64), (0 : UInt64), (0 : UInt64), (0 : UInt64), (0 : UInt64), (0 : UInt64)), ((0 : UInt64), (0 : UInt64), (0 : UInt64), (0 : UInt64), (0 : UInt64), (0 : UInt64), (0 : UInt64), (0 : UInt64))⟩ : TShare), a1))
theorem share_told_c (n : Nat) (L : List Nat) (w : World) (hL : ∀ b ∈ L, b < w.heap.size) (a0 : TRatio) {v0_1 : Value} (h0_1 : Rep.R w L [v0_1] a0.fLong.fWords) {v0_3 : Value} (h0_3 : Rep.R w L [v0_3] a0.fUnder.fWords) (a1 : Int)  {r : TShare × Int} (h : share_told_p n a0 a1 = some r) :
    Calls Tryz.prog 52 #[.agg #[.bool a0.fLong.fBelow, v0_1, .bool a0.fUnder.fBelow, v0_3], vI a1] w (Gives w fun _ u => u = .tuple #[.agg ((cs_TShare r.1)).toArray, vI r.2]) := by
 unfold share_told_p at h
 have hS0 := St.start w
 refine MX.start Tryz.func52 rfl rfl rfl (fun _ cs0 hb0 => ?_)
 refine MX.sr <| RG.new .plain rfl (Does.box (vs := [.bool a0.fLong.fBelow, v0_1, .bool a0.fUnder.fBelow, v0_3]) hS0 rfl rfl) (fun w2 b5 hS3 hT4 => ?_)
 refine RG.new .plain rfl (Does.alloc (zs := [.int .u64 0, .int .u64 0, .int .u64 0, .int .u64 0, .int .u64 0, .int .u64 0, .int .u64 0, .int .u64 0, .int .u64 0, .int .u64 0, .int .u64 0, .int .u64 0, .int .u64 0, .int .u64 0, .int .u64 0, .int .u64 0]) hS3 (zB (by kernel_rfl))) (fun w7 b0 hS8 hT9 => ?_)
 refine RG.so rfl <| RG.nil <| MX.seq <| MX.sr <| RG.mo rfl <| RG.va (FV.neq (i := a1) (j := 0) rfl rfl) ?_
 refine RG.nil <| MX.ifn rfl h (fun c0 h => ?_) (fun c0 h => ?_)
 refine MX.skip <| MX.sr <| RG.va (FV.lN rfl (hS8.memA (.tl .hd))) ?_
 obtain ⟨y0, hy0, h⟩ := bind_in h
 refine RG.cq (.tuple #[.agg ((cs_TShare y0.1)).toArray, vI y0.2]) body79 rfl (e1 rfl) (fun w9 hw9 => share_Ratio_Told_c n _ w9 (hS8.hL0 hL hw9) a0 (hS8.k0 h0_1 hw9) (hS8.k0 h0_3 hw9) hy0) rfl <| RG.va (FV.extract rfl rfl) <| RG.va (FV.extract rfl rfl) <| RG.now .plain (Acts.storeAll (news := (cs_TShare y0.1)) hS8 .hd rfl rfl rfl rfl rfl rfl (onesB rfl)) (fun w0 hS1 hT0 => ?_)
 refine RG.so rfl <| RG.nil <| MX.ret rfl <| RT.leave hb0 Tryz.func52 rfl (.cons (.many (cs := (cs_TShare y0.1)) (by kernel_rfl) rfl (hS1.memA .hd)) (.cons (.tmp rfl) .nil)) rfl ?_
 cases h
 exact hS1.gv
 refine MX.sr <| RG.va (FV.buildV (vs := []) (u := .agg #[.int .u64 0, .int .u64 0, .int .u64 0, .int .u64 0, .int .u64 0, .int .u64 0, .int .u64 0, .int .u64 0, .int .u64 0, .int .u64 0, .int .u64 0, .int .u64 0, .int .u64 0, .int .u64 0, .int .u64 0, .int .u64 0]) evs_nil (fun w9 => by kernel_rfl)) <| RG.mo rfl <| RG.now .plain (Acts.storeAll (news := [.int .u64 0, .int .u64 0, .int .u64 0, .int .u64 0, .int .u64 0, .int .u64 0, .int .u64 0, .int .u64 0, .int .u64 0, .int .u64 0, .int .u64 0, .int .u64 0, .int .u64 0, .int .u64 0, .int .u64 0, .int .u64 0]) hS8 .hd rfl rfl rfl rfl rfl rfl (onesB rfl)) (fun w1 hS2 hT1 => ?_)
 refine RG.so rfl <| RG.nil <| MX.ret rfl <| RT.leave hb0 Tryz.func52 rfl (.cons (.many (cs := [.int .u64 0, .int .u64 0, .int .u64 0, .int .u64 0, .int .u64 0, .int .u64 0, .int .u64 0, .int .u64 0, .int .u64 0, .int .u64 0, .int .u64 0, .int .u64 0, .int .u64 0, .int .u64 0, .int .u64 0, .int .u64 0]) (by kernel_rfl) rfl (hS2.memA .hd)) (.cons (.tmp rfl) .nil)) rfl ?_
 cases h
 exact hS2.gv
def tb62_1 : List (Nat × Nat × Nat) := [(0, 8, 2), (1, 16, 8), (2, 32, 16), (0, 64, 2), (8, 128, 64), (20, 256, 128), (36, 512, 288), (127, 0, 516)]
def share_Read_p (n : Nat) (a0 : TShare) : Option TRatio :=
  (wide_Longer_p n a0.fN).bind fun y0 => (wide_Longer_p n a0.fD).bind fun y1 => some (⟨y0, y1⟩ : TRatio)
theorem share_Read_c (n : Nat) (L : List Nat) (w : World) (hL : ∀ b ∈ L, b < w.heap.size) (a0 : TShare)  {r : TRatio} (h : share_Read_p n a0 = some r) :
    Calls Tryz.prog 62 #[.agg ((cs_TShare a0)).toArray] w (Gives w fun w' u => ∃ v0_1 v0_3 : Value, u = .agg #[.bool r.fLong.fBelow, v0_1, .bool r.fUnder.fBelow, v0_3] ∧ Rep.R w' L [v0_1] r.fLong.fWords ∧ Rep.R w' L [v0_3] r.fUnder.fWords) := by
 unfold share_Read_p at h
 have hS0 := St.start w
 refine MX.start Tryz.func62 rfl rfl rfl (fun _ cs0 hb0 => ?_)
 refine MX.sr <| RG.new .plain rfl (Does.box (vs := (cs_TShare a0)) hS0 rfl rfl) (fun w2 b5 hS3 hT4 => ?_)
 refine RG.new .plain rfl (Does.alloc (zs := [.bool false, vN, .bool false, vN]) hS3 (zB (by kernel_rfl))) (fun w7 b0 hS8 hT9 => ?_)
 refine RG.nil <| MX.seq <| MX.drawT 7 tb62_1 (by kernel_rfl) (by kernel_rfl) (by kernel_rfl) (fun kt0 kp0 => ?_)
 refine RD.vw 0 1 kt0 rfl kp0 (fun _ => FV.fa 0 rfl) rfl <| RD.vx 1 3 228 kt0 rfl kp0 (FV.loadN (cs := (cs_A36 a0.fN)) (by kernel_rfl) rfl (mem_part (hS8.memA (.tl .hd)) 0 8)) rfl <| RD.vw 3 11 kt0 rfl kp0 (fun _ => FV.fa 8 rfl) rfl <| RD.vx 4 27 224 kt0 rfl kp0 (FV.loadN (cs := (cs_A36 a0.fD)) (by kernel_rfl) rfl (mem_part (hS8.memA (.tl .hd)) 8 8)) rfl ?_
 obtain ⟨y0, hy0, h⟩ := bind_in h
 refine RD.cl 2 31 kt0 rfl .plain body86 rfl (e1 rfl) (fun w9 hw9 => wide_Longer_c n _ w9 (hS8.hL hL hw9) a0.fN hy0) rfl (fun w0 vu0 hag0 ⟨v0, hu_, hr0⟩ => ?_)
 subst hu_
 obtain ⟨hS1, hT0⟩ := hS8.agr hag0
 obtain ⟨y1, hy1, h⟩ := bind_in h
 refine RD.cl 5 63 kt0 rfl .plain body86 rfl (e1 rfl) (fun w9 hw9 => wide_Longer_c n _ w9 (hS1.hL hL hw9) a0.fD hy1) rfl (fun w1 vu1 hag1 ⟨v1, hu_, hr1⟩ => ?_)
 subst hu_
 obtain ⟨hS2, hT1⟩ := hS1.agr hag1
 have hm0 := Rep.mv hr0 hT1
 obtain ⟨A29, c0, hv31, _⟩ := Rep.sl hm0
 obtain ⟨A33, c1, hv35, _⟩ := Rep.sl hr1
 refine RD.vw 6 127 kt0 rfl kp0 (fun _ => FV.buildV (vs := [.agg #[.bool y0.fBelow, v0], .agg #[.bool y1.fBelow, v1]]) (u := .agg #[.bool y0.fBelow, v0, .bool y1.fBelow, v1]) (e2 rfl rfl) (fun w9 => by rw [hv31, hv35]; try kernel_rfl)) rfl <| RD.nw 7 255 kt0 rfl rfl .plain (Acts.storeAll (news := [.bool y0.fBelow, v0, .bool y1.fBelow, v1]) hS2 .hd rfl rfl rfl rfl rfl rfl (o4 rfl (Rep.o1 hm0) rfl (Rep.o1 hr1))) (fun w3 hS4 hT2 => ?_)
 refine RD.done (doneD_ok kt0 (by kernel_rfl)) <| MX.ret rfl <| RT.leave hb0 Tryz.func62 rfl (.cons (.many (cs := [.bool y0.fBelow, v0, .bool y1.fBelow, v1]) (by kernel_rfl) rfl (hS4.memA .hd)) .nil) rfl ?_
 cases h
 have hm1 := Rep.mv hr0 (Tr.trans hT1 hT2)
 have hm2 := Rep.mv hr1 hT2
 exact ⟨hS4.ag, fun w9 hw9 => ⟨v0, v1, rfl, hS4.kd hm1 hw9, hS4.kd hm2 hw9⟩⟩
def wide_From_p (n : Nat) (a0 : Int) : Option TLong :=
  (wide_Of_p n a0).bind fun y6 => (wide_Longer_p n y6).bind fun y7 => some y7
theorem wide_From_c (n : Nat) (L : List Nat) (w : World) (hL : ∀ b ∈ L, b < w.heap.size) (a0 : Int)  {r : TLong} (h : wide_From_p n a0 = some r) :
    Calls Tryz.prog 61 #[vI a0] w (Gives w fun w' u => ∃ v0_1 : Value, u = .agg #[.bool r.fBelow, v0_1] ∧ Rep.R w' L [v0_1] r.fWords) := by
 unfold wide_From_p at h
 have hS0 := St.start w
 refine MX.start Tryz.func61 rfl rfl rfl (fun _ cs0 hb0 => ?_)
 refine MX.sr <| RG.new .plain rfl (Does.alloc (zs := [.bool false, vN]) hS0 (zB (by kernel_rfl))) (fun w2 b5 hS3 hT4 => ?_)
 refine RG.nil <| MX.sr <| RG.mo rfl ?_
 obtain ⟨y6, hy6, h⟩ := bind_in h
 refine RG.cq (.agg ((cs_A36 y6)).toArray) body74 rfl (e1 rfl) (fun w9 hw9 => wide_Of_c n _ w9 (hS3.hL0 hL hw9) a0 hy6) rfl ?_
 obtain ⟨y7, hy7, h⟩ := bind_in h
 refine RG.call' (fst := []) (cap := []) .plain body86 rfl (e1 rfl) (fun w9 hw9 => wide_Longer_c n _ w9 (hS3.hL hL hw9) y6 hy7) rfl (fun w8 vu9 hag0 ⟨v0, hu_, hr0⟩ => ?_)
 subst hu_
 obtain ⟨hS1, hT0⟩ := hS3.agr hag0
 refine RG.now .plain (Acts.storeAll (news := [.bool y7.fBelow, v0]) hS1 .hd rfl rfl rfl rfl rfl rfl (o2 rfl (Rep.o1 hr0))) (fun w0 hS2 hT1 => ?_)
 refine RG.nil <| MX.ret rfl <| RT.leave hb0 Tryz.func61 rfl (.cons (.many (cs := [.bool y7.fBelow, v0]) (by kernel_rfl) rfl (hS2.memA .hd)) .nil) rfl ?_
 cases h
 have hm0 := Rep.mv hr0 hT1
 exact ⟨hS2.ag, fun w9 hw9 => ⟨v0, rfl, hS2.kd hm0 hw9⟩⟩
def wide_Long_Side_p (_n : Nat) (a0 : TLong) : Option Int :=
  (if a0.fBelow = true then some (-1 : Int) else (if a0.fWords.length = 0 then some (0 : Int) else some (1 : Int)))
theorem wide_Long_Side_c (n : Nat) (L : List Nat) (w : World) (_hL : ∀ b ∈ L, b < w.heap.size) (a0 : TLong) {v0_1 : Value} (h0_1 : Rep.R w L [v0_1] a0.fWords)  {r : Int} (h : wide_Long_Side_p n a0 = some r) :
    Calls Tryz.prog 63 #[.agg #[.bool a0.fBelow, v0_1]] w (Gives w fun _ u => u = vI r) := by
 unfold wide_Long_Side_p at h
 have hS0 := St.start w
 refine MX.start Tryz.func63 rfl rfl rfl (fun _ cs0 hb0 => ?_)
 refine MX.sr <| RG.new .plain rfl (Does.box (vs := [.bool a0.fBelow, v0_1]) hS0 rfl rfl) (fun w2 b5 hS3 hT4 => ?_)
 refine RG.so rfl <| RG.nil <| MX.seq <| MX.block <| MX.sr <| RG.fa 0 rfl ?_
 refine RG.l1 rfl ((hS3.memA .hd) 0 _ rfl) <| RG.so rfl <| RG.nil <| MX.ifb rfl h (fun c6 h => ?_) (fun c6 h => ?_)
 refine MX.sr <| RG.so rfl <| RG.nil <| MX.ret rfl <| RT.t1 hb0 Tryz.func63 rfl rfl ?_
 cases h
 exact hS3.gv
 refine MX.sr <| RG.fa 1 rfl <| RG.l1 rfl ((hS3.memA .hd) 1 _ rfl) ?_
 have hm8 := Rep.mv0 h0_1 hS3
 have hl7 : a0.fWords.length ≤ 281474976710656 := Rep.lenle hm8
 refine RG.va (FV.len (xs := a0.fWords) Tryz.underlying98 rfl hm8) <| RG.va (FV.eqlN (i := a0.fWords.length) (j := 0) rfl rfl) <| RG.so rfl <| RG.nil <| MX.ifd rfl h (fun c9 h => ?_) (fun c9 h => ?_)
 refine MX.sr <| RG.so rfl <| RG.nil <| MX.ret rfl <| RT.t1 hb0 Tryz.func63 rfl rfl ?_
 cases h
 exact hS3.gv
 refine MX.skip <| MX.inBlock <| MX.sr <| RG.so rfl <| RG.nil <| MX.ret rfl ?_
 refine RT.t1 hb0 Tryz.func63 rfl rfl ?_
 cases h
 exact hS3.gv
def tb88_1 : List (Nat × Nat × Nat) := [(0, 32, 4), (0, 64, 8), (2, 128, 64), (5, 256, 160), (15, 0, 272)]
def wide_Long_Minus_p (n : Nat) (a0 : TLong) (a1 : TLong) : Option TLong :=
  (wide_Long_Turned_p n a1).bind fun y0 => (wide_Long_Plus_p n a0 y0).bind fun y1 => some y1
theorem wide_Long_Minus_c (n : Nat) (L : List Nat) (w : World) (hL : ∀ b ∈ L, b < w.heap.size) (a0 : TLong) {v0_1 : Value} (h0_1 : Rep.R w L [v0_1] a0.fWords) (a1 : TLong) {v1_1 : Value} (h1_1 : Rep.R w L [v1_1] a1.fWords)  {r : TLong} (h : wide_Long_Minus_p n a0 a1 = some r) :
    Calls Tryz.prog 88 #[.agg #[.bool a0.fBelow, v0_1], .agg #[.bool a1.fBelow, v1_1]] w (Gives w fun w' u => ∃ v0_1 : Value, u = .agg #[.bool r.fBelow, v0_1] ∧ Rep.R w' L [v0_1] r.fWords) := by
 unfold wide_Long_Minus_p at h
 have hS0 := St.start w
 refine MX.start Tryz.func88 rfl rfl rfl (fun _ cs0 hb0 => ?_)
 refine MX.sr <| RG.new .plain rfl (Does.box (vs := [.bool a0.fBelow, v0_1]) hS0 rfl rfl) (fun w2 b5 hS3 hT4 => ?_)
 refine RG.new .plain rfl (Does.box (vs := [.bool a1.fBelow, v1_1]) hS3 rfl rfl) (fun w7 b0 hS8 hT9 => ?_)
 refine RG.new .plain rfl (Does.alloc (zs := [.bool false, vN]) hS8 (zB (by kernel_rfl))) (fun w0 b1 hS1 hT0 => ?_)
 refine RG.nil <| MX.seq <| MX.drawT 4 tb88_1 (by kernel_rfl) (by kernel_rfl) (by kernel_rfl) (fun kt0 kp0 => ?_)
 refine RD.vx 0 1 24 kt0 rfl kp0 (FV.lN rfl (hS1.memA (.tl (.tl .hd)))) rfl <| RD.vx 1 3 28 kt0 rfl kp0 (FV.lN rfl (hS1.memA (.tl .hd))) rfl ?_
 obtain ⟨y0, hy0, h⟩ := bind_in h
 refine RD.cl 2 7 kt0 rfl .plain body82 rfl (e1 rfl) (fun w9 hw9 => wide_Long_Turned_c n _ w9 (hS1.hL hL hw9) a1 (hS1.km h1_1 hw9) hy0) rfl (fun w1 vu0 hag0 ⟨v0, hu_, hr0⟩ => ?_)
 subst hu_
 obtain ⟨hS2, hT1⟩ := hS1.agr hag0
 obtain ⟨y1, hy1, h⟩ := bind_in h
 refine RD.cl 3 15 kt0 rfl .plain body111 rfl (e2 rfl rfl) (fun w9 hw9 => wide_Long_Plus_c n _ w9 (hS2.hL hL hw9) a0 (hS2.km h0_1 hw9) y0 (Rep.keep0 hr0 hw9) hy1) rfl (fun w3 vu1 hag1 ⟨v1, hu_, hr1⟩ => ?_)
 subst hu_
 obtain ⟨hS4, hT2⟩ := hS2.agr hag1
 refine RD.nw 4 31 kt0 rfl rfl .plain (Acts.storeAll (news := [.bool y1.fBelow, v1]) hS4 .hd rfl rfl rfl rfl rfl rfl (o2 rfl (Rep.o1 hr1))) (fun w4 hS5 hT3 => ?_)
 refine RD.done (doneD_ok kt0 (by kernel_rfl)) <| MX.ret rfl <| RT.leave hb0 Tryz.func88 rfl (.cons (.many (cs := [.bool y1.fBelow, v1]) (by kernel_rfl) rfl (hS5.memA .hd)) .nil) rfl ?_
 cases h
 have hm0 := Rep.mv hr1 hT3
 exact ⟨hS5.ag, fun w9 hw9 => ⟨v1, rfl, hS5.kd hm0 hw9⟩⟩
theorem body63 : bodyB Tryz.prog 63 = true := by kernel_rfl
theorem body88 : bodyB Tryz.prog 88 = true := by kernel_rfl
def wide_Long_Cmp_p (n : Nat) (a0 : TLong) (a1 : TLong) : Option Int :=
  (wide_Long_Minus_p n a0 a1).bind fun y0 => (wide_Long_Side_p n y0).bind fun y1 => some y1
theorem wide_Long_Cmp_c (n : Nat) (L : List Nat) (w : World) (hL : ∀ b ∈ L, b < w.heap.size) (a0 : TLong) {v0_1 : Value} (h0_1 : Rep.R w L [v0_1] a0.fWords) (a1 : TLong) {v1_1 : Value} (h1_1 : Rep.R w L [v1_1] a1.fWords)  {r : Int} (h : wide_Long_Cmp_p n a0 a1 = some r) :
    Calls Tryz.prog 65 #[.agg #[.bool a0.fBelow, v0_1], .agg #[.bool a1.fBelow, v1_1]] w (Gives w fun _ u => u = vI r) := by
 unfold wide_Long_Cmp_p at h
 have hS0 := St.start w
 refine MX.start Tryz.func65 rfl rfl rfl (fun _ cs0 hb0 => ?_)
 refine MX.sr <| RG.new .plain rfl (Does.box (vs := [.bool a0.fBelow, v0_1]) hS0 rfl rfl) (fun w2 b5 hS3 hT4 => ?_)
 refine RG.new .plain rfl (Does.box (vs := [.bool a1.fBelow, v1_1]) hS3 rfl rfl) (fun w7 b0 hS8 hT9 => ?_)
 refine RG.so rfl <| RG.nil <| MX.sr <| RG.va (FV.lN rfl (hS8.memA (.tl .hd))) <| RG.va (FV.lN rfl (hS8.memA .hd)) ?_
 obtain ⟨y0, hy0, h⟩ := bind_in h
 refine RG.call' (fst := []) (cap := []) .plain body88 rfl (e2 rfl rfl) (fun w9 hw9 => wide_Long_Minus_c n _ w9 (hS8.hL hL hw9) a0 (hS8.km h0_1 hw9) a1 (hS8.km h1_1 hw9) hy0) rfl (fun w0 vu0 hag0 ⟨v0, hu_, hr0⟩ => ?_)
 subst hu_
 obtain ⟨hS1, hT0⟩ := hS8.agr hag0
 obtain ⟨y1, hy1, h⟩ := bind_in h
 refine RG.cq (vI y1) body63 rfl (e1 rfl) (fun w9 hw9 => wide_Long_Side_c n _ w9 (hS1.hL0 hL hw9) y0 (hS1.kd hr0 hw9) hy1) rfl <| RG.so rfl <| RG.nil <| MX.ret rfl <| RT.t1 hb0 Tryz.func65 rfl rfl ?_
 cases h
 exact hS1.gv
def tb33_3 : List (Nat × Nat × Nat) := [(0, 256, 16), (1, 512, 256), (2, 1024, 512), (4, 2048, 1024), (12, 4096, 2048), (16, 8192, 4112), (48, 16384, 12288), (16, 32768, 4112), (144, 65536, 36864), (336, 131072, 86016), (16, 262144, 4104), (1552, 524288, 397312), (2064, 1048576, 528384), (4112, 2097152, 1052672)]
theorem body61 : bodyB Tryz.prog 61 = true := by kernel_rfl
theorem body62 : bodyB Tryz.prog 62 = true := by kernel_rfl
theorem body65 : bodyB Tryz.prog 65 = true := by kernel_rfl
def share_Check_p (n : Nat) (a0 : TShare) : Option Int :=
  (wide_From_p n (1 : Int)).bind fun y6 => (share_Read_p n a0).bind fun y0 => (wide_Long_Side_p n y0.fUnder).bind fun y1 => (if y1 ≤ 0 then some (20 : Int) else (wide_Long_Common_p n y0.fLong y0.fUnder).bind fun y2 => (wide_Long_Cmp_p n y2 y6).bind fun y3 => (if y3 = 0 then some (0 : Int) else some (20 : Int)))
theorem share_Check_c (n : Nat) (L : List Nat) (w : World) (hL : ∀ b ∈ L, b < w.heap.size) (a0 : TShare)  {r : Int} (h : share_Check_p n a0 = some r) :
    Calls Tryz.prog 33 #[.agg ((cs_TShare a0)).toArray] w (Gives w fun _ u => u = vI r) := by
 unfold share_Check_p at h
 have hS0 := St.start w
 refine MX.start Tryz.func33 rfl rfl rfl (fun _ cs0 hb0 => ?_)
 refine MX.sr <| RG.new .plain rfl (Does.box (vs := (cs_TShare a0)) hS0 rfl rfl) (fun w2 b5 hS3 hT4 => ?_)
 refine RG.so rfl <| RG.nil <| MX.sr ?_
 obtain ⟨y6, hy6, h⟩ := bind_in h
 refine RG.call' (fst := []) (cap := []) .plain body61 rfl (e1 rfl) (fun w9 hw9 => wide_From_c n _ w9 (hS3.hL hL hw9) (1 : Int) hy6) rfl (fun w7 vu8 hag9 ⟨v0, hu_, hr0⟩ => ?_)
 subst hu_
 obtain ⟨hS1, hT0⟩ := hS3.agr hag9
 refine RG.new .plain rfl (Does.alloc (zs := [.bool false, vN]) hS1 (zB (by kernel_rfl))) (fun w0 b0 hS2 hT1 => ?_)
 have hm0 := Rep.mv hr0 hT1
 refine RG.now .plain (Acts.storeAll (news := [.bool y6.fBelow, v0]) hS2 .hd rfl rfl rfl rfl rfl rfl (o2 rfl (Rep.o1 hm0))) (fun w1 hS4 hT2 => ?_)
 refine RG.nil <| MX.sr <| RG.va (FV.lN rfl (hS4.memA (.tl .hd))) ?_
 obtain ⟨y0, hy0, h⟩ := bind_in h
 refine RG.call' (fst := []) (cap := []) .plain body62 rfl (e1 rfl) (fun w9 hw9 => share_Read_c n _ w9 (hS4.hL hL hw9) a0 hy0) rfl (fun w3 vu0 hag0 ⟨v1, v2, hu_, hr1, hr2⟩ => ?_)
 subst hu_
 obtain ⟨hS5, hT3⟩ := hS4.agr hag0
 refine RG.new .plain rfl (Does.alloc (zs := [.bool false, vN, .bool false, vN]) hS5 (zB (by kernel_rfl))) (fun w4 b1 hS6 hT5 => ?_)
 have hm1 := Rep.mv hr1 hT5
 have hm2 := Rep.mv hr2 hT5
 refine RG.now .plain (Acts.storeAll (news := [.bool y0.fLong.fBelow, v1, .bool y0.fUnder.fBelow, v2]) hS6 .hd rfl rfl rfl rfl rfl rfl (o4 rfl (Rep.o1 hm1) rfl (Rep.o1 hm2))) (fun w5 hS7 hT6 => ?_)
 refine RG.nil <| MX.seq <| MX.seq <| MX.drawT 14 tb33_3 (by kernel_rfl) (by kernel_rfl) (by kernel_rfl) (fun kt0 kp0 => ?_)
 refine RD.vw 0 1 kt0 rfl kp0 (fun _ => FV.fa 2 rfl) rfl <| RD.vx 1 3 16380 kt0 rfl kp0 (FV.loadN (cs := [.bool y0.fUnder.fBelow, v2]) (by kernel_rfl) rfl (mem_part (hS7.memA .hd) 2 2)) rfl ?_
 obtain ⟨y1, hy1, h⟩ := bind_in h
 have hm3 := Rep.mv hr2 (Tr.trans hT5 hT6)
 refine RD.cq 2 7 16376 (vI y1) kt0 rfl kp0 body63 rfl (e1 rfl) (fun w9 hw9 => wide_Long_Side_c n _ w9 (hS7.hL0 hL hw9) y0.fUnder (hS7.kd hm3 hw9) hy1) rfl <| RD.vw 3 15 kt0 rfl kp0 (fun _ => FV.leq (i := y1) (j := 0) rfl rfl) rfl <| RD.vw 4 31 kt0 rfl kp0 (fun _ => FV.move rfl) rfl <| RD.ifd (s := 12) rfl h (fun c0 h => ?_) (fun c0 h => ?_)
 refine RD.offs 8191 1 [(5, 13), (6, 14), (7, 15), (8, 16), (9, 17), (10, 18), (11, 19), (12, 20)] (F := [(12, true)]) (U := []) kt0 kp0 (.cons rfl .nil) .nil ?_
 dsimp only [offS, List.map]
 refine RD.vw 13 16383 kt0 rfl kp0 (fun _ => FV.pick_t rfl rfl) rfl <| RD.done (doneD_ok kt0 (by kernel_rfl)) <| MX.cond_t rfl <| MX.sr <| RG.so rfl <| RG.nil ?_
 refine MX.ret rfl <| RT.t1 hb0 Tryz.func33 rfl rfl ?_
 cases h
 exact hS7.gv
 refine RD.vP 5 63 kt0 rfl kp0 (.yes rfl rfl) (fun _ => FV.fa 0 rfl) rfl <| RD.val (i := 6) (m' := 127) (W := 14848) (takeC_ok kt0 (by kernel_rfl)) rfl kp0 (.yes rfl rfl) (FV.loadN (cs := [.bool y0.fLong.fBelow, v1]) (by kernel_rfl) rfl (mem_part (hS7.memA .hd) 0 2)) rfl <| RD.vP 7 255 kt0 rfl kp0 (.yes rfl rfl) (fun _ => FV.fa 2 rfl) rfl <| RD.val (i := 8) (m' := 511) (W := 14848) (takeC_ok kt0 (by kernel_rfl)) rfl kp0 (.yes rfl rfl) (FV.loadN (cs := [.bool y0.fUnder.fBelow, v2]) (by kernel_rfl) rfl (mem_part (hS7.memA .hd) 2 2)) rfl <| RD.val (i := 10) (m' := 1535) (W := 14336) (takeC_ok kt0 (by kernel_rfl)) rfl kp0 (.yes rfl rfl) (FV.lN rfl (hS7.memA (.tl .hd))) rfl ?_
 obtain ⟨y2, hy2, h⟩ := bind_in h
 have hm4 := Rep.mv hr1 (Tr.trans hT5 hT6)
 refine RD.cl 9 2047 kt0 rfl (.yes rfl rfl) body64 rfl (e2 rfl rfl) (fun w9 hw9 => wide_Long_Common_c n _ w9 (hS7.hL hL hw9) y0.fLong (Rep.keep0 hm4 hw9) y0.fUnder (Rep.keep0 hm3 hw9) hy2) rfl (fun w6 vu1 hag1 ⟨v3, hu_, hr3⟩ => ?_)
 subst hu_
 obtain ⟨hS8, hT7⟩ := hS7.agr hag1
 obtain ⟨y3, hy3, h⟩ := bind_in h
 have hq58 := Tr.trans hT1 (Tr.trans hT2 (Tr.trans hT3 (Tr.trans hT5 (Tr.trans hT6 hT7))))
 have hm5 := Rep.mv hr0 hq58
 refine RD.callq (i := 11) (m' := 4095) (W := 12288) (takeC_ok kt0 (by kernel_rfl)) rfl kp0 (v := vI y3) (fst := []) (cap := []) (.yes rfl rfl) body65 rfl (e2 rfl rfl) (fun w9 hw9 => wide_Long_Cmp_c n _ w9 (hS8.hL0 hL hw9) y2 (hS8.kd hr3 hw9) y6 (hS8.kd hm5 hw9) hy3) rfl <| RD.vP 12 8191 kt0 rfl kp0 (.yes rfl rfl) (fun _ => FV.neq (i := y3) (j := 0) rfl rfl) rfl <| RD.vw 13 16383 kt0 rfl kp0 (fun _ => FV.pick_f rfl rfl) rfl <| RD.done (doneD_ok kt0 (by kernel_rfl)) <| MX.ifn rfl h (fun c1 h => ?_) (fun c1 h => ?_)
 refine MX.skip <| MX.sr <| RG.so rfl <| RG.nil <| MX.ret rfl <| RT.t1 hb0 Tryz.func33 rfl rfl ?_
 cases h
 exact hS8.gv
 refine MX.sr <| RG.so rfl <| RG.nil <| MX.ret rfl <| RT.t1 hb0 Tryz.func33 rfl rfl ?_
 cases h
 exact hS8.gv
theorem body33 : bodyB Tryz.prog 33 = true := by kernel_rfl
def share_valid_1_p (n : Nat) (a0 : TShare) : Option Bool :=
  (share_Check_p n a0).bind fun y6 => some (decide (y6 = 0))
theorem share_valid_1_c (n : Nat) (L : List Nat) (w : World) (hL : ∀ b ∈ L, b < w.heap.size) (a0 : TShare)  {r : Bool} (h : share_valid_1_p n a0 = some r) :
    Calls Tryz.prog 101 #[.agg ((cs_TShare a0)).toArray] w (Gives w fun _ u => u = .bool r) := by
 unfold share_valid_1_p at h
 have hS0 := St.start w
 refine MX.start Tryz.func101 rfl rfl rfl (fun _ cs0 hb0 => ?_)
 refine MX.sr <| RG.new .plain rfl (Does.box (vs := (cs_TShare a0)) hS0 rfl rfl) (fun w2 b5 hS3 hT4 => ?_)
 refine RG.so rfl <| RG.nil <| MX.sr <| RG.va (FV.lN rfl (hS3.memA .hd)) ?_
 obtain ⟨y6, hy6, h⟩ := bind_in h
 refine RG.cq (vI y6) body33 rfl (e1 rfl) (fun w9 hw9 => share_Check_c n _ w9 (hS3.hL0 hL hw9) a0 hy6) rfl <| RG.va (FV.eql (i := y6) (j := 0) rfl rfl) <| RG.so rfl <| RG.nil <| MX.ret rfl <| RT.t1 hb0 Tryz.func101 rfl rfl ?_
 cases h
 exact hS3.gv
theorem body101 : bodyB Tryz.prog 101 = true := by kernel_rfl
theorem body102 : bodyB Tryz.prog 102 = true := by kernel_rfl
def share_valid_l1 (n : Nat) (a0 : List TShare) (J0 : Nat → Option (Bool ⊕ Unit)) : Nat → Option (Bool ⊕ Unit)
  | i0 => (if i0 < a0.length then (a0[i0]?).bind fun x0 => (share_valid_1_p n x0).bind fun y0 => (if y0 = true then J0 (i0 + 1) else some (.inl false)) else some (.inr ()))
def share_valid_p (n : Nat) (a0 : List TShare) : Option Bool :=
  thn (loopF (share_valid_l1 n a0) n 0) (fun _ => some true)
theorem share_valid_c (n : Nat) (L : List Nat) (w : World) (hL : ∀ b ∈ L, b < w.heap.size) (a0 : List TShare) {v0_0 : Value} (h0_0 : Rep.R w L [v0_0] a0)  {r : Bool} (h : share_valid_p n a0 = some r) :
    Calls Tryz.prog 80 #[v0_0] w (Gives w fun _ u => u = .bool r) := by
 unfold share_valid_p at h
 have hS0 := St.start w
 refine MX.start Tryz.func80 rfl rfl rfl (fun _ cs0 hb0 => ?_)
 refine MX.sr <| RG.so rfl <| RG.nil <| MX.sr <| RG.so rfl <| RG.nil ?_
 refine MX.sr <| RG.mo rfl <| RG.mo rfl <| RG.enterP (fst := []) (cap := []) (vs := [.func (.func 101) #[] #[], v0_0]) .plain body102 Tryz.func102 rfl rfl rfl rfl (e2 rfl rfl) rfl (fun cs2 hb1 hp3 => ?_)
 refine MX.sr <| RG.so rfl <| RG.nil <| MX.seq <| MX.sr <| RG.mo rfl ?_
 have hl4 : a0.length ≤ 281474976710656 := Rep.lenle h0_0
 refine RG.va (FV.len (xs := a0) Tryz.underlying31 rfl h0_0) <| RG.mo rfl <| RG.nil <| MX.block ?_
 obtain ⟨o0, ho34, hh36⟩ := thn_in h
 refine MX.loop (α := Nat) (fun i0 => [(0, .func (.func 101) #[] #[]), (7, v0_0), (8, vI ((a0.length : Nat) : Int)), (9, vI ((i0 : Nat) : Int))]) (fun i0 wx0 => St w wx0 [] ∧ Tr w [] wx0 []) (fun i0 => i0) 0 ho34 ⟨rfl, rfl, rfl, rfl, trivial⟩ ⟨hS0, Tr.refl _ _⟩ ?_
 rintro J0 i0 wx0 hJ38 ⟨hS1, hT0⟩ h
 unfold share_valid_l1 at h
 try dsimp only at h
 refine MX.sr <| RG.va (FV.lssN (i := i0) (j := a0.length) rfl rfl) <| RG.nil <| MX.seq <| MX.ifd rfl h (fun c0 h => ?_) (fun c0 h => ?_)
 refine MX.skip <| MX.seq <| MX.block <| MX.sr ?_
 obtain ⟨x0, hx0, h⟩ := bind_in h
 have hm0 := Rep.mv0 h0_0 hS1
 obtain ⟨A41, c1, he0, hk0, cs1, hr0, hm1⟩ := Rep.nth hm0 hx0
 obtain rfl := op_TShare hr0
 refine RG.va (FV.ia 16 i0 rfl he0 rfl rfl hk0) <| RG.va (FV.lN rfl hm1) <| RG.new .plain rfl (Does.alloc (zs := [.int .u64 0, .int .u64 0, .int .u64 0, .int .u64 0, .int .u64 0, .int .u64 0, .int .u64 0, .int .u64 0, .int .u64 0, .int .u64 0, .int .u64 0, .int .u64 0, .int .u64 0, .int .u64 0, .int .u64 0, .int .u64 0]) hS1 (zB (by kernel_rfl))) (fun w0 b0 hS2 hT1 => ?_)
 refine RG.now .plain (Acts.storeAll (news := (cs_TShare x0)) hS2 .hd rfl rfl rfl rfl rfl rfl (onesB rfl)) (fun w1 hS3 hT2 => ?_)
 refine RG.nil <| MX.sr <| RG.mo rfl <| RG.va (FV.lN rfl (hS3.memA .hd)) ?_
 obtain ⟨y0, hy0, h⟩ := bind_in h
 refine RG.cq (.bool y0) body101 rfl (e1 rfl) (fun w9 hw9 => share_valid_1_c n _ w9 (hS3.hL0 hL hw9) x0 hy0) rfl <| RG.va (FV.not rfl) <| RG.nil <| MX.ifnb rfl h (fun c2 h => ?_) (fun c2 h => ?_)
 refine MX.skip <| MX.inBlock <| MX.region <| RG.va (FV.addN (i := i0) (j := 1) rfl rfl (by omega)) <| RG.mo rfl <| RG.nil ?_
 obtain ⟨hS4, hT3⟩ := St.arrB hS3 .done
 have hq61 := Tr.trans hT1 (Tr.trans hT2 hT3)
 exact hJ38 (i0 + 1) _ _ ⟨rfl, rfl, rfl, rfl, trivial⟩ ⟨hS4, (Tr.trans hT0 hq61)⟩ h
 refine MX.sr <| RG.so rfl <| RG.nil ?_
 have h := thn_inl h hh36
 refine MX.ret rfl <| RT.leave (u := .bool false) hb1 Tryz.func102 rfl (.cons (.tmp rfl) .nil) rfl <| RG.so rfl <| RG.nil <| MX.ret rfl <| RT.t1 hb0 Tryz.func80 rfl rfl ?_
 cases h
 exact hS3.gv
 refine MX.exit rfl ?_
 have h := thn_inr h hh36
 try dsimp only at h
 refine MX.sr <| RG.so rfl <| RG.nil <| MX.ret rfl <| RT.leave (u := .bool true) hb1 Tryz.func102 rfl (.cons (.tmp rfl) .nil) rfl <| RG.so rfl ?_
 refine RG.nil <| MX.ret rfl <| RT.t1 hb0 Tryz.func80 rfl rfl ?_
 cases h
 exact hS1.gv
def tb56_1 : List (Nat × Nat × Nat) := [(0, 8, 2), (1, 16, 8), (2, 32, 16), (0, 64, 2), (8, 128, 64), (20, 256, 160), (63, 0, 260)]
def share_Ratio_Turned_p (n : Nat) (a0 : TRatio) : Option TRatio :=
  (wide_Long_Turned_p n a0.fLong).bind fun y0 => some (⟨y0, a0.fUnder⟩ : TRatio)
theorem share_Ratio_Turned_c (n : Nat) (L : List Nat) (w : World) (hL : ∀ b ∈ L, b < w.heap.size) (a0 : TRatio) {v0_1 : Value} (h0_1 : Rep.R w L [v0_1] a0.fLong.fWords) {v0_3 : Value} (h0_3 : Rep.R w L [v0_3] a0.fUnder.fWords)  {r : TRatio} (h : share_Ratio_Turned_p n a0 = some r) :
    Calls Tryz.prog 56 #[.agg #[.bool a0.fLong.fBelow, v0_1, .bool a0.fUnder.fBelow, v0_3]] w (Gives w fun w' u => ∃ v0_1 v0_3 : Value, u = .agg #[.bool r.fLong.fBelow, v0_1, .bool r.fUnder.fBelow, v0_3] ∧ Rep.R w' L [v0_1] r.fLong.fWords ∧ Rep.R w' L [v0_3] r.fUnder.fWords) := by
 unfold share_Ratio_Turned_p at h
 have hS0 := St.start w
 refine MX.start Tryz.func56 rfl rfl rfl (fun _ cs0 hb0 => ?_)
 refine MX.sr <| RG.new .plain rfl (Does.box (vs := [.bool a0.fLong.fBelow, v0_1, .bool a0.fUnder.fBelow, v0_3]) hS0 rfl rfl) (fun w2 b5 hS3 hT4 => ?_)
 refine RG.new .plain rfl (Does.alloc (zs := [.bool false, vN, .bool false, vN]) hS3 (zB (by kernel_rfl))) (fun w7 b0 hS8 hT9 => ?_)
 refine RG.nil <| MX.seq <| MX.drawT 6 tb56_1 (by kernel_rfl) (by kernel_rfl) (by kernel_rfl) (fun kt0 kp0 => ?_)
 refine RD.vw 0 1 kt0 rfl kp0 (fun _ => FV.fa 0 rfl) rfl <| RD.vx 1 3 100 kt0 rfl kp0 (FV.loadN (cs := [.bool a0.fLong.fBelow, v0_1]) (by kernel_rfl) rfl (mem_part (hS8.memA (.tl .hd)) 0 2)) rfl <| RD.vw 3 11 kt0 rfl kp0 (fun _ => FV.fa 2 rfl) rfl <| RD.vx 4 27 96 kt0 rfl kp0 (FV.loadN (cs := [.bool a0.fUnder.fBelow, v0_3]) (by kernel_rfl) rfl (mem_part (hS8.memA (.tl .hd)) 2 2)) rfl ?_
 obtain ⟨y0, hy0, h⟩ := bind_in h
 refine RD.cl 2 31 kt0 rfl .plain body82 rfl (e1 rfl) (fun w9 hw9 => wide_Long_Turned_c n _ w9 (hS8.hL hL hw9) a0.fLong (hS8.km h0_1 hw9) hy0) rfl (fun w0 vu0 hag0 ⟨v0, hu_, hr0⟩ => ?_)
 subst hu_
 obtain ⟨hS1, hT0⟩ := hS8.agr hag0
 obtain ⟨A21, c0, hv23, _⟩ := Rep.sl hr0
 have hm0 := Rep.mv0 h0_3 hS1
 obtain ⟨A24, c1, hv26, _⟩ := Rep.sl hm0
 refine RD.vw 5 63 kt0 rfl kp0 (fun _ => FV.buildV (vs := [.agg #[.bool y0.fBelow, v0], .agg #[.bool a0.fUnder.fBelow, v0_3]]) (u := .agg #[.bool y0.fBelow, v0, .bool a0.fUnder.fBelow, v0_3]) (e2 rfl rfl) (fun w9 => by rw [hv23, hv26]; try kernel_rfl)) rfl <| RD.nw 6 127 kt0 rfl rfl .plain (Acts.storeAll (news := [.bool y0.fBelow, v0, .bool a0.fUnder.fBelow, v0_3]) hS1 .hd rfl rfl rfl rfl rfl rfl (o4 rfl (Rep.o1 hr0) rfl (Rep.o1 hm0))) (fun w1 hS2 hT1 => ?_)
 refine RD.done (doneD_ok kt0 (by kernel_rfl)) <| MX.ret rfl <| RT.leave hb0 Tryz.func56 rfl (.cons (.many (cs := [.bool y0.fBelow, v0, .bool a0.fUnder.fBelow, v0_3]) (by kernel_rfl) rfl (hS2.memA .hd)) .nil) rfl ?_
 cases h
 have hm1 := Rep.mv hr0 hT1
 exact ⟨hS2.ag, fun w9 hw9 => ⟨v0, v0_3, rfl, hS2.kd hm1 hw9, hS2.k0 h0_3 hw9⟩⟩
def math_bits_Mul64_p (_n : Nat) (a0 : UInt64) (a1 : UInt64) : Option (UInt64 × UInt64) :=
  (some (((shrU a0 32) * (a1 &&& (4294967295 : UInt64))) + (shrU ((a0 &&& (4294967295 : UInt64)) * (a1 &&& (4294967295 : UInt64))) 32))).bind fun u1 => (some (shrU ((u1 &&& (4294967295 : UInt64)) + ((a0 &&& (4294967295 : UInt64)) * (shrU a1 32))) 32)).bind fun u2 => some ((((shrU a0 32) * (shrU a1 32)) + (shrU u1 32)) + u2, a0 * a1)
theorem math_bits_Mul64_c (n : Nat) (L : List Nat) (w : World) (_hL : ∀ b ∈ L, b < w.heap.size) (a0 : UInt64) (a1 : UInt64)  {r : UInt64 × UInt64} (h : math_bits_Mul64_p n a0 a1 = some r) :
    Calls Tryz.prog 123 #[.int .u64 (a0.toNat : Int), .int .u64 (a1.toNat : Int)] w (Gives w fun _ u => u = .tuple #[.int .u64 (r.1.toNat : Int), .int .u64 (r.2.toNat : Int)]) := by
 unfold math_bits_Mul64_p at h
 have hS0 := St.start w
 refine MX.start Tryz.func123 rfl rfl rfl (fun _ cs0 hb0 => ?_)
 refine MX.sr <| RG.so rfl <| RG.so rfl <| RG.nil <| MX.sr <| RG.mo rfl ?_
 refine RG.va (FV.andU (a := a0) (b := (4294967295 : UInt64)) rfl rfl) <| RG.so rfl <| RG.nil <| MX.sr <| RG.mo rfl <| RG.va (FV.shrU (a := a0) (j := 32) rfl rfl) ?_
 refine RG.so rfl <| RG.nil <| MX.sr <| RG.mo rfl <| RG.va (FV.andU (a := a1) (b := (4294967295 : UInt64)) rfl rfl) <| RG.so rfl ?_
 refine RG.nil <| MX.sr <| RG.mo rfl <| RG.va (FV.shrU (a := a1) (j := 32) rfl rfl) <| RG.so rfl <| RG.nil ?_
 refine MX.sr <| RG.mo rfl <| RG.mo rfl <| RG.va (FV.mulU (a := a0 &&& (4294967295 : UInt64)) (b := a1 &&& (4294967295 : UInt64)) rfl rfl) <| RG.so rfl <| RG.nil ?_
 refine MX.sr <| RG.mo rfl <| RG.mo rfl <| RG.va (FV.mulU (a := shrU a0 32) (b := a1 &&& (4294967295 : UInt64)) rfl rfl) <| RG.mo rfl <| RG.va (FV.shrU (a := (a0 &&& (4294967295 : UInt64)) * (a1 &&& (4294967295 : UInt64))) (j := 32) rfl rfl) ?_
 obtain ⟨u1, hu1, h⟩ := bind_in h
 refine RG.va (FV.as (FV.addU (a := (shrU a0 32) * (a1 &&& (4294967295 : UInt64))) (b := shrU ((a0 &&& (4294967295 : UInt64)) * (a1 &&& (4294967295 : UInt64))) 32) rfl rfl) (congrArg (fun z : UInt64 => Value.int .u64 (z.toNat : Int)) (Option.some.inj hu1))) <| RG.so rfl <| RG.nil <| MX.sr <| RG.mo rfl <| RG.va (FV.andU (a := u1) (b := (4294967295 : UInt64)) rfl rfl) ?_
 refine RG.so rfl <| RG.nil <| MX.sr <| RG.mo rfl <| RG.va (FV.shrU (a := u1) (j := 32) rfl rfl) <| RG.so rfl ?_
 refine RG.nil <| MX.sr <| RG.mo rfl <| RG.mo rfl <| RG.mo rfl <| RG.va (FV.mulU (a := a0 &&& (4294967295 : UInt64)) (b := shrU a1 32) rfl rfl) ?_
 refine RG.va (FV.addU (a := u1 &&& (4294967295 : UInt64)) (b := (a0 &&& (4294967295 : UInt64)) * (shrU a1 32)) rfl rfl) <| RG.so rfl <| RG.nil <| MX.sr <| RG.mo rfl <| RG.mo rfl ?_
 refine RG.va (FV.mulU (a := shrU a0 32) (b := shrU a1 32) rfl rfl) <| RG.mo rfl <| RG.va (FV.addU (a := (shrU a0 32) * (shrU a1 32)) (b := shrU u1 32) rfl rfl) <| RG.mo rfl ?_
 obtain ⟨u2, hu2, h⟩ := bind_in h
 refine RG.va (FV.as (FV.shrU (a := (u1 &&& (4294967295 : UInt64)) + ((a0 &&& (4294967295 : UInt64)) * (shrU a1 32))) (j := 32) rfl rfl) (congrArg (fun z : UInt64 => Value.int .u64 (z.toNat : Int)) (Option.some.inj hu2))) <| RG.va (FV.addU (a := ((shrU a0 32) * (shrU a1 32)) + (shrU u1 32)) (b := u2) rfl rfl) <| RG.so rfl <| RG.nil <| MX.sr <| RG.mo rfl ?_
 refine RG.mo rfl <| RG.va (FV.mulU (a := a0) (b := a1) rfl rfl) <| RG.so rfl <| RG.nil <| MX.ret rfl <| RT.leave hb0 Tryz.func123 rfl (.cons (.tmp rfl) (.cons (.tmp rfl) .nil)) rfl ?_
 cases h
 exact hS0.gv
theorem body123 : bodyB Tryz.prog 123 = true := by kernel_rfl
def wide_multiplied_l1 (n : Nat) (a1 : List UInt64) (x0 : UInt64) (i0 : Nat) (J0 : UInt64 × Nat × (List UInt64) → Option ((List UInt64) × UInt64)) : UInt64 × Nat × (List UInt64) → Option ((List UInt64) × UInt64)
  | (u0, i1, xs0) => (if i1 < a1.length then (a1[i1]?).bind fun x1 => (math_bits_Mul64_p n x0 x1).bind fun y0 => (xs0[i0 + i1]?).bind fun x2 => (add64 x2 y0.2 (0 : UInt64)).bind fun z0 => (add64 z0.1 u0 (0 : UInt64)).bind fun z1 => (put xs0 ((i0 + i1 : Nat) : Int) z1.1).bind fun xs1 => J0 ((y0.1 + z0.2) + z1.2, i1 + 1, xs1) else some (xs0, u0))
def wide_multiplied_l2 (n : Nat) (a0 : List UInt64) (a1 : List UInt64) (J0 : Nat × (List UInt64) → Option (List UInt64)) : Nat × (List UInt64) → Option (List UInt64)
  | (i0, xs0) => (if i0 < a0.length then (a0[i0]?).bind fun x0 => Option.bind (loopF (wide_multiplied_l1 n a1 x0 i0) n ((0 : UInt64), 0, xs0)) (fun (xs1, u0) => (xs1[i0 + a1.length]?).bind fun x1 => (put xs1 ((i0 + a1.length : Nat) : Int) u0).bind fun xs2 => J0 (i0 + 1, xs2)) else some xs0)
def wide_multiplied_p (n : Nat) (a0 : List UInt64) (a1 : List UInt64) : Option (List UInt64) :=
  (mk ((a0.length + a1.length : Nat) : Int) (0 : UInt64)).bind fun xs4 => Option.bind (loopF (wide_multiplied_l2 n a0 a1) n (0, xs4)) (fun xs0 => some xs0)
theorem wide_multiplied_c (n : Nat) (L : List Nat) (w : World) (hL : ∀ b ∈ L, b < w.heap.size) (a0 : List UInt64) {v0_0 : Value} (h0_0 : Rep.R w L [v0_0] a0) (a1 : List UInt64) {v1_0 : Value} (h1_0 : Rep.R w L [v1_0] a1)  {r : List UInt64} (h : wide_multiplied_p n a0 a1 = some r) :
    Calls Tryz.prog 112 #[v0_0, v1_0] w (Gives w fun w' u => ∃ v0_0 : Value, u = v0_0 ∧ Rep.R w' L [v0_0] r) := by
 unfold wide_multiplied_p at h
 have hS0 := St.start w
 refine MX.start Tryz.func112 rfl rfl rfl (fun _ cs0 hb0 => ?_)
 refine MX.sr <| RG.so rfl <| RG.nil <| MX.sr <| RG.mo rfl ?_
 have hl1 : a0.length ≤ 281474976710656 := Rep.lenle h0_0
 refine RG.va (FV.len (xs := a0) Tryz.underlying98 rfl h0_0) <| RG.mo rfl ?_
 have hl2 : a1.length ≤ 281474976710656 := Rep.lenle h1_0
 refine RG.va (FV.len (xs := a1) Tryz.underlying98 rfl h1_0) <| RG.va (FV.addN (i := a0.length) (j := a1.length) rfl rfl (by omega)) ?_
 obtain ⟨xs4, hxs4, h⟩ := bind_in h
 refine RG.new .plain rfl (Does.mk (α := UInt64) hxs4 hS0 el98 rfl) (fun w5 b8 hS6 hT7 => ?_)
 have hc9 := Cells.at_ (cs := (List.replicate ((a0.length + a1.length : Nat) : Int).toNat [.int .u64 0]).flatten) (xs := xs4) hS6 L (Cells.mk hxs4 rfl)
 refine RG.so rfl <| RG.nil <| MX.seq <| MX.sr <| RG.mo rfl ?_
 have hm0 := Rep.mv0 h0_0 hS6
 refine RG.va (FV.len (xs := a0) Tryz.underlying98 rfl hm0) <| RG.mo rfl <| RG.nil <| MX.block ?_
 obtain ⟨o0, ho341, hh343⟩ := bind_in2 h
 refine MX.loop (α := Nat × (List UInt64) × (List Value)) (fun ⟨i0, xs0, cs1⟩ => [(1, v1_0), (5, (.slice (some ⟨b8, 0, none⟩) ((a0.length + a1.length : Nat) : Int).toNat ((a0.length + a1.length : Nat) : Int).toNat)), (22, v0_0), (23, vI ((a0.length : Nat) : Int)), (24, vI ((i0 : Nat) : Int))]) (fun ⟨i0, xs0, cs1⟩ wx0 => St w wx0 [.row w.heap.size 35 (Rep.size UInt64) (.slice (some ⟨b8, 0, none⟩) ((a0.length + a1.length : Nat) : Int).toNat ((a0.length + a1.length : Nat) : Int).toNat) xs0.length cs1] ∧ Tr w5 [.row w.heap.size 35 (Rep.size UInt64) (.slice (some ⟨b8, 0, none⟩) ((a0.length + a1.length : Nat) : Int).toNat ((a0.length + a1.length : Nat) : Int).toNat) xs4.length ((List.replicate ((a0.length + a1.length : Nat) : Int).toNat [.int .u64 0]).flatten)] wx0 [.row w.heap.size 35 (Rep.size UInt64) (.slice (some ⟨b8, 0, none⟩) ((a0.length + a1.length : Nat) : Int).toNat ((a0.length + a1.length : Nat) : Int).toNat) xs0.length cs1] ∧ Cells wx0 (bl [.row w.heap.size 35 (Rep.size UInt64) (.slice (some ⟨b8, 0, none⟩) ((a0.length + a1.length : Nat) : Int).toNat ((a0.length + a1.length : Nat) : Int).toNat) xs0.length cs1] ++ L) cs1 xs0) (fun ⟨i0, xs0, cs1⟩ => (i0, xs0)) (0, xs4, (List.replicate ((a0.length + a1.length : Nat) : Int).toNat [.int .u64 0]).flatten) ho341 ⟨rfl, rfl, rfl, rfl, rfl, trivial⟩ ⟨hS6, Tr.refl _ _, hc9⟩ ?_
 rintro J0 ⟨i0, xs0, cs1⟩ wx0 hJ345 ⟨hS1, hT0, hc0⟩ h
 unfold wide_multiplied_l2 at h
 try dsimp only at h
 refine MX.sr <| RG.va (FV.lssN (i := i0) (j := a0.length) rfl rfl) <| RG.nil <| MX.seq <| MX.ifd rfl h (fun c0 h => ?_) (fun c0 h => ?_)
 refine MX.skip <| MX.seq <| MX.block <| MX.sr <| RG.mo rfl ?_
 obtain ⟨x0, hx0, h⟩ := bind_in h
 have hm1 := Rep.mv0 h0_0 hS1
 obtain ⟨A348, c1, he0, hk0, cs2, hr0, hm2⟩ := Rep.nth hm1 hx0
 have he1 : cs2 = [.int .u64 (x0.toNat : Int)] := hr0; subst he1
 refine RG.va (FV.ia 1 i0 rfl he0 rfl rfl hk0) <| RG.l1 rfl (hm2 0 _ rfl) <| RG.so rfl <| RG.so rfl <| RG.nil <| MX.sr ?_
 refine RG.so rfl <| RG.nil <| MX.seq <| MX.sr <| RG.mo rfl ?_
 have hm3 := Rep.mv0 h1_0 hS1
 refine RG.va (FV.len (xs := a1) Tryz.underlying98 rfl hm3) <| RG.mo rfl <| RG.nil <| MX.block ?_
 obtain ⟨o1, ho445, hh447⟩ := bind_in2 h
 refine MX.loop (α := UInt64 × Nat × (List UInt64) × (List Value)) (fun ⟨u0, i1, xs1, cs3⟩ => [(1, v1_0), (5, (.slice (some ⟨b8, 0, none⟩) ((a0.length + a1.length : Nat) : Int).toNat ((a0.length + a1.length : Nat) : Int).toNat)), (22, v0_0), (23, vI ((a0.length : Nat) : Int)), (24, vI ((i0 : Nat) : Int)), (6, vI ((i0 : Nat) : Int)), (7, .int .u64 (x0.toNat : Int)), (8, .int .u64 (u0.toNat : Int)), (29, v1_0), (30, vI ((a1.length : Nat) : Int)), (31, vI ((i1 : Nat) : Int))]) (fun ⟨u0, i1, xs1, cs3⟩ wx1 => St w wx1 [.row w.heap.size 35 (Rep.size UInt64) (.slice (some ⟨b8, 0, none⟩) ((a0.length + a1.length : Nat) : Int).toNat ((a0.length + a1.length : Nat) : Int).toNat) xs1.length cs3] ∧ Tr wx0 [.row w.heap.size 35 (Rep.size UInt64) (.slice (some ⟨b8, 0, none⟩) ((a0.length + a1.length : Nat) : Int).toNat ((a0.length + a1.length : Nat) : Int).toNat) xs0.length cs1] wx1 [.row w.heap.size 35 (Rep.size UInt64) (.slice (some ⟨b8, 0, none⟩) ((a0.length + a1.length : Nat) : Int).toNat ((a0.length + a1.length : Nat) : Int).toNat) xs1.length cs3] ∧ Cells wx1 (bl [.row w.heap.size 35 (Rep.size UInt64) (.slice (some ⟨b8, 0, none⟩) ((a0.length + a1.length : Nat) : Int).toNat ((a0.length + a1.length : Nat) : Int).toNat) xs1.length cs3] ++ L) cs3 xs1) (fun ⟨u0, i1, xs1, cs3⟩ => (u0, i1, xs1)) ((0 : UInt64), 0, xs0, cs1) ho445 ⟨rfl, rfl, rfl, rfl, rfl, rfl, rfl, rfl, rfl, rfl, rfl, trivial⟩ ⟨hS1, Tr.refl _ _, hc0⟩ ?_
 rintro J1 ⟨u0, i1, xs1, cs3⟩ wx1 hJ449 ⟨hS2, hT1, hc1⟩ h
 unfold wide_multiplied_l1 at h
 try dsimp only at h
 refine MX.sr <| RG.va (FV.lssN (i := i1) (j := a1.length) rfl rfl) <| RG.nil <| MX.seq <| MX.ifd rfl h (fun c2 h => ?_) (fun c2 h => ?_)
 refine MX.skip <| MX.seq <| MX.block <| MX.sr <| RG.mo rfl ?_
 obtain ⟨x1, hx1, h⟩ := bind_in h
 have hm4 := Rep.mv0 h1_0 hS2
 obtain ⟨A452, c3, he2, hk1, cs4, hr1, hm5⟩ := Rep.nth hm4 hx1
 have he3 : cs4 = [.int .u64 (x1.toNat : Int)] := hr1; subst he3
 refine RG.va (FV.ia 1 i1 rfl he2 rfl rfl hk1) <| RG.l1 rfl (hm5 0 _ rfl) <| RG.so rfl <| RG.so rfl <| RG.nil <| MX.sr ?_
 refine RG.mo rfl <| RG.mo rfl ?_
 obtain ⟨y0, hy0, h⟩ := bind_in h
 refine RG.cq (.tuple #[.int .u64 (y0.1.toNat : Int), .int .u64 (y0.2.toNat : Int)]) body123 rfl (e2 rfl rfl) (fun w9 hw9 => math_bits_Mul64_c n _ w9 (hS2.hL0 hL hw9) x0 x1 hy0) rfl <| RG.mo rfl <| RG.va (FV.extract rfl rfl) <| RG.va (FV.extract rfl rfl) <| RG.so rfl <| RG.so rfl ?_
 refine RG.nil <| MX.sr <| RG.mo rfl <| RG.mo rfl <| RG.mo rfl <| RG.va (FV.addN (i := i0) (j := i1) rfl rfl (by omega)) ?_
 obtain ⟨x2, hx2, h⟩ := bind_in h
 obtain ⟨A463, c4, he4, hk2, cs5, hr2, hm6⟩ := St.nth (α := UInt64) hS2 .hd hc1 hx2
 obtain ⟨b0, c5, he5⟩ := St.nthOwn (α := UInt64) hS2 .hd hk2
 obtain rfl : A463 = ⟨b0, 0, none⟩ := by rw [he5] at he4; cases he4; rfl
 have he6 : cs5 = [.int .u64 (x2.toNat : Int)] := hr2; subst he6
 refine RG.va (FV.ia 1 (i0 + i1) rfl he4 rfl rfl hk2) <| RG.l1 rfl (hm6 0 _ rfl) <| RG.mo rfl ?_
 obtain ⟨z0, hz474, h⟩ := bind_in h
 refine RG.va (FV.add64 (a := x2) (b := y0.2) (c := (0 : UInt64)) Tryz.func124 rfl (by kernel_rfl) (by kernel_rfl) (by kernel_rfl) rfl rfl rfl hz474) <| RG.mo rfl <| RG.va (FV.extract rfl rfl) <| RG.va (FV.extract rfl rfl) <| RG.so rfl <| RG.so rfl ?_
 refine RG.nil <| MX.sr <| RG.mo rfl <| RG.mo rfl ?_
 obtain ⟨z1, hz475, h⟩ := bind_in h
 refine RG.va (FV.add64 (a := z0.1) (b := u0) (c := (0 : UInt64)) Tryz.func124 rfl (by kernel_rfl) (by kernel_rfl) (by kernel_rfl) rfl rfl rfl hz475) <| RG.mo rfl <| RG.va (FV.extract rfl rfl) <| RG.va (FV.extract rfl rfl) <| RG.so rfl <| RG.so rfl ?_
 refine RG.nil <| MX.region <| RG.mo rfl <| RG.mo rfl <| RG.mo rfl <| RG.va (FV.addN (i := i0) (j := i1) rfl rfl (by omega)) ?_
 refine RG.mo rfl <| RG.mo rfl <| RG.mo rfl <| RG.va (FV.addU (a := y0.1) (b := z0.2) rfl rfl) <| RG.mo rfl <| RG.va (FV.addU (a := y0.1 + z0.2) (b := z1.2) rfl rfl) ?_
 refine RG.va (FV.ia 1 (i0 + i1) rfl he4 rfl rfl hk2) ?_
 obtain ⟨xs2, hxs476, h⟩ := bind_in h
 refine RG.acts' .plain (Acts.set (α := UInt64) (i := i0 + i1) hxs476 hS2 he5 (fun _ => .hd) hc1 rfl rfl rfl rfl rfl (by kernel_rfl)) (fun w0 ⟨cs6, hS3, hT2, hc2⟩ => ?_)
 refine RG.so rfl <| RG.nil <| MX.inBlock <| MX.region <| RG.va (FV.addN (i := i1) (j := 1) rfl rfl (by omega)) <| RG.mo rfl ?_
 refine RG.nil ?_
 exact hJ449 ((y0.1 + z0.2) + z1.2, i1 + 1, xs2, cs6) _ _ ⟨rfl, rfl, rfl, rfl, rfl, rfl, rfl, rfl, rfl, rfl, rfl, trivial⟩ ⟨hS3, (Tr.trans hT1 hT2), hc2⟩ h
 refine MX.exit rfl ?_
 have h := hh447 _ h
 try dsimp only at h
 refine MX.region <| RG.mo rfl <| RG.mo rfl <| RG.mo rfl ?_
 have hm7 := Rep.mv0 h1_0 hS2
 refine RG.va (FV.len (xs := a1) Tryz.underlying98 rfl hm7) <| RG.va (FV.addN (i := i0) (j := a1.length) rfl rfl (by omega)) <| RG.mo rfl ?_
 obtain ⟨x3, hx3, h⟩ := bind_in h
 obtain ⟨A484, c6, he7, hk3, cs7, hr3, hm8⟩ := St.nth (α := UInt64) hS2 .hd hc1 hx3
 obtain ⟨b1, c7, he8⟩ := St.nthOwn (α := UInt64) hS2 .hd hk3
 obtain rfl : A484 = ⟨b1, 0, none⟩ := by rw [he8] at he7; cases he7; rfl
 have he9 : cs7 = [.int .u64 (x3.toNat : Int)] := hr3; subst he9
 refine RG.va (FV.ia 1 (i0 + a1.length) rfl he7 rfl rfl hk3) ?_
 obtain ⟨xs3, hxs495, h⟩ := bind_in h
 refine RG.acts' .plain (Acts.set (α := UInt64) (i := i0 + a1.length) hxs495 hS2 he8 (fun _ => .hd) hc1 rfl rfl rfl rfl rfl (by kernel_rfl)) (fun w1 ⟨cs8, hS4, hT3, hc3⟩ => ?_)
 refine RG.nil <| MX.inBlock <| MX.region <| RG.va (FV.addN (i := i0) (j := 1) rfl rfl (by omega)) <| RG.mo rfl <| RG.nil ?_
 exact hJ345 (i0 + 1, xs3, cs8) _ _ ⟨rfl, rfl, rfl, rfl, rfl, trivial⟩ ⟨hS4, (Tr.trans hT0 (Tr.trans hT1 hT3)), hc3⟩ h
 refine MX.exit rfl ?_
 have h := hh343 _ h
 try dsimp only at h
 refine MX.sr <| RG.mo rfl <| RG.so rfl <| RG.nil <| MX.ret rfl ?_
 have hr4 := St.freeze (α := UInt64) hS1 .hd hc0 hL
 have hS5 := St.delS hS1 .hd
 have hT4 := St.delT hS1 .hd
 have hr5 := Rep.at_ (α := UInt64) (v := (.slice (some ⟨b8, 0, none⟩) ((a0.length + a1.length : Nat) : Int).toNat ((a0.length + a1.length : Nat) : Int).toNat)) (xs := xs0) hS5 L hr4
 refine RT.t1 hb0 Tryz.func112 rfl rfl ?_
 cases h
 exact ⟨hS5.ag, fun w9 hw9 => ⟨(.slice (some ⟨b8, 0, none⟩) ((a0.length + a1.length : Nat) : Int).toNat ((a0.length + a1.length : Nat) : Int).toNat), rfl, hS5.kd hr5 hw9⟩⟩
def tb89_1 : List (Nat × Nat × Nat) := [(0, 32, 4), (1, 64, 32), (0, 128, 8), (4, 256, 128), (10, 512, 320), (0, 1024, 4), (32, 2048, 1024), (0, 4096, 8), (128, 8192, 4096), (320, 16384, 10240), (528, 32768, 16896), (2047, 0, 32784)]
theorem body112 : bodyB Tryz.prog 112 = true := by kernel_rfl
def wide_Long_Times_p (n : Nat) (a0 : TLong) (a1 : TLong) : Option TLong :=
  (wide_multiplied_p n a0.fWords a1.fWords).bind fun y0 => (wide_trimmed_p n (!(a0.fBelow == a1.fBelow)) y0).bind fun y1 => some y1
theorem wide_Long_Times_c (n : Nat) (L : List Nat) (w : World) (hL : ∀ b ∈ L, b < w.heap.size) (a0 : TLong) {v0_1 : Value} (h0_1 : Rep.R w L [v0_1] a0.fWords) (a1 : TLong) {v1_1 : Value} (h1_1 : Rep.R w L [v1_1] a1.fWords)  {r : TLong} (h : wide_Long_Times_p n a0 a1 = some r) :
    Calls Tryz.prog 89 #[.agg #[.bool a0.fBelow, v0_1], .agg #[.bool a1.fBelow, v1_1]] w (Gives w fun w' u => ∃ v0_1 : Value, u = .agg #[.bool r.fBelow, v0_1] ∧ Rep.R w' L [v0_1] r.fWords) := by
 unfold wide_Long_Times_p at h
 have hS0 := St.start w
 refine MX.start Tryz.func89 rfl rfl rfl (fun _ cs0 hb0 => ?_)
 refine MX.sr <| RG.new .plain rfl (Does.box (vs := [.bool a0.fBelow, v0_1]) hS0 rfl rfl) (fun w2 b5 hS3 hT4 => ?_)
 refine RG.new .plain rfl (Does.box (vs := [.bool a1.fBelow, v1_1]) hS3 rfl rfl) (fun w7 b0 hS8 hT9 => ?_)
 refine RG.new .plain rfl (Does.alloc (zs := [.bool false, vN]) hS8 (zB (by kernel_rfl))) (fun w0 b1 hS1 hT0 => ?_)
 refine RG.nil <| MX.seq <| MX.drawT 11 tb89_1 (by kernel_rfl) (by kernel_rfl) (by kernel_rfl) (fun kt0 kp0 => ?_)
 refine RD.vw 0 1 kt0 rfl kp0 (fun _ => FV.fa 0 rfl) rfl <| RD.vx 1 3 3088 kt0 rfl kp0 (FV.l1 rfl ((hS1.memA (.tl (.tl .hd))) 0 _ rfl)) rfl <| RD.vw 2 7 kt0 rfl kp0 (fun _ => FV.fa 0 rfl) rfl <| RD.vx 3 15 3088 kt0 rfl kp0 (FV.l1 rfl ((hS1.memA (.tl .hd)) 0 _ rfl)) rfl <| RD.vw 4 31 kt0 rfl kp0 (fun _ => FV.neqB (a := a0.fBelow) (b := a1.fBelow) Tryz.underlying4 rfl rfl) rfl <| RD.vw 5 63 kt0 rfl kp0 (fun _ => FV.fa 1 rfl) rfl ?_
 refine RD.vx 6 127 3584 kt0 rfl kp0 (FV.l1 rfl ((hS1.memA (.tl (.tl .hd))) 1 _ rfl)) rfl <| RD.vw 7 255 kt0 rfl kp0 (fun _ => FV.fa 1 rfl) rfl <| RD.vx 8 511 3584 kt0 rfl kp0 (FV.l1 rfl ((hS1.memA (.tl .hd)) 1 _ rfl)) rfl ?_
 obtain ⟨y0, hy0, h⟩ := bind_in h
 refine RD.cl 9 1023 kt0 rfl .plain body112 rfl (e2 rfl rfl) (fun w9 hw9 => wide_multiplied_c n _ w9 (hS1.hL hL hw9) a0.fWords (hS1.km h0_1 hw9) a1.fWords (hS1.km h1_1 hw9) hy0) rfl (fun w1 vu0 hag0 ⟨v0, hu_, hr0⟩ => ?_)
 subst hu_
 obtain ⟨hS2, hT1⟩ := hS1.agr hag0
 obtain ⟨y1, hy1, h⟩ := bind_in h
 refine RD.cl 10 2047 kt0 rfl .plain body103 rfl (e2 rfl rfl) (fun w9 hw9 => wide_trimmed_c n _ w9 (hS2.hL hL hw9) (!(a0.fBelow == a1.fBelow)) y0 (Rep.keep0 hr0 hw9) hy1) rfl (fun w3 vu1 hag1 ⟨v1, hu_, hr1⟩ => ?_)
 subst hu_
 obtain ⟨hS4, hT2⟩ := hS2.agr hag1
 refine RD.nw 11 4095 kt0 rfl rfl .plain (Acts.storeAll (news := [.bool y1.fBelow, v1]) hS4 .hd rfl rfl rfl rfl rfl rfl (o2 rfl (Rep.o1 hr1))) (fun w4 hS5 hT3 => ?_)
 refine RD.done (doneD_ok kt0 (by kernel_rfl)) <| MX.ret rfl <| RT.leave hb0 Tryz.func89 rfl (.cons (.many (cs := [.bool y1.fBelow, v1]) (by kernel_rfl) rfl (hS5.memA .hd)) .nil) rfl ?_
 cases h
 have hm0 := Rep.mv hr1 hT3
 exact ⟨hS5.ag, fun w9 hw9 => ⟨v1, rfl, hS5.kd hm0 hw9⟩⟩
def tb67_1 : List (Nat × Nat × Nat) := [(0, 32, 4), (1, 64, 32), (0, 128, 8), (4, 256, 128), (10, 512, 320), (0, 1024, 8), (32, 2048, 1024), (0, 4096, 4), (128, 8192, 4096), (336, 16384, 10240), (528, 32768, 16896), (2047, 16, 32768)]
theorem body89 : bodyB Tryz.prog 89 = true := by kernel_rfl
def share_Ratio_Cmp_p (n : Nat) (a0 : TRatio) (a1 : TRatio) : Option Int :=
  (wide_Long_Times_p n a0.fLong a1.fUnder).bind fun y0 => (wide_Long_Times_p n a1.fLong a0.fUnder).bind fun y1 => (wide_Long_Cmp_p n y0 y1).bind fun y2 => some y2
theorem share_Ratio_Cmp_c (n : Nat) (L : List Nat) (w : World) (hL : ∀ b ∈ L, b < w.heap.size) (a0 : TRatio) {v0_1 : Value} (h0_1 : Rep.R w L [v0_1] a0.fLong.fWords) {v0_3 : Value} (h0_3 : Rep.R w L [v0_3] a0.fUnder.fWords) (a1 : TRatio) {v1_1 : Value} (h1_1 : Rep.R w L [v1_1] a1.fLong.fWords) {v1_3 : Value} (h1_3 : Rep.R w L [v1_3] a1.fUnder.fWords)  {r : Int} (h : share_Ratio_Cmp_p n a0 a1 = some r) :
    Calls Tryz.prog 67 #[.agg #[.bool a0.fLong.fBelow, v0_1, .bool a0.fUnder.fBelow, v0_3], .agg #[.bool a1.fLong.fBelow, v1_1, .bool a1.fUnder.fBelow, v1_3]] w (Gives w fun _ u => u = vI r) := by
 unfold share_Ratio_Cmp_p at h
 have hS0 := St.start w
 refine MX.start Tryz.func67 rfl rfl rfl (fun _ cs0 hb0 => ?_)
 refine MX.sr <| RG.new .plain rfl (Does.box (vs := [.bool a0.fLong.fBelow, v0_1, .bool a0.fUnder.fBelow, v0_3]) hS0 rfl rfl) (fun w2 b5 hS3 hT4 => ?_)
 refine RG.new .plain rfl (Does.box (vs := [.bool a1.fLong.fBelow, v1_1, .bool a1.fUnder.fBelow, v1_3]) hS3 rfl rfl) (fun w7 b0 hS8 hT9 => ?_)
 refine RG.so rfl <| RG.nil <| MX.seq <| MX.drawT 12 tb67_1 (by kernel_rfl) (by kernel_rfl) (by kernel_rfl) (fun kt0 kp0 => ?_)
 refine RD.vw 0 1 kt0 rfl kp0 (fun _ => FV.fa 0 rfl) rfl <| RD.vx 1 3 3600 kt0 rfl kp0 (FV.loadN (cs := [.bool a0.fLong.fBelow, v0_1]) (by kernel_rfl) rfl (mem_part (hS8.memA (.tl .hd)) 0 2)) rfl <| RD.vw 2 7 kt0 rfl kp0 (fun _ => FV.fa 2 rfl) rfl <| RD.vx 3 15 3600 kt0 rfl kp0 (FV.loadN (cs := [.bool a1.fUnder.fBelow, v1_3]) (by kernel_rfl) rfl (mem_part (hS8.memA .hd) 2 2)) rfl <| RD.vw 5 47 kt0 rfl kp0 (fun _ => FV.fa 0 rfl) rfl <| RD.vx 6 111 3584 kt0 rfl kp0 (FV.loadN (cs := [.bool a1.fLong.fBelow, v1_1]) (by kernel_rfl) rfl (mem_part (hS8.memA .hd) 0 2)) rfl ?_
 refine RD.vw 7 239 kt0 rfl kp0 (fun _ => FV.fa 2 rfl) rfl <| RD.vx 8 495 3584 kt0 rfl kp0 (FV.loadN (cs := [.bool a0.fUnder.fBelow, v0_3]) (by kernel_rfl) rfl (mem_part (hS8.memA (.tl .hd)) 2 2)) rfl ?_
 obtain ⟨y0, hy0, h⟩ := bind_in h
 refine RD.cl 4 511 kt0 rfl .plain body89 rfl (e2 rfl rfl) (fun w9 hw9 => wide_Long_Times_c n _ w9 (hS8.hL hL hw9) a0.fLong (hS8.km h0_1 hw9) a1.fUnder (hS8.km h1_3 hw9) hy0) rfl (fun w0 vu0 hag0 ⟨v0, hu_, hr0⟩ => ?_)
 subst hu_
 obtain ⟨hS1, hT0⟩ := hS8.agr hag0
 obtain ⟨y1, hy1, h⟩ := bind_in h
 refine RD.cl 9 1023 kt0 rfl .plain body89 rfl (e2 rfl rfl) (fun w9 hw9 => wide_Long_Times_c n _ w9 (hS1.hL hL hw9) a1.fLong (hS1.km h1_1 hw9) a0.fUnder (hS1.km h0_3 hw9) hy1) rfl (fun w1 vu1 hag1 ⟨v1, hu_, hr1⟩ => ?_)
 subst hu_
 obtain ⟨hS2, hT1⟩ := hS1.agr hag1
 obtain ⟨y2, hy2, h⟩ := bind_in h
 have hm0 := Rep.mv hr0 hT1
 refine RD.cq 10 2047 2048 (vI y2) kt0 rfl kp0 body65 rfl (e2 rfl rfl) (fun w9 hw9 => wide_Long_Cmp_c n _ w9 (hS2.hL0 hL hw9) y0 (hS2.kd hm0 hw9) y1 (hS2.kd hr1 hw9) hy2) rfl <| RD.vw 11 4095 kt0 rfl kp0 (fun _ => FV.assign rfl) rfl <| RD.done (doneD_ok kt0 (by kernel_rfl)) <| MX.ret rfl <| RT.t1 hb0 Tryz.func67 rfl rfl ?_
 cases h
 exact hS2.gv
theorem body67 : bodyB Tryz.prog 67 = true := by kernel_rfl
def share_Ratio_lesser_p (n : Nat) (a0 : TRatio) (a1 : TRatio) : Option TRatio :=
  (share_Ratio_Cmp_p n a0 a1).bind fun y0 => (if y0 ≤ 0 then some a0 else some a1)
theorem share_Ratio_lesser_c (n : Nat) (L : List Nat) (w : World) (hL : ∀ b ∈ L, b < w.heap.size) (a0 : TRatio) {v0_1 : Value} (h0_1 : Rep.R w L [v0_1] a0.fLong.fWords) {v0_3 : Value} (h0_3 : Rep.R w L [v0_3] a0.fUnder.fWords) (a1 : TRatio) {v1_1 : Value} (h1_1 : Rep.R w L [v1_1] a1.fLong.fWords) {v1_3 : Value} (h1_3 : Rep.R w L [v1_3] a1.fUnder.fWords)  {r : TRatio} (h : share_Ratio_lesser_p n a0 a1 = some r) :
    Calls Tryz.prog 81 #[.agg #[.bool a0.fLong.fBelow, v0_1, .bool a0.fUnder.fBelow, v0_3], .agg #[.bool a1.fLong.fBelow, v1_1, .bool a1.fUnder.fBelow, v1_3]] w (Gives w fun w' u => ∃ v0_1 v0_3 : Value, u = .agg #[.bool r.fLong.fBelow, v0_1, .bool r.fUnder.fBelow, v0_3] ∧ Rep.R w' L [v0_1] r.fLong.fWords ∧ Rep.R w' L [v0_3] r.fUnder.fWords) := by
 unfold share_Ratio_lesser_p at h
 have hS0 := St.start w
 refine MX.start Tryz.func81 rfl rfl rfl (fun _ cs0 hb0 => ?_)
 refine MX.sr <| RG.new .plain rfl (Does.box (vs := [.bool a0.fLong.fBelow, v0_1, .bool a0.fUnder.fBelow, v0_3]) hS0 rfl rfl) (fun w2 b5 hS3 hT4 => ?_)
 refine RG.new .plain rfl (Does.box (vs := [.bool a1.fLong.fBelow, v1_1, .bool a1.fUnder.fBelow, v1_3]) hS3 rfl rfl) (fun w7 b0 hS8 hT9 => ?_)
 refine RG.new .plain rfl (Does.alloc (zs := [.bool false, vN, .bool false, vN]) hS8 (zB (by kernel_rfl))) (fun w0 b1 hS1 hT0 => ?_)
 refine RG.nil <| MX.seq <| MX.sr <| RG.va (FV.lN rfl (hS1.memA (.tl (.tl .hd)))) <| RG.va (FV.lN rfl (hS1.memA (.tl .hd))) ?_
 obtain ⟨y0, hy0, h⟩ := bind_in h
 refine RG.cq (vI y0) body67 rfl (e2 rfl rfl) (fun w9 hw9 => share_Ratio_Cmp_c n _ w9 (hS1.hL0 hL hw9) a0 (hS1.k0 h0_1 hw9) (hS1.k0 h0_3 hw9) a1 (hS1.k0 h1_1 hw9) (hS1.k0 h1_3 hw9) hy0) rfl <| RG.va (FV.leq (i := y0) (j := 0) rfl rfl) <| RG.nil <| MX.ifd rfl h (fun c0 h => ?_) (fun c0 h => ?_)
 refine MX.sr <| RG.va (FV.lN rfl (hS1.memA (.tl (.tl .hd)))) ?_
 have hm0 := Rep.mv0 h0_1 hS1
 have hm1 := Rep.mv0 h0_3 hS1
 refine RG.now .plain (Acts.storeAll (news := [.bool a0.fLong.fBelow, v0_1, .bool a0.fUnder.fBelow, v0_3]) hS1 .hd rfl rfl rfl rfl rfl rfl (o4 rfl (Rep.o1 hm0) rfl (Rep.o1 hm1))) (fun w1 hS2 hT1 => ?_)
 refine RG.nil <| MX.ret rfl <| RT.leave hb0 Tryz.func81 rfl (.cons (.many (cs := [.bool a0.fLong.fBelow, v0_1, .bool a0.fUnder.fBelow, v0_3]) (by kernel_rfl) rfl (hS2.memA .hd)) .nil) rfl ?_
 cases h
 exact ⟨hS2.ag, fun w9 hw9 => ⟨v0_1, v0_3, rfl, hS2.k0 h0_1 hw9, hS2.k0 h0_3 hw9⟩⟩
 refine MX.skip <| MX.sr <| RG.va (FV.lN rfl (hS1.memA (.tl .hd))) ?_
 have hm2 := Rep.mv0 h1_1 hS1
 have hm3 := Rep.mv0 h1_3 hS1
 refine RG.now .plain (Acts.storeAll (news := [.bool a1.fLong.fBelow, v1_1, .bool a1.fUnder.fBelow, v1_3]) hS1 .hd rfl rfl rfl rfl rfl rfl (o4 rfl (Rep.o1 hm2) rfl (Rep.o1 hm3))) (fun w3 hS4 hT2 => ?_)
 refine RG.nil <| MX.ret rfl <| RT.leave hb0 Tryz.func81 rfl (.cons (.many (cs := [.bool a1.fLong.fBelow, v1_1, .bool a1.fUnder.fBelow, v1_3]) (by kernel_rfl) rfl (hS4.memA .hd)) .nil) rfl ?_
 cases h
 exact ⟨hS4.ag, fun w9 hw9 => ⟨v1_1, v1_3, rfl, hS4.k0 h1_1 hw9, hS4.k0 h1_3 hw9⟩⟩
def tb55_1 : List (Nat × Nat × Nat) := [(0, 32, 4), (1, 64, 32), (0, 128, 8), (6, 256, 128), (10, 512, 320), (16, 1024, 512), (63, 0, 1040)]
theorem body56 : bodyB Tryz.prog 56 = true := by kernel_rfl
theorem body81 : bodyB Tryz.prog 81 = true := by kernel_rfl
def share_Ratio_greater_p (n : Nat) (a0 : TRatio) (a1 : TRatio) : Option TRatio :=
  (share_Ratio_Turned_p n a0).bind fun y0 => (share_Ratio_Turned_p n a1).bind fun y1 => (share_Ratio_lesser_p n y0 y1).bind fun y2 => (share_Ratio_Turned_p n y2).bind fun y3 => some y3
theorem share_Ratio_greater_c (n : Nat) (L : List Nat) (w : World) (hL : ∀ b ∈ L, b < w.heap.size) (a0 : TRatio) {v0_1 : Value} (h0_1 : Rep.R w L [v0_1] a0.fLong.fWords) {v0_3 : Value} (h0_3 : Rep.R w L [v0_3] a0.fUnder.fWords) (a1 : TRatio) {v1_1 : Value} (h1_1 : Rep.R w L [v1_1] a1.fLong.fWords) {v1_3 : Value} (h1_3 : Rep.R w L [v1_3] a1.fUnder.fWords)  {r : TRatio} (h : share_Ratio_greater_p n a0 a1 = some r) :
    Calls Tryz.prog 55 #[.agg #[.bool a0.fLong.fBelow, v0_1, .bool a0.fUnder.fBelow, v0_3], .agg #[.bool a1.fLong.fBelow, v1_1, .bool a1.fUnder.fBelow, v1_3]] w (Gives w fun w' u => ∃ v0_1 v0_3 : Value, u = .agg #[.bool r.fLong.fBelow, v0_1, .bool r.fUnder.fBelow, v0_3] ∧ Rep.R w' L [v0_1] r.fLong.fWords ∧ Rep.R w' L [v0_3] r.fUnder.fWords) := by
 unfold share_Ratio_greater_p at h
 have hS0 := St.start w
 refine MX.start Tryz.func55 rfl rfl rfl (fun _ cs0 hb0 => ?_)
 refine MX.sr <| RG.new .plain rfl (Does.box (vs := [.bool a0.fLong.fBelow, v0_1, .bool a0.fUnder.fBelow, v0_3]) hS0 rfl rfl) (fun w2 b5 hS3 hT4 => ?_)
 refine RG.new .plain rfl (Does.box (vs := [.bool a1.fLong.fBelow, v1_1, .bool a1.fUnder.fBelow, v1_3]) hS3 rfl rfl) (fun w7 b0 hS8 hT9 => ?_)
 refine RG.new .plain rfl (Does.alloc (zs := [.bool false, vN, .bool false, vN]) hS8 (zB (by kernel_rfl))) (fun w0 b1 hS1 hT0 => ?_)
 refine RG.nil <| MX.seq <| MX.drawT 6 tb55_1 (by kernel_rfl) (by kernel_rfl) (by kernel_rfl) (fun kt0 kp0 => ?_)
 refine RD.vx 0 1 122 kt0 rfl kp0 (FV.lN rfl (hS1.memA (.tl (.tl .hd)))) rfl <| RD.vx 2 5 120 kt0 rfl kp0 (FV.lN rfl (hS1.memA (.tl .hd))) rfl ?_
 obtain ⟨y0, hy0, h⟩ := bind_in h
 refine RD.cl 1 7 kt0 rfl .plain body56 rfl (e1 rfl) (fun w9 hw9 => share_Ratio_Turned_c n _ w9 (hS1.hL hL hw9) a0 (hS1.km h0_1 hw9) (hS1.km h0_3 hw9) hy0) rfl (fun w1 vu0 hag0 ⟨v0, v1, hu_, hr0, hr1⟩ => ?_)
 subst hu_
 obtain ⟨hS2, hT1⟩ := hS1.agr hag0
 obtain ⟨y1, hy1, h⟩ := bind_in h
 refine RD.cl 3 15 kt0 rfl .plain body56 rfl (e1 rfl) (fun w9 hw9 => share_Ratio_Turned_c n _ w9 (hS2.hL hL hw9) a1 (hS2.km h1_1 hw9) (hS2.km h1_3 hw9) hy1) rfl (fun w3 vu1 hag1 ⟨v2, v3, hu_, hr2, hr3⟩ => ?_)
 subst hu_
 obtain ⟨hS4, hT2⟩ := hS2.agr hag1
 obtain ⟨y2, hy2, h⟩ := bind_in h
 have hm0 := Rep.mv hr0 hT2
 have hm1 := Rep.mv hr1 hT2
 refine RD.cl 4 31 kt0 rfl .plain body81 rfl (e2 rfl rfl) (fun w9 hw9 => share_Ratio_lesser_c n _ w9 (hS4.hL hL hw9) y0 (Rep.keep0 hm0 hw9) (Rep.keep0 hm1 hw9) y1 (Rep.keep0 hr2 hw9) (Rep.keep0 hr3 hw9) hy2) rfl (fun w4 vu2 hag2 ⟨v4, v5, hu_, hr4, hr5⟩ => ?_)
 subst hu_
 obtain ⟨hS5, hT3⟩ := hS4.agr hag2
 obtain ⟨y3, hy3, h⟩ := bind_in h
 refine RD.cl 5 63 kt0 rfl .plain body56 rfl (e1 rfl) (fun w9 hw9 => share_Ratio_Turned_c n _ w9 (hS5.hL hL hw9) y2 (Rep.keep0 hr4 hw9) (Rep.keep0 hr5 hw9) hy3) rfl (fun w5 vu3 hag3 ⟨v6, v7, hu_, hr6, hr7⟩ => ?_)
 subst hu_
 obtain ⟨hS6, hT5⟩ := hS5.agr hag3
 refine RD.nw 6 127 kt0 rfl rfl .plain (Acts.storeAll (news := [.bool y3.fLong.fBelow, v6, .bool y3.fUnder.fBelow, v7]) hS6 .hd rfl rfl rfl rfl rfl rfl (o4 rfl (Rep.o1 hr6) rfl (Rep.o1 hr7))) (fun w6 hS7 hT6 => ?_)
 refine RD.done (doneD_ok kt0 (by kernel_rfl)) <| MX.ret rfl <| RT.leave hb0 Tryz.func55 rfl (.cons (.many (cs := [.bool y3.fLong.fBelow, v6, .bool y3.fUnder.fBelow, v7]) (by kernel_rfl) rfl (hS7.memA .hd)) .nil) rfl ?_
 cases h
 have hm2 := Rep.mv hr6 hT6
 have hm3 := Rep.mv hr7 hT6
 exact ⟨hS7.ag, fun w9 hw9 => ⟨v6, v7, rfl, hS7.kd hm2 hw9, hS7.kd hm3 hw9⟩⟩
def tb54_1 : List (Nat × Nat × Nat) := [(0, 32, 4), (0, 64, 4), (2, 128, 64), (5, 256, 160), (15, 0, 272)]
theorem body55 : bodyB Tryz.prog 55 = true := by kernel_rfl
def share_Abs_1_p (n : Nat) (a0 : TRatio) (_a1 : TRatio) : Option TRatio :=
  (share_Ratio_Turned_p n a0).bind fun y0 => (share_Ratio_greater_p n a0 y0).bind fun y1 => some y1
theorem share_Abs_1_c (n : Nat) (L : List Nat) (w : World) (hL : ∀ b ∈ L, b < w.heap.size) (a0 : TRatio) {v0_1 : Value} (h0_1 : Rep.R w L [v0_1] a0.fLong.fWords) {v0_3 : Value} (h0_3 : Rep.R w L [v0_3] a0.fUnder.fWords) (a1 : TRatio) {v1_1 : Value} (h1_1 : Rep.R w L [v1_1] a1.fLong.fWords) {v1_3 : Value} (h1_3 : Rep.R w L [v1_3] a1.fUnder.fWords)  {r : TRatio} (h : share_Abs_1_p n a0 a1 = some r) :
    Calls Tryz.prog 54 #[.agg #[.bool a0.fLong.fBelow, v0_1, .bool a0.fUnder.fBelow, v0_3], .agg #[.bool a1.fLong.fBelow, v1_1, .bool a1.fUnder.fBelow, v1_3]] w (Gives w fun w' u => ∃ v0_1 v0_3 : Value, u = .agg #[.bool r.fLong.fBelow, v0_1, .bool r.fUnder.fBelow, v0_3] ∧ Rep.R w' L [v0_1] r.fLong.fWords ∧ Rep.R w' L [v0_3] r.fUnder.fWords) := by
 unfold share_Abs_1_p at h
 have hS0 := St.start w
 refine MX.start Tryz.func54 rfl rfl rfl (fun _ cs0 hb0 => ?_)
 refine MX.sr <| RG.new .plain rfl (Does.box (vs := [.bool a0.fLong.fBelow, v0_1, .bool a0.fUnder.fBelow, v0_3]) hS0 rfl rfl) (fun w2 b5 hS3 hT4 => ?_)
 refine RG.new .plain rfl (Does.box (vs := [.bool a1.fLong.fBelow, v1_1, .bool a1.fUnder.fBelow, v1_3]) hS3 rfl rfl) (fun w7 b0 hS8 hT9 => ?_)
 refine RG.new .plain rfl (Does.alloc (zs := [.bool false, vN, .bool false, vN]) hS8 (zB (by kernel_rfl))) (fun w0 b1 hS1 hT0 => ?_)
 refine RG.nil <| MX.seq <| MX.drawT 4 tb54_1 (by kernel_rfl) (by kernel_rfl) (by kernel_rfl) (fun kt0 kp0 => ?_)
 refine RD.vx 0 1 24 kt0 rfl kp0 (FV.lN rfl (hS1.memA (.tl (.tl .hd)))) rfl <| RD.vx 1 3 28 kt0 rfl kp0 (FV.lN rfl (hS1.memA (.tl (.tl .hd)))) rfl ?_
 obtain ⟨y0, hy0, h⟩ := bind_in h
 refine RD.cl 2 7 kt0 rfl .plain body56 rfl (e1 rfl) (fun w9 hw9 => share_Ratio_Turned_c n _ w9 (hS1.hL hL hw9) a0 (hS1.km h0_1 hw9) (hS1.km h0_3 hw9) hy0) rfl (fun w1 vu0 hag0 ⟨v0, v1, hu_, hr0, hr1⟩ => ?_)
 subst hu_
 obtain ⟨hS2, hT1⟩ := hS1.agr hag0
 obtain ⟨y1, hy1, h⟩ := bind_in h
 refine RD.cl 3 15 kt0 rfl .plain body55 rfl (e2 rfl rfl) (fun w9 hw9 => share_Ratio_greater_c n _ w9 (hS2.hL hL hw9) a0 (hS2.km h0_1 hw9) (hS2.km h0_3 hw9) y0 (Rep.keep0 hr0 hw9) (Rep.keep0 hr1 hw9) hy1) rfl (fun w3 vu1 hag1 ⟨v2, v3, hu_, hr2, hr3⟩ => ?_)
 subst hu_
 obtain ⟨hS4, hT2⟩ := hS2.agr hag1
 refine RD.nw 4 31 kt0 rfl rfl .plain (Acts.storeAll (news := [.bool y1.fLong.fBelow, v2, .bool y1.fUnder.fBelow, v3]) hS4 .hd rfl rfl rfl rfl rfl rfl (o4 rfl (Rep.o1 hr2) rfl (Rep.o1 hr3))) (fun w4 hS5 hT3 => ?_)
 refine RD.done (doneD_ok kt0 (by kernel_rfl)) <| MX.ret rfl <| RT.leave hb0 Tryz.func54 rfl (.cons (.many (cs := [.bool y1.fLong.fBelow, v2, .bool y1.fUnder.fBelow, v3]) (by kernel_rfl) rfl (hS5.memA .hd)) .nil) rfl ?_
 cases h
 have hm0 := Rep.mv hr2 hT3
 have hm1 := Rep.mv hr3 hT3
 exact ⟨hS5.ag, fun w9 hw9 => ⟨v2, v3, rfl, hS5.kd hm0 hw9, hS5.kd hm1 hw9⟩⟩
def tb53_4 : List (Nat × Nat × Nat) := [(0, 32768, 4), (0, 65536, 8), (2, 131072, 65536), (0, 262144, 16), (12, 524288, 262144), (21, 1048576, 688128), (63, 0, 1048640), (127, 128, 0)]
theorem body52 : bodyB Tryz.prog 52 = true := by kernel_rfl
theorem body53 : bodyB Tryz.prog 53 = true := by kernel_rfl
theorem body54 : bodyB Tryz.prog 54 = true := by kernel_rfl
theorem body80 : bodyB Tryz.prog 80 = true := by kernel_rfl
def share_Abs_p (n : Nat) (a0 : TShare) : Option (TShare × Int) :=
  (share_valid_p n ([a0, a0] : List TShare)).bind fun y0 => (if y0 = true then (share_Read_p n a0).bind fun y1 => (share_Read_p n a0).bind fun y2 => (share_Abs_1_p n y1 y2).bind fun y3 => (share_told_p n y3 (0 : Int)).bind fun y4 => some (y4.1, y4.2) else (share_told_p n (⟨(⟨false, ([] : List UInt64)⟩ : TLong), (⟨false, ([] : List UInt64)⟩ : TLong)⟩ : TRatio) (20 : Int)).bind fun y5 => some (y5.1, y5.2))
theorem share_Abs_c (n : Nat) (L : List Nat) (w : World) (hL : ∀ b ∈ L, b < w.heap.size) (a0 : TShare)  {r : TShare × Int} (h : share_Abs_p n a0 = some r) :
    Calls Tryz.prog 25 #[.agg ((cs_TShare a0)).toArray] w (Gives w fun _ u => u = .tuple #[.agg ((cs_TShare r.1)).toArray, vI r.2]) := by
 unfold share_Abs_p at h
 have hS0 := St.start w
 refine MX.start Tryz.func25 rfl rfl rfl (fun _ cs0 hb0 => ?_)
 refine MX.sr <| RG.new .plain rfl (Does.box (vs := (cs_TShare a0)) hS0 rfl rfl) (fun w2 b5 hS3 hT4 => ?_)
 refine RG.new .plain rfl (Does.alloc (zs := [.int .u64 0, .int .u64 0, .int .u64 0, .int .u64 0, .int .u64 0, .int .u64 0, .int .u64 0, .int .u64 0, .int .u64 0, .int .u64 0, .int .u64 0, .int .u64 0, .int .u64 0, .int .u64 0, .int .u64 0, .int .u64 0]) hS3 (zB (by kernel_rfl))) (fun w7 b0 hS8 hT9 => ?_)
 refine RG.so rfl <| RG.nil <| MX.sr <| RG.va (FV.lN rfl (hS8.memA (.tl .hd))) <| RG.va (FV.lN rfl (hS8.memA (.tl .hd))) <| RG.enterP (fst := []) (cap := []) (vs := [.agg ((cs_TShare a0)).toArray, .agg ((cs_TShare a0)).toArray, .func (.func 54) #[] #[]]) .plain body53 Tryz.func53 rfl rfl rfl rfl (e3 rfl rfl rfl) rfl (fun cs1 hb1 hp0 => ?_)
 refine MX.sr <| RG.new .plain rfl (Does.box (vs := (cs_TShare a0)) hS8 rfl rfl) (fun w0 b1 hS1 hT0 => ?_)
 refine RG.new .plain rfl (Does.box (vs := (cs_TShare a0)) hS1 rfl rfl) (fun w1 b2 hS2 hT1 => ?_)
 refine RG.new .plain rfl (Does.alloc (zs := [.bool false, vN, .bool false, vN]) hS2 (zB (by kernel_rfl))) (fun w3 b3 hS4 hT2 => ?_)
 refine RG.so rfl <| RG.nil <| MX.seq <| MX.sr <| RG.va (FV.lN rfl (hS4.memA (.tl (.tl .hd)))) <| RG.va (FV.lN rfl (hS4.memA (.tl .hd))) ?_
 refine RG.new .plain rfl (Does.build (α := TShare) (xs := ([a0, a0] : List TShare)) (vs := [.agg ((cs_TShare a0)).toArray, .agg ((cs_TShare a0)).toArray]) (ds' := (cs_TShare a0 ++ cs_TShare a0)) rfl hS4 el31 rfl (e2 rfl rfl) (by kernel_rfl) rfl) (fun w4 b4 hS5 hT3 => ?_)
 have hc0 := Cells.at_ (cs := (cs_TShare a0 ++ cs_TShare a0)) (xs := (([a0, a0] : List TShare) : List TShare)) hS5 L (Cells.cons (cs := (cs_TShare a0)) (ds := (cs_TShare a0)) (mk_TShare a0.fN a0.fD) (Cells.cons (cs := (cs_TShare a0)) (ds := []) (mk_TShare a0.fN a0.fD) (Cells.nil _ _)))
 obtain ⟨y0, hy0, h⟩ := bind_in h
 refine RG.cq (.bool y0) body80 rfl (e1 rfl) (fun w9 hw9 => share_valid_c n _ w9 (hS5.hL0 hL hw9) ([a0, a0] : List TShare) (Rep.keep0 (St.lend (α := TShare) (L := L) hS5 .hd hc0 hL) hw9) hy0) rfl <| RG.va (FV.not rfl) <| RG.nil <| MX.ifnb rfl h (fun c0 h => ?_) (fun c0 h => ?_)
 refine MX.skip <| MX.seq <| MX.drawT 6 tb53_4 (by kernel_rfl) (by kernel_rfl) (by kernel_rfl) (fun kt0 kp0 => ?_)
 refine RD.vw 0 1 kt0 rfl kp0 (fun _ => FV.move rfl) rfl <| RD.vx 1 3 244 kt0 rfl kp0 (FV.lN rfl (hS5.memA (.tl (.tl (.tl .hd))))) rfl <| RD.vx 3 11 240 kt0 rfl kp0 (FV.lN rfl (hS5.memA (.tl (.tl .hd)))) rfl ?_
 obtain ⟨y1, hy1, h⟩ := bind_in h
 refine RD.cl 2 15 kt0 rfl .plain body62 rfl (e1 rfl) (fun w9 hw9 => share_Read_c n _ w9 (hS5.hL hL hw9) a0 hy1) rfl (fun w5 vu0 hag0 ⟨v0, v1, hu_, hr0, hr1⟩ => ?_)
 subst hu_
 obtain ⟨hS6, hT5⟩ := hS5.agr hag0
 obtain ⟨y2, hy2, h⟩ := bind_in h
 refine RD.cl 4 31 kt0 rfl .plain body62 rfl (e1 rfl) (fun w9 hw9 => share_Read_c n _ w9 (hS6.hL hL hw9) a0 hy2) rfl (fun w6 vu1 hag1 ⟨v2, v3, hu_, hr2, hr3⟩ => ?_)
 subst hu_
 obtain ⟨hS7, hT6⟩ := hS6.agr hag1
 obtain ⟨y3, hy3, h⟩ := bind_in h
 have hm0 := Rep.mv hr0 hT6
 have hm1 := Rep.mv hr1 hT6
 refine RD.cl 5 63 kt0 rfl .plain body54 rfl (e2 rfl rfl) (fun w9 hw9 => share_Abs_1_c n _ w9 (hS7.hL hL hw9) y1 (Rep.keep0 hm0 hw9) (Rep.keep0 hm1 hw9) y2 (Rep.keep0 hr2 hw9) (Rep.keep0 hr3 hw9) hy3) rfl (fun w8 vu2 hag2 ⟨v4, v5, hu_, hr4, hr5⟩ => ?_)
 subst hu_
 obtain ⟨hS9, hT7⟩ := hS7.agr hag2
 refine RD.nw 6 127 kt0 rfl rfl .plain (Acts.storeAll (news := [.bool y3.fLong.fBelow, v4, .bool y3.fUnder.fBelow, v5]) hS9 (.tl .hd) rfl rfl rfl rfl rfl rfl (o4 rfl (Rep.o1 hr4) rfl (Rep.o1 hr5))) (fun w71 hS72 hT8 => ?_)
 refine RD.one (i := 7) (readyD_ok kt0 (by kernel_rfl)) (RO.val (m' := 255) (stepC_ok kt0 (by kernel_rfl)) rfl .plain rfl (FV.assign rfl) ?_)
 refine RD.done (doneD_ok kt0 (by kernel_rfl)) <| MX.ret rfl <| RT.leave (u := .tuple #[.agg #[.bool y3.fLong.fBelow, v4, .bool y3.fUnder.fBelow, v5], vI 0]) hb1 Tryz.func53 rfl (.cons (.many (cs := [.bool y3.fLong.fBelow, v4, .bool y3.fUnder.fBelow, v5]) (by kernel_rfl) rfl (hS72.memA (.tl .hd))) (.cons (.tmp rfl) .nil)) rfl <| RG.va (FV.extract rfl rfl) <| RG.va (FV.extract rfl rfl) ?_
 obtain ⟨y4, hy4, h⟩ := bind_in h
 have hm2 := Rep.mv hr4 hT8
 have hm3 := Rep.mv hr5 hT8
 refine RG.cq (.tuple #[.agg ((cs_TShare y4.1)).toArray, vI y4.2]) body52 rfl (e2 rfl rfl) (fun w9 hw9 => share_told_c n _ w9 (hS72.hL0 hL hw9) y3 (hS72.kd hm2 hw9) (hS72.kd hm3 hw9) (0 : Int) hy4) rfl <| RG.va (FV.extract rfl rfl) <| RG.va (FV.extract rfl rfl) <| RG.now .plain (Acts.storeAll (news := (cs_TShare y4.1)) hS72 (.tl (.tl (.tl (.tl .hd)))) rfl rfl rfl rfl rfl rfl (onesB rfl)) (fun w77 hS78 hT79 => ?_)
 refine RG.so rfl <| RG.nil <| MX.ret rfl <| RT.leave hb0 Tryz.func25 rfl (.cons (.many (cs := (cs_TShare y4.1)) (by kernel_rfl) rfl (hS78.memA (.tl (.tl (.tl (.tl .hd)))))) (.cons (.tmp rfl) .nil)) rfl ?_
 cases h
 exact hS78.gv
 refine MX.sr <| RG.new .plain rfl (Does.alloc (zs := [.bool false, vN, .bool false, vN]) hS5 (zB (by kernel_rfl))) (fun w81 b6 hS82 hT83 => ?_)
 refine RG.nil <| MX.sr <| RG.va (FV.lN rfl (hS82.memA .hd)) <| RG.now .plain (Acts.storeAll (news := [.bool false, vN, .bool false, vN]) hS82 (.tl (.tl .hd)) rfl rfl rfl rfl rfl rfl (onesB rfl)) (fun w85 hS86 hT87 => ?_)
 refine RG.so rfl <| RG.nil <| MX.ret rfl <| RT.leave (u := .tuple #[.agg #[.bool false, vN, .bool false, vN], vI 20]) hb1 Tryz.func53 rfl (.cons (.many (cs := [.bool false, vN, .bool false, vN]) (by kernel_rfl) rfl (hS86.memA (.tl (.tl .hd)))) (.cons (.tmp rfl) .nil)) rfl <| RG.va (FV.extract rfl rfl) <| RG.va (FV.extract rfl rfl) ?_
 obtain ⟨y5, hy5, h⟩ := bind_in h
 refine RG.cq (.tuple #[.agg ((cs_TShare y5.1)).toArray, vI y5.2]) body52 rfl (e2 rfl rfl) (fun w9 hw9 => share_told_c n _ w9 (hS86.hL0 hL hw9) (⟨(⟨false, ([] : List UInt64)⟩ : TLong), (⟨false, ([] : List UInt64)⟩ : TLong)⟩ : TRatio) (Rep.keep0 (Rep.nilSlice _ _) hw9) (Rep.keep0 (Rep.nilSlice _ _) hw9) (20 : Int) hy5) rfl <| RG.va (FV.extract rfl rfl) <| RG.va (FV.extract rfl rfl) <| RG.now .plain (Acts.storeAll (news := (cs_TShare y5.1)) hS86 (.tl (.tl (.tl (.tl (.tl .hd))))) rfl rfl rfl rfl rfl rfl (onesB rfl)) (fun w89 hS90 hT91 => ?_)
 refine RG.so rfl <| RG.nil <| MX.ret rfl <| RT.leave hb0 Tryz.func25 rfl (.cons (.many (cs := (cs_TShare y5.1)) (by kernel_rfl) rfl (hS90.memA (.tl (.tl (.tl (.tl (.tl .hd))))))) (.cons (.tmp rfl) .nil)) rfl ?_
 cases h
 exact hS90.gv
def tb104_1 : List (Nat × Nat × Nat) := [(0, 32, 4), (1, 64, 32), (0, 128, 8), (4, 256, 128), (10, 512, 320), (0, 1024, 8), (32, 2048, 1024), (0, 4096, 4), (128, 8192, 4096), (336, 16384, 10240), (528, 32768, 16896), (0, 65536, 4), (2048, 131072, 65536), (0, 262144, 8), (8192, 524288, 262144), (21504, 1048576, 655360), (33792, 2097152, 1081344), (131071, 0, 2097168)]
def share_Ratio_Plus_p (n : Nat) (a0 : TRatio) (a1 : TRatio) : Option TRatio :=
  (wide_Long_Times_p n a0.fLong a1.fUnder).bind fun y0 => (wide_Long_Times_p n a1.fLong a0.fUnder).bind fun y1 => (wide_Long_Plus_p n y0 y1).bind fun y2 => (wide_Long_Times_p n a0.fUnder a1.fUnder).bind fun y3 => (share_Lowest_p n y2 y3).bind fun y4 => some y4
theorem share_Ratio_Plus_c (n : Nat) (L : List Nat) (w : World) (hL : ∀ b ∈ L, b < w.heap.size) (a0 : TRatio) {v0_1 : Value} (h0_1 : Rep.R w L [v0_1] a0.fLong.fWords) {v0_3 : Value} (h0_3 : Rep.R w L [v0_3] a0.fUnder.fWords) (a1 : TRatio) {v1_1 : Value} (h1_1 : Rep.R w L [v1_1] a1.fLong.fWords) {v1_3 : Value} (h1_3 : Rep.R w L [v1_3] a1.fUnder.fWords)  {r : TRatio} (h : share_Ratio_Plus_p n a0 a1 = some r) :
    Calls Tryz.prog 104 #[.agg #[.bool a0.fLong.fBelow, v0_1, .bool a0.fUnder.fBelow, v0_3], .agg #[.bool a1.fLong.fBelow, v1_1, .bool a1.fUnder.fBelow, v1_3]] w (Gives w fun w' u => ∃ v0_1 v0_3 : Value, u = .agg #[.bool r.fLong.fBelow, v0_1, .bool r.fUnder.fBelow, v0_3] ∧ Rep.R w' L [v0_1] r.fLong.fWords ∧ Rep.R w' L [v0_3] r.fUnder.fWords) := by
 unfold share_Ratio_Plus_p at h
 have hS0 := St.start w
 refine MX.start Tryz.func104 rfl rfl rfl (fun _ cs0 hb0 => ?_)
 refine MX.sr <| RG.new .plain rfl (Does.box (vs := [.bool a0.fLong.fBelow, v0_1, .bool a0.fUnder.fBelow, v0_3]) hS0 rfl rfl) (fun w2 b5 hS3 hT4 => ?_)
 refine RG.new .plain rfl (Does.box (vs := [.bool a1.fLong.fBelow, v1_1, .bool a1.fUnder.fBelow, v1_3]) hS3 rfl rfl) (fun w7 b0 hS8 hT9 => ?_)
 refine RG.new .plain rfl (Does.alloc (zs := [.bool false, vN, .bool false, vN]) hS8 (zB (by kernel_rfl))) (fun w0 b1 hS1 hT0 => ?_)
 refine RG.nil <| MX.seq <| MX.drawT 17 tb104_1 (by kernel_rfl) (by kernel_rfl) (by kernel_rfl) (fun kt0 kp0 => ?_)
 refine RD.vw 0 1 kt0 rfl kp0 (fun _ => FV.fa 0 rfl) rfl <| RD.vx 1 3 230928 kt0 rfl kp0 (FV.loadN (cs := [.bool a0.fLong.fBelow, v0_1]) (by kernel_rfl) rfl (mem_part (hS1.memA (.tl (.tl .hd))) 0 2)) rfl <| RD.vw 2 7 kt0 rfl kp0 (fun _ => FV.fa 2 rfl) rfl <| RD.vx 3 15 230928 kt0 rfl kp0 (FV.loadN (cs := [.bool a1.fUnder.fBelow, v1_3]) (by kernel_rfl) rfl (mem_part (hS1.memA (.tl .hd)) 2 2)) rfl <| RD.vw 5 47 kt0 rfl kp0 (fun _ => FV.fa 0 rfl) rfl <| RD.vx 6 111 230912 kt0 rfl kp0 (FV.loadN (cs := [.bool a1.fLong.fBelow, v1_1]) (by kernel_rfl) rfl (mem_part (hS1.memA (.tl .hd)) 0 2)) rfl ?_
 refine RD.vw 7 239 kt0 rfl kp0 (fun _ => FV.fa 2 rfl) rfl <| RD.vx 8 495 230912 kt0 rfl kp0 (FV.loadN (cs := [.bool a0.fUnder.fBelow, v0_3]) (by kernel_rfl) rfl (mem_part (hS1.memA (.tl (.tl .hd))) 2 2)) rfl <| RD.vw 11 2543 kt0 rfl kp0 (fun _ => FV.fa 2 rfl) rfl <| RD.vx 12 6639 229376 kt0 rfl kp0 (FV.loadN (cs := [.bool a0.fUnder.fBelow, v0_3]) (by kernel_rfl) rfl (mem_part (hS1.memA (.tl (.tl .hd))) 2 2)) rfl <| RD.vw 13 14831 kt0 rfl kp0 (fun _ => FV.fa 2 rfl) rfl <| RD.vx 14 31215 229376 kt0 rfl kp0 (FV.loadN (cs := [.bool a1.fUnder.fBelow, v1_3]) (by kernel_rfl) rfl (mem_part (hS1.memA (.tl .hd)) 2 2)) rfl ?_
 obtain ⟨y0, hy0, h⟩ := bind_in h
 refine RD.cl 4 31231 kt0 rfl .plain body89 rfl (e2 rfl rfl) (fun w9 hw9 => wide_Long_Times_c n _ w9 (hS1.hL hL hw9) a0.fLong (hS1.km h0_1 hw9) a1.fUnder (hS1.km h1_3 hw9) hy0) rfl (fun w1 vu0 hag0 ⟨v0, hu_, hr0⟩ => ?_)
 subst hu_
 obtain ⟨hS2, hT1⟩ := hS1.agr hag0
 obtain ⟨y1, hy1, h⟩ := bind_in h
 refine RD.cl 9 31743 kt0 rfl .plain body89 rfl (e2 rfl rfl) (fun w9 hw9 => wide_Long_Times_c n _ w9 (hS2.hL hL hw9) a1.fLong (hS2.km h1_1 hw9) a0.fUnder (hS2.km h0_3 hw9) hy1) rfl (fun w3 vu1 hag1 ⟨v1, hu_, hr1⟩ => ?_)
 subst hu_
 obtain ⟨hS4, hT2⟩ := hS2.agr hag1
 obtain ⟨y2, hy2, h⟩ := bind_in h
 have hm0 := Rep.mv hr0 hT2
 refine RD.cl 10 32767 kt0 rfl .plain body111 rfl (e2 rfl rfl) (fun w9 hw9 => wide_Long_Plus_c n _ w9 (hS4.hL hL hw9) y0 (Rep.keep0 hm0 hw9) y1 (Rep.keep0 hr1 hw9) hy2) rfl (fun w4 vu2 hag2 ⟨v2, hu_, hr2⟩ => ?_)
 subst hu_
 obtain ⟨hS5, hT3⟩ := hS4.agr hag2
 obtain ⟨y3, hy3, h⟩ := bind_in h
 refine RD.cl 15 65535 kt0 rfl .plain body89 rfl (e2 rfl rfl) (fun w9 hw9 => wide_Long_Times_c n _ w9 (hS5.hL hL hw9) a0.fUnder (hS5.km h0_3 hw9) a1.fUnder (hS5.km h1_3 hw9) hy3) rfl (fun w5 vu3 hag3 ⟨v3, hu_, hr3⟩ => ?_)
 subst hu_
 obtain ⟨hS6, hT5⟩ := hS5.agr hag3
 obtain ⟨y4, hy4, h⟩ := bind_in h
 have hm1 := Rep.mv hr2 hT5
 refine RD.cl 16 131071 kt0 rfl .plain body94 rfl (e2 rfl rfl) (fun w9 hw9 => share_Lowest_c n _ w9 (hS6.hL hL hw9) y2 (Rep.keep0 hm1 hw9) y3 (Rep.keep0 hr3 hw9) hy4) rfl (fun w6 vu4 hag4 ⟨v4, v5, hu_, hr4, hr5⟩ => ?_)
 subst hu_
 obtain ⟨hS7, hT6⟩ := hS6.agr hag4
 refine RD.nw 17 262143 kt0 rfl rfl .plain (Acts.storeAll (news := [.bool y4.fLong.fBelow, v4, .bool y4.fUnder.fBelow, v5]) hS7 .hd rfl rfl rfl rfl rfl rfl (o4 rfl (Rep.o1 hr4) rfl (Rep.o1 hr5))) (fun w8 hS9 hT7 => ?_)
 refine RD.done (doneD_ok kt0 (by kernel_rfl)) <| MX.ret rfl <| RT.leave hb0 Tryz.func104 rfl (.cons (.many (cs := [.bool y4.fLong.fBelow, v4, .bool y4.fUnder.fBelow, v5]) (by kernel_rfl) rfl (hS9.memA .hd)) .nil) rfl ?_
 cases h
 have hm2 := Rep.mv hr4 hT7
 have hm3 := Rep.mv hr5 hT7
 exact ⟨hS9.ag, fun w9 hw9 => ⟨v4, v5, rfl, hS9.kd hm2 hw9, hS9.kd hm3 hw9⟩⟩
def tb83_1 : List (Nat × Nat × Nat) := [(0, 32, 4), (0, 64, 8), (2, 128, 64), (5, 256, 160), (15, 0, 272)]
theorem body104 : bodyB Tryz.prog 104 = true := by kernel_rfl
def share_Ratio_Minus_p (n : Nat) (a0 : TRatio) (a1 : TRatio) : Option TRatio :=
  (share_Ratio_Turned_p n a1).bind fun y0 => (share_Ratio_Plus_p n a0 y0).bind fun y1 => some y1
theorem share_Ratio_Minus_c (n : Nat) (L : List Nat) (w : World) (hL : ∀ b ∈ L, b < w.heap.size) (a0 : TRatio) {v0_1 : Value} (h0_1 : Rep.R w L [v0_1] a0.fLong.fWords) {v0_3 : Value} (h0_3 : Rep.R w L [v0_3] a0.fUnder.fWords) (a1 : TRatio) {v1_1 : Value} (h1_1 : Rep.R w L [v1_1] a1.fLong.fWords) {v1_3 : Value} (h1_3 : Rep.R w L [v1_3] a1.fUnder.fWords)  {r : TRatio} (h : share_Ratio_Minus_p n a0 a1 = some r) :
    Calls Tryz.prog 83 #[.agg #[.bool a0.fLong.fBelow, v0_1, .bool a0.fUnder.fBelow, v0_3], .agg #[.bool a1.fLong.fBelow, v1_1, .bool a1.fUnder.fBelow, v1_3]] w (Gives w fun w' u => ∃ v0_1 v0_3 : Value, u = .agg #[.bool r.fLong.fBelow, v0_1, .bool r.fUnder.fBelow, v0_3] ∧ Rep.R w' L [v0_1] r.fLong.fWords ∧ Rep.R w' L [v0_3] r.fUnder.fWords) := by
 unfold share_Ratio_Minus_p at h
 have hS0 := St.start w
 refine MX.start Tryz.func83 rfl rfl rfl (fun _ cs0 hb0 => ?_)
 refine MX.sr <| RG.new .plain rfl (Does.box (vs := [.bool a0.fLong.fBelow, v0_1, .bool a0.fUnder.fBelow, v0_3]) hS0 rfl rfl) (fun w2 b5 hS3 hT4 => ?_)
 refine RG.new .plain rfl (Does.box (vs := [.bool a1.fLong.fBelow, v1_1, .bool a1.fUnder.fBelow, v1_3]) hS3 rfl rfl) (fun w7 b0 hS8 hT9 => ?_)
 refine RG.new .plain rfl (Does.alloc (zs := [.bool false, vN, .bool false, vN]) hS8 (zB (by kernel_rfl))) (fun w0 b1 hS1 hT0 => ?_)
 refine RG.nil <| MX.seq <| MX.drawT 4 tb83_1 (by kernel_rfl) (by kernel_rfl) (by kernel_rfl) (fun kt0 kp0 => ?_)
 refine RD.vx 0 1 24 kt0 rfl kp0 (FV.lN rfl (hS1.memA (.tl (.tl .hd)))) rfl <| RD.vx 1 3 28 kt0 rfl kp0 (FV.lN rfl (hS1.memA (.tl .hd))) rfl ?_
 obtain ⟨y0, hy0, h⟩ := bind_in h
 refine RD.cl 2 7 kt0 rfl .plain body56 rfl (e1 rfl) (fun w9 hw9 => share_Ratio_Turned_c n _ w9 (hS1.hL hL hw9) a1 (hS1.km h1_1 hw9) (hS1.km h1_3 hw9) hy0) rfl (fun w1 vu0 hag0 ⟨v0, v1, hu_, hr0, hr1⟩ => ?_)
 subst hu_
 obtain ⟨hS2, hT1⟩ := hS1.agr hag0
 obtain ⟨y1, hy1, h⟩ := bind_in h
 refine RD.cl 3 15 kt0 rfl .plain body104 rfl (e2 rfl rfl) (fun w9 hw9 => share_Ratio_Plus_c n _ w9 (hS2.hL hL hw9) a0 (hS2.km h0_1 hw9) (hS2.km h0_3 hw9) y0 (Rep.keep0 hr0 hw9) (Rep.keep0 hr1 hw9) hy1) rfl (fun w3 vu1 hag1 ⟨v2, v3, hu_, hr2, hr3⟩ => ?_)
 subst hu_
 obtain ⟨hS4, hT2⟩ := hS2.agr hag1
 refine RD.nw 4 31 kt0 rfl rfl .plain (Acts.storeAll (news := [.bool y1.fLong.fBelow, v2, .bool y1.fUnder.fBelow, v3]) hS4 .hd rfl rfl rfl rfl rfl rfl (o4 rfl (Rep.o1 hr2) rfl (Rep.o1 hr3))) (fun w4 hS5 hT3 => ?_)
 refine RD.done (doneD_ok kt0 (by kernel_rfl)) <| MX.ret rfl <| RT.leave hb0 Tryz.func83 rfl (.cons (.many (cs := [.bool y1.fLong.fBelow, v2, .bool y1.fUnder.fBelow, v3]) (by kernel_rfl) rfl (hS5.memA .hd)) .nil) rfl ?_
 cases h
 have hm0 := Rep.mv hr2 hT3
 have hm1 := Rep.mv hr3 hT3
 exact ⟨hS5.ag, fun w9 hw9 => ⟨v2, v3, rfl, hS5.kd hm0 hw9, hS5.kd hm1 hw9⟩⟩
theorem body83 : bodyB Tryz.prog 83 = true := by kernel_rfl
def share_Sub_p (n : Nat) (a0 : TShare) (a1 : TShare) : Option (TShare × Int) :=
  (share_valid_p n ([a0, a1] : List TShare)).bind fun y0 => (if y0 = true then (share_Read_p n a0).bind fun y1 => (share_Read_p n a1).bind fun y2 => (share_Ratio_Minus_p n y1 y2).bind fun y3 => (share_told_p n y3 (0 : Int)).bind fun y4 => some (y4.1, y4.2) else (share_told_p n (⟨(⟨false, ([] : List UInt64)⟩ : TLong), (⟨false, ([] : List UInt64)⟩ : TLong)⟩ : TRatio) (20 : Int)).bind fun y5 => some (y5.1, y5.2))
theorem share_Sub_c (n : Nat) (L : List Nat) (w : World) (hL : ∀ b ∈ L, b < w.heap.size) (a0 : TShare) (a1 : TShare)  {r : TShare × Int} (h : share_Sub_p n a0 a1 = some r) :
    Calls Tryz.prog 57 #[.agg ((cs_TShare a0)).toArray, .agg ((cs_TShare a1)).toArray] w (Gives w fun _ u => u = .tuple #[.agg ((cs_TShare r.1)).toArray, vI r.2]) := by
 unfold share_Sub_p at h
 have hS0 := St.start w
 refine MX.start Tryz.func57 rfl rfl rfl (fun _ cs0 hb0 => ?_)
 refine MX.sr <| RG.new .plain rfl (Does.box (vs := (cs_TShare a0)) hS0 rfl rfl) (fun w2 b5 hS3 hT4 => ?_)
 refine RG.new .plain rfl (Does.box (vs := (cs_TShare a1)) hS3 rfl rfl) (fun w7 b0 hS8 hT9 => ?_)
 refine RG.new .plain rfl (Does.alloc (zs := [.int .u64 0, .int .u64 0, .int .u64 0, .int .u64 0, .int .u64 0, .int .u64 0, .int .u64 0, .int .u64 0, .int .u64 0, .int .u64 0, .int .u64 0, .int .u64 0, .int .u64 0, .int .u64 0, .int .u64 0, .int .u64 0]) hS8 (zB (by kernel_rfl))) (fun w0 b1 hS1 hT0 => ?_)
 refine RG.so rfl <| RG.nil <| MX.sr <| RG.va (FV.lN rfl (hS1.memA (.tl (.tl .hd)))) <| RG.va (FV.lN rfl (hS1.memA (.tl .hd))) <| RG.enterP (fst := []) (cap := []) (vs := [.agg ((cs_TShare a0)).toArray, .agg ((cs_TShare a1)).toArray, .func (.func 83) #[] #[]]) .plain body53 Tryz.func53 rfl rfl rfl rfl (e3 rfl rfl rfl) rfl (fun cs1 hb1 hp0 => ?_)
 refine MX.sr <| RG.new .plain rfl (Does.box (vs := (cs_TShare a0)) hS1 rfl rfl) (fun w1 b2 hS2 hT1 => ?_)
 refine RG.new .plain rfl (Does.box (vs := (cs_TShare a1)) hS2 rfl rfl) (fun w3 b3 hS4 hT2 => ?_)
 refine RG.new .plain rfl (Does.alloc (zs := [.bool false, vN, .bool false, vN]) hS4 (zB (by kernel_rfl))) (fun w4 b4 hS5 hT3 => ?_)
 refine RG.so rfl <| RG.nil <| MX.seq <| MX.sr <| RG.va (FV.lN rfl (hS5.memA (.tl (.tl .hd)))) <| RG.va (FV.lN rfl (hS5.memA (.tl .hd))) ?_
 refine RG.new .plain rfl (Does.build (α := TShare) (xs := ([a0, a1] : List TShare)) (vs := [.agg ((cs_TShare a0)).toArray, .agg ((cs_TShare a1)).toArray]) (ds' := (cs_TShare a0 ++ cs_TShare a1)) rfl hS5 el31 rfl (e2 rfl rfl) (by kernel_rfl) rfl) (fun w5 b6 hS6 hT5 => ?_)
 have hc0 := Cells.at_ (cs := (cs_TShare a0 ++ cs_TShare a1)) (xs := (([a0, a1] : List TShare) : List TShare)) hS6 L (Cells.cons (cs := (cs_TShare a0)) (ds := (cs_TShare a1)) (mk_TShare a0.fN a0.fD) (Cells.cons (cs := (cs_TShare a1)) (ds := []) (mk_TShare a1.fN a1.fD) (Cells.nil _ _)))
 obtain ⟨y0, hy0, h⟩ := bind_in h
 refine RG.cq (.bool y0) body80 rfl (e1 rfl) (fun w9 hw9 => share_valid_c n _ w9 (hS6.hL0 hL hw9) ([a0, a1] : List TShare) (Rep.keep0 (St.lend (α := TShare) (L := L) hS6 .hd hc0 hL) hw9) hy0) rfl <| RG.va (FV.not rfl) <| RG.nil <| MX.ifnb rfl h (fun c0 h => ?_) (fun c0 h => ?_)
 refine MX.skip <| MX.seq <| MX.drawT 6 tb53_4 (by kernel_rfl) (by kernel_rfl) (by kernel_rfl) (fun kt0 kp0 => ?_)
 refine RD.vw 0 1 kt0 rfl kp0 (fun _ => FV.move rfl) rfl <| RD.vx 1 3 244 kt0 rfl kp0 (FV.lN rfl (hS6.memA (.tl (.tl (.tl .hd))))) rfl <| RD.vx 3 11 240 kt0 rfl kp0 (FV.lN rfl (hS6.memA (.tl (.tl .hd)))) rfl ?_
 obtain ⟨y1, hy1, h⟩ := bind_in h
 refine RD.cl 2 15 kt0 rfl .plain body62 rfl (e1 rfl) (fun w9 hw9 => share_Read_c n _ w9 (hS6.hL hL hw9) a0 hy1) rfl (fun w6 vu0 hag0 ⟨v0, v1, hu_, hr0, hr1⟩ => ?_)
 subst hu_
 obtain ⟨hS7, hT6⟩ := hS6.agr hag0
 obtain ⟨y2, hy2, h⟩ := bind_in h
 refine RD.cl 4 31 kt0 rfl .plain body62 rfl (e1 rfl) (fun w9 hw9 => share_Read_c n _ w9 (hS7.hL hL hw9) a1 hy2) rfl (fun w8 vu1 hag1 ⟨v2, v3, hu_, hr2, hr3⟩ => ?_)
 subst hu_
 obtain ⟨hS9, hT7⟩ := hS7.agr hag1
 obtain ⟨y3, hy3, h⟩ := bind_in h
 have hm0 := Rep.mv hr0 hT7
 have hm1 := Rep.mv hr1 hT7
 refine RD.cl 5 63 kt0 rfl .plain body83 rfl (e2 rfl rfl) (fun w9 hw9 => share_Ratio_Minus_c n _ w9 (hS9.hL hL hw9) y1 (Rep.keep0 hm0 hw9) (Rep.keep0 hm1 hw9) y2 (Rep.keep0 hr2 hw9) (Rep.keep0 hr3 hw9) hy3) rfl (fun w67 vu2 hag2 ⟨v4, v5, hu_, hr4, hr5⟩ => ?_)
 subst hu_
 obtain ⟨hS70, hT8⟩ := hS9.agr hag2
 refine RD.nw 6 127 kt0 rfl rfl .plain (Acts.storeAll (news := [.bool y3.fLong.fBelow, v4, .bool y3.fUnder.fBelow, v5]) hS70 (.tl .hd) rfl rfl rfl rfl rfl rfl (o4 rfl (Rep.o1 hr4) rfl (Rep.o1 hr5))) (fun w76 hS77 hT78 => ?_)
 refine RD.one (i := 7) (readyD_ok kt0 (by kernel_rfl)) (RO.val (m' := 255) (stepC_ok kt0 (by kernel_rfl)) rfl .plain rfl (FV.assign rfl) ?_)
 refine RD.done (doneD_ok kt0 (by kernel_rfl)) <| MX.ret rfl <| RT.leave (u := .tuple #[.agg #[.bool y3.fLong.fBelow, v4, .bool y3.fUnder.fBelow, v5], vI 0]) hb1 Tryz.func53 rfl (.cons (.many (cs := [.bool y3.fLong.fBelow, v4, .bool y3.fUnder.fBelow, v5]) (by kernel_rfl) rfl (hS77.memA (.tl .hd))) (.cons (.tmp rfl) .nil)) rfl <| RG.va (FV.extract rfl rfl) <| RG.va (FV.extract rfl rfl) ?_
 obtain ⟨y4, hy4, h⟩ := bind_in h
 have hm2 := Rep.mv hr4 hT78
 have hm3 := Rep.mv hr5 hT78
 refine RG.cq (.tuple #[.agg ((cs_TShare y4.1)).toArray, vI y4.2]) body52 rfl (e2 rfl rfl) (fun w9 hw9 => share_told_c n _ w9 (hS77.hL0 hL hw9) y3 (hS77.kd hm2 hw9) (hS77.kd hm3 hw9) (0 : Int) hy4) rfl <| RG.va (FV.extract rfl rfl) <| RG.va (FV.extract rfl rfl) <| RG.now .plain (Acts.storeAll (news := (cs_TShare y4.1)) hS77 (.tl (.tl (.tl (.tl .hd)))) rfl rfl rfl rfl rfl rfl (onesB rfl)) (fun w82 hS83 hT84 => ?_)
 refine RG.so rfl <| RG.nil <| MX.ret rfl <| RT.leave hb0 Tryz.func57 rfl (.cons (.many (cs := (cs_TShare y4.1)) (by kernel_rfl) rfl (hS83.memA (.tl (.tl (.tl (.tl .hd)))))) (.cons (.tmp rfl) .nil)) rfl ?_
 cases h
 exact hS83.gv
 refine MX.sr <| RG.new .plain rfl (Does.alloc (zs := [.bool false, vN, .bool false, vN]) hS6 (zB (by kernel_rfl))) (fun w86 b7 hS87 hT88 => ?_)
 refine RG.nil <| MX.sr <| RG.va (FV.lN rfl (hS87.memA .hd)) <| RG.now .plain (Acts.storeAll (news := [.bool false, vN, .bool false, vN]) hS87 (.tl (.tl .hd)) rfl rfl rfl rfl rfl rfl (onesB rfl)) (fun w90 hS91 hT92 => ?_)
 refine RG.so rfl <| RG.nil <| MX.ret rfl <| RT.leave (u := .tuple #[.agg #[.bool false, vN, .bool false, vN], vI 20]) hb1 Tryz.func53 rfl (.cons (.many (cs := [.bool false, vN, .bool false, vN]) (by kernel_rfl) rfl (hS91.memA (.tl (.tl .hd)))) (.cons (.tmp rfl) .nil)) rfl <| RG.va (FV.extract rfl rfl) <| RG.va (FV.extract rfl rfl) ?_
 obtain ⟨y5, hy5, h⟩ := bind_in h
 refine RG.cq (.tuple #[.agg ((cs_TShare y5.1)).toArray, vI y5.2]) body52 rfl (e2 rfl rfl) (fun w9 hw9 => share_told_c n _ w9 (hS91.hL0 hL hw9) (⟨(⟨false, ([] : List UInt64)⟩ : TLong), (⟨false, ([] : List UInt64)⟩ : TLong)⟩ : TRatio) (Rep.keep0 (Rep.nilSlice _ _) hw9) (Rep.keep0 (Rep.nilSlice _ _) hw9) (20 : Int) hy5) rfl <| RG.va (FV.extract rfl rfl) <| RG.va (FV.extract rfl rfl) <| RG.now .plain (Acts.storeAll (news := (cs_TShare y5.1)) hS91 (.tl (.tl (.tl (.tl (.tl .hd))))) rfl rfl rfl rfl rfl rfl (onesB rfl)) (fun w94 hS95 hT96 => ?_)
 refine RG.so rfl <| RG.nil <| MX.ret rfl <| RT.leave hb0 Tryz.func57 rfl (.cons (.many (cs := (cs_TShare y5.1)) (by kernel_rfl) rfl (hS95.memA (.tl (.tl (.tl (.tl (.tl .hd))))))) (.cons (.tmp rfl) .nil)) rfl ?_
 cases h
 exact hS95.gv
theorem body57 : bodyB Tryz.prog 57 = true := by kernel_rfl
def minority_sub_p (n : Nat) (a0 : TShare) (a1 : TShare) : Option (Except Tbroken TShare) :=
  (share_Sub_p n a0 a1).bind fun y0 => (minority_must_api_Share_p n y0.1 y0.2).bind fun y1 => exc y1 (fun y2 => some (.ok y2)) (fun e0 => some (.error e0))
theorem minority_sub_c (n : Nat) (L : List Nat) (w : World) (hL : ∀ b ∈ L, b < w.heap.size) (a0 : TShare) (a1 : TShare)  {r : Except Tbroken TShare} (h : minority_sub_p n a0 a1 = some r) :
    Calls Tryz.prog 26 #[.agg ((cs_TShare a0)).toArray, .agg ((cs_TShare a1)).toArray] w (PGives w (fun (y : TShare) _ u => u = .agg ((cs_TShare y)).toArray) (fun e => .iface 93 (.agg #[vI e.fErrno])) r) := by
 unfold minority_sub_p at h
 have hS0 := St.start w
 refine MX.startP Tryz.func26 rfl rfl rfl (fun _ cs0 hb0 hp0 => ?_)
 refine MX.sr <| RG.new .plain rfl (Does.box (vs := (cs_TShare a0)) hS0 rfl rfl) (fun w2 b5 hS3 hT4 => ?_)
 refine RG.new .plain rfl (Does.box (vs := (cs_TShare a1)) hS3 rfl rfl) (fun w7 b0 hS8 hT9 => ?_)
 refine RG.new .plain rfl (Does.alloc (zs := [.int .u64 0, .int .u64 0, .int .u64 0, .int .u64 0, .int .u64 0, .int .u64 0, .int .u64 0, .int .u64 0, .int .u64 0, .int .u64 0, .int .u64 0, .int .u64 0, .int .u64 0, .int .u64 0, .int .u64 0, .int .u64 0]) hS8 (zB (by kernel_rfl))) (fun w0 b1 hS1 hT0 => ?_)
 refine RG.nil <| MX.sr <| RG.va (FV.lN rfl (hS1.memA (.tl (.tl .hd)))) <| RG.va (FV.lN rfl (hS1.memA (.tl .hd))) ?_
 obtain ⟨y0, hy0, h⟩ := bind_in h
 refine RG.cq (.tuple #[.agg ((cs_TShare y0.1)).toArray, vI y0.2]) body57 rfl (e2 rfl rfl) (fun w9 hw9 => share_Sub_c n _ w9 (hS1.hL0 hL hw9) a0 a1 hy0) rfl <| RG.va (FV.extract rfl rfl) <| RG.va (FV.extract rfl rfl) ?_
 obtain ⟨y1, hy1, h⟩ := bind_in h
 rcases y1 with e0 | y2
 have h := exc_e h
 try dsimp only at h
 refine RG.callE (fst := []) (cap := []) .plain body24 rfl (e2 rfl rfl) (fun w9 hw9 => minority_must_api_Share_c n _ w9 (hS1.hL0 hL hw9) y0.1 y0.2 hy1) (fun w1 hag0 => ?_)
 obtain ⟨hS2, hT1⟩ := hS1.agr hag0
 cases h
 exact PN.leave hp0 Tryz.func26 ⟨hS2.ag, rfl⟩
 have h := exc_o h
 try dsimp only at h
 refine RG.cq (.agg ((cs_TShare y2)).toArray) body24 rfl (e2 rfl rfl) (fun w9 hw9 => Calls.okp (minority_must_api_Share_c n _ w9 (hS1.hL0 hL hw9) y0.1 y0.2 hy1)) rfl <| RG.now .plain (Acts.storeAll (news := (cs_TShare y2)) hS1 .hd rfl rfl rfl rfl rfl rfl (onesB rfl)) (fun w3 hS4 hT2 => ?_)
 refine RG.nil <| MX.ret rfl <| RT.leave hb0 Tryz.func26 rfl (.cons (.many (cs := (cs_TShare y2)) (by kernel_rfl) rfl (hS4.memA .hd)) .nil) rfl ?_
 cases h
 exact ⟨hS4.ag, fun w9 hw9 => okOf_in rfl⟩
def tb84_1 : List (Nat × Nat × Nat) := [(0, 32, 4), (1, 64, 32), (0, 128, 8), (4, 256, 128), (10, 512, 320), (0, 1024, 4), (32, 2048, 1024), (0, 4096, 8), (128, 8192, 4096), (336, 16384, 10240), (528, 32768, 16896), (2047, 0, 32784)]
def share_Ratio_Over_p (n : Nat) (a0 : TRatio) (a1 : TRatio) : Option TRatio :=
  (wide_Long_Times_p n a0.fLong a1.fUnder).bind fun y0 => (wide_Long_Times_p n a0.fUnder a1.fLong).bind fun y1 => (share_Lowest_p n y0 y1).bind fun y2 => some y2
theorem share_Ratio_Over_c (n : Nat) (L : List Nat) (w : World) (hL : ∀ b ∈ L, b < w.heap.size) (a0 : TRatio) {v0_1 : Value} (h0_1 : Rep.R w L [v0_1] a0.fLong.fWords) {v0_3 : Value} (h0_3 : Rep.R w L [v0_3] a0.fUnder.fWords) (a1 : TRatio) {v1_1 : Value} (h1_1 : Rep.R w L [v1_1] a1.fLong.fWords) {v1_3 : Value} (h1_3 : Rep.R w L [v1_3] a1.fUnder.fWords)  {r : TRatio} (h : share_Ratio_Over_p n a0 a1 = some r) :
    Calls Tryz.prog 84 #[.agg #[.bool a0.fLong.fBelow, v0_1, .bool a0.fUnder.fBelow, v0_3], .agg #[.bool a1.fLong.fBelow, v1_1, .bool a1.fUnder.fBelow, v1_3]] w (Gives w fun w' u => ∃ v0_1 v0_3 : Value, u = .agg #[.bool r.fLong.fBelow, v0_1, .bool r.fUnder.fBelow, v0_3] ∧ Rep.R w' L [v0_1] r.fLong.fWords ∧ Rep.R w' L [v0_3] r.fUnder.fWords) := by
 unfold share_Ratio_Over_p at h
 have hS0 := St.start w
 refine MX.start Tryz.func84 rfl rfl rfl (fun _ cs0 hb0 => ?_)
 refine MX.sr <| RG.new .plain rfl (Does.box (vs := [.bool a0.fLong.fBelow, v0_1, .bool a0.fUnder.fBelow, v0_3]) hS0 rfl rfl) (fun w2 b5 hS3 hT4 => ?_)
 refine RG.new .plain rfl (Does.box (vs := [.bool a1.fLong.fBelow, v1_1, .bool a1.fUnder.fBelow, v1_3]) hS3 rfl rfl) (fun w7 b0 hS8 hT9 => ?_)
 refine RG.new .plain rfl (Does.alloc (zs := [.bool false, vN, .bool false, vN]) hS8 (zB (by kernel_rfl))) (fun w0 b1 hS1 hT0 => ?_)
 refine RG.nil <| MX.seq <| MX.drawT 11 tb84_1 (by kernel_rfl) (by kernel_rfl) (by kernel_rfl) (fun kt0 kp0 => ?_)
 refine RD.vw 0 1 kt0 rfl kp0 (fun _ => FV.fa 0 rfl) rfl <| RD.vx 1 3 3600 kt0 rfl kp0 (FV.loadN (cs := [.bool a0.fLong.fBelow, v0_1]) (by kernel_rfl) rfl (mem_part (hS1.memA (.tl (.tl .hd))) 0 2)) rfl <| RD.vw 2 7 kt0 rfl kp0 (fun _ => FV.fa 2 rfl) rfl <| RD.vx 3 15 3600 kt0 rfl kp0 (FV.loadN (cs := [.bool a1.fUnder.fBelow, v1_3]) (by kernel_rfl) rfl (mem_part (hS1.memA (.tl .hd)) 2 2)) rfl <| RD.vw 5 47 kt0 rfl kp0 (fun _ => FV.fa 2 rfl) rfl <| RD.vx 6 111 3584 kt0 rfl kp0 (FV.loadN (cs := [.bool a0.fUnder.fBelow, v0_3]) (by kernel_rfl) rfl (mem_part (hS1.memA (.tl (.tl .hd))) 2 2)) rfl ?_
 refine RD.vw 7 239 kt0 rfl kp0 (fun _ => FV.fa 0 rfl) rfl <| RD.vx 8 495 3584 kt0 rfl kp0 (FV.loadN (cs := [.bool a1.fLong.fBelow, v1_1]) (by kernel_rfl) rfl (mem_part (hS1.memA (.tl .hd)) 0 2)) rfl ?_
 obtain ⟨y0, hy0, h⟩ := bind_in h
 refine RD.cl 4 511 kt0 rfl .plain body89 rfl (e2 rfl rfl) (fun w9 hw9 => wide_Long_Times_c n _ w9 (hS1.hL hL hw9) a0.fLong (hS1.km h0_1 hw9) a1.fUnder (hS1.km h1_3 hw9) hy0) rfl (fun w1 vu0 hag0 ⟨v0, hu_, hr0⟩ => ?_)
 subst hu_
 obtain ⟨hS2, hT1⟩ := hS1.agr hag0
 obtain ⟨y1, hy1, h⟩ := bind_in h
 refine RD.cl 9 1023 kt0 rfl .plain body89 rfl (e2 rfl rfl) (fun w9 hw9 => wide_Long_Times_c n _ w9 (hS2.hL hL hw9) a0.fUnder (hS2.km h0_3 hw9) a1.fLong (hS2.km h1_1 hw9) hy1) rfl (fun w3 vu1 hag1 ⟨v1, hu_, hr1⟩ => ?_)
 subst hu_
 obtain ⟨hS4, hT2⟩ := hS2.agr hag1
 obtain ⟨y2, hy2, h⟩ := bind_in h
 have hm0 := Rep.mv hr0 hT2
 refine RD.cl 10 2047 kt0 rfl .plain body94 rfl (e2 rfl rfl) (fun w9 hw9 => share_Lowest_c n _ w9 (hS4.hL hL hw9) y0 (Rep.keep0 hm0 hw9) y1 (Rep.keep0 hr1 hw9) hy2) rfl (fun w4 vu2 hag2 ⟨v2, v3, hu_, hr2, hr3⟩ => ?_)
 subst hu_
 obtain ⟨hS5, hT3⟩ := hS4.agr hag2
 refine RD.nw 11 4095 kt0 rfl rfl .plain (Acts.storeAll (news := [.bool y2.fLong.fBelow, v2, .bool y2.fUnder.fBelow, v3]) hS5 .hd rfl rfl rfl rfl rfl rfl (o4 rfl (Rep.o1 hr2) rfl (Rep.o1 hr3))) (fun w5 hS6 hT5 => ?_)
 refine RD.done (doneD_ok kt0 (by kernel_rfl)) <| MX.ret rfl <| RT.leave hb0 Tryz.func84 rfl (.cons (.many (cs := [.bool y2.fLong.fBelow, v2, .bool y2.fUnder.fBelow, v3]) (by kernel_rfl) rfl (hS6.memA .hd)) .nil) rfl ?_
 cases h
 have hm1 := Rep.mv hr2 hT5
 have hm2 := Rep.mv hr3 hT5
 exact ⟨hS6.ag, fun w9 hw9 => ⟨v2, v3, rfl, hS6.kd hm1 hw9, hS6.kd hm2 hw9⟩⟩
end Go.Proofs.YtmpoojncffgjoaaGreatDoor
