/- Functions of the program, and what they give: part 5. -/
import Derived.Test.YtmpoojncffgjoaaGreatDoorPK4
namespace Go.Proofs.YtmpoojncffgjoaaGreatDoor
open Go Go.RowKit
set_option maxRecDepth 4000
set_option maxHeartbeats 4000000

theorem body84 : bodyB Tryz.prog 84 = true := by kernel_rfl
def share_Div_p (n : Nat) (a0 : TShare) (a1 : TShare) : Option (TShare × Int) :=
  (share_valid_p n ([a0, a1] : List TShare)).bind fun y0 => (if y0 = true then (if a1.fN = ((0 : UInt64), (0 : UInt64), (0 : UInt64), (0 : UInt64), (0 : UInt64), (0 : UInt64), (0 : UInt64), (0 : UInt64)) then some ((⟨((0 : UInt64), (0 : UInt64), (0 : UInt64), (0 : UInt64), (0 : UInt64), (0 : UInt64), (0 : UInt64), (0 : UInt64)), ((0 : UInt64), (0 : UInt64), (0 : UInt64), (0 : UInt64), (0 : UInt64), (0 : UInt64), (0 : UInt64), (0 : UInt64))⟩ : TShare), (7 : Int)) else (share_valid_p n ([a0, a1] : List TShare)).bind fun y1 => (if y1 = true then (share_Read_p n a0).bind fun y2 => (share_Read_p n a1).bind fun y3 => (share_Ratio_Over_p n y2 y3).bind fun y4 => (share_told_p n y4 (0 : Int)).bind fun y5 => some (y5.1, y5.2) else (share_told_p n (⟨(⟨false, ([] : List UInt64)⟩ : TLong), (⟨false, ([] : List UInt64)⟩ : TLong)⟩ : TRatio) (20 : Int)).bind fun y6 => some (y6.1, y6.2))) else (share_valid_p n ([a0, a1] : List TShare)).bind fun y7 => (if y7 = true then (share_Read_p n a0).bind fun y8 => (share_Read_p n a1).bind fun y9 => (share_Ratio_Over_p n y8 y9).bind fun y10 => (share_told_p n y10 (0 : Int)).bind fun y11 => some (y11.1, y11.2) else (share_told_p n (⟨(⟨false, ([] : List UInt64)⟩ : TLong), (⟨false, ([] : List UInt64)⟩ : TLong)⟩ : TRatio) (20 : Int)).bind fun y12 => some (y12.1, y12.2)))
theorem share_Div_c (n : Nat) (L : List Nat) (w : World) (hL : ∀ b ∈ L, b < w.heap.size) (a0 : TShare) (a1 : TShare)  {r : TShare × Int} (h : share_Div_p n a0 a1 = some r) :
    Calls Tryz.prog 58 #[.agg ((cs_TShare a0)).toArray, .agg ((cs_TShare a1)).toArray] w (Gives w fun _ u => u = .tuple #[.agg ((cs_TShare r.1)).toArray, vI r.2]) := by
 unfold share_Div_p at h
 have hS0 := St.start w
 refine MX.start Tryz.func58 rfl rfl rfl (fun _ cs0 hb0 => ?_)
 refine MX.sr <| RG.new .plain rfl (Does.box (vs := (cs_TShare a0)) hS0 rfl rfl) (fun w2 b5 hS3 hT4 => ?_)
 refine RG.new .plain rfl (Does.box (vs := (cs_TShare a1)) hS3 rfl rfl) (fun w7 b0 hS8 hT9 => ?_)
 refine RG.new .plain rfl (Does.alloc (zs := [.int .u64 0, .int .u64 0, .int .u64 0, .int .u64 0, .int .u64 0, .int .u64 0, .int .u64 0, .int .u64 0, .int .u64 0, .int .u64 0, .int .u64 0, .int .u64 0, .int .u64 0, .int .u64 0, .int .u64 0, .int .u64 0]) hS8 (zB (by kernel_rfl))) (fun w0 b1 hS1 hT0 => ?_)
 refine RG.so rfl <| RG.nil <| MX.seq <| MX.sr <| RG.va (FV.lN rfl (hS1.memA (.tl (.tl .hd)))) <| RG.va (FV.lN rfl (hS1.memA (.tl .hd))) ?_
 refine RG.new .plain rfl (Does.build (α := TShare) (xs := ([a0, a1] : List TShare)) (vs := [.agg ((cs_TShare a0)).toArray, .agg ((cs_TShare a1)).toArray]) (ds' := (cs_TShare a0 ++ cs_TShare a1)) rfl hS1 el31 rfl (e2 rfl rfl) (by kernel_rfl) rfl) (fun w1 b2 hS2 hT1 => ?_)
 have hc0 := Cells.at_ (cs := (cs_TShare a0 ++ cs_TShare a1)) (xs := (([a0, a1] : List TShare) : List TShare)) hS2 L (Cells.cons (cs := (cs_TShare a0)) (ds := (cs_TShare a1)) (mk_TShare a0.fN a0.fD) (Cells.cons (cs := (cs_TShare a1)) (ds := []) (mk_TShare a1.fN a1.fD) (Cells.nil _ _)))
 obtain ⟨y0, hy0, h⟩ := bind_in h
 refine RG.cq (.bool y0) body80 rfl (e1 rfl) (fun w9 hw9 => share_valid_c n _ w9 (hS2.hL0 hL hw9) ([a0, a1] : List TShare) (Rep.keep0 (St.lend (α := TShare) (L := L) hS2 .hd hc0 hL) hw9) hy0) rfl <| RG.mo rfl <| RG.ifb (s := 10) rfl h (fun c0 h => ?_) (fun c0 h => ?_)
 refine RG.fg 0 rfl <| RG.ga (FV.loadN (cs := (cs_A36 a1.fN)) (by kernel_rfl) rfl (mem_part (hS2.memA (.tl (.tl .hd))) 0 8)) <| RG.ga (FV.buildV (vs := []) (u := .agg #[.int .u64 0, .int .u64 0, .int .u64 0, .int .u64 0, .int .u64 0, .int .u64 0, .int .u64 0, .int .u64 0]) evs_nil (fun w9 => by kernel_rfl)) <| RG.ga (FV.eqlV (v := .agg ((cs_A36 a1.fN)).toArray) (u := .agg #[.int .u64 0, .int .u64 0, .int .u64 0, .int .u64 0, .int .u64 0, .int .u64 0, .int .u64 0, .int .u64 0]) rfl rfl (eqlD_37 a1.fN ((0 : UInt64), (0 : UInt64), (0 : UInt64), (0 : UInt64), (0 : UInt64), (0 : UInt64), (0 : UInt64), (0 : UInt64)))) <| RG.pt rfl rfl <| RG.nil ?_
 refine MX.ifd rfl h (fun c1 h => ?_) (fun c1 h => ?_)
 refine MX.sr <| RG.va (FV.buildV (vs := []) (u := .agg #[.int .u64 0, .int .u64 0, .int .u64 0, .int .u64 0, .int .u64 0, .int .u64 0, .int .u64 0, .int .u64 0, .int .u64 0, .int .u64 0, .int .u64 0, .int .u64 0, .int .u64 0, .int .u64 0, .int .u64 0, .int .u64 0]) evs_nil (fun w9 => by kernel_rfl)) <| RG.now .plain (Acts.storeAll (news := [.int .u64 0, .int .u64 0, .int .u64 0, .int .u64 0, .int .u64 0, .int .u64 0, .int .u64 0, .int .u64 0, .int .u64 0, .int .u64 0, .int .u64 0, .int .u64 0, .int .u64 0, .int .u64 0, .int .u64 0, .int .u64 0]) hS2 (.tl .hd) rfl rfl rfl rfl rfl rfl (onesB rfl)) (fun w3 hS4 hT2 => ?_)
 refine RG.so rfl <| RG.nil <| MX.ret rfl <| RT.leave hb0 Tryz.func58 rfl (.cons (.many (cs := [.int .u64 0, .int .u64 0, .int .u64 0, .int .u64 0, .int .u64 0, .int .u64 0, .int .u64 0, .int .u64 0, .int .u64 0, .int .u64 0, .int .u64 0, .int .u64 0, .int .u64 0, .int .u64 0, .int .u64 0, .int .u64 0]) (by kernel_rfl) rfl (hS4.memA (.tl .hd))) (.cons (.tmp rfl) .nil)) rfl ?_
 cases h
 exact hS4.gv
 refine MX.skip <| MX.sr <| RG.va (FV.lN rfl (hS2.memA (.tl (.tl (.tl .hd))))) <| RG.va (FV.lN rfl (hS2.memA (.tl (.tl .hd)))) <| RG.enterP (fst := []) (cap := []) (vs := [.agg ((cs_TShare a0)).toArray, .agg ((cs_TShare a1)).toArray, .func (.func 84) #[] #[]]) .plain body53 Tryz.func53 rfl rfl rfl rfl (e3 rfl rfl rfl) rfl (fun cs1 hb1 hp0 => ?_)
 refine MX.sr <| RG.new .plain rfl (Does.box (vs := (cs_TShare a0)) hS2 rfl rfl) (fun w4 b3 hS5 hT3 => ?_)
 refine RG.new .plain rfl (Does.box (vs := (cs_TShare a1)) hS5 rfl rfl) (fun w5 b4 hS6 hT5 => ?_)
 refine RG.new .plain rfl (Does.alloc (zs := [.bool false, vN, .bool false, vN]) hS6 (zB (by kernel_rfl))) (fun w6 b6 hS7 hT6 => ?_)
 refine RG.so rfl <| RG.nil <| MX.seq <| MX.sr <| RG.va (FV.lN rfl (hS7.memA (.tl (.tl .hd)))) <| RG.va (FV.lN rfl (hS7.memA (.tl .hd))) ?_
 refine RG.new .plain rfl (Does.build (α := TShare) (xs := ([a0, a1] : List TShare)) (vs := [.agg ((cs_TShare a0)).toArray, .agg ((cs_TShare a1)).toArray]) (ds' := (cs_TShare a0 ++ cs_TShare a1)) rfl hS7 el31 rfl (e2 rfl rfl) (by kernel_rfl) rfl) (fun w8 b7 hS9 hT7 => ?_)
 have hc1 := Cells.at_ (cs := (cs_TShare a0 ++ cs_TShare a1)) (xs := (([a0, a1] : List TShare) : List TShare)) hS9 L (Cells.cons (cs := (cs_TShare a0)) (ds := (cs_TShare a1)) (mk_TShare a0.fN a0.fD) (Cells.cons (cs := (cs_TShare a1)) (ds := []) (mk_TShare a1.fN a1.fD) (Cells.nil _ _)))
 obtain ⟨y1, hy1, h⟩ := bind_in h
 refine RG.cq (.bool y1) body80 rfl (e1 rfl) (fun w9 hw9 => share_valid_c n _ w9 (hS9.hL0 hL hw9) ([a0, a1] : List TShare) (Rep.keep0 (St.lend (α := TShare) (L := L) hS9 .hd hc1 hL) hw9) hy1) rfl <| RG.va (FV.not rfl) <| RG.nil <| MX.ifnb rfl h (fun c2 h => ?_) (fun c2 h => ?_)
 refine MX.skip <| MX.seq <| MX.drawT 6 tb53_4 (by kernel_rfl) (by kernel_rfl) (by kernel_rfl) (fun kt0 kp0 => ?_)
 refine RD.vw 0 1 kt0 rfl kp0 (fun _ => FV.move rfl) rfl <| RD.vx 1 3 244 kt0 rfl kp0 (FV.lN rfl (hS9.memA (.tl (.tl (.tl .hd))))) rfl <| RD.vx 3 11 240 kt0 rfl kp0 (FV.lN rfl (hS9.memA (.tl (.tl .hd)))) rfl ?_
 obtain ⟨y2, hy2, h⟩ := bind_in h
 refine RD.cl 2 15 kt0 rfl .plain body62 rfl (e1 rfl) (fun w9 hw9 => share_Read_c n _ w9 (hS9.hL hL hw9) a0 hy2) rfl (fun w57 vu0 hag0 ⟨v0, v1, hu_, hr0, hr1⟩ => ?_)
 subst hu_
 obtain ⟨hS60, hT8⟩ := hS9.agr hag0
 obtain ⟨y3, hy3, h⟩ := bind_in h
 refine RD.cl 4 31 kt0 rfl .plain body62 rfl (e1 rfl) (fun w9 hw9 => share_Read_c n _ w9 (hS60.hL hL hw9) a1 hy3) rfl (fun w67 vu1 hag1 ⟨v2, v3, hu_, hr2, hr3⟩ => ?_)
 subst hu_
 obtain ⟨hS70, hT71⟩ := hS60.agr hag1
 obtain ⟨y4, hy4, h⟩ := bind_in h
 have hm0 := Rep.mv hr0 hT71
 have hm1 := Rep.mv hr1 hT71
 refine RD.cl 5 63 kt0 rfl .plain body84 rfl (e2 rfl rfl) (fun w9 hw9 => share_Ratio_Over_c n _ w9 (hS70.hL hL hw9) y2 (Rep.keep0 hm0 hw9) (Rep.keep0 hm1 hw9) y3 (Rep.keep0 hr2 hw9) (Rep.keep0 hr3 hw9) hy4) rfl (fun w79 vu2 hag2 ⟨v4, v5, hu_, hr4, hr5⟩ => ?_)
 subst hu_
 obtain ⟨hS82, hT83⟩ := hS70.agr hag2
 refine RD.nw 6 127 kt0 rfl rfl .plain (Acts.storeAll (news := [.bool y4.fLong.fBelow, v4, .bool y4.fUnder.fBelow, v5]) hS82 (.tl .hd) rfl rfl rfl rfl rfl rfl (o4 rfl (Rep.o1 hr4) rfl (Rep.o1 hr5))) (fun w88 hS89 hT90 => ?_)
 refine RD.one (i := 7) (readyD_ok kt0 (by kernel_rfl)) (RO.val (m' := 255) (stepC_ok kt0 (by kernel_rfl)) rfl .plain rfl (FV.assign rfl) ?_)
 refine RD.done (doneD_ok kt0 (by kernel_rfl)) <| MX.ret rfl <| RT.leave (u := .tuple #[.agg #[.bool y4.fLong.fBelow, v4, .bool y4.fUnder.fBelow, v5], vI 0]) hb1 Tryz.func53 rfl (.cons (.many (cs := [.bool y4.fLong.fBelow, v4, .bool y4.fUnder.fBelow, v5]) (by kernel_rfl) rfl (hS89.memA (.tl .hd))) (.cons (.tmp rfl) .nil)) rfl <| RG.va (FV.extract rfl rfl) <| RG.va (FV.extract rfl rfl) ?_
 obtain ⟨y5, hy5, h⟩ := bind_in h
 have hm2 := Rep.mv hr4 hT90
 have hm3 := Rep.mv hr5 hT90
 refine RG.cq (.tuple #[.agg ((cs_TShare y5.1)).toArray, vI y5.2]) body52 rfl (e2 rfl rfl) (fun w9 hw9 => share_told_c n _ w9 (hS89.hL0 hL hw9) y4 (hS89.kd hm2 hw9) (hS89.kd hm3 hw9) (0 : Int) hy5) rfl <| RG.va (FV.extract rfl rfl) <| RG.va (FV.extract rfl rfl) <| RG.now .plain (Acts.storeAll (news := (cs_TShare y5.1)) hS89 (.tl (.tl (.tl (.tl (.tl .hd))))) rfl rfl rfl rfl rfl rfl (onesB rfl)) (fun w94 hS95 hT96 => ?_)
 refine RG.so rfl <| RG.nil <| MX.ret rfl <| RT.leave hb0 Tryz.func58 rfl (.cons (.many (cs := (cs_TShare y5.1)) (by kernel_rfl) rfl (hS95.memA (.tl (.tl (.tl (.tl (.tl .hd))))))) (.cons (.tmp rfl) .nil)) rfl ?_
 cases h
 exact hS95.gv
 refine MX.sr <| RG.new .plain rfl (Does.alloc (zs := [.bool false, vN, .bool false, vN]) hS9 (zB (by kernel_rfl))) (fun w98 b8 hS99 hT10 => ?_)
 refine RG.nil <| MX.sr <| RG.va (FV.lN rfl (hS99.memA .hd)) <| RG.now .plain (Acts.storeAll (news := [.bool false, vN, .bool false, vN]) hS99 (.tl (.tl .hd)) rfl rfl rfl rfl rfl rfl (onesB rfl)) (fun w10 hS10 hT11 => ?_)
 refine RG.so rfl <| RG.nil <| MX.ret rfl <| RT.leave (u := .tuple #[.agg #[.bool false, vN, .bool false, vN], vI 20]) hb1 Tryz.func53 rfl (.cons (.many (cs := [.bool false, vN, .bool false, vN]) (by kernel_rfl) rfl (hS10.memA (.tl (.tl .hd)))) (.cons (.tmp rfl) .nil)) rfl <| RG.va (FV.extract rfl rfl) <| RG.va (FV.extract rfl rfl) ?_
 obtain ⟨y6, hy6, h⟩ := bind_in h
 refine RG.cq (.tuple #[.agg ((cs_TShare y6.1)).toArray, vI y6.2]) body52 rfl (e2 rfl rfl) (fun w9 hw9 => share_told_c n _ w9 (hS10.hL0 hL hw9) (⟨(⟨false, ([] : List UInt64)⟩ : TLong), (⟨false, ([] : List UInt64)⟩ : TLong)⟩ : TRatio) (Rep.keep0 (Rep.nilSlice _ _) hw9) (Rep.keep0 (Rep.nilSlice _ _) hw9) (20 : Int) hy6) rfl <| RG.va (FV.extract rfl rfl) <| RG.va (FV.extract rfl rfl) <| RG.now .plain (Acts.storeAll (news := (cs_TShare y6.1)) hS10 (.tl (.tl (.tl (.tl (.tl (.tl .hd)))))) rfl rfl rfl rfl rfl rfl (onesB rfl)) (fun w11 hS11 hT12 => ?_)
 refine RG.so rfl <| RG.nil <| MX.ret rfl <| RT.leave hb0 Tryz.func58 rfl (.cons (.many (cs := (cs_TShare y6.1)) (by kernel_rfl) rfl (hS11.memA (.tl (.tl (.tl (.tl (.tl (.tl .hd)))))))) (.cons (.tmp rfl) .nil)) rfl ?_
 cases h
 exact hS11.gv
 refine RG.no <| RG.no <| RG.no <| RG.no <| RG.pf rfl rfl <| RG.nil ?_
 refine MX.cond_f rfl <| MX.skip <| MX.sr <| RG.va (FV.lN rfl (hS2.memA (.tl (.tl (.tl .hd))))) <| RG.va (FV.lN rfl (hS2.memA (.tl (.tl .hd)))) <| RG.enterP (fst := []) (cap := []) (vs := [.agg ((cs_TShare a0)).toArray, .agg ((cs_TShare a1)).toArray, .func (.func 84) #[] #[]]) .plain body53 Tryz.func53 rfl rfl rfl rfl (e3 rfl rfl rfl) rfl (fun cs2 hb2 hp1 => ?_)
 refine MX.sr <| RG.new .plain rfl (Does.box (vs := (cs_TShare a0)) hS2 rfl rfl) (fun w13 b9 hS12 hT13 => ?_)
 refine RG.new .plain rfl (Does.box (vs := (cs_TShare a1)) hS12 rfl rfl) (fun w14 b11 hS14 hT15 => ?_)
 refine RG.new .plain rfl (Does.alloc (zs := [.bool false, vN, .bool false, vN]) hS14 (zB (by kernel_rfl))) (fun w15 b12 hS15 hT16 => ?_)
 refine RG.so rfl <| RG.nil <| MX.seq <| MX.sr <| RG.va (FV.lN rfl (hS15.memA (.tl (.tl .hd)))) <| RG.va (FV.lN rfl (hS15.memA (.tl .hd))) ?_
 refine RG.new .plain rfl (Does.build (α := TShare) (xs := ([a0, a1] : List TShare)) (vs := [.agg ((cs_TShare a0)).toArray, .agg ((cs_TShare a1)).toArray]) (ds' := (cs_TShare a0 ++ cs_TShare a1)) rfl hS15 el31 rfl (e2 rfl rfl) (by kernel_rfl) rfl) (fun w16 b13 hS16 hT17 => ?_)
 have hc2 := Cells.at_ (cs := (cs_TShare a0 ++ cs_TShare a1)) (xs := (([a0, a1] : List TShare) : List TShare)) hS16 L (Cells.cons (cs := (cs_TShare a0)) (ds := (cs_TShare a1)) (mk_TShare a0.fN a0.fD) (Cells.cons (cs := (cs_TShare a1)) (ds := []) (mk_TShare a1.fN a1.fD) (Cells.nil _ _)))
 obtain ⟨y7, hy7, h⟩ := bind_in h
 refine RG.cq (.bool y7) body80 rfl (e1 rfl) (fun w9 hw9 => share_valid_c n _ w9 (hS16.hL0 hL hw9) ([a0, a1] : List TShare) (Rep.keep0 (St.lend (α := TShare) (L := L) hS16 .hd hc2 hL) hw9) hy7) rfl <| RG.va (FV.not rfl) <| RG.nil <| MX.ifnb rfl h (fun c3 h => ?_) (fun c3 h => ?_)
 refine MX.skip <| MX.seq <| MX.drawT 6 tb53_4 (by kernel_rfl) (by kernel_rfl) (by kernel_rfl) (fun kt1 kp1 => ?_)
 refine RD.vw 0 1 kt1 rfl kp1 (fun _ => FV.move rfl) rfl <| RD.vx 1 3 244 kt1 rfl kp1 (FV.lN rfl (hS16.memA (.tl (.tl (.tl .hd))))) rfl <| RD.vx 3 11 240 kt1 rfl kp1 (FV.lN rfl (hS16.memA (.tl (.tl .hd)))) rfl ?_
 obtain ⟨y8, hy8, h⟩ := bind_in h
 refine RD.cl 2 15 kt1 rfl .plain body62 rfl (e1 rfl) (fun w9 hw9 => share_Read_c n _ w9 (hS16.hL hL hw9) a0 hy8) rfl (fun w18 vu3 hag3 ⟨v6, v7, hu_, hr6, hr7⟩ => ?_)
 subst hu_
 obtain ⟨hS17, hT18⟩ := hS16.agr hag3
 obtain ⟨y9, hy9, h⟩ := bind_in h
 refine RD.cl 4 31 kt1 rfl .plain body62 rfl (e1 rfl) (fun w9 hw9 => share_Read_c n _ w9 (hS17.hL hL hw9) a1 hy9) rfl (fun w19 vu4 hag4 ⟨v8, v9, hu_, hr8, hr9⟩ => ?_)
 subst hu_
 obtain ⟨hS19, hT20⟩ := hS17.agr hag4
 obtain ⟨y10, hy10, h⟩ := bind_in h
 have hm4 := Rep.mv hr6 hT20
 have hm5 := Rep.mv hr7 hT20
 refine RD.cl 5 63 kt1 rfl .plain body84 rfl (e2 rfl rfl) (fun w9 hw9 => share_Ratio_Over_c n _ w9 (hS19.hL hL hw9) y8 (Rep.keep0 hm4 hw9) (Rep.keep0 hm5 hw9) y9 (Rep.keep0 hr8 hw9) (Rep.keep0 hr9 hw9) hy10) rfl (fun w20 vu5 hag5 ⟨v10, v11, hu_, hr10, hr11⟩ => ?_)
 subst hu_
 obtain ⟨hS20, hT21⟩ := hS19.agr hag5
 refine RD.nw 6 127 kt1 rfl rfl .plain (Acts.storeAll (news := [.bool y10.fLong.fBelow, v10, .bool y10.fUnder.fBelow, v11]) hS20 (.tl .hd) rfl rfl rfl rfl rfl rfl (o4 rfl (Rep.o1 hr10) rfl (Rep.o1 hr11))) (fun w21 hS21 hT22 => ?_)
 refine RD.one (i := 7) (readyD_ok kt1 (by kernel_rfl)) (RO.val (m' := 255) (stepC_ok kt1 (by kernel_rfl)) rfl .plain rfl (FV.assign rfl) ?_)
 refine RD.done (doneD_ok kt1 (by kernel_rfl)) <| MX.ret rfl <| RT.leave (u := .tuple #[.agg #[.bool y10.fLong.fBelow, v10, .bool y10.fUnder.fBelow, v11], vI 0]) hb2 Tryz.func53 rfl (.cons (.many (cs := [.bool y10.fLong.fBelow, v10, .bool y10.fUnder.fBelow, v11]) (by kernel_rfl) rfl (hS21.memA (.tl .hd))) (.cons (.tmp rfl) .nil)) rfl <| RG.va (FV.extract rfl rfl) <| RG.va (FV.extract rfl rfl) ?_
 obtain ⟨y11, hy11, h⟩ := bind_in h
 have hm6 := Rep.mv hr10 hT22
 have hm7 := Rep.mv hr11 hT22
 refine RG.cq (.tuple #[.agg ((cs_TShare y11.1)).toArray, vI y11.2]) body52 rfl (e2 rfl rfl) (fun w9 hw9 => share_told_c n _ w9 (hS21.hL0 hL hw9) y10 (hS21.kd hm6 hw9) (hS21.kd hm7 hw9) (0 : Int) hy11) rfl <| RG.va (FV.extract rfl rfl) <| RG.va (FV.extract rfl rfl) <| RG.now .plain (Acts.storeAll (news := (cs_TShare y11.1)) hS21 (.tl (.tl (.tl (.tl (.tl .hd))))) rfl rfl rfl rfl rfl rfl (onesB rfl)) (fun w22 hS22 hT23 => ?_)
 refine RG.so rfl <| RG.nil <| MX.ret rfl <| RT.leave hb0 Tryz.func58 rfl (.cons (.many (cs := (cs_TShare y11.1)) (by kernel_rfl) rfl (hS22.memA (.tl (.tl (.tl (.tl (.tl .hd))))))) (.cons (.tmp rfl) .nil)) rfl ?_
 cases h
 exact hS22.gv
 refine MX.sr <| RG.new .plain rfl (Does.alloc (zs := [.bool false, vN, .bool false, vN]) hS16 (zB (by kernel_rfl))) (fun w23 b14 hS23 hT24 => ?_)
 refine RG.nil <| MX.sr <| RG.va (FV.lN rfl (hS23.memA .hd)) <| RG.now .plain (Acts.storeAll (news := [.bool false, vN, .bool false, vN]) hS23 (.tl (.tl .hd)) rfl rfl rfl rfl rfl rfl (onesB rfl)) (fun w24 hS24 hT25 => ?_)
 refine RG.so rfl <| RG.nil <| MX.ret rfl <| RT.leave (u := .tuple #[.agg #[.bool false, vN, .bool false, vN], vI 20]) hb2 Tryz.func53 rfl (.cons (.many (cs := [.bool false, vN, .bool false, vN]) (by kernel_rfl) rfl (hS24.memA (.tl (.tl .hd)))) (.cons (.tmp rfl) .nil)) rfl <| RG.va (FV.extract rfl rfl) <| RG.va (FV.extract rfl rfl) ?_
 obtain ⟨y12, hy12, h⟩ := bind_in h
 refine RG.cq (.tuple #[.agg ((cs_TShare y12.1)).toArray, vI y12.2]) body52 rfl (e2 rfl rfl) (fun w9 hw9 => share_told_c n _ w9 (hS24.hL0 hL hw9) (⟨(⟨false, ([] : List UInt64)⟩ : TLong), (⟨false, ([] : List UInt64)⟩ : TLong)⟩ : TRatio) (Rep.keep0 (Rep.nilSlice _ _) hw9) (Rep.keep0 (Rep.nilSlice _ _) hw9) (20 : Int) hy12) rfl <| RG.va (FV.extract rfl rfl) <| RG.va (FV.extract rfl rfl) <| RG.now .plain (Acts.storeAll (news := (cs_TShare y12.1)) hS24 (.tl (.tl (.tl (.tl (.tl (.tl .hd)))))) rfl rfl rfl rfl rfl rfl (onesB rfl)) (fun w26 hS25 hT26 => ?_)
 refine RG.so rfl <| RG.nil <| MX.ret rfl <| RT.leave hb0 Tryz.func58 rfl (.cons (.many (cs := (cs_TShare y12.1)) (by kernel_rfl) rfl (hS25.memA (.tl (.tl (.tl (.tl (.tl (.tl .hd)))))))) (.cons (.tmp rfl) .nil)) rfl ?_
 cases h
 exact hS25.gv
theorem body58 : bodyB Tryz.prog 58 = true := by kernel_rfl
def minority_div_p (n : Nat) (a0 : TShare) (a1 : TShare) : Option (Except Tbroken TShare) :=
  (share_Div_p n a0 a1).bind fun y0 => (minority_must_api_Share_p n y0.1 y0.2).bind fun y1 => exc y1 (fun y2 => some (.ok y2)) (fun e0 => some (.error e0))
theorem minority_div_c (n : Nat) (L : List Nat) (w : World) (hL : ∀ b ∈ L, b < w.heap.size) (a0 : TShare) (a1 : TShare)  {r : Except Tbroken TShare} (h : minority_div_p n a0 a1 = some r) :
    Calls Tryz.prog 28 #[.agg ((cs_TShare a0)).toArray, .agg ((cs_TShare a1)).toArray] w (PGives w (fun (y : TShare) _ u => u = .agg ((cs_TShare y)).toArray) (fun e => .iface 93 (.agg #[vI e.fErrno])) r) := by
 unfold minority_div_p at h
 have hS0 := St.start w
 refine MX.startP Tryz.func28 rfl rfl rfl (fun _ cs0 hb0 hp0 => ?_)
 refine MX.sr <| RG.new .plain rfl (Does.box (vs := (cs_TShare a0)) hS0 rfl rfl) (fun w2 b5 hS3 hT4 => ?_)
 refine RG.new .plain rfl (Does.box (vs := (cs_TShare a1)) hS3 rfl rfl) (fun w7 b0 hS8 hT9 => ?_)
 refine RG.new .plain rfl (Does.alloc (zs := [.int .u64 0, .int .u64 0, .int .u64 0, .int .u64 0, .int .u64 0, .int .u64 0, .int .u64 0, .int .u64 0, .int .u64 0, .int .u64 0, .int .u64 0, .int .u64 0, .int .u64 0, .int .u64 0, .int .u64 0, .int .u64 0]) hS8 (zB (by kernel_rfl))) (fun w0 b1 hS1 hT0 => ?_)
 refine RG.nil <| MX.sr <| RG.va (FV.lN rfl (hS1.memA (.tl (.tl .hd)))) <| RG.va (FV.lN rfl (hS1.memA (.tl .hd))) ?_
 obtain ⟨y0, hy0, h⟩ := bind_in h
 refine RG.cq (.tuple #[.agg ((cs_TShare y0.1)).toArray, vI y0.2]) body58 rfl (e2 rfl rfl) (fun w9 hw9 => share_Div_c n _ w9 (hS1.hL0 hL hw9) a0 a1 hy0) rfl <| RG.va (FV.extract rfl rfl) <| RG.va (FV.extract rfl rfl) ?_
 obtain ⟨y1, hy1, h⟩ := bind_in h
 rcases y1 with e0 | y2
 have h := exc_e h
 try dsimp only at h
 refine RG.callE (fst := []) (cap := []) .plain body24 rfl (e2 rfl rfl) (fun w9 hw9 => minority_must_api_Share_c n _ w9 (hS1.hL0 hL hw9) y0.1 y0.2 hy1) (fun w1 hag0 => ?_)
 obtain ⟨hS2, hT1⟩ := hS1.agr hag0
 cases h
 exact PN.leave hp0 Tryz.func28 ⟨hS2.ag, rfl⟩
 have h := exc_o h
 try dsimp only at h
 refine RG.cq (.agg ((cs_TShare y2)).toArray) body24 rfl (e2 rfl rfl) (fun w9 hw9 => Calls.okp (minority_must_api_Share_c n _ w9 (hS1.hL0 hL hw9) y0.1 y0.2 hy1)) rfl <| RG.now .plain (Acts.storeAll (news := (cs_TShare y2)) hS1 .hd rfl rfl rfl rfl rfl rfl (onesB rfl)) (fun w3 hS4 hT2 => ?_)
 refine RG.nil <| MX.ret rfl <| RT.leave hb0 Tryz.func28 rfl (.cons (.many (cs := (cs_TShare y2)) (by kernel_rfl) rfl (hS4.memA .hd)) .nil) rfl ?_
 cases h
 exact ⟨hS4.ag, fun w9 hw9 => okOf_in rfl⟩
def share_Add_p (n : Nat) (a0 : TShare) (a1 : TShare) : Option (TShare × Int) :=
  (share_valid_p n ([a0, a1] : List TShare)).bind fun y0 => (if y0 = true then (share_Read_p n a0).bind fun y1 => (share_Read_p n a1).bind fun y2 => (share_Ratio_Plus_p n y1 y2).bind fun y3 => (share_told_p n y3 (0 : Int)).bind fun y4 => some (y4.1, y4.2) else (share_told_p n (⟨(⟨false, ([] : List UInt64)⟩ : TLong), (⟨false, ([] : List UInt64)⟩ : TLong)⟩ : TRatio) (20 : Int)).bind fun y5 => some (y5.1, y5.2))
theorem share_Add_c (n : Nat) (L : List Nat) (w : World) (hL : ∀ b ∈ L, b < w.heap.size) (a0 : TShare) (a1 : TShare)  {r : TShare × Int} (h : share_Add_p n a0 a1 = some r) :
    Calls Tryz.prog 85 #[.agg ((cs_TShare a0)).toArray, .agg ((cs_TShare a1)).toArray] w (Gives w fun _ u => u = .tuple #[.agg ((cs_TShare r.1)).toArray, vI r.2]) := by
 unfold share_Add_p at h
 have hS0 := St.start w
 refine MX.start Tryz.func85 rfl rfl rfl (fun _ cs0 hb0 => ?_)
 refine MX.sr <| RG.new .plain rfl (Does.box (vs := (cs_TShare a0)) hS0 rfl rfl) (fun w2 b5 hS3 hT4 => ?_)
 refine RG.new .plain rfl (Does.box (vs := (cs_TShare a1)) hS3 rfl rfl) (fun w7 b0 hS8 hT9 => ?_)
 refine RG.new .plain rfl (Does.alloc (zs := [.int .u64 0, .int .u64 0, .int .u64 0, .int .u64 0, .int .u64 0, .int .u64 0, .int .u64 0, .int .u64 0, .int .u64 0, .int .u64 0, .int .u64 0, .int .u64 0, .int .u64 0, .int .u64 0, .int .u64 0, .int .u64 0]) hS8 (zB (by kernel_rfl))) (fun w0 b1 hS1 hT0 => ?_)
 refine RG.so rfl <| RG.nil <| MX.sr <| RG.va (FV.lN rfl (hS1.memA (.tl (.tl .hd)))) <| RG.va (FV.lN rfl (hS1.memA (.tl .hd))) <| RG.enterP (fst := []) (cap := []) (vs := [.agg ((cs_TShare a0)).toArray, .agg ((cs_TShare a1)).toArray, .func (.func 104) #[] #[]]) .plain body53 Tryz.func53 rfl rfl rfl rfl (e3 rfl rfl rfl) rfl (fun cs1 hb1 hp0 => ?_)
 refine MX.sr <| RG.new .plain rfl (Does.box (vs := (cs_TShare a0)) hS1 rfl rfl) (fun w1 b2 hS2 hT1 => ?_)
 refine RG.new .plain rfl (Does.box (vs := (cs_TShare a1)) hS2 rfl rfl) (fun w3 b3 hS4 hT2 => ?_)
 refine RG.new .plain rfl (Does.alloc (zs := [.bool false, vN, .bool false, vN]) hS4 (zB (by kernel_rfl))) (fun w4 b4 hS5 hT3 => ?_)
 refine RG.so rfl <| RG.nil <| MX.seq <| MX.sr <| RG.va (FV.lN rfl (hS5.memA (.tl (.tl .hd)))) <| RG.va (FV.lN rfl (hS5.memA (.tl .hd))) ?_
 refine RG.new .plain rfl (Does.build (α := TShare) (xs := ([a0, a1] : List TShare)) (vs := [.agg ((cs_TShare a0)).toArray, .agg ((cs_TShare a1)).toArray]) (ds' := (cs_TShare a0 ++ cs_TShare a1)) rfl hS5 el31 rfl (e2 rfl rfl) (by kernel_rfl) rfl) (fun w5 b6 hS6 hT5 => ?_)
 have hc0 := Cells.at_ (cs := (cs_TShare a0 ++ cs_TShare a1)) (xs := (([a0, a1] : List TShare) : List TShare)) hS6 L (Cells.cons (cs := (cs_TShare a0)) (ds := (cs_TShare a1)) (mk_TShare a0.fN a0.fD) (Cells.cons (cs := (cs_TShare a1)) (ds := []) (mk_TShare a1.fN a1.fD) (Cells.nil _ _)))
 obtain ⟨y0, hy0, h⟩ := bind_in h
 refine RG.cq (.bool y0) body80 rfl (e1 rfl) (fun w9 hw9 => share_valid_c n _ w9 (hS6.hL0 hL hw9) ([a0, a1] : List TShare) (Rep.keep0 (St.lend (α := TShare) (L := L) hS6 .hd hc0 hL) hw9) hy0) rfl <| RG.va (FV.not rfl) <| RG.nil <| MX.ifnb rfl h (fun c0 h => ?_) (fun c0 h => ?_)
 refine MX.skip <| MX.seq <| MX.drawT 6 tb53_4 (by kernel_rfl) (by kernel_rfl) (by kernel_rfl) (fun kt0 kp0 => ?_)
 refine RD.vw 0 1 kt0 rfl kp0 (fun _ => FV.move rfl) rfl <| RD.vx 1 3 244 kt0 rfl kp0 (FV.lN rfl (hS6.memA (.tl (.tl (.tl .hd))))) rfl <| RD.vx 3 11 240 kt0 rfl kp0 (FV.lN rfl (hS6.memA (.tl (.tl .hd)))) rfl ?_
 obtain ⟨y1, hy1, h⟩ := bind_in h
 refine RD.cl 2 15 kt0 rfl .plain body62 rfl (e1 rfl) (fun w9 hw9 => share_Read_c n _ w9 (hS6.hL hL hw9) a0 hy1) rfl (fun w6 vu0 hag0 ⟨v0, v1, hu_, hr0, hr1⟩ => ?_)
 subst hu_
 obtain ⟨hS7, hT6⟩ := hS6.agr hag0
 obtain ⟨y2, hy2, h⟩ := bind_in h
 refine RD.cl 4 31 kt0 rfl .plain body62 rfl (e1 rfl) (fun w9 hw9 => share_Read_c n _ w9 (hS7.hL hL hw9) a1 hy2) rfl (fun w8 vu1 hag1 ⟨v2, v3, hu_, hr2, hr3⟩ => ?_)
 subst hu_
 obtain ⟨hS9, hT7⟩ := hS7.agr hag1
 obtain ⟨y3, hy3, h⟩ := bind_in h
 have hm0 := Rep.mv hr0 hT7
 have hm1 := Rep.mv hr1 hT7
 refine RD.cl 5 63 kt0 rfl .plain body104 rfl (e2 rfl rfl) (fun w9 hw9 => share_Ratio_Plus_c n _ w9 (hS9.hL hL hw9) y1 (Rep.keep0 hm0 hw9) (Rep.keep0 hm1 hw9) y2 (Rep.keep0 hr2 hw9) (Rep.keep0 hr3 hw9) hy3) rfl (fun w67 vu2 hag2 ⟨v4, v5, hu_, hr4, hr5⟩ => ?_)
 subst hu_
 obtain ⟨hS70, hT8⟩ := hS9.agr hag2
 refine RD.nw 6 127 kt0 rfl rfl .plain (Acts.storeAll (news := [.bool y3.fLong.fBelow, v4, .bool y3.fUnder.fBelow, v5]) hS70 (.tl .hd) rfl rfl rfl rfl rfl rfl (o4 rfl (Rep.o1 hr4) rfl (Rep.o1 hr5))) (fun w76 hS77 hT78 => ?_)
 refine RD.one (i := 7) (readyD_ok kt0 (by kernel_rfl)) (RO.val (m' := 255) (stepC_ok kt0 (by kernel_rfl)) rfl .plain rfl (FV.assign rfl) ?_)
 refine RD.done (doneD_ok kt0 (by kernel_rfl)) <| MX.ret rfl <| RT.leave (u := .tuple #[.agg #[.bool y3.fLong.fBelow, v4, .bool y3.fUnder.fBelow, v5], vI 0]) hb1 Tryz.func53 rfl (.cons (.many (cs := [.bool y3.fLong.fBelow, v4, .bool y3.fUnder.fBelow, v5]) (by kernel_rfl) rfl (hS77.memA (.tl .hd))) (.cons (.tmp rfl) .nil)) rfl <| RG.va (FV.extract rfl rfl) <| RG.va (FV.extract rfl rfl) ?_
 obtain ⟨y4, hy4, h⟩ := bind_in h
 have hm2 := Rep.mv hr4 hT78
 have hm3 := Rep.mv hr5 hT78
 refine RG.cq (.tuple #[.agg ((cs_TShare y4.1)).toArray, vI y4.2]) body52 rfl (e2 rfl rfl) (fun w9 hw9 => share_told_c n _ w9 (hS77.hL0 hL hw9) y3 (hS77.kd hm2 hw9) (hS77.kd hm3 hw9) (0 : Int) hy4) rfl <| RG.va (FV.extract rfl rfl) <| RG.va (FV.extract rfl rfl) <| RG.now .plain (Acts.storeAll (news := (cs_TShare y4.1)) hS77 (.tl (.tl (.tl (.tl .hd)))) rfl rfl rfl rfl rfl rfl (onesB rfl)) (fun w82 hS83 hT84 => ?_)
 refine RG.so rfl <| RG.nil <| MX.ret rfl <| RT.leave hb0 Tryz.func85 rfl (.cons (.many (cs := (cs_TShare y4.1)) (by kernel_rfl) rfl (hS83.memA (.tl (.tl (.tl (.tl .hd)))))) (.cons (.tmp rfl) .nil)) rfl ?_
 cases h
 exact hS83.gv
 refine MX.sr <| RG.new .plain rfl (Does.alloc (zs := [.bool false, vN, .bool false, vN]) hS6 (zB (by kernel_rfl))) (fun w86 b7 hS87 hT88 => ?_)
 refine RG.nil <| MX.sr <| RG.va (FV.lN rfl (hS87.memA .hd)) <| RG.now .plain (Acts.storeAll (news := [.bool false, vN, .bool false, vN]) hS87 (.tl (.tl .hd)) rfl rfl rfl rfl rfl rfl (onesB rfl)) (fun w90 hS91 hT92 => ?_)
 refine RG.so rfl <| RG.nil <| MX.ret rfl <| RT.leave (u := .tuple #[.agg #[.bool false, vN, .bool false, vN], vI 20]) hb1 Tryz.func53 rfl (.cons (.many (cs := [.bool false, vN, .bool false, vN]) (by kernel_rfl) rfl (hS91.memA (.tl (.tl .hd)))) (.cons (.tmp rfl) .nil)) rfl <| RG.va (FV.extract rfl rfl) <| RG.va (FV.extract rfl rfl) ?_
 obtain ⟨y5, hy5, h⟩ := bind_in h
 refine RG.cq (.tuple #[.agg ((cs_TShare y5.1)).toArray, vI y5.2]) body52 rfl (e2 rfl rfl) (fun w9 hw9 => share_told_c n _ w9 (hS91.hL0 hL hw9) (⟨(⟨false, ([] : List UInt64)⟩ : TLong), (⟨false, ([] : List UInt64)⟩ : TLong)⟩ : TRatio) (Rep.keep0 (Rep.nilSlice _ _) hw9) (Rep.keep0 (Rep.nilSlice _ _) hw9) (20 : Int) hy5) rfl <| RG.va (FV.extract rfl rfl) <| RG.va (FV.extract rfl rfl) <| RG.now .plain (Acts.storeAll (news := (cs_TShare y5.1)) hS91 (.tl (.tl (.tl (.tl (.tl .hd))))) rfl rfl rfl rfl rfl rfl (onesB rfl)) (fun w94 hS95 hT96 => ?_)
 refine RG.so rfl <| RG.nil <| MX.ret rfl <| RT.leave hb0 Tryz.func85 rfl (.cons (.many (cs := (cs_TShare y5.1)) (by kernel_rfl) rfl (hS95.memA (.tl (.tl (.tl (.tl (.tl .hd))))))) (.cons (.tmp rfl) .nil)) rfl ?_
 cases h
 exact hS95.gv
theorem body85 : bodyB Tryz.prog 85 = true := by kernel_rfl
def minority_add_p (n : Nat) (a0 : TShare) (a1 : TShare) : Option (Except Tbroken TShare) :=
  (share_Add_p n a0 a1).bind fun y0 => (minority_must_api_Share_p n y0.1 y0.2).bind fun y1 => exc y1 (fun y2 => some (.ok y2)) (fun e0 => some (.error e0))
theorem minority_add_c (n : Nat) (L : List Nat) (w : World) (hL : ∀ b ∈ L, b < w.heap.size) (a0 : TShare) (a1 : TShare)  {r : Except Tbroken TShare} (h : minority_add_p n a0 a1 = some r) :
    Calls Tryz.prog 59 #[.agg ((cs_TShare a0)).toArray, .agg ((cs_TShare a1)).toArray] w (PGives w (fun (y : TShare) _ u => u = .agg ((cs_TShare y)).toArray) (fun e => .iface 93 (.agg #[vI e.fErrno])) r) := by
 unfold minority_add_p at h
 have hS0 := St.start w
 refine MX.startP Tryz.func59 rfl rfl rfl (fun _ cs0 hb0 hp0 => ?_)
 refine MX.sr <| RG.new .plain rfl (Does.box (vs := (cs_TShare a0)) hS0 rfl rfl) (fun w2 b5 hS3 hT4 => ?_)
 refine RG.new .plain rfl (Does.box (vs := (cs_TShare a1)) hS3 rfl rfl) (fun w7 b0 hS8 hT9 => ?_)
 refine RG.new .plain rfl (Does.alloc (zs := [.int .u64 0, .int .u64 0, .int .u64 0, .int .u64 0, .int .u64 0, .int .u64 0, .int .u64 0, .int .u64 0, .int .u64 0, .int .u64 0, .int .u64 0, .int .u64 0, .int .u64 0, .int .u64 0, .int .u64 0, .int .u64 0]) hS8 (zB (by kernel_rfl))) (fun w0 b1 hS1 hT0 => ?_)
 refine RG.nil <| MX.sr <| RG.va (FV.lN rfl (hS1.memA (.tl (.tl .hd)))) <| RG.va (FV.lN rfl (hS1.memA (.tl .hd))) ?_
 obtain ⟨y0, hy0, h⟩ := bind_in h
 refine RG.cq (.tuple #[.agg ((cs_TShare y0.1)).toArray, vI y0.2]) body85 rfl (e2 rfl rfl) (fun w9 hw9 => share_Add_c n _ w9 (hS1.hL0 hL hw9) a0 a1 hy0) rfl <| RG.va (FV.extract rfl rfl) <| RG.va (FV.extract rfl rfl) ?_
 obtain ⟨y1, hy1, h⟩ := bind_in h
 rcases y1 with e0 | y2
 have h := exc_e h
 try dsimp only at h
 refine RG.callE (fst := []) (cap := []) .plain body24 rfl (e2 rfl rfl) (fun w9 hw9 => minority_must_api_Share_c n _ w9 (hS1.hL0 hL hw9) y0.1 y0.2 hy1) (fun w1 hag0 => ?_)
 obtain ⟨hS2, hT1⟩ := hS1.agr hag0
 cases h
 exact PN.leave hp0 Tryz.func59 ⟨hS2.ag, rfl⟩
 have h := exc_o h
 try dsimp only at h
 refine RG.cq (.agg ((cs_TShare y2)).toArray) body24 rfl (e2 rfl rfl) (fun w9 hw9 => Calls.okp (minority_must_api_Share_c n _ w9 (hS1.hL0 hL hw9) y0.1 y0.2 hy1)) rfl <| RG.now .plain (Acts.storeAll (news := (cs_TShare y2)) hS1 .hd rfl rfl rfl rfl rfl rfl (onesB rfl)) (fun w3 hS4 hT2 => ?_)
 refine RG.nil <| MX.ret rfl <| RT.leave hb0 Tryz.func59 rfl (.cons (.many (cs := (cs_TShare y2)) (by kernel_rfl) rfl (hS4.memA .hd)) .nil) rfl ?_
 cases h
 exact ⟨hS4.ag, fun w9 hw9 => okOf_in rfl⟩
theorem body59 : bodyB Tryz.prog 59 = true := by kernel_rfl
def minority_sum_l1 (n : Nat) (a0 : List TShare) (J0 : Nat × UInt64 × UInt64 × UInt64 × UInt64 × UInt64 × UInt64 × UInt64 × UInt64 × UInt64 × UInt64 × UInt64 × UInt64 × UInt64 × UInt64 × UInt64 × UInt64 → Option ((Except Tbroken TShare) ⊕ (UInt64 × UInt64 × UInt64 × UInt64 × UInt64 × UInt64 × UInt64 × UInt64 × UInt64 × UInt64 × UInt64 × UInt64 × UInt64 × UInt64 × UInt64 × UInt64))) : Nat × UInt64 × UInt64 × UInt64 × UInt64 × UInt64 × UInt64 × UInt64 × UInt64 × UInt64 × UInt64 × UInt64 × UInt64 × UInt64 × UInt64 × UInt64 × UInt64 → Option ((Except Tbroken TShare) ⊕ (UInt64 × UInt64 × UInt64 × UInt64 × UInt64 × UInt64 × UInt64 × UInt64 × UInt64 × UInt64 × UInt64 × UInt64 × UInt64 × UInt64 × UInt64 × UInt64))
  | (i0, u0, u1, u2, u3, u4, u5, u6, u7, u8, u9, u10, u11, u12, u13, u14, u15) => (if i0 < a0.length then (a0[i0]?).bind fun x0 => (minority_add_p n (⟨(u0, u1, u2, u3, u4, u5, u6, u7), (u8, u9, u10, u11, u12, u13, u14, u15)⟩ : TShare) x0).bind fun y0 => exc y0 (fun y1 => J0 (i0 + 1, y1.fN.1, y1.fN.2.1, y1.fN.2.2.1, y1.fN.2.2.2.1, y1.fN.2.2.2.2.1, y1.fN.2.2.2.2.2.1, y1.fN.2.2.2.2.2.2.1, y1.fN.2.2.2.2.2.2.2, y1.fD.1, y1.fD.2.1, y1.fD.2.2.1, y1.fD.2.2.2.1, y1.fD.2.2.2.2.1, y1.fD.2.2.2.2.2.1, y1.fD.2.2.2.2.2.2.1, y1.fD.2.2.2.2.2.2.2)) (fun e0 => some (.inl (.error e0))) else some (.inr (u0, u1, u2, u3, u4, u5, u6, u7, u8, u9, u10, u11, u12, u13, u14, u15)))
def minority_sum_p (n : Nat) (a0 : List TShare) : Option (Except Tbroken TShare) :=
  (minority_of_p n (0 : Int) (1 : Int)).bind fun y6 => exc y6 (fun y8 => thn (loopF (minority_sum_l1 n a0) n (0, y8.fN.1, y8.fN.2.1, y8.fN.2.2.1, y8.fN.2.2.2.1, y8.fN.2.2.2.2.1, y8.fN.2.2.2.2.2.1, y8.fN.2.2.2.2.2.2.1, y8.fN.2.2.2.2.2.2.2, y8.fD.1, y8.fD.2.1, y8.fD.2.2.1, y8.fD.2.2.2.1, y8.fD.2.2.2.2.1, y8.fD.2.2.2.2.2.1, y8.fD.2.2.2.2.2.2.1, y8.fD.2.2.2.2.2.2.2)) (fun (u0, u1, u2, u3, u4, u5, u6, u7, u8, u9, u10, u11, u12, u13, u14, u15) => some (.ok (⟨(u0, u1, u2, u3, u4, u5, u6, u7), (u8, u9, u10, u11, u12, u13, u14, u15)⟩ : TShare)))) (fun e7 => some (.error e7))
theorem minority_sum_c (n : Nat) (L : List Nat) (w : World) (hL : ∀ b ∈ L, b < w.heap.size) (a0 : List TShare) {v0_0 : Value} (h0_0 : Rep.R w L [v0_0] a0)  {r : Except Tbroken TShare} (h : minority_sum_p n a0 = some r) :
    Calls Tryz.prog 29 #[v0_0] w (PGives w (fun (y : TShare) _ u => u = .agg ((cs_TShare y)).toArray) (fun e => .iface 93 (.agg #[vI e.fErrno])) r) := by
 unfold minority_sum_p at h
 have hS0 := St.start w
 refine MX.startP Tryz.func29 rfl rfl rfl (fun _ cs0 hb0 hp0 => ?_)
 refine MX.sr <| RG.new .plain rfl (Does.alloc (zs := [.int .u64 0, .int .u64 0, .int .u64 0, .int .u64 0, .int .u64 0, .int .u64 0, .int .u64 0, .int .u64 0, .int .u64 0, .int .u64 0, .int .u64 0, .int .u64 0, .int .u64 0, .int .u64 0, .int .u64 0, .int .u64 0]) hS0 (zB (by kernel_rfl))) (fun w2 b5 hS3 hT4 => ?_)
 refine RG.nil <| MX.sr ?_
 obtain ⟨y6, hy6, h⟩ := bind_in h
 rcases y6 with e7 | y8
 have h := exc_e h
 try dsimp only at h
 refine RG.callE (fst := []) (cap := []) .plain body27 rfl (e2 rfl rfl) (fun w9 hw9 => minority_of_c n _ w9 (hS3.hL0 hL hw9) (0 : Int) (1 : Int) hy6) (fun w9 hag0 => ?_)
 obtain ⟨hS1, hT0⟩ := hS3.agr hag0
 cases h
 exact PN.leave hp0 Tryz.func29 ⟨hS1.ag, rfl⟩
 have h := exc_o h
 try dsimp only at h
 refine RG.cq (.agg ((cs_TShare y8)).toArray) body27 rfl (e2 rfl rfl) (fun w9 hw9 => Calls.okp (minority_of_c n _ w9 (hS3.hL0 hL hw9) (0 : Int) (1 : Int) hy6)) rfl <| RG.new .plain rfl (Does.alloc (zs := [.int .u64 0, .int .u64 0, .int .u64 0, .int .u64 0, .int .u64 0, .int .u64 0, .int .u64 0, .int .u64 0, .int .u64 0, .int .u64 0, .int .u64 0, .int .u64 0, .int .u64 0, .int .u64 0, .int .u64 0, .int .u64 0]) hS3 (zB (by kernel_rfl))) (fun w0 b0 hS2 hT1 => ?_)
 refine RG.now .plain (Acts.storeAll (news := (cs_TShare y8)) hS2 .hd rfl rfl rfl rfl rfl rfl (onesB rfl)) (fun w1 hS4 hT2 => ?_)
 refine RG.nil <| MX.seq <| MX.sr <| RG.mo rfl ?_
 have hm0 := Rep.mv0 h0_0 hS4
 have hl22 : a0.length ≤ 281474976710656 := Rep.lenle hm0
 refine RG.va (FV.len (xs := a0) Tryz.underlying31 rfl hm0) <| RG.mo rfl <| RG.nil <| MX.block ?_
 obtain ⟨o0, ho119, hh121⟩ := thn_in h
 refine MX.loop (α := Nat × UInt64 × UInt64 × UInt64 × UInt64 × UInt64 × UInt64 × UInt64 × UInt64 × UInt64 × UInt64 × UInt64 × UInt64 × UInt64 × UInt64 × UInt64 × UInt64) (fun ⟨i0, u0, u1, u2, u3, u4, u5, u6, u7, u8, u9, u10, u11, u12, u13, u14, u15⟩ => [(2, vP b5), (3, vP b0), (7, v0_0), (8, vI ((a0.length : Nat) : Int)), (9, vI ((i0 : Nat) : Int))]) (fun ⟨i0, u0, u1, u2, u3, u4, u5, u6, u7, u8, u9, u10, u11, u12, u13, u14, u15⟩ wx0 => St w wx0 [.cells b0 [.int .u64 (u0.toNat : Int), .int .u64 (u1.toNat : Int), .int .u64 (u2.toNat : Int), .int .u64 (u3.toNat : Int), .int .u64 (u4.toNat : Int), .int .u64 (u5.toNat : Int), .int .u64 (u6.toNat : Int), .int .u64 (u7.toNat : Int), .int .u64 (u8.toNat : Int), .int .u64 (u9.toNat : Int), .int .u64 (u10.toNat : Int), .int .u64 (u11.toNat : Int), .int .u64 (u12.toNat : Int), .int .u64 (u13.toNat : Int), .int .u64 (u14.toNat : Int), .int .u64 (u15.toNat : Int)] 39, .cells b5 [.int .u64 0, .int .u64 0, .int .u64 0, .int .u64 0, .int .u64 0, .int .u64 0, .int .u64 0, .int .u64 0, .int .u64 0, .int .u64 0, .int .u64 0, .int .u64 0, .int .u64 0, .int .u64 0, .int .u64 0, .int .u64 0] 39] ∧ Tr w1 [.cells b0 (cs_TShare y8) 39, .cells b5 [.int .u64 0, .int .u64 0, .int .u64 0, .int .u64 0, .int .u64 0, .int .u64 0, .int .u64 0, .int .u64 0, .int .u64 0, .int .u64 0, .int .u64 0, .int .u64 0, .int .u64 0, .int .u64 0, .int .u64 0, .int .u64 0] 39] wx0 [.cells b0 [.int .u64 (u0.toNat : Int), .int .u64 (u1.toNat : Int), .int .u64 (u2.toNat : Int), .int .u64 (u3.toNat : Int), .int .u64 (u4.toNat : Int), .int .u64 (u5.toNat : Int), .int .u64 (u6.toNat : Int), .int .u64 (u7.toNat : Int), .int .u64 (u8.toNat : Int), .int .u64 (u9.toNat : Int), .int .u64 (u10.toNat : Int), .int .u64 (u11.toNat : Int), .int .u64 (u12.toNat : Int), .int .u64 (u13.toNat : Int), .int .u64 (u14.toNat : Int), .int .u64 (u15.toNat : Int)] 39, .cells b5 [.int .u64 0, .int .u64 0, .int .u64 0, .int .u64 0, .int .u64 0, .int .u64 0, .int .u64 0, .int .u64 0, .int .u64 0, .int .u64 0, .int .u64 0, .int .u64 0, .int .u64 0, .int .u64 0, .int .u64 0, .int .u64 0] 39]) (fun ⟨i0, u0, u1, u2, u3, u4, u5, u6, u7, u8, u9, u10, u11, u12, u13, u14, u15⟩ => (i0, u0, u1, u2, u3, u4, u5, u6, u7, u8, u9, u10, u11, u12, u13, u14, u15)) (0, y8.fN.1, y8.fN.2.1, y8.fN.2.2.1, y8.fN.2.2.2.1, y8.fN.2.2.2.2.1, y8.fN.2.2.2.2.2.1, y8.fN.2.2.2.2.2.2.1, y8.fN.2.2.2.2.2.2.2, y8.fD.1, y8.fD.2.1, y8.fD.2.2.1, y8.fD.2.2.2.1, y8.fD.2.2.2.2.1, y8.fD.2.2.2.2.2.1, y8.fD.2.2.2.2.2.2.1, y8.fD.2.2.2.2.2.2.2) ho119 ⟨rfl, rfl, rfl, rfl, rfl, trivial⟩ ⟨hS4, Tr.refl _ _⟩ ?_
 rintro J0 ⟨i0, u0, u1, u2, u3, u4, u5, u6, u7, u8, u9, u10, u11, u12, u13, u14, u15⟩ wx0 hJ123 ⟨hS5, hT3⟩ h
 unfold minority_sum_l1 at h
 try dsimp only at h
 refine MX.sr <| RG.va (FV.lssN (i := i0) (j := a0.length) rfl rfl) <| RG.nil <| MX.seq <| MX.ifd rfl h (fun c0 h => ?_) (fun c0 h => ?_)
 refine MX.skip <| MX.seq <| MX.block <| MX.sr ?_
 obtain ⟨x0, hx0, h⟩ := bind_in h
 have hm1 := Rep.mv0 h0_0 hS5
 obtain ⟨A126, c1, he0, hk0, cs1, hr0, hm2⟩ := Rep.nth hm1 hx0
 obtain rfl := op_TShare hr0
 refine RG.va (FV.ia 16 i0 rfl he0 rfl rfl hk0) <| RG.va (FV.lN rfl hm2) <| RG.new .plain rfl (Does.alloc (zs := [.int .u64 0, .int .u64 0, .int .u64 0, .int .u64 0, .int .u64 0, .int .u64 0, .int .u64 0, .int .u64 0, .int .u64 0, .int .u64 0, .int .u64 0, .int .u64 0, .int .u64 0, .int .u64 0, .int .u64 0, .int .u64 0]) hS5 (zB (by kernel_rfl))) (fun w3 b1 hS6 hT5 => ?_)
 refine RG.now .plain (Acts.storeAll (news := (cs_TShare x0)) hS6 .hd rfl rfl rfl rfl rfl rfl (onesB rfl)) (fun w4 hS7 hT6 => ?_)
 refine RG.nil <| MX.region <| RG.va (FV.lN rfl (hS7.memA (.tl .hd))) <| RG.va (FV.lN rfl (hS7.memA .hd)) ?_
 obtain ⟨y0, hy0, h⟩ := bind_in h
 rcases y0 with e0 | y1
 have h := exc_e h
 try dsimp only at h
 have h := thn_inl h hh121
 refine RG.callE (fst := []) (cap := []) .plain body59 rfl (e2 rfl rfl) (fun w9 hw9 => minority_add_c n _ w9 (hS7.hL0 hL hw9) (⟨(u0, u1, u2, u3, u4, u5, u6, u7), (u8, u9, u10, u11, u12, u13, u14, u15)⟩ : TShare) x0 hy0) (fun w5 hag1 => ?_)
 obtain ⟨hS8, hT7⟩ := hS7.agr hag1
 cases h
 exact PN.leave hp0 Tryz.func29 ⟨hS8.ag, rfl⟩
 have h := exc_o h
 try dsimp only at h
 refine RG.cq (.agg ((cs_TShare y1)).toArray) body59 rfl (e2 rfl rfl) (fun w9 hw9 => Calls.okp (minority_add_c n _ w9 (hS7.hL0 hL hw9) (⟨(u0, u1, u2, u3, u4, u5, u6, u7), (u8, u9, u10, u11, u12, u13, u14, u15)⟩ : TShare) x0 hy0)) rfl <| RG.now .plain (Acts.storeAll (news := (cs_TShare y1)) hS7 (.tl .hd) rfl rfl rfl rfl rfl rfl (onesB rfl)) (fun w6 hS9 hT8 => ?_)
 refine RG.nil <| MX.inBlock <| MX.region <| RG.va (FV.addN (i := i0) (j := 1) rfl rfl (by omega)) <| RG.mo rfl <| RG.nil ?_
 obtain ⟨hS10, hT9⟩ := St.arrB hS9 (.one (.tl .hd) (.one (.tl .hd) .done))
 have hq155 := Tr.trans hT5 (Tr.trans hT6 (Tr.trans hT8 hT9))
 exact hJ123 (i0 + 1, y1.fN.1, y1.fN.2.1, y1.fN.2.2.1, y1.fN.2.2.2.1, y1.fN.2.2.2.2.1, y1.fN.2.2.2.2.2.1, y1.fN.2.2.2.2.2.2.1, y1.fN.2.2.2.2.2.2.2, y1.fD.1, y1.fD.2.1, y1.fD.2.2.1, y1.fD.2.2.2.1, y1.fD.2.2.2.2.1, y1.fD.2.2.2.2.2.1, y1.fD.2.2.2.2.2.2.1, y1.fD.2.2.2.2.2.2.2) _ _ ⟨rfl, rfl, rfl, rfl, rfl, trivial⟩ ⟨hS10, (Tr.trans hT3 hq155)⟩ h
 refine MX.exit rfl ?_
 have h := thn_inr h hh121
 try dsimp only at h
 refine MX.sr <| RG.va (FV.lN rfl (hS5.memA .hd)) <| RG.now .plain (Acts.storeAll (news := [.int .u64 (u0.toNat : Int), .int .u64 (u1.toNat : Int), .int .u64 (u2.toNat : Int), .int .u64 (u3.toNat : Int), .int .u64 (u4.toNat : Int), .int .u64 (u5.toNat : Int), .int .u64 (u6.toNat : Int), .int .u64 (u7.toNat : Int), .int .u64 (u8.toNat : Int), .int .u64 (u9.toNat : Int), .int .u64 (u10.toNat : Int), .int .u64 (u11.toNat : Int), .int .u64 (u12.toNat : Int), .int .u64 (u13.toNat : Int), .int .u64 (u14.toNat : Int), .int .u64 (u15.toNat : Int)]) hS5 (.tl .hd) rfl rfl rfl rfl rfl rfl (onesB rfl)) (fun w7 hS12 hT10 => ?_)
 refine RG.nil <| MX.ret rfl <| RT.leave hb0 Tryz.func29 rfl (.cons (.many (cs := [.int .u64 (u0.toNat : Int), .int .u64 (u1.toNat : Int), .int .u64 (u2.toNat : Int), .int .u64 (u3.toNat : Int), .int .u64 (u4.toNat : Int), .int .u64 (u5.toNat : Int), .int .u64 (u6.toNat : Int), .int .u64 (u7.toNat : Int), .int .u64 (u8.toNat : Int), .int .u64 (u9.toNat : Int), .int .u64 (u10.toNat : Int), .int .u64 (u11.toNat : Int), .int .u64 (u12.toNat : Int), .int .u64 (u13.toNat : Int), .int .u64 (u14.toNat : Int), .int .u64 (u15.toNat : Int)]) (by kernel_rfl) rfl (hS12.memA (.tl .hd))) .nil) rfl ?_
 cases h
 exact ⟨hS12.ag, fun w9 hw9 => okOf_in rfl⟩
def tb22_14 : List (Nat × Nat × Nat) := [(0, 9007199254740992, 512), (0, 18014398509481984, 2048), (2, 36028797018963968, 18014398509481984), (0, 72057594037927936, 64), (8, 144115188075855872, 72057594037927936), (20, 288230376151711744, 180143985094819840), (0, 576460752303423488, 2048), (64, 1152921504606846976, 576460752303423488), (0, 2305843009213693952, 2048), (256, 4611686018427387904, 2305843009213693952), (640, 9223372036854775808, 5764607523034234880), (0, 18446744073709551616, 64), (2048, 36893488147419103232, 18446744073709551616), (0, 73786976294838206464, 64), (8192, 147573952589676412928, 73786976294838206464), (20480, 295147905179352825856, 184467440737095516160), (33824, 590295810358705651712, 304371277216207601664), (65568, 1180591620717411303424, 590584040734857363456), (131072, 2361183241434822606848, 1180591620717411303424), (262144, 4722366482869645213696, 2361183241434822606848), (262144, 9444732965739290427392, 2361183241434822606848), (1835008, 18889465931478580854784, 14167099448608935641088), (2097152, 37778931862957161709568, 18889465931478580854784), (6291457, 75557863725914323419136, 37778940870156416450560), (16777215, 512, 75557863725914323419136)]
theorem body25 : bodyB Tryz.prog 25 = true := by kernel_rfl
theorem body26 : bodyB Tryz.prog 26 = true := by kernel_rfl
theorem body28 : bodyB Tryz.prog 28 = true := by kernel_rfl
theorem body29 : bodyB Tryz.prog 29 = true := by kernel_rfl
def minority_Index_1_l1 (n : Nat) (y8 : List Tpart) (z0 : Int) (z1 : Int) (J0 : Nat × (List TShare) → Option (List TShare)) : Nat × (List TShare) → Option (List TShare)
  | (i0, xs0) => (if i0 < y8.length then (y8[i0]?).bind fun x0 => (minority_of_p n x0.fgroup z0).bind fun y0 => exc y0 (fun y1 => (chk (x0.fall - x0.fgroup)).bind fun s0 => (chk (z1 - z0)).bind fun s1 => (minority_of_p n s0 s1).bind fun y2 => exc y2 (fun y3 => (minority_sub_p n y1 y3).bind fun y4 => exc y4 (fun y5 => (share_Abs_p n y5).bind fun y6 => (minority_must_api_Share_p n y6.1 y6.2).bind fun y7 => exc y7 (fun y9 => (app xs0 ([y9] : List TShare)).bind fun xs1 => J0 (i0 + 1, xs1)) (fun e0 => none)) (fun e1 => none)) (fun e2 => none)) (fun e3 => none) else some xs0)
def minority_Index_1_l2 (_n : Nat) (y8 : List Tpart) (J0 : Nat × Int × Int → Option (Int × Int)) : Nat × Int × Int → Option (Int × Int)
  | (i0, z0, z1) => (if i0 < y8.length then (y8[i0]?).bind fun x0 => (chk (z0 + x0.fgroup)).bind fun s0 => (chk (z1 + x0.fall)).bind fun s1 => J0 (i0 + 1, s0, s1) else some (z0, z1))
def minority_Index_1_p (n : Nat) (a0 : TRoll) (a1 : List Int) (a2 : Int) (a3 : Int) : Option (Except Tbroken TShare) :=
  (minority_grouped_p n a0 a1 a2 a3).bind fun y6 => exc y6 (fun y8 => Option.bind (loopF (minority_Index_1_l2 n y8) n (0, 0, 0)) (fun (z0, z1) => (if z0 = 0 then some (.error (⟨(7 : Int)⟩ : Tbroken)) else (if z0 = z1 then some (.error (⟨(7 : Int)⟩ : Tbroken)) else Option.bind (loopF (minority_Index_1_l1 n y8 z0 z1) n (0, ([] : List TShare))) (fun xs0 => (minority_sum_p n xs0).bind fun y0 => exc y0 (fun y1 => (minority_of_p n (2 : Int) (1 : Int)).bind fun y2 => exc y2 (fun y3 => (minority_div_p n y1 y3).bind fun y4 => exc y4 (fun y5 => some (.ok y5)) (fun e0 => some (.error e0))) (fun e1 => some (.error e1))) (fun e2 => some (.error e2))))))) (fun e7 => some (.error e7))
theorem minority_Index_1_c (n : Nat) (L : List Nat) (w : World) (hL : ∀ b ∈ L, b < w.heap.size) (a0 : TRoll) {v0_3 : Value} (h0_3 : Rep.R w L [v0_3] a0.fUnits) {p0 : Nat} (m0 : ∀ j9 v9, ([vI a0.fGroups, vI a0.fParties, vI a0.fLevels, v0_3] : List Value)[j9]? = some v9 → w.cell? ((⟨p0, 0, none⟩ : Addr).add j9) = some v9) (a1 : List Int) {v1_0 : Value} (h1_0 : Rep.R w L [v1_0] a1) {p1 : Nat} (m1 : ∀ j9 v9, ([v1_0] : List Value)[j9]? = some v9 → w.cell? ((⟨p1, 0, none⟩ : Addr).add j9) = some v9) (a2 : Int) {p2 : Nat} (m2 : ∀ j9 v9, ([vI a2] : List Value)[j9]? = some v9 → w.cell? ((⟨p2, 0, none⟩ : Addr).add j9) = some v9) (a3 : Int) {p3 : Nat} (m3 : ∀ j9 v9, ([vI a3] : List Value)[j9]? = some v9 → w.cell? ((⟨p3, 0, none⟩ : Addr).add j9) = some v9)  {r : Except Tbroken TShare} (h : minority_Index_1_p n a0 a1 a2 a3 = some r) :
    Calls Tryz.prog 22 #[.pointer (some ⟨p0, 0, none⟩), .pointer (some ⟨p1, 0, none⟩), .pointer (some ⟨p2, 0, none⟩), .pointer (some ⟨p3, 0, none⟩)] w (PGives w (fun (y : TShare) _ u => u = .agg ((cs_TShare y)).toArray) (fun e => .iface 93 (.agg #[vI e.fErrno])) r) := by
 unfold minority_Index_1_p at h
 have hS0 := St.start w
 refine MX.startP Tryz.func22 rfl rfl rfl (fun _ cs0 hb0 hp0 => ?_)
 refine MX.sr <| RG.new .plain rfl (Does.alloc (zs := [.int .u64 0, .int .u64 0, .int .u64 0, .int .u64 0, .int .u64 0, .int .u64 0, .int .u64 0, .int .u64 0, .int .u64 0, .int .u64 0, .int .u64 0, .int .u64 0, .int .u64 0, .int .u64 0, .int .u64 0, .int .u64 0]) hS0 (zB (by kernel_rfl))) (fun w2 b5 hS3 hT4 => ?_)
 refine RG.nil <| MX.sr <| RG.va (FV.lN rfl (fun j9 v9 h9 => hS3.ag.cell0 (m0 j9 v9 h9))) <| RG.l1 rfl ((fun j9 v9 h9 => hS3.ag.cell0 (m1 j9 v9 h9)) 0 _ rfl) <| RG.l1 rfl ((fun j9 v9 h9 => hS3.ag.cell0 (m2 j9 v9 h9)) 0 _ rfl) <| RG.l1 rfl ((fun j9 v9 h9 => hS3.ag.cell0 (m3 j9 v9 h9)) 0 _ rfl) ?_
 obtain ⟨y6, hy6, h⟩ := bind_in h
 rcases y6 with e7 | y8
 have h := exc_e h
 try dsimp only at h
 refine RG.callE (fst := []) (cap := []) .plain body19 rfl (e4 rfl rfl rfl rfl) (fun w9 hw9 => minority_grouped_c n _ w9 (hS3.hL hL hw9) a0 (hS3.km h0_3 hw9) a1 (hS3.km h1_0 hw9) a2 a3 hy6) (fun w9 hag0 => ?_)
 obtain ⟨hS1, hT0⟩ := hS3.agr hag0
 cases h
 exact PN.leave hp0 Tryz.func22 ⟨hS1.ag, rfl⟩
 have h := exc_o h
 try dsimp only at h
 refine RG.call' (fst := []) (cap := []) .plain body19 rfl (e4 rfl rfl rfl rfl) (fun w9 hw9 => Calls.okp (minority_grouped_c n _ w9 (hS3.hL hL hw9) a0 (hS3.km h0_3 hw9) a1 (hS3.km h1_0 hw9) a2 a3 hy6)) rfl (fun w0 vu0 hag1 ⟨v0, hu_, hr0⟩ => ?_)
 subst hu_
 obtain ⟨hS2, hT1⟩ := hS3.agr hag1
 refine RG.so rfl <| RG.nil <| MX.sr <| RG.new .plain rfl (Does.alloc (zs := [vI 0, vI 0]) hS2 (zB (by kernel_rfl))) (fun w1 b0 hS4 hT2 => ?_)
 refine RG.nil <| MX.seq <| MX.sr <| RG.mo rfl ?_
 have hm0 := Rep.mv hr0 hT2
 have hl26 : y8.length ≤ 281474976710656 := Rep.lenle hm0
 refine RG.va (FV.len (xs := y8) Tryz.underlying59 rfl hm0) <| RG.mo rfl <| RG.nil <| MX.block ?_
 obtain ⟨o0, ho97, hh99⟩ := bind_in2 h
 refine MX.loop (α := Nat × Int × Int) (fun ⟨i0, z0, z1⟩ => [(4, vP b5), (5, vu0), (6, vP b0), (17, vu0), (18, vI ((y8.length : Nat) : Int)), (19, vI ((i0 : Nat) : Int))]) (fun ⟨i0, z0, z1⟩ wx0 => St w wx0 [.cells b0 [vI z0, vI z1] 62, .cells b5 [.int .u64 0, .int .u64 0, .int .u64 0, .int .u64 0, .int .u64 0, .int .u64 0, .int .u64 0, .int .u64 0, .int .u64 0, .int .u64 0, .int .u64 0, .int .u64 0, .int .u64 0, .int .u64 0, .int .u64 0, .int .u64 0] 39] ∧ Tr w1 [.cells b0 [vI 0, vI 0] 62, .cells b5 [.int .u64 0, .int .u64 0, .int .u64 0, .int .u64 0, .int .u64 0, .int .u64 0, .int .u64 0, .int .u64 0, .int .u64 0, .int .u64 0, .int .u64 0, .int .u64 0, .int .u64 0, .int .u64 0, .int .u64 0, .int .u64 0] 39] wx0 [.cells b0 [vI z0, vI z1] 62, .cells b5 [.int .u64 0, .int .u64 0, .int .u64 0, .int .u64 0, .int .u64 0, .int .u64 0, .int .u64 0, .int .u64 0, .int .u64 0, .int .u64 0, .int .u64 0, .int .u64 0, .int .u64 0, .int .u64 0, .int .u64 0, .int .u64 0] 39]) (fun ⟨i0, z0, z1⟩ => (i0, z0, z1)) (0, 0, 0) ho97 ⟨rfl, rfl, rfl, rfl, rfl, rfl, trivial⟩ ⟨hS4, Tr.refl _ _⟩ ?_
 rintro J0 ⟨i0, z0, z1⟩ wx0 hJ101 ⟨hS5, hT3⟩ h
 unfold minority_Index_1_l2 at h
 try dsimp only at h
 refine MX.sr <| RG.va (FV.lssN (i := i0) (j := y8.length) rfl rfl) <| RG.nil <| MX.seq <| MX.ifd rfl h (fun c0 h => ?_) (fun c0 h => ?_)
 refine MX.skip <| MX.seq <| MX.block <| MX.sr ?_
 obtain ⟨x0, hx0, h⟩ := bind_in h
 have hm1 := Rep.mv hr0 (Tr.trans hT2 hT3)
 obtain ⟨A104, c1, he0, hk0, cs1, hr1, hm2⟩ := Rep.nth hm1 hx0
 obtain rfl := op_Tpart hr1
 refine RG.va (FV.ia 2 i0 rfl he0 rfl rfl hk0) <| RG.va (FV.lN rfl hm2) <| RG.new .plain rfl (Does.alloc (zs := [vI 0, vI 0]) hS5 (zB (by kernel_rfl))) (fun w3 b1 hS6 hT5 => ?_)
 refine RG.now .plain (Acts.storeAll (news := [vI x0.fgroup, vI x0.fall]) hS6 .hd rfl rfl rfl rfl rfl rfl (onesB rfl)) (fun w4 hS7 hT6 => ?_)
 refine RG.nil <| MX.sr <| RG.fa 0 rfl <| RG.l1 rfl ((hS7.memA (.tl .hd)) 0 _ rfl) <| RG.fa 0 rfl <| RG.l1 rfl ((hS7.memA .hd) 0 _ rfl) ?_
 obtain ⟨s0, hs0, h⟩ := bind_in h
 refine RG.va (FV.addc (i := z0) (j := x0.fgroup) rfl rfl hs0) <| RG.fa 0 rfl <| RG.now .plain (Acts.store (j := 0) (old := [vI z0, vI z1]) (news := [vI s0]) (new' := [vI s0, vI z1]) hS7 (.tl .hd) rfl rfl rfl rfl rfl rfl (o1 rfl) rfl) (fun w5 hS8 hT7 => ?_)
 refine RG.nil <| MX.region <| RG.fa 1 rfl <| RG.l1 rfl ((hS8.memA (.tl .hd)) 1 _ rfl) <| RG.fa 1 rfl <| RG.l1 rfl ((hS8.memA .hd) 1 _ rfl) ?_
 obtain ⟨s1, hs1, h⟩ := bind_in h
 refine RG.va (FV.addc (i := z1) (j := x0.fall) rfl rfl hs1) <| RG.fa 1 rfl <| RG.now .plain (Acts.store (j := 1) (old := [vI s0, vI z1]) (news := [vI s1]) (new' := [vI s0, vI s1]) hS8 (.tl .hd) rfl rfl rfl rfl rfl rfl (o1 rfl) rfl) (fun w6 hS9 hT8 => ?_)
 refine RG.nil <| MX.inBlock <| MX.region <| RG.va (FV.addN (i := i0) (j := 1) rfl rfl (by omega)) <| RG.mo rfl <| RG.nil ?_
 obtain ⟨hS10, hT9⟩ := St.arrB hS9 (.one (.tl .hd) (.one (.tl .hd) .done))
 have hq130 := Tr.trans hT5 (Tr.trans hT6 (Tr.trans hT7 (Tr.trans hT8 hT9)))
 exact hJ101 (i0 + 1, s0, s1) _ _ ⟨rfl, rfl, rfl, rfl, rfl, rfl, trivial⟩ ⟨hS10, (Tr.trans hT3 hq130)⟩ h
 refine MX.exit rfl ?_
 have h := hh99 _ h
 try dsimp only at h
 refine MX.sr <| RG.fa 0 rfl <| RG.l1 rfl ((hS5.memA .hd) 0 _ rfl) <| RG.va (FV.eql (i := z0) (j := 0) rfl rfl) <| RG.mo rfl <| RG.ifd (s := 39) rfl h (fun c2 h => ?_) (fun c2 h => ?_)
 refine RG.no <| RG.no <| RG.no <| RG.no <| RG.no <| RG.pt rfl rfl ?_
 refine RG.enterP (fst := []) (cap := []) (vs := [.bool true, vI 7]) .plain body23 Tryz.func23 rfl rfl rfl rfl (e2 rfl rfl) rfl (fun cs2 hb1 hp1 => ?_)
 refine MX.sr <| RG.mo rfl <| RG.nil <| MX.cond_t rfl <| MX.region <| RG.mo rfl ?_
 refine RG.enterP (fst := []) (cap := []) (vs := [vI 7]) .plain body32 Tryz.func32 rfl rfl rfl rfl (e1 rfl) rfl (fun cs3 hb2 hp2 => ?_)
 refine MX.sr <| RG.mo rfl <| RG.va (FV.neqN (i := 7) (j := 0) rfl rfl) <| RG.nil <| MX.cond_t rfl <| MX.region ?_
 refine RG.mo rfl <| RG.va (FV.buildV (vs := [vI 7]) (u := .agg #[vI 7]) (e1 rfl) (fun w9 => by kernel_rfl)) <| RG.va (FV.makeInterface (by kernel_rfl) rfl) <| RG.panic .plain rfl <| PN.leave hp2 Tryz.func32 <| PN.leave hp1 Tryz.func23 ?_
 cases h
 exact PN.leave hp0 Tryz.func22 ⟨hS5.ag, rfl⟩
 refine RG.fg 0 rfl <| RG.ga (FV.l1 rfl ((hS5.memA .hd) 0 _ rfl)) <| RG.fg 1 rfl <| RG.ga (FV.l1 rfl ((hS5.memA .hd) 1 _ rfl)) <| RG.ga (FV.eql (i := z0) (j := z1) rfl rfl) <| RG.pf rfl rfl ?_
 refine RG.enterP (fst := []) (cap := []) (vs := [.bool (decide (z0 = z1)), vI 7]) .plain body23 Tryz.func23 rfl rfl rfl rfl (e2 rfl rfl) rfl (fun cs4 hb3 hp3 => ?_)
 refine MX.sr <| RG.mo rfl <| RG.nil <| MX.ifd rfl h (fun c3 h => ?_) (fun c3 h => ?_)
 refine MX.region <| RG.mo rfl <| RG.enterP (fst := []) (cap := []) (vs := [vI 7]) .plain body32 Tryz.func32 rfl rfl rfl rfl (e1 rfl) rfl (fun cs5 hb4 hp4 => ?_)
 refine MX.sr <| RG.mo rfl <| RG.va (FV.neqN (i := 7) (j := 0) rfl rfl) <| RG.nil <| MX.cond_t rfl <| MX.region ?_
 refine RG.mo rfl <| RG.va (FV.buildV (vs := [vI 7]) (u := .agg #[vI 7]) (e1 rfl) (fun w9 => by kernel_rfl)) <| RG.va (FV.makeInterface (by kernel_rfl) rfl) <| RG.panic .plain rfl <| PN.leave hp4 Tryz.func32 <| PN.leave hp3 Tryz.func23 ?_
 cases h
 exact PN.leave hp0 Tryz.func22 ⟨hS5.ag, rfl⟩
 refine MX.skip <| MX.fin rfl <| RT.leave (u := .tuple #[]) hb3 Tryz.func23 rfl .nil rfl <| RG.nil <| MX.sr <| RG.so rfl ?_
 refine RG.nil <| MX.seq <| MX.sr <| RG.mo rfl ?_
 have hm3 := Rep.mv hr0 (Tr.trans hT2 hT3)
 refine RG.va (FV.len (xs := y8) Tryz.underlying59 rfl hm3) <| RG.mo rfl <| RG.nil <| MX.block ?_
 have hS12 := hS5.nilRow 39 (Rep.size TShare)
 have hT10 := St.nilRowT hS5 39 (Rep.size TShare)
 have hc0 := Cells.at_ (cs := []) (xs := ([] : List TShare)) hS12 L (Cells.nil _ _)
 obtain ⟨o2, ho283, hh285⟩ := bind_in2 h
 refine MX.loop (α := Nat × (List TShare) × Value × (List Value)) (fun ⟨i1, xs0, v1, cs6⟩ => [(4, vP b5), (6, vP b0), (9, v1), (47, vu0), (48, vI ((y8.length : Nat) : Int)), (49, vI ((i1 : Nat) : Int))]) (fun ⟨i1, xs0, v1, cs6⟩ wx1 => St w wx1 [.row w.heap.size 39 (Rep.size TShare) v1 xs0.length cs6, .cells b0 [vI z0, vI z1] 62, .cells b5 [.int .u64 0, .int .u64 0, .int .u64 0, .int .u64 0, .int .u64 0, .int .u64 0, .int .u64 0, .int .u64 0, .int .u64 0, .int .u64 0, .int .u64 0, .int .u64 0, .int .u64 0, .int .u64 0, .int .u64 0, .int .u64 0] 39] ∧ Tr wx0 [.row w.heap.size 39 (Rep.size TShare) vN (([] : List TShare).length) [], .cells b0 [vI z0, vI z1] 62, .cells b5 [.int .u64 0, .int .u64 0, .int .u64 0, .int .u64 0, .int .u64 0, .int .u64 0, .int .u64 0, .int .u64 0, .int .u64 0, .int .u64 0, .int .u64 0, .int .u64 0, .int .u64 0, .int .u64 0, .int .u64 0, .int .u64 0] 39] wx1 [.row w.heap.size 39 (Rep.size TShare) v1 xs0.length cs6, .cells b0 [vI z0, vI z1] 62, .cells b5 [.int .u64 0, .int .u64 0, .int .u64 0, .int .u64 0, .int .u64 0, .int .u64 0, .int .u64 0, .int .u64 0, .int .u64 0, .int .u64 0, .int .u64 0, .int .u64 0, .int .u64 0, .int .u64 0, .int .u64 0, .int .u64 0] 39] ∧ Cells wx1 (bl [.row w.heap.size 39 (Rep.size TShare) v1 xs0.length cs6, .cells b0 [vI z0, vI z1] 62, .cells b5 [.int .u64 0, .int .u64 0, .int .u64 0, .int .u64 0, .int .u64 0, .int .u64 0, .int .u64 0, .int .u64 0, .int .u64 0, .int .u64 0, .int .u64 0, .int .u64 0, .int .u64 0, .int .u64 0, .int .u64 0, .int .u64 0] 39] ++ L) cs6 xs0) (fun ⟨i1, xs0, v1, cs6⟩ => (i1, xs0)) (0, ([] : List TShare), vN, []) ho283 ⟨rfl, rfl, rfl, rfl, rfl, rfl, trivial⟩ ⟨hS12, Tr.refl _ _, hc0⟩ ?_
 rintro J1 ⟨i1, xs0, v1, cs6⟩ wx1 hJ287 ⟨hS13, hT11, hc1⟩ h
 unfold minority_Index_1_l1 at h
 try dsimp only at h
 refine MX.sr <| RG.va (FV.lssN (i := i1) (j := y8.length) rfl rfl) <| RG.nil <| MX.seq <| MX.ifd rfl h (fun c4 h => ?_) (fun c4 h => ?_)
 refine MX.skip <| MX.seq <| MX.block <| MX.sr ?_
 obtain ⟨x1, hx1, h⟩ := bind_in h
 have hq297 := Tr.trans hT2 (Tr.trans hT3 (Tr.trans hT10 hT11))
 have hm4 := Rep.mv hr0 hq297
 obtain ⟨A290, c5, he1, hk1, cs7, hr2, hm5⟩ := Rep.nth hm4 hx1
 obtain rfl := op_Tpart hr2
 refine RG.va (FV.ia 2 i1 rfl he1 rfl rfl hk1) <| RG.va (FV.lN rfl hm5) <| RG.new .plain rfl (Does.alloc (zs := [vI 0, vI 0]) hS13 (zB (by kernel_rfl))) (fun w7 b2 hS14 hT13 => ?_)
 refine RG.now .plain (Acts.storeAll (news := [vI x1.fgroup, vI x1.fall]) hS14 .hd rfl rfl rfl rfl rfl rfl (onesB rfl)) (fun w8 hS15 hT14 => ?_)
 refine RG.nil <| MX.drawT 23 tb22_14 (by kernel_rfl) (by kernel_rfl) (by kernel_rfl) (fun kt0 kp0 => ?_)
 refine RD.vw 0 1 kt0 rfl kp0 (fun _ => FV.move rfl) rfl <| RD.vw 1 3 kt0 rfl kp0 (fun _ => FV.fa 0 rfl) rfl <| RD.vx 2 7 33488928 kt0 rfl kp0 (FV.l1 rfl ((hS15.memA .hd) 0 _ rfl)) rfl <| RD.vw 3 15 kt0 rfl kp0 (fun _ => FV.fa 0 rfl) rfl <| RD.vx 4 31 33488928 kt0 rfl kp0 (FV.l1 rfl ((hS15.memA (.tl (.tl .hd))) 0 _ rfl)) rfl ?_
 obtain ⟨y0, hy0, h⟩ := bind_in h
 rcases y0 with e0 | y1
 have h := exc_e h
 try dsimp only at h
 cases h
 have h := exc_o h
 try dsimp only at h
 refine RD.cq 5 63 33488896 (.agg ((cs_TShare y1)).toArray) kt0 rfl kp0 body27 rfl (e2 rfl rfl) (fun w9 hw9 => Calls.okp (minority_of_c n _ w9 (hS15.hL0 hL hw9) x1.fgroup z0 hy0)) rfl <| RD.vw 6 127 kt0 rfl kp0 (fun _ => FV.fa 1 rfl) rfl <| RD.vx 7 255 33489920 kt0 rfl kp0 (FV.l1 rfl ((hS15.memA .hd) 1 _ rfl)) rfl <| RD.vw 8 511 kt0 rfl kp0 (fun _ => FV.fa 0 rfl) rfl <| RD.vx 9 1023 33489920 kt0 rfl kp0 (FV.l1 rfl ((hS15.memA .hd) 0 _ rfl)) rfl ?_
 obtain ⟨s2, hs2, h⟩ := bind_in h
 refine RD.vw 10 2047 kt0 rfl kp0 (fun _ => FV.subc (i := x1.fall) (j := x1.fgroup) rfl rfl hs2) rfl <| RD.vw 11 4095 kt0 rfl kp0 (fun _ => FV.fa 1 rfl) rfl <| RD.vx 12 8191 33521664 kt0 rfl kp0 (FV.l1 rfl ((hS15.memA (.tl (.tl .hd))) 1 _ rfl)) rfl <| RD.vw 13 16383 kt0 rfl kp0 (fun _ => FV.fa 0 rfl) rfl <| RD.vx 14 32767 33521664 kt0 rfl kp0 (FV.l1 rfl ((hS15.memA (.tl (.tl .hd))) 0 _ rfl)) rfl ?_
 obtain ⟨s3, hs3, h⟩ := bind_in h
 refine RD.vw 15 65535 kt0 rfl kp0 (fun _ => FV.subc (i := z1) (j := z0) rfl rfl hs3) rfl ?_
 obtain ⟨y2, hy1, h⟩ := bind_in h
 rcases y2 with e3 | y3
 have h := exc_e h
 try dsimp only at h
 cases h
 have h := exc_o h
 try dsimp only at h
 refine RD.cq 16 131071 33423360 (.agg ((cs_TShare y3)).toArray) kt0 rfl kp0 body27 rfl (e2 rfl rfl) (fun w9 hw9 => Calls.okp (minority_of_c n _ w9 (hS15.hL0 hL hw9) s2 s3 hy1)) rfl ?_
 obtain ⟨y4, hy2, h⟩ := bind_in h
 rcases y4 with e5 | y5
 have h := exc_e h
 try dsimp only at h
 cases h
 have h := exc_o h
 try dsimp only at h
 refine RD.cq 17 262143 33292288 (.agg ((cs_TShare y5)).toArray) kt0 rfl kp0 body26 rfl (e2 rfl rfl) (fun w9 hw9 => Calls.okp (minority_sub_c n _ w9 (hS15.hL0 hL hw9) y1 y3 hy2)) rfl ?_
 obtain ⟨y7, hy3, h⟩ := bind_in h
 refine RD.cq 18 524287 33030144 (.tuple #[.agg ((cs_TShare y7.1)).toArray, vI y7.2]) kt0 rfl kp0 body25 rfl (e1 rfl) (fun w9 hw9 => share_Abs_c n _ w9 (hS15.hL0 hL hw9) y5 hy3) rfl <| RD.vw 19 1048575 kt0 rfl kp0 (fun _ => FV.extract rfl rfl) rfl <| RD.vw 20 2097151 kt0 rfl kp0 (fun _ => FV.extract rfl rfl) rfl ?_
 obtain ⟨y9, hy4, h⟩ := bind_in h
 rcases y9 with e6 | y10
 have h := exc_e h
 try dsimp only at h
 cases h
 have h := exc_o h
 try dsimp only at h
 refine RD.cq 21 4194303 29360128 (.agg ((cs_TShare y10)).toArray) kt0 rfl kp0 body24 rfl (e2 rfl rfl) (fun w9 hw9 => Calls.okp (minority_must_api_Share_c n _ w9 (hS15.hL0 hL hw9) y7.1 y7.2 hy4)) rfl <| RD.nu 22 8388607 kt0 rfl .plain rfl (Does.build (α := TShare) (xs := ([y10] : List TShare)) (vs := [.agg ((cs_TShare y10)).toArray]) (ds' := (cs_TShare y10)) rfl hS15 el31 rfl (e1 rfl) (by kernel_rfl) rfl) (fun w10 b3 hS16 hT15 => ?_)
 have hc2 := Cells.at_ (cs := (cs_TShare y10)) (xs := (([y10] : List TShare) : List TShare)) hS16 L (Cells.cons (cs := (cs_TShare y10)) (ds := []) (mk_TShare y10.fN y10.fD) (Cells.nil _ _))
 obtain ⟨xs1, hxs334, h⟩ := bind_in h
 have hq335 := Tr.trans hT13 (Tr.trans hT14 hT15)
 have hm6 := Cells.mv hc1 hq335
 refine RD.one (i := 23) (readyD_ok kt0 (by kernel_rfl)) (RO.doesL (m' := 16777215) (stepC_ok kt0 (by kernel_rfl)) rfl rfl .plain rfl (DoesL.app (α := TShare) (ys := ([y10] : List TShare)) hxs334 hS16 (fun _ _ => (.tl (.tl .hd))) el31 rfl rfl hm6 (Src.row (α := TShare) hS16 .hd hc2)) (fun v2 w11 ⟨cs8, hS18, hT16, hc3⟩ => ?_))
 refine RD.one (i := 24) (readyD_ok kt0 (by kernel_rfl)) (RO.val (m' := 33554431) (stepC_ok kt0 (by kernel_rfl)) rfl .plain rfl (FV.assign rfl) ?_)
 refine RD.done (doneD_ok kt0 (by kernel_rfl)) <| MX.inBlock <| MX.region <| RG.va (FV.addN (i := i1) (j := 1) rfl rfl (by omega)) <| RG.mo rfl <| RG.nil ?_
 obtain ⟨hS19, hT17⟩ := St.arrB hS18 (.one (.tl (.tl .hd)) (.one (.tl (.tl .hd)) (.one (.tl (.tl .hd)) .done)))
 have hm7 := Cells.mv hc3 hT17
 have hq347 := Tr.trans hq335 (Tr.trans hT16 hT17)
 exact hJ287 (i1 + 1, xs1, v2, cs8) _ _ ⟨rfl, rfl, rfl, rfl, rfl, rfl, trivial⟩ ⟨hS19, (Tr.trans hT11 hq347), hm7⟩ h
 refine MX.exit rfl ?_
 have h := hh285 _ h
 try dsimp only at h
 refine MX.sr <| RG.mo rfl ?_
 obtain ⟨y11, hy5, h⟩ := bind_in h
 rcases y11 with e8 | y12
 have h := exc_e h
 try dsimp only at h
 refine RG.callE (fst := []) (cap := []) .plain body29 rfl (e1 rfl) (fun w9 hw9 => minority_sum_c n _ w9 (hS13.hL0 hL hw9) xs0 (Rep.keep0 (St.lend (α := TShare) (L := L) hS13 .hd hc1 hL) hw9) hy5) (fun w12 hag2 => ?_)
 obtain ⟨hS20, hT19⟩ := hS13.agr hag2
 cases h
 exact PN.leave hp0 Tryz.func22 ⟨hS20.ag, rfl⟩
 have h := exc_o h
 try dsimp only at h
 refine RG.cq (.agg ((cs_TShare y12)).toArray) body29 rfl (e1 rfl) (fun w9 hw9 => Calls.okp (minority_sum_c n _ w9 (hS13.hL0 hL hw9) xs0 (Rep.keep0 (St.lend (α := TShare) (L := L) hS13 .hd hc1 hL) hw9) hy5)) rfl ?_
 obtain ⟨y13, hy7, h⟩ := bind_in h
 rcases y13 with e9 | y14
 have h := exc_e h
 try dsimp only at h
 refine RG.callE (fst := []) (cap := []) .plain body27 rfl (e2 rfl rfl) (fun w9 hw9 => minority_of_c n _ w9 (hS13.hL0 hL hw9) (2 : Int) (1 : Int) hy7) (fun w13 hag3 => ?_)
 obtain ⟨hS21, hT20⟩ := hS13.agr hag3
 cases h
 exact PN.leave hp0 Tryz.func22 ⟨hS21.ag, rfl⟩
 have h := exc_o h
 try dsimp only at h
 refine RG.cq (.agg ((cs_TShare y14)).toArray) body27 rfl (e2 rfl rfl) (fun w9 hw9 => Calls.okp (minority_of_c n _ w9 (hS13.hL0 hL hw9) (2 : Int) (1 : Int) hy7)) rfl ?_
 obtain ⟨y15, hy8, h⟩ := bind_in h
 rcases y15 with e10 | y16
 have h := exc_e h
 try dsimp only at h
 refine RG.callE (fst := []) (cap := []) .plain body28 rfl (e2 rfl rfl) (fun w9 hw9 => minority_div_c n _ w9 (hS13.hL0 hL hw9) y12 y14 hy8) (fun w15 hag4 => ?_)
 obtain ⟨hS22, hT21⟩ := hS13.agr hag4
 cases h
 exact PN.leave hp0 Tryz.func22 ⟨hS22.ag, rfl⟩
 have h := exc_o h
 try dsimp only at h
 refine RG.cq (.agg ((cs_TShare y16)).toArray) body28 rfl (e2 rfl rfl) (fun w9 hw9 => Calls.okp (minority_div_c n _ w9 (hS13.hL0 hL hw9) y12 y14 hy8)) rfl <| RG.now .plain (Acts.storeAll (news := (cs_TShare y16)) hS13 (.tl (.tl .hd)) rfl rfl rfl rfl rfl rfl (onesB rfl)) (fun w16 hS24 hT22 => ?_)
 refine RG.nil <| MX.ret rfl <| RT.leave hb0 Tryz.func22 rfl (.cons (.many (cs := (cs_TShare y16)) (by kernel_rfl) rfl (hS24.memA (.tl (.tl .hd)))) .nil) rfl ?_
 cases h
 exact ⟨hS24.ag, fun w9 hw9 => okOf_in rfl⟩
def tb51_6 : List (Nat × Nat × Nat) := [(0, 131072, 32), (0, 262144, 8), (2, 524288, 262144), (1, 0, 131073), (15, 0, 524290)]
theorem body21 : bodyB Tryz.prog 21 = true := by kernel_rfl
theorem body22 : bodyB Tryz.prog 22 = true := by kernel_rfl
theorem body51 : bodyB Tryz.prog 51 = true := by kernel_rfl
def minority_Index_p (n : Nat) (a0 : TRoll) (a1 : List Int) (a2 : Int) (a3 : Int) : Option (TShare × Int) :=
  (minority_Index_1_p n a0 a1 a2 a3).bind fun y0 => exc y0 (fun y1 => some (y1, (0 : Int))) (fun e0 => some ((⟨((0 : UInt64), (0 : UInt64), (0 : UInt64), (0 : UInt64), (0 : UInt64), (0 : UInt64), (0 : UInt64), (0 : UInt64)), ((0 : UInt64), (0 : UInt64), (0 : UInt64), (0 : UInt64), (0 : UInt64), (0 : UInt64), (0 : UInt64), (0 : UInt64))⟩ : TShare), e0.fErrno))
theorem minority_Index_c (n : Nat) (L : List Nat) (w : World) (hL : ∀ b ∈ L, b < w.heap.size) (a0 : TRoll) {v0_3 : Value} (h0_3 : Rep.R w L [v0_3] a0.fUnits) (a1 : List Int) {v1_0 : Value} (h1_0 : Rep.R w L [v1_0] a1) (a2 : Int) (a3 : Int)  {r : TShare × Int} (h : minority_Index_p n a0 a1 a2 a3 = some r) :
    Calls Tryz.prog 7 #[.agg #[vI a0.fGroups, vI a0.fParties, vI a0.fLevels, v0_3], v1_0, vI a2, vI a3] w (Gives w fun _ u => u = .tuple #[.agg ((cs_TShare r.1)).toArray, vI r.2]) := by
 unfold minority_Index_p at h
 have hS0 := St.start w
 refine MX.start Tryz.func7 rfl rfl rfl (fun _ cs0 hb0 => ?_)
 refine MX.sr <| RG.new .plain rfl (Does.box (vs := [vI a0.fGroups, vI a0.fParties, vI a0.fLevels, v0_3]) hS0 rfl rfl) (fun w2 b5 hS3 hT4 => ?_)
 have hm7 := Rep.mv0 h1_0 hS3
 refine RG.new .plain rfl (Does.box (vs := [v1_0]) hS3 rfl (Rep.c1 hm7)) (fun w8 b0 hS9 hT0 => ?_)
 refine RG.new .plain rfl (Does.box (vs := [vI a2]) hS9 rfl rfl) (fun w0 b1 hS1 hT1 => ?_)
 refine RG.new .plain rfl (Does.box (vs := [vI a3]) hS1 rfl rfl) (fun w1 b2 hS2 hT2 => ?_)
 refine RG.new .plain rfl (Does.alloc (zs := [.int .u64 0, .int .u64 0, .int .u64 0, .int .u64 0, .int .u64 0, .int .u64 0, .int .u64 0, .int .u64 0, .int .u64 0, .int .u64 0, .int .u64 0, .int .u64 0, .int .u64 0, .int .u64 0, .int .u64 0, .int .u64 0]) hS2 (zB (by kernel_rfl))) (fun w3 b3 hS4 hT3 => ?_)
 refine RG.so rfl <| RG.nil <| MX.sr <| RG.va (FV.makeFunc (vs := []) (us := [vP b5, vP b0, vP b1, vP b2]) evs_nil (e4 rfl rfl rfl rfl)) <| RG.enterP (fst := []) (cap := []) (vs := [.func (.func 22) #[] #[vP b5, vP b0, vP b1, vP b2]]) .plain body21 Tryz.func21 rfl rfl rfl rfl (e1 rfl) rfl (fun cs1 hb1 hp0 => ?_)
 refine MX.sr <| RG.new .plain rfl (Does.alloc (zs := [.int .u64 0, .int .u64 0, .int .u64 0, .int .u64 0, .int .u64 0, .int .u64 0, .int .u64 0, .int .u64 0, .int .u64 0, .int .u64 0, .int .u64 0, .int .u64 0, .int .u64 0, .int .u64 0, .int .u64 0, .int .u64 0]) hS4 (zB (by kernel_rfl))) (fun w4 b4 hS5 hT5 => ?_)
 refine RG.new .plain rfl (Does.alloc (zs := [vI 0]) hS5 (zB (by kernel_rfl))) (fun w5 b6 hS6 hT6 => ?_)
 refine RG.nil <| MX.sr <| RG.va (FV.makeFunc (vs := []) (us := [vP b4, vP b6]) evs_nil (e2 rfl rfl)) <| RG.defer (fst := []) (cap := [vP b4, vP b6]) (vs := []) rfl .plain rfl evs_nil <| RG.nil <| MX.sr ?_
 refine RG.mo rfl ?_
 obtain ⟨y0, hy0, h⟩ := bind_in h
 rcases y0 with e0 | y1
 have h := exc_e h
 try dsimp only at h
 refine RG.callE (fst := []) (cap := [vP b5, vP b0, vP b1, vP b2]) .plain body22 rfl evs_nil (fun w9 hw9 => minority_Index_1_c n _ w9 (hS6.hL0 hL hw9) a0 (hS6.k0 h0_3 hw9) (fun j9 v9 h9 => hw9.cell0 ((hS6.memA (.tl (.tl (.tl (.tl (.tl (.tl .hd))))))) j9 v9 h9)) a1 (hS6.k0 h1_0 hw9) (fun j9 v9 h9 => hw9.cell0 ((hS6.memA (.tl (.tl (.tl (.tl (.tl .hd)))))) j9 v9 h9)) a2 (fun j9 v9 h9 => hw9.cell0 ((hS6.memA (.tl (.tl (.tl (.tl .hd))))) j9 v9 h9)) a3 (fun j9 v9 h9 => hw9.cell0 ((hS6.memA (.tl (.tl (.tl .hd)))) j9 v9 h9)) hy0) (fun w6 hag0 => ?_)
 obtain ⟨hS7, hT7⟩ := hS6.agr hag0
 refine PN.callD (vs := []) (cap := [vP b4, vP b6]) body51 Tryz.func51 rfl rfl rfl (fun c0 hc0 hk0 => ?_)
 refine MX.sr <| RG.recover1 .plain hc0 rfl <| RG.so rfl <| RG.nil <| MX.sr <| RG.mo rfl ?_
 refine RG.va (FV.neqI Tryz.underlying20 rfl rfl) <| RG.nil <| MX.cond_t rfl <| MX.sr <| RG.mo rfl <| RG.va (FV.assertT (by kernel_rfl) rfl) ?_
 refine RG.mo rfl <| RG.va (FV.extract rfl rfl) <| RG.va (FV.extract rfl rfl) <| RG.new .plain rfl (Does.alloc (zs := [vI 0]) hS7 (zB (by kernel_rfl))) (fun w7 b7 hS8 hT8 => ?_)
 refine RG.now .plain (Acts.storeAll (news := [vI e0.fErrno]) hS8 .hd rfl rfl rfl rfl rfl rfl (o1 rfl)) (fun w55 hS56 hT9 => ?_)
 refine RG.so rfl <| RG.nil <| MX.seq <| MX.sr <| RG.mo rfl <| RG.va (FV.not rfl) ?_
 refine RG.nil <| MX.cond_f rfl <| MX.skip <| MX.sr <| RG.new .plain rfl (Does.alloc (zs := [.int .u64 0, .int .u64 0, .int .u64 0, .int .u64 0, .int .u64 0, .int .u64 0, .int .u64 0, .int .u64 0, .int .u64 0, .int .u64 0, .int .u64 0, .int .u64 0, .int .u64 0, .int .u64 0, .int .u64 0, .int .u64 0]) hS56 (zB (by kernel_rfl))) (fun w59 b8 hS60 hT61 => ?_)
 refine RG.nil <| MX.drawT 3 tb51_6 (by kernel_rfl) (by kernel_rfl) (by kernel_rfl) (fun kt0 kp0 => ?_)
 refine RD.vx 0 1 24 kt0 rfl kp0 (FV.lN rfl (hS60.memA .hd)) rfl <| RD.vw 1 3 kt0 rfl kp0 (fun _ => FV.fa 0 rfl) rfl <| RD.meet (α := Unit) (fun () => [(1, vP b6), (19, vI e0.fErrno)]) (fun () wx0 => St w wx0 [.cells b6 [vI 0] 32, .cells b4 [.int .u64 0, .int .u64 0, .int .u64 0, .int .u64 0, .int .u64 0, .int .u64 0, .int .u64 0, .int .u64 0, .int .u64 0, .int .u64 0, .int .u64 0, .int .u64 0, .int .u64 0, .int .u64 0, .int .u64 0, .int .u64 0] 39, .cells b3 [.int .u64 0, .int .u64 0, .int .u64 0, .int .u64 0, .int .u64 0, .int .u64 0, .int .u64 0, .int .u64 0, .int .u64 0, .int .u64 0, .int .u64 0, .int .u64 0, .int .u64 0, .int .u64 0, .int .u64 0, .int .u64 0] 39, .cells b2 [vI a3] 3, .cells b1 [vI a2] 3, .cells b0 [v1_0] 28, .cells b5 [vI a0.fGroups, vI a0.fParties, vI a0.fLevels, v0_3] 25] ∧ Tr w59 [.cells b8 [.int .u64 0, .int .u64 0, .int .u64 0, .int .u64 0, .int .u64 0, .int .u64 0, .int .u64 0, .int .u64 0, .int .u64 0, .int .u64 0, .int .u64 0, .int .u64 0, .int .u64 0, .int .u64 0, .int .u64 0, .int .u64 0] 39, .cells b7 [vI e0.fErrno] 93, .cells b6 [vI 0] 32, .cells b4 [.int .u64 0, .int .u64 0, .int .u64 0, .int .u64 0, .int .u64 0, .int .u64 0, .int .u64 0, .int .u64 0, .int .u64 0, .int .u64 0, .int .u64 0, .int .u64 0, .int .u64 0, .int .u64 0, .int .u64 0, .int .u64 0] 39, .cells b3 [.int .u64 0, .int .u64 0, .int .u64 0, .int .u64 0, .int .u64 0, .int .u64 0, .int .u64 0, .int .u64 0, .int .u64 0, .int .u64 0, .int .u64 0, .int .u64 0, .int .u64 0, .int .u64 0, .int .u64 0, .int .u64 0] 39, .cells b2 [vI a3] 3, .cells b1 [vI a2] 3, .cells b0 [v1_0] 28, .cells b5 [vI a0.fGroups, vI a0.fParties, vI a0.fLevels, v0_3] 25] wx0 [.cells b6 [vI 0] 32, .cells b4 [.int .u64 0, .int .u64 0, .int .u64 0, .int .u64 0, .int .u64 0, .int .u64 0, .int .u64 0, .int .u64 0, .int .u64 0, .int .u64 0, .int .u64 0, .int .u64 0, .int .u64 0, .int .u64 0, .int .u64 0, .int .u64 0] 39, .cells b3 [.int .u64 0, .int .u64 0, .int .u64 0, .int .u64 0, .int .u64 0, .int .u64 0, .int .u64 0, .int .u64 0, .int .u64 0, .int .u64 0, .int .u64 0, .int .u64 0, .int .u64 0, .int .u64 0, .int .u64 0, .int .u64 0] 39, .cells b2 [vI a3] 3, .cells b1 [vI a2] 3, .cells b0 [v1_0] 28, .cells b5 [vI a0.fGroups, vI a0.fParties, vI a0.fLevels, v0_3] 25]) 1 15 ?_ ?_
 rintro ⟨⟩ wx0 ⟨hS10, hT11⟩
 try dsimp only
 refine RD.nw 4 31 kt0 rfl rfl .plain (Acts.storeAll (news := [vI e0.fErrno]) hS10 .hd rfl rfl rfl rfl rfl rfl (o1 rfl)) (fun w10 hS11 hT12 => ?_)
 refine RD.done (doneD_ok kt0 (by kernel_rfl)) <| MX.fin rfl <| RT.leaveD1 hk0 Tryz.func51 rfl .nil <| RT.leave (u := .tuple #[.agg #[.int .u64 0, .int .u64 0, .int .u64 0, .int .u64 0, .int .u64 0, .int .u64 0, .int .u64 0, .int .u64 0, .int .u64 0, .int .u64 0, .int .u64 0, .int .u64 0, .int .u64 0, .int .u64 0, .int .u64 0, .int .u64 0], vI e0.fErrno]) hb1 Tryz.func21 rfl (.cons (.many (cs := [.int .u64 0, .int .u64 0, .int .u64 0, .int .u64 0, .int .u64 0, .int .u64 0, .int .u64 0, .int .u64 0, .int .u64 0, .int .u64 0, .int .u64 0, .int .u64 0, .int .u64 0, .int .u64 0, .int .u64 0, .int .u64 0]) (by kernel_rfl) rfl (hS11.memA (.tl .hd))) (.cons (.one (by kernel_rfl) rfl ((hS11.memA .hd) 0 _ rfl)) .nil)) rfl <| RG.va (FV.extract rfl rfl) <| RG.va (FV.extract rfl rfl) ?_
 refine RG.now .plain (Acts.storeAll (news := [.int .u64 0, .int .u64 0, .int .u64 0, .int .u64 0, .int .u64 0, .int .u64 0, .int .u64 0, .int .u64 0, .int .u64 0, .int .u64 0, .int .u64 0, .int .u64 0, .int .u64 0, .int .u64 0, .int .u64 0, .int .u64 0]) hS11 (.tl (.tl .hd)) rfl rfl rfl rfl rfl rfl (onesB rfl)) (fun w11 hS12 hT13 => ?_)
 refine RG.so rfl <| RG.nil <| MX.ret rfl <| RT.leave hb0 Tryz.func7 rfl (.cons (.many (cs := [.int .u64 0, .int .u64 0, .int .u64 0, .int .u64 0, .int .u64 0, .int .u64 0, .int .u64 0, .int .u64 0, .int .u64 0, .int .u64 0, .int .u64 0, .int .u64 0, .int .u64 0, .int .u64 0, .int .u64 0, .int .u64 0]) (by kernel_rfl) rfl (hS12.memA (.tl (.tl .hd)))) (.cons (.tmp rfl) .nil)) rfl ?_
 cases h
 exact hS12.gv
 intro hJ1277
 refine RD.each [2, 3] (readyD_ok kt0 (by kernel_rfl)) ⟨?_, ?_, trivial⟩
 refine RO.val (m' := 7) (stepC_ok kt0 (by kernel_rfl)) rfl .plain rfl (FV.l1 rfl ((hS60.memA (.tl .hd)) 0 _ rfl)) <| RD.nw 3 15 kt0 rfl rfl .plain (Acts.storeAll (news := [.int .u64 0, .int .u64 0, .int .u64 0, .int .u64 0, .int .u64 0, .int .u64 0, .int .u64 0, .int .u64 0, .int .u64 0, .int .u64 0, .int .u64 0, .int .u64 0, .int .u64 0, .int .u64 0, .int .u64 0, .int .u64 0]) hS60 (.tl (.tl (.tl .hd))) rfl rfl rfl rfl rfl rfl (onesB rfl)) (fun w12 hS13 hT14 => ?_)
 obtain ⟨hS15, hT16⟩ := St.arrB hS13 (.one (.tl (.tl .hd)) (.one (.tl (.tl .hd)) (.one (.tl (.tl .hd)) (.one (.tl (.tl .hd)) (.one (.tl (.tl .hd)) (.one (.tl (.tl .hd)) (.one (.tl (.tl .hd)) .done)))))))
 exact hJ1277 () _ _ ⟨rfl, rfl, trivial⟩ ⟨hS15, (Tr.trans hT14 hT16)⟩
 refine RO.now (m' := 11) (stepC_ok kt0 (by kernel_rfl)) rfl rfl .plain (Acts.storeAll (news := [.int .u64 0, .int .u64 0, .int .u64 0, .int .u64 0, .int .u64 0, .int .u64 0, .int .u64 0, .int .u64 0, .int .u64 0, .int .u64 0, .int .u64 0, .int .u64 0, .int .u64 0, .int .u64 0, .int .u64 0, .int .u64 0]) hS60 (.tl (.tl (.tl .hd))) rfl rfl rfl rfl rfl rfl (onesB rfl)) (fun w12 hS13 hT14 => ?_)
 refine RD.vx 2 15 16 kt0 rfl kp0 (FV.l1 rfl ((hS13.memA (.tl .hd)) 0 _ rfl)) rfl ?_
 obtain ⟨hS16, hT17⟩ := St.arrB hS13 (.one (.tl (.tl .hd)) (.one (.tl (.tl .hd)) (.one (.tl (.tl .hd)) (.one (.tl (.tl .hd)) (.one (.tl (.tl .hd)) (.one (.tl (.tl .hd)) (.one (.tl (.tl .hd)) .done)))))))
 exact hJ1277 () _ _ ⟨rfl, rfl, trivial⟩ ⟨hS16, (Tr.trans hT14 hT17)⟩
 have h := exc_o h
 try dsimp only at h
 refine RG.callq' (v := .agg ((cs_TShare y1)).toArray) (fst := []) (cap := [vP b5, vP b0, vP b1, vP b2]) .plain body22 rfl evs_nil (fun w9 hw9 => Calls.okp (minority_Index_1_c n _ w9 (hS6.hL0 hL hw9) a0 (hS6.k0 h0_3 hw9) (fun j9 v9 h9 => hw9.cell0 ((hS6.memA (.tl (.tl (.tl (.tl (.tl (.tl .hd))))))) j9 v9 h9)) a1 (hS6.k0 h1_0 hw9) (fun j9 v9 h9 => hw9.cell0 ((hS6.memA (.tl (.tl (.tl (.tl (.tl .hd)))))) j9 v9 h9)) a2 (fun j9 v9 h9 => hw9.cell0 ((hS6.memA (.tl (.tl (.tl (.tl .hd))))) j9 v9 h9)) a3 (fun j9 v9 h9 => hw9.cell0 ((hS6.memA (.tl (.tl (.tl .hd)))) j9 v9 h9)) hy0)) rfl <| RG.now .plain (Acts.storeAll (news := (cs_TShare y1)) hS6 (.tl .hd) rfl rfl rfl rfl rfl rfl (onesB rfl)) (fun w14 hS17 hT18 => ?_)
 refine RG.now .plain (Acts.storeAll (news := [vI 0]) hS17 .hd rfl rfl rfl rfl rfl rfl (o1 rfl)) (fun w15 hS18 hT19 => ?_)
 refine RG.nil <| MX.ret rfl <| RT.callD (vs := []) (cap := [vP b4, vP b6]) body51 Tryz.func51 rfl rfl rfl (fun c1 hc1 hk1 => ?_)
 refine MX.sr <| RG.recover0 .plain hc1 rfl <| RG.so rfl <| RG.nil <| MX.sr <| RG.mo rfl ?_
 refine RG.va (FV.neqI0 Tryz.underlying20 rfl rfl) <| RG.nil <| MX.cond_f rfl <| MX.skip <| MX.fin rfl <| RT.leaveD0 hc1 hk1 Tryz.func51 rfl .nil ?_
 refine RT.leave (u := .tuple #[.agg ((cs_TShare y1)).toArray, vI 0]) hb1 Tryz.func21 rfl (.cons (.many (cs := (cs_TShare y1)) (by kernel_rfl) rfl (hS18.memA (.tl .hd))) (.cons (.one (by kernel_rfl) rfl ((hS18.memA .hd) 0 _ rfl)) .nil)) rfl <| RG.va (FV.extract rfl rfl) <| RG.va (FV.extract rfl rfl) <| RG.now .plain (Acts.storeAll (news := (cs_TShare y1)) hS18 (.tl (.tl .hd)) rfl rfl rfl rfl rfl rfl (onesB rfl)) (fun w16 hS20 hT21 => ?_)
 refine RG.so rfl <| RG.nil <| MX.ret rfl <| RT.leave hb0 Tryz.func7 rfl (.cons (.many (cs := (cs_TShare y1)) (by kernel_rfl) rfl (hS20.memA (.tl (.tl .hd)))) (.cons (.tmp rfl) .nil)) rfl ?_
 cases h
 exact hS20.gv
def minority_must_int_p (_n : Nat) (a0 : Int) (a1 : Int) : Option (Except Tbroken Int) :=
  (if a1 = 0 then some (.ok a0) else some (.error (⟨a1⟩ : Tbroken)))
theorem minority_must_int_c (n : Nat) (L : List Nat) (w : World) (_hL : ∀ b ∈ L, b < w.heap.size) (a0 : Int) (a1 : Int)  {r : Except Tbroken Int} (h : minority_must_int_p n a0 a1 = some r) :
    Calls Tryz.prog 36 #[vI a0, vI a1] w (PGives w (fun (y : Int) _ u => u = vI y) (fun e => .iface 93 (.agg #[vI e.fErrno])) r) := by
 unfold minority_must_int_p at h
 have hS0 := St.start w
 refine MX.startP Tryz.func36 rfl rfl rfl (fun _ cs0 hb0 hp0 => ?_)
 refine MX.sr <| RG.so rfl <| RG.nil <| MX.seq <| MX.sr <| RG.mo rfl ?_
 refine RG.va (FV.neq (i := a1) (j := 0) rfl rfl) <| RG.nil <| MX.ifn rfl h (fun c1 h => ?_) (fun c1 h => ?_)
 refine MX.skip <| MX.sr <| RG.mo rfl <| RG.so rfl <| RG.nil <| MX.ret rfl ?_
 refine RT.t1 hb0 Tryz.func36 rfl rfl ?_
 cases h
 exact ⟨hS0.ag, fun w9 hw9 => okOf_in rfl⟩
 refine MX.region <| RG.mo rfl <| RG.va (FV.buildV (vs := [vI a1]) (u := .agg #[vI a1]) (e1 rfl) (fun w9 => by kernel_rfl)) <| RG.va (FV.makeInterface (by kernel_rfl) rfl) <| RG.panic .plain rfl ?_
 cases h
 exact PN.leave hp0 Tryz.func36 ⟨hS0.ag, rfl⟩
def tb66_4 : List (Nat × Nat × Nat) := [(0, 32768, 4), (0, 65536, 8), (2, 131072, 65536), (0, 262144, 16), (12, 524288, 262144), (21, 1048576, 688128), (63, 64, 1048576), (127, 128, 0)]
theorem body66 : bodyB Tryz.prog 66 = true := by kernel_rfl
def share_Cmp_p (n : Nat) (a0 : TShare) (a1 : TShare) : Option (Int × Int) :=
  (share_valid_p n ([a0, a1] : List TShare)).bind fun y0 => (if y0 = true then (share_Read_p n a0).bind fun y1 => (share_Read_p n a1).bind fun y2 => (share_Ratio_Cmp_p n y1 y2).bind fun y3 => some (y3, (0 : Int)) else some ((0 : Int), (20 : Int)))
theorem share_Cmp_c (n : Nat) (L : List Nat) (w : World) (hL : ∀ b ∈ L, b < w.heap.size) (a0 : TShare) (a1 : TShare)  {r : Int × Int} (h : share_Cmp_p n a0 a1 = some r) :
    Calls Tryz.prog 37 #[.agg ((cs_TShare a0)).toArray, .agg ((cs_TShare a1)).toArray] w (Gives w fun _ u => u = .tuple #[vI r.1, vI r.2]) := by
 unfold share_Cmp_p at h
 have hS0 := St.start w
 refine MX.start Tryz.func37 rfl rfl rfl (fun _ cs0 hb0 => ?_)
 refine MX.sr <| RG.new .plain rfl (Does.box (vs := (cs_TShare a0)) hS0 rfl rfl) (fun w2 b5 hS3 hT4 => ?_)
 refine RG.new .plain rfl (Does.box (vs := (cs_TShare a1)) hS3 rfl rfl) (fun w7 b0 hS8 hT9 => ?_)
 refine RG.so rfl <| RG.so rfl <| RG.nil <| MX.sr <| RG.va (FV.lN rfl (hS8.memA (.tl .hd))) <| RG.va (FV.lN rfl (hS8.memA .hd)) ?_
 refine RG.enterP (fst := []) (cap := []) (vs := [.agg ((cs_TShare a0)).toArray, .agg ((cs_TShare a1)).toArray, .func (.func 67) #[] #[]]) .plain body66 Tryz.func66 rfl rfl rfl rfl (e3 rfl rfl rfl) rfl (fun cs1 hb1 hp0 => ?_)
 refine MX.sr <| RG.new .plain rfl (Does.box (vs := (cs_TShare a0)) hS8 rfl rfl) (fun w0 b1 hS1 hT0 => ?_)
 refine RG.new .plain rfl (Does.box (vs := (cs_TShare a1)) hS1 rfl rfl) (fun w1 b2 hS2 hT1 => ?_)
 refine RG.so rfl <| RG.so rfl <| RG.nil <| MX.seq <| MX.sr <| RG.va (FV.lN rfl (hS2.memA (.tl .hd))) ?_
 refine RG.va (FV.lN rfl (hS2.memA .hd)) <| RG.new .plain rfl (Does.build (α := TShare) (xs := ([a0, a1] : List TShare)) (vs := [.agg ((cs_TShare a0)).toArray, .agg ((cs_TShare a1)).toArray]) (ds' := (cs_TShare a0 ++ cs_TShare a1)) rfl hS2 el31 rfl (e2 rfl rfl) (by kernel_rfl) rfl) (fun w3 b3 hS4 hT2 => ?_)
 have hc0 := Cells.at_ (cs := (cs_TShare a0 ++ cs_TShare a1)) (xs := (([a0, a1] : List TShare) : List TShare)) hS4 L (Cells.cons (cs := (cs_TShare a0)) (ds := (cs_TShare a1)) (mk_TShare a0.fN a0.fD) (Cells.cons (cs := (cs_TShare a1)) (ds := []) (mk_TShare a1.fN a1.fD) (Cells.nil _ _)))
 obtain ⟨y0, hy0, h⟩ := bind_in h
 refine RG.cq (.bool y0) body80 rfl (e1 rfl) (fun w9 hw9 => share_valid_c n _ w9 (hS4.hL0 hL hw9) ([a0, a1] : List TShare) (Rep.keep0 (St.lend (α := TShare) (L := L) hS4 .hd hc0 hL) hw9) hy0) rfl <| RG.va (FV.not rfl) <| RG.nil <| MX.ifnb rfl h (fun c0 h => ?_) (fun c0 h => ?_)
 refine MX.skip <| MX.seq <| MX.drawT 8 tb66_4 (by kernel_rfl) (by kernel_rfl) (by kernel_rfl) (fun kt0 kp0 => ?_)
 refine RD.vw 0 1 kt0 rfl kp0 (fun _ => FV.move rfl) rfl <| RD.vx 1 3 244 kt0 rfl kp0 (FV.lN rfl (hS4.memA (.tl (.tl .hd)))) rfl <| RD.vx 3 11 240 kt0 rfl kp0 (FV.lN rfl (hS4.memA (.tl .hd))) rfl ?_
 obtain ⟨y1, hy1, h⟩ := bind_in h
 refine RD.cl 2 15 kt0 rfl .plain body62 rfl (e1 rfl) (fun w9 hw9 => share_Read_c n _ w9 (hS4.hL hL hw9) a0 hy1) rfl (fun w4 vu0 hag0 ⟨v0, v1, hu_, hr0, hr1⟩ => ?_)
 subst hu_
 obtain ⟨hS5, hT3⟩ := hS4.agr hag0
 obtain ⟨y2, hy2, h⟩ := bind_in h
 refine RD.cl 4 31 kt0 rfl .plain body62 rfl (e1 rfl) (fun w9 hw9 => share_Read_c n _ w9 (hS5.hL hL hw9) a1 hy2) rfl (fun w5 vu1 hag1 ⟨v2, v3, hu_, hr2, hr3⟩ => ?_)
 subst hu_
 obtain ⟨hS6, hT5⟩ := hS5.agr hag1
 obtain ⟨y3, hy3, h⟩ := bind_in h
 have hm0 := Rep.mv hr0 hT5
 have hm1 := Rep.mv hr1 hT5
 refine RD.cq 5 63 192 (vI y3) kt0 rfl kp0 body67 rfl (e2 rfl rfl) (fun w9 hw9 => share_Ratio_Cmp_c n _ w9 (hS6.hL0 hL hw9) y1 (hS6.kd hm0 hw9) (hS6.kd hm1 hw9) y2 (hS6.kd hr2 hw9) (hS6.kd hr3 hw9) hy3) rfl <| RD.vw 6 127 kt0 rfl kp0 (fun _ => FV.assign rfl) rfl <| RD.vw 7 255 kt0 rfl kp0 (fun _ => FV.assign rfl) rfl <| RD.done (doneD_ok kt0 (by kernel_rfl)) <| MX.ret rfl <| RT.leave (u := .tuple #[vI y3, vI 0]) hb1 Tryz.func66 rfl (.cons (.tmp rfl) (.cons (.tmp rfl) .nil)) rfl ?_
 refine RG.va (FV.extract rfl rfl) <| RG.va (FV.extract rfl rfl) <| RG.so rfl <| RG.so rfl <| RG.nil <| MX.ret rfl ?_
 refine RT.leave hb0 Tryz.func37 rfl (.cons (.tmp rfl) (.cons (.tmp rfl) .nil)) rfl ?_
 cases h
 exact hS6.gv
 refine MX.sr <| RG.so rfl <| RG.nil <| MX.sr <| RG.mo rfl <| RG.so rfl ?_
 refine RG.so rfl <| RG.nil <| MX.ret rfl <| RT.leave (u := .tuple #[vI 0, vI 20]) hb1 Tryz.func66 rfl (.cons (.tmp rfl) (.cons (.tmp rfl) .nil)) rfl <| RG.va (FV.extract rfl rfl) <| RG.va (FV.extract rfl rfl) ?_
 refine RG.so rfl <| RG.so rfl <| RG.nil <| MX.ret rfl <| RT.leave hb0 Tryz.func37 rfl (.cons (.tmp rfl) (.cons (.tmp rfl) .nil)) rfl ?_
 cases h
 exact hS4.gv
def tb35_1 : List (Nat × Nat × Nat) := [(0, 16, 4), (1, 32, 16), (0, 64, 2), (6, 128, 96), (8, 256, 128), (8, 512, 128), (56, 1024, 768), (64, 2048, 1024), (255, 8, 2048)]
theorem body36 : bodyB Tryz.prog 36 = true := by kernel_rfl
theorem body37 : bodyB Tryz.prog 37 = true := by kernel_rfl
def minority_Majority_1_1_p (n : Nat) (a0 : Tpart) (a1 : TShare) : Option (Except Tbroken Bool) :=
  (minority_part_share_p n a0).bind fun y8 => exc y8 (fun y0 => (share_Cmp_p n y0 a1).bind fun y1 => (minority_must_int_p n y1.1 y1.2).bind fun y2 => exc y2 (fun y3 => some (.ok (decide (0 < y3)))) (fun e0 => some (.error e0))) (fun e9 => some (.error e9))
theorem minority_Majority_1_1_c (n : Nat) (L : List Nat) (w : World) (hL : ∀ b ∈ L, b < w.heap.size) (a0 : Tpart) (a1 : TShare) {p1 : Nat} (m1 : ∀ j9 v9, ((cs_TShare a1) : List Value)[j9]? = some v9 → w.cell? ((⟨p1, 0, none⟩ : Addr).add j9) = some v9)  {r : Except Tbroken Bool} (h : minority_Majority_1_1_p n a0 a1 = some r) :
    Calls Tryz.prog 35 #[.agg #[vI a0.fgroup, vI a0.fall], .pointer (some ⟨p1, 0, none⟩)] w (PGives w (fun (y : Bool) _ u => u = .bool y) (fun e => .iface 93 (.agg #[vI e.fErrno])) r) := by
 unfold minority_Majority_1_1_p at h
 have hS0 := St.start w
 refine MX.startP Tryz.func35 rfl rfl rfl (fun _ cs0 hb0 hp0 => ?_)
 refine MX.sr <| RG.new .plain rfl (Does.box (vs := [vI a0.fgroup, vI a0.fall]) hS0 rfl rfl) (fun w2 b5 hS3 hT4 => ?_)
 refine RG.so rfl <| RG.nil <| MX.seq <| MX.drawT 9 tb35_1 (by kernel_rfl) (by kernel_rfl) (by kernel_rfl) (fun kt6 kp7 => ?_)
 refine RD.vx 0 1 506 kt6 rfl kp7 (FV.lN rfl (hS3.memA .hd)) rfl ?_
 obtain ⟨y8, hy8, h⟩ := bind_in h
 rcases y8 with e9 | y0
 have h := exc_e h
 try dsimp only at h
 refine RD.vx 2 5 504 kt6 rfl kp7 (FV.lN rfl (fun j9 v9 h9 => hS3.ag.cell0 (m1 j9 v9 h9))) rfl <| RD.one (i := 1) (readyD_ok kt6 (by kernel_rfl)) (RO.callE (fst := []) (cap := []) rfl .plain body20 rfl (e1 rfl) (fun w9 hw9 => minority_part_share_c n _ w9 (hS3.hL0 hL hw9) a0 hy8) (fun w0 hag0 => ?_))
 obtain ⟨hS1, hT0⟩ := hS3.agr hag0
 cases h
 exact PN.leave hp0 Tryz.func35 ⟨hS1.ag, rfl⟩
 have h := exc_o h
 try dsimp only at h
 refine RD.cq 1 3 504 (.agg ((cs_TShare y0)).toArray) kt6 rfl kp7 body20 rfl (e1 rfl) (fun w9 hw9 => Calls.okp (minority_part_share_c n _ w9 (hS3.hL0 hL hw9) a0 hy8)) rfl <| RD.vx 2 7 504 kt6 rfl kp7 (FV.lN rfl (fun j9 v9 h9 => hS3.ag.cell0 (m1 j9 v9 h9))) rfl ?_
 obtain ⟨y1, hy0, h⟩ := bind_in h
 refine RD.cq 3 15 496 (.tuple #[vI y1.1, vI y1.2]) kt6 rfl kp7 body37 rfl (e2 rfl rfl) (fun w9 hw9 => share_Cmp_c n _ w9 (hS3.hL0 hL hw9) y0 a1 hy0) rfl <| RD.vw 4 31 kt6 rfl kp7 (fun _ => FV.extract rfl rfl) rfl <| RD.vw 5 63 kt6 rfl kp7 (fun _ => FV.extract rfl rfl) rfl ?_
 obtain ⟨y2, hy1, h⟩ := bind_in h
 rcases y2 with e0 | y3
 have h := exc_e h
 try dsimp only at h
 refine RD.one (i := 6) (readyD_ok kt6 (by kernel_rfl)) (RO.callE (fst := []) (cap := []) rfl .plain body36 rfl (e2 rfl rfl) (fun w9 hw9 => minority_must_int_c n _ w9 (hS3.hL0 hL hw9) y1.1 y1.2 hy1) (fun w1 hag1 => ?_))
 obtain ⟨hS2, hT1⟩ := hS3.agr hag1
 cases h
 exact PN.leave hp0 Tryz.func35 ⟨hS2.ag, rfl⟩
 have h := exc_o h
 try dsimp only at h
 refine RD.cq 6 127 384 (vI y3) kt6 rfl kp7 body36 rfl (e2 rfl rfl) (fun w9 hw9 => Calls.okp (minority_must_int_c n _ w9 (hS3.hL0 hL hw9) y1.1 y1.2 hy1)) rfl <| RD.vw 7 255 kt6 rfl kp7 (fun _ => FV.gtr (i := y3) (j := 0) rfl rfl) rfl <| RD.vw 8 511 kt6 rfl kp7 (fun _ => FV.assign rfl) rfl <| RD.done (doneD_ok kt6 (by kernel_rfl)) <| MX.ret rfl <| RT.t1 hb0 Tryz.func35 rfl rfl ?_
 cases h
 exact ⟨hS3.ag, fun w9 hw9 => okOf_in rfl⟩
theorem body34 : bodyB Tryz.prog 34 = true := by kernel_rfl
theorem body35 : bodyB Tryz.prog 35 = true := by kernel_rfl
def minority_Majority_1_l1 (n : Nat) (y3 : List Tpart) (a4 : TShare) (J0 : Nat × (List Int) → Option ((Except Tbroken (List Int)) ⊕ (List Int))) : Nat × (List Int) → Option ((Except Tbroken (List Int)) ⊕ (List Int))
  | (i0, xs0) => (if i0 < y3.length then (y3[i0]?).bind fun x0 => (minority_Majority_1_1_p n x0 a4).bind fun y0 => exc y0 (fun y1 => (if y1 = true then (app xs0 ([((i0 : Nat) : Int)] : List Int)).bind fun xs1 => J0 (i0 + 1, xs1) else J0 (i0 + 1, xs0))) (fun e0 => some (.inl (.error e0))) else some (.inr xs0))
def minority_Majority_1_p (n : Nat) (a0 : TRoll) (a1 : List Int) (a2 : Int) (a3 : Int) (a4 : TShare) : Option (Except Tbroken (List Int)) :=
  (minority_grouped_p n a0 a1 a2 a3).bind fun y1 => exc y1 (fun y3 => (share_Check_p n a4).bind fun y0 => (if y0 = 0 then thn (loopF (minority_Majority_1_l1 n y3 a4) n (0, ([] : List Int))) (fun xs0 => some (.ok xs0)) else some (.error (⟨y0⟩ : Tbroken)))) (fun e2 => some (.error e2))
theorem minority_Majority_1_c (n : Nat) (L : List Nat) (w : World) (hL : ∀ b ∈ L, b < w.heap.size) (a0 : TRoll) {v0_3 : Value} (h0_3 : Rep.R w L [v0_3] a0.fUnits) {p0 : Nat} (m0 : ∀ j9 v9, ([vI a0.fGroups, vI a0.fParties, vI a0.fLevels, v0_3] : List Value)[j9]? = some v9 → w.cell? ((⟨p0, 0, none⟩ : Addr).add j9) = some v9) (a1 : List Int) {v1_0 : Value} (h1_0 : Rep.R w L [v1_0] a1) {p1 : Nat} (m1 : ∀ j9 v9, ([v1_0] : List Value)[j9]? = some v9 → w.cell? ((⟨p1, 0, none⟩ : Addr).add j9) = some v9) (a2 : Int) {p2 : Nat} (m2 : ∀ j9 v9, ([vI a2] : List Value)[j9]? = some v9 → w.cell? ((⟨p2, 0, none⟩ : Addr).add j9) = some v9) (a3 : Int) {p3 : Nat} (m3 : ∀ j9 v9, ([vI a3] : List Value)[j9]? = some v9 → w.cell? ((⟨p3, 0, none⟩ : Addr).add j9) = some v9) (a4 : TShare) {p4 : Nat} (m4 : ∀ j9 v9, ((cs_TShare a4) : List Value)[j9]? = some v9 → w.cell? ((⟨p4, 0, none⟩ : Addr).add j9) = some v9)  {r : Except Tbroken (List Int)} (h : minority_Majority_1_p n a0 a1 a2 a3 a4 = some r) :
    Calls Tryz.prog 31 #[.pointer (some ⟨p0, 0, none⟩), .pointer (some ⟨p1, 0, none⟩), .pointer (some ⟨p2, 0, none⟩), .pointer (some ⟨p3, 0, none⟩), .pointer (some ⟨p4, 0, none⟩)] w (PGives w (fun (y : List Int) w' u => ∃ v0_0 : Value, u = v0_0 ∧ Rep.R w' L [v0_0] y) (fun e => .iface 93 (.agg #[vI e.fErrno])) r) := by
 unfold minority_Majority_1_p at h
 have hS0 := St.start w
 refine MX.startP Tryz.func31 rfl rfl rfl (fun _ cs0 hb0 hp0 => ?_)
 refine MX.sr <| RG.so rfl <| RG.nil <| MX.sr <| RG.va (FV.lN rfl (fun j9 v9 h9 => hS0.ag.cell0 (m0 j9 v9 h9))) <| RG.l1 rfl ((fun j9 v9 h9 => hS0.ag.cell0 (m1 j9 v9 h9)) 0 _ rfl) ?_
 refine RG.l1 rfl ((fun j9 v9 h9 => hS0.ag.cell0 (m2 j9 v9 h9)) 0 _ rfl) <| RG.l1 rfl ((fun j9 v9 h9 => hS0.ag.cell0 (m3 j9 v9 h9)) 0 _ rfl) ?_
 obtain ⟨y1, hy1, h⟩ := bind_in h
 rcases y1 with e2 | y3
 have h := exc_e h
 try dsimp only at h
 refine RG.callE (fst := []) (cap := []) .plain body19 rfl (e4 rfl rfl rfl rfl) (fun w9 hw9 => minority_grouped_c n _ w9 (hS0.hL hL hw9) a0 (Rep.keep0 h0_3 hw9) a1 (Rep.keep0 h1_0 hw9) a2 a3 hy1) (fun w4 hag5 => ?_)
 obtain ⟨hS6, hT7⟩ := hS0.agr hag5
 cases h
 exact PN.leave hp0 Tryz.func31 ⟨hS6.ag, rfl⟩
 have h := exc_o h
 try dsimp only at h
 refine RG.call' (fst := []) (cap := []) .plain body19 rfl (e4 rfl rfl rfl rfl) (fun w9 hw9 => Calls.okp (minority_grouped_c n _ w9 (hS0.hL hL hw9) a0 (Rep.keep0 h0_3 hw9) a1 (Rep.keep0 h1_0 hw9) a2 a3 hy1)) rfl (fun w9 vu0 hag0 ⟨v0, hu_, hr0⟩ => ?_)
 subst hu_
 obtain ⟨hS1, hT0⟩ := hS0.agr hag0
 refine RG.so rfl <| RG.nil <| MX.sr <| RG.va (FV.lN rfl (fun j9 v9 h9 => hS1.ag.cell0 (m4 j9 v9 h9))) ?_
 obtain ⟨y0, hy0, h⟩ := bind_in h
 refine RG.cq (vI y0) body33 rfl (e1 rfl) (fun w9 hw9 => share_Check_c n _ w9 (hS1.hL0 hL hw9) a4 hy0) rfl <| RG.enterP (fst := []) (cap := []) (vs := [vI y0]) .plain body32 Tryz.func32 rfl rfl rfl rfl (e1 rfl) rfl (fun cs1 hb1 hp1 => ?_)
 refine MX.sr <| RG.mo rfl <| RG.va (FV.neq (i := y0) (j := 0) rfl rfl) <| RG.nil <| MX.ifn rfl h (fun c0 h => ?_) (fun c0 h => ?_)
 refine MX.skip <| MX.fin rfl <| RT.leave (u := .tuple #[]) hb1 Tryz.func32 rfl .nil rfl <| RG.nil <| MX.sr <| RG.mo rfl ?_
 refine RG.va (FV.makeFunc (vs := []) (us := [.pointer (some ⟨p4, 0, none⟩)]) evs_nil (e1 rfl)) <| RG.enterP (fst := []) (cap := []) (vs := [vu0, .func (.func 35) #[] #[.pointer (some ⟨p4, 0, none⟩)]]) .plain body34 Tryz.func34 rfl rfl rfl rfl (e2 rfl rfl) rfl (fun cs2 hb2 hp2 => ?_)
 refine MX.sr <| RG.so rfl <| RG.nil <| MX.seq <| MX.sr <| RG.mo rfl ?_
 have hl24 : y3.length ≤ 281474976710656 := Rep.lenle hr0
 refine RG.va (FV.len (xs := y3) Tryz.underlying59 rfl hr0) <| RG.mo rfl <| RG.nil <| MX.block ?_
 have hS2 := hS1.nilRow 3 (Rep.size Int)
 have hT1 := St.nilRowT hS1 3 (Rep.size Int)
 have hc0 := Cells.at_ (cs := []) (xs := ([] : List Int)) hS2 L (Cells.nil _ _)
 obtain ⟨o0, ho128, hh130⟩ := thn_in h
 refine MX.loop (α := Nat × (List Int) × Value × (List Value)) (fun ⟨i0, xs0, v1, cs3⟩ => [(1, .func (.func 35) #[] #[.pointer (some ⟨p4, 0, none⟩)]), (4, v1), (7, vu0), (8, vI ((y3.length : Nat) : Int)), (9, vI ((i0 : Nat) : Int))]) (fun ⟨i0, xs0, v1, cs3⟩ wx0 => St w wx0 [.row w.heap.size 3 (Rep.size Int) v1 xs0.length cs3] ∧ Tr w9 [.row w.heap.size 3 (Rep.size Int) vN (([] : List Int).length) []] wx0 [.row w.heap.size 3 (Rep.size Int) v1 xs0.length cs3] ∧ Cells wx0 (bl [.row w.heap.size 3 (Rep.size Int) v1 xs0.length cs3] ++ L) cs3 xs0) (fun ⟨i0, xs0, v1, cs3⟩ => (i0, xs0)) (0, ([] : List Int), vN, []) ho128 ⟨rfl, rfl, rfl, rfl, rfl, trivial⟩ ⟨hS2, Tr.refl _ _, hc0⟩ ?_
 rintro J0 ⟨i0, xs0, v1, cs3⟩ wx0 hJ132 ⟨hS3, hT2, hc1⟩ h
 unfold minority_Majority_1_l1 at h
 try dsimp only at h
 refine MX.sr <| RG.va (FV.lssN (i := i0) (j := y3.length) rfl rfl) <| RG.nil <| MX.seq <| MX.ifd rfl h (fun c1 h => ?_) (fun c1 h => ?_)
 refine MX.skip <| MX.seq <| MX.block <| MX.sr <| RG.mo rfl ?_
 obtain ⟨x0, hx0, h⟩ := bind_in h
 have hm0 := Rep.mv hr0 (Tr.trans hT1 hT2)
 obtain ⟨A135, c2, he0, hk0, cs4, hr1, hm1⟩ := Rep.nth hm0 hx0
 obtain rfl := op_Tpart hr1
 refine RG.va (FV.ia 2 i0 rfl he0 rfl rfl hk0) <| RG.va (FV.lN rfl hm1) <| RG.new .plain rfl (Does.alloc (zs := [vI 0, vI 0]) hS3 (zB (by kernel_rfl))) (fun w0 b0 hS4 hT3 => ?_)
 refine RG.so rfl <| RG.now .plain (Acts.storeAll (news := [vI x0.fgroup, vI x0.fall]) hS4 .hd rfl rfl rfl rfl rfl rfl (onesB rfl)) (fun w1 hS5 hT4 => ?_)
 refine RG.nil <| MX.sr <| RG.mo rfl <| RG.va (FV.lN rfl (hS5.memA .hd)) ?_
 obtain ⟨y2, hy2, h⟩ := bind_in h
 rcases y2 with e0 | y4
 have h := exc_e h
 try dsimp only at h
 have h := thn_inl h hh130
 refine RG.callE (fst := []) (cap := [.pointer (some ⟨p4, 0, none⟩)]) .plain body35 rfl (e1 rfl) (fun w9 hw9 => minority_Majority_1_1_c n _ w9 (hS5.hL0 hL hw9) x0 a4 (fun j9 v9 h9 => hw9.cell0 ((fun j9 v9 h9 => hS5.ag.cell0 (m4 j9 v9 h9)) j9 v9 h9)) hy2) (fun w2 hag1 => ?_)
 obtain ⟨hS7, hT5⟩ := hS5.agr hag1
 refine PN.leave hp2 Tryz.func34 ?_
 cases h
 exact PN.leave hp0 Tryz.func31 ⟨hS7.ag, rfl⟩
 have h := exc_o h
 try dsimp only at h
 refine RG.callq' (v := .bool y4) (fst := []) (cap := [.pointer (some ⟨p4, 0, none⟩)]) .plain body35 rfl (e1 rfl) (fun w9 hw9 => Calls.okp (minority_Majority_1_1_c n _ w9 (hS5.hL0 hL hw9) x0 a4 (fun j9 v9 h9 => hw9.cell0 ((fun j9 v9 h9 => hS5.ag.cell0 (m4 j9 v9 h9)) j9 v9 h9)) hy2)) rfl <| RG.nil <| MX.ifb rfl h (fun c3 h => ?_) (fun c3 h => ?_)
 refine MX.region <| RG.mo rfl <| RG.mo rfl <| RG.new .plain rfl (Does.build (α := Int) (xs := ([((i0 : Nat) : Int)] : List Int)) (vs := [vI ((i0 : Nat) : Int)]) (ds' := [vI ((i0 : Nat) : Int)]) rfl hS5 el27 rfl (e1 rfl) (by kernel_rfl) rfl) (fun w3 b1 hS8 hT6 => ?_)
 have hc2 := Cells.at_ (cs := [vI ((i0 : Nat) : Int)]) (xs := (([((i0 : Nat) : Int)] : List Int) : List Int)) hS8 L (Cells.cons (cs := [vI ((i0 : Nat) : Int)]) (ds := []) rfl (Cells.nil _ _))
 obtain ⟨xs1, hxs166, h⟩ := bind_in h
 have hq167 := Tr.trans hT3 (Tr.trans hT4 hT6)
 have hm2 := Cells.mv hc1 hq167
 refine RG.doesL .plain rfl (DoesL.app (α := Int) (ys := ([((i0 : Nat) : Int)] : List Int)) hxs166 hS8 (fun _ _ => (.tl (.tl .hd))) el27 rfl rfl hm2 (Src.row (α := Int) hS8 .hd hc2)) (fun v2 w5 ⟨cs5, hS9, hT8, hc3⟩ => ?_)
 refine RG.so rfl <| RG.nil <| MX.inBlock <| MX.region <| RG.va (FV.addN (i := i0) (j := 1) rfl rfl (by omega)) <| RG.mo rfl ?_
 refine RG.nil ?_
 obtain ⟨hS10, hT9⟩ := St.arrB hS9 (.one (.tl (.tl .hd)) .done)
 have hm3 := Cells.mv hc3 hT9
 have hq179 := Tr.trans hq167 (Tr.trans hT8 hT9)
 exact hJ132 (i0 + 1, xs1, v2, cs5) _ _ ⟨rfl, rfl, rfl, rfl, rfl, trivial⟩ ⟨hS10, (Tr.trans hT2 hq179), hm3⟩ h
 refine MX.skip <| MX.inBlock <| MX.region <| RG.va (FV.addN (i := i0) (j := 1) rfl rfl (by omega)) <| RG.mo rfl <| RG.nil ?_
 obtain ⟨hS11, hT10⟩ := St.arrB hS5 (.one (.tl .hd) .done)
 have hq182 := Tr.trans hT3 (Tr.trans hT4 hT10)
 have hm4 := Cells.mv hc1 hq182
 exact hJ132 (i0 + 1, xs0, v1, cs3) _ _ ⟨rfl, rfl, rfl, rfl, rfl, trivial⟩ ⟨hS11, (Tr.trans hT2 hq182), hm4⟩ h
 refine MX.exit rfl ?_
 have h := thn_inr h hh130
 try dsimp only at h
 refine MX.sr <| RG.mo rfl <| RG.so rfl <| RG.nil <| MX.ret rfl <| RT.leave (u := v1) hb2 Tryz.func34 rfl (.cons (.tmp rfl) .nil) rfl ?_
 refine RG.so rfl <| RG.nil <| MX.ret rfl ?_
 have hr2 := St.freeze (α := Int) hS3 .hd hc1 hL
 have hS13 := St.delS hS3 .hd
 have hT11 := St.delT hS3 .hd
 have hr3 := Rep.at_ (α := Int) (v := v1) (xs := xs0) hS13 L hr2
 refine RT.t1 hb0 Tryz.func31 rfl rfl ?_
 cases h
 exact ⟨hS13.ag, fun w9 hw9 => okOf_in ⟨v1, rfl, hS13.kd hr3 hw9⟩⟩
 refine MX.region <| RG.mo rfl <| RG.va (FV.buildV (vs := [vI y0]) (u := .agg #[vI y0]) (e1 rfl) (fun w9 => by kernel_rfl)) <| RG.va (FV.makeInterface (by kernel_rfl) rfl) <| RG.panic .plain rfl <| PN.leave hp1 Tryz.func32 ?_
 cases h
 exact PN.leave hp0 Tryz.func31 ⟨hS1.ag, rfl⟩
def tb60_6 : List (Nat × Nat × Nat) := [(0, 131072, 32), (0, 262144, 8), (2, 524288, 262144), (1, 0, 131073), (15, 0, 524290)]
theorem body30 : bodyB Tryz.prog 30 = true := by kernel_rfl
theorem body31 : bodyB Tryz.prog 31 = true := by kernel_rfl
theorem body60 : bodyB Tryz.prog 60 = true := by kernel_rfl
def minority_Majority_p (n : Nat) (a0 : TRoll) (a1 : List Int) (a2 : Int) (a3 : Int) (a4 : TShare) : Option ((List Int) × Int) :=
  (minority_Majority_1_p n a0 a1 a2 a3 a4).bind fun y0 => exc y0 (fun y1 => some (y1, (0 : Int))) (fun e0 => some (([] : List Int), e0.fErrno))
theorem minority_Majority_c (n : Nat) (L : List Nat) (w : World) (hL : ∀ b ∈ L, b < w.heap.size) (a0 : TRoll) {v0_3 : Value} (h0_3 : Rep.R w L [v0_3] a0.fUnits) (a1 : List Int) {v1_0 : Value} (h1_0 : Rep.R w L [v1_0] a1) (a2 : Int) (a3 : Int) (a4 : TShare)  {r : (List Int) × Int} (h : minority_Majority_p n a0 a1 a2 a3 a4 = some r) :
    Calls Tryz.prog 8 #[.agg #[vI a0.fGroups, vI a0.fParties, vI a0.fLevels, v0_3], v1_0, vI a2, vI a3, .agg ((cs_TShare a4)).toArray] w (Gives w fun w' u => ∃ v0_0 : Value, u = .tuple #[v0_0, vI r.2] ∧ Rep.R w' L [v0_0] r.1) := by
 unfold minority_Majority_p at h
 have hS0 := St.start w
 refine MX.start Tryz.func8 rfl rfl rfl (fun _ cs0 hb0 => ?_)
 refine MX.sr <| RG.new .plain rfl (Does.box (vs := [vI a0.fGroups, vI a0.fParties, vI a0.fLevels, v0_3]) hS0 rfl rfl) (fun w2 b5 hS3 hT4 => ?_)
 have hm7 := Rep.mv0 h1_0 hS3
 refine RG.new .plain rfl (Does.box (vs := [v1_0]) hS3 rfl (Rep.c1 hm7)) (fun w8 b0 hS9 hT0 => ?_)
 refine RG.new .plain rfl (Does.box (vs := [vI a2]) hS9 rfl rfl) (fun w0 b1 hS1 hT1 => ?_)
 refine RG.new .plain rfl (Does.box (vs := [vI a3]) hS1 rfl rfl) (fun w1 b2 hS2 hT2 => ?_)
 refine RG.new .plain rfl (Does.box (vs := (cs_TShare a4)) hS2 rfl rfl) (fun w3 b3 hS4 hT3 => ?_)
 refine RG.so rfl <| RG.so rfl <| RG.nil <| MX.sr <| RG.va (FV.makeFunc (vs := []) (us := [vP b5, vP b0, vP b1, vP b2, vP b3]) evs_nil (e5 rfl rfl rfl rfl rfl)) <| RG.enterP (fst := []) (cap := []) (vs := [.func (.func 31) #[] #[vP b5, vP b0, vP b1, vP b2, vP b3]]) .plain body30 Tryz.func30 rfl rfl rfl rfl (e1 rfl) rfl (fun cs1 hb1 hp0 => ?_)
 refine MX.sr <| RG.new .plain rfl (Does.alloc (zs := [vN]) hS4 (zB (by kernel_rfl))) (fun w4 b4 hS5 hT5 => ?_)
 refine RG.new .plain rfl (Does.alloc (zs := [vI 0]) hS5 (zB (by kernel_rfl))) (fun w5 b6 hS6 hT6 => ?_)
 refine RG.nil <| MX.sr <| RG.va (FV.makeFunc (vs := []) (us := [vP b4, vP b6]) evs_nil (e2 rfl rfl)) <| RG.defer (fst := []) (cap := [vP b4, vP b6]) (vs := []) rfl .plain rfl evs_nil <| RG.nil <| MX.sr ?_
 refine RG.mo rfl ?_
 obtain ⟨y0, hy0, h⟩ := bind_in h
 rcases y0 with e0 | y1
 have h := exc_e h
 try dsimp only at h
 refine RG.callE (fst := []) (cap := [vP b5, vP b0, vP b1, vP b2, vP b3]) .plain body31 rfl evs_nil (fun w9 hw9 => minority_Majority_1_c n _ w9 (hS6.hL hL hw9) a0 (hS6.km h0_3 hw9) (fun j9 v9 h9 => hw9.cell0 ((hS6.memA (.tl (.tl (.tl (.tl (.tl (.tl .hd))))))) j9 v9 h9)) a1 (hS6.km h1_0 hw9) (fun j9 v9 h9 => hw9.cell0 ((hS6.memA (.tl (.tl (.tl (.tl (.tl .hd)))))) j9 v9 h9)) a2 (fun j9 v9 h9 => hw9.cell0 ((hS6.memA (.tl (.tl (.tl (.tl .hd))))) j9 v9 h9)) a3 (fun j9 v9 h9 => hw9.cell0 ((hS6.memA (.tl (.tl (.tl .hd)))) j9 v9 h9)) a4 (fun j9 v9 h9 => hw9.cell0 ((hS6.memA (.tl (.tl .hd))) j9 v9 h9)) hy0) (fun w6 hag0 => ?_)
 obtain ⟨hS7, hT7⟩ := hS6.agr hag0
 refine PN.callD (vs := []) (cap := [vP b4, vP b6]) body60 Tryz.func60 rfl rfl rfl (fun c0 hc0 hk0 => ?_)
 refine MX.sr <| RG.recover1 .plain hc0 rfl <| RG.so rfl <| RG.nil <| MX.sr <| RG.mo rfl ?_
 refine RG.va (FV.neqI Tryz.underlying20 rfl rfl) <| RG.nil <| MX.cond_t rfl <| MX.sr <| RG.mo rfl <| RG.va (FV.assertT (by kernel_rfl) rfl) ?_
 refine RG.mo rfl <| RG.va (FV.extract rfl rfl) <| RG.va (FV.extract rfl rfl) <| RG.new .plain rfl (Does.alloc (zs := [vI 0]) hS7 (zB (by kernel_rfl))) (fun w7 b7 hS8 hT8 => ?_)
 refine RG.now .plain (Acts.storeAll (news := [vI e0.fErrno]) hS8 .hd rfl rfl rfl rfl rfl rfl (o1 rfl)) (fun w55 hS56 hT9 => ?_)
 refine RG.so rfl <| RG.nil <| MX.seq <| MX.sr <| RG.mo rfl <| RG.va (FV.not rfl) ?_
 refine RG.nil <| MX.cond_f rfl <| MX.skip <| MX.sr <| RG.so rfl <| RG.nil ?_
 refine MX.drawT 3 tb60_6 (by kernel_rfl) (by kernel_rfl) (by kernel_rfl) (fun kt0 kp0 => ?_)
 refine RD.vw 0 1 kt0 rfl kp0 (fun _ => FV.move rfl) rfl <| RD.vw 1 3 kt0 rfl kp0 (fun _ => FV.fa 0 rfl) rfl <| RD.meet (α := Unit) (fun () => [(1, vP b6), (19, vI e0.fErrno)]) (fun () wx0 => St w wx0 [.cells b6 [vI 0] 32, .cells b4 [vN] 27, .cells b3 (cs_TShare a4) 39, .cells b2 [vI a3] 3, .cells b1 [vI a2] 3, .cells b0 [v1_0] 28, .cells b5 [vI a0.fGroups, vI a0.fParties, vI a0.fLevels, v0_3] 25] ∧ Tr w55 [.cells b7 [vI e0.fErrno] 93, .cells b6 [vI 0] 32, .cells b4 [vN] 27, .cells b3 (cs_TShare a4) 39, .cells b2 [vI a3] 3, .cells b1 [vI a2] 3, .cells b0 [v1_0] 28, .cells b5 [vI a0.fGroups, vI a0.fParties, vI a0.fLevels, v0_3] 25] wx0 [.cells b6 [vI 0] 32, .cells b4 [vN] 27, .cells b3 (cs_TShare a4) 39, .cells b2 [vI a3] 3, .cells b1 [vI a2] 3, .cells b0 [v1_0] 28, .cells b5 [vI a0.fGroups, vI a0.fParties, vI a0.fLevels, v0_3] 25]) 1 15 ?_ ?_
 rintro ⟨⟩ wx0 ⟨hS10, hT11⟩
 try dsimp only
 refine RD.nw 4 31 kt0 rfl rfl .plain (Acts.storeAll (news := [vI e0.fErrno]) hS10 .hd rfl rfl rfl rfl rfl rfl (o1 rfl)) (fun w10 hS11 hT12 => ?_)
 refine RD.done (doneD_ok kt0 (by kernel_rfl)) <| MX.fin rfl <| RT.leaveD1 hk0 Tryz.func60 rfl .nil <| RT.leave (u := .tuple #[vN, vI e0.fErrno]) hb1 Tryz.func30 rfl (.cons (.one (by kernel_rfl) rfl ((hS11.memA (.tl .hd)) 0 _ rfl)) (.cons (.one (by kernel_rfl) rfl ((hS11.memA .hd) 0 _ rfl)) .nil)) rfl <| RG.va (FV.extract rfl rfl) <| RG.va (FV.extract rfl rfl) ?_
 refine RG.so rfl <| RG.so rfl <| RG.nil <| MX.ret rfl ?_
 have hr0 := Rep.nilAt (α := Int) hS11 L
 refine RT.leave hb0 Tryz.func8 rfl (.cons (.tmp rfl) (.cons (.tmp rfl) .nil)) rfl ?_
 cases h
 exact ⟨hS11.ag, fun w9 hw9 => ⟨vN, rfl, hS11.kd hr0 hw9⟩⟩
 intro hJ1270
 refine RD.each [2, 3] (readyD_ok kt0 (by kernel_rfl)) ⟨?_, ?_, trivial⟩
 refine RO.val (m' := 7) (stepC_ok kt0 (by kernel_rfl)) rfl .plain rfl (FV.l1 rfl ((hS56.memA .hd) 0 _ rfl)) <| RD.nw 3 15 kt0 rfl rfl .plain (Acts.storeAll (news := [vN]) hS56 (.tl (.tl .hd)) rfl rfl rfl rfl rfl rfl (o1 rfl)) (fun w11 hS12 hT13 => ?_)
 obtain ⟨hS13, hT14⟩ := St.arrB hS12 (.one (.tl .hd) (.one (.tl .hd) (.one (.tl .hd) (.one (.tl .hd) (.one (.tl .hd) (.one (.tl .hd) (.one (.tl .hd) .done)))))))
 exact hJ1270 () _ _ ⟨rfl, rfl, trivial⟩ ⟨hS13, (Tr.trans hT13 hT14)⟩
 refine RO.now (m' := 11) (stepC_ok kt0 (by kernel_rfl)) rfl rfl .plain (Acts.storeAll (news := [vN]) hS56 (.tl (.tl .hd)) rfl rfl rfl rfl rfl rfl (o1 rfl)) (fun w11 hS12 hT13 => ?_)
 refine RD.vx 2 15 16 kt0 rfl kp0 (FV.l1 rfl ((hS12.memA .hd) 0 _ rfl)) rfl ?_
 obtain ⟨hS15, hT16⟩ := St.arrB hS12 (.one (.tl .hd) (.one (.tl .hd) (.one (.tl .hd) (.one (.tl .hd) (.one (.tl .hd) (.one (.tl .hd) (.one (.tl .hd) .done)))))))
 exact hJ1270 () _ _ ⟨rfl, rfl, trivial⟩ ⟨hS15, (Tr.trans hT13 hT16)⟩
 have h := exc_o h
 try dsimp only at h
 refine RG.call' (fst := []) (cap := [vP b5, vP b0, vP b1, vP b2, vP b3]) .plain body31 rfl evs_nil (fun w9 hw9 => Calls.okp (minority_Majority_1_c n _ w9 (hS6.hL hL hw9) a0 (hS6.km h0_3 hw9) (fun j9 v9 h9 => hw9.cell0 ((hS6.memA (.tl (.tl (.tl (.tl (.tl (.tl .hd))))))) j9 v9 h9)) a1 (hS6.km h1_0 hw9) (fun j9 v9 h9 => hw9.cell0 ((hS6.memA (.tl (.tl (.tl (.tl (.tl .hd)))))) j9 v9 h9)) a2 (fun j9 v9 h9 => hw9.cell0 ((hS6.memA (.tl (.tl (.tl (.tl .hd))))) j9 v9 h9)) a3 (fun j9 v9 h9 => hw9.cell0 ((hS6.memA (.tl (.tl (.tl .hd)))) j9 v9 h9)) a4 (fun j9 v9 h9 => hw9.cell0 ((hS6.memA (.tl (.tl .hd))) j9 v9 h9)) hy0)) rfl (fun w12 vu0 hag1 ⟨v0, hu_, hr1⟩ => ?_)
 subst hu_
 obtain ⟨hS16, hT17⟩ := hS6.agr hag1
 refine RG.now .plain (Acts.storeAll (news := [vu0]) hS16 (.tl .hd) rfl rfl rfl (Rep.c1 hr1) rfl rfl (o1 (Rep.o1 hr1))) (fun w14 hS17 hT18 => ?_)
 refine RG.now .plain (Acts.storeAll (news := [vI 0]) hS17 .hd rfl rfl rfl rfl rfl rfl (o1 rfl)) (fun w15 hS18 hT19 => ?_)
 refine RG.nil <| MX.ret rfl <| RT.callD (vs := []) (cap := [vP b4, vP b6]) body60 Tryz.func60 rfl rfl rfl (fun c1 hc1 hk1 => ?_)
 refine MX.sr <| RG.recover0 .plain hc1 rfl <| RG.so rfl <| RG.nil <| MX.sr <| RG.mo rfl ?_
 refine RG.va (FV.neqI0 Tryz.underlying20 rfl rfl) <| RG.nil <| MX.cond_f rfl <| MX.skip <| MX.fin rfl <| RT.leaveD0 hc1 hk1 Tryz.func60 rfl .nil ?_
 refine RT.leave (u := .tuple #[vu0, vI 0]) hb1 Tryz.func30 rfl (.cons (.one (by kernel_rfl) rfl ((hS18.memA (.tl .hd)) 0 _ rfl)) (.cons (.one (by kernel_rfl) rfl ((hS18.memA .hd) 0 _ rfl)) .nil)) rfl <| RG.va (FV.extract rfl rfl) <| RG.va (FV.extract rfl rfl) <| RG.so rfl <| RG.so rfl <| RG.nil ?_
 refine MX.ret rfl <| RT.leave hb0 Tryz.func8 rfl (.cons (.tmp rfl) (.cons (.tmp rfl) .nil)) rfl ?_
 cases h
 have hm0 := Rep.mv hr1 (Tr.trans hT18 hT19)
 exact ⟨hS18.ag, fun w9 hw9 => ⟨vu0, rfl, hS18.kd hm0 hw9⟩⟩
structure Ttold where
  fslope : TShare
  fbase : TShare
  deriving DecidableEq
instance : Rep Ttold := Rep.via (β := TShare × TShare) fun x => (x.fslope, x.fbase)
def cs_Ttold (x : Ttold) : List Value := [.int .u64 (x.fslope.fN.1.toNat : Int), .int .u64 (x.fslope.fN.2.1.toNat : Int), .int .u64 (x.fslope.fN.2.2.1.toNat : Int), .int .u64 (x.fslope.fN.2.2.2.1.toNat : Int), .int .u64 (x.fslope.fN.2.2.2.2.1.toNat : Int), .int .u64 (x.fslope.fN.2.2.2.2.2.1.toNat : Int), .int .u64 (x.fslope.fN.2.2.2.2.2.2.1.toNat : Int), .int .u64 (x.fslope.fN.2.2.2.2.2.2.2.toNat : Int), .int .u64 (x.fslope.fD.1.toNat : Int), .int .u64 (x.fslope.fD.2.1.toNat : Int), .int .u64 (x.fslope.fD.2.2.1.toNat : Int), .int .u64 (x.fslope.fD.2.2.2.1.toNat : Int), .int .u64 (x.fslope.fD.2.2.2.2.1.toNat : Int), .int .u64 (x.fslope.fD.2.2.2.2.2.1.toNat : Int), .int .u64 (x.fslope.fD.2.2.2.2.2.2.1.toNat : Int), .int .u64 (x.fslope.fD.2.2.2.2.2.2.2.toNat : Int), .int .u64 (x.fbase.fN.1.toNat : Int), .int .u64 (x.fbase.fN.2.1.toNat : Int), .int .u64 (x.fbase.fN.2.2.1.toNat : Int), .int .u64 (x.fbase.fN.2.2.2.1.toNat : Int), .int .u64 (x.fbase.fN.2.2.2.2.1.toNat : Int), .int .u64 (x.fbase.fN.2.2.2.2.2.1.toNat : Int), .int .u64 (x.fbase.fN.2.2.2.2.2.2.1.toNat : Int), .int .u64 (x.fbase.fN.2.2.2.2.2.2.2.toNat : Int), .int .u64 (x.fbase.fD.1.toNat : Int), .int .u64 (x.fbase.fD.2.1.toNat : Int), .int .u64 (x.fbase.fD.2.2.1.toNat : Int), .int .u64 (x.fbase.fD.2.2.2.1.toNat : Int), .int .u64 (x.fbase.fD.2.2.2.2.1.toNat : Int), .int .u64 (x.fbase.fD.2.2.2.2.2.1.toNat : Int), .int .u64 (x.fbase.fD.2.2.2.2.2.2.1.toNat : Int), .int .u64 (x.fbase.fD.2.2.2.2.2.2.2.toNat : Int)]
def tb93_1 : List (Nat × Nat × Nat) := [(0, 32, 4), (1, 64, 32), (0, 128, 8), (4, 256, 128), (10, 512, 320), (0, 1024, 4), (32, 2048, 1024), (0, 4096, 8), (128, 8192, 4096), (336, 16384, 10240), (528, 32768, 16896), (2047, 0, 32784)]
def share_Ratio_Times_p (n : Nat) (a0 : TRatio) (a1 : TRatio) : Option TRatio :=
  (wide_Long_Times_p n a0.fLong a1.fLong).bind fun y0 => (wide_Long_Times_p n a0.fUnder a1.fUnder).bind fun y1 => (share_Lowest_p n y0 y1).bind fun y2 => some y2
theorem share_Ratio_Times_c (n : Nat) (L : List Nat) (w : World) (hL : ∀ b ∈ L, b < w.heap.size) (a0 : TRatio) {v0_1 : Value} (h0_1 : Rep.R w L [v0_1] a0.fLong.fWords) {v0_3 : Value} (h0_3 : Rep.R w L [v0_3] a0.fUnder.fWords) (a1 : TRatio) {v1_1 : Value} (h1_1 : Rep.R w L [v1_1] a1.fLong.fWords) {v1_3 : Value} (h1_3 : Rep.R w L [v1_3] a1.fUnder.fWords)  {r : TRatio} (h : share_Ratio_Times_p n a0 a1 = some r) :
    Calls Tryz.prog 93 #[.agg #[.bool a0.fLong.fBelow, v0_1, .bool a0.fUnder.fBelow, v0_3], .agg #[.bool a1.fLong.fBelow, v1_1, .bool a1.fUnder.fBelow, v1_3]] w (Gives w fun w' u => ∃ v0_1 v0_3 : Value, u = .agg #[.bool r.fLong.fBelow, v0_1, .bool r.fUnder.fBelow, v0_3] ∧ Rep.R w' L [v0_1] r.fLong.fWords ∧ Rep.R w' L [v0_3] r.fUnder.fWords) := by
 unfold share_Ratio_Times_p at h
 have hS0 := St.start w
 refine MX.start Tryz.func93 rfl rfl rfl (fun _ cs0 hb0 => ?_)
 refine MX.sr <| RG.new .plain rfl (Does.box (vs := [.bool a0.fLong.fBelow, v0_1, .bool a0.fUnder.fBelow, v0_3]) hS0 rfl rfl) (fun w2 b5 hS3 hT4 => ?_)
 refine RG.new .plain rfl (Does.box (vs := [.bool a1.fLong.fBelow, v1_1, .bool a1.fUnder.fBelow, v1_3]) hS3 rfl rfl) (fun w7 b0 hS8 hT9 => ?_)
 refine RG.new .plain rfl (Does.alloc (zs := [.bool false, vN, .bool false, vN]) hS8 (zB (by kernel_rfl))) (fun w0 b1 hS1 hT0 => ?_)
 refine RG.nil <| MX.seq <| MX.drawT 11 tb93_1 (by kernel_rfl) (by kernel_rfl) (by kernel_rfl) (fun kt0 kp0 => ?_)
 refine RD.vw 0 1 kt0 rfl kp0 (fun _ => FV.fa 0 rfl) rfl <| RD.vx 1 3 3600 kt0 rfl kp0 (FV.loadN (cs := [.bool a0.fLong.fBelow, v0_1]) (by kernel_rfl) rfl (mem_part (hS1.memA (.tl (.tl .hd))) 0 2)) rfl <| RD.vw 2 7 kt0 rfl kp0 (fun _ => FV.fa 0 rfl) rfl <| RD.vx 3 15 3600 kt0 rfl kp0 (FV.loadN (cs := [.bool a1.fLong.fBelow, v1_1]) (by kernel_rfl) rfl (mem_part (hS1.memA (.tl .hd)) 0 2)) rfl <| RD.vw 5 47 kt0 rfl kp0 (fun _ => FV.fa 2 rfl) rfl <| RD.vx 6 111 3584 kt0 rfl kp0 (FV.loadN (cs := [.bool a0.fUnder.fBelow, v0_3]) (by kernel_rfl) rfl (mem_part (hS1.memA (.tl (.tl .hd))) 2 2)) rfl ?_
 refine RD.vw 7 239 kt0 rfl kp0 (fun _ => FV.fa 2 rfl) rfl <| RD.vx 8 495 3584 kt0 rfl kp0 (FV.loadN (cs := [.bool a1.fUnder.fBelow, v1_3]) (by kernel_rfl) rfl (mem_part (hS1.memA (.tl .hd)) 2 2)) rfl ?_
 obtain ⟨y0, hy0, h⟩ := bind_in h
 refine RD.cl 4 511 kt0 rfl .plain body89 rfl (e2 rfl rfl) (fun w9 hw9 => wide_Long_Times_c n _ w9 (hS1.hL hL hw9) a0.fLong (hS1.km h0_1 hw9) a1.fLong (hS1.km h1_1 hw9) hy0) rfl (fun w1 vu0 hag0 ⟨v0, hu_, hr0⟩ => ?_)
 subst hu_
 obtain ⟨hS2, hT1⟩ := hS1.agr hag0
 obtain ⟨y1, hy1, h⟩ := bind_in h
 refine RD.cl 9 1023 kt0 rfl .plain body89 rfl (e2 rfl rfl) (fun w9 hw9 => wide_Long_Times_c n _ w9 (hS2.hL hL hw9) a0.fUnder (hS2.km h0_3 hw9) a1.fUnder (hS2.km h1_3 hw9) hy1) rfl (fun w3 vu1 hag1 ⟨v1, hu_, hr1⟩ => ?_)
 subst hu_
 obtain ⟨hS4, hT2⟩ := hS2.agr hag1
 obtain ⟨y2, hy2, h⟩ := bind_in h
 have hm0 := Rep.mv hr0 hT2
 refine RD.cl 10 2047 kt0 rfl .plain body94 rfl (e2 rfl rfl) (fun w9 hw9 => share_Lowest_c n _ w9 (hS4.hL hL hw9) y0 (Rep.keep0 hm0 hw9) y1 (Rep.keep0 hr1 hw9) hy2) rfl (fun w4 vu2 hag2 ⟨v2, v3, hu_, hr2, hr3⟩ => ?_)
 subst hu_
 obtain ⟨hS5, hT3⟩ := hS4.agr hag2
 refine RD.nw 11 4095 kt0 rfl rfl .plain (Acts.storeAll (news := [.bool y2.fLong.fBelow, v2, .bool y2.fUnder.fBelow, v3]) hS5 .hd rfl rfl rfl rfl rfl rfl (o4 rfl (Rep.o1 hr2) rfl (Rep.o1 hr3))) (fun w5 hS6 hT5 => ?_)
 refine RD.done (doneD_ok kt0 (by kernel_rfl)) <| MX.ret rfl <| RT.leave hb0 Tryz.func93 rfl (.cons (.many (cs := [.bool y2.fLong.fBelow, v2, .bool y2.fUnder.fBelow, v3]) (by kernel_rfl) rfl (hS6.memA .hd)) .nil) rfl ?_
 cases h
 have hm1 := Rep.mv hr2 hT5
 have hm2 := Rep.mv hr3 hT5
 exact ⟨hS6.ag, fun w9 hw9 => ⟨v2, v3, rfl, hS6.kd hm1 hw9, hS6.kd hm2 hw9⟩⟩
theorem body93 : bodyB Tryz.prog 93 = true := by kernel_rfl
def share_Mul_p (n : Nat) (a0 : TShare) (a1 : TShare) : Option (TShare × Int) :=
  (share_valid_p n ([a0, a1] : List TShare)).bind fun y0 => (if y0 = true then (share_Read_p n a0).bind fun y1 => (share_Read_p n a1).bind fun y2 => (share_Ratio_Times_p n y1 y2).bind fun y3 => (share_told_p n y3 (0 : Int)).bind fun y4 => some (y4.1, y4.2) else (share_told_p n (⟨(⟨false, ([] : List UInt64)⟩ : TLong), (⟨false, ([] : List UInt64)⟩ : TLong)⟩ : TRatio) (20 : Int)).bind fun y5 => some (y5.1, y5.2))
theorem share_Mul_c (n : Nat) (L : List Nat) (w : World) (hL : ∀ b ∈ L, b < w.heap.size) (a0 : TShare) (a1 : TShare)  {r : TShare × Int} (h : share_Mul_p n a0 a1 = some r) :
    Calls Tryz.prog 72 #[.agg ((cs_TShare a0)).toArray, .agg ((cs_TShare a1)).toArray] w (Gives w fun _ u => u = .tuple #[.agg ((cs_TShare r.1)).toArray, vI r.2]) := by
 unfold share_Mul_p at h
 have hS0 := St.start w
 refine MX.start Tryz.func72 rfl rfl rfl (fun _ cs0 hb0 => ?_)
 refine MX.sr <| RG.new .plain rfl (Does.box (vs := (cs_TShare a0)) hS0 rfl rfl) (fun w2 b5 hS3 hT4 => ?_)
 refine RG.new .plain rfl (Does.box (vs := (cs_TShare a1)) hS3 rfl rfl) (fun w7 b0 hS8 hT9 => ?_)
 refine RG.new .plain rfl (Does.alloc (zs := [.int .u64 0, .int .u64 0, .int .u64 0, .int .u64 0, .int .u64 0, .int .u64 0, .int .u64 0, .int .u64 0, .int .u64 0, .int .u64 0, .int .u64 0, .int .u64 0, .int .u64 0, .int .u64 0, .int .u64 0, .int .u64 0]) hS8 (zB (by kernel_rfl))) (fun w0 b1 hS1 hT0 => ?_)
 refine RG.so rfl <| RG.nil <| MX.sr <| RG.va (FV.lN rfl (hS1.memA (.tl (.tl .hd)))) <| RG.va (FV.lN rfl (hS1.memA (.tl .hd))) <| RG.enterP (fst := []) (cap := []) (vs := [.agg ((cs_TShare a0)).toArray, .agg ((cs_TShare a1)).toArray, .func (.func 93) #[] #[]]) .plain body53 Tryz.func53 rfl rfl rfl rfl (e3 rfl rfl rfl) rfl (fun cs1 hb1 hp0 => ?_)
 refine MX.sr <| RG.new .plain rfl (Does.box (vs := (cs_TShare a0)) hS1 rfl rfl) (fun w1 b2 hS2 hT1 => ?_)
 refine RG.new .plain rfl (Does.box (vs := (cs_TShare a1)) hS2 rfl rfl) (fun w3 b3 hS4 hT2 => ?_)
 refine RG.new .plain rfl (Does.alloc (zs := [.bool false, vN, .bool false, vN]) hS4 (zB (by kernel_rfl))) (fun w4 b4 hS5 hT3 => ?_)
 refine RG.so rfl <| RG.nil <| MX.seq <| MX.sr <| RG.va (FV.lN rfl (hS5.memA (.tl (.tl .hd)))) <| RG.va (FV.lN rfl (hS5.memA (.tl .hd))) ?_
 refine RG.new .plain rfl (Does.build (α := TShare) (xs := ([a0, a1] : List TShare)) (vs := [.agg ((cs_TShare a0)).toArray, .agg ((cs_TShare a1)).toArray]) (ds' := (cs_TShare a0 ++ cs_TShare a1)) rfl hS5 el31 rfl (e2 rfl rfl) (by kernel_rfl) rfl) (fun w5 b6 hS6 hT5 => ?_)
 have hc0 := Cells.at_ (cs := (cs_TShare a0 ++ cs_TShare a1)) (xs := (([a0, a1] : List TShare) : List TShare)) hS6 L (Cells.cons (cs := (cs_TShare a0)) (ds := (cs_TShare a1)) (mk_TShare a0.fN a0.fD) (Cells.cons (cs := (cs_TShare a1)) (ds := []) (mk_TShare a1.fN a1.fD) (Cells.nil _ _)))
 obtain ⟨y0, hy0, h⟩ := bind_in h
 refine RG.cq (.bool y0) body80 rfl (e1 rfl) (fun w9 hw9 => share_valid_c n _ w9 (hS6.hL0 hL hw9) ([a0, a1] : List TShare) (Rep.keep0 (St.lend (α := TShare) (L := L) hS6 .hd hc0 hL) hw9) hy0) rfl <| RG.va (FV.not rfl) <| RG.nil <| MX.ifnb rfl h (fun c0 h => ?_) (fun c0 h => ?_)
 refine MX.skip <| MX.seq <| MX.drawT 6 tb53_4 (by kernel_rfl) (by kernel_rfl) (by kernel_rfl) (fun kt0 kp0 => ?_)
 refine RD.vw 0 1 kt0 rfl kp0 (fun _ => FV.move rfl) rfl <| RD.vx 1 3 244 kt0 rfl kp0 (FV.lN rfl (hS6.memA (.tl (.tl (.tl .hd))))) rfl <| RD.vx 3 11 240 kt0 rfl kp0 (FV.lN rfl (hS6.memA (.tl (.tl .hd)))) rfl ?_
 obtain ⟨y1, hy1, h⟩ := bind_in h
 refine RD.cl 2 15 kt0 rfl .plain body62 rfl (e1 rfl) (fun w9 hw9 => share_Read_c n _ w9 (hS6.hL hL hw9) a0 hy1) rfl (fun w6 vu0 hag0 ⟨v0, v1, hu_, hr0, hr1⟩ => ?_)
 subst hu_
 obtain ⟨hS7, hT6⟩ := hS6.agr hag0
 obtain ⟨y2, hy2, h⟩ := bind_in h
 refine RD.cl 4 31 kt0 rfl .plain body62 rfl (e1 rfl) (fun w9 hw9 => share_Read_c n _ w9 (hS7.hL hL hw9) a1 hy2) rfl (fun w8 vu1 hag1 ⟨v2, v3, hu_, hr2, hr3⟩ => ?_)
 subst hu_
 obtain ⟨hS9, hT7⟩ := hS7.agr hag1
 obtain ⟨y3, hy3, h⟩ := bind_in h
 have hm0 := Rep.mv hr0 hT7
 have hm1 := Rep.mv hr1 hT7
 refine RD.cl 5 63 kt0 rfl .plain body93 rfl (e2 rfl rfl) (fun w9 hw9 => share_Ratio_Times_c n _ w9 (hS9.hL hL hw9) y1 (Rep.keep0 hm0 hw9) (Rep.keep0 hm1 hw9) y2 (Rep.keep0 hr2 hw9) (Rep.keep0 hr3 hw9) hy3) rfl (fun w67 vu2 hag2 ⟨v4, v5, hu_, hr4, hr5⟩ => ?_)
 subst hu_
 obtain ⟨hS70, hT8⟩ := hS9.agr hag2
 refine RD.nw 6 127 kt0 rfl rfl .plain (Acts.storeAll (news := [.bool y3.fLong.fBelow, v4, .bool y3.fUnder.fBelow, v5]) hS70 (.tl .hd) rfl rfl rfl rfl rfl rfl (o4 rfl (Rep.o1 hr4) rfl (Rep.o1 hr5))) (fun w76 hS77 hT78 => ?_)
 refine RD.one (i := 7) (readyD_ok kt0 (by kernel_rfl)) (RO.val (m' := 255) (stepC_ok kt0 (by kernel_rfl)) rfl .plain rfl (FV.assign rfl) ?_)
 refine RD.done (doneD_ok kt0 (by kernel_rfl)) <| MX.ret rfl <| RT.leave (u := .tuple #[.agg #[.bool y3.fLong.fBelow, v4, .bool y3.fUnder.fBelow, v5], vI 0]) hb1 Tryz.func53 rfl (.cons (.many (cs := [.bool y3.fLong.fBelow, v4, .bool y3.fUnder.fBelow, v5]) (by kernel_rfl) rfl (hS77.memA (.tl .hd))) (.cons (.tmp rfl) .nil)) rfl <| RG.va (FV.extract rfl rfl) <| RG.va (FV.extract rfl rfl) ?_
 obtain ⟨y4, hy4, h⟩ := bind_in h
 have hm2 := Rep.mv hr4 hT78
 have hm3 := Rep.mv hr5 hT78
 refine RG.cq (.tuple #[.agg ((cs_TShare y4.1)).toArray, vI y4.2]) body52 rfl (e2 rfl rfl) (fun w9 hw9 => share_told_c n _ w9 (hS77.hL0 hL hw9) y3 (hS77.kd hm2 hw9) (hS77.kd hm3 hw9) (0 : Int) hy4) rfl <| RG.va (FV.extract rfl rfl) <| RG.va (FV.extract rfl rfl) <| RG.now .plain (Acts.storeAll (news := (cs_TShare y4.1)) hS77 (.tl (.tl (.tl (.tl .hd)))) rfl rfl rfl rfl rfl rfl (onesB rfl)) (fun w82 hS83 hT84 => ?_)
 refine RG.so rfl <| RG.nil <| MX.ret rfl <| RT.leave hb0 Tryz.func72 rfl (.cons (.many (cs := (cs_TShare y4.1)) (by kernel_rfl) rfl (hS83.memA (.tl (.tl (.tl (.tl .hd)))))) (.cons (.tmp rfl) .nil)) rfl ?_
 cases h
 exact hS83.gv
 refine MX.sr <| RG.new .plain rfl (Does.alloc (zs := [.bool false, vN, .bool false, vN]) hS6 (zB (by kernel_rfl))) (fun w86 b7 hS87 hT88 => ?_)
 refine RG.nil <| MX.sr <| RG.va (FV.lN rfl (hS87.memA .hd)) <| RG.now .plain (Acts.storeAll (news := [.bool false, vN, .bool false, vN]) hS87 (.tl (.tl .hd)) rfl rfl rfl rfl rfl rfl (onesB rfl)) (fun w90 hS91 hT92 => ?_)
 refine RG.so rfl <| RG.nil <| MX.ret rfl <| RT.leave (u := .tuple #[.agg #[.bool false, vN, .bool false, vN], vI 20]) hb1 Tryz.func53 rfl (.cons (.many (cs := [.bool false, vN, .bool false, vN]) (by kernel_rfl) rfl (hS91.memA (.tl (.tl .hd)))) (.cons (.tmp rfl) .nil)) rfl <| RG.va (FV.extract rfl rfl) <| RG.va (FV.extract rfl rfl) ?_
 obtain ⟨y5, hy5, h⟩ := bind_in h
 refine RG.cq (.tuple #[.agg ((cs_TShare y5.1)).toArray, vI y5.2]) body52 rfl (e2 rfl rfl) (fun w9 hw9 => share_told_c n _ w9 (hS91.hL0 hL hw9) (⟨(⟨false, ([] : List UInt64)⟩ : TLong), (⟨false, ([] : List UInt64)⟩ : TLong)⟩ : TRatio) (Rep.keep0 (Rep.nilSlice _ _) hw9) (Rep.keep0 (Rep.nilSlice _ _) hw9) (20 : Int) hy5) rfl <| RG.va (FV.extract rfl rfl) <| RG.va (FV.extract rfl rfl) <| RG.now .plain (Acts.storeAll (news := (cs_TShare y5.1)) hS91 (.tl (.tl (.tl (.tl (.tl .hd))))) rfl rfl rfl rfl rfl rfl (onesB rfl)) (fun w94 hS95 hT96 => ?_)
 refine RG.so rfl <| RG.nil <| MX.ret rfl <| RT.leave hb0 Tryz.func72 rfl (.cons (.many (cs := (cs_TShare y5.1)) (by kernel_rfl) rfl (hS95.memA (.tl (.tl (.tl (.tl (.tl .hd))))))) (.cons (.tmp rfl) .nil)) rfl ?_
 cases h
 exact hS95.gv
theorem body72 : bodyB Tryz.prog 72 = true := by kernel_rfl
def minority_mul_p (n : Nat) (a0 : TShare) (a1 : TShare) : Option (Except Tbroken TShare) :=
  (share_Mul_p n a0 a1).bind fun y0 => (minority_must_api_Share_p n y0.1 y0.2).bind fun y1 => exc y1 (fun y2 => some (.ok y2)) (fun e0 => some (.error e0))
theorem minority_mul_c (n : Nat) (L : List Nat) (w : World) (hL : ∀ b ∈ L, b < w.heap.size) (a0 : TShare) (a1 : TShare)  {r : Except Tbroken TShare} (h : minority_mul_p n a0 a1 = some r) :
    Calls Tryz.prog 41 #[.agg ((cs_TShare a0)).toArray, .agg ((cs_TShare a1)).toArray] w (PGives w (fun (y : TShare) _ u => u = .agg ((cs_TShare y)).toArray) (fun e => .iface 93 (.agg #[vI e.fErrno])) r) := by
 unfold minority_mul_p at h
 have hS0 := St.start w
 refine MX.startP Tryz.func41 rfl rfl rfl (fun _ cs0 hb0 hp0 => ?_)
 refine MX.sr <| RG.new .plain rfl (Does.box (vs := (cs_TShare a0)) hS0 rfl rfl) (fun w2 b5 hS3 hT4 => ?_)
 refine RG.new .plain rfl (Does.box (vs := (cs_TShare a1)) hS3 rfl rfl) (fun w7 b0 hS8 hT9 => ?_)
 refine RG.new .plain rfl (Does.alloc (zs := [.int .u64 0, .int .u64 0, .int .u64 0, .int .u64 0, .int .u64 0, .int .u64 0, .int .u64 0, .int .u64 0, .int .u64 0, .int .u64 0, .int .u64 0, .int .u64 0, .int .u64 0, .int .u64 0, .int .u64 0, .int .u64 0]) hS8 (zB (by kernel_rfl))) (fun w0 b1 hS1 hT0 => ?_)
 refine RG.nil <| MX.sr <| RG.va (FV.lN rfl (hS1.memA (.tl (.tl .hd)))) <| RG.va (FV.lN rfl (hS1.memA (.tl .hd))) ?_
 obtain ⟨y0, hy0, h⟩ := bind_in h
 refine RG.cq (.tuple #[.agg ((cs_TShare y0.1)).toArray, vI y0.2]) body72 rfl (e2 rfl rfl) (fun w9 hw9 => share_Mul_c n _ w9 (hS1.hL0 hL hw9) a0 a1 hy0) rfl <| RG.va (FV.extract rfl rfl) <| RG.va (FV.extract rfl rfl) ?_
 obtain ⟨y1, hy1, h⟩ := bind_in h
 rcases y1 with e0 | y2
 have h := exc_e h
 try dsimp only at h
 refine RG.callE (fst := []) (cap := []) .plain body24 rfl (e2 rfl rfl) (fun w9 hw9 => minority_must_api_Share_c n _ w9 (hS1.hL0 hL hw9) y0.1 y0.2 hy1) (fun w1 hag0 => ?_)
 obtain ⟨hS2, hT1⟩ := hS1.agr hag0
 cases h
 exact PN.leave hp0 Tryz.func41 ⟨hS2.ag, rfl⟩
 have h := exc_o h
 try dsimp only at h
 refine RG.cq (.agg ((cs_TShare y2)).toArray) body24 rfl (e2 rfl rfl) (fun w9 hw9 => Calls.okp (minority_must_api_Share_c n _ w9 (hS1.hL0 hL hw9) y0.1 y0.2 hy1)) rfl <| RG.now .plain (Acts.storeAll (news := (cs_TShare y2)) hS1 .hd rfl rfl rfl rfl rfl rfl (onesB rfl)) (fun w3 hS4 hT2 => ?_)
 refine RG.nil <| MX.ret rfl <| RT.leave hb0 Tryz.func41 rfl (.cons (.many (cs := (cs_TShare y2)) (by kernel_rfl) rfl (hS4.memA .hd)) .nil) rfl ?_
 cases h
 exact ⟨hS4.ag, fun w9 hw9 => okOf_in rfl⟩
structure Tpoll where
  fRoll : TRoll
  fgroup : Int
  fparty : Int
  deriving DecidableEq
instance : Rep Tpoll := Rep.via (β := TRoll × Int × Int) fun x => (x.fRoll, x.fgroup, x.fparty)
theorem minority_poll_points_c (n : Nat) (L : List Nat) (w : World) (_hL : ∀ b ∈ L, b < w.heap.size) (a0 : Tpoll) {v0_3 : Value} (h0_3 : Rep.R w L [v0_3] a0.fRoll.fUnits)  :
    Calls Tryz.prog 70 #[.agg #[vI a0.fRoll.fGroups, vI a0.fRoll.fParties, vI a0.fRoll.fLevels, v0_3, vI a0.fgroup, vI a0.fparty]] w (Gives w fun w' u => ∃ b5 : Nat, u = .func (.func 92) #[] #[vP b5] ∧ St w w' [.cells b5 [vI a0.fRoll.fGroups, vI a0.fRoll.fParties, vI a0.fRoll.fLevels, v0_3, vI a0.fgroup, vI a0.fparty] 120]) := by
 have hS0 := St.start w
 refine MX.start Tryz.func70 rfl rfl rfl (fun _ cs0 hb0 => ?_)
 refine MX.sr <| RG.new .plain rfl (Does.box (vs := [vI a0.fRoll.fGroups, vI a0.fRoll.fParties, vI a0.fRoll.fLevels, v0_3, vI a0.fgroup, vI a0.fparty]) hS0 rfl rfl) (fun w2 b5 hS3 hT4 => ?_)
 refine RG.so rfl <| RG.nil <| MX.sr <| RG.va (FV.makeFunc (vs := []) (us := [vP b5]) evs_nil (e1 rfl)) <| RG.so rfl <| RG.nil ?_
 refine MX.ret rfl <| RT.leave (u := .func (.func 92) #[] #[vP b5]) hb0 Tryz.func70 rfl (.cons (.tmp rfl) .nil) rfl ?_
 exact ⟨hS3.ag, fun w9 hw9 => ⟨b5, rfl, hS3.agree hw9⟩⟩
def tb71_2 : List (Nat × Nat × Nat) := [(0, 8192, 512), (0, 16384, 64), (0, 32768, 128), (6, 65536, 49152), (9, 131072, 73728), (31, 0, 131328)]
theorem body41 : bodyB Tryz.prog 41 = true := by kernel_rfl
def minority_fitted_1_p (n : Nat) (a0 : TShare) (a1 : TShare) (a2 : TShare) (a3 : TShare) : Option (Except Tbroken TShare) :=
  (minority_mul_p n a0 a1).bind fun y0 => exc y0 (fun y1 => (minority_mul_p n a2 a3).bind fun y2 => exc y2 (fun y3 => (minority_sub_p n y1 y3).bind fun y4 => exc y4 (fun y5 => some (.ok y5)) (fun e0 => none)) (fun e1 => none)) (fun e2 => some (.error e2))
theorem minority_fitted_1_c (n : Nat) (L : List Nat) (w : World) (hL : ∀ b ∈ L, b < w.heap.size) (a0 : TShare) (a1 : TShare) (a2 : TShare) (a3 : TShare)  {r : Except Tbroken TShare} (h : minority_fitted_1_p n a0 a1 a2 a3 = some r) :
    Calls Tryz.prog 71 #[.agg ((cs_TShare a0)).toArray, .agg ((cs_TShare a1)).toArray, .agg ((cs_TShare a2)).toArray, .agg ((cs_TShare a3)).toArray] w (PGives w (fun (y : TShare) _ u => u = .agg ((cs_TShare y)).toArray) (fun e => .iface 93 (.agg #[vI e.fErrno])) r) := by
 unfold minority_fitted_1_p at h
 have hS0 := St.start w
 refine MX.startP Tryz.func71 rfl rfl rfl (fun _ cs0 hb0 hp0 => ?_)
 refine MX.sr <| RG.new .plain rfl (Does.box (vs := (cs_TShare a0)) hS0 rfl rfl) (fun w2 b5 hS3 hT4 => ?_)
 refine RG.new .plain rfl (Does.box (vs := (cs_TShare a1)) hS3 rfl rfl) (fun w7 b0 hS8 hT9 => ?_)
 refine RG.new .plain rfl (Does.box (vs := (cs_TShare a2)) hS8 rfl rfl) (fun w0 b1 hS1 hT0 => ?_)
 refine RG.new .plain rfl (Does.box (vs := (cs_TShare a3)) hS1 rfl rfl) (fun w1 b2 hS2 hT1 => ?_)
 refine RG.new .plain rfl (Does.alloc (zs := [.int .u64 0, .int .u64 0, .int .u64 0, .int .u64 0, .int .u64 0, .int .u64 0, .int .u64 0, .int .u64 0, .int .u64 0, .int .u64 0, .int .u64 0, .int .u64 0, .int .u64 0, .int .u64 0, .int .u64 0, .int .u64 0]) hS2 (zB (by kernel_rfl))) (fun w3 b3 hS4 hT2 => ?_)
 refine RG.nil <| MX.sr <| RG.va (FV.lN rfl (hS4.memA (.tl (.tl (.tl (.tl .hd)))))) <| RG.va (FV.lN rfl (hS4.memA (.tl (.tl (.tl .hd))))) ?_
 obtain ⟨y0, hy0, h⟩ := bind_in h
 rcases y0 with e0 | y1
 have h := exc_e h
 try dsimp only at h
 refine RG.callE (fst := []) (cap := []) .plain body41 rfl (e2 rfl rfl) (fun w9 hw9 => minority_mul_c n _ w9 (hS4.hL0 hL hw9) a0 a1 hy0) (fun w4 hag0 => ?_)
 obtain ⟨hS5, hT3⟩ := hS4.agr hag0
 cases h
 exact PN.leave hp0 Tryz.func71 ⟨hS5.ag, rfl⟩
 have h := exc_o h
 try dsimp only at h
 refine RG.cq (.agg ((cs_TShare y1)).toArray) body41 rfl (e2 rfl rfl) (fun w9 hw9 => Calls.okp (minority_mul_c n _ w9 (hS4.hL0 hL hw9) a0 a1 hy0)) rfl <| RG.new .plain rfl (Does.alloc (zs := [.int .u64 0, .int .u64 0, .int .u64 0, .int .u64 0, .int .u64 0, .int .u64 0, .int .u64 0, .int .u64 0, .int .u64 0, .int .u64 0, .int .u64 0, .int .u64 0, .int .u64 0, .int .u64 0, .int .u64 0, .int .u64 0]) hS4 (zB (by kernel_rfl))) (fun w5 b4 hS6 hT5 => ?_)
 refine RG.now .plain (Acts.storeAll (news := (cs_TShare y1)) hS6 .hd rfl rfl rfl rfl rfl rfl (onesB rfl)) (fun w6 hS7 hT6 => ?_)
 refine RG.nil <| MX.seq <| MX.drawT 5 tb71_2 (by kernel_rfl) (by kernel_rfl) (by kernel_rfl) (fun kt0 kp0 => ?_)
 refine RD.vx 0 1 48 kt0 rfl kp0 (FV.lN rfl (hS7.memA .hd)) rfl <| RD.vx 1 3 56 kt0 rfl kp0 (FV.lN rfl (hS7.memA (.tl (.tl (.tl .hd))))) rfl <| RD.vx 2 7 56 kt0 rfl kp0 (FV.lN rfl (hS7.memA (.tl (.tl .hd)))) rfl ?_
 obtain ⟨y2, hy1, h⟩ := bind_in h
 rcases y2 with e1 | y3
 have h := exc_e h
 try dsimp only at h
 cases h
 have h := exc_o h
 try dsimp only at h
 refine RD.cq 3 15 48 (.agg ((cs_TShare y3)).toArray) kt0 rfl kp0 body41 rfl (e2 rfl rfl) (fun w9 hw9 => Calls.okp (minority_mul_c n _ w9 (hS7.hL0 hL hw9) a2 a3 hy1)) rfl ?_
 obtain ⟨y4, hy2, h⟩ := bind_in h
 rcases y4 with e3 | y5
 have h := exc_e h
 try dsimp only at h
 cases h
 have h := exc_o h
 try dsimp only at h
 refine RD.cq 4 31 32 (.agg ((cs_TShare y5)).toArray) kt0 rfl kp0 body26 rfl (e2 rfl rfl) (fun w9 hw9 => Calls.okp (minority_sub_c n _ w9 (hS7.hL0 hL hw9) y1 y3 hy2)) rfl <| RD.nw 5 63 kt0 rfl rfl .plain (Acts.storeAll (news := (cs_TShare y5)) hS7 (.tl .hd) rfl rfl rfl rfl rfl rfl (onesB rfl)) (fun w8 hS9 hT7 => ?_)
 refine RD.done (doneD_ok kt0 (by kernel_rfl)) <| MX.ret rfl <| RT.leave hb0 Tryz.func71 rfl (.cons (.many (cs := (cs_TShare y5)) (by kernel_rfl) rfl (hS9.memA (.tl .hd))) .nil) rfl ?_
 cases h
 exact ⟨hS9.ag, fun w9 hw9 => okOf_in rfl⟩
end Go.Proofs.YtmpoojncffgjoaaGreatDoor
