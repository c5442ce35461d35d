/- Functions of the program, and what they give: part 4. -/
import Derived.Test.YtmhgoecnjleagaaGreatDoorST3
namespace Go.Proofs.YtmhgoecnjleagaaGreatDoor
open Go Go.RowKit
set_option maxRecDepth 4000
set_option maxHeartbeats 4000000

def tb80_4 : List (Nat × Nat × Nat) := [(0, 32768, 4), (0, 65536, 8), (2, 131072, 65536), (0, 262144, 16), (12, 524288, 262144), (21, 1048576, 688128), (63, 0, 1048640), (127, 128, 0)]
theorem el68 : ElT Tryz.prog 68 37 (Rep.size TShare) 128 (.agg #[.int .u64 0, .int .u64 0, .int .u64 0, .int .u64 0, .int .u64 0, .int .u64 0, .int .u64 0, .int .u64 0, .int .u64 0, .int .u64 0, .int .u64 0, .int .u64 0, .int .u64 0, .int .u64 0, .int .u64 0, .int .u64 0]) [.int .u64 0, .int .u64 0, .int .u64 0, .int .u64 0, .int .u64 0, .int .u64 0, .int .u64 0, .int .u64 0, .int .u64 0, .int .u64 0, .int .u64 0, .int .u64 0, .int .u64 0, .int .u64 0, .int .u64 0, .int .u64 0] := ⟨Tryz.underlying68, by kernel_rfl, rfl, rfl, rfl, rfl⟩
theorem body79 : bodyB Tryz.prog 79 = true := by kernel_rfl
theorem body80 : bodyB Tryz.prog 80 = true := by kernel_rfl
theorem body81 : bodyB Tryz.prog 81 = true := by kernel_rfl
theorem body125 : bodyB Tryz.prog 125 = true := by kernel_rfl
def share_Sub_p (n : Nat) (a0 : TShare) (a1 : TShare) : Option (TShare × Int) :=
  (share_valid_p n ([a0, a1] : List TShare)).bind fun y0 => (if y0 = true then (share_Read_p n a0).bind fun y1 => (share_Read_p n a1).bind fun y2 => (share_Ratio_Minus_p n y1 y2).bind fun y3 => (share_told_p n y3 (0 : Int)).bind fun y4 => some (y4.1, y4.2) else (share_told_p n (⟨(⟨false, ([] : List UInt64)⟩ : TLong), (⟨false, ([] : List UInt64)⟩ : TLong)⟩ : TRatio) (20 : Int)).bind fun y5 => some (y5.1, y5.2))
theorem share_Sub_c (n : Nat) (L : List Nat) (w : World) (hL : ∀ b ∈ L, b < w.heap.size) (a0 : TShare) (a1 : TShare)  {r : TShare × Int} (h : share_Sub_p n a0 a1 = some r) :
    Calls Tryz.prog 24 #[.agg ((cs_TShare a0)).toArray, .agg ((cs_TShare a1)).toArray] w (Gives w fun _ u => u = .tuple #[.agg ((cs_TShare r.1)).toArray, .int .i64 r.2]) := by
  unfold share_Sub_p at h
  have hS0 := St.start w
  refine MX.start Tryz.func24 rfl rfl rfl (fun _ cs0 hb0 => ?_)
  refine MX.sr <| RG.new .plain rfl (Does.box (vs := (cs_TShare a0)) hS0 rfl rfl) (fun w2 b5 hS3 hT4 => ?_)
  refine RG.new .plain rfl (Does.box (vs := (cs_TShare a1)) hS3 rfl rfl) (fun w7 b0 hS8 hT9 => ?_)
  refine RG.new .plain rfl (Does.alloc (zs := [.int .u64 0, .int .u64 0, .int .u64 0, .int .u64 0, .int .u64 0, .int .u64 0, .int .u64 0, .int .u64 0, .int .u64 0, .int .u64 0, .int .u64 0, .int .u64 0, .int .u64 0, .int .u64 0, .int .u64 0, .int .u64 0]) hS8 (zB (by kernel_rfl))) (fun w0 b1 hS1 hT0 => ?_)
  refine RG.sg rfl rfl <| RG.nil <| MX.sr <| RG.vv (FV.loadN (by kernel_rfl) rfl (hS1.memA (.tl (.tl .hd)))) rfl <| RG.vv (FV.loadN (by kernel_rfl) rfl (hS1.memA (.tl .hd))) rfl <| RG.enterP (fst := []) (cap := []) (vs := [.agg ((cs_TShare a0)).toArray, .agg ((cs_TShare a1)).toArray, .func (.func 81) #[] #[]]) .plain body80 Tryz.func80 rfl rfl rfl rfl (evs_cons rfl (evs_cons rfl (evs_cons rfl evs_nil))) rfl (fun cs1 hb1 hp0 => ?_)
  refine MX.sr <| RG.new .plain rfl (Does.box (vs := (cs_TShare a0)) hS1 rfl rfl) (fun w1 b2 hS2 hT1 => ?_)
  refine RG.new .plain rfl (Does.box (vs := (cs_TShare a1)) hS2 rfl rfl) (fun w3 b3 hS4 hT2 => ?_)
  refine RG.new .plain rfl (Does.alloc (zs := [.bool false, .slice none 0 0, .bool false, .slice none 0 0]) hS4 (zB (by kernel_rfl))) (fun w4 b4 hS5 hT3 => ?_)
  refine RG.sg rfl rfl <| RG.nil <| MX.seq <| MX.sr <| RG.vv (FV.loadN (by kernel_rfl) rfl (hS5.memA (.tl (.tl .hd)))) rfl <| RG.vv (FV.loadN (by kernel_rfl) rfl (hS5.memA (.tl .hd))) rfl ?_
  refine RG.new .plain rfl (Does.build (α := TShare) (xs := ([a0, a1] : List TShare)) (vs := [.agg ((cs_TShare a0)).toArray, .agg ((cs_TShare a1)).toArray]) (ds' := (cs_TShare a0 ++ cs_TShare a1)) rfl hS5 el68 rfl (evs_cons rfl (evs_cons rfl evs_nil)) (by kernel_rfl) rfl) (fun w5 b6 hS6 hT5 => ?_)
  have hc0 := Cells.at_ (cs := (cs_TShare a0 ++ cs_TShare a1)) (xs := (([a0, a1] : List TShare) : List TShare)) hS6 L (Cells.cons (cs := (cs_TShare a0)) (ds := (cs_TShare a1)) (mk_TShare a0.fN a0.fD) (Cells.cons (cs := (cs_TShare a1)) (ds := []) (mk_TShare a1.fN a1.fD) (Cells.nil _ _)))
  obtain ⟨y0, hy0, h⟩ := bind_in h
  refine RG.cq (.bool y0) body125 rfl (evs_cons rfl evs_nil) (fun w9 hw9 => share_valid_c n _ w9 (hS6.hL0 hL hw9) ([a0, a1] : List TShare) (Rep.keep0 (St.lend (α := TShare) (L := L) hS6 .hd hc0 hL) hw9) hy0) rfl <| RG.vv (FV.not rfl) rfl <| RG.nil <| MX.ifnb rfl h (fun c0 h => ?_) (fun c0 h => ?_)
  ·skip
   refine MX.skip <| MX.seq <| MX.drawT 6 tb80_4 (by kernel_rfl) (by kernel_rfl) (by kernel_rfl) (fun kt0 kp0 => ?_)
   refine RD.vw 0 1 kt0 rfl kp0 (fun _ => FV.move rfl) rfl <| RD.vx 1 3 244 kt0 rfl kp0 (FV.loadN (by kernel_rfl) rfl (hS6.memA (.tl (.tl (.tl .hd))))) rfl <| RD.vx 3 11 240 kt0 rfl kp0 (FV.loadN (by kernel_rfl) rfl (hS6.memA (.tl (.tl .hd)))) rfl ?_
   obtain ⟨y1, hy1, h⟩ := bind_in h
   refine RD.cl 2 15 kt0 rfl .plain body130 rfl (evs_cons rfl evs_nil) (fun w9 hw9 => share_Read_c n _ w9 (hS6.hL hL hw9) a0 hy1) rfl (fun w6 vu0 hag0 ⟨v0, v1, hu_, hr0, hr1⟩ => ?_)
   subst hu_
   obtain ⟨hS7, hT6⟩ := hS6.agr hag0
   obtain ⟨y2, hy2, h⟩ := bind_in h
   refine RD.cl 4 31 kt0 rfl .plain body130 rfl (evs_cons rfl evs_nil) (fun w9 hw9 => share_Read_c n _ w9 (hS7.hL hL hw9) a1 hy2) rfl (fun w8 vu1 hag1 ⟨v2, v3, hu_, hr2, hr3⟩ => ?_)
   subst hu_
   obtain ⟨hS9, hT7⟩ := hS7.agr hag1
   obtain ⟨y3, hy3, h⟩ := bind_in h
   have hm0 := Rep.mv hr0 hT7
   have hm1 := Rep.mv hr1 hT7
   refine RD.cl 5 63 kt0 rfl .plain body81 rfl (evs_cons rfl (evs_cons rfl evs_nil)) (fun w9 hw9 => share_Ratio_Minus_c n _ w9 (hS9.hL hL hw9) y1 (Rep.keep0 hm0 hw9) (Rep.keep0 hm1 hw9) y2 (Rep.keep0 hr2 hw9) (Rep.keep0 hr3 hw9) hy3) rfl (fun w67 vu2 hag2 ⟨v4, v5, hu_, hr4, hr5⟩ => ?_)
   subst hu_
   obtain ⟨hS70, hT8⟩ := hS9.agr hag2
   refine RD.nw 6 127 kt0 rfl rfl .plain (Acts.storeAll (news := [.bool y3.fLong.fBelow, v4, .bool y3.fUnder.fBelow, v5]) hS70 (.tl .hd) rfl rfl rfl rfl rfl rfl (ones_cons rfl (ones_cons (Rep.o1 hr4) (ones_cons rfl (ones_cons (Rep.o1 hr5) ones_nil))))) (fun w76 hS77 hT78 => ?_)
   refine RD.one (i := 7) (readyD_ok kt0 (by kernel_rfl)) (RO.val (m' := 255) (stepC_ok kt0 (by kernel_rfl)) rfl .plain rfl (FV.assign rfl) ?_)
   refine RD.done (doneD_ok kt0 (by kernel_rfl)) <| MX.ret rfl <| RT.leave (u := .tuple #[.agg #[.bool y3.fLong.fBelow, v4, .bool y3.fUnder.fBelow, v5], .int .i64 0]) hb1 Tryz.func80 rfl (.cons (.many (cs := [.bool y3.fLong.fBelow, v4, .bool y3.fUnder.fBelow, v5]) (by kernel_rfl) rfl (hS77.memA (.tl .hd))) (.cons (.tmp rfl) .nil)) rfl <| RG.vv (FV.extract rfl rfl) rfl <| RG.vv (FV.extract rfl rfl) rfl ?_
   obtain ⟨y4, hy4, h⟩ := bind_in h
   have hm2 := Rep.mv hr4 hT78
   have hm3 := Rep.mv hr5 hT78
   refine RG.cq (.tuple #[.agg ((cs_TShare y4.1)).toArray, .int .i64 y4.2]) body79 rfl (evs_cons rfl (evs_cons rfl evs_nil)) (fun w9 hw9 => share_told_c n _ w9 (hS77.hL0 hL hw9) y3 (Rep.keep0 (Rep.dropS hS77 hm2) hw9) (Rep.keep0 (Rep.dropS hS77 hm3) hw9) (0 : Int) hy4) rfl <| RG.vv (FV.extract rfl rfl) rfl <| RG.vv (FV.extract rfl rfl) rfl <| RG.now .plain (Acts.storeAll (news := (cs_TShare y4.1)) hS77 (.tl (.tl (.tl (.tl .hd)))) rfl rfl rfl rfl rfl rfl (onesB rfl)) (fun w82 hS83 hT84 => ?_)
   refine RG.sg rfl rfl <| RG.nil <| MX.ret rfl <| RT.leave hb0 Tryz.func24 rfl (.cons (.many (cs := (cs_TShare y4.1)) (by kernel_rfl) rfl (hS83.memA (.tl (.tl (.tl (.tl .hd)))))) (.cons (.tmp rfl) .nil)) rfl ?_
   obtain rfl := Option.some.inj h
   exact ⟨hS83.ag, fun w9 hw9 => rfl⟩
  refine MX.sr <| RG.new .plain rfl (Does.alloc (zs := [.bool false, .slice none 0 0, .bool false, .slice none 0 0]) hS6 (zB (by kernel_rfl))) (fun w86 b7 hS87 hT88 => ?_)
  refine RG.nil <| MX.sr <| RG.vv (FV.loadN (by kernel_rfl) rfl (hS87.memA .hd)) rfl <| RG.now .plain (Acts.storeAll (news := [.bool false, .slice none 0 0, .bool false, .slice none 0 0]) hS87 (.tl (.tl .hd)) rfl rfl rfl rfl rfl rfl (onesB rfl)) (fun w90 hS91 hT92 => ?_)
  refine RG.sg rfl rfl <| RG.nil <| MX.ret rfl <| RT.leave (u := .tuple #[.agg #[.bool false, .slice none 0 0, .bool false, .slice none 0 0], .int .i64 20]) hb1 Tryz.func80 rfl (.cons (.many (cs := [.bool false, .slice none 0 0, .bool false, .slice none 0 0]) (by kernel_rfl) rfl (hS91.memA (.tl (.tl .hd)))) (.cons (.tmp rfl) .nil)) rfl <| RG.vv (FV.extract rfl rfl) rfl <| RG.vv (FV.extract rfl rfl) rfl ?_
  obtain ⟨y5, hy5, h⟩ := bind_in h
  refine RG.cq (.tuple #[.agg ((cs_TShare y5.1)).toArray, .int .i64 y5.2]) body79 rfl (evs_cons rfl (evs_cons rfl evs_nil)) (fun w9 hw9 => share_told_c n _ w9 (hS91.hL0 hL hw9) (⟨(⟨false, ([] : List UInt64)⟩ : TLong), (⟨false, ([] : List UInt64)⟩ : TLong)⟩ : TRatio) (Rep.keep0 (Rep.nilSlice _ _) hw9) (Rep.keep0 (Rep.nilSlice _ _) hw9) (20 : Int) hy5) rfl <| RG.vv (FV.extract rfl rfl) rfl <| RG.vv (FV.extract rfl rfl) rfl <| RG.now .plain (Acts.storeAll (news := (cs_TShare y5.1)) hS91 (.tl (.tl (.tl (.tl (.tl .hd))))) rfl rfl rfl rfl rfl rfl (onesB rfl)) (fun w94 hS95 hT96 => ?_)
  refine RG.sg rfl rfl <| RG.nil <| MX.ret rfl <| RT.leave hb0 Tryz.func24 rfl (.cons (.many (cs := (cs_TShare y5.1)) (by kernel_rfl) rfl (hS95.memA (.tl (.tl (.tl (.tl (.tl .hd))))))) (.cons (.tmp rfl) .nil)) rfl ?_
  obtain rfl := Option.some.inj h
  exact ⟨hS95.ag, fun w9 hw9 => rfl⟩
def share_Add_p (n : Nat) (a0 : TShare) (a1 : TShare) : Option (TShare × Int) :=
  (share_valid_p n ([a0, a1] : List TShare)).bind fun y0 => (if y0 = true then (share_Read_p n a0).bind fun y1 => (share_Read_p n a1).bind fun y2 => (share_Ratio_Plus_p n y1 y2).bind fun y3 => (share_told_p n y3 (0 : Int)).bind fun y4 => some (y4.1, y4.2) else (share_told_p n (⟨(⟨false, ([] : List UInt64)⟩ : TLong), (⟨false, ([] : List UInt64)⟩ : TLong)⟩ : TRatio) (20 : Int)).bind fun y5 => some (y5.1, y5.2))
theorem share_Add_c (n : Nat) (L : List Nat) (w : World) (hL : ∀ b ∈ L, b < w.heap.size) (a0 : TShare) (a1 : TShare)  {r : TShare × Int} (h : share_Add_p n a0 a1 = some r) :
    Calls Tryz.prog 26 #[.agg ((cs_TShare a0)).toArray, .agg ((cs_TShare a1)).toArray] w (Gives w fun _ u => u = .tuple #[.agg ((cs_TShare r.1)).toArray, .int .i64 r.2]) := by
  unfold share_Add_p at h
  have hS0 := St.start w
  refine MX.start Tryz.func26 rfl rfl rfl (fun _ cs0 hb0 => ?_)
  refine MX.sr <| RG.new .plain rfl (Does.box (vs := (cs_TShare a0)) hS0 rfl rfl) (fun w2 b5 hS3 hT4 => ?_)
  refine RG.new .plain rfl (Does.box (vs := (cs_TShare a1)) hS3 rfl rfl) (fun w7 b0 hS8 hT9 => ?_)
  refine RG.new .plain rfl (Does.alloc (zs := [.int .u64 0, .int .u64 0, .int .u64 0, .int .u64 0, .int .u64 0, .int .u64 0, .int .u64 0, .int .u64 0, .int .u64 0, .int .u64 0, .int .u64 0, .int .u64 0, .int .u64 0, .int .u64 0, .int .u64 0, .int .u64 0]) hS8 (zB (by kernel_rfl))) (fun w0 b1 hS1 hT0 => ?_)
  refine RG.sg rfl rfl <| RG.nil <| MX.sr <| RG.vv (FV.loadN (by kernel_rfl) rfl (hS1.memA (.tl (.tl .hd)))) rfl <| RG.vv (FV.loadN (by kernel_rfl) rfl (hS1.memA (.tl .hd))) rfl <| RG.enterP (fst := []) (cap := []) (vs := [.agg ((cs_TShare a0)).toArray, .agg ((cs_TShare a1)).toArray, .func (.func 83) #[] #[]]) .plain body80 Tryz.func80 rfl rfl rfl rfl (evs_cons rfl (evs_cons rfl (evs_cons rfl evs_nil))) rfl (fun cs1 hb1 hp0 => ?_)
  refine MX.sr <| RG.new .plain rfl (Does.box (vs := (cs_TShare a0)) hS1 rfl rfl) (fun w1 b2 hS2 hT1 => ?_)
  refine RG.new .plain rfl (Does.box (vs := (cs_TShare a1)) hS2 rfl rfl) (fun w3 b3 hS4 hT2 => ?_)
  refine RG.new .plain rfl (Does.alloc (zs := [.bool false, .slice none 0 0, .bool false, .slice none 0 0]) hS4 (zB (by kernel_rfl))) (fun w4 b4 hS5 hT3 => ?_)
  refine RG.sg rfl rfl <| RG.nil <| MX.seq <| MX.sr <| RG.vv (FV.loadN (by kernel_rfl) rfl (hS5.memA (.tl (.tl .hd)))) rfl <| RG.vv (FV.loadN (by kernel_rfl) rfl (hS5.memA (.tl .hd))) rfl ?_
  refine RG.new .plain rfl (Does.build (α := TShare) (xs := ([a0, a1] : List TShare)) (vs := [.agg ((cs_TShare a0)).toArray, .agg ((cs_TShare a1)).toArray]) (ds' := (cs_TShare a0 ++ cs_TShare a1)) rfl hS5 el68 rfl (evs_cons rfl (evs_cons rfl evs_nil)) (by kernel_rfl) rfl) (fun w5 b6 hS6 hT5 => ?_)
  have hc0 := Cells.at_ (cs := (cs_TShare a0 ++ cs_TShare a1)) (xs := (([a0, a1] : List TShare) : List TShare)) hS6 L (Cells.cons (cs := (cs_TShare a0)) (ds := (cs_TShare a1)) (mk_TShare a0.fN a0.fD) (Cells.cons (cs := (cs_TShare a1)) (ds := []) (mk_TShare a1.fN a1.fD) (Cells.nil _ _)))
  obtain ⟨y0, hy0, h⟩ := bind_in h
  refine RG.cq (.bool y0) body125 rfl (evs_cons rfl evs_nil) (fun w9 hw9 => share_valid_c n _ w9 (hS6.hL0 hL hw9) ([a0, a1] : List TShare) (Rep.keep0 (St.lend (α := TShare) (L := L) hS6 .hd hc0 hL) hw9) hy0) rfl <| RG.vv (FV.not rfl) rfl <| RG.nil <| MX.ifnb rfl h (fun c0 h => ?_) (fun c0 h => ?_)
  ·skip
   refine MX.skip <| MX.seq <| MX.drawT 6 tb80_4 (by kernel_rfl) (by kernel_rfl) (by kernel_rfl) (fun kt0 kp0 => ?_)
   refine RD.vw 0 1 kt0 rfl kp0 (fun _ => FV.move rfl) rfl <| RD.vx 1 3 244 kt0 rfl kp0 (FV.loadN (by kernel_rfl) rfl (hS6.memA (.tl (.tl (.tl .hd))))) rfl <| RD.vx 3 11 240 kt0 rfl kp0 (FV.loadN (by kernel_rfl) rfl (hS6.memA (.tl (.tl .hd)))) rfl ?_
   obtain ⟨y1, hy1, h⟩ := bind_in h
   refine RD.cl 2 15 kt0 rfl .plain body130 rfl (evs_cons rfl evs_nil) (fun w9 hw9 => share_Read_c n _ w9 (hS6.hL hL hw9) a0 hy1) rfl (fun w6 vu0 hag0 ⟨v0, v1, hu_, hr0, hr1⟩ => ?_)
   subst hu_
   obtain ⟨hS7, hT6⟩ := hS6.agr hag0
   obtain ⟨y2, hy2, h⟩ := bind_in h
   refine RD.cl 4 31 kt0 rfl .plain body130 rfl (evs_cons rfl evs_nil) (fun w9 hw9 => share_Read_c n _ w9 (hS7.hL hL hw9) a1 hy2) rfl (fun w8 vu1 hag1 ⟨v2, v3, hu_, hr2, hr3⟩ => ?_)
   subst hu_
   obtain ⟨hS9, hT7⟩ := hS7.agr hag1
   obtain ⟨y3, hy3, h⟩ := bind_in h
   have hm0 := Rep.mv hr0 hT7
   have hm1 := Rep.mv hr1 hT7
   refine RD.cl 5 63 kt0 rfl .plain body83 rfl (evs_cons rfl (evs_cons rfl evs_nil)) (fun w9 hw9 => share_Ratio_Plus_c n _ w9 (hS9.hL hL hw9) y1 (Rep.keep0 hm0 hw9) (Rep.keep0 hm1 hw9) y2 (Rep.keep0 hr2 hw9) (Rep.keep0 hr3 hw9) hy3) rfl (fun w67 vu2 hag2 ⟨v4, v5, hu_, hr4, hr5⟩ => ?_)
   subst hu_
   obtain ⟨hS70, hT8⟩ := hS9.agr hag2
   refine RD.nw 6 127 kt0 rfl rfl .plain (Acts.storeAll (news := [.bool y3.fLong.fBelow, v4, .bool y3.fUnder.fBelow, v5]) hS70 (.tl .hd) rfl rfl rfl rfl rfl rfl (ones_cons rfl (ones_cons (Rep.o1 hr4) (ones_cons rfl (ones_cons (Rep.o1 hr5) ones_nil))))) (fun w76 hS77 hT78 => ?_)
   refine RD.one (i := 7) (readyD_ok kt0 (by kernel_rfl)) (RO.val (m' := 255) (stepC_ok kt0 (by kernel_rfl)) rfl .plain rfl (FV.assign rfl) ?_)
   refine RD.done (doneD_ok kt0 (by kernel_rfl)) <| MX.ret rfl <| RT.leave (u := .tuple #[.agg #[.bool y3.fLong.fBelow, v4, .bool y3.fUnder.fBelow, v5], .int .i64 0]) hb1 Tryz.func80 rfl (.cons (.many (cs := [.bool y3.fLong.fBelow, v4, .bool y3.fUnder.fBelow, v5]) (by kernel_rfl) rfl (hS77.memA (.tl .hd))) (.cons (.tmp rfl) .nil)) rfl <| RG.vv (FV.extract rfl rfl) rfl <| RG.vv (FV.extract rfl rfl) rfl ?_
   obtain ⟨y4, hy4, h⟩ := bind_in h
   have hm2 := Rep.mv hr4 hT78
   have hm3 := Rep.mv hr5 hT78
   refine RG.cq (.tuple #[.agg ((cs_TShare y4.1)).toArray, .int .i64 y4.2]) body79 rfl (evs_cons rfl (evs_cons rfl evs_nil)) (fun w9 hw9 => share_told_c n _ w9 (hS77.hL0 hL hw9) y3 (Rep.keep0 (Rep.dropS hS77 hm2) hw9) (Rep.keep0 (Rep.dropS hS77 hm3) hw9) (0 : Int) hy4) rfl <| RG.vv (FV.extract rfl rfl) rfl <| RG.vv (FV.extract rfl rfl) rfl <| RG.now .plain (Acts.storeAll (news := (cs_TShare y4.1)) hS77 (.tl (.tl (.tl (.tl .hd)))) rfl rfl rfl rfl rfl rfl (onesB rfl)) (fun w82 hS83 hT84 => ?_)
   refine RG.sg rfl rfl <| RG.nil <| MX.ret rfl <| RT.leave hb0 Tryz.func26 rfl (.cons (.many (cs := (cs_TShare y4.1)) (by kernel_rfl) rfl (hS83.memA (.tl (.tl (.tl (.tl .hd)))))) (.cons (.tmp rfl) .nil)) rfl ?_
   obtain rfl := Option.some.inj h
   exact ⟨hS83.ag, fun w9 hw9 => rfl⟩
  refine MX.sr <| RG.new .plain rfl (Does.alloc (zs := [.bool false, .slice none 0 0, .bool false, .slice none 0 0]) hS6 (zB (by kernel_rfl))) (fun w86 b7 hS87 hT88 => ?_)
  refine RG.nil <| MX.sr <| RG.vv (FV.loadN (by kernel_rfl) rfl (hS87.memA .hd)) rfl <| RG.now .plain (Acts.storeAll (news := [.bool false, .slice none 0 0, .bool false, .slice none 0 0]) hS87 (.tl (.tl .hd)) rfl rfl rfl rfl rfl rfl (onesB rfl)) (fun w90 hS91 hT92 => ?_)
  refine RG.sg rfl rfl <| RG.nil <| MX.ret rfl <| RT.leave (u := .tuple #[.agg #[.bool false, .slice none 0 0, .bool false, .slice none 0 0], .int .i64 20]) hb1 Tryz.func80 rfl (.cons (.many (cs := [.bool false, .slice none 0 0, .bool false, .slice none 0 0]) (by kernel_rfl) rfl (hS91.memA (.tl (.tl .hd)))) (.cons (.tmp rfl) .nil)) rfl <| RG.vv (FV.extract rfl rfl) rfl <| RG.vv (FV.extract rfl rfl) rfl ?_
  obtain ⟨y5, hy5, h⟩ := bind_in h
  refine RG.cq (.tuple #[.agg ((cs_TShare y5.1)).toArray, .int .i64 y5.2]) body79 rfl (evs_cons rfl (evs_cons rfl evs_nil)) (fun w9 hw9 => share_told_c n _ w9 (hS91.hL0 hL hw9) (⟨(⟨false, ([] : List UInt64)⟩ : TLong), (⟨false, ([] : List UInt64)⟩ : TLong)⟩ : TRatio) (Rep.keep0 (Rep.nilSlice _ _) hw9) (Rep.keep0 (Rep.nilSlice _ _) hw9) (20 : Int) hy5) rfl <| RG.vv (FV.extract rfl rfl) rfl <| RG.vv (FV.extract rfl rfl) rfl <| RG.now .plain (Acts.storeAll (news := (cs_TShare y5.1)) hS91 (.tl (.tl (.tl (.tl (.tl .hd))))) rfl rfl rfl rfl rfl rfl (onesB rfl)) (fun w94 hS95 hT96 => ?_)
  refine RG.sg rfl rfl <| RG.nil <| MX.ret rfl <| RT.leave hb0 Tryz.func26 rfl (.cons (.many (cs := (cs_TShare y5.1)) (by kernel_rfl) rfl (hS95.memA (.tl (.tl (.tl (.tl (.tl .hd))))))) (.cons (.tmp rfl) .nil)) rfl ?_
  obtain rfl := Option.some.inj h
  exact ⟨hS95.ag, fun w9 hw9 => rfl⟩
def balance_must_api_Share_p (_n : Nat) (a0 : TShare) (a1 : Int) : Option (Except Tbroken TShare) :=
  (if a1 = 0 then some (.ok a0) else some (.error (⟨a1⟩ : Tbroken)))
theorem balance_must_api_Share_c (n : Nat) (L : List Nat) (w : World) (_hL : ∀ b ∈ L, b < w.heap.size) (a0 : TShare) (a1 : Int)  {r : Except Tbroken TShare} (h : balance_must_api_Share_p n a0 a1 = some r) :
    Calls Tryz.prog 76 #[.agg ((cs_TShare a0)).toArray, .int .i64 a1] w (PGives w (fun (y : TShare) _ u => u = .agg ((cs_TShare y)).toArray) (fun e => .iface 140 (.agg #[.int .i64 e.fErrno])) r) := by
  unfold balance_must_api_Share_p at h
  have hS0 := St.start w
  refine MX.startP Tryz.func76 rfl rfl rfl (fun _ cs0 hb0 hp0 => ?_)
  refine MX.sr <| RG.new .plain rfl (Does.box (vs := (cs_TShare a0)) hS0 rfl rfl) (fun w2 b5 hS3 hT4 => ?_)
  refine RG.new .plain rfl (Does.alloc (zs := [.int .u64 0, .int .u64 0, .int .u64 0, .int .u64 0, .int .u64 0, .int .u64 0, .int .u64 0, .int .u64 0, .int .u64 0, .int .u64 0, .int .u64 0, .int .u64 0, .int .u64 0, .int .u64 0, .int .u64 0, .int .u64 0]) hS3 (zB (by kernel_rfl))) (fun w7 b0 hS8 hT9 => ?_)
  refine RG.nil <| MX.seq <| MX.sr <| RG.mv rfl rfl <| RG.vv (FV.neq (i := a1) (j := 0) rfl rfl) rfl <| RG.nil ?_
  refine MX.ifn rfl h (fun c0 h => ?_) (fun c0 h => ?_)
  ·skip
   refine MX.skip <| MX.sr <| RG.vv (FV.loadN (by kernel_rfl) rfl (hS8.memA (.tl .hd))) rfl <| RG.now .plain (Acts.storeAll (news := (cs_TShare a0)) hS8 .hd rfl rfl rfl rfl rfl rfl (onesB rfl)) (fun w0 hS1 hT0 => ?_)
   refine RG.nil <| MX.ret rfl <| RT.leave hb0 Tryz.func76 rfl (.cons (.many (cs := (cs_TShare a0)) (by kernel_rfl) rfl (hS1.memA .hd)) .nil) rfl ?_
   obtain rfl := Option.some.inj h
   exact ⟨hS1.ag, fun w9 hw9 => okOf_in rfl⟩
  refine MX.region <| RG.mv rfl rfl <| RG.vv (FV.buildV (vs := [.int .i64 a1]) (u := .agg #[.int .i64 a1]) (evs_cons rfl evs_nil) (fun w9 => by kernel_rfl)) rfl <| RG.vv (FV.makeInterface (by kernel_rfl) rfl) rfl <| RG.panic .plain rfl ?_
  obtain rfl := Option.some.inj h
  exact PN.leave hp0 Tryz.func76 ⟨hS8.ag, rfl⟩
def tb127_3 : List (Nat × Nat × Nat) := [(0, 1024, 4), (1, 2048, 1024), (0, 4096, 8), (6, 8192, 4096), (10, 16384, 10240), (16, 32768, 16384), (32, 65536, 32768), (32, 131072, 32768), (255, 0, 65552), (511, 32, 131072)]
theorem ex_A34 {a b : UInt64 × UInt64 × UInt64 × UInt64 × UInt64 × UInt64 × UInt64 × UInt64} (h0 : a.1 = b.1) (h1 : a.2.1 = b.2.1) (h2 : a.2.2.1 = b.2.2.1) (h3 : a.2.2.2.1 = b.2.2.2.1) (h4 : a.2.2.2.2.1 = b.2.2.2.2.1) (h5 : a.2.2.2.2.2.1 = b.2.2.2.2.2.1) (h6 : a.2.2.2.2.2.2.1 = b.2.2.2.2.2.2.1) (h7 : a.2.2.2.2.2.2.2 = b.2.2.2.2.2.2.2) : a = b := Prod.ext h0 (Prod.ext h1 (Prod.ext h2 (Prod.ext h3 (Prod.ext h4 (Prod.ext h5 (Prod.ext h6 (h7)))))))
theorem eqlD_35 (a b : UInt64 × UInt64 × UInt64 × UInt64 × UInt64 × UInt64 × UInt64 × UInt64) (w9 : World) : (do eqGuard .eql 35 (.tmp 0) (.tmp 0) (.agg #[.int .u64 (a.1.toNat : Int), .int .u64 (a.2.1.toNat : Int), .int .u64 (a.2.2.1.toNat : Int), .int .u64 (a.2.2.2.1.toNat : Int), .int .u64 (a.2.2.2.2.1.toNat : Int), .int .u64 (a.2.2.2.2.2.1.toNat : Int), .int .u64 (a.2.2.2.2.2.2.1.toNat : Int), .int .u64 (a.2.2.2.2.2.2.2.toNat : Int)]) (.agg #[.int .u64 (b.1.toNat : Int), .int .u64 (b.2.1.toNat : Int), .int .u64 (b.2.2.1.toNat : Int), .int .u64 (b.2.2.2.1.toNat : Int), .int .u64 (b.2.2.2.2.1.toNat : Int), .int .u64 (b.2.2.2.2.2.1.toNat : Int), .int .u64 (b.2.2.2.2.2.2.1.toNat : Int), .int .u64 (b.2.2.2.2.2.2.2.toNat : Int)]); binOp .eql 35 (.agg #[.int .u64 (a.1.toNat : Int), .int .u64 (a.2.1.toNat : Int), .int .u64 (a.2.2.1.toNat : Int), .int .u64 (a.2.2.2.1.toNat : Int), .int .u64 (a.2.2.2.2.1.toNat : Int), .int .u64 (a.2.2.2.2.2.1.toNat : Int), .int .u64 (a.2.2.2.2.2.2.1.toNat : Int), .int .u64 (a.2.2.2.2.2.2.2.toNat : Int)]) (.agg #[.int .u64 (b.1.toNat : Int), .int .u64 (b.2.1.toNat : Int), .int .u64 (b.2.2.1.toNat : Int), .int .u64 (b.2.2.2.1.toNat : Int), .int .u64 (b.2.2.2.2.1.toNat : Int), .int .u64 (b.2.2.2.2.2.1.toNat : Int), .int .u64 (b.2.2.2.2.2.2.1.toNat : Int), .int .u64 (b.2.2.2.2.2.2.2.toNat : Int)]) : Sem Value).run Tryz.prog w9 = .ok (.bool (decide (a = b))) w9 :=
  eqAgg (ks := [.int .u64, .int .u64, .int .u64, .int .u64, .int .u64, .int .u64, .int .u64, .int .u64]) (xs := [.int .u64 (a.1.toNat : Int), .int .u64 (a.2.1.toNat : Int), .int .u64 (a.2.2.1.toNat : Int), .int .u64 (a.2.2.2.1.toNat : Int), .int .u64 (a.2.2.2.2.1.toNat : Int), .int .u64 (a.2.2.2.2.2.1.toNat : Int), .int .u64 (a.2.2.2.2.2.2.1.toNat : Int), .int .u64 (a.2.2.2.2.2.2.2.toNat : Int)]) (ys := [.int .u64 (b.1.toNat : Int), .int .u64 (b.2.1.toNat : Int), .int .u64 (b.2.2.1.toNat : Int), .int .u64 (b.2.2.2.1.toNat : Int), .int .u64 (b.2.2.2.2.1.toNat : Int), .int .u64 (b.2.2.2.2.2.1.toNat : Int), .int .u64 (b.2.2.2.2.2.2.1.toNat : Int), .int .u64 (b.2.2.2.2.2.2.2.toNat : Int)]) (by kernel_rfl) (by kernel_rfl) (by kernel_rfl) rfl rfl ⟨fun h => by
    simp only [allEq, veq, Bool.and_eq_true, beq_iff_eq, and_true] at h
    obtain ⟨h0, h1, h2, h3, h4, h5, h6, h7⟩ := h
    exact ex_A34 (UInt_inj64 h0) (UInt_inj64 h1) (UInt_inj64 h2) (UInt_inj64 h3) (UInt_inj64 h4) (UInt_inj64 h5) (UInt_inj64 h6) (UInt_inj64 h7), fun h => by subst h; simp [allEq, veq]⟩ _ _ w9
def share_Make_p (n : Nat) (a0 : UInt64 × UInt64 × UInt64 × UInt64 × UInt64 × UInt64 × UInt64 × UInt64) (a1 : UInt64 × UInt64 × UInt64 × UInt64 × UInt64 × UInt64 × UInt64 × UInt64) : Option (TShare × Int) :=
  (if a1 = ((0 : UInt64), (0 : UInt64), (0 : UInt64), (0 : UInt64), (0 : UInt64), (0 : UInt64), (0 : UInt64), (0 : UInt64)) then some ((⟨((0 : UInt64), (0 : UInt64), (0 : UInt64), (0 : UInt64), (0 : UInt64), (0 : UInt64), (0 : UInt64), (0 : UInt64)), ((0 : UInt64), (0 : UInt64), (0 : UInt64), (0 : UInt64), (0 : UInt64), (0 : UInt64), (0 : UInt64), (0 : UInt64))⟩ : TShare), (7 : Int)) else (wide_Longer_p n a0).bind fun y0 => (wide_Longer_p n a1).bind fun y1 => (share_Lowest_p n y0 y1).bind fun y2 => (share_Ratio_Told_p n y2).bind fun y3 => some (y3.1, y3.2))
theorem share_Make_c (n : Nat) (L : List Nat) (w : World) (hL : ∀ b ∈ L, b < w.heap.size) (a0 : UInt64 × UInt64 × UInt64 × UInt64 × UInt64 × UInt64 × UInt64 × UInt64) (a1 : UInt64 × UInt64 × UInt64 × UInt64 × UInt64 × UInt64 × UInt64 × UInt64)  {r : TShare × Int} (h : share_Make_p n a0 a1 = some r) :
    Calls Tryz.prog 127 #[.agg ((cs_A34 a0)).toArray, .agg ((cs_A34 a1)).toArray] w (Gives w fun _ u => u = .tuple #[.agg ((cs_TShare r.1)).toArray, .int .i64 r.2]) := by
  unfold share_Make_p at h
  have hS0 := St.start w
  refine MX.start Tryz.func127 rfl rfl rfl (fun _ cs0 hb0 => ?_)
  refine MX.sr <| RG.new .plain rfl (Does.box (vs := (cs_A34 a0)) hS0 rfl rfl) (fun w2 b5 hS3 hT4 => ?_)
  refine RG.new .plain rfl (Does.box (vs := (cs_A34 a1)) hS3 rfl rfl) (fun w7 b0 hS8 hT9 => ?_)
  refine RG.new .plain rfl (Does.alloc (zs := [.int .u64 0, .int .u64 0, .int .u64 0, .int .u64 0, .int .u64 0, .int .u64 0, .int .u64 0, .int .u64 0, .int .u64 0, .int .u64 0, .int .u64 0, .int .u64 0, .int .u64 0, .int .u64 0, .int .u64 0, .int .u64 0]) hS8 (zB (by kernel_rfl))) (fun w0 b1 hS1 hT0 => ?_)
  refine RG.sg rfl rfl <| RG.nil <| MX.seq <| MX.sr <| RG.vv (FV.loadN (by kernel_rfl) rfl (hS1.memA (.tl .hd))) rfl <| RG.vv (FV.buildV (vs := []) (u := .agg #[.int .u64 0, .int .u64 0, .int .u64 0, .int .u64 0, .int .u64 0, .int .u64 0, .int .u64 0, .int .u64 0]) evs_nil (fun w9 => by kernel_rfl)) rfl ?_
  refine RG.vv (FV.eqlV (v := .agg ((cs_A34 a1)).toArray) (u := .agg #[.int .u64 0, .int .u64 0, .int .u64 0, .int .u64 0, .int .u64 0, .int .u64 0, .int .u64 0, .int .u64 0]) rfl rfl (eqlD_35 a1 ((0 : UInt64), (0 : UInt64), (0 : UInt64), (0 : UInt64), (0 : UInt64), (0 : UInt64), (0 : UInt64), (0 : UInt64)))) rfl <| RG.nil <| MX.ifd rfl h (fun c0 h => ?_) (fun c0 h => ?_)
  ·skip
   refine MX.sr <| RG.vv (FV.buildV (vs := []) (u := .agg #[.int .u64 0, .int .u64 0, .int .u64 0, .int .u64 0, .int .u64 0, .int .u64 0, .int .u64 0, .int .u64 0, .int .u64 0, .int .u64 0, .int .u64 0, .int .u64 0, .int .u64 0, .int .u64 0, .int .u64 0, .int .u64 0]) evs_nil (fun w9 => by kernel_rfl)) rfl <| RG.now .plain (Acts.storeAll (news := [.int .u64 0, .int .u64 0, .int .u64 0, .int .u64 0, .int .u64 0, .int .u64 0, .int .u64 0, .int .u64 0, .int .u64 0, .int .u64 0, .int .u64 0, .int .u64 0, .int .u64 0, .int .u64 0, .int .u64 0, .int .u64 0]) hS1 .hd rfl rfl rfl rfl rfl rfl (onesB rfl)) (fun w1 hS2 hT1 => ?_)
   refine RG.sg rfl rfl <| RG.nil <| MX.ret rfl <| RT.leave hb0 Tryz.func127 rfl (.cons (.many (cs := [.int .u64 0, .int .u64 0, .int .u64 0, .int .u64 0, .int .u64 0, .int .u64 0, .int .u64 0, .int .u64 0, .int .u64 0, .int .u64 0, .int .u64 0, .int .u64 0, .int .u64 0, .int .u64 0, .int .u64 0, .int .u64 0]) (by kernel_rfl) rfl (hS2.memA .hd)) (.cons (.tmp rfl) .nil)) rfl ?_
   obtain rfl := Option.some.inj h
   exact ⟨hS2.ag, fun w9 hw9 => rfl⟩
  refine MX.skip <| MX.seq <| MX.drawT 8 tb127_3 (by kernel_rfl) (by kernel_rfl) (by kernel_rfl) (fun kt0 kp0 => ?_)
  refine RD.vx 0 1 1018 kt0 rfl kp0 (FV.loadN (by kernel_rfl) rfl (hS1.memA (.tl (.tl .hd)))) rfl <| RD.vx 2 5 1016 kt0 rfl kp0 (FV.loadN (by kernel_rfl) rfl (hS1.memA (.tl .hd))) rfl ?_
  obtain ⟨y0, hy0, h⟩ := bind_in h
  refine RD.cl 1 7 kt0 rfl .plain body165 rfl (evs_cons rfl evs_nil) (fun w9 hw9 => wide_Longer_c n _ w9 (hS1.hL hL hw9) a0 hy0) rfl (fun w3 vu0 hag0 ⟨v0, hu_, hr0⟩ => ?_)
  subst hu_
  obtain ⟨hS4, hT2⟩ := hS1.agr hag0
  obtain ⟨y1, hy1, h⟩ := bind_in h
  refine RD.cl 3 15 kt0 rfl .plain body165 rfl (evs_cons rfl evs_nil) (fun w9 hw9 => wide_Longer_c n _ w9 (hS4.hL hL hw9) a1 hy1) rfl (fun w4 vu1 hag1 ⟨v1, hu_, hr1⟩ => ?_)
  subst hu_
  obtain ⟨hS5, hT3⟩ := hS4.agr hag1
  obtain ⟨y2, hy2, h⟩ := bind_in h
  have hm0 := Rep.mv hr0 hT3
  refine RD.cl 4 31 kt0 rfl .plain body131 rfl (evs_cons rfl (evs_cons rfl evs_nil)) (fun w9 hw9 => share_Lowest_c n _ w9 (hS5.hL hL hw9) y0 (Rep.keep0 hm0 hw9) y1 (Rep.keep0 hr1 hw9) hy2) rfl (fun w5 vu2 hag2 ⟨v2, v3, hu_, hr2, hr3⟩ => ?_)
  subst hu_
  obtain ⟨hS6, hT5⟩ := hS5.agr hag2
  obtain ⟨y3, hy3, h⟩ := bind_in h
  refine RD.cq 5 63 960 (.tuple #[.agg ((cs_TShare y3.1)).toArray, .int .i64 y3.2]) kt0 rfl kp0 body129 rfl (evs_cons rfl evs_nil) (fun w9 hw9 => share_Ratio_Told_c n _ w9 (hS6.hL0 hL hw9) y2 (Rep.keep0 (Rep.dropS hS6 hr2) hw9) (Rep.keep0 (Rep.dropS hS6 hr3) hw9) hy3) rfl <| RD.vw 6 127 kt0 rfl kp0 (fun _ => FV.extract rfl rfl) rfl <| RD.vw 7 255 kt0 rfl kp0 (fun _ => FV.extract rfl rfl) rfl <| RD.nw 8 511 kt0 rfl rfl .plain (Acts.storeAll (news := (cs_TShare y3.1)) hS6 .hd rfl rfl rfl rfl rfl rfl (onesB rfl)) (fun w6 hS7 hT6 => ?_)
  refine RD.one (i := 9) (readyD_ok kt0 (by kernel_rfl)) (RO.val (m' := 1023) (stepC_ok kt0 (by kernel_rfl)) rfl .plain rfl (FV.assign rfl) ?_)
  refine RD.done (doneD_ok kt0 (by kernel_rfl)) <| MX.ret rfl <| RT.leave hb0 Tryz.func127 rfl (.cons (.many (cs := (cs_TShare y3.1)) (by kernel_rfl) rfl (hS7.memA .hd)) (.cons (.tmp rfl) .nil)) rfl ?_
  obtain rfl := Option.some.inj h
  exact ⟨hS7.ag, fun w9 hw9 => rfl⟩
theorem body127 : bodyB Tryz.prog 127 = true := by kernel_rfl
def share_Of_p (n : Nat) (a0 : Int) (a1 : Int) : Option (TShare × Int) :=
  (wide_Of_p n a0).bind fun y6 => (wide_Of_p n a1).bind fun y7 => (share_Make_p n y6 y7).bind fun y8 => some (y8.1, y8.2)
theorem share_Of_c (n : Nat) (L : List Nat) (w : World) (hL : ∀ b ∈ L, b < w.heap.size) (a0 : Int) (a1 : Int)  {r : TShare × Int} (h : share_Of_p n a0 a1 = some r) :
    Calls Tryz.prog 78 #[.int .i64 a0, .int .i64 a1] w (Gives w fun _ u => u = .tuple #[.agg ((cs_TShare r.1)).toArray, .int .i64 r.2]) := by
  unfold share_Of_p at h
  have hS0 := St.start w
  refine MX.start Tryz.func78 rfl rfl rfl (fun _ cs0 hb0 => ?_)
  refine MX.sr <| RG.new .plain rfl (Does.alloc (zs := [.int .u64 0, .int .u64 0, .int .u64 0, .int .u64 0, .int .u64 0, .int .u64 0, .int .u64 0, .int .u64 0, .int .u64 0, .int .u64 0, .int .u64 0, .int .u64 0, .int .u64 0, .int .u64 0, .int .u64 0, .int .u64 0]) hS0 (zB (by kernel_rfl))) (fun w2 b5 hS3 hT4 => ?_)
  refine RG.sg rfl rfl <| RG.nil <| MX.sr <| RG.mv rfl rfl ?_
  obtain ⟨y6, hy6, h⟩ := bind_in h
  refine RG.cq (.agg ((cs_A34 y6)).toArray) body128 rfl (evs_cons rfl evs_nil) (fun w9 hw9 => wide_Of_c n _ w9 (hS3.hL0 hL hw9) a0 hy6) rfl <| RG.mv rfl rfl ?_
  obtain ⟨y7, hy7, h⟩ := bind_in h
  refine RG.cq (.agg ((cs_A34 y7)).toArray) body128 rfl (evs_cons rfl evs_nil) (fun w9 hw9 => wide_Of_c n _ w9 (hS3.hL0 hL hw9) a1 hy7) rfl ?_
  obtain ⟨y8, hy8, h⟩ := bind_in h
  refine RG.cq (.tuple #[.agg ((cs_TShare y8.1)).toArray, .int .i64 y8.2]) body127 rfl (evs_cons rfl (evs_cons rfl evs_nil)) (fun w9 hw9 => share_Make_c n _ w9 (hS3.hL0 hL hw9) y6 y7 hy8) rfl <| RG.vv (FV.extract rfl rfl) rfl <| RG.vv (FV.extract rfl rfl) rfl <| RG.now .plain (Acts.storeAll (news := (cs_TShare y8.1)) hS3 .hd rfl rfl rfl rfl rfl rfl (onesB rfl)) (fun w9 hS1 hT0 => ?_)
  refine RG.sg rfl rfl <| RG.nil <| MX.ret rfl <| RT.leave hb0 Tryz.func78 rfl (.cons (.many (cs := (cs_TShare y8.1)) (by kernel_rfl) rfl (hS1.memA .hd)) (.cons (.tmp rfl) .nil)) rfl ?_
  obtain rfl := Option.some.inj h
  exact ⟨hS1.ag, fun w9 hw9 => rfl⟩
theorem body76 : bodyB Tryz.prog 76 = true := by kernel_rfl
theorem body78 : bodyB Tryz.prog 78 = true := by kernel_rfl
def balance_of_p (n : Nat) (a0 : Int) (a1 : Int) : Option (Except Tbroken TShare) :=
  (share_Of_p n a0 a1).bind fun y6 => (balance_must_api_Share_p n y6.1 y6.2).bind fun y7 => exc y7 (fun y9 => some (.ok y9)) (fun e8 => some (.error e8))
theorem balance_of_c (n : Nat) (L : List Nat) (w : World) (hL : ∀ b ∈ L, b < w.heap.size) (a0 : Int) (a1 : Int)  {r : Except Tbroken TShare} (h : balance_of_p n a0 a1 = some r) :
    Calls Tryz.prog 70 #[.int .i64 a0, .int .i64 a1] w (PGives w (fun (y : TShare) _ u => u = .agg ((cs_TShare y)).toArray) (fun e => .iface 140 (.agg #[.int .i64 e.fErrno])) r) := by
  unfold balance_of_p at h
  have hS0 := St.start w
  refine MX.startP Tryz.func70 rfl rfl rfl (fun _ cs0 hb0 hp0 => ?_)
  refine MX.sr <| RG.new .plain rfl (Does.alloc (zs := [.int .u64 0, .int .u64 0, .int .u64 0, .int .u64 0, .int .u64 0, .int .u64 0, .int .u64 0, .int .u64 0, .int .u64 0, .int .u64 0, .int .u64 0, .int .u64 0, .int .u64 0, .int .u64 0, .int .u64 0, .int .u64 0]) hS0 (zB (by kernel_rfl))) (fun w2 b5 hS3 hT4 => ?_)
  refine RG.nil <| MX.sr <| RG.mv rfl rfl <| RG.mv rfl rfl ?_
  obtain ⟨y6, hy6, h⟩ := bind_in h
  refine RG.cq (.tuple #[.agg ((cs_TShare y6.1)).toArray, .int .i64 y6.2]) body78 rfl (evs_cons rfl (evs_cons rfl evs_nil)) (fun w9 hw9 => share_Of_c n _ w9 (hS3.hL0 hL hw9) a0 a1 hy6) rfl <| RG.vv (FV.extract rfl rfl) rfl <| RG.vv (FV.extract rfl rfl) rfl ?_
  obtain ⟨y7, hy7, h⟩ := bind_in h
  rcases y7 with e8 | y9
  ·skip
   have h := exc_e h
   try dsimp only at h
   refine RG.callE (fst := []) (cap := []) .plain body76 rfl (evs_cons rfl (evs_cons rfl evs_nil)) (fun w9 hw9 => balance_must_api_Share_c n _ w9 (hS3.hL0 hL hw9) y6.1 y6.2 hy7) (fun w0 hag0 => ?_)
   obtain ⟨hS1, hT0⟩ := hS3.agr hag0
   obtain rfl := Option.some.inj h
   exact PN.leave hp0 Tryz.func70 ⟨hS1.ag, rfl⟩
  have h := exc_o h
  try dsimp only at h
  refine RG.cq (.agg ((cs_TShare y9)).toArray) body76 rfl (evs_cons rfl (evs_cons rfl evs_nil)) (fun w9 hw9 => Calls.okp (balance_must_api_Share_c n _ w9 (hS3.hL0 hL hw9) y6.1 y6.2 hy7)) rfl <| RG.now .plain (Acts.storeAll (news := (cs_TShare y9)) hS3 .hd rfl rfl rfl rfl rfl rfl (onesB rfl)) (fun w1 hS2 hT1 => ?_)
  refine RG.nil <| MX.ret rfl <| RT.leave hb0 Tryz.func70 rfl (.cons (.many (cs := (cs_TShare y9)) (by kernel_rfl) rfl (hS2.memA .hd)) .nil) rfl ?_
  obtain rfl := Option.some.inj h
  exact ⟨hS2.ag, fun w9 hw9 => okOf_in rfl⟩
theorem balance_count_land_c (n : Nat) (L : List Nat) (w : World) (_hL : ∀ b ∈ L, b < w.heap.size) (a0 : Tcount) {v0_3 : Value} (h0_3 : Rep.R w L [v0_3] a0.fRoll.fUnits)  :
    Calls Tryz.prog 120 #[.agg #[.int .i64 a0.fRoll.fGroups, .int .i64 a0.fRoll.fParties, .int .i64 a0.fRoll.fLevels, v0_3, .int .i64 a0.fk]] w (Gives w fun w' u => ∃ b5 : Nat, u = .func (.func 161) #[] #[.pointer (some ⟨b5, 0, none⟩)] ∧ St w w' [.cells b5 [.int .i64 a0.fRoll.fGroups, .int .i64 a0.fRoll.fParties, .int .i64 a0.fRoll.fLevels, v0_3, .int .i64 a0.fk] 97]) := by
  have hS0 := St.start w
  refine MX.start Tryz.func120 rfl rfl rfl (fun _ cs0 hb0 => ?_)
  refine MX.sr <| RG.new .plain rfl (Does.box (vs := [.int .i64 a0.fRoll.fGroups, .int .i64 a0.fRoll.fParties, .int .i64 a0.fRoll.fLevels, v0_3, .int .i64 a0.fk]) hS0 rfl rfl) (fun w2 b5 hS3 hT4 => ?_)
  refine RG.sg rfl rfl <| RG.nil <| MX.sr <| RG.vv (FV.makeFunc (vs := []) (us := [.pointer (some ⟨b5, 0, none⟩)]) evs_nil (evs_cons rfl evs_nil)) rfl <| RG.sg rfl rfl <| RG.nil ?_
  refine MX.ret rfl <| RT.leave (u := .func (.func 161) #[] #[.pointer (some ⟨b5, 0, none⟩)]) hb0 Tryz.func120 rfl (.cons (.tmp rfl) .nil) rfl ?_
  exact ⟨hS3.ag, fun w9 hw9 => ⟨b5, rfl, hS3.agree hw9⟩⟩
theorem body120 : bodyB Tryz.prog 120 = true := by kernel_rfl
theorem body161 : bodyB Tryz.prog 161 = true := by kernel_rfl
def balance_count_people_l1 (_n : Nat) (a0 : Tcount) (J0 : Nat × Int → Option (Int ⊕ Int)) : Nat × Int → Option (Int ⊕ Int)
  | (i0, z0) => (if i0 < a0.fRoll.fUnits.length then (a0.fRoll.fUnits[i0]?).bind fun x0 => (if x0.fWater = true then some (.inl z0) else (chk (z0 + x0.fPeople)).bind fun s0 => J0 (i0 + 1, s0)) else some (.inr z0))
def balance_count_people_p (n : Nat) (a0 : Tcount) : Option Int :=
  thn (loopF (balance_count_people_l1 n a0) n (0, 0)) (fun z0 => some z0)
theorem balance_count_people_c (n : Nat) (L : List Nat) (w : World) (hL : ∀ b ∈ L, b < w.heap.size) (a0 : Tcount) {v0_3 : Value} (h0_3 : Rep.R w L [v0_3] a0.fRoll.fUnits)  {r : Int} (h : balance_count_people_p n a0 = some r) :
    Calls Tryz.prog 71 #[.agg #[.int .i64 a0.fRoll.fGroups, .int .i64 a0.fRoll.fParties, .int .i64 a0.fRoll.fLevels, v0_3, .int .i64 a0.fk]] w (Gives w fun _ u => u = .int .i64 r) := by
  unfold balance_count_people_p at h
  have hS0 := St.start w
  refine MX.start Tryz.func71 rfl rfl rfl (fun _ cs0 hb0 => ?_)
  refine MX.sr <| RG.new .plain rfl (Does.box (vs := [.int .i64 a0.fRoll.fGroups, .int .i64 a0.fRoll.fParties, .int .i64 a0.fRoll.fLevels, v0_3, .int .i64 a0.fk]) hS0 rfl rfl) (fun w2 b5 hS3 hT4 => ?_)
  refine RG.new .plain rfl (Does.alloc (zs := [.int .i64 0]) hS3 (zB (by kernel_rfl))) (fun w7 b0 hS8 hT9 => ?_)
  refine RG.nil <| MX.seq <| MX.sr <| RG.vv (FV.loadN (by kernel_rfl) rfl (hS8.memA (.tl .hd))) rfl ?_
  have hm0 := Rep.mv h0_3 (Tr.trans hT4 hT9)
  refine RG.call' (fst := []) (cap := []) .plain body120 rfl (evs_cons rfl evs_nil) (fun w9 hw9 => Calls.gives (balance_count_land_c n _ w9 (hS8.hL hL hw9) a0 (Rep.keep0 hm0 hw9)) fun (w8 : World) (u8 : Value) ⟨b0_, hu_, s_⟩ => (⟨b0_, hu_, s_.from hw9⟩ : ∃ b1 : Nat, u8 = Value.func (.func 161) #[] #[.pointer (some ⟨b1, 0, none⟩)] ∧ St w7 w8 [.cells b1 [.int .i64 a0.fRoll.fGroups, .int .i64 a0.fRoll.fParties, .int .i64 a0.fRoll.fLevels, v0_3, .int .i64 a0.fk] 97])) rfl (fun w0 vu0 hag0 ⟨b1, hu0, s0⟩ => ?_)
  subst hu0
  have hS1 : St w w0 [.cells b1 [.int .i64 a0.fRoll.fGroups, .int .i64 a0.fRoll.fParties, .int .i64 a0.fRoll.fLevels, v0_3, .int .i64 a0.fk] 97, .cells b0 [.int .i64 0] 3, .cells b5 [.int .i64 a0.fRoll.fGroups, .int .i64 a0.fRoll.fParties, .int .i64 a0.fRoll.fLevels, v0_3, .int .i64 a0.fk] 97] := St.merge hS8 s0
  have hT0 : Tr w7 [.cells b0 [.int .i64 0] 3, .cells b5 [.int .i64 a0.fRoll.fGroups, .int .i64 a0.fRoll.fParties, .int .i64 a0.fRoll.fLevels, v0_3, .int .i64 a0.fk] 97] w0 [.cells b1 [.int .i64 a0.fRoll.fGroups, .int .i64 a0.fRoll.fParties, .int .i64 a0.fRoll.fLevels, v0_3, .int .i64 a0.fk] 97, .cells b0 [.int .i64 0] 3, .cells b5 [.int .i64 a0.fRoll.fGroups, .int .i64 a0.fRoll.fParties, .int .i64 a0.fRoll.fLevels, v0_3, .int .i64 a0.fk] 97] := Tr.merge hS8 s0
  refine RG.nil <| MX.block <| MX.rangeP (lb := [.pointer (some ⟨b1, 0, none⟩)]) rfl hS1 rfl body161 Tryz.func161 rfl rfl rfl (fun w1 lk24 D0 r26 cs1 hS2 hT1 rec27 hb1 hp0 => ?_)
  refine MX.sr <| RG.vv (FV.fieldAddr (off := 0) (by kernel_rfl) rfl) rfl <| RG.vv (FV.fieldAddr (off := 3) (by kernel_rfl) rfl) rfl <| RG.vv (FV.load1 (by kernel_rfl) rfl ((mem_from (hS2.memA (.tl (.tl .hd))) 0) 3 _ rfl)) rfl ?_
  have hm1 := Rep.mv h0_3 (Tr.trans hT4 (Tr.trans hT9 (Tr.trans hT0 hT1)))
  have hl33 : a0.fRoll.fUnits.length ≤ 281474976710656 := Rep.lenle hm1
  refine RG.vv (FV.len (xs := a0.fRoll.fUnits) Tryz.underlying42 rfl hm1) rfl <| RG.mv rfl rfl <| RG.nil <| MX.block ?_
  obtain ⟨o0, ho154, hh156⟩ := thn_in h
  refine MX.loop (α := Nat × Int) (fun ⟨i0, z0⟩ => [(0, .func (.yield lk24) #[] #[]), (7, v0_3), (8, .int .i64 ((a0.fRoll.fUnits.length : Nat) : Int)), (9, .int .i64 ((i0 : Nat) : Int))]) (fun ⟨i0, z0⟩ wx0 => St w wx0 [.obj lk24 (lpO r26 .ready none), .obj D0 (.deferred (some [])), .cells b1 [.int .i64 a0.fRoll.fGroups, .int .i64 a0.fRoll.fParties, .int .i64 a0.fRoll.fLevels, v0_3, .int .i64 a0.fk] 97, .cells b0 [.int .i64 z0] 3, .cells b5 [.int .i64 a0.fRoll.fGroups, .int .i64 a0.fRoll.fParties, .int .i64 a0.fRoll.fLevels, v0_3, .int .i64 a0.fk] 97] ∧ Tr w1 [.obj lk24 (lpO r26 .ready none), .obj D0 (.deferred (some [])), .cells b1 [.int .i64 a0.fRoll.fGroups, .int .i64 a0.fRoll.fParties, .int .i64 a0.fRoll.fLevels, v0_3, .int .i64 a0.fk] 97, .cells b0 [.int .i64 0] 3, .cells b5 [.int .i64 a0.fRoll.fGroups, .int .i64 a0.fRoll.fParties, .int .i64 a0.fRoll.fLevels, v0_3, .int .i64 a0.fk] 97] wx0 [.obj lk24 (lpO r26 .ready none), .obj D0 (.deferred (some [])), .cells b1 [.int .i64 a0.fRoll.fGroups, .int .i64 a0.fRoll.fParties, .int .i64 a0.fRoll.fLevels, v0_3, .int .i64 a0.fk] 97, .cells b0 [.int .i64 z0] 3, .cells b5 [.int .i64 a0.fRoll.fGroups, .int .i64 a0.fRoll.fParties, .int .i64 a0.fRoll.fLevels, v0_3, .int .i64 a0.fk] 97]) (fun ⟨i0, z0⟩ => (i0, z0)) (0, 0) ho154 ⟨rfl, rfl, rfl, rfl, trivial⟩ ⟨hS2, Tr.refl _ _⟩ ?_
  rintro J0 ⟨i0, z0⟩ wx0 hJ158 ⟨hS4, hT2⟩ h
  unfold balance_count_people_l1 at h
  try dsimp only at h
  refine MX.sr <| RG.vv (FV.lssN (i := i0) (j := a0.fRoll.fUnits.length) rfl rfl) rfl <| RG.nil <| MX.seq <| MX.ifd rfl h (fun c0 h => ?_) (fun c0 h => ?_)
  ·skip
   refine MX.skip <| MX.seq <| MX.block <| MX.sr <| RG.mv rfl rfl ?_
   obtain ⟨x0, hx0, h⟩ := bind_in h
   have hm2 := Rep.mv h0_3 (Tr.trans hT4 (Tr.trans hT9 (Tr.trans hT0 (Tr.trans hT1 hT2))))
   obtain ⟨A161, c1, he0, hk0, cs2, hr0, hm3⟩ := Rep.nth hm2 hx0
   obtain ⟨v0, v1, v2, rfl, hr1, hr2, hr3⟩ := op_TUnit hr0
   refine RG.vv (FV.idxAddr (m := 6) (i := i0) (by kernel_rfl) rfl he0 rfl rfl hk0) rfl <| RG.vv (FV.loadN (by kernel_rfl) rfl hm3) rfl <| RG.new .plain rfl (Does.alloc (zs := [.string ⟨#[]⟩, .int .i64 0, .slice none 0 0, .slice none 0 0, .slice none 0 0, .bool false]) hS4 (zB (by kernel_rfl))) (fun w3 b2 hS5 hT3 => ?_)
   refine RG.sg rfl rfl ?_
   have hm4 := Rep.mv hr1 hT3
   have hm5 := Rep.mv hr2 hT3
   have hm6 := Rep.mv hr3 hT3
   refine RG.now .plain (Acts.storeAll (news := [.string x0.fName, .int .i64 x0.fPeople, v0, v1, v2, .bool x0.fWater]) hS5 .hd rfl rfl rfl rfl rfl rfl (ones_cons rfl (ones_cons rfl (ones_cons (Rep.o1 hm4) (ones_cons (Rep.o1 hm5) (ones_cons (Rep.o1 hm6) (ones_cons rfl ones_nil))))))) (fun w4 hS6 hT5 => ?_)
   refine RG.nil <| MX.sr <| RG.vv (FV.fieldAddr (off := 5) (by kernel_rfl) rfl) rfl <| RG.vv (FV.load1 (by kernel_rfl) rfl ((hS6.memA .hd) 5 _ rfl)) rfl <| RG.mv rfl rfl <| RG.ifb (s := 16) rfl h (fun c2 h => ?_) (fun c2 h => ?_)
   ·skip
    refine RG.off (.no rfl rfl) rfl <| RG.off (.no rfl rfl) rfl <| RG.off (.no rfl rfl) rfl <| RG.off (.no rfl rfl) rfl <| RG.off (.no rfl rfl) rfl <| RG.vv (FV.pick_t rfl rfl) rfl ?_
    refine RG.nil <| MX.cond_t rfl ?_
    have h := thn_inl h hh156
    refine MX.ret rfl <| RT.leave (u := .tuple #[]) hb1 Tryz.func161 rfl .nil rfl <| MX.endRange0 hS6 (.tl .hd) (by intro h9; cases h9) (fun w5 hS7 hT6 => ?_)
    obtain ⟨hS9, hT7⟩ := St.arrB hS7 (.one .hd (.one (.tl .hd) (.one (.tl .hd) (.one (.tl .hd) (.one (.tl .hd) .done)))))
    refine MX.inBlock <| MX.sr <| RG.vv (FV.load1 (by kernel_rfl) rfl ((hS9.memA (.tl (.tl (.tl .hd)))) 0 _ rfl)) rfl <| RG.now .plain (Acts.storeAll (news := [.int .i64 z0]) hS9 (.tl (.tl (.tl .hd))) rfl rfl rfl rfl rfl rfl (ones_cons rfl ones_nil)) (fun w6 hS10 hT8 => ?_)
    refine RG.nil <| MX.ret rfl <| RT.take hS10 (.tl .hd) (fun w10 hS11 hT10 => ?_)
    obtain ⟨hS12, hT11⟩ := St.arrB hS11 (.one .hd (.one (.tl .hd) (.one (.tl .hd) (.one (.tl .hd) .done))))
    refine RT.leave hb0 Tryz.func71 rfl (.cons (.one (by kernel_rfl) rfl ((hS12.memA (.tl (.tl .hd))) 0 _ rfl)) .nil) rfl ?_
    obtain rfl := Option.some.inj h
    exact ⟨hS12.ag, fun w9 hw9 => rfl⟩
   refine RG.val' (.yes rfl rfl) (FV.move rfl) rfl <| RG.val' (.yes rfl rfl) (FV.move rfl) rfl <| RG.val' (.yes rfl rfl) (FV.loadN (by kernel_rfl) rfl (hS6.memA .hd)) rfl <| RG.yieldP (vs := [.int .i64 ((i0 : Nat) : Int), .agg #[.string x0.fName, .int .i64 x0.fPeople, v0, v1, v2, .bool x0.fWater]]) (.yes rfl rfl) rfl (evs_cons rfl (evs_cons rfl evs_nil)) hS6 (.tl .hd) rec27 rfl rfl rfl (fun cs3 hb2 hp1 => ?_)
   refine MX.region <| RG.new .plain rfl (Does.alloc (zs := [.string ⟨#[]⟩, .int .i64 0, .slice none 0 0, .slice none 0 0, .slice none 0 0, .bool false]) hS6 (zB (by kernel_rfl))) (fun w11 b3 hS13 hT12 => ?_)
   have hm7 := Rep.mv hr1 (Tr.trans hT3 (Tr.trans hT5 hT12))
   have hm8 := Rep.mv hr2 (Tr.trans hT3 (Tr.trans hT5 hT12))
   have hm9 := Rep.mv hr3 (Tr.trans hT3 (Tr.trans hT5 hT12))
   refine RG.now .plain (Acts.storeAll (news := [.string x0.fName, .int .i64 x0.fPeople, v0, v1, v2, .bool x0.fWater]) hS13 .hd rfl rfl rfl rfl rfl rfl (ones_cons rfl (ones_cons rfl (ones_cons (Rep.o1 hm7) (ones_cons (Rep.o1 hm8) (ones_cons (Rep.o1 hm9) (ones_cons rfl ones_nil))))))) (fun w12 hS14 hT13 => ?_)
   refine RG.nil <| MX.begin hS14 (.tl (.tl .hd)) (fun w13 hS15 hT14 => ?_)
   refine MX.block <| MX.region <| RG.vv (FV.load1 (by kernel_rfl) rfl ((hS15.memA (.tl (.tl (.tl (.tl (.tl .hd)))))) 0 _ rfl)) rfl <| RG.vv (FV.fieldAddr (off := 1) (by kernel_rfl) rfl) rfl <| RG.vv (FV.load1 (by kernel_rfl) rfl ((hS15.memA .hd) 1 _ rfl)) rfl ?_
   obtain ⟨s1, hs0, h⟩ := bind_in h
   refine RG.vv (FV.addc (i := z0) (j := x0.fPeople) rfl rfl hs0) rfl <| RG.now .plain (Acts.storeAll (news := [.int .i64 s1]) hS15 (.tl (.tl (.tl (.tl (.tl .hd))))) rfl rfl rfl rfl rfl rfl (ones_cons rfl ones_nil)) (fun w15 hS16 hT15 => ?_)
   refine RG.nil <| MX.inBlock <| MX.roundEnd hb2 hS16 (.tl (.tl .hd)) (fun w16 hS17 hT16 => ?_)
   refine RG.val' (.yes rfl rfl) (FV.not rfl) rfl <| RG.vv (FV.pick_f rfl rfl) rfl <| RG.nil <| MX.cond_f rfl <| MX.skip <| MX.inBlock ?_
   refine MX.region <| RG.vv (FV.addN (i := i0) (j := 1) rfl rfl (by omega)) rfl <| RG.mv rfl rfl <| RG.nil ?_
   obtain ⟨hS18, hT17⟩ := St.arrB hS17 (.one (.tl (.tl .hd)) (.one (.tl (.tl .hd)) (.one (.tl (.tl .hd)) (.one (.tl (.tl .hd)) (.one (.tl (.tl .hd)) .done)))))
   exact hJ158 (i0 + 1, s1) _ _ ⟨rfl, rfl, rfl, rfl, trivial⟩ ⟨hS18, (Tr.trans hT2 (Tr.trans hT3 (Tr.trans hT5 (Tr.trans hT12 (Tr.trans hT13 (Tr.trans hT14 (Tr.trans hT15 (Tr.trans hT16 hT17))))))))⟩ h
  refine MX.exit rfl ?_
  have h := thn_inr h hh156
  try dsimp only at h
  refine MX.fin rfl <| RT.leave (u := .tuple #[]) hb1 Tryz.func161 rfl .nil rfl <| MX.endRange0 hS4 .hd (by intro h9; cases h9) (fun w17 hS20 hT18 => ?_)
  obtain ⟨hS21, hT19⟩ := St.arrB hS20 (.one (.tl .hd) (.one (.tl .hd) (.one (.tl .hd) (.one (.tl .hd) .done))))
  refine MX.inBlock <| MX.sr <| RG.vv (FV.load1 (by kernel_rfl) rfl ((hS21.memA (.tl (.tl .hd))) 0 _ rfl)) rfl <| RG.now .plain (Acts.storeAll (news := [.int .i64 z0]) hS21 (.tl (.tl .hd)) rfl rfl rfl rfl rfl rfl (ones_cons rfl ones_nil)) (fun w18 hS23 hT21 => ?_)
  refine RG.nil <| MX.ret rfl <| RT.take hS23 .hd (fun w19 hS24 hT22 => ?_)
  obtain ⟨hS25, hT24⟩ := St.arrB hS24 (.one (.tl .hd) (.one (.tl .hd) (.one (.tl .hd) .done)))
  refine RT.leave hb0 Tryz.func71 rfl (.cons (.one (by kernel_rfl) rfl ((hS25.memA (.tl .hd)) 0 _ rfl)) .nil) rfl ?_
  obtain rfl := Option.some.inj h
  exact ⟨hS25.ag, fun w9 hw9 => rfl⟩
def balance_must_int_p (_n : Nat) (a0 : Int) (a1 : Int) : Option (Except Tbroken Int) :=
  (if a1 = 0 then some (.ok a0) else some (.error (⟨a1⟩ : Tbroken)))
theorem balance_must_int_c (n : Nat) (L : List Nat) (w : World) (_hL : ∀ b ∈ L, b < w.heap.size) (a0 : Int) (a1 : Int)  {r : Except Tbroken Int} (h : balance_must_int_p n a0 a1 = some r) :
    Calls Tryz.prog 102 #[.int .i64 a0, .int .i64 a1] w (PGives w (fun (y : Int) _ u => u = .int .i64 y) (fun e => .iface 140 (.agg #[.int .i64 e.fErrno])) r) := by
  unfold balance_must_int_p at h
  have hS0 := St.start w
  refine MX.startP Tryz.func102 rfl rfl rfl (fun _ cs0 hb0 hp0 => ?_)
  refine MX.sr <| RG.sg rfl rfl <| RG.nil <| MX.seq <| MX.sr <| RG.mv rfl rfl ?_
  refine RG.vv (FV.neq (i := a1) (j := 0) rfl rfl) rfl <| RG.nil <| MX.ifn rfl h (fun c1 h => ?_) (fun c1 h => ?_)
  ·skip
   refine MX.skip <| MX.sr <| RG.mv rfl rfl <| RG.sg rfl rfl <| RG.nil <| MX.ret rfl ?_
   refine RT.leave hb0 Tryz.func102 rfl (.cons (.tmp rfl) .nil) rfl ?_
   obtain rfl := Option.some.inj h
   exact ⟨hS0.ag, fun w9 hw9 => okOf_in rfl⟩
  refine MX.region <| RG.mv rfl rfl <| RG.vv (FV.buildV (vs := [.int .i64 a1]) (u := .agg #[.int .i64 a1]) (evs_cons rfl evs_nil) (fun w9 => by kernel_rfl)) rfl <| RG.vv (FV.makeInterface (by kernel_rfl) rfl) rfl <| RG.panic .plain rfl ?_
  obtain rfl := Option.some.inj h
  exact PN.leave hp0 Tryz.func102 ⟨hS0.ag, rfl⟩
def share_Sign_1_p (n : Nat) (a0 : TRatio) (_a1 : TRatio) : Option Int :=
  (wide_Long_Side_p n a0.fLong).bind fun y0 => some y0
theorem share_Sign_1_c (n : Nat) (L : List Nat) (w : World) (hL : ∀ b ∈ L, b < w.heap.size) (a0 : TRatio) {v0_1 : Value} (h0_1 : Rep.R w L [v0_1] a0.fLong.fWords) {v0_3 : Value} (h0_3 : Rep.R w L [v0_3] a0.fUnder.fWords) (a1 : TRatio) {v1_1 : Value} (h1_1 : Rep.R w L [v1_1] a1.fLong.fWords) {v1_3 : Value} (h1_3 : Rep.R w L [v1_3] a1.fUnder.fWords)  {r : Int} (h : share_Sign_1_p n a0 a1 = some r) :
    Calls Tryz.prog 143 #[.agg #[.bool a0.fLong.fBelow, v0_1, .bool a0.fUnder.fBelow, v0_3], .agg #[.bool a1.fLong.fBelow, v1_1, .bool a1.fUnder.fBelow, v1_3]] w (Gives w fun _ u => u = .int .i64 r) := by
  unfold share_Sign_1_p at h
  have hS0 := St.start w
  refine MX.start Tryz.func143 rfl rfl rfl (fun _ cs0 hb0 => ?_)
  refine MX.sr <| RG.new .plain rfl (Does.box (vs := [.bool a0.fLong.fBelow, v0_1, .bool a0.fUnder.fBelow, v0_3]) hS0 rfl rfl) (fun w2 b5 hS3 hT4 => ?_)
  refine RG.new .plain rfl (Does.box (vs := [.bool a1.fLong.fBelow, v1_1, .bool a1.fUnder.fBelow, v1_3]) hS3 rfl rfl) (fun w7 b0 hS8 hT9 => ?_)
  refine RG.sg rfl rfl <| RG.nil <| MX.sr <| RG.vv (FV.fieldAddr (off := 0) (by kernel_rfl) rfl) rfl <| RG.vv (FV.loadN (cs := [.bool a0.fLong.fBelow, v0_1]) (by kernel_rfl) rfl (mem_part (hS8.memA (.tl .hd)) 0 2)) rfl ?_
  obtain ⟨y0, hy0, h⟩ := bind_in h
  have hm0 := Rep.mv h0_1 (Tr.trans hT4 hT9)
  refine RG.cq (.int .i64 y0) body144 rfl (evs_cons rfl evs_nil) (fun w9 hw9 => wide_Long_Side_c n _ w9 (hS8.hL0 hL hw9) a0.fLong (Rep.keep0 (Rep.dropS hS8 hm0) hw9) hy0) rfl <| RG.sg rfl rfl <| RG.nil <| MX.ret rfl <| RT.leave hb0 Tryz.func143 rfl (.cons (.tmp rfl) .nil) rfl ?_
  obtain rfl := Option.some.inj h
  exact ⟨hS8.ag, fun w9 hw9 => rfl⟩
def tb138_4 : List (Nat × Nat × Nat) := [(0, 32768, 4), (0, 65536, 8), (2, 131072, 65536), (0, 262144, 16), (12, 524288, 262144), (21, 1048576, 688128), (63, 64, 1048576), (127, 128, 0)]
theorem body138 : bodyB Tryz.prog 138 = true := by kernel_rfl
theorem body143 : bodyB Tryz.prog 143 = true := by kernel_rfl
def share_Sign_p (n : Nat) (a0 : TShare) : Option (Int × Int) :=
  (share_valid_p n ([a0, a0] : List TShare)).bind fun y0 => (if y0 = true then (share_Read_p n a0).bind fun y1 => (share_Read_p n a0).bind fun y2 => (share_Sign_1_p n y1 y2).bind fun y3 => some (y3, (0 : Int)) else some ((0 : Int), (20 : Int)))
theorem share_Sign_c (n : Nat) (L : List Nat) (w : World) (hL : ∀ b ∈ L, b < w.heap.size) (a0 : TShare)  {r : Int × Int} (h : share_Sign_p n a0 = some r) :
    Calls Tryz.prog 103 #[.agg ((cs_TShare a0)).toArray] w (Gives w fun _ u => u = .tuple #[.int .i64 r.1, .int .i64 r.2]) := by
  unfold share_Sign_p at h
  have hS0 := St.start w
  refine MX.start Tryz.func103 rfl rfl rfl (fun _ cs0 hb0 => ?_)
  refine MX.sr <| RG.new .plain rfl (Does.box (vs := (cs_TShare a0)) hS0 rfl rfl) (fun w2 b5 hS3 hT4 => ?_)
  refine RG.sg rfl rfl <| RG.sg rfl rfl <| RG.nil <| MX.sr <| RG.vv (FV.loadN (by kernel_rfl) rfl (hS3.memA .hd)) rfl <| RG.vv (FV.loadN (by kernel_rfl) rfl (hS3.memA .hd)) rfl ?_
  refine RG.enterP (fst := []) (cap := []) (vs := [.agg ((cs_TShare a0)).toArray, .agg ((cs_TShare a0)).toArray, .func (.func 143) #[] #[]]) .plain body138 Tryz.func138 rfl rfl rfl rfl (evs_cons rfl (evs_cons rfl (evs_cons rfl evs_nil))) rfl (fun cs7 hb6 hp8 => ?_)
  refine MX.sr <| RG.new .plain rfl (Does.box (vs := (cs_TShare a0)) hS3 rfl rfl) (fun w0 b0 hS1 hT0 => ?_)
  refine RG.new .plain rfl (Does.box (vs := (cs_TShare a0)) hS1 rfl rfl) (fun w1 b1 hS2 hT1 => ?_)
  refine RG.sg rfl rfl <| RG.sg rfl rfl <| RG.nil <| MX.seq <| MX.sr <| RG.vv (FV.loadN (by kernel_rfl) rfl (hS2.memA (.tl .hd))) rfl ?_
  refine RG.vv (FV.loadN (by kernel_rfl) rfl (hS2.memA .hd)) rfl <| RG.new .plain rfl (Does.build (α := TShare) (xs := ([a0, a0] : List TShare)) (vs := [.agg ((cs_TShare a0)).toArray, .agg ((cs_TShare a0)).toArray]) (ds' := (cs_TShare a0 ++ cs_TShare a0)) rfl hS2 el68 rfl (evs_cons rfl (evs_cons rfl evs_nil)) (by kernel_rfl) rfl) (fun w3 b2 hS4 hT2 => ?_)
  have hc0 := Cells.at_ (cs := (cs_TShare a0 ++ cs_TShare a0)) (xs := (([a0, a0] : List TShare) : List TShare)) hS4 L (Cells.cons (cs := (cs_TShare a0)) (ds := (cs_TShare a0)) (mk_TShare a0.fN a0.fD) (Cells.cons (cs := (cs_TShare a0)) (ds := []) (mk_TShare a0.fN a0.fD) (Cells.nil _ _)))
  obtain ⟨y0, hy0, h⟩ := bind_in h
  refine RG.cq (.bool y0) body125 rfl (evs_cons rfl evs_nil) (fun w9 hw9 => share_valid_c n _ w9 (hS4.hL0 hL hw9) ([a0, a0] : List TShare) (Rep.keep0 (St.lend (α := TShare) (L := L) hS4 .hd hc0 hL) hw9) hy0) rfl <| RG.vv (FV.not rfl) rfl <| RG.nil <| MX.ifnb rfl h (fun c0 h => ?_) (fun c0 h => ?_)
  ·skip
   refine MX.skip <| MX.seq <| MX.drawT 8 tb138_4 (by kernel_rfl) (by kernel_rfl) (by kernel_rfl) (fun kt0 kp0 => ?_)
   refine RD.vw 0 1 kt0 rfl kp0 (fun _ => FV.move rfl) rfl <| RD.vx 1 3 244 kt0 rfl kp0 (FV.loadN (by kernel_rfl) rfl (hS4.memA (.tl (.tl .hd)))) rfl <| RD.vx 3 11 240 kt0 rfl kp0 (FV.loadN (by kernel_rfl) rfl (hS4.memA (.tl .hd))) rfl ?_
   obtain ⟨y1, hy1, h⟩ := bind_in h
   refine RD.cl 2 15 kt0 rfl .plain body130 rfl (evs_cons rfl evs_nil) (fun w9 hw9 => share_Read_c n _ w9 (hS4.hL hL hw9) a0 hy1) rfl (fun w4 vu0 hag0 ⟨v0, v1, hu_, hr0, hr1⟩ => ?_)
   subst hu_
   obtain ⟨hS5, hT3⟩ := hS4.agr hag0
   obtain ⟨y2, hy2, h⟩ := bind_in h
   refine RD.cl 4 31 kt0 rfl .plain body130 rfl (evs_cons rfl evs_nil) (fun w9 hw9 => share_Read_c n _ w9 (hS5.hL hL hw9) a0 hy2) rfl (fun w5 vu1 hag1 ⟨v2, v3, hu_, hr2, hr3⟩ => ?_)
   subst hu_
   obtain ⟨hS6, hT5⟩ := hS5.agr hag1
   obtain ⟨y3, hy3, h⟩ := bind_in h
   have hm0 := Rep.mv hr0 hT5
   have hm1 := Rep.mv hr1 hT5
   refine RD.cq 5 63 192 (.int .i64 y3) kt0 rfl kp0 body143 rfl (evs_cons rfl (evs_cons rfl evs_nil)) (fun w9 hw9 => share_Sign_1_c n _ w9 (hS6.hL0 hL hw9) y1 (Rep.keep0 (Rep.dropS hS6 hm0) hw9) (Rep.keep0 (Rep.dropS hS6 hm1) hw9) y2 (Rep.keep0 (Rep.dropS hS6 hr2) hw9) (Rep.keep0 (Rep.dropS hS6 hr3) hw9) hy3) rfl <| RD.vw 6 127 kt0 rfl kp0 (fun _ => FV.assign rfl) rfl <| RD.vw 7 255 kt0 rfl kp0 (fun _ => FV.assign rfl) rfl <| RD.done (doneD_ok kt0 (by kernel_rfl)) <| MX.ret rfl <| RT.leave (u := .tuple #[.int .i64 y3, .int .i64 0]) hb6 Tryz.func138 rfl (.cons (.tmp rfl) (.cons (.tmp rfl) .nil)) rfl ?_
   refine RG.vv (FV.extract rfl rfl) rfl <| RG.vv (FV.extract rfl rfl) rfl <| RG.sg rfl rfl <| RG.sg rfl rfl <| RG.nil <| MX.ret rfl ?_
   refine RT.leave hb0 Tryz.func103 rfl (.cons (.tmp rfl) (.cons (.tmp rfl) .nil)) rfl ?_
   obtain rfl := Option.some.inj h
   exact ⟨hS6.ag, fun w9 hw9 => rfl⟩
  refine MX.sr <| RG.sg rfl rfl <| RG.nil <| MX.sr <| RG.mv rfl rfl <| RG.sg rfl rfl ?_
  refine RG.sg rfl rfl <| RG.nil <| MX.ret rfl <| RT.leave (u := .tuple #[.int .i64 0, .int .i64 20]) hb6 Tryz.func138 rfl (.cons (.tmp rfl) (.cons (.tmp rfl) .nil)) rfl <| RG.vv (FV.extract rfl rfl) rfl <| RG.vv (FV.extract rfl rfl) rfl ?_
  refine RG.sg rfl rfl <| RG.sg rfl rfl <| RG.nil <| MX.ret rfl <| RT.leave hb0 Tryz.func103 rfl (.cons (.tmp rfl) (.cons (.tmp rfl) .nil)) rfl ?_
  obtain rfl := Option.some.inj h
  exact ⟨hS4.ag, fun w9 hw9 => rfl⟩
def tb82_1 : List (Nat × Nat × Nat) := [(0, 32, 4), (1, 64, 32), (0, 128, 8), (4, 256, 128), (10, 512, 320), (0, 1024, 4), (32, 2048, 1024), (0, 4096, 8), (128, 8192, 4096), (336, 16384, 10240), (528, 32768, 16896), (2047, 0, 32784)]
def share_Ratio_Times_p (n : Nat) (a0 : TRatio) (a1 : TRatio) : Option TRatio :=
  (wide_Long_Times_p n a0.fLong a1.fLong).bind fun y0 => (wide_Long_Times_p n a0.fUnder a1.fUnder).bind fun y1 => (share_Lowest_p n y0 y1).bind fun y2 => some y2
theorem share_Ratio_Times_c (n : Nat) (L : List Nat) (w : World) (hL : ∀ b ∈ L, b < w.heap.size) (a0 : TRatio) {v0_1 : Value} (h0_1 : Rep.R w L [v0_1] a0.fLong.fWords) {v0_3 : Value} (h0_3 : Rep.R w L [v0_3] a0.fUnder.fWords) (a1 : TRatio) {v1_1 : Value} (h1_1 : Rep.R w L [v1_1] a1.fLong.fWords) {v1_3 : Value} (h1_3 : Rep.R w L [v1_3] a1.fUnder.fWords)  {r : TRatio} (h : share_Ratio_Times_p n a0 a1 = some r) :
    Calls Tryz.prog 82 #[.agg #[.bool a0.fLong.fBelow, v0_1, .bool a0.fUnder.fBelow, v0_3], .agg #[.bool a1.fLong.fBelow, v1_1, .bool a1.fUnder.fBelow, v1_3]] w (Gives w fun w' u => ∃ v0_1 v0_3 : Value, u = .agg #[.bool r.fLong.fBelow, v0_1, .bool r.fUnder.fBelow, v0_3] ∧ Rep.R w' L [v0_1] r.fLong.fWords ∧ Rep.R w' L [v0_3] r.fUnder.fWords) := by
  unfold share_Ratio_Times_p at h
  have hS0 := St.start w
  refine MX.start Tryz.func82 rfl rfl rfl (fun _ cs0 hb0 => ?_)
  refine MX.sr <| RG.new .plain rfl (Does.box (vs := [.bool a0.fLong.fBelow, v0_1, .bool a0.fUnder.fBelow, v0_3]) hS0 rfl rfl) (fun w2 b5 hS3 hT4 => ?_)
  refine RG.new .plain rfl (Does.box (vs := [.bool a1.fLong.fBelow, v1_1, .bool a1.fUnder.fBelow, v1_3]) hS3 rfl rfl) (fun w7 b0 hS8 hT9 => ?_)
  refine RG.new .plain rfl (Does.alloc (zs := [.bool false, .slice none 0 0, .bool false, .slice none 0 0]) hS8 (zB (by kernel_rfl))) (fun w0 b1 hS1 hT0 => ?_)
  refine RG.nil <| MX.seq <| MX.drawT 11 tb82_1 (by kernel_rfl) (by kernel_rfl) (by kernel_rfl) (fun kt0 kp0 => ?_)
  refine RD.vw 0 1 kt0 rfl kp0 (fun _ => FV.fieldAddr (off := 0) (by kernel_rfl) rfl) rfl <| RD.vx 1 3 3600 kt0 rfl kp0 (FV.loadN (cs := [.bool a0.fLong.fBelow, v0_1]) (by kernel_rfl) rfl (mem_part (hS1.memA (.tl (.tl .hd))) 0 2)) rfl <| RD.vw 2 7 kt0 rfl kp0 (fun _ => FV.fieldAddr (off := 0) (by kernel_rfl) rfl) rfl <| RD.vx 3 15 3600 kt0 rfl kp0 (FV.loadN (cs := [.bool a1.fLong.fBelow, v1_1]) (by kernel_rfl) rfl (mem_part (hS1.memA (.tl .hd)) 0 2)) rfl <| RD.vw 5 47 kt0 rfl kp0 (fun _ => FV.fieldAddr (off := 2) (by kernel_rfl) rfl) rfl <| RD.vx 6 111 3584 kt0 rfl kp0 (FV.loadN (cs := [.bool a0.fUnder.fBelow, v0_3]) (by kernel_rfl) rfl (mem_part (hS1.memA (.tl (.tl .hd))) 2 2)) rfl ?_
  refine RD.vw 7 239 kt0 rfl kp0 (fun _ => FV.fieldAddr (off := 2) (by kernel_rfl) rfl) rfl <| RD.vx 8 495 3584 kt0 rfl kp0 (FV.loadN (cs := [.bool a1.fUnder.fBelow, v1_3]) (by kernel_rfl) rfl (mem_part (hS1.memA (.tl .hd)) 2 2)) rfl ?_
  obtain ⟨y0, hy0, h⟩ := bind_in h
  have hm0 := Rep.mv h0_1 (Tr.trans hT4 (Tr.trans hT9 hT0))
  have hm1 := Rep.mv h1_1 (Tr.trans hT4 (Tr.trans hT9 hT0))
  refine RD.cl 4 511 kt0 rfl .plain body132 rfl (evs_cons rfl (evs_cons rfl evs_nil)) (fun w9 hw9 => wide_Long_Times_c n _ w9 (hS1.hL hL hw9) a0.fLong (Rep.keep0 hm0 hw9) a1.fLong (Rep.keep0 hm1 hw9) hy0) rfl (fun w1 vu0 hag0 ⟨v0, hu_, hr0⟩ => ?_)
  subst hu_
  obtain ⟨hS2, hT1⟩ := hS1.agr hag0
  obtain ⟨y1, hy1, h⟩ := bind_in h
  have hm2 := Rep.mv h0_3 (Tr.trans hT4 (Tr.trans hT9 (Tr.trans hT0 hT1)))
  have hm3 := Rep.mv h1_3 (Tr.trans hT4 (Tr.trans hT9 (Tr.trans hT0 hT1)))
  refine RD.cl 9 1023 kt0 rfl .plain body132 rfl (evs_cons rfl (evs_cons rfl evs_nil)) (fun w9 hw9 => wide_Long_Times_c n _ w9 (hS2.hL hL hw9) a0.fUnder (Rep.keep0 hm2 hw9) a1.fUnder (Rep.keep0 hm3 hw9) hy1) rfl (fun w3 vu1 hag1 ⟨v1, hu_, hr1⟩ => ?_)
  subst hu_
  obtain ⟨hS4, hT2⟩ := hS2.agr hag1
  obtain ⟨y2, hy2, h⟩ := bind_in h
  have hm4 := Rep.mv hr0 hT2
  refine RD.cl 10 2047 kt0 rfl .plain body131 rfl (evs_cons rfl (evs_cons rfl evs_nil)) (fun w9 hw9 => share_Lowest_c n _ w9 (hS4.hL hL hw9) y0 (Rep.keep0 hm4 hw9) y1 (Rep.keep0 hr1 hw9) hy2) rfl (fun w4 vu2 hag2 ⟨v2, v3, hu_, hr2, hr3⟩ => ?_)
  subst hu_
  obtain ⟨hS5, hT3⟩ := hS4.agr hag2
  refine RD.nw 11 4095 kt0 rfl rfl .plain (Acts.storeAll (news := [.bool y2.fLong.fBelow, v2, .bool y2.fUnder.fBelow, v3]) hS5 .hd rfl rfl rfl rfl rfl rfl (ones_cons rfl (ones_cons (Rep.o1 hr2) (ones_cons rfl (ones_cons (Rep.o1 hr3) ones_nil))))) (fun w5 hS6 hT5 => ?_)
  refine RD.done (doneD_ok kt0 (by kernel_rfl)) <| MX.ret rfl <| RT.leave hb0 Tryz.func82 rfl (.cons (.many (cs := [.bool y2.fLong.fBelow, v2, .bool y2.fUnder.fBelow, v3]) (by kernel_rfl) rfl (hS6.memA .hd)) .nil) rfl ?_
  obtain rfl := Option.some.inj h
  have hm5 := Rep.mv hr2 hT5
  have hm6 := Rep.mv hr3 hT5
  exact ⟨hS6.ag, fun w9 hw9 => ⟨v2, v3, rfl, Rep.keep0 (Rep.dropS hS6 hm5) hw9, Rep.keep0 (Rep.dropS hS6 hm6) hw9⟩⟩
theorem body82 : bodyB Tryz.prog 82 = true := by kernel_rfl
def share_Mul_p (n : Nat) (a0 : TShare) (a1 : TShare) : Option (TShare × Int) :=
  (share_valid_p n ([a0, a1] : List TShare)).bind fun y0 => (if y0 = true then (share_Read_p n a0).bind fun y1 => (share_Read_p n a1).bind fun y2 => (share_Ratio_Times_p n y1 y2).bind fun y3 => (share_told_p n y3 (0 : Int)).bind fun y4 => some (y4.1, y4.2) else (share_told_p n (⟨(⟨false, ([] : List UInt64)⟩ : TLong), (⟨false, ([] : List UInt64)⟩ : TLong)⟩ : TRatio) (20 : Int)).bind fun y5 => some (y5.1, y5.2))
theorem share_Mul_c (n : Nat) (L : List Nat) (w : World) (hL : ∀ b ∈ L, b < w.heap.size) (a0 : TShare) (a1 : TShare)  {r : TShare × Int} (h : share_Mul_p n a0 a1 = some r) :
    Calls Tryz.prog 25 #[.agg ((cs_TShare a0)).toArray, .agg ((cs_TShare a1)).toArray] w (Gives w fun _ u => u = .tuple #[.agg ((cs_TShare r.1)).toArray, .int .i64 r.2]) := by
  unfold share_Mul_p at h
  have hS0 := St.start w
  refine MX.start Tryz.func25 rfl rfl rfl (fun _ cs0 hb0 => ?_)
  refine MX.sr <| RG.new .plain rfl (Does.box (vs := (cs_TShare a0)) hS0 rfl rfl) (fun w2 b5 hS3 hT4 => ?_)
  refine RG.new .plain rfl (Does.box (vs := (cs_TShare a1)) hS3 rfl rfl) (fun w7 b0 hS8 hT9 => ?_)
  refine RG.new .plain rfl (Does.alloc (zs := [.int .u64 0, .int .u64 0, .int .u64 0, .int .u64 0, .int .u64 0, .int .u64 0, .int .u64 0, .int .u64 0, .int .u64 0, .int .u64 0, .int .u64 0, .int .u64 0, .int .u64 0, .int .u64 0, .int .u64 0, .int .u64 0]) hS8 (zB (by kernel_rfl))) (fun w0 b1 hS1 hT0 => ?_)
  refine RG.sg rfl rfl <| RG.nil <| MX.sr <| RG.vv (FV.loadN (by kernel_rfl) rfl (hS1.memA (.tl (.tl .hd)))) rfl <| RG.vv (FV.loadN (by kernel_rfl) rfl (hS1.memA (.tl .hd))) rfl <| RG.enterP (fst := []) (cap := []) (vs := [.agg ((cs_TShare a0)).toArray, .agg ((cs_TShare a1)).toArray, .func (.func 82) #[] #[]]) .plain body80 Tryz.func80 rfl rfl rfl rfl (evs_cons rfl (evs_cons rfl (evs_cons rfl evs_nil))) rfl (fun cs1 hb1 hp0 => ?_)
  refine MX.sr <| RG.new .plain rfl (Does.box (vs := (cs_TShare a0)) hS1 rfl rfl) (fun w1 b2 hS2 hT1 => ?_)
  refine RG.new .plain rfl (Does.box (vs := (cs_TShare a1)) hS2 rfl rfl) (fun w3 b3 hS4 hT2 => ?_)
  refine RG.new .plain rfl (Does.alloc (zs := [.bool false, .slice none 0 0, .bool false, .slice none 0 0]) hS4 (zB (by kernel_rfl))) (fun w4 b4 hS5 hT3 => ?_)
  refine RG.sg rfl rfl <| RG.nil <| MX.seq <| MX.sr <| RG.vv (FV.loadN (by kernel_rfl) rfl (hS5.memA (.tl (.tl .hd)))) rfl <| RG.vv (FV.loadN (by kernel_rfl) rfl (hS5.memA (.tl .hd))) rfl ?_
  refine RG.new .plain rfl (Does.build (α := TShare) (xs := ([a0, a1] : List TShare)) (vs := [.agg ((cs_TShare a0)).toArray, .agg ((cs_TShare a1)).toArray]) (ds' := (cs_TShare a0 ++ cs_TShare a1)) rfl hS5 el68 rfl (evs_cons rfl (evs_cons rfl evs_nil)) (by kernel_rfl) rfl) (fun w5 b6 hS6 hT5 => ?_)
  have hc0 := Cells.at_ (cs := (cs_TShare a0 ++ cs_TShare a1)) (xs := (([a0, a1] : List TShare) : List TShare)) hS6 L (Cells.cons (cs := (cs_TShare a0)) (ds := (cs_TShare a1)) (mk_TShare a0.fN a0.fD) (Cells.cons (cs := (cs_TShare a1)) (ds := []) (mk_TShare a1.fN a1.fD) (Cells.nil _ _)))
  obtain ⟨y0, hy0, h⟩ := bind_in h
  refine RG.cq (.bool y0) body125 rfl (evs_cons rfl evs_nil) (fun w9 hw9 => share_valid_c n _ w9 (hS6.hL0 hL hw9) ([a0, a1] : List TShare) (Rep.keep0 (St.lend (α := TShare) (L := L) hS6 .hd hc0 hL) hw9) hy0) rfl <| RG.vv (FV.not rfl) rfl <| RG.nil <| MX.ifnb rfl h (fun c0 h => ?_) (fun c0 h => ?_)
  ·skip
   refine MX.skip <| MX.seq <| MX.drawT 6 tb80_4 (by kernel_rfl) (by kernel_rfl) (by kernel_rfl) (fun kt0 kp0 => ?_)
   refine RD.vw 0 1 kt0 rfl kp0 (fun _ => FV.move rfl) rfl <| RD.vx 1 3 244 kt0 rfl kp0 (FV.loadN (by kernel_rfl) rfl (hS6.memA (.tl (.tl (.tl .hd))))) rfl <| RD.vx 3 11 240 kt0 rfl kp0 (FV.loadN (by kernel_rfl) rfl (hS6.memA (.tl (.tl .hd)))) rfl ?_
   obtain ⟨y1, hy1, h⟩ := bind_in h
   refine RD.cl 2 15 kt0 rfl .plain body130 rfl (evs_cons rfl evs_nil) (fun w9 hw9 => share_Read_c n _ w9 (hS6.hL hL hw9) a0 hy1) rfl (fun w6 vu0 hag0 ⟨v0, v1, hu_, hr0, hr1⟩ => ?_)
   subst hu_
   obtain ⟨hS7, hT6⟩ := hS6.agr hag0
   obtain ⟨y2, hy2, h⟩ := bind_in h
   refine RD.cl 4 31 kt0 rfl .plain body130 rfl (evs_cons rfl evs_nil) (fun w9 hw9 => share_Read_c n _ w9 (hS7.hL hL hw9) a1 hy2) rfl (fun w8 vu1 hag1 ⟨v2, v3, hu_, hr2, hr3⟩ => ?_)
   subst hu_
   obtain ⟨hS9, hT7⟩ := hS7.agr hag1
   obtain ⟨y3, hy3, h⟩ := bind_in h
   have hm0 := Rep.mv hr0 hT7
   have hm1 := Rep.mv hr1 hT7
   refine RD.cl 5 63 kt0 rfl .plain body82 rfl (evs_cons rfl (evs_cons rfl evs_nil)) (fun w9 hw9 => share_Ratio_Times_c n _ w9 (hS9.hL hL hw9) y1 (Rep.keep0 hm0 hw9) (Rep.keep0 hm1 hw9) y2 (Rep.keep0 hr2 hw9) (Rep.keep0 hr3 hw9) hy3) rfl (fun w67 vu2 hag2 ⟨v4, v5, hu_, hr4, hr5⟩ => ?_)
   subst hu_
   obtain ⟨hS70, hT8⟩ := hS9.agr hag2
   refine RD.nw 6 127 kt0 rfl rfl .plain (Acts.storeAll (news := [.bool y3.fLong.fBelow, v4, .bool y3.fUnder.fBelow, v5]) hS70 (.tl .hd) rfl rfl rfl rfl rfl rfl (ones_cons rfl (ones_cons (Rep.o1 hr4) (ones_cons rfl (ones_cons (Rep.o1 hr5) ones_nil))))) (fun w76 hS77 hT78 => ?_)
   refine RD.one (i := 7) (readyD_ok kt0 (by kernel_rfl)) (RO.val (m' := 255) (stepC_ok kt0 (by kernel_rfl)) rfl .plain rfl (FV.assign rfl) ?_)
   refine RD.done (doneD_ok kt0 (by kernel_rfl)) <| MX.ret rfl <| RT.leave (u := .tuple #[.agg #[.bool y3.fLong.fBelow, v4, .bool y3.fUnder.fBelow, v5], .int .i64 0]) hb1 Tryz.func80 rfl (.cons (.many (cs := [.bool y3.fLong.fBelow, v4, .bool y3.fUnder.fBelow, v5]) (by kernel_rfl) rfl (hS77.memA (.tl .hd))) (.cons (.tmp rfl) .nil)) rfl <| RG.vv (FV.extract rfl rfl) rfl <| RG.vv (FV.extract rfl rfl) rfl ?_
   obtain ⟨y4, hy4, h⟩ := bind_in h
   have hm2 := Rep.mv hr4 hT78
   have hm3 := Rep.mv hr5 hT78
   refine RG.cq (.tuple #[.agg ((cs_TShare y4.1)).toArray, .int .i64 y4.2]) body79 rfl (evs_cons rfl (evs_cons rfl evs_nil)) (fun w9 hw9 => share_told_c n _ w9 (hS77.hL0 hL hw9) y3 (Rep.keep0 (Rep.dropS hS77 hm2) hw9) (Rep.keep0 (Rep.dropS hS77 hm3) hw9) (0 : Int) hy4) rfl <| RG.vv (FV.extract rfl rfl) rfl <| RG.vv (FV.extract rfl rfl) rfl <| RG.now .plain (Acts.storeAll (news := (cs_TShare y4.1)) hS77 (.tl (.tl (.tl (.tl .hd)))) rfl rfl rfl rfl rfl rfl (onesB rfl)) (fun w82 hS83 hT84 => ?_)
   refine RG.sg rfl rfl <| RG.nil <| MX.ret rfl <| RT.leave hb0 Tryz.func25 rfl (.cons (.many (cs := (cs_TShare y4.1)) (by kernel_rfl) rfl (hS83.memA (.tl (.tl (.tl (.tl .hd)))))) (.cons (.tmp rfl) .nil)) rfl ?_
   obtain rfl := Option.some.inj h
   exact ⟨hS83.ag, fun w9 hw9 => rfl⟩
  refine MX.sr <| RG.new .plain rfl (Does.alloc (zs := [.bool false, .slice none 0 0, .bool false, .slice none 0 0]) hS6 (zB (by kernel_rfl))) (fun w86 b7 hS87 hT88 => ?_)
  refine RG.nil <| MX.sr <| RG.vv (FV.loadN (by kernel_rfl) rfl (hS87.memA .hd)) rfl <| RG.now .plain (Acts.storeAll (news := [.bool false, .slice none 0 0, .bool false, .slice none 0 0]) hS87 (.tl (.tl .hd)) rfl rfl rfl rfl rfl rfl (onesB rfl)) (fun w90 hS91 hT92 => ?_)
  refine RG.sg rfl rfl <| RG.nil <| MX.ret rfl <| RT.leave (u := .tuple #[.agg #[.bool false, .slice none 0 0, .bool false, .slice none 0 0], .int .i64 20]) hb1 Tryz.func80 rfl (.cons (.many (cs := [.bool false, .slice none 0 0, .bool false, .slice none 0 0]) (by kernel_rfl) rfl (hS91.memA (.tl (.tl .hd)))) (.cons (.tmp rfl) .nil)) rfl <| RG.vv (FV.extract rfl rfl) rfl <| RG.vv (FV.extract rfl rfl) rfl ?_
  obtain ⟨y5, hy5, h⟩ := bind_in h
  refine RG.cq (.tuple #[.agg ((cs_TShare y5.1)).toArray, .int .i64 y5.2]) body79 rfl (evs_cons rfl (evs_cons rfl evs_nil)) (fun w9 hw9 => share_told_c n _ w9 (hS91.hL0 hL hw9) (⟨(⟨false, ([] : List UInt64)⟩ : TLong), (⟨false, ([] : List UInt64)⟩ : TLong)⟩ : TRatio) (Rep.keep0 (Rep.nilSlice _ _) hw9) (Rep.keep0 (Rep.nilSlice _ _) hw9) (20 : Int) hy5) rfl <| RG.vv (FV.extract rfl rfl) rfl <| RG.vv (FV.extract rfl rfl) rfl <| RG.now .plain (Acts.storeAll (news := (cs_TShare y5.1)) hS91 (.tl (.tl (.tl (.tl (.tl .hd))))) rfl rfl rfl rfl rfl rfl (onesB rfl)) (fun w94 hS95 hT96 => ?_)
  refine RG.sg rfl rfl <| RG.nil <| MX.ret rfl <| RT.leave hb0 Tryz.func25 rfl (.cons (.many (cs := (cs_TShare y5.1)) (by kernel_rfl) rfl (hS95.memA (.tl (.tl (.tl (.tl (.tl .hd))))))) (.cons (.tmp rfl) .nil)) rfl ?_
  obtain rfl := Option.some.inj h
  exact ⟨hS95.ag, fun w9 hw9 => rfl⟩
def tb105_2 : List (Nat × Nat × Nat) := [(0, 256, 16), (1, 512, 256), (0, 1024, 2), (6, 2048, 1536)]
def wide_Int_p (n : Nat) (a0 : UInt64 × UInt64 × UInt64 × UInt64 × UInt64 × UInt64 × UInt64 × UInt64) : Option (Int × Int) :=
  (wide_Of_p n (i64of a0.1)).bind fun y8 => (if y8 = a0 then some (i64of a0.1, (0 : Int)) else some ((0 : Int), (6 : Int)))
theorem wide_Int_c (n : Nat) (L : List Nat) (w : World) (hL : ∀ b ∈ L, b < w.heap.size) (a0 : UInt64 × UInt64 × UInt64 × UInt64 × UInt64 × UInt64 × UInt64 × UInt64)  {r : Int × Int} (h : wide_Int_p n a0 = some r) :
    Calls Tryz.prog 105 #[.agg ((cs_A34 a0)).toArray] w (Gives w fun _ u => u = .tuple #[.int .i64 r.1, .int .i64 r.2]) := by
  unfold wide_Int_p at h
  have hS0 := St.start w
  refine MX.start Tryz.func105 rfl rfl rfl (fun _ cs0 hb0 => ?_)
  refine MX.sr <| RG.new .plain rfl (Does.box (vs := (cs_A34 a0)) hS0 rfl rfl) (fun w2 b5 hS3 hT4 => ?_)
  refine RG.sg rfl rfl <| RG.sg rfl rfl <| RG.nil <| MX.sr <| RG.vv (FV.indexArr (m := 1) (k := 0) (len := 8) (by kernel_rfl) rfl rfl rfl (by omega)) rfl <| RG.vv (FV.load1 (by kernel_rfl) rfl ((hS3.memA .hd) 0 _ rfl)) rfl ?_
  refine RG.vv (FV.convUI (a := a0.1) Tryz.underlying33 Tryz.underlying3 rfl) rfl <| RG.sg rfl rfl <| RG.nil <| MX.seq <| MX.seq <| MX.drawT 4 tb105_2 (by kernel_rfl) (by kernel_rfl) (by kernel_rfl) (fun kt6 kp7 => ?_)
  refine RD.vw 0 1 kt6 rfl kp7 (fun _ => FV.move rfl) rfl ?_
  obtain ⟨y8, hy8, h⟩ := bind_in h
  refine RD.cq 1 3 8 (.agg ((cs_A34 y8)).toArray) kt6 rfl kp7 body128 rfl (evs_cons rfl evs_nil) (fun w9 hw9 => wide_Of_c n _ w9 (hS3.hL0 hL hw9) (i64of a0.1) hy8) rfl <| RD.vx 2 7 8 kt6 rfl kp7 (FV.loadN (by kernel_rfl) rfl (hS3.memA .hd)) rfl <| RD.vw 3 15 kt6 rfl kp7 (fun _ => FV.neqV (xs := ((cs_A34 y8)).toArray) (ys := ((cs_A34 a0)).toArray) rfl rfl (by kernel_rfl) (eqlD_35 y8 a0)) rfl <| RD.done (doneD_ok kt6 (by kernel_rfl)) <| MX.ifn rfl h (fun c9 h => ?_) (fun c9 h => ?_)
  ·skip
   refine MX.skip <| MX.sr <| RG.mv rfl rfl <| RG.sg rfl rfl <| RG.sg rfl rfl <| RG.nil ?_
   refine MX.ret rfl <| RT.leave hb0 Tryz.func105 rfl (.cons (.tmp rfl) (.cons (.tmp rfl) .nil)) rfl ?_
   obtain rfl := Option.some.inj h
   exact ⟨hS3.ag, fun w9 hw9 => rfl⟩
  refine MX.sr <| RG.sg rfl rfl <| RG.sg rfl rfl <| RG.nil <| MX.ret rfl <| RT.leave hb0 Tryz.func105 rfl (.cons (.tmp rfl) (.cons (.tmp rfl) .nil)) rfl ?_
  obtain rfl := Option.some.inj h
  exact ⟨hS3.ag, fun w9 hw9 => rfl⟩
def balance_must_api_Wide_p (_n : Nat) (a0 : UInt64 × UInt64 × UInt64 × UInt64 × UInt64 × UInt64 × UInt64 × UInt64) (a1 : Int) : Option (Except Tbroken (UInt64 × UInt64 × UInt64 × UInt64 × UInt64 × UInt64 × UInt64 × UInt64)) :=
  (if a1 = 0 then some (.ok a0) else some (.error (⟨a1⟩ : Tbroken)))
theorem balance_must_api_Wide_c (n : Nat) (L : List Nat) (w : World) (_hL : ∀ b ∈ L, b < w.heap.size) (a0 : UInt64 × UInt64 × UInt64 × UInt64 × UInt64 × UInt64 × UInt64 × UInt64) (a1 : Int)  {r : Except Tbroken (UInt64 × UInt64 × UInt64 × UInt64 × UInt64 × UInt64 × UInt64 × UInt64)} (h : balance_must_api_Wide_p n a0 a1 = some r) :
    Calls Tryz.prog 106 #[.agg ((cs_A34 a0)).toArray, .int .i64 a1] w (PGives w (fun (y : UInt64 × UInt64 × UInt64 × UInt64 × UInt64 × UInt64 × UInt64 × UInt64) _ u => u = .agg ((cs_A34 y)).toArray) (fun e => .iface 140 (.agg #[.int .i64 e.fErrno])) r) := by
  unfold balance_must_api_Wide_p at h
  have hS0 := St.start w
  refine MX.startP Tryz.func106 rfl rfl rfl (fun _ cs0 hb0 hp0 => ?_)
  refine MX.sr <| RG.new .plain rfl (Does.box (vs := (cs_A34 a0)) hS0 rfl rfl) (fun w2 b5 hS3 hT4 => ?_)
  refine RG.new .plain rfl (Does.alloc (zs := [.int .u64 0, .int .u64 0, .int .u64 0, .int .u64 0, .int .u64 0, .int .u64 0, .int .u64 0, .int .u64 0]) hS3 (zB (by kernel_rfl))) (fun w7 b0 hS8 hT9 => ?_)
  refine RG.nil <| MX.seq <| MX.sr <| RG.mv rfl rfl <| RG.vv (FV.neq (i := a1) (j := 0) rfl rfl) rfl <| RG.nil ?_
  refine MX.ifn rfl h (fun c0 h => ?_) (fun c0 h => ?_)
  ·skip
   refine MX.skip <| MX.sr <| RG.vv (FV.loadN (by kernel_rfl) rfl (hS8.memA (.tl .hd))) rfl <| RG.now .plain (Acts.storeAll (news := (cs_A34 a0)) hS8 .hd rfl rfl rfl rfl rfl rfl (onesB rfl)) (fun w0 hS1 hT0 => ?_)
   refine RG.nil <| MX.ret rfl <| RT.leave hb0 Tryz.func106 rfl (.cons (.many (cs := (cs_A34 a0)) (by kernel_rfl) rfl (hS1.memA .hd)) .nil) rfl ?_
   obtain rfl := Option.some.inj h
   exact ⟨hS1.ag, fun w9 hw9 => okOf_in rfl⟩
  refine MX.region <| RG.mv rfl rfl <| RG.vv (FV.buildV (vs := [.int .i64 a1]) (u := .agg #[.int .i64 a1]) (evs_cons rfl evs_nil) (fun w9 => by kernel_rfl)) rfl <| RG.vv (FV.makeInterface (by kernel_rfl) rfl) rfl <| RG.panic .plain rfl ?_
  obtain rfl := Option.some.inj h
  exact PN.leave hp0 Tryz.func106 ⟨hS8.ag, rfl⟩
def share_Ratio_Down_p (n : Nat) (a0 : TRatio) : Option TLong :=
  (wide_Long_Parts_p n a0.fLong a0.fUnder).bind fun y0 => some y0.1
theorem share_Ratio_Down_c (n : Nat) (L : List Nat) (w : World) (hL : ∀ b ∈ L, b < w.heap.size) (a0 : TRatio) {v0_1 : Value} (h0_1 : Rep.R w L [v0_1] a0.fLong.fWords) {v0_3 : Value} (h0_3 : Rep.R w L [v0_3] a0.fUnder.fWords)  {r : TLong} (h : share_Ratio_Down_p n a0 = some r) :
    Calls Tryz.prog 147 #[.agg #[.bool a0.fLong.fBelow, v0_1, .bool a0.fUnder.fBelow, v0_3]] w (Gives w fun w' u => ∃ v0_1 : Value, u = .agg #[.bool r.fBelow, v0_1] ∧ Rep.R w' L [v0_1] r.fWords) := by
  unfold share_Ratio_Down_p at h
  have hS0 := St.start w
  refine MX.start Tryz.func147 rfl rfl rfl (fun _ cs0 hb0 => ?_)
  refine MX.sr <| RG.new .plain rfl (Does.box (vs := [.bool a0.fLong.fBelow, v0_1, .bool a0.fUnder.fBelow, v0_3]) hS0 rfl rfl) (fun w2 b5 hS3 hT4 => ?_)
  refine RG.new .plain rfl (Does.alloc (zs := [.bool false, .slice none 0 0]) hS3 (zB (by kernel_rfl))) (fun w7 b0 hS8 hT9 => ?_)
  refine RG.nil <| MX.sr <| RG.vv (FV.fieldAddr (off := 0) (by kernel_rfl) rfl) rfl <| RG.vv (FV.loadN (cs := [.bool a0.fLong.fBelow, v0_1]) (by kernel_rfl) rfl (mem_part (hS8.memA (.tl .hd)) 0 2)) rfl <| RG.vv (FV.fieldAddr (off := 2) (by kernel_rfl) rfl) rfl <| RG.vv (FV.loadN (cs := [.bool a0.fUnder.fBelow, v0_3]) (by kernel_rfl) rfl (mem_part (hS8.memA (.tl .hd)) 2 2)) rfl ?_
  obtain ⟨y0, hy0, h⟩ := bind_in h
  have hm0 := Rep.mv h0_1 (Tr.trans hT4 hT9)
  have hm1 := Rep.mv h0_3 (Tr.trans hT4 hT9)
  refine RG.call' (fst := []) (cap := []) .plain body168 rfl (evs_cons rfl (evs_cons rfl evs_nil)) (fun w9 hw9 => wide_Long_Parts_c n _ w9 (hS8.hL hL hw9) a0.fLong (Rep.keep0 hm0 hw9) a0.fUnder (Rep.keep0 hm1 hw9) hy0) rfl (fun w0 vu0 hag0 ⟨v0, v1, hu_, hr0, hr1⟩ => ?_)
  subst hu_
  obtain ⟨hS1, hT0⟩ := hS8.agr hag0
  refine RG.mv rfl rfl <| RG.vv (FV.extract rfl rfl) rfl <| RG.vv (FV.extract rfl rfl) rfl <| RG.new .plain rfl (Does.alloc (zs := [.bool false, .slice none 0 0]) hS1 (zB (by kernel_rfl))) (fun w1 b1 hS2 hT1 => ?_)
  refine RG.new .plain rfl (Does.alloc (zs := [.bool false, .slice none 0 0]) hS2 (zB (by kernel_rfl))) (fun w3 b2 hS4 hT2 => ?_)
  have hm2 := Rep.mv hr0 (Tr.trans hT1 hT2)
  refine RG.now .plain (Acts.storeAll (news := [.bool y0.1.fBelow, v0]) hS4 (.tl .hd) rfl rfl rfl rfl rfl rfl (ones_cons rfl (ones_cons (Rep.o1 hm2) ones_nil))) (fun w4 hS5 hT3 => ?_)
  have hm3 := Rep.mv hr1 (Tr.trans hT1 (Tr.trans hT2 hT3))
  refine RG.now .plain (Acts.storeAll (news := [.bool y0.2.fBelow, v1]) hS5 .hd rfl rfl rfl rfl rfl rfl (ones_cons rfl (ones_cons (Rep.o1 hm3) ones_nil))) (fun w5 hS6 hT5 => ?_)
  refine RG.nil <| MX.sr <| RG.vv (FV.loadN (by kernel_rfl) rfl (hS6.memA (.tl .hd))) rfl ?_
  have hm4 := Rep.mv hr0 (Tr.trans hT1 (Tr.trans hT2 (Tr.trans hT3 hT5)))
  refine RG.now .plain (Acts.storeAll (news := [.bool y0.1.fBelow, v0]) hS6 (.tl (.tl .hd)) rfl rfl rfl rfl rfl rfl (ones_cons rfl (ones_cons (Rep.o1 hm4) ones_nil))) (fun w6 hS7 hT6 => ?_)
  refine RG.nil <| MX.ret rfl <| RT.leave hb0 Tryz.func147 rfl (.cons (.many (cs := [.bool y0.1.fBelow, v0]) (by kernel_rfl) rfl (hS7.memA (.tl (.tl .hd)))) .nil) rfl ?_
  obtain rfl := Option.some.inj h
  have hm5 := Rep.mv hr0 (Tr.trans hT1 (Tr.trans hT2 (Tr.trans hT3 (Tr.trans hT5 hT6))))
  exact ⟨hS7.ag, fun w9 hw9 => ⟨v0, rfl, Rep.keep0 (Rep.dropS hS7 hm5) hw9⟩⟩
theorem body147 : bodyB Tryz.prog 147 = true := by kernel_rfl
def share_Ceil_1_p (n : Nat) (a0 : TRatio) : Option TLong :=
  (share_Ratio_Turned_p n a0).bind fun y0 => (share_Ratio_Down_p n y0).bind fun y1 => (wide_Long_Turned_p n y1).bind fun y2 => some y2
theorem share_Ceil_1_c (n : Nat) (L : List Nat) (w : World) (hL : ∀ b ∈ L, b < w.heap.size) (a0 : TRatio) {v0_1 : Value} (h0_1 : Rep.R w L [v0_1] a0.fLong.fWords) {v0_3 : Value} (h0_3 : Rep.R w L [v0_3] a0.fUnder.fWords)  {r : TLong} (h : share_Ceil_1_p n a0 = some r) :
    Calls Tryz.prog 146 #[.agg #[.bool a0.fLong.fBelow, v0_1, .bool a0.fUnder.fBelow, v0_3]] w (Gives w fun w' u => ∃ v0_1 : Value, u = .agg #[.bool r.fBelow, v0_1] ∧ Rep.R w' L [v0_1] r.fWords) := by
  unfold share_Ceil_1_p at h
  have hS0 := St.start w
  refine MX.start Tryz.func146 rfl rfl rfl (fun _ cs0 hb0 => ?_)
  refine MX.sr <| RG.new .plain rfl (Does.box (vs := [.bool a0.fLong.fBelow, v0_1, .bool a0.fUnder.fBelow, v0_3]) hS0 rfl rfl) (fun w2 b5 hS3 hT4 => ?_)
  refine RG.new .plain rfl (Does.alloc (zs := [.bool false, .slice none 0 0]) hS3 (zB (by kernel_rfl))) (fun w7 b0 hS8 hT9 => ?_)
  refine RG.nil <| MX.sr <| RG.vv (FV.loadN (by kernel_rfl) rfl (hS8.memA (.tl .hd))) rfl ?_
  obtain ⟨y0, hy0, h⟩ := bind_in h
  have hm0 := Rep.mv h0_1 (Tr.trans hT4 hT9)
  have hm1 := Rep.mv h0_3 (Tr.trans hT4 hT9)
  refine RG.call' (fst := []) (cap := []) .plain body96 rfl (evs_cons rfl evs_nil) (fun w9 hw9 => share_Ratio_Turned_c n _ w9 (hS8.hL hL hw9) a0 (Rep.keep0 hm0 hw9) (Rep.keep0 hm1 hw9) hy0) rfl (fun w0 vu0 hag0 ⟨v0, v1, hu_, hr0, hr1⟩ => ?_)
  subst hu_
  obtain ⟨hS1, hT0⟩ := hS8.agr hag0
  obtain ⟨y1, hy1, h⟩ := bind_in h
  refine RG.call' (fst := []) (cap := []) .plain body147 rfl (evs_cons rfl evs_nil) (fun w9 hw9 => share_Ratio_Down_c n _ w9 (hS1.hL hL hw9) y0 (Rep.keep0 hr0 hw9) (Rep.keep0 hr1 hw9) hy1) rfl (fun w1 vu1 hag1 ⟨v2, hu_, hr2⟩ => ?_)
  subst hu_
  obtain ⟨hS2, hT1⟩ := hS1.agr hag1
  obtain ⟨y2, hy2, h⟩ := bind_in h
  refine RG.call' (fst := []) (cap := []) .plain body137 rfl (evs_cons rfl evs_nil) (fun w9 hw9 => wide_Long_Turned_c n _ w9 (hS2.hL hL hw9) y1 (Rep.keep0 hr2 hw9) hy2) rfl (fun w3 vu2 hag2 ⟨v3, hu_, hr3⟩ => ?_)
  subst hu_
  obtain ⟨hS4, hT2⟩ := hS2.agr hag2
  refine RG.now .plain (Acts.storeAll (news := [.bool y2.fBelow, v3]) hS4 .hd rfl rfl rfl rfl rfl rfl (ones_cons rfl (ones_cons (Rep.o1 hr3) ones_nil))) (fun w4 hS5 hT3 => ?_)
  refine RG.nil <| MX.ret rfl <| RT.leave hb0 Tryz.func146 rfl (.cons (.many (cs := [.bool y2.fBelow, v3]) (by kernel_rfl) rfl (hS5.memA .hd)) .nil) rfl ?_
  obtain rfl := Option.some.inj h
  have hm2 := Rep.mv hr3 hT3
  exact ⟨hS5.ag, fun w9 hw9 => ⟨v3, rfl, Rep.keep0 (Rep.dropS hS5 hm2) hw9⟩⟩
theorem body145 : bodyB Tryz.prog 145 = true := by kernel_rfl
theorem body146 : bodyB Tryz.prog 146 = true := by kernel_rfl
def share_Ceil_p (n : Nat) (a0 : TShare) : Option ((UInt64 × UInt64 × UInt64 × UInt64 × UInt64 × UInt64 × UInt64 × UInt64) × Int) :=
  (share_valid_p n ([a0] : List TShare)).bind fun y0 => (if y0 = true then (share_Read_p n a0).bind fun y1 => (share_Ceil_1_p n y1).bind fun y2 => (wide_Long_Told_p n y2).bind fun y3 => some (y3.1, y3.2) else some (((0 : UInt64), (0 : UInt64), (0 : UInt64), (0 : UInt64), (0 : UInt64), (0 : UInt64), (0 : UInt64), (0 : UInt64)), (20 : Int)))
theorem share_Ceil_c (n : Nat) (L : List Nat) (w : World) (hL : ∀ b ∈ L, b < w.heap.size) (a0 : TShare)  {r : (UInt64 × UInt64 × UInt64 × UInt64 × UInt64 × UInt64 × UInt64 × UInt64) × Int} (h : share_Ceil_p n a0 = some r) :
    Calls Tryz.prog 107 #[.agg ((cs_TShare a0)).toArray] w (Gives w fun _ u => u = .tuple #[.agg ((cs_A34 r.1)).toArray, .int .i64 r.2]) := by
  unfold share_Ceil_p at h
  have hS0 := St.start w
  refine MX.start Tryz.func107 rfl rfl rfl (fun _ cs0 hb0 => ?_)
  refine MX.sr <| RG.new .plain rfl (Does.box (vs := (cs_TShare a0)) hS0 rfl rfl) (fun w2 b5 hS3 hT4 => ?_)
  refine RG.new .plain rfl (Does.alloc (zs := [.int .u64 0, .int .u64 0, .int .u64 0, .int .u64 0, .int .u64 0, .int .u64 0, .int .u64 0, .int .u64 0]) hS3 (zB (by kernel_rfl))) (fun w7 b0 hS8 hT9 => ?_)
  refine RG.sg rfl rfl <| RG.nil <| MX.sr <| RG.vv (FV.loadN (by kernel_rfl) rfl (hS8.memA (.tl .hd))) rfl <| RG.enterP (fst := []) (cap := []) (vs := [.agg ((cs_TShare a0)).toArray, .func (.func 146) #[] #[]]) .plain body145 Tryz.func145 rfl rfl rfl rfl (evs_cons rfl (evs_cons rfl evs_nil)) rfl (fun cs1 hb1 hp0 => ?_)
  refine MX.sr <| RG.new .plain rfl (Does.box (vs := (cs_TShare a0)) hS8 rfl rfl) (fun w0 b1 hS1 hT0 => ?_)
  refine RG.new .plain rfl (Does.alloc (zs := [.int .u64 0, .int .u64 0, .int .u64 0, .int .u64 0, .int .u64 0, .int .u64 0, .int .u64 0, .int .u64 0]) hS1 (zB (by kernel_rfl))) (fun w1 b2 hS2 hT1 => ?_)
  refine RG.sg rfl rfl <| RG.nil <| MX.seq <| MX.sr <| RG.vv (FV.loadN (by kernel_rfl) rfl (hS2.memA (.tl .hd))) rfl <| RG.new .plain rfl (Does.build (α := TShare) (xs := ([a0] : List TShare)) (vs := [.agg ((cs_TShare a0)).toArray]) (ds' := (cs_TShare a0)) rfl hS2 el68 rfl (evs_cons rfl evs_nil) (by kernel_rfl) rfl) (fun w3 b3 hS4 hT2 => ?_)
  have hc0 := Cells.at_ (cs := (cs_TShare a0)) (xs := (([a0] : List TShare) : List TShare)) hS4 L (Cells.cons (cs := (cs_TShare a0)) (ds := []) (mk_TShare a0.fN a0.fD) (Cells.nil _ _))
  obtain ⟨y0, hy0, h⟩ := bind_in h
  refine RG.cq (.bool y0) body125 rfl (evs_cons rfl evs_nil) (fun w9 hw9 => share_valid_c n _ w9 (hS4.hL0 hL hw9) ([a0] : List TShare) (Rep.keep0 (St.lend (α := TShare) (L := L) hS4 .hd hc0 hL) hw9) hy0) rfl <| RG.vv (FV.not rfl) rfl <| RG.nil <| MX.ifnb rfl h (fun c0 h => ?_) (fun c0 h => ?_)
  ·skip
   refine MX.skip <| MX.sr <| RG.mv rfl rfl <| RG.vv (FV.loadN (by kernel_rfl) rfl (hS4.memA (.tl (.tl .hd)))) rfl ?_
   obtain ⟨y1, hy1, h⟩ := bind_in h
   refine RG.call' (fst := []) (cap := []) .plain body130 rfl (evs_cons rfl evs_nil) (fun w9 hw9 => share_Read_c n _ w9 (hS4.hL hL hw9) a0 hy1) rfl (fun w4 vu0 hag0 ⟨v0, v1, hu_, hr0, hr1⟩ => ?_)
   subst hu_
   obtain ⟨hS5, hT3⟩ := hS4.agr hag0
   obtain ⟨y2, hy2, h⟩ := bind_in h
   refine RG.call' (fst := []) (cap := []) .plain body146 rfl (evs_cons rfl evs_nil) (fun w9 hw9 => share_Ceil_1_c n _ w9 (hS5.hL hL hw9) y1 (Rep.keep0 hr0 hw9) (Rep.keep0 hr1 hw9) hy2) rfl (fun w5 vu1 hag1 ⟨v2, hu_, hr2⟩ => ?_)
   subst hu_
   obtain ⟨hS6, hT5⟩ := hS5.agr hag1
   obtain ⟨y3, hy3, h⟩ := bind_in h
   refine RG.cq (.tuple #[.agg ((cs_A34 y3.1)).toArray, .int .i64 y3.2]) body166 rfl (evs_cons rfl evs_nil) (fun w9 hw9 => wide_Long_Told_c n _ w9 (hS6.hL0 hL hw9) y2 (Rep.keep0 (Rep.dropS hS6 hr2) hw9) hy3) rfl <| RG.vv (FV.extract rfl rfl) rfl <| RG.vv (FV.extract rfl rfl) rfl <| RG.now .plain (Acts.storeAll (news := (cs_A34 y3.1)) hS6 (.tl .hd) rfl rfl rfl rfl rfl rfl (onesB rfl)) (fun w6 hS7 hT6 => ?_)
   refine RG.sg rfl rfl <| RG.nil <| MX.ret rfl <| RT.leave (u := .tuple #[.agg ((cs_A34 y3.1)).toArray, .int .i64 y3.2]) hb1 Tryz.func145 rfl (.cons (.many (cs := (cs_A34 y3.1)) (by kernel_rfl) rfl (hS7.memA (.tl .hd))) (.cons (.tmp rfl) .nil)) rfl <| RG.vv (FV.extract rfl rfl) rfl <| RG.vv (FV.extract rfl rfl) rfl ?_
   refine RG.now .plain (Acts.storeAll (news := (cs_A34 y3.1)) hS7 (.tl (.tl (.tl .hd))) rfl rfl rfl rfl rfl rfl (onesB rfl)) (fun w8 hS9 hT7 => ?_)
   refine RG.sg rfl rfl <| RG.nil <| MX.ret rfl <| RT.leave hb0 Tryz.func107 rfl (.cons (.many (cs := (cs_A34 y3.1)) (by kernel_rfl) rfl (hS9.memA (.tl (.tl (.tl .hd))))) (.cons (.tmp rfl) .nil)) rfl ?_
   obtain rfl := Option.some.inj h
   exact ⟨hS9.ag, fun w9 hw9 => rfl⟩
  refine MX.sr <| RG.vv (FV.buildV (vs := []) (u := .agg #[.int .u64 0, .int .u64 0, .int .u64 0, .int .u64 0, .int .u64 0, .int .u64 0, .int .u64 0, .int .u64 0]) evs_nil (fun w9 => by kernel_rfl)) rfl <| RG.now .plain (Acts.storeAll (news := [.int .u64 0, .int .u64 0, .int .u64 0, .int .u64 0, .int .u64 0, .int .u64 0, .int .u64 0, .int .u64 0]) hS4 (.tl .hd) rfl rfl rfl rfl rfl rfl (onesB rfl)) (fun w57 hS58 hT8 => ?_)
  refine RG.sg rfl rfl <| RG.nil <| MX.ret rfl <| RT.leave (u := .tuple #[.agg #[.int .u64 0, .int .u64 0, .int .u64 0, .int .u64 0, .int .u64 0, .int .u64 0, .int .u64 0, .int .u64 0], .int .i64 20]) hb1 Tryz.func145 rfl (.cons (.many (cs := [.int .u64 0, .int .u64 0, .int .u64 0, .int .u64 0, .int .u64 0, .int .u64 0, .int .u64 0, .int .u64 0]) (by kernel_rfl) rfl (hS58.memA (.tl .hd))) (.cons (.tmp rfl) .nil)) rfl <| RG.vv (FV.extract rfl rfl) rfl <| RG.vv (FV.extract rfl rfl) rfl ?_
  refine RG.now .plain (Acts.storeAll (news := [.int .u64 0, .int .u64 0, .int .u64 0, .int .u64 0, .int .u64 0, .int .u64 0, .int .u64 0, .int .u64 0]) hS58 (.tl (.tl (.tl .hd))) rfl rfl rfl rfl rfl rfl (onesB rfl)) (fun w60 hS61 hT62 => ?_)
  refine RG.sg rfl rfl <| RG.nil <| MX.ret rfl <| RT.leave hb0 Tryz.func107 rfl (.cons (.many (cs := [.int .u64 0, .int .u64 0, .int .u64 0, .int .u64 0, .int .u64 0, .int .u64 0, .int .u64 0, .int .u64 0]) (by kernel_rfl) rfl (hS61.memA (.tl (.tl (.tl .hd))))) (.cons (.tmp rfl) .nil)) rfl ?_
  obtain rfl := Option.some.inj h
  exact ⟨hS61.ag, fun w9 hw9 => rfl⟩
def share_Floor_p (n : Nat) (a0 : TShare) : Option ((UInt64 × UInt64 × UInt64 × UInt64 × UInt64 × UInt64 × UInt64 × UInt64) × Int) :=
  (share_valid_p n ([a0] : List TShare)).bind fun y0 => (if y0 = true then (share_Read_p n a0).bind fun y1 => (share_Ratio_Down_p n y1).bind fun y2 => (wide_Long_Told_p n y2).bind fun y3 => some (y3.1, y3.2) else some (((0 : UInt64), (0 : UInt64), (0 : UInt64), (0 : UInt64), (0 : UInt64), (0 : UInt64), (0 : UInt64), (0 : UInt64)), (20 : Int)))
theorem share_Floor_c (n : Nat) (L : List Nat) (w : World) (hL : ∀ b ∈ L, b < w.heap.size) (a0 : TShare)  {r : (UInt64 × UInt64 × UInt64 × UInt64 × UInt64 × UInt64 × UInt64 × UInt64) × Int} (h : share_Floor_p n a0 = some r) :
    Calls Tryz.prog 108 #[.agg ((cs_TShare a0)).toArray] w (Gives w fun _ u => u = .tuple #[.agg ((cs_A34 r.1)).toArray, .int .i64 r.2]) := by
  unfold share_Floor_p at h
  have hS0 := St.start w
  refine MX.start Tryz.func108 rfl rfl rfl (fun _ cs0 hb0 => ?_)
  refine MX.sr <| RG.new .plain rfl (Does.box (vs := (cs_TShare a0)) hS0 rfl rfl) (fun w2 b5 hS3 hT4 => ?_)
  refine RG.new .plain rfl (Does.alloc (zs := [.int .u64 0, .int .u64 0, .int .u64 0, .int .u64 0, .int .u64 0, .int .u64 0, .int .u64 0, .int .u64 0]) hS3 (zB (by kernel_rfl))) (fun w7 b0 hS8 hT9 => ?_)
  refine RG.sg rfl rfl <| RG.nil <| MX.sr <| RG.vv (FV.loadN (by kernel_rfl) rfl (hS8.memA (.tl .hd))) rfl <| RG.enterP (fst := []) (cap := []) (vs := [.agg ((cs_TShare a0)).toArray, .func (.func 147) #[] #[]]) .plain body145 Tryz.func145 rfl rfl rfl rfl (evs_cons rfl (evs_cons rfl evs_nil)) rfl (fun cs1 hb1 hp0 => ?_)
  refine MX.sr <| RG.new .plain rfl (Does.box (vs := (cs_TShare a0)) hS8 rfl rfl) (fun w0 b1 hS1 hT0 => ?_)
  refine RG.new .plain rfl (Does.alloc (zs := [.int .u64 0, .int .u64 0, .int .u64 0, .int .u64 0, .int .u64 0, .int .u64 0, .int .u64 0, .int .u64 0]) hS1 (zB (by kernel_rfl))) (fun w1 b2 hS2 hT1 => ?_)
  refine RG.sg rfl rfl <| RG.nil <| MX.seq <| MX.sr <| RG.vv (FV.loadN (by kernel_rfl) rfl (hS2.memA (.tl .hd))) rfl <| RG.new .plain rfl (Does.build (α := TShare) (xs := ([a0] : List TShare)) (vs := [.agg ((cs_TShare a0)).toArray]) (ds' := (cs_TShare a0)) rfl hS2 el68 rfl (evs_cons rfl evs_nil) (by kernel_rfl) rfl) (fun w3 b3 hS4 hT2 => ?_)
  have hc0 := Cells.at_ (cs := (cs_TShare a0)) (xs := (([a0] : List TShare) : List TShare)) hS4 L (Cells.cons (cs := (cs_TShare a0)) (ds := []) (mk_TShare a0.fN a0.fD) (Cells.nil _ _))
  obtain ⟨y0, hy0, h⟩ := bind_in h
  refine RG.cq (.bool y0) body125 rfl (evs_cons rfl evs_nil) (fun w9 hw9 => share_valid_c n _ w9 (hS4.hL0 hL hw9) ([a0] : List TShare) (Rep.keep0 (St.lend (α := TShare) (L := L) hS4 .hd hc0 hL) hw9) hy0) rfl <| RG.vv (FV.not rfl) rfl <| RG.nil <| MX.ifnb rfl h (fun c0 h => ?_) (fun c0 h => ?_)
  ·skip
   refine MX.skip <| MX.sr <| RG.mv rfl rfl <| RG.vv (FV.loadN (by kernel_rfl) rfl (hS4.memA (.tl (.tl .hd)))) rfl ?_
   obtain ⟨y1, hy1, h⟩ := bind_in h
   refine RG.call' (fst := []) (cap := []) .plain body130 rfl (evs_cons rfl evs_nil) (fun w9 hw9 => share_Read_c n _ w9 (hS4.hL hL hw9) a0 hy1) rfl (fun w4 vu0 hag0 ⟨v0, v1, hu_, hr0, hr1⟩ => ?_)
   subst hu_
   obtain ⟨hS5, hT3⟩ := hS4.agr hag0
   obtain ⟨y2, hy2, h⟩ := bind_in h
   refine RG.call' (fst := []) (cap := []) .plain body147 rfl (evs_cons rfl evs_nil) (fun w9 hw9 => share_Ratio_Down_c n _ w9 (hS5.hL hL hw9) y1 (Rep.keep0 hr0 hw9) (Rep.keep0 hr1 hw9) hy2) rfl (fun w5 vu1 hag1 ⟨v2, hu_, hr2⟩ => ?_)
   subst hu_
   obtain ⟨hS6, hT5⟩ := hS5.agr hag1
   obtain ⟨y3, hy3, h⟩ := bind_in h
   refine RG.cq (.tuple #[.agg ((cs_A34 y3.1)).toArray, .int .i64 y3.2]) body166 rfl (evs_cons rfl evs_nil) (fun w9 hw9 => wide_Long_Told_c n _ w9 (hS6.hL0 hL hw9) y2 (Rep.keep0 (Rep.dropS hS6 hr2) hw9) hy3) rfl <| RG.vv (FV.extract rfl rfl) rfl <| RG.vv (FV.extract rfl rfl) rfl <| RG.now .plain (Acts.storeAll (news := (cs_A34 y3.1)) hS6 (.tl .hd) rfl rfl rfl rfl rfl rfl (onesB rfl)) (fun w6 hS7 hT6 => ?_)
   refine RG.sg rfl rfl <| RG.nil <| MX.ret rfl <| RT.leave (u := .tuple #[.agg ((cs_A34 y3.1)).toArray, .int .i64 y3.2]) hb1 Tryz.func145 rfl (.cons (.many (cs := (cs_A34 y3.1)) (by kernel_rfl) rfl (hS7.memA (.tl .hd))) (.cons (.tmp rfl) .nil)) rfl <| RG.vv (FV.extract rfl rfl) rfl <| RG.vv (FV.extract rfl rfl) rfl ?_
   refine RG.now .plain (Acts.storeAll (news := (cs_A34 y3.1)) hS7 (.tl (.tl (.tl .hd))) rfl rfl rfl rfl rfl rfl (onesB rfl)) (fun w8 hS9 hT7 => ?_)
   refine RG.sg rfl rfl <| RG.nil <| MX.ret rfl <| RT.leave hb0 Tryz.func108 rfl (.cons (.many (cs := (cs_A34 y3.1)) (by kernel_rfl) rfl (hS9.memA (.tl (.tl (.tl .hd))))) (.cons (.tmp rfl) .nil)) rfl ?_
   obtain rfl := Option.some.inj h
   exact ⟨hS9.ag, fun w9 hw9 => rfl⟩
  refine MX.sr <| RG.vv (FV.buildV (vs := []) (u := .agg #[.int .u64 0, .int .u64 0, .int .u64 0, .int .u64 0, .int .u64 0, .int .u64 0, .int .u64 0, .int .u64 0]) evs_nil (fun w9 => by kernel_rfl)) rfl <| RG.now .plain (Acts.storeAll (news := [.int .u64 0, .int .u64 0, .int .u64 0, .int .u64 0, .int .u64 0, .int .u64 0, .int .u64 0, .int .u64 0]) hS4 (.tl .hd) rfl rfl rfl rfl rfl rfl (onesB rfl)) (fun w57 hS58 hT8 => ?_)
  refine RG.sg rfl rfl <| RG.nil <| MX.ret rfl <| RT.leave (u := .tuple #[.agg #[.int .u64 0, .int .u64 0, .int .u64 0, .int .u64 0, .int .u64 0, .int .u64 0, .int .u64 0, .int .u64 0], .int .i64 20]) hb1 Tryz.func145 rfl (.cons (.many (cs := [.int .u64 0, .int .u64 0, .int .u64 0, .int .u64 0, .int .u64 0, .int .u64 0, .int .u64 0, .int .u64 0]) (by kernel_rfl) rfl (hS58.memA (.tl .hd))) (.cons (.tmp rfl) .nil)) rfl <| RG.vv (FV.extract rfl rfl) rfl <| RG.vv (FV.extract rfl rfl) rfl ?_
  refine RG.now .plain (Acts.storeAll (news := [.int .u64 0, .int .u64 0, .int .u64 0, .int .u64 0, .int .u64 0, .int .u64 0, .int .u64 0, .int .u64 0]) hS58 (.tl (.tl (.tl .hd))) rfl rfl rfl rfl rfl rfl (onesB rfl)) (fun w60 hS61 hT62 => ?_)
  refine RG.sg rfl rfl <| RG.nil <| MX.ret rfl <| RT.leave hb0 Tryz.func108 rfl (.cons (.many (cs := [.int .u64 0, .int .u64 0, .int .u64 0, .int .u64 0, .int .u64 0, .int .u64 0, .int .u64 0, .int .u64 0]) (by kernel_rfl) rfl (hS61.memA (.tl (.tl (.tl .hd))))) (.cons (.tmp rfl) .nil)) rfl ?_
  obtain rfl := Option.some.inj h
  exact ⟨hS61.ag, fun w9 hw9 => rfl⟩
def tb51_2 : List (Nat × Nat × Nat) := [(0, 65536, 4), (1, 131072, 65536), (0, 262144, 4), (4, 524288, 262144), (10, 1048576, 655360), (0, 32, 0), (63, 0, 1048608)]
def tb51_4 : List (Nat × Nat × Nat) := [(0, 4194304, 64), (0, 8388608, 0), (0, 16777216, 8), (6, 33554432, 25165824), (8, 67108864, 33554432), (8, 134217728, 33554432), (56, 268435456, 201326592), (65, 536870912, 272629760), (255, 128, 536870912)]
def tb51_5 : List (Nat × Nat × Nat) := [(0, 1073741824, 64), (0, 2147483648, 0), (0, 4294967296, 8), (6, 8589934592, 6442450944), (8, 17179869184, 8589934592), (8, 34359738368, 8589934592), (56, 68719476736, 51539607552), (65, 137438953472, 69793218560), (255, 256, 137438953472)]
theorem body24 : bodyB Tryz.prog 24 = true := by kernel_rfl
theorem body25 : bodyB Tryz.prog 25 = true := by kernel_rfl
theorem body26 : bodyB Tryz.prog 26 = true := by kernel_rfl
theorem body70 : bodyB Tryz.prog 70 = true := by kernel_rfl
theorem body71 : bodyB Tryz.prog 71 = true := by kernel_rfl
theorem body102 : bodyB Tryz.prog 102 = true := by kernel_rfl
theorem body103 : bodyB Tryz.prog 103 = true := by kernel_rfl
theorem body104 : bodyB Tryz.prog 104 = true := by kernel_rfl
theorem body105 : bodyB Tryz.prog 105 = true := by kernel_rfl
theorem body106 : bodyB Tryz.prog 106 = true := by kernel_rfl
theorem body107 : bodyB Tryz.prog 107 = true := by kernel_rfl
theorem body108 : bodyB Tryz.prog 108 = true := by kernel_rfl
def balance_count_within_p (n : Nat) (a0 : Tcount) (a1 : TShare) : Option (Except Tbroken Tbounds) :=
  (share_Sign_p n a1).bind fun y0 => (balance_must_int_p n y0.1 y0.2).bind fun y1 => exc y1 (fun y2 => (balance_fail_p n (decide (y2 < 0)) (2 : Int)).bind fun y3 => exc y3 (fun y4 => (balance_count_people_p n a0).bind fun y5 => (balance_of_p n y5 a0.fk).bind fun y6 => exc y6 (fun y7 => (balance_of_p n (1 : Int) (1 : Int)).bind fun y8 => exc y8 (fun y9 => (share_Sub_p n y9 a1).bind fun y72 => (balance_must_api_Share_p n y72.1 y72.2).bind fun y73 => exc y73 (fun y75 => (share_Mul_p n y75 y7).bind fun y89 => (balance_must_api_Share_p n y89.1 y89.2).bind fun y90 => exc y90 (fun y92 => (share_Ceil_p n y92).bind fun y98 => (balance_must_api_Wide_p n y98.1 y98.2).bind fun y99 => exc y99 (fun y10 => (wide_Int_p n y10).bind fun y11 => (balance_must_int_p n y11.1 y11.2).bind fun y12 => exc y12 (fun y13 => (balance_of_p n (1 : Int) (1 : Int)).bind fun y14 => exc y14 (fun y15 => (share_Add_p n y15 a1).bind fun y18 => (balance_must_api_Share_p n y18.1 y18.2).bind fun y20 => exc y20 (fun y21 => (share_Mul_p n y21 y7).bind fun y22 => (balance_must_api_Share_p n y22.1 y22.2).bind fun y23 => exc y23 (fun y24 => (share_Floor_p n y24).bind fun y26 => (balance_must_api_Wide_p n y26.1 y26.2).bind fun y28 => exc y28 (fun y29 => (wide_Int_p n y29).bind fun y30 => (balance_must_int_p n y30.1 y30.2).bind fun y31 => exc y31 (fun y32 => some (.ok (⟨y13, y32⟩ : Tbounds))) (fun e0 => some (.error e0))) (fun e1 => some (.error e1))) (fun e2 => some (.error e2))) (fun e3 => some (.error e3))) (fun e4 => some (.error e4))) (fun e5 => some (.error e5))) (fun e6 => some (.error e6))) (fun e7 => some (.error e7))) (fun e8 => some (.error e8))) (fun e9 => some (.error e9))) (fun e38 => some (.error e38))) (fun e26 => some (.error e26))) (fun e18 => some (.error e18))
theorem balance_count_within_c (n : Nat) (L : List Nat) (w : World) (hL : ∀ b ∈ L, b < w.heap.size) (a0 : Tcount) {v0_3 : Value} (h0_3 : Rep.R w L [v0_3] a0.fRoll.fUnits) (a1 : TShare)  {r : Except Tbroken Tbounds} (h : balance_count_within_p n a0 a1 = some r) :
    Calls Tryz.prog 51 #[.agg #[.int .i64 a0.fRoll.fGroups, .int .i64 a0.fRoll.fParties, .int .i64 a0.fRoll.fLevels, v0_3, .int .i64 a0.fk], .agg ((cs_TShare a1)).toArray] w (PGives w (fun (y : Tbounds) _ u => u = .agg #[.int .i64 y.flow, .int .i64 y.fhigh]) (fun e => .iface 140 (.agg #[.int .i64 e.fErrno])) r) := by
  unfold balance_count_within_p at h
  have hS0 := St.start w
  refine MX.startP Tryz.func51 rfl rfl rfl (fun _ cs0 hb0 hp0 => ?_)
  refine MX.sr <| RG.new .plain rfl (Does.box (vs := [.int .i64 a0.fRoll.fGroups, .int .i64 a0.fRoll.fParties, .int .i64 a0.fRoll.fLevels, v0_3, .int .i64 a0.fk]) hS0 rfl rfl) (fun w2 b5 hS3 hT4 => ?_)
  refine RG.new .plain rfl (Does.box (vs := (cs_TShare a1)) hS3 rfl rfl) (fun w7 b0 hS8 hT9 => ?_)
  refine RG.new .plain rfl (Does.alloc (zs := [.int .i64 0, .int .i64 0]) hS8 (zB (by kernel_rfl))) (fun w0 b1 hS1 hT0 => ?_)
  refine RG.nil <| MX.sr <| RG.vv (FV.loadN (by kernel_rfl) rfl (hS1.memA (.tl .hd))) rfl ?_
  obtain ⟨y0, hy0, h⟩ := bind_in h
  refine RG.cq (.tuple #[.int .i64 y0.1, .int .i64 y0.2]) body103 rfl (evs_cons rfl evs_nil) (fun w9 hw9 => share_Sign_c n _ w9 (hS1.hL0 hL hw9) a1 hy0) rfl <| RG.vv (FV.extract rfl rfl) rfl <| RG.vv (FV.extract rfl rfl) rfl ?_
  obtain ⟨y1, hy1, h⟩ := bind_in h
  rcases y1 with e0 | y2
  ·skip
   have h := exc_e h
   try dsimp only at h
   refine RG.callE (fst := []) (cap := []) .plain body102 rfl (evs_cons rfl (evs_cons rfl evs_nil)) (fun w9 hw9 => balance_must_int_c n _ w9 (hS1.hL0 hL hw9) y0.1 y0.2 hy1) (fun w1 hag0 => ?_)
   obtain ⟨hS2, hT1⟩ := hS1.agr hag0
   obtain rfl := Option.some.inj h
   exact PN.leave hp0 Tryz.func51 ⟨hS2.ag, rfl⟩
  have h := exc_o h
  try dsimp only at h
  refine RG.cq (.int .i64 y2) body102 rfl (evs_cons rfl (evs_cons rfl evs_nil)) (fun w9 hw9 => Calls.okp (balance_must_int_c n _ w9 (hS1.hL0 hL hw9) y0.1 y0.2 hy1)) rfl <| RG.vv (FV.lss (i := y2) (j := 0) rfl rfl) rfl ?_
  obtain ⟨y3, hy2, h⟩ := bind_in h
  rcases y3 with e1 | y4
  ·skip
   have h := exc_e h
   try dsimp only at h
   refine RG.callE (fst := []) (cap := []) .plain body75 rfl (evs_cons rfl (evs_cons rfl evs_nil)) (fun w9 hw9 => balance_fail_c n _ w9 (hS1.hL0 hL hw9) (decide (y2 < 0)) (2 : Int) hy2) (fun w3 hag1 => ?_)
   obtain ⟨hS4, hT2⟩ := hS1.agr hag1
   obtain rfl := Option.some.inj h
   exact PN.leave hp0 Tryz.func51 ⟨hS4.ag, rfl⟩
  have h := exc_o h
  try dsimp only at h
  refine RG.cq (.tuple #[]) body75 rfl (evs_cons rfl (evs_cons rfl evs_nil)) (fun w9 hw9 => Calls.okp (balance_fail_c n _ w9 (hS1.hL0 hL hw9) (decide (y2 < 0)) (2 : Int) hy2)) rfl <| RG.nil <| MX.seq <| MX.drawT 6 tb51_2 (by kernel_rfl) (by kernel_rfl) (by kernel_rfl) (fun kt0 kp0 => ?_)
  refine RD.vx 0 1 82 kt0 rfl kp0 (FV.loadN (by kernel_rfl) rfl (hS1.memA (.tl (.tl .hd)))) rfl ?_
  obtain ⟨y5, hy3, h⟩ := bind_in h
  have hm0 := Rep.mv h0_3 (Tr.trans hT4 (Tr.trans hT9 hT0))
  refine RD.cq 1 3 80 (.int .i64 y5) kt0 rfl kp0 body71 rfl (evs_cons rfl evs_nil) (fun w9 hw9 => balance_count_people_c n _ w9 (hS1.hL0 hL hw9) a0 (Rep.keep0 (Rep.dropS hS1 hm0) hw9) hy3) rfl <| RD.vw 2 7 kt0 rfl kp0 (fun _ => FV.fieldAddr (off := 4) (by kernel_rfl) rfl) rfl <| RD.vx 3 15 80 kt0 rfl kp0 (FV.load1 (by kernel_rfl) rfl ((hS1.memA (.tl (.tl .hd))) 4 _ rfl)) rfl ?_
  obtain ⟨y6, hy4, h⟩ := bind_in h
  rcases y6 with e2 | y7
  ·skip
   have h := exc_e h
   try dsimp only at h
   refine RD.each [4, 5] (readyD_ok kt0 (by kernel_rfl)) ⟨?_, ?_, trivial⟩
   ·skip
    refine RO.callE (fst := []) (cap := []) rfl .plain body70 rfl (evs_cons rfl (evs_cons rfl evs_nil)) (fun w9 hw9 => balance_of_c n _ w9 (hS1.hL0 hL hw9) y5 a0.fk hy4) (fun w4 hag2 => ?_)
    obtain ⟨hS5, hT3⟩ := hS1.agr hag2
    obtain rfl := Option.some.inj h
    exact PN.leave hp0 Tryz.func51 ⟨hS5.ag, rfl⟩
   ·skip
    refine RO.new (m' := 47) (stepC_ok kt0 (by kernel_rfl)) rfl .plain rfl (Does.alloc (zs := [.int .u64 0, .int .u64 0, .int .u64 0, .int .u64 0, .int .u64 0, .int .u64 0, .int .u64 0, .int .u64 0, .int .u64 0, .int .u64 0, .int .u64 0, .int .u64 0, .int .u64 0, .int .u64 0, .int .u64 0, .int .u64 0]) hS1 (zB (by kernel_rfl))) (fun w5 b2 hS6 hT5 => ?_)
    refine RD.one (i := 4) (readyD_ok kt0 (by kernel_rfl)) (RO.callE (fst := []) (cap := []) rfl .plain body70 rfl (evs_cons rfl (evs_cons rfl evs_nil)) (fun w9 hw9 => balance_of_c n _ w9 (hS6.hL0 hL hw9) y5 a0.fk hy4) (fun w6 hag3 => ?_))
    obtain ⟨hS7, hT6⟩ := hS6.agr hag3
    obtain rfl := Option.some.inj h
    exact PN.leave hp0 Tryz.func51 ⟨hS7.ag, rfl⟩
  have h := exc_o h
  try dsimp only at h
  refine RD.cq 4 31 64 (.agg ((cs_TShare y7)).toArray) kt0 rfl kp0 body70 rfl (evs_cons rfl (evs_cons rfl evs_nil)) (fun w9 hw9 => Calls.okp (balance_of_c n _ w9 (hS1.hL0 hL hw9) y5 a0.fk hy4)) rfl <| RD.nu 5 63 kt0 rfl .plain rfl (Does.alloc (zs := [.int .u64 0, .int .u64 0, .int .u64 0, .int .u64 0, .int .u64 0, .int .u64 0, .int .u64 0, .int .u64 0, .int .u64 0, .int .u64 0, .int .u64 0, .int .u64 0, .int .u64 0, .int .u64 0, .int .u64 0, .int .u64 0]) hS1 (zB (by kernel_rfl))) (fun w8 b3 hS9 hT7 => ?_)
  refine RD.nw 6 127 kt0 rfl rfl .plain (Acts.storeAll (news := (cs_TShare y7)) hS9 .hd rfl rfl rfl rfl rfl rfl (onesB rfl)) (fun w59 hS60 hT8 => ?_)
  refine RD.done (doneD_ok kt0 (by kernel_rfl)) <| MX.sr <| RG.vv (FV.makeFunc (vs := []) (us := [.pointer (some ⟨b3, 0, none⟩)]) evs_nil (evs_cons rfl evs_nil)) rfl <| RG.sg rfl rfl <| RG.nil <| MX.seq ?_
  refine MX.drawT 7 tb51_4 (by kernel_rfl) (by kernel_rfl) (by kernel_rfl) (fun kt1 kp1 => ?_)
  obtain ⟨y8, hy5, h⟩ := bind_in h
  rcases y8 with e3 | y9
  ·skip
   have h := exc_e h
   try dsimp only at h
   refine RD.vw 0 1 kt1 rfl kp1 (fun _ => FV.move rfl) rfl <| RD.vx 2 5 504 kt1 rfl kp1 (FV.loadN (by kernel_rfl) rfl (hS60.memA (.tl (.tl .hd)))) rfl <| RD.one (i := 1) (readyD_ok kt1 (by kernel_rfl)) (RO.callE (fst := []) (cap := []) rfl .plain body70 rfl (evs_cons rfl (evs_cons rfl evs_nil)) (fun w9 hw9 => balance_of_c n _ w9 (hS60.hL0 hL hw9) (1 : Int) (1 : Int) hy5) (fun w67 hag4 => ?_))
   obtain ⟨hS69, hT70⟩ := hS60.agr hag4
   obtain rfl := Option.some.inj h
   exact PN.leave hp0 Tryz.func51 ⟨hS69.ag, rfl⟩
  have h := exc_o h
  try dsimp only at h
  refine RD.vw 0 1 kt1 rfl kp1 (fun _ => FV.move rfl) rfl <| RD.cq 1 3 504 (.agg ((cs_TShare y9)).toArray) kt1 rfl kp1 body70 rfl (evs_cons rfl (evs_cons rfl evs_nil)) (fun w9 hw9 => Calls.okp (balance_of_c n _ w9 (hS60.hL0 hL hw9) (1 : Int) (1 : Int) hy5)) rfl <| RD.vx 2 7 504 kt1 rfl kp1 (FV.loadN (by kernel_rfl) rfl (hS60.memA (.tl (.tl .hd)))) rfl ?_
  obtain ⟨y72, hy6, h⟩ := bind_in h
  refine RD.cq 3 15 496 (.tuple #[.agg ((cs_TShare y72.1)).toArray, .int .i64 y72.2]) kt1 rfl kp1 body24 rfl (evs_cons rfl (evs_cons rfl evs_nil)) (fun w9 hw9 => share_Sub_c n _ w9 (hS60.hL0 hL hw9) y9 a1 hy6) rfl <| RD.vw 4 31 kt1 rfl kp1 (fun _ => FV.extract rfl rfl) rfl <| RD.vw 5 63 kt1 rfl kp1 (fun _ => FV.extract rfl rfl) rfl ?_
  obtain ⟨y73, hy7, h⟩ := bind_in h
  rcases y73 with e4 | y75
  ·skip
   have h := exc_e h
   try dsimp only at h
   refine RD.one (i := 6) (readyD_ok kt1 (by kernel_rfl)) (RO.callE (fst := []) (cap := []) rfl .plain body76 rfl (evs_cons rfl (evs_cons rfl evs_nil)) (fun w9 hw9 => balance_must_api_Share_c n _ w9 (hS60.hL0 hL hw9) y72.1 y72.2 hy7) (fun w76 hag5 => ?_))
   obtain ⟨hS78, hT79⟩ := hS60.agr hag5
   obtain rfl := Option.some.inj h
   exact PN.leave hp0 Tryz.func51 ⟨hS78.ag, rfl⟩
  have h := exc_o h
  try dsimp only at h
  refine RD.cq 6 127 384 (.agg ((cs_TShare y75)).toArray) kt1 rfl kp1 body76 rfl (evs_cons rfl (evs_cons rfl evs_nil)) (fun w9 hw9 => Calls.okp (balance_must_api_Share_c n _ w9 (hS60.hL0 hL hw9) y72.1 y72.2 hy7)) rfl <| RD.one (i := 7) (readyD_ok kt1 (by kernel_rfl)) (RO.enterPT (m' := 255) (fst := []) (cap := [.pointer (some ⟨b3, 0, none⟩)]) (vs := [.agg ((cs_TShare y75)).toArray, .func (.func 107) #[] #[]]) (stepC_ok kt1 (by kernel_rfl)) rfl rfl .plain body104 Tryz.func104 rfl rfl rfl rfl (evs_cons rfl (evs_cons rfl evs_nil)) rfl (fun _ cs1 hb1 hp1 => ?_))
  refine MX.sr <| RG.new .plain rfl (Does.box (vs := (cs_TShare y75)) hS60 rfl rfl) (fun w85 b4 hS86 hT87 => ?_)
  refine RG.sg rfl rfl <| RG.nil <| MX.sr <| RG.mv rfl rfl <| RG.vv (FV.loadN (by kernel_rfl) rfl (hS86.memA .hd)) rfl <| RG.vv (FV.loadN (by kernel_rfl) rfl (hS86.memA (.tl .hd))) rfl ?_
  obtain ⟨y89, hy8, h⟩ := bind_in h
  refine RG.cq (.tuple #[.agg ((cs_TShare y89.1)).toArray, .int .i64 y89.2]) body25 rfl (evs_cons rfl (evs_cons rfl evs_nil)) (fun w9 hw9 => share_Mul_c n _ w9 (hS86.hL0 hL hw9) y75 y7 hy8) rfl <| RG.vv (FV.extract rfl rfl) rfl <| RG.vv (FV.extract rfl rfl) rfl ?_
  obtain ⟨y90, hy9, h⟩ := bind_in h
  rcases y90 with e5 | y92
  ·skip
   have h := exc_e h
   try dsimp only at h
   refine RG.callE (fst := []) (cap := []) .plain body76 rfl (evs_cons rfl (evs_cons rfl evs_nil)) (fun w9 hw9 => balance_must_api_Share_c n _ w9 (hS86.hL0 hL hw9) y89.1 y89.2 hy9) (fun w93 hag6 => ?_)
   obtain ⟨hS95, hT96⟩ := hS86.agr hag6
   refine PN.leave hp1 Tryz.func104 ?_
   obtain rfl := Option.some.inj h
   exact PN.leave hp0 Tryz.func51 ⟨hS95.ag, rfl⟩
  have h := exc_o h
  try dsimp only at h
  refine RG.cq (.agg ((cs_TShare y92)).toArray) body76 rfl (evs_cons rfl (evs_cons rfl evs_nil)) (fun w9 hw9 => Calls.okp (balance_must_api_Share_c n _ w9 (hS86.hL0 hL hw9) y89.1 y89.2 hy9)) rfl ?_
  obtain ⟨y98, hy98, h⟩ := bind_in h
  refine RG.cq (.tuple #[.agg ((cs_A34 y98.1)).toArray, .int .i64 y98.2]) body107 rfl (evs_cons rfl evs_nil) (fun w9 hw9 => share_Ceil_c n _ w9 (hS86.hL0 hL hw9) y92 hy98) rfl <| RG.vv (FV.extract rfl rfl) rfl <| RG.vv (FV.extract rfl rfl) rfl ?_
  obtain ⟨y99, hy99, h⟩ := bind_in h
  rcases y99 with e6 | y10
  ·skip
   have h := exc_e h
   try dsimp only at h
   refine RG.callE (fst := []) (cap := []) .plain body106 rfl (evs_cons rfl (evs_cons rfl evs_nil)) (fun w9 hw9 => balance_must_api_Wide_c n _ w9 (hS86.hL0 hL hw9) y98.1 y98.2 hy99) (fun w10 hag7 => ?_)
   obtain ⟨hS10, hT10⟩ := hS86.agr hag7
   refine PN.leave hp1 Tryz.func104 ?_
   obtain rfl := Option.some.inj h
   exact PN.leave hp0 Tryz.func51 ⟨hS10.ag, rfl⟩
  have h := exc_o h
  try dsimp only at h
  refine RG.cq (.agg ((cs_A34 y10)).toArray) body106 rfl (evs_cons rfl (evs_cons rfl evs_nil)) (fun w9 hw9 => Calls.okp (balance_must_api_Wide_c n _ w9 (hS86.hL0 hL hw9) y98.1 y98.2 hy99)) rfl ?_
  obtain ⟨y11, hy10, h⟩ := bind_in h
  refine RG.cq (.tuple #[.int .i64 y11.1, .int .i64 y11.2]) body105 rfl (evs_cons rfl evs_nil) (fun w9 hw9 => wide_Int_c n _ w9 (hS86.hL0 hL hw9) y10 hy10) rfl <| RG.vv (FV.extract rfl rfl) rfl <| RG.vv (FV.extract rfl rfl) rfl ?_
  obtain ⟨y12, hy11, h⟩ := bind_in h
  rcases y12 with e7 | y13
  ·skip
   have h := exc_e h
   try dsimp only at h
   refine RG.callE (fst := []) (cap := []) .plain body102 rfl (evs_cons rfl (evs_cons rfl evs_nil)) (fun w9 hw9 => balance_must_int_c n _ w9 (hS86.hL0 hL hw9) y11.1 y11.2 hy11) (fun w11 hag8 => ?_)
   obtain ⟨hS11, hT11⟩ := hS86.agr hag8
   refine PN.leave hp1 Tryz.func104 ?_
   obtain rfl := Option.some.inj h
   exact PN.leave hp0 Tryz.func51 ⟨hS11.ag, rfl⟩
  have h := exc_o h
  try dsimp only at h
  refine RG.cq (.int .i64 y13) body102 rfl (evs_cons rfl (evs_cons rfl evs_nil)) (fun w9 hw9 => Calls.okp (balance_must_int_c n _ w9 (hS86.hL0 hL hw9) y11.1 y11.2 hy11)) rfl <| RG.sg rfl rfl <| RG.nil <| MX.ret rfl <| RT.leave (u := .int .i64 y13) hb1 Tryz.func104 rfl (.cons (.tmp rfl) .nil) rfl <| RD.one (i := 8) (readyD_ok kt1 (by kernel_rfl)) (RO.val (m' := 511) (stepC_ok kt1 (by kernel_rfl)) rfl .plain rfl (FV.assign rfl) ?_)
  refine RD.done (doneD_ok kt1 (by kernel_rfl)) <| MX.seq <| MX.drawT 7 tb51_5 (by kernel_rfl) (by kernel_rfl) (by kernel_rfl) (fun kt2 kp2 => ?_)
  obtain ⟨y14, hy12, h⟩ := bind_in h
  rcases y14 with e8 | y15
  ·skip
   have h := exc_e h
   try dsimp only at h
   refine RD.vw 0 1 kt2 rfl kp2 (fun _ => FV.move rfl) rfl <| RD.vx 2 5 504 kt2 rfl kp2 (FV.loadN (by kernel_rfl) rfl (hS86.memA (.tl (.tl (.tl .hd))))) rfl <| RD.one (i := 1) (readyD_ok kt2 (by kernel_rfl)) (RO.callE (fst := []) (cap := []) rfl .plain body70 rfl (evs_cons rfl (evs_cons rfl evs_nil)) (fun w9 hw9 => balance_of_c n _ w9 (hS86.hL0 hL hw9) (1 : Int) (1 : Int) hy12) (fun w13 hag9 => ?_))
   obtain ⟨hS12, hT12⟩ := hS86.agr hag9
   obtain rfl := Option.some.inj h
   exact PN.leave hp0 Tryz.func51 ⟨hS12.ag, rfl⟩
  have h := exc_o h
  try dsimp only at h
  refine RD.vw 0 1 kt2 rfl kp2 (fun _ => FV.move rfl) rfl <| RD.cq 1 3 504 (.agg ((cs_TShare y15)).toArray) kt2 rfl kp2 body70 rfl (evs_cons rfl (evs_cons rfl evs_nil)) (fun w9 hw9 => Calls.okp (balance_of_c n _ w9 (hS86.hL0 hL hw9) (1 : Int) (1 : Int) hy12)) rfl <| RD.vx 2 7 504 kt2 rfl kp2 (FV.loadN (by kernel_rfl) rfl (hS86.memA (.tl (.tl (.tl .hd))))) rfl ?_
  obtain ⟨y18, hy13, h⟩ := bind_in h
  refine RD.cq 3 15 496 (.tuple #[.agg ((cs_TShare y18.1)).toArray, .int .i64 y18.2]) kt2 rfl kp2 body26 rfl (evs_cons rfl (evs_cons rfl evs_nil)) (fun w9 hw9 => share_Add_c n _ w9 (hS86.hL0 hL hw9) y15 a1 hy13) rfl <| RD.vw 4 31 kt2 rfl kp2 (fun _ => FV.extract rfl rfl) rfl <| RD.vw 5 63 kt2 rfl kp2 (fun _ => FV.extract rfl rfl) rfl ?_
  obtain ⟨y20, hy14, h⟩ := bind_in h
  rcases y20 with e9 | y21
  ·skip
   have h := exc_e h
   try dsimp only at h
   refine RD.one (i := 6) (readyD_ok kt2 (by kernel_rfl)) (RO.callE (fst := []) (cap := []) rfl .plain body76 rfl (evs_cons rfl (evs_cons rfl evs_nil)) (fun w9 hw9 => balance_must_api_Share_c n _ w9 (hS86.hL0 hL hw9) y18.1 y18.2 hy14) (fun w14 hag10 => ?_))
   obtain ⟨hS14, hT13⟩ := hS86.agr hag10
   obtain rfl := Option.some.inj h
   exact PN.leave hp0 Tryz.func51 ⟨hS14.ag, rfl⟩
  have h := exc_o h
  try dsimp only at h
  refine RD.cq 6 127 384 (.agg ((cs_TShare y21)).toArray) kt2 rfl kp2 body76 rfl (evs_cons rfl (evs_cons rfl evs_nil)) (fun w9 hw9 => Calls.okp (balance_must_api_Share_c n _ w9 (hS86.hL0 hL hw9) y18.1 y18.2 hy14)) rfl <| RD.one (i := 7) (readyD_ok kt2 (by kernel_rfl)) (RO.enterPT (m' := 255) (fst := []) (cap := [.pointer (some ⟨b3, 0, none⟩)]) (vs := [.agg ((cs_TShare y21)).toArray, .func (.func 108) #[] #[]]) (stepC_ok kt2 (by kernel_rfl)) rfl rfl .plain body104 Tryz.func104 rfl rfl rfl rfl (evs_cons rfl (evs_cons rfl evs_nil)) rfl (fun _ cs2 hb2 hp2 => ?_))
  refine MX.sr <| RG.new .plain rfl (Does.box (vs := (cs_TShare y21)) hS86 rfl rfl) (fun w15 b6 hS15 hT15 => ?_)
  refine RG.sg rfl rfl <| RG.nil <| MX.sr <| RG.mv rfl rfl <| RG.vv (FV.loadN (by kernel_rfl) rfl (hS15.memA .hd)) rfl <| RG.vv (FV.loadN (by kernel_rfl) rfl (hS15.memA (.tl (.tl .hd)))) rfl ?_
  obtain ⟨y22, hy15, h⟩ := bind_in h
  refine RG.cq (.tuple #[.agg ((cs_TShare y22.1)).toArray, .int .i64 y22.2]) body25 rfl (evs_cons rfl (evs_cons rfl evs_nil)) (fun w9 hw9 => share_Mul_c n _ w9 (hS15.hL0 hL hw9) y21 y7 hy15) rfl <| RG.vv (FV.extract rfl rfl) rfl <| RG.vv (FV.extract rfl rfl) rfl ?_
  obtain ⟨y23, hy18, h⟩ := bind_in h
  rcases y23 with e10 | y24
  ·skip
   have h := exc_e h
   try dsimp only at h
   refine RG.callE (fst := []) (cap := []) .plain body76 rfl (evs_cons rfl (evs_cons rfl evs_nil)) (fun w9 hw9 => balance_must_api_Share_c n _ w9 (hS15.hL0 hL hw9) y22.1 y22.2 hy18) (fun w16 hag11 => ?_)
   obtain ⟨hS16, hT16⟩ := hS15.agr hag11
   refine PN.leave hp2 Tryz.func104 ?_
   obtain rfl := Option.some.inj h
   exact PN.leave hp0 Tryz.func51 ⟨hS16.ag, rfl⟩
  have h := exc_o h
  try dsimp only at h
  refine RG.cq (.agg ((cs_TShare y24)).toArray) body76 rfl (evs_cons rfl (evs_cons rfl evs_nil)) (fun w9 hw9 => Calls.okp (balance_must_api_Share_c n _ w9 (hS15.hL0 hL hw9) y22.1 y22.2 hy18)) rfl ?_
  obtain ⟨y26, hy19, h⟩ := bind_in h
  refine RG.cq (.tuple #[.agg ((cs_A34 y26.1)).toArray, .int .i64 y26.2]) body108 rfl (evs_cons rfl evs_nil) (fun w9 hw9 => share_Floor_c n _ w9 (hS15.hL0 hL hw9) y24 hy19) rfl <| RG.vv (FV.extract rfl rfl) rfl <| RG.vv (FV.extract rfl rfl) rfl ?_
  obtain ⟨y28, hy20, h⟩ := bind_in h
  rcases y28 with e11 | y29
  ·skip
   have h := exc_e h
   try dsimp only at h
   refine RG.callE (fst := []) (cap := []) .plain body106 rfl (evs_cons rfl (evs_cons rfl evs_nil)) (fun w9 hw9 => balance_must_api_Wide_c n _ w9 (hS15.hL0 hL hw9) y26.1 y26.2 hy20) (fun w17 hag12 => ?_)
   obtain ⟨hS17, hT17⟩ := hS15.agr hag12
   refine PN.leave hp2 Tryz.func104 ?_
   obtain rfl := Option.some.inj h
   exact PN.leave hp0 Tryz.func51 ⟨hS17.ag, rfl⟩
  have h := exc_o h
  try dsimp only at h
  refine RG.cq (.agg ((cs_A34 y29)).toArray) body106 rfl (evs_cons rfl (evs_cons rfl evs_nil)) (fun w9 hw9 => Calls.okp (balance_must_api_Wide_c n _ w9 (hS15.hL0 hL hw9) y26.1 y26.2 hy20)) rfl ?_
  obtain ⟨y30, hy21, h⟩ := bind_in h
  refine RG.cq (.tuple #[.int .i64 y30.1, .int .i64 y30.2]) body105 rfl (evs_cons rfl evs_nil) (fun w9 hw9 => wide_Int_c n _ w9 (hS15.hL0 hL hw9) y29 hy21) rfl <| RG.vv (FV.extract rfl rfl) rfl <| RG.vv (FV.extract rfl rfl) rfl ?_
  obtain ⟨y31, hy22, h⟩ := bind_in h
  rcases y31 with e12 | y32
  ·skip
   have h := exc_e h
   try dsimp only at h
   refine RG.callE (fst := []) (cap := []) .plain body102 rfl (evs_cons rfl (evs_cons rfl evs_nil)) (fun w9 hw9 => balance_must_int_c n _ w9 (hS15.hL0 hL hw9) y30.1 y30.2 hy22) (fun w18 hag13 => ?_)
   obtain ⟨hS18, hT18⟩ := hS15.agr hag13
   refine PN.leave hp2 Tryz.func104 ?_
   obtain rfl := Option.some.inj h
   exact PN.leave hp0 Tryz.func51 ⟨hS18.ag, rfl⟩
  have h := exc_o h
  try dsimp only at h
  refine RG.cq (.int .i64 y32) body102 rfl (evs_cons rfl (evs_cons rfl evs_nil)) (fun w9 hw9 => Calls.okp (balance_must_int_c n _ w9 (hS15.hL0 hL hw9) y30.1 y30.2 hy22)) rfl <| RG.sg rfl rfl <| RG.nil <| MX.ret rfl <| RT.leave (u := .int .i64 y32) hb2 Tryz.func104 rfl (.cons (.tmp rfl) .nil) rfl <| RD.one (i := 8) (readyD_ok kt2 (by kernel_rfl)) (RO.val (m' := 511) (stepC_ok kt2 (by kernel_rfl)) rfl .plain rfl (FV.assign rfl) ?_)
  refine RD.done (doneD_ok kt2 (by kernel_rfl)) <| MX.sr <| RG.mv rfl rfl <| RG.mv rfl rfl <| RG.vv (FV.buildV (vs := [.int .i64 y13, .int .i64 y32]) (u := .agg #[.int .i64 y13, .int .i64 y32]) (evs_cons rfl (evs_cons rfl evs_nil)) (fun w9 => by kernel_rfl)) rfl <| RG.now .plain (Acts.storeAll (news := [.int .i64 y13, .int .i64 y32]) hS15 (.tl (.tl (.tl .hd))) rfl rfl rfl rfl rfl rfl (onesB rfl)) (fun w19 hS19 hT19 => ?_)
  refine RG.nil <| MX.ret rfl <| RT.leave hb0 Tryz.func51 rfl (.cons (.many (cs := [.int .i64 y13, .int .i64 y32]) (by kernel_rfl) rfl (hS19.memA (.tl (.tl (.tl .hd))))) .nil) rfl ?_
  obtain rfl := Option.some.inj h
  exact ⟨hS19.ag, fun w9 hw9 => okOf_in rfl⟩
def tb49_1 : List (Nat × Nat × Nat) := [(0, 16, 1), (0, 32, 2), (3, 64, 48), (0, 128, 4), (12, 256, 192), (31, 0, 264)]
theorem body50 : bodyB Tryz.prog 50 = true := by kernel_rfl
theorem body51 : bodyB Tryz.prog 51 = true := by kernel_rfl
def balance_Bounds_1_p (n : Nat) (a0 : TRoll) (a1 : Int) (a2 : TShare) : Option (Except Tbroken Tbounds) :=
  (balance_counted_p n a0 a1).bind fun y8 => exc y8 (fun y0 => (balance_count_within_p n y0 a2).bind fun y1 => exc y1 (fun y2 => some (.ok y2)) (fun e0 => some (.error e0))) (fun e9 => some (.error e9))
theorem balance_Bounds_1_c (n : Nat) (L : List Nat) (w : World) (hL : ∀ b ∈ L, b < w.heap.size) (a0 : TRoll) {v0_3 : Value} (h0_3 : Rep.R w L [v0_3] a0.fUnits) {p0 : Nat} (m0 : ∀ j9 v9, ([.int .i64 a0.fGroups, .int .i64 a0.fParties, .int .i64 a0.fLevels, v0_3] : List Value)[j9]? = some v9 → w.cell? ((⟨p0, 0, none⟩ : Addr).add j9) = some v9) (a1 : Int) {p1 : Nat} (m1 : ∀ j9 v9, ([.int .i64 a1] : List Value)[j9]? = some v9 → w.cell? ((⟨p1, 0, none⟩ : Addr).add j9) = some v9) (a2 : TShare) {p2 : Nat} (m2 : ∀ j9 v9, ((cs_TShare a2) : List Value)[j9]? = some v9 → w.cell? ((⟨p2, 0, none⟩ : Addr).add j9) = some v9)  {r : Except Tbroken Tbounds} (h : balance_Bounds_1_p n a0 a1 a2 = some r) :
    Calls Tryz.prog 49 #[.pointer (some ⟨p0, 0, none⟩), .pointer (some ⟨p1, 0, none⟩), .pointer (some ⟨p2, 0, none⟩)] w (PGives w (fun (y : Tbounds) _ u => u = .agg #[.int .i64 y.flow, .int .i64 y.fhigh]) (fun e => .iface 140 (.agg #[.int .i64 e.fErrno])) r) := by
  unfold balance_Bounds_1_p at h
  have hS0 := St.start w
  refine MX.startP Tryz.func49 rfl rfl rfl (fun _ cs0 hb0 hp0 => ?_)
  refine MX.sr <| RG.new .plain rfl (Does.alloc (zs := [.int .i64 0, .int .i64 0]) hS0 (zB (by kernel_rfl))) (fun w2 b5 hS3 hT4 => ?_)
  refine RG.nil <| MX.seq <| MX.drawT 5 tb49_1 (by kernel_rfl) (by kernel_rfl) (by kernel_rfl) (fun kt6 kp7 => ?_)
  refine RD.vx 0 1 52 kt6 rfl kp7 (FV.loadN (by kernel_rfl) rfl (fun j9 v9 h9 => hS3.ag.cell0 (m0 j9 v9 h9))) rfl <| RD.vx 1 3 52 kt6 rfl kp7 (FV.load1 (by kernel_rfl) rfl ((fun j9 v9 h9 => hS3.ag.cell0 (m1 j9 v9 h9)) 0 _ rfl)) rfl ?_
  obtain ⟨y8, hy8, h⟩ := bind_in h
  rcases y8 with e9 | y0
  ·skip
   have h := exc_e h
   try dsimp only at h
   refine RD.vx 3 11 48 kt6 rfl kp7 (FV.loadN (by kernel_rfl) rfl (fun j9 v9 h9 => hS3.ag.cell0 (m2 j9 v9 h9))) rfl ?_
   have hm0 := Rep.mv h0_3 hT4
   refine RD.one (i := 2) (readyD_ok kt6 (by kernel_rfl)) (RO.callE (fst := []) (cap := []) rfl .plain body50 rfl (evs_cons rfl (evs_cons rfl evs_nil)) (fun w9 hw9 => balance_counted_c n _ w9 (hS3.hL hL hw9) a0 (Rep.keep0 hm0 hw9) a1 hy8) (fun w0 hag0 => ?_))
   obtain ⟨hS1, hT0⟩ := hS3.agr hag0
   obtain rfl := Option.some.inj h
   exact PN.leave hp0 Tryz.func49 ⟨hS1.ag, rfl⟩
  have h := exc_o h
  try dsimp only at h
  refine RD.vx 3 11 48 kt6 rfl kp7 (FV.loadN (by kernel_rfl) rfl (fun j9 v9 h9 => hS3.ag.cell0 (m2 j9 v9 h9))) rfl ?_
  have hm1 := Rep.mv h0_3 hT4
  refine RD.cl 2 15 kt6 rfl .plain body50 rfl (evs_cons rfl (evs_cons rfl evs_nil)) (fun w9 hw9 => Calls.okp (balance_counted_c n _ w9 (hS3.hL hL hw9) a0 (Rep.keep0 hm1 hw9) a1 hy8)) rfl (fun w1 vu0 hag1 ⟨v0, hu_, hr0⟩ => ?_)
  subst hu_
  obtain ⟨hS2, hT1⟩ := hS3.agr hag1
  obtain ⟨y1, hy0, h⟩ := bind_in h
  rcases y1 with e0 | y2
  ·skip
   have h := exc_e h
   try dsimp only at h
   refine RD.one (i := 4) (readyD_ok kt6 (by kernel_rfl)) (RO.callE (fst := []) (cap := []) rfl .plain body51 rfl (evs_cons rfl (evs_cons rfl evs_nil)) (fun w9 hw9 => balance_count_within_c n _ w9 (hS2.hL0 hL hw9) y0 (Rep.keep0 (Rep.dropS hS2 hr0) hw9) a2 hy0) (fun w3 hag2 => ?_))
   obtain ⟨hS4, hT2⟩ := hS2.agr hag2
   obtain rfl := Option.some.inj h
   exact PN.leave hp0 Tryz.func49 ⟨hS4.ag, rfl⟩
  have h := exc_o h
  try dsimp only at h
  refine RD.cq 4 31 32 (.agg #[.int .i64 y2.flow, .int .i64 y2.fhigh]) kt6 rfl kp7 body51 rfl (evs_cons rfl (evs_cons rfl evs_nil)) (fun w9 hw9 => Calls.okp (balance_count_within_c n _ w9 (hS2.hL0 hL hw9) y0 (Rep.keep0 (Rep.dropS hS2 hr0) hw9) a2 hy0)) rfl <| RD.nw 5 63 kt6 rfl rfl .plain (Acts.storeAll (news := [.int .i64 y2.flow, .int .i64 y2.fhigh]) hS2 .hd rfl rfl rfl rfl rfl rfl (onesB rfl)) (fun w4 hS5 hT3 => ?_)
  refine RD.done (doneD_ok kt6 (by kernel_rfl)) <| MX.ret rfl <| RT.leave hb0 Tryz.func49 rfl (.cons (.many (cs := [.int .i64 y2.flow, .int .i64 y2.fhigh]) (by kernel_rfl) rfl (hS5.memA .hd)) .nil) rfl ?_
  obtain rfl := Option.some.inj h
  exact ⟨hS5.ag, fun w9 hw9 => okOf_in rfl⟩
def tb99_6 : List (Nat × Nat × Nat) := [(0, 131072, 32), (0, 262144, 8), (2, 524288, 262144), (1, 0, 131073), (15, 0, 524290)]
def tb13_2 : List (Nat × Nat × Nat) := [(0, 32768, 512), (1, 65536, 32768), (0, 131072, 512), (4, 262144, 131072), (0, 524288, 256), (3, 64, 65536), (47, 128, 262144), (127, 256, 524288)]
theorem body48 : bodyB Tryz.prog 48 = true := by kernel_rfl
theorem body49 : bodyB Tryz.prog 49 = true := by kernel_rfl
theorem body99 : bodyB Tryz.prog 99 = true := by kernel_rfl
def balance_Bounds_p (n : Nat) (a0 : TRoll) (a1 : Int) (a2 : TShare) : Option (Int × Int × Int) :=
  (balance_Bounds_1_p n a0 a1 a2).bind fun y0 => exc y0 (fun y1 => some (y1.flow, y1.fhigh, (0 : Int))) (fun e0 => some ((0 : Int), (0 : Int), e0.fErrno))
theorem balance_Bounds_c (n : Nat) (L : List Nat) (w : World) (hL : ∀ b ∈ L, b < w.heap.size) (a0 : TRoll) {v0_3 : Value} (h0_3 : Rep.R w L [v0_3] a0.fUnits) (a1 : Int) (a2 : TShare)  {r : Int × Int × Int} (h : balance_Bounds_p n a0 a1 a2 = some r) :
    Calls Tryz.prog 13 #[.agg #[.int .i64 a0.fGroups, .int .i64 a0.fParties, .int .i64 a0.fLevels, v0_3], .int .i64 a1, .agg ((cs_TShare a2)).toArray] w (Gives w fun _ u => u = .tuple #[.int .i64 r.1, .int .i64 r.2.1, .int .i64 r.2.2]) := by
  unfold balance_Bounds_p at h
  have hS0 := St.start w
  refine MX.start Tryz.func13 rfl rfl rfl (fun _ cs0 hb0 => ?_)
  refine MX.sr <| RG.new .plain rfl (Does.box (vs := [.int .i64 a0.fGroups, .int .i64 a0.fParties, .int .i64 a0.fLevels, v0_3]) hS0 rfl rfl) (fun w2 b5 hS3 hT4 => ?_)
  refine RG.new .plain rfl (Does.box (vs := [.int .i64 a1]) hS3 rfl rfl) (fun w7 b0 hS8 hT9 => ?_)
  refine RG.new .plain rfl (Does.box (vs := (cs_TShare a2)) hS8 rfl rfl) (fun w0 b1 hS1 hT0 => ?_)
  refine RG.sg rfl rfl <| RG.sg rfl rfl <| RG.sg rfl rfl <| RG.nil <| MX.sr <| RG.vv (FV.makeFunc (vs := []) (us := [.pointer (some ⟨b5, 0, none⟩), .pointer (some ⟨b0, 0, none⟩), .pointer (some ⟨b1, 0, none⟩)]) evs_nil (evs_cons rfl (evs_cons rfl (evs_cons rfl evs_nil)))) rfl ?_
  refine RG.enterP (fst := []) (cap := []) (vs := [.func (.func 49) #[] #[.pointer (some ⟨b5, 0, none⟩), .pointer (some ⟨b0, 0, none⟩), .pointer (some ⟨b1, 0, none⟩)]]) .plain body48 Tryz.func48 rfl rfl rfl rfl (evs_cons rfl evs_nil) rfl (fun cs1 hb1 hp0 => ?_)
  refine MX.sr <| RG.new .plain rfl (Does.alloc (zs := [.int .i64 0, .int .i64 0]) hS1 (zB (by kernel_rfl))) (fun w1 b2 hS2 hT1 => ?_)
  refine RG.new .plain rfl (Does.alloc (zs := [.int .i64 0]) hS2 (zB (by kernel_rfl))) (fun w3 b3 hS4 hT2 => ?_)
  refine RG.nil <| MX.sr <| RG.vv (FV.makeFunc (vs := []) (us := [.pointer (some ⟨b2, 0, none⟩), .pointer (some ⟨b3, 0, none⟩)]) evs_nil (evs_cons rfl (evs_cons rfl evs_nil))) rfl <| RG.defer (fst := []) (cap := [.pointer (some ⟨b2, 0, none⟩), .pointer (some ⟨b3, 0, none⟩)]) (vs := []) rfl .plain rfl evs_nil <| RG.nil <| MX.sr ?_
  refine RG.mv rfl rfl ?_
  obtain ⟨y0, hy0, h⟩ := bind_in h
  rcases y0 with e0 | y1
  ·skip
   have h := exc_e h
   try dsimp only at h
   have hm0 := Rep.mv h0_3 (Tr.trans hT4 (Tr.trans hT9 (Tr.trans hT0 (Tr.trans hT1 hT2))))
   refine RG.callE (fst := []) (cap := [.pointer (some ⟨b5, 0, none⟩), .pointer (some ⟨b0, 0, none⟩), .pointer (some ⟨b1, 0, none⟩)]) .plain body49 rfl evs_nil (fun w9 hw9 => balance_Bounds_1_c n _ w9 (hS4.hL0 hL hw9) a0 (Rep.keep0 (Rep.dropS hS4 hm0) hw9) (fun j9 v9 h9 => hw9.cell0 ((hS4.memA (.tl (.tl (.tl (.tl .hd))))) j9 v9 h9)) a1 (fun j9 v9 h9 => hw9.cell0 ((hS4.memA (.tl (.tl (.tl .hd)))) j9 v9 h9)) a2 (fun j9 v9 h9 => hw9.cell0 ((hS4.memA (.tl (.tl .hd))) j9 v9 h9)) hy0) (fun w4 hag0 => ?_)
   obtain ⟨hS5, hT3⟩ := hS4.agr hag0
   refine PN.callD (vs := []) (cap := [.pointer (some ⟨b2, 0, none⟩), .pointer (some ⟨b3, 0, none⟩)]) body99 Tryz.func99 rfl rfl rfl (fun c0 hc0 hk0 => ?_)
   refine MX.sr <| RG.recover1 .plain hc0 rfl <| RG.sg rfl rfl <| RG.nil <| MX.sr <| RG.mv rfl rfl ?_
   refine RG.vv (FV.neqI Tryz.underlying20 rfl rfl) rfl <| RG.nil <| MX.cond_t rfl <| MX.sr <| RG.mv rfl rfl <| RG.vv (FV.assertT (by kernel_rfl) rfl) rfl ?_
   refine RG.mv rfl rfl <| RG.vv (FV.extract rfl rfl) rfl <| RG.vv (FV.extract rfl rfl) rfl <| RG.new .plain rfl (Does.alloc (zs := [.int .i64 0]) hS5 (zB (by kernel_rfl))) (fun w5 b4 hS6 hT5 => ?_)
   refine RG.now .plain (Acts.storeAll (news := [.int .i64 e0.fErrno]) hS6 .hd rfl rfl rfl rfl rfl rfl (ones_cons rfl ones_nil)) (fun w6 hS7 hT6 => ?_)
   refine RG.sg rfl rfl <| RG.nil <| MX.seq <| MX.sr <| RG.mv rfl rfl <| RG.vv (FV.not rfl) rfl ?_
   refine RG.nil <| MX.cond_f rfl <| MX.skip <| MX.sr <| RG.new .plain rfl (Does.alloc (zs := [.int .i64 0, .int .i64 0]) hS7 (zB (by kernel_rfl))) (fun w8 b6 hS9 hT7 => ?_)
   refine RG.nil <| MX.drawT 3 tb99_6 (by kernel_rfl) (by kernel_rfl) (by kernel_rfl) (fun kt0 kp0 => ?_)
   refine RD.vx 0 1 24 kt0 rfl kp0 (FV.loadN (by kernel_rfl) rfl (hS9.memA .hd)) rfl <| RD.vw 1 3 kt0 rfl kp0 (fun _ => FV.fieldAddr (off := 0) (by kernel_rfl) rfl) rfl <| RD.meet (α := Unit) (fun () => [(1, .pointer (some ⟨b3, 0, none⟩)), (19, .int .i64 e0.fErrno)]) (fun () wx0 => St w wx0 [.cells b3 [.int .i64 0] 51, .cells b2 [.int .i64 0, .int .i64 0] 93, .cells b1 (cs_TShare a2) 37, .cells b0 [.int .i64 a1] 3, .cells b5 [.int .i64 a0.fGroups, .int .i64 a0.fParties, .int .i64 a0.fLevels, v0_3] 44] ∧ Tr w8 [.cells b6 [.int .i64 0, .int .i64 0] 93, .cells b4 [.int .i64 e0.fErrno] 140, .cells b3 [.int .i64 0] 51, .cells b2 [.int .i64 0, .int .i64 0] 93, .cells b1 (cs_TShare a2) 37, .cells b0 [.int .i64 a1] 3, .cells b5 [.int .i64 a0.fGroups, .int .i64 a0.fParties, .int .i64 a0.fLevels, v0_3] 44] wx0 [.cells b3 [.int .i64 0] 51, .cells b2 [.int .i64 0, .int .i64 0] 93, .cells b1 (cs_TShare a2) 37, .cells b0 [.int .i64 a1] 3, .cells b5 [.int .i64 a0.fGroups, .int .i64 a0.fParties, .int .i64 a0.fLevels, v0_3] 44]) 1 15 ?_ ?_
   ·skip
    rintro ⟨⟩ wx0 ⟨hS10, hT8⟩
    try dsimp only
    refine RD.nw 4 31 kt0 rfl rfl .plain (Acts.storeAll (news := [.int .i64 e0.fErrno]) hS10 .hd rfl rfl rfl rfl rfl rfl (ones_cons rfl ones_nil)) (fun w10 hS11 hT10 => ?_)
    refine RD.done (doneD_ok kt0 (by kernel_rfl)) <| MX.fin rfl <| RT.leaveD1 hk0 Tryz.func99 rfl .nil <| RT.leave (u := .tuple #[.agg #[.int .i64 0, .int .i64 0], .int .i64 e0.fErrno]) hb1 Tryz.func48 rfl (.cons (.many (cs := [.int .i64 0, .int .i64 0]) (by kernel_rfl) rfl (hS11.memA (.tl .hd))) (.cons (.one (by kernel_rfl) rfl ((hS11.memA .hd) 0 _ rfl)) .nil)) rfl <| RG.mv rfl rfl <| RG.vv (FV.extract rfl rfl) rfl ?_
    refine RG.vv (FV.extract rfl rfl) rfl <| RG.new .plain rfl (Does.alloc (zs := [.int .i64 0, .int .i64 0]) hS11 (zB (by kernel_rfl))) (fun w11 b7 hS12 hT11 => ?_)
    refine RG.now .plain (Acts.storeAll (news := [.int .i64 0, .int .i64 0]) hS12 .hd rfl rfl rfl rfl rfl rfl (onesB rfl)) (fun w13 hS14 hT12 => ?_)
    refine RG.sg rfl rfl <| RG.nil <| MX.seq <| MX.drawT 8 tb13_2 (by kernel_rfl) (by kernel_rfl) (by kernel_rfl) (fun kt1 kp1 => ?_)
    refine RD.vw 0 1 kt1 rfl kp1 (fun _ => FV.fieldAddr (off := 0) (by kernel_rfl) rfl) rfl <| RD.vx 1 3 224 kt1 rfl kp1 (FV.load1 (by kernel_rfl) rfl ((hS14.memA .hd) 0 _ rfl)) rfl <| RD.vw 2 7 kt1 rfl kp1 (fun _ => FV.fieldAddr (off := 1) (by kernel_rfl) rfl) rfl <| RD.vx 3 15 192 kt1 rfl kp1 (FV.load1 (by kernel_rfl) rfl ((hS14.memA .hd) 1 _ rfl)) rfl <| RD.vw 4 31 kt1 rfl kp1 (fun _ => FV.move rfl) rfl <| RD.vw 5 63 kt1 rfl kp1 (fun _ => FV.assign rfl) rfl ?_
    refine RD.vw 6 127 kt1 rfl kp1 (fun _ => FV.assign rfl) rfl <| RD.vw 7 255 kt1 rfl kp1 (fun _ => FV.assign rfl) rfl <| RD.done (doneD_ok kt1 (by kernel_rfl)) <| MX.ret rfl <| RT.leave hb0 Tryz.func13 rfl (.cons (.tmp rfl) (.cons (.tmp rfl) (.cons (.tmp rfl) .nil))) rfl ?_
    obtain rfl := Option.some.inj h
    exact ⟨hS14.ag, fun w9 hw9 => rfl⟩
   ·skip
    intro hJ1274
    refine RD.each [2, 3] (readyD_ok kt0 (by kernel_rfl)) ⟨?_, ?_, trivial⟩
    ·skip
     refine RO.val (m' := 7) (stepC_ok kt0 (by kernel_rfl)) rfl .plain rfl (FV.load1 (by kernel_rfl) rfl ((hS9.memA (.tl .hd)) 0 _ rfl)) <| RD.nw 3 15 kt0 rfl rfl .plain (Acts.storeAll (news := [.int .i64 0, .int .i64 0]) hS9 (.tl (.tl (.tl .hd))) rfl rfl rfl rfl rfl rfl (onesB rfl)) (fun w14 hS15 hT13 => ?_)
     obtain ⟨hS16, hT15⟩ := St.arrB hS15 (.one (.tl (.tl .hd)) (.one (.tl (.tl .hd)) (.one (.tl (.tl .hd)) (.one (.tl (.tl .hd)) (.one (.tl (.tl .hd)) .done)))))
     exact hJ1274 () _ _ ⟨rfl, rfl, trivial⟩ ⟨hS16, (Tr.trans hT13 hT15)⟩
    ·skip
     refine RO.now (m' := 11) (stepC_ok kt0 (by kernel_rfl)) rfl rfl .plain (Acts.storeAll (news := [.int .i64 0, .int .i64 0]) hS9 (.tl (.tl (.tl .hd))) rfl rfl rfl rfl rfl rfl (onesB rfl)) (fun w14 hS15 hT13 => ?_)
     refine RD.vx 2 15 16 kt0 rfl kp0 (FV.load1 (by kernel_rfl) rfl ((hS15.memA (.tl .hd)) 0 _ rfl)) rfl ?_
     obtain ⟨hS17, hT16⟩ := St.arrB hS15 (.one (.tl (.tl .hd)) (.one (.tl (.tl .hd)) (.one (.tl (.tl .hd)) (.one (.tl (.tl .hd)) (.one (.tl (.tl .hd)) .done)))))
     exact hJ1274 () _ _ ⟨rfl, rfl, trivial⟩ ⟨hS17, (Tr.trans hT13 hT16)⟩
  have h := exc_o h
  try dsimp only at h
  have hm1 := Rep.mv h0_3 (Tr.trans hT4 (Tr.trans hT9 (Tr.trans hT0 (Tr.trans hT1 hT2))))
  refine RG.callq' (v := .agg #[.int .i64 y1.flow, .int .i64 y1.fhigh]) (fst := []) (cap := [.pointer (some ⟨b5, 0, none⟩), .pointer (some ⟨b0, 0, none⟩), .pointer (some ⟨b1, 0, none⟩)]) .plain body49 rfl evs_nil (fun w9 hw9 => Calls.okp (balance_Bounds_1_c n _ w9 (hS4.hL0 hL hw9) a0 (Rep.keep0 (Rep.dropS hS4 hm1) hw9) (fun j9 v9 h9 => hw9.cell0 ((hS4.memA (.tl (.tl (.tl (.tl .hd))))) j9 v9 h9)) a1 (fun j9 v9 h9 => hw9.cell0 ((hS4.memA (.tl (.tl (.tl .hd)))) j9 v9 h9)) a2 (fun j9 v9 h9 => hw9.cell0 ((hS4.memA (.tl (.tl .hd))) j9 v9 h9)) hy0)) rfl <| RG.now .plain (Acts.storeAll (news := [.int .i64 y1.flow, .int .i64 y1.fhigh]) hS4 (.tl .hd) rfl rfl rfl rfl rfl rfl (onesB rfl)) (fun w15 hS18 hT17 => ?_)
  refine RG.now .plain (Acts.storeAll (news := [.int .i64 0]) hS18 .hd rfl rfl rfl rfl rfl rfl (ones_cons rfl ones_nil)) (fun w16 hS19 hT18 => ?_)
  refine RG.nil <| MX.ret rfl <| RT.callD (vs := []) (cap := [.pointer (some ⟨b2, 0, none⟩), .pointer (some ⟨b3, 0, none⟩)]) body99 Tryz.func99 rfl rfl rfl (fun c1 hc1 hk1 => ?_)
  refine MX.sr <| RG.recover0 .plain hc1 rfl <| RG.sg rfl rfl <| RG.nil <| MX.sr <| RG.mv rfl rfl ?_
  refine RG.vv (FV.neqI0 Tryz.underlying20 rfl rfl) rfl <| RG.nil <| MX.cond_f rfl <| MX.skip <| MX.fin rfl <| RT.leaveD0 hc1 hk1 Tryz.func99 rfl .nil ?_
  refine RT.leave (u := .tuple #[.agg #[.int .i64 y1.flow, .int .i64 y1.fhigh], .int .i64 0]) hb1 Tryz.func48 rfl (.cons (.many (cs := [.int .i64 y1.flow, .int .i64 y1.fhigh]) (by kernel_rfl) rfl (hS19.memA (.tl .hd))) (.cons (.one (by kernel_rfl) rfl ((hS19.memA .hd) 0 _ rfl)) .nil)) rfl <| RG.mv rfl rfl <| RG.vv (FV.extract rfl rfl) rfl <| RG.vv (FV.extract rfl rfl) rfl <| RG.new .plain rfl (Does.alloc (zs := [.int .i64 0, .int .i64 0]) hS19 (zB (by kernel_rfl))) (fun w17 b8 hS20 hT19 => ?_)
  refine RG.now .plain (Acts.storeAll (news := [.int .i64 y1.flow, .int .i64 y1.fhigh]) hS20 .hd rfl rfl rfl rfl rfl rfl (onesB rfl)) (fun w18 hS22 hT20 => ?_)
  refine RG.sg rfl rfl <| RG.nil <| MX.seq <| MX.drawT 8 tb13_2 (by kernel_rfl) (by kernel_rfl) (by kernel_rfl) (fun kt2 kp2 => ?_)
  refine RD.vw 0 1 kt2 rfl kp2 (fun _ => FV.fieldAddr (off := 0) (by kernel_rfl) rfl) rfl <| RD.vx 1 3 224 kt2 rfl kp2 (FV.load1 (by kernel_rfl) rfl ((hS22.memA .hd) 0 _ rfl)) rfl <| RD.vw 2 7 kt2 rfl kp2 (fun _ => FV.fieldAddr (off := 1) (by kernel_rfl) rfl) rfl <| RD.vx 3 15 192 kt2 rfl kp2 (FV.load1 (by kernel_rfl) rfl ((hS22.memA .hd) 1 _ rfl)) rfl <| RD.vw 4 31 kt2 rfl kp2 (fun _ => FV.move rfl) rfl <| RD.vw 5 63 kt2 rfl kp2 (fun _ => FV.assign rfl) rfl ?_
  refine RD.vw 6 127 kt2 rfl kp2 (fun _ => FV.assign rfl) rfl <| RD.vw 7 255 kt2 rfl kp2 (fun _ => FV.assign rfl) rfl <| RD.done (doneD_ok kt2 (by kernel_rfl)) <| MX.ret rfl <| RT.leave hb0 Tryz.func13 rfl (.cons (.tmp rfl) (.cons (.tmp rfl) (.cons (.tmp rfl) .nil))) rfl ?_
  obtain rfl := Option.some.inj h
  exact ⟨hS22.ag, fun w9 hw9 => rfl⟩
end Go.Proofs.YtmhgoecnjleagaaGreatDoor
