/- Functions of the program, and what they give: part 3. -/
import Derived.Test.YtmpoojncffgjoaaGreatDoorPK2
namespace Go.Proofs.YtmpoojncffgjoaaGreatDoor
open Go Go.RowKit
set_option maxRecDepth 4000
set_option maxHeartbeats 4000000

def tb86_2 : List (Nat × Nat × Nat) := [(0, 64, 8), (1, 128, 64), (0, 256, 0), (0, 512, 8), (8, 1024, 512), (20, 2048, 1280), (34, 4096, 2176), (127, 0, 4100)]
theorem el98 : ElT Tryz.prog 98 35 (Rep.size UInt64) 8 (.int .u64 0) [.int .u64 0] := ⟨Tryz.underlying98, by kernel_rfl, rfl, rfl, rfl, rfl⟩
theorem body103 : bodyB Tryz.prog 103 = true := by kernel_rfl
theorem body105 : bodyB Tryz.prog 105 = true := by kernel_rfl
def wide_Longer_p (n : Nat) (a0 : UInt64 × UInt64 × UInt64 × UInt64 × UInt64 × UInt64 × UInt64 × UInt64) : Option TLong :=
  (wide_Read_p n a0).bind fun y0 => (app ([] : List UInt64) ([y0.fSize.1, y0.fSize.2.1, y0.fSize.2.2.1, y0.fSize.2.2.2.1, y0.fSize.2.2.2.2.1, y0.fSize.2.2.2.2.2.1, y0.fSize.2.2.2.2.2.2.1, y0.fSize.2.2.2.2.2.2.2] : List UInt64)).bind fun xs0 => (wide_trimmed_p n y0.fBelow xs0).bind fun y1 => some y1
theorem wide_Longer_c (n : Nat) (L : List Nat) (w : World) (hL : ∀ b ∈ L, b < w.heap.size) (a0 : UInt64 × UInt64 × UInt64 × UInt64 × UInt64 × UInt64 × UInt64 × UInt64)  {r : TLong} (h : wide_Longer_p n a0 = some r) :
    Calls Tryz.prog 86 #[.agg ((cs_A36 a0)).toArray] w (Gives w fun w' u => ∃ v0_1 : Value, u = .agg #[.bool r.fBelow, v0_1] ∧ Rep.R w' L [v0_1] r.fWords) := by
 unfold wide_Longer_p at h
 have hS0 := St.start w
 refine MX.start Tryz.func86 rfl rfl rfl (fun _ cs0 hb0 => ?_)
 refine MX.sr <| RG.new .plain rfl (Does.box (vs := (cs_A36 a0)) hS0 rfl rfl) (fun w2 b5 hS3 hT4 => ?_)
 refine RG.new .plain rfl (Does.alloc (zs := [.bool false, vN]) hS3 (zB (by kernel_rfl))) (fun w7 b0 hS8 hT9 => ?_)
 refine RG.nil <| MX.sr <| RG.va (FV.lN rfl (hS8.memA (.tl .hd))) ?_
 obtain ⟨y0, hy0, h⟩ := bind_in h
 refine RG.cq (.agg ((cs_TNumber y0)).toArray) body105 rfl (e1 rfl) (fun w9 hw9 => wide_Read_c n _ w9 (hS8.hL0 hL hw9) a0 hy0) rfl <| RG.new .plain rfl (Does.alloc (zs := [.bool false, .int .u64 0, .int .u64 0, .int .u64 0, .int .u64 0, .int .u64 0, .int .u64 0, .int .u64 0, .int .u64 0]) hS8 (zB (by kernel_rfl))) (fun w0 b1 hS1 hT0 => ?_)
 refine RG.now .plain (Acts.storeAll (news := (cs_TNumber y0)) hS1 .hd rfl rfl rfl rfl rfl rfl (onesB rfl)) (fun w1 hS2 hT1 => ?_)
 refine RG.nil <| MX.seq <| MX.drawT 5 tb86_2 (by kernel_rfl) (by kernel_rfl) (by kernel_rfl) (fun kt0 kp0 => ?_)
 refine RD.vw 0 1 kt0 rfl kp0 (fun _ => FV.fa 0 rfl) rfl <| RD.vw 3 9 kt0 rfl kp0 (fun _ => FV.fa 1 rfl) rfl <| RD.vx 4 25 224 kt0 rfl kp0 (FV.sliceA (len := 8) (m := 1) (p := Addr.add ⟨b1, 0, none⟩ 1) (by kernel_rfl) rfl) rfl ?_
 obtain ⟨xs0, hxs928, h⟩ := bind_in h
 refine RD.meet (α := Value × (List Value)) (fun ⟨v0, cs1⟩ => [(2, vP b0), (7, .bool y0.fBelow), (11, v0)]) (fun ⟨v0, cs1⟩ wx0 => St w wx0 [.row w.heap.size 35 (Rep.size UInt64) v0 xs0.length cs1, .cells b0 [.bool false, vN] 100] ∧ Tr w1 [.cells b1 (cs_TNumber y0) 154, .cells b0 [.bool false, vN] 100, .cells b5 (cs_A36 a0) 37] wx0 [.row w.heap.size 35 (Rep.size UInt64) v0 xs0.length cs1, .cells b0 [.bool false, vN] 100] ∧ Cells wx0 (bl [.row w.heap.size 35 (Rep.size UInt64) v0 xs0.length cs1, .cells b0 [.bool false, vN] 100] ++ L) cs1 (xs0 : List UInt64)) 2 63 ?_ ?_
 rintro ⟨v0, cs1⟩ wx0 ⟨hS4, hT2, hc0⟩
 try dsimp only
 have hr0 := St.freeze (α := UInt64) hS4 .hd hc0 hL
 have hS5 := St.delS hS4 .hd
 have hT3 := St.delT hS4 .hd
 have hr1 := Rep.at_ (α := UInt64) (v := v0) (xs := xs0) hS5 L hr0
 obtain ⟨y1, hy1, h⟩ := bind_in h
 refine RD.cl 6 127 kt0 rfl .plain body103 rfl (e2 rfl rfl) (fun w9 hw9 => wide_trimmed_c n _ w9 (hS5.hL hL hw9) y0.fBelow xs0 (Rep.keep0 hr1 hw9) hy1) rfl (fun w3 vu0 hag0 ⟨v1, hu_, hr2⟩ => ?_)
 subst hu_
 obtain ⟨hS6, hT5⟩ := hS5.agr hag0
 refine RD.nw 7 255 kt0 rfl rfl .plain (Acts.storeAll (news := [.bool y1.fBelow, v1]) hS6 .hd rfl rfl rfl rfl rfl rfl (o2 rfl (Rep.o1 hr2))) (fun w4 hS7 hT6 => ?_)
 refine RD.done (doneD_ok kt0 (by kernel_rfl)) <| MX.ret rfl <| RT.leave hb0 Tryz.func86 rfl (.cons (.many (cs := [.bool y1.fBelow, v1]) (by kernel_rfl) rfl (hS7.memA .hd)) .nil) rfl ?_
 cases h
 have hm0 := Rep.mv hr2 hT6
 exact ⟨hS7.ag, fun w9 hw9 => ⟨v1, rfl, hS7.kd hm0 hw9⟩⟩
 intro hJ1558
 refine RD.each [1, 2] (readyD_ok kt0 (by kernel_rfl)) ⟨?_, ?_, trivial⟩
 refine RO.val (m' := 27) (stepC_ok kt0 (by kernel_rfl)) rfl .plain rfl (FV.l1 rfl ((hS2.memA .hd) 0 _ rfl)) <| RD.nu 2 31 kt0 rfl .plain rfl (Does.build (α := UInt64) (xs := ([] : List UInt64)) (vs := []) (ds' := []) rfl hS2 el98 rfl evs_nil (by kernel_rfl) rfl) (fun w5 b2 hS9 hT7 => ?_)
 have hc1 := Cells.at_ (cs := []) (xs := (([] : List UInt64) : List UInt64)) hS9 L (Cells.nil _ _)
 refine RD.one (i := 5) (readyD_ok kt0 (by kernel_rfl)) (RO.doesL (m' := 63) (stepC_ok kt0 (by kernel_rfl)) rfl rfl .plain rfl (DoesL.app (α := UInt64) (ys := ([y0.fSize.1, y0.fSize.2.1, y0.fSize.2.2.1, y0.fSize.2.2.2.1, y0.fSize.2.2.2.2.1, y0.fSize.2.2.2.2.2.1, y0.fSize.2.2.2.2.2.2.1, y0.fSize.2.2.2.2.2.2.2] : List UInt64)) hxs928 hS9 (fun _ _ => .hd) el98 rfl rfl hc1 (Src.arr (ds := [.int .u64 (y0.fSize.1.toNat : Int), .int .u64 (y0.fSize.2.1.toNat : Int), .int .u64 (y0.fSize.2.2.1.toNat : Int), .int .u64 (y0.fSize.2.2.2.1.toNat : Int), .int .u64 (y0.fSize.2.2.2.2.1.toNat : Int), .int .u64 (y0.fSize.2.2.2.2.2.1.toNat : Int), .int .u64 (y0.fSize.2.2.2.2.2.2.1.toNat : Int), .int .u64 (y0.fSize.2.2.2.2.2.2.2.toNat : Int)]) (ys := ([y0.fSize.1, y0.fSize.2.1, y0.fSize.2.2.1, y0.fSize.2.2.2.1, y0.fSize.2.2.2.2.1, y0.fSize.2.2.2.2.2.1, y0.fSize.2.2.2.2.2.2.1, y0.fSize.2.2.2.2.2.2.2] : List UInt64)) (n := 8) (mem_part (hS9.memA (.tl .hd)) 1 8) (Cells.cons (cs := [.int .u64 (y0.fSize.1.toNat : Int)]) (ds := [.int .u64 (y0.fSize.2.1.toNat : Int), .int .u64 (y0.fSize.2.2.1.toNat : Int), .int .u64 (y0.fSize.2.2.2.1.toNat : Int), .int .u64 (y0.fSize.2.2.2.2.1.toNat : Int), .int .u64 (y0.fSize.2.2.2.2.2.1.toNat : Int), .int .u64 (y0.fSize.2.2.2.2.2.2.1.toNat : Int), .int .u64 (y0.fSize.2.2.2.2.2.2.2.toNat : Int)]) rfl (Cells.cons (cs := [.int .u64 (y0.fSize.2.1.toNat : Int)]) (ds := [.int .u64 (y0.fSize.2.2.1.toNat : Int), .int .u64 (y0.fSize.2.2.2.1.toNat : Int), .int .u64 (y0.fSize.2.2.2.2.1.toNat : Int), .int .u64 (y0.fSize.2.2.2.2.2.1.toNat : Int), .int .u64 (y0.fSize.2.2.2.2.2.2.1.toNat : Int), .int .u64 (y0.fSize.2.2.2.2.2.2.2.toNat : Int)]) rfl (Cells.cons (cs := [.int .u64 (y0.fSize.2.2.1.toNat : Int)]) (ds := [.int .u64 (y0.fSize.2.2.2.1.toNat : Int), .int .u64 (y0.fSize.2.2.2.2.1.toNat : Int), .int .u64 (y0.fSize.2.2.2.2.2.1.toNat : Int), .int .u64 (y0.fSize.2.2.2.2.2.2.1.toNat : Int), .int .u64 (y0.fSize.2.2.2.2.2.2.2.toNat : Int)]) rfl (Cells.cons (cs := [.int .u64 (y0.fSize.2.2.2.1.toNat : Int)]) (ds := [.int .u64 (y0.fSize.2.2.2.2.1.toNat : Int), .int .u64 (y0.fSize.2.2.2.2.2.1.toNat : Int), .int .u64 (y0.fSize.2.2.2.2.2.2.1.toNat : Int), .int .u64 (y0.fSize.2.2.2.2.2.2.2.toNat : Int)]) rfl (Cells.cons (cs := [.int .u64 (y0.fSize.2.2.2.2.1.toNat : Int)]) (ds := [.int .u64 (y0.fSize.2.2.2.2.2.1.toNat : Int), .int .u64 (y0.fSize.2.2.2.2.2.2.1.toNat : Int), .int .u64 (y0.fSize.2.2.2.2.2.2.2.toNat : Int)]) rfl (Cells.cons (cs := [.int .u64 (y0.fSize.2.2.2.2.2.1.toNat : Int)]) (ds := [.int .u64 (y0.fSize.2.2.2.2.2.2.1.toNat : Int), .int .u64 (y0.fSize.2.2.2.2.2.2.2.toNat : Int)]) rfl (Cells.cons (cs := [.int .u64 (y0.fSize.2.2.2.2.2.2.1.toNat : Int)]) (ds := [.int .u64 (y0.fSize.2.2.2.2.2.2.2.toNat : Int)]) rfl (Cells.cons (cs := [.int .u64 (y0.fSize.2.2.2.2.2.2.2.toNat : Int)]) (ds := []) rfl (Cells.nil _ _))))))))) rfl)) (fun v2 w6 ⟨cs2, hS10, hT8, hc2⟩ => ?_))
 obtain ⟨hS11, hT10⟩ := St.arrB hS10 (.one .hd (.one (.tl .hd) .done))
 have hm1 := Cells.mv hc2 hT10
 have hq1562 := Tr.trans hT7 (Tr.trans hT8 hT10)
 exact hJ1558 (v2, cs2) _ _ ⟨rfl, rfl, rfl, trivial⟩ ⟨hS11, hq1562, hm1⟩
 refine RO.new (m' := 29) (stepC_ok kt0 (by kernel_rfl)) rfl .plain rfl (Does.build (α := UInt64) (xs := ([] : List UInt64)) (vs := []) (ds' := []) rfl hS2 el98 rfl evs_nil (by kernel_rfl) rfl) (fun w5 b2 hS9 hT7 => ?_)
 have hc1 := Cells.at_ (cs := []) (xs := (([] : List UInt64) : List UInt64)) hS9 L (Cells.nil _ _)
 refine RD.each [1, 5] (readyD_ok kt0 (by kernel_rfl)) ⟨?_, ?_, trivial⟩
 refine RO.val (m' := 31) (stepC_ok kt0 (by kernel_rfl)) rfl .plain rfl (FV.l1 rfl ((hS9.memA (.tl .hd)) 0 _ rfl)) <| RD.one (i := 5) (readyD_ok kt0 (by kernel_rfl)) (RO.doesL (m' := 63) (stepC_ok kt0 (by kernel_rfl)) rfl rfl .plain rfl (DoesL.app (α := UInt64) (ys := ([y0.fSize.1, y0.fSize.2.1, y0.fSize.2.2.1, y0.fSize.2.2.2.1, y0.fSize.2.2.2.2.1, y0.fSize.2.2.2.2.2.1, y0.fSize.2.2.2.2.2.2.1, y0.fSize.2.2.2.2.2.2.2] : List UInt64)) hxs928 hS9 (fun _ _ => .hd) el98 rfl rfl hc1 (Src.arr (ds := [.int .u64 (y0.fSize.1.toNat : Int), .int .u64 (y0.fSize.2.1.toNat : Int), .int .u64 (y0.fSize.2.2.1.toNat : Int), .int .u64 (y0.fSize.2.2.2.1.toNat : Int), .int .u64 (y0.fSize.2.2.2.2.1.toNat : Int), .int .u64 (y0.fSize.2.2.2.2.2.1.toNat : Int), .int .u64 (y0.fSize.2.2.2.2.2.2.1.toNat : Int), .int .u64 (y0.fSize.2.2.2.2.2.2.2.toNat : Int)]) (ys := ([y0.fSize.1, y0.fSize.2.1, y0.fSize.2.2.1, y0.fSize.2.2.2.1, y0.fSize.2.2.2.2.1, y0.fSize.2.2.2.2.2.1, y0.fSize.2.2.2.2.2.2.1, y0.fSize.2.2.2.2.2.2.2] : List UInt64)) (n := 8) (mem_part (hS9.memA (.tl .hd)) 1 8) (Cells.cons (cs := [.int .u64 (y0.fSize.1.toNat : Int)]) (ds := [.int .u64 (y0.fSize.2.1.toNat : Int), .int .u64 (y0.fSize.2.2.1.toNat : Int), .int .u64 (y0.fSize.2.2.2.1.toNat : Int), .int .u64 (y0.fSize.2.2.2.2.1.toNat : Int), .int .u64 (y0.fSize.2.2.2.2.2.1.toNat : Int), .int .u64 (y0.fSize.2.2.2.2.2.2.1.toNat : Int), .int .u64 (y0.fSize.2.2.2.2.2.2.2.toNat : Int)]) rfl (Cells.cons (cs := [.int .u64 (y0.fSize.2.1.toNat : Int)]) (ds := [.int .u64 (y0.fSize.2.2.1.toNat : Int), .int .u64 (y0.fSize.2.2.2.1.toNat : Int), .int .u64 (y0.fSize.2.2.2.2.1.toNat : Int), .int .u64 (y0.fSize.2.2.2.2.2.1.toNat : Int), .int .u64 (y0.fSize.2.2.2.2.2.2.1.toNat : Int), .int .u64 (y0.fSize.2.2.2.2.2.2.2.toNat : Int)]) rfl (Cells.cons (cs := [.int .u64 (y0.fSize.2.2.1.toNat : Int)]) (ds := [.int .u64 (y0.fSize.2.2.2.1.toNat : Int), .int .u64 (y0.fSize.2.2.2.2.1.toNat : Int), .int .u64 (y0.fSize.2.2.2.2.2.1.toNat : Int), .int .u64 (y0.fSize.2.2.2.2.2.2.1.toNat : Int), .int .u64 (y0.fSize.2.2.2.2.2.2.2.toNat : Int)]) rfl (Cells.cons (cs := [.int .u64 (y0.fSize.2.2.2.1.toNat : Int)]) (ds := [.int .u64 (y0.fSize.2.2.2.2.1.toNat : Int), .int .u64 (y0.fSize.2.2.2.2.2.1.toNat : Int), .int .u64 (y0.fSize.2.2.2.2.2.2.1.toNat : Int), .int .u64 (y0.fSize.2.2.2.2.2.2.2.toNat : Int)]) rfl (Cells.cons (cs := [.int .u64 (y0.fSize.2.2.2.2.1.toNat : Int)]) (ds := [.int .u64 (y0.fSize.2.2.2.2.2.1.toNat : Int), .int .u64 (y0.fSize.2.2.2.2.2.2.1.toNat : Int), .int .u64 (y0.fSize.2.2.2.2.2.2.2.toNat : Int)]) rfl (Cells.cons (cs := [.int .u64 (y0.fSize.2.2.2.2.2.1.toNat : Int)]) (ds := [.int .u64 (y0.fSize.2.2.2.2.2.2.1.toNat : Int), .int .u64 (y0.fSize.2.2.2.2.2.2.2.toNat : Int)]) rfl (Cells.cons (cs := [.int .u64 (y0.fSize.2.2.2.2.2.2.1.toNat : Int)]) (ds := [.int .u64 (y0.fSize.2.2.2.2.2.2.2.toNat : Int)]) rfl (Cells.cons (cs := [.int .u64 (y0.fSize.2.2.2.2.2.2.2.toNat : Int)]) (ds := []) rfl (Cells.nil _ _))))))))) rfl)) (fun v2 w6 ⟨cs2, hS10, hT8, hc2⟩ => ?_))
 obtain ⟨hS12, hT11⟩ := St.arrB hS10 (.one .hd (.one (.tl .hd) .done))
 have hm2 := Cells.mv hc2 hT11
 have hq1566 := Tr.trans hT7 (Tr.trans hT8 hT11)
 exact hJ1558 (v2, cs2) _ _ ⟨rfl, rfl, rfl, trivial⟩ ⟨hS12, hq1566, hm2⟩
 refine RO.doesL (m' := 61) (stepC_ok kt0 (by kernel_rfl)) rfl rfl .plain rfl (DoesL.app (α := UInt64) (ys := ([y0.fSize.1, y0.fSize.2.1, y0.fSize.2.2.1, y0.fSize.2.2.2.1, y0.fSize.2.2.2.2.1, y0.fSize.2.2.2.2.2.1, y0.fSize.2.2.2.2.2.2.1, y0.fSize.2.2.2.2.2.2.2] : List UInt64)) hxs928 hS9 (fun _ _ => .hd) el98 rfl rfl hc1 (Src.arr (ds := [.int .u64 (y0.fSize.1.toNat : Int), .int .u64 (y0.fSize.2.1.toNat : Int), .int .u64 (y0.fSize.2.2.1.toNat : Int), .int .u64 (y0.fSize.2.2.2.1.toNat : Int), .int .u64 (y0.fSize.2.2.2.2.1.toNat : Int), .int .u64 (y0.fSize.2.2.2.2.2.1.toNat : Int), .int .u64 (y0.fSize.2.2.2.2.2.2.1.toNat : Int), .int .u64 (y0.fSize.2.2.2.2.2.2.2.toNat : Int)]) (ys := ([y0.fSize.1, y0.fSize.2.1, y0.fSize.2.2.1, y0.fSize.2.2.2.1, y0.fSize.2.2.2.2.1, y0.fSize.2.2.2.2.2.1, y0.fSize.2.2.2.2.2.2.1, y0.fSize.2.2.2.2.2.2.2] : List UInt64)) (n := 8) (mem_part (hS9.memA (.tl .hd)) 1 8) (Cells.cons (cs := [.int .u64 (y0.fSize.1.toNat : Int)]) (ds := [.int .u64 (y0.fSize.2.1.toNat : Int), .int .u64 (y0.fSize.2.2.1.toNat : Int), .int .u64 (y0.fSize.2.2.2.1.toNat : Int), .int .u64 (y0.fSize.2.2.2.2.1.toNat : Int), .int .u64 (y0.fSize.2.2.2.2.2.1.toNat : Int), .int .u64 (y0.fSize.2.2.2.2.2.2.1.toNat : Int), .int .u64 (y0.fSize.2.2.2.2.2.2.2.toNat : Int)]) rfl (Cells.cons (cs := [.int .u64 (y0.fSize.2.1.toNat : Int)]) (ds := [.int .u64 (y0.fSize.2.2.1.toNat : Int), .int .u64 (y0.fSize.2.2.2.1.toNat : Int), .int .u64 (y0.fSize.2.2.2.2.1.toNat : Int), .int .u64 (y0.fSize.2.2.2.2.2.1.toNat : Int), .int .u64 (y0.fSize.2.2.2.2.2.2.1.toNat : Int), .int .u64 (y0.fSize.2.2.2.2.2.2.2.toNat : Int)]) rfl (Cells.cons (cs := [.int .u64 (y0.fSize.2.2.1.toNat : Int)]) (ds := [.int .u64 (y0.fSize.2.2.2.1.toNat : Int), .int .u64 (y0.fSize.2.2.2.2.1.toNat : Int), .int .u64 (y0.fSize.2.2.2.2.2.1.toNat : Int), .int .u64 (y0.fSize.2.2.2.2.2.2.1.toNat : Int), .int .u64 (y0.fSize.2.2.2.2.2.2.2.toNat : Int)]) rfl (Cells.cons (cs := [.int .u64 (y0.fSize.2.2.2.1.toNat : Int)]) (ds := [.int .u64 (y0.fSize.2.2.2.2.1.toNat : Int), .int .u64 (y0.fSize.2.2.2.2.2.1.toNat : Int), .int .u64 (y0.fSize.2.2.2.2.2.2.1.toNat : Int), .int .u64 (y0.fSize.2.2.2.2.2.2.2.toNat : Int)]) rfl (Cells.cons (cs := [.int .u64 (y0.fSize.2.2.2.2.1.toNat : Int)]) (ds := [.int .u64 (y0.fSize.2.2.2.2.2.1.toNat : Int), .int .u64 (y0.fSize.2.2.2.2.2.2.1.toNat : Int), .int .u64 (y0.fSize.2.2.2.2.2.2.2.toNat : Int)]) rfl (Cells.cons (cs := [.int .u64 (y0.fSize.2.2.2.2.2.1.toNat : Int)]) (ds := [.int .u64 (y0.fSize.2.2.2.2.2.2.1.toNat : Int), .int .u64 (y0.fSize.2.2.2.2.2.2.2.toNat : Int)]) rfl (Cells.cons (cs := [.int .u64 (y0.fSize.2.2.2.2.2.2.1.toNat : Int)]) (ds := [.int .u64 (y0.fSize.2.2.2.2.2.2.2.toNat : Int)]) rfl (Cells.cons (cs := [.int .u64 (y0.fSize.2.2.2.2.2.2.2.toNat : Int)]) (ds := []) rfl (Cells.nil _ _))))))))) rfl)) (fun v2 w6 ⟨cs2, hS10, hT8, hc2⟩ => ?_)
 refine RD.vx 1 63 192 kt0 rfl kp0 (FV.l1 rfl ((hS10.memA (.tl .hd)) 0 _ rfl)) rfl ?_
 obtain ⟨hS13, hT12⟩ := St.arrB hS10 (.one .hd (.one (.tl .hd) .done))
 have hm3 := Cells.mv hc2 hT12
 have hq1570 := Tr.trans hT7 (Tr.trans hT8 hT12)
 exact hJ1558 (v2, cs2) _ _ ⟨rfl, rfl, rfl, trivial⟩ ⟨hS13, hq1570, hm3⟩
def stab0 : List UInt8 := [0, 1, 2, 2, 3, 3, 3, 3, 4, 4, 4, 4, 4, 4, 4, 4, 5, 5, 5, 5, 5, 5, 5, 5, 5, 5, 5, 5, 5, 5, 5, 5, 6, 6, 6, 6, 6, 6, 6, 6, 6, 6, 6, 6, 6, 6, 6, 6, 6, 6, 6, 6, 6, 6, 6, 6, 6, 6, 6, 6, 6, 6, 6, 6, 7, 7, 7, 7, 7, 7, 7, 7, 7, 7, 7, 7, 7, 7, 7, 7, 7, 7, 7, 7, 7, 7, 7, 7, 7, 7, 7, 7, 7, 7, 7, 7, 7, 7, 7, 7, 7, 7, 7, 7, 7, 7, 7, 7, 7, 7, 7, 7, 7, 7, 7, 7, 7, 7, 7, 7, 7, 7, 7, 7, 7, 7, 7, 7, 8, 8, 8, 8, 8, 8, 8, 8, 8, 8, 8, 8, 8, 8, 8, 8, 8, 8, 8, 8, 8, 8, 8, 8, 8, 8, 8, 8, 8, 8, 8, 8, 8, 8, 8, 8, 8, 8, 8, 8, 8, 8, 8, 8, 8, 8, 8, 8, 8, 8, 8, 8, 8, 8, 8, 8, 8, 8, 8, 8, 8, 8, 8, 8, 8, 8, 8, 8, 8, 8, 8, 8, 8, 8, 8, 8, 8, 8, 8, 8, 8, 8, 8, 8, 8, 8, 8, 8, 8, 8, 8, 8, 8, 8, 8, 8, 8, 8, 8, 8, 8, 8, 8, 8, 8, 8, 8, 8, 8, 8, 8, 8, 8, 8, 8, 8, 8, 8, 8, 8, 8, 8, 8, 8, 8, 8, 8, 8]
def math_bits_Len64_p (_n : Nat) (a0 : UInt64) : Option Int :=
  jn (fun (u2, i3) => jn (fun (u0, z0) => jn (fun (u1, z1) => (stab0[(u8of u1).toNat]?).bind fun z2 => (chk (z1 + ((z2.toNat : Nat) : Int))).bind fun s0 => some s0) (fun J0 => (if (256 : UInt64) ≤ u0 then (chk (z0 + 8)).bind fun s1 => J0 (shrU u0 8, s1) else J0 (u0, z0)))) (fun J1 => (if (65536 : UInt64) ≤ u2 then (chk (((i3 : Nat) : Int) + 16)).bind fun s2 => J1 (shrU u2 16, s2) else J1 (u2, ((i3 : Nat) : Int))))) (fun J7 => (if (4294967296 : UInt64) ≤ a0 then J7 (shrU a0 32, 32) else J7 (a0, 0)))
theorem math_bits_Len64_c (n : Nat) (L : List Nat) (w : World) (_hL : ∀ b ∈ L, b < w.heap.size) (a0 : UInt64)  {r : Int} (h : math_bits_Len64_p n a0 = some r) :
    Calls Tryz.prog 136 #[.int .u64 (a0.toNat : Int)] w (Gives w fun _ u => u = vI r) := by
 unfold math_bits_Len64_p at h
 have hS0 := St.start w
 refine MX.start Tryz.func136 rfl rfl rfl (fun _ cs0 hb0 => ?_)
 refine MX.sr <| RG.so rfl <| RG.nil <| MX.seq <| MX.sr <| RG.mo rfl ?_
 refine RG.va (FV.geqU (a := a0) (b := (4294967296 : UInt64)) rfl rfl) <| RG.nil <| MX.join (α := UInt64 × Nat) (fun ⟨u2, i3⟩ => [(0, .int .u64 (u2.toNat : Int)), (2, vI ((i3 : Nat) : Int))]) (fun ⟨u2, i3⟩ wx3 => St w wx3 [] ∧ Tr w [] wx3 []) (fun ⟨u2, i3⟩ => (u2, i3)) h ?_ ?_
 rintro ⟨u2, i3⟩ wx3 ⟨hS4, hT5⟩ h
 try dsimp only at h
 refine MX.seq <| MX.sr <| RG.mo rfl <| RG.va (FV.geqU (a := u2) (b := (65536 : UInt64)) rfl rfl) <| RG.nil <| MX.join (α := UInt64 × Int) (fun ⟨u0, z0⟩ => [(0, .int .u64 (u0.toNat : Int)), (2, vI z0)]) (fun ⟨u0, z0⟩ wx0 => St w wx0 [] ∧ Tr wx3 [] wx0 []) (fun ⟨u0, z0⟩ => (u0, z0)) h ?_ ?_
 rintro ⟨u0, z0⟩ wx0 ⟨hS1, hT0⟩ h
 try dsimp only at h
 refine MX.seq <| MX.sr <| RG.mo rfl <| RG.va (FV.geqU (a := u0) (b := (256 : UInt64)) rfl rfl) <| RG.nil <| MX.join (α := UInt64 × Int) (fun ⟨u1, z1⟩ => [(0, .int .u64 (u1.toNat : Int)), (2, vI z1)]) (fun ⟨u1, z1⟩ wx1 => St w wx1 [] ∧ Tr wx0 [] wx1 []) (fun ⟨u1, z1⟩ => (u1, z1)) h ?_ ?_
 rintro ⟨u1, z1⟩ wx1 ⟨hS2, hT1⟩ h
 try dsimp only at h
 refine MX.sr <| RG.mo rfl <| RG.mo rfl <| RG.va (FV.conv8 (a := u1) Tryz.underlying35 Tryz.underlying5 rfl) ?_
 obtain ⟨z2, hz27, h⟩ := bind_in h
 refine RG.va (FV.strIdx (k := (u8of u1).toNat) (tab := stab0) Tryz.underlying9 rfl rfl rfl rfl hz27) ?_
 have hu0 := z2.toNat_lt
 refine RG.va (FV.convN (i := z2.toNat) Tryz.underlying5 Tryz.underlying3 rfl (by omega)) ?_
 obtain ⟨s0, hs0, h⟩ := bind_in h
 refine RG.va (FV.addc (i := z1) (j := ((z2.toNat : Nat) : Int)) rfl rfl hs0) <| RG.so rfl <| RG.nil <| MX.ret rfl <| RT.t1 hb0 Tryz.func136 rfl rfl ?_
 cases h
 exact hS2.gv
 intro J0 hJ26 h
 try dsimp only at h
 refine MX.ifd rfl h (fun c0 h => ?_) (fun c0 h => ?_)
 refine MX.sr <| RG.mo rfl <| RG.va (FV.shrU (a := u0) (j := 8) rfl rfl) <| RG.so rfl <| RG.nil <| MX.region ?_
 refine RG.mo rfl ?_
 obtain ⟨s1, hs1, h⟩ := bind_in h
 refine RG.va (FV.addc (i := z0) (j := 8) rfl rfl hs1) <| RG.so rfl <| RG.nil ?_
 exact hJ26 (shrU u0 8, s1) _ _ ⟨rfl, rfl, trivial⟩ ⟨hS1, Tr.refl _ _⟩ h
 refine MX.skip ?_
 exact hJ26 (u0, z0) _ _ ⟨rfl, rfl, trivial⟩ ⟨hS1, Tr.refl _ _⟩ h
 intro J1 hJ17 h
 try dsimp only at h
 refine MX.ifd rfl h (fun c1 h => ?_) (fun c1 h => ?_)
 refine MX.sr <| RG.mo rfl <| RG.va (FV.shrU (a := u2) (j := 16) rfl rfl) <| RG.so rfl <| RG.nil <| MX.region ?_
 refine RG.mo rfl ?_
 obtain ⟨s2, hs2, h⟩ := bind_in h
 refine RG.va (FV.addc (i := ((i3 : Nat) : Int)) (j := 16) rfl rfl hs2) <| RG.so rfl <| RG.nil ?_
 exact hJ17 (shrU u2 16, s2) _ _ ⟨rfl, rfl, trivial⟩ ⟨hS4, Tr.refl _ _⟩ h
 refine MX.skip ?_
 exact hJ17 (u2, ((i3 : Nat) : Int)) _ _ ⟨rfl, rfl, trivial⟩ ⟨hS4, Tr.refl _ _⟩ h
 intro J7 hJ8 h
 try dsimp only at h
 refine MX.ifd rfl h (fun c2 h => ?_) (fun c2 h => ?_)
 refine MX.sr <| RG.mo rfl <| RG.va (FV.shrU (a := a0) (j := 32) rfl rfl) <| RG.so rfl <| RG.nil <| MX.region ?_
 refine RG.so rfl <| RG.nil ?_
 exact hJ8 (shrU a0 32, 32) _ _ ⟨rfl, rfl, trivial⟩ ⟨hS0, Tr.refl _ _⟩ h
 refine MX.skip ?_
 exact hJ8 (a0, 0) _ _ ⟨rfl, rfl, trivial⟩ ⟨hS0, Tr.refl _ _⟩ h
theorem body136 : bodyB Tryz.prog 136 = true := by kernel_rfl
def math_bits_LeadingZeros64_p (n : Nat) (a0 : UInt64) : Option Int :=
  (math_bits_Len64_p n a0).bind fun y1 => (chk (64 - y1)).bind fun s2 => some s2
theorem math_bits_LeadingZeros64_c (n : Nat) (L : List Nat) (w : World) (hL : ∀ b ∈ L, b < w.heap.size) (a0 : UInt64)  {r : Int} (h : math_bits_LeadingZeros64_p n a0 = some r) :
    Calls Tryz.prog 120 #[.int .u64 (a0.toNat : Int)] w (Gives w fun _ u => u = vI r) := by
 unfold math_bits_LeadingZeros64_p at h
 have hS0 := St.start w
 refine MX.start Tryz.func120 rfl rfl rfl (fun _ cs0 hb0 => ?_)
 refine MX.sr <| RG.so rfl <| RG.nil <| MX.sr <| RG.mo rfl ?_
 obtain ⟨y1, hy1, h⟩ := bind_in h
 refine RG.cq (vI y1) body136 rfl (e1 rfl) (fun w9 hw9 => math_bits_Len64_c n _ w9 (hS0.hL0 hL hw9) a0 hy1) rfl ?_
 obtain ⟨s2, hs2, h⟩ := bind_in h
 refine RG.va (FV.subc (i := 64) (j := y1) rfl rfl hs2) <| RG.so rfl <| RG.nil <| MX.ret rfl <| RT.t1 hb0 Tryz.func120 rfl rfl ?_
 cases h
 exact hS0.gv
def tb106_6 : List (Nat × Nat × Nat) := [(0, 268435456, 2), (0, 536870912, 4), (3, 1073741824, 805306368), (0, 2147483648, 2), (0, 4294967296, 4), (24, 8589934592, 6442450944), (7, 64, 1073741824), (127, 128, 8589934592)]
theorem body120 : bodyB Tryz.prog 120 = true := by kernel_rfl
def math_bits_Div64_l1 (_n : Nat) (a2 : UInt64) (y8 : Int) (a1 : UInt64) (J0 : UInt64 × UInt64 → Option UInt64) : UInt64 × UInt64 → Option UInt64
  | (u0, u1) => (if (4294967296 : UInt64) ≤ u0 then (if (4294967296 : UInt64) ≤ (u1 + (shrU (shlU a2 (u64of y8).toNat) 32)) then some (u0 - (1 : UInt64)) else J0 (u0 - (1 : UInt64), u1 + (shrU (shlU a2 (u64of y8).toNat) 32))) else (if (((4294967296 : UInt64) * u1) + ((shlU a1 (u64of y8).toNat) &&& (4294967295 : UInt64))) < (u0 * ((shlU a2 (u64of y8).toNat) &&& (4294967295 : UInt64))) then (if (4294967296 : UInt64) ≤ (u1 + (shrU (shlU a2 (u64of y8).toNat) 32)) then some (u0 - (1 : UInt64)) else J0 (u0 - (1 : UInt64), u1 + (shrU (shlU a2 (u64of y8).toNat) 32))) else some u0))
def math_bits_Div64_l2 (_n : Nat) (a2 : UInt64) (y8 : Int) (a1 : UInt64) (J0 : UInt64 × UInt64 → Option UInt64) : UInt64 × UInt64 → Option UInt64
  | (u0, u1) => (if (4294967296 : UInt64) ≤ u0 then (if (4294967296 : UInt64) ≤ (u1 + (shrU (shlU a2 (u64of y8).toNat) 32)) then some (u0 - (1 : UInt64)) else J0 (u0 - (1 : UInt64), u1 + (shrU (shlU a2 (u64of y8).toNat) 32))) else (if (((4294967296 : UInt64) * u1) + (shrU (shlU a1 (u64of y8).toNat) 32)) < (u0 * ((shlU a2 (u64of y8).toNat) &&& (4294967295 : UInt64))) then (if (4294967296 : UInt64) ≤ (u1 + (shrU (shlU a2 (u64of y8).toNat) 32)) then some (u0 - (1 : UInt64)) else J0 (u0 - (1 : UInt64), u1 + (shrU (shlU a2 (u64of y8).toNat) 32))) else some u0))
def math_bits_Div64_p (n : Nat) (a0 : UInt64) (a1 : UInt64) (a2 : UInt64) : Option (UInt64 × UInt64) :=
  (if a2 = (0 : UInt64) then none else (if a2 ≤ a0 then none else (if a0 = (0 : UInt64) then (quoW a1 a2).bind fun s6 => (remW a1 a2).bind fun s7 => some (s6, s7) else (math_bits_LeadingZeros64_p n a2).bind fun y8 => (quoW ((shlU a0 (u64of y8).toNat) ||| (shrU a1 ((64 : UInt64) - (u64of y8)).toNat)) (shrU (shlU a2 (u64of y8).toNat) 32)).bind fun s9 => (some (((shlU a0 (u64of y8).toNat) ||| (shrU a1 ((64 : UInt64) - (u64of y8)).toNat)) - (s9 * (shrU (shlU a2 (u64of y8).toNat) 32)))).bind fun u0 => jn (fun u1 => (some (((shlU a0 (u64of y8).toNat) ||| (shrU a1 ((64 : UInt64) - (u64of y8)).toNat)) * (4294967296 : UInt64))).bind fun u2 => (quoW ((u2 + (shrU (shlU a1 (u64of y8).toNat) 32)) - (u1 * (shlU a2 (u64of y8).toNat))) (shrU (shlU a2 (u64of y8).toNat) 32)).bind fun s0 => (some (((u2 + (shrU (shlU a1 (u64of y8).toNat) 32)) - (u1 * (shlU a2 (u64of y8).toNat))) - (s0 * (shrU (shlU a2 (u64of y8).toNat) 32)))).bind fun u3 => jn (fun u4 => (some (((u2 + (shrU (shlU a1 (u64of y8).toNat) 32)) - (u1 * (shlU a2 (u64of y8).toNat))) * (4294967296 : UInt64))).bind fun u5 => (some ((u5 + ((shlU a1 (u64of y8).toNat) &&& (4294967295 : UInt64))) - (u4 * (shlU a2 (u64of y8).toNat)))).bind fun u6 => some ((u1 * (4294967296 : UInt64)) + u4, shrU u6 (u64of y8).toNat)) (fun J0 => Option.bind (loopF (math_bits_Div64_l1 n a2 y8 a1) n (s0, u3)) (J0))) (fun J1 => Option.bind (loopF (math_bits_Div64_l2 n a2 y8 a1) n (s9, u0)) (J1)))))
theorem math_bits_Div64_c (n : Nat) (L : List Nat) (w : World) (hL : ∀ b ∈ L, b < w.heap.size) (a0 : UInt64) (a1 : UInt64) (a2 : UInt64)  {r : UInt64 × UInt64} (h : math_bits_Div64_p n a0 a1 a2 = some r) :
    Calls Tryz.prog 106 #[.int .u64 (a0.toNat : Int), .int .u64 (a1.toNat : Int), .int .u64 (a2.toNat : Int)] w (Gives w fun _ u => u = .tuple #[.int .u64 (r.1.toNat : Int), .int .u64 (r.2.toNat : Int)]) := by
 unfold math_bits_Div64_p at h
 have hS0 := St.start w
 refine MX.start Tryz.func106 rfl rfl rfl (fun _ cs0 hb0 => ?_)
 refine MX.sr <| RG.so rfl <| RG.so rfl <| RG.nil <| MX.seq <| MX.sr ?_
 refine RG.mo rfl <| RG.va (FV.eqlU (a := a2) (b := (0 : UInt64)) rfl rfl) <| RG.nil <| MX.ifd rfl h (fun c1 h => ?_) (fun c1 h => ?_)
 refine MX.region ?_
 cases h
 refine MX.skip <| MX.seq <| MX.sr <| RG.mo rfl <| RG.mo rfl <| RG.va (FV.leqU (a := a2) (b := a0) rfl rfl) ?_
 refine RG.nil <| MX.ifd rfl h (fun c2 h => ?_) (fun c2 h => ?_)
 refine MX.region ?_
 cases h
 refine MX.skip <| MX.seq <| MX.sr <| RG.mo rfl <| RG.va (FV.eqlU (a := a0) (b := (0 : UInt64)) rfl rfl) <| RG.nil ?_
 refine MX.ifd rfl h (fun c3 h => ?_) (fun c3 h => ?_)
 refine MX.seq <| MX.drawT 8 tb106_6 (by kernel_rfl) (by kernel_rfl) (by kernel_rfl) (fun kt4 kp5 => ?_)
 refine RD.vw 0 1 kt4 rfl kp5 (fun _ => FV.move rfl) rfl <| RD.vw 1 3 kt4 rfl kp5 (fun _ => FV.move rfl) rfl ?_
 obtain ⟨s6, hs6, h⟩ := bind_in h
 refine RD.vw 2 7 kt4 rfl kp5 (fun _ => FV.quoV (a := a1) (b := a2) rfl rfl hs6) rfl <| RD.vw 3 15 kt4 rfl kp5 (fun _ => FV.move rfl) rfl <| RD.vw 4 31 kt4 rfl kp5 (fun _ => FV.move rfl) rfl ?_
 obtain ⟨s7, hs7, h⟩ := bind_in h
 refine RD.vw 5 63 kt4 rfl kp5 (fun _ => FV.remV (a := a1) (b := a2) rfl rfl hs7) rfl <| RD.vw 6 127 kt4 rfl kp5 (fun _ => FV.assign rfl) rfl <| RD.vw 7 255 kt4 rfl kp5 (fun _ => FV.assign rfl) rfl <| RD.done (doneD_ok kt4 (by kernel_rfl)) <| MX.ret rfl <| RT.leave hb0 Tryz.func106 rfl (.cons (.tmp rfl) (.cons (.tmp rfl) .nil)) rfl ?_
 cases h
 exact hS0.gv
 refine MX.skip <| MX.sr <| RG.mo rfl ?_
 obtain ⟨y8, hy8, h⟩ := bind_in h
 refine RG.cq (vI y8) body120 rfl (e1 rfl) (fun w9 hw9 => math_bits_LeadingZeros64_c n _ w9 (hS0.hL0 hL hw9) a2 hy8) rfl <| RG.va (FV.convU (i := y8) Tryz.underlying3 Tryz.underlying170 rfl) <| RG.so rfl <| RG.nil <| MX.sr <| RG.mo rfl ?_
 refine RG.mo rfl <| RG.va (FV.shlU (a := a2) (j := (u64of y8).toNat) rfl rfl) <| RG.so rfl <| RG.nil <| MX.sr <| RG.mo rfl ?_
 refine RG.va (FV.shrU (a := shlU a2 (u64of y8).toNat) (j := 32) rfl rfl) <| RG.so rfl <| RG.nil <| MX.sr <| RG.mo rfl <| RG.va (FV.andU (a := shlU a2 (u64of y8).toNat) (b := (4294967295 : UInt64)) rfl rfl) ?_
 refine RG.so rfl <| RG.nil <| MX.sr <| RG.mo rfl <| RG.mo rfl <| RG.va (FV.shlU (a := a0) (j := (u64of y8).toNat) rfl rfl) ?_
 refine RG.mo rfl <| RG.mo rfl <| RG.va (FV.subU (a := (64 : UInt64)) (b := u64of y8) rfl rfl) <| RG.va (FV.shrU (a := a1) (j := ((64 : UInt64) - (u64of y8)).toNat) rfl rfl) <| RG.va (FV.orU (a := shlU a0 (u64of y8).toNat) (b := shrU a1 ((64 : UInt64) - (u64of y8)).toNat) rfl rfl) <| RG.so rfl ?_
 refine RG.nil <| MX.sr <| RG.mo rfl <| RG.mo rfl <| RG.va (FV.shlU (a := a1) (j := (u64of y8).toNat) rfl rfl) <| RG.so rfl ?_
 refine RG.nil <| MX.sr <| RG.mo rfl <| RG.va (FV.shrU (a := shlU a1 (u64of y8).toNat) (j := 32) rfl rfl) <| RG.so rfl <| RG.nil ?_
 refine MX.sr <| RG.mo rfl <| RG.va (FV.andU (a := shlU a1 (u64of y8).toNat) (b := (4294967295 : UInt64)) rfl rfl) <| RG.so rfl <| RG.nil <| MX.sr ?_
 refine RG.mo rfl <| RG.mo rfl ?_
 obtain ⟨s9, hs9, h⟩ := bind_in h
 refine RG.va (FV.quoV (a := (shlU a0 (u64of y8).toNat) ||| (shrU a1 ((64 : UInt64) - (u64of y8)).toNat)) (b := shrU (shlU a2 (u64of y8).toNat) 32) rfl rfl hs9) <| RG.so rfl <| RG.nil <| MX.sr <| RG.mo rfl <| RG.mo rfl ?_
 refine RG.mo rfl <| RG.va (FV.mulU (a := s9) (b := shrU (shlU a2 (u64of y8).toNat) 32) rfl rfl) ?_
 obtain ⟨u0, hu0, h⟩ := bind_in h
 refine RG.va (FV.as (FV.subU (a := (shlU a0 (u64of y8).toNat) ||| (shrU a1 ((64 : UInt64) - (u64of y8)).toNat)) (b := s9 * (shrU (shlU a2 (u64of y8).toNat) 32)) rfl rfl) (congrArg (fun z : UInt64 => Value.int .u64 (z.toNat : Int)) (Option.some.inj hu0))) <| RG.so rfl <| RG.nil <| MX.seq <| MX.block <| MX.joinx (α := UInt64) (fun u1 => [(2, .int .u64 ((shlU a2 (u64of y8).toNat).toNat : Int)), (8, .int .u64 ((u64of y8).toNat : Int)), (9, .int .u64 ((shrU (shlU a2 (u64of y8).toNat) 32).toNat : Int)), (10, .int .u64 (((shlU a2 (u64of y8).toNat) &&& (4294967295 : UInt64)).toNat : Int)), (11, .int .u64 (((shlU a0 (u64of y8).toNat) ||| (shrU a1 ((64 : UInt64) - (u64of y8)).toNat)).toNat : Int)), (13, .int .u64 ((shrU (shlU a1 (u64of y8).toNat) 32).toNat : Int)), (14, .int .u64 (((shlU a1 (u64of y8).toNat) &&& (4294967295 : UInt64)).toNat : Int)), (15, .int .u64 (u1.toNat : Int))]) (fun u1 wx0 => St w wx0 [] ∧ Tr w [] wx0 []) (fun u1 => u1) (id := 0) rfl h ?_ ?_
 rintro u1 wx0 ⟨hS1, hT0⟩ h
 try dsimp only at h
 refine MX.sr <| RG.mo rfl ?_
 obtain ⟨u2, hu1, h⟩ := bind_in h
 refine RG.va (FV.as (FV.mulU (a := (shlU a0 (u64of y8).toNat) ||| (shrU a1 ((64 : UInt64) - (u64of y8)).toNat)) (b := (4294967296 : UInt64)) rfl rfl) (congrArg (fun z : UInt64 => Value.int .u64 (z.toNat : Int)) (Option.some.inj hu1))) <| RG.mo rfl <| RG.va (FV.addU (a := u2) (b := shrU (shlU a1 (u64of y8).toNat) 32) rfl rfl) <| RG.mo rfl <| RG.mo rfl <| RG.va (FV.mulU (a := u1) (b := shlU a2 (u64of y8).toNat) rfl rfl) ?_
 refine RG.va (FV.subU (a := u2 + (shrU (shlU a1 (u64of y8).toNat) 32)) (b := u1 * (shlU a2 (u64of y8).toNat)) rfl rfl) <| RG.so rfl <| RG.nil <| MX.sr <| RG.mo rfl <| RG.mo rfl ?_
 obtain ⟨s0, hs0, h⟩ := bind_in h
 refine RG.va (FV.quoV (a := (u2 + (shrU (shlU a1 (u64of y8).toNat) 32)) - (u1 * (shlU a2 (u64of y8).toNat))) (b := shrU (shlU a2 (u64of y8).toNat) 32) rfl rfl hs0) <| RG.so rfl <| RG.nil <| MX.sr <| RG.mo rfl <| RG.mo rfl ?_
 refine RG.mo rfl <| RG.va (FV.mulU (a := s0) (b := shrU (shlU a2 (u64of y8).toNat) 32) rfl rfl) ?_
 obtain ⟨u3, hu2, h⟩ := bind_in h
 refine RG.va (FV.as (FV.subU (a := (u2 + (shrU (shlU a1 (u64of y8).toNat) 32)) - (u1 * (shlU a2 (u64of y8).toNat))) (b := s0 * (shrU (shlU a2 (u64of y8).toNat) 32)) rfl rfl) (congrArg (fun z : UInt64 => Value.int .u64 (z.toNat : Int)) (Option.some.inj hu2))) <| RG.so rfl <| RG.nil <| MX.seq <| MX.block <| MX.joinx (α := UInt64) (fun u4 => [(2, .int .u64 ((shlU a2 (u64of y8).toNat).toNat : Int)), (8, .int .u64 ((u64of y8).toNat : Int)), (14, .int .u64 (((shlU a1 (u64of y8).toNat) &&& (4294967295 : UInt64)).toNat : Int)), (15, .int .u64 (u1.toNat : Int)), (17, .int .u64 (((u2 + (shrU (shlU a1 (u64of y8).toNat) 32)) - (u1 * (shlU a2 (u64of y8).toNat))).toNat : Int)), (18, .int .u64 (u4.toNat : Int))]) (fun u4 wx1 => St w wx1 [] ∧ Tr wx0 [] wx1 []) (fun u4 => u4) (id := 2) rfl h ?_ ?_
 rintro u4 wx1 ⟨hS2, hT1⟩ h
 try dsimp only at h
 refine MX.sr <| RG.mo rfl <| RG.va (FV.mulU (a := u1) (b := (4294967296 : UInt64)) rfl rfl) <| RG.mo rfl <| RG.va (FV.addU (a := u1 * (4294967296 : UInt64)) (b := u4) rfl rfl) <| RG.mo rfl ?_
 obtain ⟨u5, hu3, h⟩ := bind_in h
 refine RG.va (FV.as (FV.mulU (a := (u2 + (shrU (shlU a1 (u64of y8).toNat) 32)) - (u1 * (shlU a2 (u64of y8).toNat))) (b := (4294967296 : UInt64)) rfl rfl) (congrArg (fun z : UInt64 => Value.int .u64 (z.toNat : Int)) (Option.some.inj hu3))) <| RG.mo rfl <| RG.va (FV.addU (a := u5) (b := (shlU a1 (u64of y8).toNat) &&& (4294967295 : UInt64)) rfl rfl) <| RG.mo rfl <| RG.mo rfl <| RG.va (FV.mulU (a := u4) (b := shlU a2 (u64of y8).toNat) rfl rfl) ?_
 obtain ⟨u6, hu4, h⟩ := bind_in h
 refine RG.va (FV.as (FV.subU (a := u5 + ((shlU a1 (u64of y8).toNat) &&& (4294967295 : UInt64))) (b := u4 * (shlU a2 (u64of y8).toNat)) rfl rfl) (congrArg (fun z : UInt64 => Value.int .u64 (z.toNat : Int)) (Option.some.inj hu4))) <| RG.mo rfl <| RG.va (FV.shrU (a := u6) (j := (u64of y8).toNat) rfl rfl) <| RG.so rfl <| RG.so rfl <| RG.nil ?_
 refine MX.ret rfl <| RT.leave hb0 Tryz.func106 rfl (.cons (.tmp rfl) (.cons (.tmp rfl) .nil)) rfl ?_
 cases h
 exact hS2.gv
 intro J0 hJ91 h
 try dsimp only at h
 obtain ⟨o0, ho109, hh111⟩ := bind_in2 h
 refine MX.loop (α := UInt64 × UInt64) (fun ⟨u7, u8⟩ => [(2, .int .u64 ((shlU a2 (u64of y8).toNat).toNat : Int)), (8, .int .u64 ((u64of y8).toNat : Int)), (9, .int .u64 ((shrU (shlU a2 (u64of y8).toNat) 32).toNat : Int)), (10, .int .u64 (((shlU a2 (u64of y8).toNat) &&& (4294967295 : UInt64)).toNat : Int)), (14, .int .u64 (((shlU a1 (u64of y8).toNat) &&& (4294967295 : UInt64)).toNat : Int)), (15, .int .u64 (u1.toNat : Int)), (17, .int .u64 (((u2 + (shrU (shlU a1 (u64of y8).toNat) 32)) - (u1 * (shlU a2 (u64of y8).toNat))).toNat : Int)), (18, .int .u64 (u7.toNat : Int)), (16, .int .u64 (u8.toNat : Int))]) (fun ⟨u7, u8⟩ wx2 => St w wx2 [] ∧ Tr wx0 [] wx2 []) (fun ⟨u7, u8⟩ => (u7, u8)) (s0, u3) ho109 ⟨rfl, rfl, rfl, rfl, rfl, rfl, rfl, rfl, rfl, trivial⟩ ⟨hS1, Tr.refl _ _⟩ ?_
 rintro J1 ⟨u7, u8⟩ wx2 hJ113 ⟨hS3, hT2⟩ h
 unfold math_bits_Div64_l1 at h
 try dsimp only at h
 refine MX.seq <| MX.sr <| RG.mo rfl <| RG.va (FV.geqU (a := u7) (b := (4294967296 : UInt64)) rfl rfl) <| RG.mo rfl <| RG.ifd (s := 104) rfl h (fun c0 h => ?_) (fun c0 h => ?_)
 refine RG.no <| RG.no <| RG.no <| RG.no <| RG.no <| RG.no ?_
 refine RG.no <| RG.no <| RG.pt rfl rfl <| RG.nil <| MX.cond_t rfl <| MX.skip ?_
 refine MX.block <| MX.sr <| RG.mo rfl <| RG.va (FV.subU (a := u7) (b := (1 : UInt64)) rfl rfl) <| RG.so rfl <| RG.nil ?_
 refine MX.sr <| RG.mo rfl <| RG.mo rfl <| RG.va (FV.addU (a := u8) (b := shrU (shlU a2 (u64of y8).toNat) 32) rfl rfl) <| RG.so rfl <| RG.nil ?_
 refine MX.sr <| RG.mo rfl <| RG.va (FV.geqU (a := u8 + (shrU (shlU a2 (u64of y8).toNat) 32)) (b := (4294967296 : UInt64)) rfl rfl) <| RG.nil <| MX.ifd rfl h (fun c4 h => ?_) (fun c4 h => ?_)
 refine MX.exit rfl ?_
 have h := hh111 _ h
 try dsimp only at h
 exact hJ91 (u7 - (1 : UInt64)) _ _ ⟨rfl, rfl, rfl, rfl, rfl, rfl, trivial⟩ ⟨hS3, hT2⟩ h
 refine MX.skip <| MX.inBlock ?_
 exact hJ113 (u7 - (1 : UInt64), u8 + (shrU (shlU a2 (u64of y8).toNat) 32)) _ _ ⟨rfl, rfl, rfl, rfl, rfl, rfl, rfl, rfl, rfl, trivial⟩ ⟨hS3, hT2⟩ h
 refine RG.ga (FV.move rfl) <| RG.ga (FV.move rfl) <| RG.ga (FV.mulU (a := u7) (b := (shlU a2 (u64of y8).toNat) &&& (4294967295 : UInt64)) rfl rfl) <| RG.ga (FV.move rfl) <| RG.ga (FV.mulU (a := (4294967296 : UInt64)) (b := u8) rfl rfl) <| RG.ga (FV.move rfl) ?_
 refine RG.ga (FV.addU (a := (4294967296 : UInt64) * u8) (b := (shlU a1 (u64of y8).toNat) &&& (4294967295 : UInt64)) rfl rfl) <| RG.ga (FV.gtrU (a := u7 * ((shlU a2 (u64of y8).toNat) &&& (4294967295 : UInt64))) (b := ((4294967296 : UInt64) * u8) + ((shlU a1 (u64of y8).toNat) &&& (4294967295 : UInt64))) rfl rfl) <| RG.pf rfl rfl <| RG.nil <| MX.ifd rfl h (fun c5 h => ?_) (fun c5 h => ?_)
 refine MX.skip <| MX.block <| MX.sr <| RG.mo rfl <| RG.va (FV.subU (a := u7) (b := (1 : UInt64)) rfl rfl) <| RG.so rfl ?_
 refine RG.nil <| MX.sr <| RG.mo rfl <| RG.mo rfl <| RG.va (FV.addU (a := u8) (b := shrU (shlU a2 (u64of y8).toNat) 32) rfl rfl) <| RG.so rfl ?_
 refine RG.nil <| MX.sr <| RG.mo rfl <| RG.va (FV.geqU (a := u8 + (shrU (shlU a2 (u64of y8).toNat) 32)) (b := (4294967296 : UInt64)) rfl rfl) <| RG.nil <| MX.ifd rfl h (fun c6 h => ?_) (fun c6 h => ?_)
 refine MX.exit rfl ?_
 have h := hh111 _ h
 try dsimp only at h
 exact hJ91 (u7 - (1 : UInt64)) _ _ ⟨rfl, rfl, rfl, rfl, rfl, rfl, trivial⟩ ⟨hS3, hT2⟩ h
 refine MX.skip <| MX.inBlock ?_
 exact hJ113 (u7 - (1 : UInt64), u8 + (shrU (shlU a2 (u64of y8).toNat) 32)) _ _ ⟨rfl, rfl, rfl, rfl, rfl, rfl, rfl, rfl, rfl, trivial⟩ ⟨hS3, hT2⟩ h
 refine MX.exit rfl ?_
 have h := hh111 _ h
 try dsimp only at h
 exact hJ91 u7 _ _ ⟨rfl, rfl, rfl, rfl, rfl, rfl, trivial⟩ ⟨hS3, hT2⟩ h
 intro J2 hJ49 h
 try dsimp only at h
 obtain ⟨o1, ho133, hh135⟩ := bind_in2 h
 refine MX.loop (α := UInt64 × UInt64) (fun ⟨u9, u11⟩ => [(2, .int .u64 ((shlU a2 (u64of y8).toNat).toNat : Int)), (8, .int .u64 ((u64of y8).toNat : Int)), (9, .int .u64 ((shrU (shlU a2 (u64of y8).toNat) 32).toNat : Int)), (10, .int .u64 (((shlU a2 (u64of y8).toNat) &&& (4294967295 : UInt64)).toNat : Int)), (11, .int .u64 (((shlU a0 (u64of y8).toNat) ||| (shrU a1 ((64 : UInt64) - (u64of y8)).toNat)).toNat : Int)), (13, .int .u64 ((shrU (shlU a1 (u64of y8).toNat) 32).toNat : Int)), (14, .int .u64 (((shlU a1 (u64of y8).toNat) &&& (4294967295 : UInt64)).toNat : Int)), (15, .int .u64 (u9.toNat : Int)), (16, .int .u64 (u11.toNat : Int))]) (fun ⟨u9, u11⟩ wx3 => St w wx3 [] ∧ Tr w [] wx3 []) (fun ⟨u9, u11⟩ => (u9, u11)) (s9, u0) ho133 ⟨rfl, rfl, rfl, rfl, rfl, rfl, rfl, rfl, rfl, trivial⟩ ⟨hS0, Tr.refl _ _⟩ ?_
 rintro J3 ⟨u9, u11⟩ wx3 hJ137 ⟨hS4, hT3⟩ h
 unfold math_bits_Div64_l2 at h
 try dsimp only at h
 refine MX.seq <| MX.sr <| RG.mo rfl <| RG.va (FV.geqU (a := u9) (b := (4294967296 : UInt64)) rfl rfl) <| RG.mo rfl <| RG.ifd (s := 69) rfl h (fun c7 h => ?_) (fun c7 h => ?_)
 refine RG.no <| RG.no <| RG.no <| RG.no <| RG.no <| RG.no ?_
 refine RG.no <| RG.no <| RG.pt rfl rfl <| RG.nil <| MX.cond_t rfl <| MX.skip ?_
 refine MX.block <| MX.sr <| RG.mo rfl <| RG.va (FV.subU (a := u9) (b := (1 : UInt64)) rfl rfl) <| RG.so rfl <| RG.nil ?_
 refine MX.sr <| RG.mo rfl <| RG.mo rfl <| RG.va (FV.addU (a := u11) (b := shrU (shlU a2 (u64of y8).toNat) 32) rfl rfl) <| RG.so rfl <| RG.nil ?_
 refine MX.sr <| RG.mo rfl <| RG.va (FV.geqU (a := u11 + (shrU (shlU a2 (u64of y8).toNat) 32)) (b := (4294967296 : UInt64)) rfl rfl) <| RG.nil <| MX.ifd rfl h (fun c8 h => ?_) (fun c8 h => ?_)
 refine MX.exit rfl ?_
 have h := hh135 _ h
 try dsimp only at h
 exact hJ49 (u9 - (1 : UInt64)) _ _ ⟨rfl, rfl, rfl, rfl, rfl, rfl, rfl, rfl, trivial⟩ ⟨hS4, hT3⟩ h
 refine MX.skip <| MX.inBlock ?_
 exact hJ137 (u9 - (1 : UInt64), u11 + (shrU (shlU a2 (u64of y8).toNat) 32)) _ _ ⟨rfl, rfl, rfl, rfl, rfl, rfl, rfl, rfl, rfl, trivial⟩ ⟨hS4, hT3⟩ h
 refine RG.ga (FV.move rfl) <| RG.ga (FV.move rfl) <| RG.ga (FV.mulU (a := u9) (b := (shlU a2 (u64of y8).toNat) &&& (4294967295 : UInt64)) rfl rfl) <| RG.ga (FV.move rfl) <| RG.ga (FV.mulU (a := (4294967296 : UInt64)) (b := u11) rfl rfl) <| RG.ga (FV.move rfl) ?_
 refine RG.ga (FV.addU (a := (4294967296 : UInt64) * u11) (b := shrU (shlU a1 (u64of y8).toNat) 32) rfl rfl) <| RG.ga (FV.gtrU (a := u9 * ((shlU a2 (u64of y8).toNat) &&& (4294967295 : UInt64))) (b := ((4294967296 : UInt64) * u11) + (shrU (shlU a1 (u64of y8).toNat) 32)) rfl rfl) <| RG.pf rfl rfl <| RG.nil <| MX.ifd rfl h (fun c9 h => ?_) (fun c9 h => ?_)
 refine MX.skip <| MX.block <| MX.sr <| RG.mo rfl <| RG.va (FV.subU (a := u9) (b := (1 : UInt64)) rfl rfl) <| RG.so rfl ?_
 refine RG.nil <| MX.sr <| RG.mo rfl <| RG.mo rfl <| RG.va (FV.addU (a := u11) (b := shrU (shlU a2 (u64of y8).toNat) 32) rfl rfl) <| RG.so rfl ?_
 refine RG.nil <| MX.sr <| RG.mo rfl <| RG.va (FV.geqU (a := u11 + (shrU (shlU a2 (u64of y8).toNat) 32)) (b := (4294967296 : UInt64)) rfl rfl) <| RG.nil <| MX.ifd rfl h (fun c10 h => ?_) (fun c10 h => ?_)
 refine MX.exit rfl ?_
 have h := hh135 _ h
 try dsimp only at h
 exact hJ49 (u9 - (1 : UInt64)) _ _ ⟨rfl, rfl, rfl, rfl, rfl, rfl, rfl, rfl, trivial⟩ ⟨hS4, hT3⟩ h
 refine MX.skip <| MX.inBlock ?_
 exact hJ137 (u9 - (1 : UInt64), u11 + (shrU (shlU a2 (u64of y8).toNat) 32)) _ _ ⟨rfl, rfl, rfl, rfl, rfl, rfl, rfl, rfl, rfl, trivial⟩ ⟨hS4, hT3⟩ h
 refine MX.exit rfl ?_
 have h := hh135 _ h
 try dsimp only at h
 exact hJ49 u9 _ _ ⟨rfl, rfl, rfl, rfl, rfl, rfl, rfl, rfl, trivial⟩ ⟨hS4, hT3⟩ h
def wide_length_p (n : Nat) (a0 : List UInt64) : Option Int :=
  (if a0.length = 0 then some (0 : Int) else (chk (64 * ((a0.length : Nat) : Int))).bind fun s3 => (idx a0 (((a0.length : Nat) : Int) - 1)).bind fun x4 => (math_bits_LeadingZeros64_p n x4).bind fun y0 => (chk (s3 - y0)).bind fun s0 => some s0)
theorem wide_length_c (n : Nat) (L : List Nat) (w : World) (hL : ∀ b ∈ L, b < w.heap.size) (a0 : List UInt64) {v0_0 : Value} (h0_0 : Rep.R w L [v0_0] a0)  {r : Int} (h : wide_length_p n a0 = some r) :
    Calls Tryz.prog 107 #[v0_0] w (Gives w fun _ u => u = vI r) := by
 unfold wide_length_p at h
 have hS0 := St.start w
 refine MX.start Tryz.func107 rfl rfl rfl (fun _ cs0 hb0 => ?_)
 refine MX.sr <| RG.so rfl <| RG.nil <| MX.seq <| MX.sr <| RG.mo rfl ?_
 have hl1 : a0.length ≤ 281474976710656 := Rep.lenle h0_0
 refine RG.va (FV.len (xs := a0) Tryz.underlying98 rfl h0_0) <| RG.va (FV.eqlN (i := a0.length) (j := 0) rfl rfl) <| RG.nil <| MX.ifd rfl h (fun c2 h => ?_) (fun c2 h => ?_)
 refine MX.sr <| RG.so rfl <| RG.nil <| MX.ret rfl <| RT.t1 hb0 Tryz.func107 rfl rfl ?_
 cases h
 exact hS0.gv
 refine MX.skip <| MX.sr <| RG.mo rfl <| RG.va (FV.len (xs := a0) Tryz.underlying98 rfl h0_0) ?_
 obtain ⟨s3, hs3, h⟩ := bind_in h
 refine RG.va (FV.mulc (i := 64) (j := ((a0.length : Nat) : Int)) rfl rfl hs3) <| RG.mo rfl <| RG.mo rfl <| RG.va (FV.len (xs := a0) Tryz.underlying98 rfl h0_0) <| RG.va (FV.subI (i := ((a0.length : Nat) : Int)) (j := 1) rfl rfl (by omega)) ?_
 obtain ⟨x4, hx4, h⟩ := bind_in h
 obtain ⟨hi5, hx6⟩ := idx_in hx4
 obtain ⟨A7, c8, he9, hk0, cs1, hr0, hm0⟩ := Rep.nth h0_0 hx6
 have he0 : cs1 = [.int .u64 (x4.toNat : Int)] := hr0; subst he0
 refine RG.va (FV.idxAddr (m := 1) (i := (((a0.length : Nat) : Int) - 1).toNat) (by kernel_rfl) rfl he9 rfl hi5 hk0) <| RG.l1 rfl (hm0 0 _ rfl) ?_
 obtain ⟨y0, hy0, h⟩ := bind_in h
 refine RG.cq (vI y0) body120 rfl (e1 rfl) (fun w9 hw9 => math_bits_LeadingZeros64_c n _ w9 (hS0.hL0 hL hw9) x4 hy0) rfl ?_
 obtain ⟨s0, hs0, h⟩ := bind_in h
 refine RG.va (FV.subc (i := s3) (j := y0) rfl rfl hs0) <| RG.so rfl <| RG.nil <| MX.ret rfl <| RT.t1 hb0 Tryz.func107 rfl rfl ?_
 cases h
 exact hS0.gv
def tb108_5 : List (Nat × Nat × Nat) := [(0, 4194304, 32), (0, 8388608, 64), (0, 16777216, 2), (4, 33554432, 16777216), (10, 67108864, 41943040), (17, 134217728, 71303168), (32, 268435456, 134217728), (0, 536870912, 128), (0, 1073741824, 2), (256, 2147483648, 1073741824), (640, 4294967296, 2684354560), (1088, 8589934592, 4563402752), (4095, 17179869184, 71303168), (8191, 0, 25769803776)]
def wide_moved_l1 (_n : Nat) (a0 : List UInt64) (a1 : Int) (J0 : Nat × (List UInt64) → Option (List UInt64)) : Nat × (List UInt64) → Option (List UInt64)
  | (i0, xs0) => (if i0 < a0.length then (a0[i0]?).bind fun x0 => (quoI a1 64).bind fun s0 => (chk (((i0 : Nat) : Int) + s0)).bind fun s1 => (idx xs0 s1).bind fun x1 => (remI a1 64).bind fun s2 => (natOf s2).bind fun k198 => (put xs0 ((s1.toNat : Nat) : Int) (x1 ||| (shlU x0 k198))).bind fun xs1 => (remI a1 64).bind fun s3 => (if 0 < s3 then (quoI a1 64).bind fun s4 => (chk (((i0 : Nat) : Int) + s4)).bind fun s5 => (chk (s5 + 1)).bind fun s6 => (remI a1 64).bind fun s7 => (chk (64 - s7)).bind fun s8 => (natOf s8).bind fun k212 => (idx xs1 s6).bind fun x2 => (put xs1 ((s6.toNat : Nat) : Int) (shrU x0 k212)).bind fun xs2 => J0 (i0 + 1, xs2) else J0 (i0 + 1, xs1)) else some xs0)
def wide_moved_p (n : Nat) (a0 : List UInt64) (a1 : Int) : Option (List UInt64) :=
  (quoI a1 64).bind fun s2 => (chk (((a0.length : Nat) : Int) + s2)).bind fun s3 => (chk (s3 + 1)).bind fun s4 => (mk s4 (0 : UInt64)).bind fun xs6 => Option.bind (loopF (wide_moved_l1 n a0 a1) n (0, xs6)) (fun xs0 => (wide_trimmed_p n false xs0).bind fun y0 => some y0.fWords)
theorem wide_moved_c (n : Nat) (L : List Nat) (w : World) (hL : ∀ b ∈ L, b < w.heap.size) (a0 : List UInt64) {v0_0 : Value} (h0_0 : Rep.R w L [v0_0] a0) (a1 : Int)  {r : List UInt64} (h : wide_moved_p n a0 a1 = some r) :
    Calls Tryz.prog 108 #[v0_0, vI a1] w (Gives w fun w' u => ∃ v0_0 : Value, u = v0_0 ∧ Rep.R w' L [v0_0] r) := by
 unfold wide_moved_p at h
 have hS0 := St.start w
 refine MX.start Tryz.func108 rfl rfl rfl (fun _ cs0 hb0 => ?_)
 refine MX.sr <| RG.so rfl <| RG.nil <| MX.sr <| RG.mo rfl ?_
 have hl1 : a0.length ≤ 281474976710656 := Rep.lenle h0_0
 refine RG.va (FV.len (xs := a0) Tryz.underlying98 rfl h0_0) <| RG.mo rfl ?_
 obtain ⟨s2, hs2, h⟩ := bind_in h
 refine RG.va (FV.quoc (i := a1) (j := 64) rfl rfl hs2) ?_
 obtain ⟨s3, hs3, h⟩ := bind_in h
 refine RG.va (FV.addc (i := ((a0.length : Nat) : Int)) (j := s2) rfl rfl hs3) ?_
 obtain ⟨s4, hs4, h⟩ := bind_in h
 refine RG.va (FV.addc (i := s3) (j := 1) rfl rfl hs4) ?_
 obtain ⟨xs6, hxs6, h⟩ := bind_in h
 refine RG.new .plain rfl (Does.mk (α := UInt64) hxs6 hS0 el98 rfl) (fun w7 b0 hS8 hT9 => ?_)
 have hc0 := Cells.at_ (cs := (List.replicate s4.toNat [.int .u64 0]).flatten) (xs := xs6) hS8 L (Cells.mk hxs6 rfl)
 refine RG.so rfl <| RG.nil <| MX.seq <| MX.sr <| RG.mo rfl ?_
 have hm0 := Rep.mv0 h0_0 hS8
 refine RG.va (FV.len (xs := a0) Tryz.underlying98 rfl hm0) <| RG.mo rfl <| RG.nil <| MX.block ?_
 obtain ⟨o0, ho163, hh165⟩ := bind_in2 h
 refine MX.loop (α := Nat × (List UInt64) × (List Value)) (fun ⟨i0, xs0, cs1⟩ => [(1, vI a1), (5, (.slice (some ⟨b0, 0, none⟩) s4.toNat s4.toNat)), (15, v0_0), (16, vI ((a0.length : Nat) : Int)), (17, vI ((i0 : Nat) : Int))]) (fun ⟨i0, xs0, cs1⟩ wx0 => St w wx0 [.row w.heap.size 35 (Rep.size UInt64) (.slice (some ⟨b0, 0, none⟩) s4.toNat s4.toNat) xs0.length cs1] ∧ Tr w7 [.row w.heap.size 35 (Rep.size UInt64) (.slice (some ⟨b0, 0, none⟩) s4.toNat s4.toNat) xs6.length ((List.replicate s4.toNat [.int .u64 0]).flatten)] wx0 [.row w.heap.size 35 (Rep.size UInt64) (.slice (some ⟨b0, 0, none⟩) s4.toNat s4.toNat) xs0.length cs1] ∧ Cells wx0 (bl [.row w.heap.size 35 (Rep.size UInt64) (.slice (some ⟨b0, 0, none⟩) s4.toNat s4.toNat) xs0.length cs1] ++ L) cs1 xs0) (fun ⟨i0, xs0, cs1⟩ => (i0, xs0)) (0, xs6, (List.replicate s4.toNat [.int .u64 0]).flatten) ho163 ⟨rfl, rfl, rfl, rfl, rfl, trivial⟩ ⟨hS8, Tr.refl _ _, hc0⟩ ?_
 rintro J0 ⟨i0, xs0, cs1⟩ wx0 hJ167 ⟨hS1, hT0, hc1⟩ h
 unfold wide_moved_l1 at h
 try dsimp only at h
 refine MX.sr <| RG.va (FV.lssN (i := i0) (j := a0.length) rfl rfl) <| RG.nil <| MX.seq <| MX.ifd rfl h (fun c0 h => ?_) (fun c0 h => ?_)
 refine MX.skip <| MX.seq <| MX.block <| MX.sr <| RG.mo rfl ?_
 obtain ⟨x0, hx0, h⟩ := bind_in h
 have hm1 := Rep.mv0 h0_0 hS1
 obtain ⟨A170, c1, he0, hk0, cs2, hr0, hm2⟩ := Rep.nth hm1 hx0
 have he1 : cs2 = [.int .u64 (x0.toNat : Int)] := hr0; subst he1
 refine RG.va (FV.ia 1 i0 rfl he0 rfl rfl hk0) <| RG.l1 rfl (hm2 0 _ rfl) <| RG.so rfl <| RG.so rfl <| RG.nil <| MX.seq ?_
 refine MX.drawT 13 tb108_5 (by kernel_rfl) (by kernel_rfl) (by kernel_rfl) (fun kt0 kp0 => ?_)
 refine RD.vw 0 1 kt0 rfl kp0 (fun _ => FV.move rfl) rfl <| RD.vw 1 3 kt0 rfl kp0 (fun _ => FV.move rfl) rfl <| RD.vw 2 7 kt0 rfl kp0 (fun _ => FV.move rfl) rfl ?_
 obtain ⟨s0, hs0, h⟩ := bind_in h
 refine RD.vw 3 15 kt0 rfl kp0 (fun _ => FV.quoc (i := a1) (j := 64) rfl rfl hs0) rfl ?_
 obtain ⟨s1, hs1, h⟩ := bind_in h
 refine RD.vw 4 31 kt0 rfl kp0 (fun _ => FV.addc (i := ((i0 : Nat) : Int)) (j := s0) rfl rfl hs1) rfl ?_
 obtain ⟨x1, hx1, h⟩ := bind_in h
 obtain ⟨hi0, hx2⟩ := idx_in hx1
 obtain ⟨A186, c2, he2, hk1, cs3, hr1, hm3⟩ := St.nth (α := UInt64) hS1 .hd hc1 hx2
 obtain ⟨b1, c3, he3⟩ := St.nthOwn (α := UInt64) hS1 .hd hk1
 obtain rfl : A186 = ⟨b1, 0, none⟩ := by rw [he3] at he2; cases he2; rfl
 have he4 : cs3 = [.int .u64 (x1.toNat : Int)] := hr1; subst he4
 refine RD.vw 5 63 kt0 rfl kp0 (fun _ => FV.ia 1 (s1.toNat) rfl he2 rfl hi0 hk1) rfl <| RD.vx 6 127 14336 kt0 rfl kp0 (FV.l1 rfl (hm3 0 _ rfl)) rfl <| RD.vw 7 255 kt0 rfl kp0 (fun _ => FV.move rfl) rfl <| RD.vw 8 511 kt0 rfl kp0 (fun _ => FV.move rfl) rfl ?_
 obtain ⟨s5, hs5, h⟩ := bind_in h
 refine RD.vw 9 1023 kt0 rfl kp0 (fun _ => FV.remc (i := a1) (j := 64) rfl rfl hs5) rfl ?_
 obtain ⟨k198, hk2, h⟩ := bind_in h
 refine RD.vw 10 2047 kt0 rfl kp0 (fun _ => FV.shlI (a := x0) (i := s5) rfl rfl hk2) rfl <| RD.vw 11 4095 kt0 rfl kp0 (fun _ => FV.orU (a := x1) (b := shlU x0 k198) rfl rfl) rfl <| RD.vw 12 8191 kt0 rfl kp0 (fun _ => FV.ia 1 (s1.toNat) rfl he2 rfl hi0 hk1) rfl ?_
 obtain ⟨xs1, hxs199, h⟩ := bind_in h
 refine RD.one (i := 13) (readyD_ok kt0 (by kernel_rfl)) (RO.acts (m' := 16383) (stepC_ok kt0 (by kernel_rfl)) rfl rfl .plain (Acts.set (α := UInt64) (i := s1.toNat) hxs199 hS1 he3 (fun _ => .hd) hc1 rfl rfl rfl rfl rfl (by kernel_rfl)) (fun w0 ⟨cs4, hS2, hT1, hc2⟩ => ?_))
 refine RD.done (doneD_ok kt0 (by kernel_rfl)) <| MX.sr <| RG.mo rfl ?_
 obtain ⟨s6, hs6, h⟩ := bind_in h
 refine RG.va (FV.remc (i := a1) (j := 64) rfl rfl hs6) <| RG.va (FV.gtr (i := s6) (j := 0) rfl rfl) <| RG.nil <| MX.ifd rfl h (fun c4 h => ?_) (fun c4 h => ?_)
 refine MX.region <| RG.mo rfl <| RG.mo rfl <| RG.mo rfl ?_
 obtain ⟨s7, hs7, h⟩ := bind_in h
 refine RG.va (FV.quoc (i := a1) (j := 64) rfl rfl hs7) ?_
 obtain ⟨s8, hs8, h⟩ := bind_in h
 refine RG.va (FV.addc (i := ((i0 : Nat) : Int)) (j := s7) rfl rfl hs8) ?_
 obtain ⟨s9, hs9, h⟩ := bind_in h
 refine RG.va (FV.addc (i := s8) (j := 1) rfl rfl hs9) <| RG.mo rfl <| RG.mo rfl ?_
 obtain ⟨s10, hs10, h⟩ := bind_in h
 refine RG.va (FV.remc (i := a1) (j := 64) rfl rfl hs10) ?_
 obtain ⟨s11, hs11, h⟩ := bind_in h
 refine RG.va (FV.subc (i := 64) (j := s10) rfl rfl hs11) ?_
 obtain ⟨k212, hk3, h⟩ := bind_in h
 refine RG.va (FV.shrI (a := x0) (i := s11) rfl rfl hk3) ?_
 obtain ⟨x2, hx3, h⟩ := bind_in h
 obtain ⟨hi1, hx4⟩ := idx_in hx3
 obtain ⟨A216, c5, he5, hk4, cs5, hr2, hm4⟩ := St.nth (α := UInt64) hS2 .hd hc2 hx4
 obtain ⟨b2, c6, he6⟩ := St.nthOwn (α := UInt64) hS2 .hd hk4
 obtain rfl : A216 = ⟨b2, 0, none⟩ := by rw [he6] at he5; cases he5; rfl
 have he7 : cs5 = [.int .u64 (x2.toNat : Int)] := hr2; subst he7
 refine RG.va (FV.ia 1 (s9.toNat) rfl he5 rfl hi1 hk4) ?_
 obtain ⟨xs2, hxs227, h⟩ := bind_in h
 refine RG.acts' .plain (Acts.set (α := UInt64) (i := s9.toNat) hxs227 hS2 he6 (fun _ => .hd) hc2 rfl rfl rfl rfl rfl (by kernel_rfl)) (fun w1 ⟨cs6, hS3, hT2, hc3⟩ => ?_)
 refine RG.nil <| MX.inBlock <| MX.region <| RG.va (FV.addN (i := i0) (j := 1) rfl rfl (by omega)) <| RG.mo rfl <| RG.nil ?_
 exact hJ167 (i0 + 1, xs2, cs6) _ _ ⟨rfl, rfl, rfl, rfl, rfl, trivial⟩ ⟨hS3, (Tr.trans hT0 (Tr.trans hT1 hT2)), hc3⟩ h
 refine MX.skip <| MX.inBlock <| MX.region <| RG.va (FV.addN (i := i0) (j := 1) rfl rfl (by omega)) <| RG.mo rfl <| RG.nil ?_
 exact hJ167 (i0 + 1, xs1, cs4) _ _ ⟨rfl, rfl, rfl, rfl, rfl, trivial⟩ ⟨hS2, (Tr.trans hT0 hT1), hc2⟩ h
 refine MX.exit rfl ?_
 have h := hh165 _ h
 try dsimp only at h
 refine MX.sr <| RG.mo rfl ?_
 have hr3 := St.freeze (α := UInt64) hS1 .hd hc1 hL
 have hS4 := St.delS hS1 .hd
 have hT3 := St.delT hS1 .hd
 have hr4 := Rep.at_ (α := UInt64) (v := (.slice (some ⟨b0, 0, none⟩) s4.toNat s4.toNat)) (xs := xs0) hS4 L hr3
 obtain ⟨y0, hy0, h⟩ := bind_in h
 refine RG.call' (fst := []) (cap := []) .plain body103 rfl (e2 rfl rfl) (fun w9 hw9 => wide_trimmed_c n _ w9 (hS4.hL hL hw9) false xs0 (Rep.keep0 hr4 hw9) hy0) rfl (fun w2 vu0 hag0 ⟨v0, hu_, hr5⟩ => ?_)
 subst hu_
 obtain ⟨hS5, hT4⟩ := hS4.agr hag0
 refine RG.va (FV.field1 (cs := [.bool y0.fBelow, v0]) (off := 1) (m := 1) (by kernel_rfl) (by kernel_rfl) rfl rfl) <| RG.so rfl <| RG.nil <| MX.ret rfl <| RT.t1 hb0 Tryz.func108 rfl rfl ?_
 cases h
 exact ⟨hS5.ag, fun w9 hw9 => ⟨v0, rfl, hS5.kd hr5 hw9⟩⟩
def tb109_6 : List (Nat × Nat × Nat) := [(0, 16777216, 1), (0, 33554432, 32), (3, 67108864, 50331648), (4, 134217728, 67108864), (0, 268435456, 2), (0, 536870912, 32), (48, 1073741824, 805306368), (64, 2147483648, 1073741824), (136, 4294967296, 2281701376), (256, 8388608, 4294967296)]
def tb109_8 : List (Nat × Nat × Nat) := [(0, 17179869184, 1), (0, 34359738368, 32), (3, 68719476736, 51539607552), (4, 137438953472, 68719476736), (0, 274877906944, 2), (0, 549755813888, 32), (48, 1099511627776, 824633720832), (64, 2199023255552, 1099511627776), (136, 4398046511104, 2336462209024), (256, 8589934592, 4398046511104)]
def wide_compared_l1 (_n : Nat) (a0 : List UInt64) (a1 : List UInt64) (J0 : Int → Option (Int ⊕ Unit)) : Int → Option (Int ⊕ Unit)
  | z0 => (if 0 ≤ z0 then (idx a0 z0).bind fun x0 => (idx a1 z0).bind fun x1 => (if x0 < x1 then some (.inl (-1 : Int)) else (if x1 < x0 then some (.inl (1 : Int)) else (chk (z0 - 1)).bind fun s0 => J0 s0)) else some (.inr ()))
def wide_compared_p (n : Nat) (a0 : List UInt64) (a1 : List UInt64) : Option Int :=
  (if a0.length = a1.length then thn (loopF (wide_compared_l1 n a0 a1) n (((a0.length : Nat) : Int) - 1)) (fun _ => some (0 : Int)) else some (((a0.length : Nat) : Int) - ((a1.length : Nat) : Int)))
theorem wide_compared_c (n : Nat) (L : List Nat) (w : World) (_hL : ∀ b ∈ L, b < w.heap.size) (a0 : List UInt64) {v0_0 : Value} (h0_0 : Rep.R w L [v0_0] a0) (a1 : List UInt64) {v1_0 : Value} (h1_0 : Rep.R w L [v1_0] a1)  {r : Int} (h : wide_compared_p n a0 a1 = some r) :
    Calls Tryz.prog 109 #[v0_0, v1_0] w (Gives w fun _ u => u = vI r) := by
 unfold wide_compared_p at h
 have hS0 := St.start w
 refine MX.start Tryz.func109 rfl rfl rfl (fun _ cs0 hb0 => ?_)
 refine MX.sr <| RG.so rfl <| RG.nil <| MX.seq <| MX.sr <| RG.mo rfl ?_
 have hl1 : a0.length ≤ 281474976710656 := Rep.lenle h0_0
 refine RG.va (FV.len (xs := a0) Tryz.underlying98 rfl h0_0) <| RG.mo rfl ?_
 have hl2 : a1.length ≤ 281474976710656 := Rep.lenle h1_0
 refine RG.va (FV.len (xs := a1) Tryz.underlying98 rfl h1_0) <| RG.va (FV.neqN (i := a0.length) (j := a1.length) rfl rfl) <| RG.nil <| MX.ifn rfl h (fun c3 h => ?_) (fun c3 h => ?_)
 refine MX.skip <| MX.seq <| MX.sr <| RG.mo rfl <| RG.va (FV.len (xs := a0) Tryz.underlying98 rfl h0_0) <| RG.va (FV.subI (i := ((a0.length : Nat) : Int)) (j := 1) rfl rfl (by omega)) ?_
 refine RG.so rfl <| RG.nil <| MX.block ?_
 obtain ⟨o0, ho45, hh47⟩ := thn_in h
 refine MX.loop (α := Int) (fun z0 => [(0, v0_0), (1, v1_0), (5, vI z0)]) (fun z0 wx0 => St w wx0 [] ∧ Tr w [] wx0 []) (fun z0 => z0) (((a0.length : Nat) : Int) - 1) ho45 ⟨rfl, rfl, rfl, trivial⟩ ⟨hS0, Tr.refl _ _⟩ ?_
 rintro J0 z0 wx0 hJ49 ⟨hS1, hT0⟩ h
 unfold wide_compared_l1 at h
 try dsimp only at h
 refine MX.seq <| MX.sr <| RG.mo rfl <| RG.va (FV.geq (i := z0) (j := 0) rfl rfl) <| RG.nil <| MX.ifd rfl h (fun c0 h => ?_) (fun c0 h => ?_)
 refine MX.skip <| MX.seq <| MX.block <| MX.block <| MX.seq <| MX.drawT 10 tb109_6 (by kernel_rfl) (by kernel_rfl) (by kernel_rfl) (fun kt0 kp0 => ?_)
 refine RD.vw 0 1 kt0 rfl kp0 (fun _ => FV.move rfl) rfl <| RD.vw 1 3 kt0 rfl kp0 (fun _ => FV.move rfl) rfl ?_
 obtain ⟨x0, hx0, h⟩ := bind_in h
 obtain ⟨hi0, hx1⟩ := idx_in hx0
 have hm0 := Rep.mv0 h0_0 hS1
 obtain ⟨A56, c1, he0, hk0, cs1, hr0, hm1⟩ := Rep.nth hm0 hx1
 have he1 : cs1 = [.int .u64 (x0.toNat : Int)] := hr0; subst he1
 refine RD.vw 2 7 kt0 rfl kp0 (fun _ => FV.ia 1 (z0.toNat) rfl he0 rfl hi0 hk0) rfl <| RD.vx 3 15 768 kt0 rfl kp0 (FV.l1 rfl (hm1 0 _ rfl)) rfl <| RD.vw 4 31 kt0 rfl kp0 (fun _ => FV.move rfl) rfl <| RD.vw 5 63 kt0 rfl kp0 (fun _ => FV.move rfl) rfl ?_
 obtain ⟨x1, hx2, h⟩ := bind_in h
 obtain ⟨hi1, hx3⟩ := idx_in hx2
 have hm2 := Rep.mv0 h1_0 hS1
 obtain ⟨A68, c2, he2, hk1, cs2, hr1, hm3⟩ := Rep.nth hm2 hx3
 have he3 : cs2 = [.int .u64 (x1.toNat : Int)] := hr1; subst he3
 refine RD.vw 6 127 kt0 rfl kp0 (fun _ => FV.ia 1 (z0.toNat) rfl he2 rfl hi1 hk1) rfl <| RD.vx 7 255 768 kt0 rfl kp0 (FV.l1 rfl (hm3 0 _ rfl)) rfl <| RD.vw 8 511 kt0 rfl kp0 (fun _ => FV.lssU (a := x0) (b := x1) rfl rfl) rfl <| RD.vw 9 1023 kt0 rfl kp0 (fun _ => FV.assign rfl) rfl <| RD.done (doneD_ok kt0 (by kernel_rfl)) <| MX.ifd rfl h (fun c4 h => ?_) (fun c4 h => ?_)
 refine MX.sr <| RG.so rfl <| RG.nil ?_
 have h := thn_inl h hh47
 refine MX.ret rfl <| RT.t1 hb0 Tryz.func109 rfl rfl ?_
 cases h
 exact hS1.gv
 refine MX.seq <| MX.drawT 10 tb109_8 (by kernel_rfl) (by kernel_rfl) (by kernel_rfl) (fun kt1 kp1 => ?_)
 refine RD.vw 0 1 kt1 rfl kp1 (fun _ => FV.move rfl) rfl <| RD.vw 1 3 kt1 rfl kp1 (fun _ => FV.move rfl) rfl <| RD.vw 2 7 kt1 rfl kp1 (fun _ => FV.ia 1 (z0.toNat) rfl he0 rfl hi0 hk0) rfl <| RD.vx 3 15 768 kt1 rfl kp1 (FV.l1 rfl (hm1 0 _ rfl)) rfl <| RD.vw 4 31 kt1 rfl kp1 (fun _ => FV.move rfl) rfl <| RD.vw 5 63 kt1 rfl kp1 (fun _ => FV.move rfl) rfl ?_
 refine RD.vw 6 127 kt1 rfl kp1 (fun _ => FV.ia 1 (z0.toNat) rfl he2 rfl hi1 hk1) rfl <| RD.vx 7 255 768 kt1 rfl kp1 (FV.l1 rfl (hm3 0 _ rfl)) rfl <| RD.vw 8 511 kt1 rfl kp1 (fun _ => FV.gtrU (a := x0) (b := x1) rfl rfl) rfl <| RD.vw 9 1023 kt1 rfl kp1 (fun _ => FV.assign rfl) rfl <| RD.done (doneD_ok kt1 (by kernel_rfl)) <| MX.ifd rfl h (fun c5 h => ?_) (fun c5 h => ?_)
 refine MX.sr <| RG.so rfl <| RG.nil ?_
 have h := thn_inl h hh47
 refine MX.ret rfl <| RT.t1 hb0 Tryz.func109 rfl rfl ?_
 cases h
 exact hS1.gv
 refine MX.skip <| MX.inBlock <| MX.inBlock <| MX.region <| RG.mo rfl ?_
 obtain ⟨s0, hs0, h⟩ := bind_in h
 refine RG.va (FV.subc (i := z0) (j := 1) rfl rfl hs0) <| RG.so rfl <| RG.nil ?_
 exact hJ49 s0 _ _ ⟨rfl, rfl, rfl, trivial⟩ ⟨hS1, hT0⟩ h
 refine MX.exit rfl ?_
 have h := thn_inr h hh47
 try dsimp only at h
 refine MX.sr <| RG.so rfl <| RG.nil <| MX.ret rfl <| RT.t1 hb0 Tryz.func109 rfl rfl ?_
 cases h
 exact hS1.gv
 refine MX.sr <| RG.mo rfl <| RG.va (FV.len (xs := a0) Tryz.underlying98 rfl h0_0) <| RG.mo rfl <| RG.va (FV.len (xs := a1) Tryz.underlying98 rfl h1_0) <| RG.va (FV.subI (i := ((a0.length : Nat) : Int)) (j := ((a1.length : Nat) : Int)) rfl rfl (by omega)) ?_
 refine RG.so rfl <| RG.nil <| MX.ret rfl <| RT.t1 hb0 Tryz.func109 rfl rfl ?_
 cases h
 exact hS0.gv
def wide_taken_l1 (_n : Nat) (a0 : List UInt64) (a1 : List UInt64) (J0 : UInt64 × Nat × (List UInt64) → Option (List UInt64)) : UInt64 × Nat × (List UInt64) → Option (List UInt64)
  | (u0, i0, xs0) => (if i0 < a0.length then (a0[i0]?).bind fun x0 => jn (fun u1 => (sub64 x0 u1 u0).bind fun z0 => (xs0[i0]?).bind fun x1 => (put xs0 ((i0 : Nat) : Int) z0.1).bind fun xs1 => J0 (z0.2, i0 + 1, xs1)) (fun J1 => (if i0 < a1.length then (a1[i0]?).bind fun x2 => J1 x2 else J1 (0 : UInt64))) else some xs0)
def wide_taken_p (n : Nat) (a0 : List UInt64) (a1 : List UInt64) : Option (List UInt64) :=
  (mk ((a0.length : Nat) : Int) (0 : UInt64)).bind fun xs3 => Option.bind (loopF (wide_taken_l1 n a0 a1) n ((0 : UInt64), 0, xs3)) (fun xs0 => some xs0)
theorem wide_taken_c (n : Nat) (L : List Nat) (w : World) (hL : ∀ b ∈ L, b < w.heap.size) (a0 : List UInt64) {v0_0 : Value} (h0_0 : Rep.R w L [v0_0] a0) (a1 : List UInt64) {v1_0 : Value} (h1_0 : Rep.R w L [v1_0] a1)  {r : List UInt64} (h : wide_taken_p n a0 a1 = some r) :
    Calls Tryz.prog 110 #[v0_0, v1_0] w (Gives w fun w' u => ∃ v0_0 : Value, u = v0_0 ∧ Rep.R w' L [v0_0] r) := by
 unfold wide_taken_p at h
 have hS0 := St.start w
 refine MX.start Tryz.func110 rfl rfl rfl (fun _ cs0 hb0 => ?_)
 refine MX.sr <| RG.so rfl <| RG.nil <| MX.sr <| RG.mo rfl ?_
 have hl1 : a0.length ≤ 281474976710656 := Rep.lenle h0_0
 refine RG.va (FV.len (xs := a0) Tryz.underlying98 rfl h0_0) ?_
 obtain ⟨xs3, hxs3, h⟩ := bind_in h
 refine RG.new .plain rfl (Does.mk (α := UInt64) hxs3 hS0 el98 rfl) (fun w4 b7 hS5 hT6 => ?_)
 have hc8 := Cells.at_ (cs := (List.replicate ((a0.length : Nat) : Int).toNat [.int .u64 0]).flatten) (xs := xs3) hS5 L (Cells.mk hxs3 rfl)
 refine RG.so rfl <| RG.nil <| MX.sr <| RG.so rfl <| RG.nil <| MX.seq ?_
 refine MX.sr <| RG.mo rfl ?_
 have hm9 := Rep.mv0 h0_0 hS5
 refine RG.va (FV.len (xs := a0) Tryz.underlying98 rfl hm9) <| RG.mo rfl <| RG.nil <| MX.block ?_
 obtain ⟨o0, ho150, hh152⟩ := bind_in2 h
 refine MX.loop (α := UInt64 × Nat × (List UInt64) × (List Value)) (fun ⟨u0, i0, xs0, cs1⟩ => [(1, v1_0), (5, (.slice (some ⟨b7, 0, none⟩) ((a0.length : Nat) : Int).toNat ((a0.length : Nat) : Int).toNat)), (6, .int .u64 (u0.toNat : Int)), (13, v0_0), (14, vI ((a0.length : Nat) : Int)), (15, vI ((i0 : Nat) : Int))]) (fun ⟨u0, i0, xs0, cs1⟩ wx0 => St w wx0 [.row w.heap.size 35 (Rep.size UInt64) (.slice (some ⟨b7, 0, none⟩) ((a0.length : Nat) : Int).toNat ((a0.length : Nat) : Int).toNat) xs0.length cs1] ∧ Tr w4 [.row w.heap.size 35 (Rep.size UInt64) (.slice (some ⟨b7, 0, none⟩) ((a0.length : Nat) : Int).toNat ((a0.length : Nat) : Int).toNat) xs3.length ((List.replicate ((a0.length : Nat) : Int).toNat [.int .u64 0]).flatten)] wx0 [.row w.heap.size 35 (Rep.size UInt64) (.slice (some ⟨b7, 0, none⟩) ((a0.length : Nat) : Int).toNat ((a0.length : Nat) : Int).toNat) xs0.length cs1] ∧ Cells wx0 (bl [.row w.heap.size 35 (Rep.size UInt64) (.slice (some ⟨b7, 0, none⟩) ((a0.length : Nat) : Int).toNat ((a0.length : Nat) : Int).toNat) xs0.length cs1] ++ L) cs1 xs0) (fun ⟨u0, i0, xs0, cs1⟩ => (u0, i0, xs0)) ((0 : UInt64), 0, xs3, (List.replicate ((a0.length : Nat) : Int).toNat [.int .u64 0]).flatten) ho150 ⟨rfl, rfl, rfl, rfl, rfl, rfl, trivial⟩ ⟨hS5, Tr.refl _ _, hc8⟩ ?_
 rintro J0 ⟨u0, i0, xs0, cs1⟩ wx0 hJ154 ⟨hS1, hT0, hc0⟩ h
 unfold wide_taken_l1 at h
 try dsimp only at h
 refine MX.sr <| RG.va (FV.lssN (i := i0) (j := a0.length) rfl rfl) <| RG.nil <| MX.seq <| MX.ifd rfl h (fun c0 h => ?_) (fun c0 h => ?_)
 refine MX.skip <| MX.seq <| MX.block <| MX.sr <| RG.mo rfl ?_
 obtain ⟨x0, hx0, h⟩ := bind_in h
 have hm0 := Rep.mv0 h0_0 hS1
 obtain ⟨A157, c1, he0, hk0, cs2, hr0, hm1⟩ := Rep.nth hm0 hx0
 have he1 : cs2 = [.int .u64 (x0.toNat : Int)] := hr0; subst he1
 refine RG.va (FV.ia 1 i0 rfl he0 rfl rfl hk0) <| RG.l1 rfl (hm1 0 _ rfl) <| RG.so rfl <| RG.so rfl <| RG.nil <| MX.sr ?_
 refine RG.so rfl <| RG.nil <| MX.seq <| MX.sr <| RG.mo rfl <| RG.mo rfl ?_
 have hm2 := Rep.mv0 h1_0 hS1
 have hl166 : a1.length ≤ 281474976710656 := Rep.lenle hm2
 refine RG.va (FV.len (xs := a1) Tryz.underlying98 rfl hm2) <| RG.va (FV.lssN (i := i0) (j := a1.length) rfl rfl) <| RG.nil <| MX.join (α := UInt64) (fun u1 => [(1, v1_0), (5, (.slice (some ⟨b7, 0, none⟩) ((a0.length : Nat) : Int).toNat ((a0.length : Nat) : Int).toNat)), (6, .int .u64 (u0.toNat : Int)), (13, v0_0), (14, vI ((a0.length : Nat) : Int)), (15, vI ((i0 : Nat) : Int)), (7, vI ((i0 : Nat) : Int)), (8, .int .u64 (x0.toNat : Int)), (9, .int .u64 (u1.toNat : Int))]) (fun u1 wx1 => St w wx1 [.row w.heap.size 35 (Rep.size UInt64) (.slice (some ⟨b7, 0, none⟩) ((a0.length : Nat) : Int).toNat ((a0.length : Nat) : Int).toNat) xs0.length cs1] ∧ Tr wx0 [.row w.heap.size 35 (Rep.size UInt64) (.slice (some ⟨b7, 0, none⟩) ((a0.length : Nat) : Int).toNat ((a0.length : Nat) : Int).toNat) xs0.length cs1] wx1 [.row w.heap.size 35 (Rep.size UInt64) (.slice (some ⟨b7, 0, none⟩) ((a0.length : Nat) : Int).toNat ((a0.length : Nat) : Int).toNat) xs0.length cs1]) (fun u1 => u1) h ?_ ?_
 rintro u1 wx1 ⟨hS2, hT1⟩ h
 try dsimp only at h
 refine MX.region <| RG.mo rfl <| RG.mo rfl <| RG.mo rfl <| RG.mo rfl <| RG.mo rfl ?_
 obtain ⟨z0, hz184, h⟩ := bind_in h
 refine RG.va (FV.sub64 (a := x0) (b := u1) (c := u0) Tryz.func121 rfl (by kernel_rfl) (by kernel_rfl) (by kernel_rfl) rfl rfl rfl hz184) <| RG.mo rfl <| RG.va (FV.extract rfl rfl) <| RG.va (FV.extract rfl rfl) ?_
 obtain ⟨x1, hx1, h⟩ := bind_in h
 have hm3 := Cells.mv hc0 hT1
 obtain ⟨A186, c2, he2, hk1, cs3, hr1, hm4⟩ := St.nth (α := UInt64) hS2 .hd hm3 hx1
 obtain ⟨b0, c3, he3⟩ := St.nthOwn (α := UInt64) hS2 .hd hk1
 obtain rfl : A186 = ⟨b0, 0, none⟩ := by rw [he3] at he2; cases he2; rfl
 have he4 : cs3 = [.int .u64 (x1.toNat : Int)] := hr1; subst he4
 refine RG.va (FV.ia 1 i0 rfl he2 rfl rfl hk1) ?_
 obtain ⟨xs1, hxs198, h⟩ := bind_in h
 refine RG.acts' .plain (Acts.set (α := UInt64) (i := i0) hxs198 hS2 he3 (fun _ => .hd) hm3 rfl rfl rfl rfl rfl (by kernel_rfl)) (fun w0 ⟨cs4, hS3, hT2, hc1⟩ => ?_)
 refine RG.so rfl <| RG.nil <| MX.inBlock <| MX.region <| RG.va (FV.addN (i := i0) (j := 1) rfl rfl (by omega)) <| RG.mo rfl ?_
 refine RG.nil ?_
 exact hJ154 (z0.2, i0 + 1, xs1, cs4) _ _ ⟨rfl, rfl, rfl, rfl, rfl, rfl, trivial⟩ ⟨hS3, (Tr.trans hT0 (Tr.trans hT1 hT2)), hc1⟩ h
 intro J1 hJ183 h
 try dsimp only at h
 refine MX.ifd rfl h (fun c4 h => ?_) (fun c4 h => ?_)
 refine MX.region <| RG.mo rfl <| RG.mo rfl ?_
 obtain ⟨x2, hx2, h⟩ := bind_in h
 obtain ⟨A206, c5, he5, hk2, cs5, hr2, hm5⟩ := Rep.nth hm2 hx2
 have he6 : cs5 = [.int .u64 (x2.toNat : Int)] := hr2; subst he6
 refine RG.va (FV.ia 1 i0 rfl he5 rfl rfl hk2) <| RG.l1 rfl (hm5 0 _ rfl) <| RG.so rfl <| RG.nil ?_
 exact hJ183 x2 _ _ ⟨rfl, rfl, rfl, rfl, rfl, rfl, rfl, rfl, rfl, trivial⟩ ⟨hS1, Tr.refl _ _⟩ h
 refine MX.skip ?_
 exact hJ183 (0 : UInt64) _ _ ⟨rfl, rfl, rfl, rfl, rfl, rfl, rfl, rfl, rfl, trivial⟩ ⟨hS1, Tr.refl _ _⟩ h
 refine MX.exit rfl ?_
 have h := hh152 _ h
 try dsimp only at h
 refine MX.sr <| RG.mo rfl <| RG.so rfl <| RG.nil <| MX.ret rfl ?_
 have hr3 := St.freeze (α := UInt64) hS1 .hd hc0 hL
 have hS4 := St.delS hS1 .hd
 have hT3 := St.delT hS1 .hd
 have hr4 := Rep.at_ (α := UInt64) (v := (.slice (some ⟨b7, 0, none⟩) ((a0.length : Nat) : Int).toNat ((a0.length : Nat) : Int).toNat)) (xs := xs0) hS4 L hr3
 refine RT.t1 hb0 Tryz.func110 rfl rfl ?_
 cases h
 exact ⟨hS4.ag, fun w9 hw9 => ⟨(.slice (some ⟨b7, 0, none⟩) ((a0.length : Nat) : Int).toNat ((a0.length : Nat) : Int).toNat), rfl, hS4.kd hr4 hw9⟩⟩
def tb87_7 : List (Nat × Nat × Nat) := [(0, 16777216, 16), (0, 33554432, 128), (0, 67108864, 64), (0, 134217728, 1), (0, 268435456, 128), (24, 536870912, 402653184), (32, 1073741824, 536870912), (0, 2147483648, 2), (128, 4294967296, 2147483648), (256, 8589934592, 4294967296), (580, 17179869184, 9730785280), (1024, 8388608, 17179869184), (2048, 34359738368, 8388608), (2048, 68719476736, 8388608), (8191, 137438953472, 50331648), (24575, 0, 171798691840), (65535, 64, 68719476736)]
def tb87_16 : List (Nat × Nat × Nat) := [(0, 36893488147419103232, 16), (0, 73786976294838206464, 256), (2, 147573952589676412928, 73786976294838206464), (5, 295147905179352825856, 184467440737095516160), (8, 590295810358705651712, 295147905179352825856), (0, 1180591620717411303424, 256), (32, 2361183241434822606848, 1180591620717411303424), (64, 4722366482869645213696, 2361183241434822606848), (144, 9444732965739290427392, 5312662293228350865408), (511, 18889465931478580854784, 184467440737095516160), (1023, 0, 28334198897217871282176)]
theorem body106 : bodyB Tryz.prog 106 = true := by kernel_rfl
theorem body107 : bodyB Tryz.prog 107 = true := by kernel_rfl
theorem body108 : bodyB Tryz.prog 108 = true := by kernel_rfl
theorem body109 : bodyB Tryz.prog 109 = true := by kernel_rfl
theorem body110 : bodyB Tryz.prog 110 = true := by kernel_rfl
def wide_divided_l1 (n : Nat) (a0 : List UInt64) (a1 : List UInt64) (J0 : UInt64 × Int × (List UInt64) → Option (UInt64 × (List UInt64))) : UInt64 × Int × (List UInt64) → Option (UInt64 × (List UInt64))
  | (u0, z0, xs0) => (if 0 ≤ z0 then (idx a0 z0).bind fun x0 => (a1[0]?).bind fun x1 => (math_bits_Div64_p n u0 x0 x1).bind fun y0 => (idx xs0 z0).bind fun x2 => (put xs0 ((z0.toNat : Nat) : Int) y0.1).bind fun xs1 => (chk (z0 - 1)).bind fun s0 => J0 (y0.2, s0, xs1) else some (u0, xs0))
def wide_divided_l2 (n : Nat) (a1 : List UInt64) (J0 : (List UInt64) × Int × (List UInt64) → Option ((List UInt64) × (List UInt64))) : (List UInt64) × Int × (List UInt64) → Option ((List UInt64) × (List UInt64))
  | (xs0, z0, xs1) => (if 0 ≤ z0 then (wide_moved_p n a1 z0).bind fun y0 => (wide_compared_p n xs0 y0).bind fun y1 => jn (fun (xs2, xs3) => (chk (z0 - 1)).bind fun s0 => J0 (xs2, s0, xs3)) (fun J1 => (if 0 ≤ y1 then (wide_taken_p n xs0 y0).bind fun y2 => (wide_trimmed_p n false y2).bind fun y3 => (quoI z0 64).bind fun s1 => (idx xs1 s1).bind fun x0 => (remI z0 64).bind fun s2 => (natOf s2).bind fun k576 => (put xs1 ((s1.toNat : Nat) : Int) (x0 ||| (shlU (1 : UInt64) k576))).bind fun xs4 => J1 (y3.fWords, xs4) else J1 (xs0, xs1))) else some (xs1, xs0))
def wide_divided_p (n : Nat) (a0 : List UInt64) (a1 : List UInt64) : Option ((List UInt64) × (List UInt64)) :=
  (mk ((a0.length : Nat) : Int) (0 : UInt64)).bind fun xs3 => (if a1.length = 1 then Option.bind (loopF (wide_divided_l1 n a0 a1) n ((0 : UInt64), ((a0.length : Nat) : Int) - 1, xs3)) (fun (u0, xs0) => (wide_trimmed_p n false ([u0] : List UInt64)).bind fun y0 => some (xs0, y0.fWords)) else (wide_length_p n a0).bind fun y1 => (wide_length_p n a1).bind fun y2 => (chk (y1 - y2)).bind fun s0 => Option.bind (loopF (wide_divided_l2 n a1) n (a0, s0, xs3)) (fun (xs1, xs2) => some (xs1, xs2)))
theorem wide_divided_c (n : Nat) (L : List Nat) (w : World) (hL : ∀ b ∈ L, b < w.heap.size) (a0 : List UInt64) {v0_0 : Value} (h0_0 : Rep.R w L [v0_0] a0) (a1 : List UInt64) {v1_0 : Value} (h1_0 : Rep.R w L [v1_0] a1)  {r : (List UInt64) × (List UInt64)} (h : wide_divided_p n a0 a1 = some r) :
    Calls Tryz.prog 87 #[v0_0, v1_0] w (Gives w fun w' u => ∃ v0_0 v1_0 : Value, u = .tuple #[v0_0, v1_0] ∧ Rep.R w' L [v0_0] r.1 ∧ Rep.R w' L [v1_0] r.2) := by
 unfold wide_divided_p at h
 have hS0 := St.start w
 refine MX.start Tryz.func87 rfl rfl rfl (fun _ cs0 hb0 => ?_)
 refine MX.sr <| RG.so rfl <| RG.so rfl <| RG.nil <| MX.sr <| RG.mo rfl ?_
 have hl1 : a0.length ≤ 281474976710656 := Rep.lenle h0_0
 refine RG.va (FV.len (xs := a0) Tryz.underlying98 rfl h0_0) ?_
 obtain ⟨xs3, hxs3, h⟩ := bind_in h
 refine RG.new .plain rfl (Does.mk (α := UInt64) hxs3 hS0 el98 rfl) (fun w4 b7 hS5 hT6 => ?_)
 have hc8 := Cells.at_ (cs := (List.replicate ((a0.length : Nat) : Int).toNat [.int .u64 0]).flatten) (xs := xs3) hS5 L (Cells.mk hxs3 rfl)
 refine RG.so rfl <| RG.nil <| MX.seq <| MX.sr <| RG.mo rfl ?_
 have hm0 := Rep.mv0 h1_0 hS5
 have hl9 : a1.length ≤ 281474976710656 := Rep.lenle hm0
 refine RG.va (FV.len (xs := a1) Tryz.underlying98 rfl hm0) <| RG.va (FV.eqlN (i := a1.length) (j := 1) rfl rfl) <| RG.nil <| MX.ifd rfl h (fun c0 h => ?_) (fun c0 h => ?_)
 refine MX.sr <| RG.so rfl <| RG.nil <| MX.seq <| MX.sr <| RG.mo rfl ?_
 have hm1 := Rep.mv0 h0_0 hS5
 refine RG.va (FV.len (xs := a0) Tryz.underlying98 rfl hm1) <| RG.va (FV.subI (i := ((a0.length : Nat) : Int)) (j := 1) rfl rfl (by omega)) <| RG.so rfl <| RG.nil <| MX.block ?_
 obtain ⟨o0, ho130, hh132⟩ := bind_in2 h
 refine MX.loop (α := UInt64 × Int × (List UInt64) × (List Value)) (fun ⟨u0, z0, xs0, cs1⟩ => [(0, v0_0), (1, v1_0), (4, (.slice (some ⟨b7, 0, none⟩) ((a0.length : Nat) : Int).toNat ((a0.length : Nat) : Int).toNat)), (6, .int .u64 (u0.toNat : Int)), (7, vI z0)]) (fun ⟨u0, z0, xs0, cs1⟩ wx0 => St w wx0 [.row w.heap.size 35 (Rep.size UInt64) (.slice (some ⟨b7, 0, none⟩) ((a0.length : Nat) : Int).toNat ((a0.length : Nat) : Int).toNat) xs0.length cs1] ∧ Tr w4 [.row w.heap.size 35 (Rep.size UInt64) (.slice (some ⟨b7, 0, none⟩) ((a0.length : Nat) : Int).toNat ((a0.length : Nat) : Int).toNat) xs3.length ((List.replicate ((a0.length : Nat) : Int).toNat [.int .u64 0]).flatten)] wx0 [.row w.heap.size 35 (Rep.size UInt64) (.slice (some ⟨b7, 0, none⟩) ((a0.length : Nat) : Int).toNat ((a0.length : Nat) : Int).toNat) xs0.length cs1] ∧ Cells wx0 (bl [.row w.heap.size 35 (Rep.size UInt64) (.slice (some ⟨b7, 0, none⟩) ((a0.length : Nat) : Int).toNat ((a0.length : Nat) : Int).toNat) xs0.length cs1] ++ L) cs1 xs0) (fun ⟨u0, z0, xs0, cs1⟩ => (u0, z0, xs0)) ((0 : UInt64), ((a0.length : Nat) : Int) - 1, xs3, (List.replicate ((a0.length : Nat) : Int).toNat [.int .u64 0]).flatten) ho130 ⟨rfl, rfl, rfl, rfl, rfl, trivial⟩ ⟨hS5, Tr.refl _ _, hc8⟩ ?_
 rintro J0 ⟨u0, z0, xs0, cs1⟩ wx0 hJ134 ⟨hS1, hT0, hc0⟩ h
 unfold wide_divided_l1 at h
 try dsimp only at h
 refine MX.seq <| MX.sr <| RG.mo rfl <| RG.va (FV.geq (i := z0) (j := 0) rfl rfl) <| RG.nil <| MX.ifd rfl h (fun c1 h => ?_) (fun c1 h => ?_)
 refine MX.skip <| MX.seq <| MX.block <| MX.drawT 15 tb87_7 (by kernel_rfl) (by kernel_rfl) (by kernel_rfl) (fun kt0 kp0 => ?_)
 refine RD.vw 0 1 kt0 rfl kp0 (fun _ => FV.move rfl) rfl <| RD.vw 1 3 kt0 rfl kp0 (fun _ => FV.move rfl) rfl <| RD.vw 2 7 kt0 rfl kp0 (fun _ => FV.move rfl) rfl <| RD.vw 3 15 kt0 rfl kp0 (fun _ => FV.move rfl) rfl <| RD.vw 4 31 kt0 rfl kp0 (fun _ => FV.move rfl) rfl ?_
 obtain ⟨x0, hx0, h⟩ := bind_in h
 obtain ⟨hi0, hx1⟩ := idx_in hx0
 have hm2 := Rep.mv0 h0_0 hS1
 obtain ⟨A141, c2, he0, hk0, cs2, hr0, hm3⟩ := Rep.nth hm2 hx1
 have he1 : cs2 = [.int .u64 (x0.toNat : Int)] := hr0; subst he1
 refine RD.vw 5 63 kt0 rfl kp0 (fun _ => FV.ia 1 (z0.toNat) rfl he0 rfl hi0 hk0) rfl <| RD.vx 6 127 130048 kt0 rfl kp0 (FV.l1 rfl (hm3 0 _ rfl)) rfl <| RD.vw 7 255 kt0 rfl kp0 (fun _ => FV.move rfl) rfl ?_
 obtain ⟨x1, hx2, h⟩ := bind_in h
 have hm4 := Rep.mv0 h1_0 hS1
 obtain ⟨A151, c3, he2, hk1, cs3, hr1, hm5⟩ := Rep.nth hm4 hx2
 have he3 : cs3 = [.int .u64 (x1.toNat : Int)] := hr1; subst he3
 refine RD.vw 8 511 kt0 rfl kp0 (fun _ => FV.ia 1 0 rfl he2 rfl rfl hk1) rfl <| RD.vx 9 1023 130048 kt0 rfl kp0 (FV.l1 rfl (hm5 0 _ rfl)) rfl ?_
 obtain ⟨y0, hy0, h⟩ := bind_in h
 refine RD.cq 10 2047 129024 (.tuple #[.int .u64 (y0.1.toNat : Int), .int .u64 (y0.2.toNat : Int)]) kt0 rfl kp0 body106 rfl (e3 rfl rfl rfl) (fun w9 hw9 => math_bits_Div64_c n _ w9 (hS1.hL0 hL hw9) u0 x0 x1 hy0) rfl <| RD.vw 11 4095 kt0 rfl kp0 (fun _ => FV.move rfl) rfl <| RD.vw 12 8191 kt0 rfl kp0 (fun _ => FV.extract rfl rfl) rfl <| RD.vw 13 16383 kt0 rfl kp0 (fun _ => FV.extract rfl rfl) rfl ?_
 obtain ⟨x2, hx3, h⟩ := bind_in h
 obtain ⟨hi1, hx4⟩ := idx_in hx3
 obtain ⟨A164, c4, he4, hk2, cs4, hr2, hm6⟩ := St.nth (α := UInt64) hS1 .hd hc0 hx4
 obtain ⟨b0, c5, he5⟩ := St.nthOwn (α := UInt64) hS1 .hd hk2
 obtain rfl : A164 = ⟨b0, 0, none⟩ := by rw [he5] at he4; cases he4; rfl
 have he6 : cs4 = [.int .u64 (x2.toNat : Int)] := hr2; subst he6
 refine RD.vw 14 32767 kt0 rfl kp0 (fun _ => FV.ia 1 (z0.toNat) rfl he4 rfl hi1 hk2) rfl ?_
 obtain ⟨xs1, hxs175, h⟩ := bind_in h
 refine RD.one (i := 15) (readyD_ok kt0 (by kernel_rfl)) (RO.acts (m' := 65535) (stepC_ok kt0 (by kernel_rfl)) rfl rfl .plain (Acts.set (α := UInt64) (i := z0.toNat) hxs175 hS1 he5 (fun _ => .hd) hc0 rfl rfl rfl rfl rfl (by kernel_rfl)) (fun w0 ⟨cs5, hS2, hT1, hc1⟩ => ?_))
 refine RD.one (i := 16) (readyD_ok kt0 (by kernel_rfl)) (RO.val (m' := 131071) (stepC_ok kt0 (by kernel_rfl)) rfl .plain rfl (FV.assign rfl) ?_)
 refine RD.done (doneD_ok kt0 (by kernel_rfl)) <| MX.inBlock <| MX.region <| RG.mo rfl ?_
 obtain ⟨s0, hs0, h⟩ := bind_in h
 refine RG.va (FV.subc (i := z0) (j := 1) rfl rfl hs0) <| RG.so rfl <| RG.nil ?_
 exact hJ134 (y0.2, s0, xs1, cs5) _ _ ⟨rfl, rfl, rfl, rfl, rfl, trivial⟩ ⟨hS2, (Tr.trans hT0 hT1), hc1⟩ h
 refine MX.exit rfl ?_
 have h := hh132 _ h
 try dsimp only at h
 refine MX.sr <| RG.mo rfl <| RG.mo rfl <| RG.new .plain rfl (Does.build (α := UInt64) (xs := ([u0] : List UInt64)) (vs := [.int .u64 (u0.toNat : Int)]) (ds' := [.int .u64 (u0.toNat : Int)]) rfl hS1 el98 rfl (e1 rfl) (by kernel_rfl) rfl) (fun w1 b1 hS3 hT2 => ?_)
 have hc2 := Cells.at_ (cs := [.int .u64 (u0.toNat : Int)]) (xs := (([u0] : List UInt64) : List UInt64)) hS3 L (Cells.cons (cs := [.int .u64 (u0.toNat : Int)]) (ds := []) rfl (Cells.nil _ _))
 have hr3 := St.freeze (α := UInt64) hS3 .hd hc2 hL
 have hS4 := St.delS hS3 .hd
 have hT3 := St.delT hS3 .hd
 have hr4 := Rep.at_ (α := UInt64) (v := (vS b1 1)) (xs := ([u0] : List UInt64)) hS4 L hr3
 obtain ⟨y1, hy1, h⟩ := bind_in h
 refine RG.call' (fst := []) (cap := []) .plain body103 rfl (e2 rfl rfl) (fun w9 hw9 => wide_trimmed_c n _ w9 (hS4.hL hL hw9) false ([u0] : List UInt64) (Rep.keep0 hr4 hw9) hy1) rfl (fun w2 vu0 hag0 ⟨v0, hu_, hr5⟩ => ?_)
 subst hu_
 obtain ⟨hS6, hT4⟩ := hS4.agr hag0
 refine RG.va (FV.field1 (cs := [.bool y1.fBelow, v0]) (off := 1) (m := 1) (by kernel_rfl) (by kernel_rfl) rfl rfl) <| RG.so rfl <| RG.so rfl <| RG.nil <| MX.ret rfl ?_
 have hq203 := Tr.trans hT2 (Tr.trans hT3 hT4)
 have hm7 := Cells.mv hc0 hq203
 have hr6 := St.freeze (α := UInt64) hS6 .hd hm7 hL
 have hS7 := St.delS hS6 .hd
 have hT5 := St.delT hS6 .hd
 have hr7 := Rep.at_ (α := UInt64) (v := (.slice (some ⟨b7, 0, none⟩) ((a0.length : Nat) : Int).toNat ((a0.length : Nat) : Int).toNat)) (xs := xs0) hS7 L hr6
 refine RT.leave hb0 Tryz.func87 rfl (.cons (.tmp rfl) (.cons (.tmp rfl) .nil)) rfl ?_
 cases h
 have hm8 := Rep.mv hr5 hT5
 exact ⟨hS7.ag, fun w9 hw9 => ⟨(.slice (some ⟨b7, 0, none⟩) ((a0.length : Nat) : Int).toNat ((a0.length : Nat) : Int).toNat), v0, rfl, hS7.kd hr7 hw9, hS7.kd hm8 hw9⟩⟩
 refine MX.skip <| MX.sr <| RG.mo rfl <| RG.so rfl <| RG.nil <| MX.seq ?_
 refine MX.sr <| RG.mo rfl ?_
 obtain ⟨y2, hy2, h⟩ := bind_in h
 refine RG.cq (vI y2) body107 rfl (e1 rfl) (fun w9 hw9 => wide_length_c n _ w9 (hS5.hL0 hL hw9) a0 (hS5.k0 h0_0 hw9) hy2) rfl <| RG.mo rfl ?_
 obtain ⟨y3, hy3, h⟩ := bind_in h
 refine RG.cq (vI y3) body107 rfl (e1 rfl) (fun w9 hw9 => wide_length_c n _ w9 (hS5.hL0 hL hw9) a1 (hS5.k0 h1_0 hw9) hy3) rfl ?_
 obtain ⟨s1, hs1, h⟩ := bind_in h
 refine RG.va (FV.subc (i := y2) (j := y3) rfl rfl hs1) <| RG.so rfl <| RG.nil <| MX.block ?_
 have hm9 := Rep.mv0 h0_0 hS5
 obtain ⟨o1, ho467, hh469⟩ := bind_in2 h
 refine MX.loop (α := (List UInt64) × Int × (List UInt64) × Value × (List Value)) (fun ⟨xs2, z1, xs4, v1, cs6⟩ => [(1, v1_0), (4, (.slice (some ⟨b7, 0, none⟩) ((a0.length : Nat) : Int).toNat ((a0.length : Nat) : Int).toNat)), (5, v1), (8, vI z1)]) (fun ⟨xs2, z1, xs4, v1, cs6⟩ wx1 => St w wx1 [.row w.heap.size 35 (Rep.size UInt64) (.slice (some ⟨b7, 0, none⟩) ((a0.length : Nat) : Int).toNat ((a0.length : Nat) : Int).toNat) xs4.length cs6] ∧ Tr w4 [.row w.heap.size 35 (Rep.size UInt64) (.slice (some ⟨b7, 0, none⟩) ((a0.length : Nat) : Int).toNat ((a0.length : Nat) : Int).toNat) xs3.length ((List.replicate ((a0.length : Nat) : Int).toNat [.int .u64 0]).flatten)] wx1 [.row w.heap.size 35 (Rep.size UInt64) (.slice (some ⟨b7, 0, none⟩) ((a0.length : Nat) : Int).toNat ((a0.length : Nat) : Int).toNat) xs4.length cs6] ∧ Rep.R wx1 (bl [.row w.heap.size 35 (Rep.size UInt64) (.slice (some ⟨b7, 0, none⟩) ((a0.length : Nat) : Int).toNat ((a0.length : Nat) : Int).toNat) xs4.length cs6] ++ L) [v1] xs2 ∧ Cells wx1 (bl [.row w.heap.size 35 (Rep.size UInt64) (.slice (some ⟨b7, 0, none⟩) ((a0.length : Nat) : Int).toNat ((a0.length : Nat) : Int).toNat) xs4.length cs6] ++ L) cs6 xs4) (fun ⟨xs2, z1, xs4, v1, cs6⟩ => (xs2, z1, xs4)) (a0, s1, xs3, v0_0, (List.replicate ((a0.length : Nat) : Int).toNat [.int .u64 0]).flatten) ho467 ⟨rfl, rfl, rfl, rfl, trivial⟩ ⟨hS5, Tr.refl _ _, hm9, hc8⟩ ?_
 rintro J1 ⟨xs2, z1, xs4, v1, cs6⟩ wx1 hJ471 ⟨hS8, hT7, hr8, hc3⟩ h
 unfold wide_divided_l2 at h
 try dsimp only at h
 refine MX.seq <| MX.sr <| RG.mo rfl <| RG.va (FV.geq (i := z1) (j := 0) rfl rfl) <| RG.nil <| MX.ifd rfl h (fun c6 h => ?_) (fun c6 h => ?_)
 refine MX.skip <| MX.seq <| MX.block <| MX.sr <| RG.mo rfl <| RG.mo rfl ?_
 obtain ⟨y4, hy4, h⟩ := bind_in h
 refine RG.call' (fst := []) (cap := []) .plain body108 rfl (e2 rfl rfl) (fun w9 hw9 => wide_moved_c n _ w9 (hS8.hL hL hw9) a1 (hS8.km h1_0 hw9) z1 hy4) rfl (fun w3 vu1 hag1 ⟨v2, hu_, hr9⟩ => ?_)
 subst hu_
 obtain ⟨hS9, hT8⟩ := hS8.agr hag1
 refine RG.so rfl <| RG.nil <| MX.sr <| RG.mo rfl <| RG.mo rfl ?_
 obtain ⟨y5, hy5, h⟩ := bind_in h
 have hm11 := Rep.mv hr8 hT8
 refine RG.cq (vI y5) body109 rfl (e2 rfl rfl) (fun w9 hw9 => wide_compared_c n _ w9 (hS9.hL0 hL hw9) xs2 (hS9.kd hm11 hw9) y4 (hS9.kd hr9 hw9) hy5) rfl <| RG.va (FV.geq (i := y5) (j := 0) rfl rfl) <| RG.nil <| MX.join (α := (List UInt64) × (List UInt64) × Value × (List Value)) (fun ⟨xs5, xs6, v3, cs7⟩ => [(1, v1_0), (4, (.slice (some ⟨b7, 0, none⟩) ((a0.length : Nat) : Int).toNat ((a0.length : Nat) : Int).toNat)), (5, v3), (8, vI z1)]) (fun ⟨xs5, xs6, v3, cs7⟩ wx2 => St w wx2 [.row w.heap.size 35 (Rep.size UInt64) (.slice (some ⟨b7, 0, none⟩) ((a0.length : Nat) : Int).toNat ((a0.length : Nat) : Int).toNat) xs6.length cs7] ∧ Tr w3 [.row w.heap.size 35 (Rep.size UInt64) (.slice (some ⟨b7, 0, none⟩) ((a0.length : Nat) : Int).toNat ((a0.length : Nat) : Int).toNat) xs4.length cs6] wx2 [.row w.heap.size 35 (Rep.size UInt64) (.slice (some ⟨b7, 0, none⟩) ((a0.length : Nat) : Int).toNat ((a0.length : Nat) : Int).toNat) xs6.length cs7] ∧ Rep.R wx2 (bl [.row w.heap.size 35 (Rep.size UInt64) (.slice (some ⟨b7, 0, none⟩) ((a0.length : Nat) : Int).toNat ((a0.length : Nat) : Int).toNat) xs6.length cs7] ++ L) [v3] xs5 ∧ Cells wx2 (bl [.row w.heap.size 35 (Rep.size UInt64) (.slice (some ⟨b7, 0, none⟩) ((a0.length : Nat) : Int).toNat ((a0.length : Nat) : Int).toNat) xs6.length cs7] ++ L) cs7 xs6) (fun ⟨xs5, xs6, v3, cs7⟩ => (xs5, xs6)) h ?_ ?_
 rintro ⟨xs5, xs6, v3, cs7⟩ wx2 ⟨hS10, hT9, hr10, hc4⟩ h
 try dsimp only at h
 refine MX.inBlock <| MX.region <| RG.mo rfl ?_
 obtain ⟨s2, hs2, h⟩ := bind_in h
 refine RG.va (FV.subc (i := z1) (j := 1) rfl rfl hs2) <| RG.so rfl <| RG.nil ?_
 exact hJ471 (xs5, s2, xs6, v3, cs7) _ _ ⟨rfl, rfl, rfl, rfl, trivial⟩ ⟨hS10, (Tr.trans hT7 (Tr.trans hT8 hT9)), hr10, hc4⟩ h
 intro J2 hJ537 h
 try dsimp only at h
 refine MX.ifd rfl h (fun c7 h => ?_) (fun c7 h => ?_)
 refine MX.sr <| RG.mo rfl <| RG.mo rfl ?_
 obtain ⟨y6, hy6, h⟩ := bind_in h
 refine RG.call' (fst := []) (cap := []) .plain body110 rfl (e2 rfl rfl) (fun w9 hw9 => wide_taken_c n _ w9 (hS9.hL hL hw9) xs2 (Rep.keep0 hm11 hw9) y4 (Rep.keep0 hr9 hw9) hy6) rfl (fun w5 vu2 hag2 ⟨v4, hu_, hr11⟩ => ?_)
 subst hu_
 obtain ⟨hS11, hT10⟩ := hS9.agr hag2
 obtain ⟨y7, hy7, h⟩ := bind_in h
 refine RG.call' (fst := []) (cap := []) .plain body103 rfl (e2 rfl rfl) (fun w9 hw9 => wide_trimmed_c n _ w9 (hS11.hL hL hw9) false y6 (Rep.keep0 hr11 hw9) hy7) rfl (fun w6 vu3 hag3 ⟨v5, hu_, hr12⟩ => ?_)
 subst hu_
 obtain ⟨hS12, hT11⟩ := hS11.agr hag3
 refine RG.va (FV.field1 (cs := [.bool y7.fBelow, v5]) (off := 1) (m := 1) (by kernel_rfl) (by kernel_rfl) rfl rfl) <| RG.so rfl <| RG.nil <| MX.drawT 10 tb87_16 (by kernel_rfl) (by kernel_rfl) (by kernel_rfl) (fun kt1 kp1 => ?_)
 refine RD.vw 0 1 kt1 rfl kp1 (fun _ => FV.move rfl) rfl <| RD.vw 1 3 kt1 rfl kp1 (fun _ => FV.move rfl) rfl ?_
 obtain ⟨s3, hs3, h⟩ := bind_in h
 refine RD.vw 2 7 kt1 rfl kp1 (fun _ => FV.quoc (i := z1) (j := 64) rfl rfl hs3) rfl ?_
 obtain ⟨x3, hx5, h⟩ := bind_in h
 obtain ⟨hi2, hx6⟩ := idx_in hx5
 have hq569 := Tr.trans hT8 (Tr.trans hT10 hT11)
 have hm13 := Cells.mv hc3 hq569
 obtain ⟨A562, c8, he7, hk3, cs8, hr13, hm14⟩ := St.nth (α := UInt64) hS12 .hd hm13 hx6
 obtain ⟨b2, c9, he8⟩ := St.nthOwn (α := UInt64) hS12 .hd hk3
 obtain rfl : A562 = ⟨b2, 0, none⟩ := by rw [he8] at he7; cases he7; rfl
 have he9 : cs8 = [.int .u64 (x3.toNat : Int)] := hr13; subst he9
 refine RD.vw 3 15 kt1 rfl kp1 (fun _ => FV.ia 1 (s3.toNat) rfl he7 rfl hi2 hk3) rfl <| RD.vx 4 31 1792 kt1 rfl kp1 (FV.l1 rfl (hm14 0 _ rfl)) rfl <| RD.vw 5 63 kt1 rfl kp1 (fun _ => FV.move rfl) rfl ?_
 obtain ⟨s4, hs4, h⟩ := bind_in h
 refine RD.vw 6 127 kt1 rfl kp1 (fun _ => FV.remc (i := z1) (j := 64) rfl rfl hs4) rfl ?_
 obtain ⟨k576, hk4, h⟩ := bind_in h
 refine RD.vw 7 255 kt1 rfl kp1 (fun _ => FV.shlI (a := (1 : UInt64)) (i := s4) rfl rfl hk4) rfl <| RD.vw 8 511 kt1 rfl kp1 (fun _ => FV.orU (a := x3) (b := shlU (1 : UInt64) k576) rfl rfl) rfl <| RD.vw 9 1023 kt1 rfl kp1 (fun _ => FV.ia 1 (s3.toNat) rfl he7 rfl hi2 hk3) rfl ?_
 obtain ⟨xs7, hxs577, h⟩ := bind_in h
 refine RD.one (i := 10) (readyD_ok kt1 (by kernel_rfl)) (RO.acts (m' := 2047) (stepC_ok kt1 (by kernel_rfl)) rfl rfl .plain (Acts.set (α := UInt64) (i := s3.toNat) hxs577 hS12 he8 (fun _ => .hd) hm13 rfl rfl rfl rfl rfl (by kernel_rfl)) (fun w7 ⟨cs9, hS13, hT12, hc5⟩ => ?_))
 refine RD.done (doneD_ok kt1 (by kernel_rfl)) ?_
 have hm15 := Rep.mv hr12 hT12
 have hq584 := Tr.trans hT10 (Tr.trans hT11 hT12)
 exact hJ537 (y7.fWords, xs7, v5, cs9) _ _ ⟨rfl, rfl, rfl, rfl, trivial⟩ ⟨hS13, hq584, hm15, hc5⟩ h
 refine MX.skip ?_
 have hm16 := Cells.mv hc3 hT8
 exact hJ537 (xs2, xs4, v1, cs6) _ _ ⟨rfl, rfl, rfl, rfl, trivial⟩ ⟨hS9, Tr.refl _ _, hm11, hm16⟩ h
 refine MX.exit rfl ?_
 have h := hh469 _ h
 try dsimp only at h
 refine MX.sr <| RG.mo rfl <| RG.mo rfl <| RG.so rfl <| RG.so rfl <| RG.nil ?_
 refine MX.ret rfl ?_
 have hr14 := St.freeze (α := UInt64) hS8 .hd hc3 hL
 have hS14 := St.delS hS8 .hd
 have hT13 := St.delT hS8 .hd
 have hr15 := Rep.at_ (α := UInt64) (v := (.slice (some ⟨b7, 0, none⟩) ((a0.length : Nat) : Int).toNat ((a0.length : Nat) : Int).toNat)) (xs := xs4) hS14 L hr14
 refine RT.leave hb0 Tryz.func87 rfl (.cons (.tmp rfl) (.cons (.tmp rfl) .nil)) rfl ?_
 cases h
 have hm17 := Rep.mv hr8 hT13
 exact ⟨hS14.ag, fun w9 hw9 => ⟨(.slice (some ⟨b7, 0, none⟩) ((a0.length : Nat) : Int).toNat ((a0.length : Nat) : Int).toNat), v1, rfl, hS14.kd hr15 hw9, hS14.kd hm17 hw9⟩⟩
def tb64_1 : List (Nat × Nat × Nat) := [(0, 512, 4), (1, 1024, 512), (0, 2048, 8), (4, 4096, 2048), (3, 32, 1024), (31, 64, 4096)]
theorem body87 : bodyB Tryz.prog 87 = true := by kernel_rfl
def wide_Long_Common_l1 (n : Nat) (J0 : (List UInt64) × (List UInt64) → Option (List UInt64)) : (List UInt64) × (List UInt64) → Option (List UInt64)
  | (xs0, xs1) => (if 0 < xs1.length then (wide_divided_p n xs0 xs1).bind fun y0 => J0 (xs1, y0.2) else some xs0)
def wide_Long_Common_p (n : Nat) (a0 : TLong) (a1 : TLong) : Option TLong :=
  Option.bind (loopF (wide_Long_Common_l1 n) n (a0.fWords, a1.fWords)) (fun xs0 => some (⟨false, xs0⟩ : TLong))
theorem wide_Long_Common_c (n : Nat) (L : List Nat) (w : World) (hL : ∀ b ∈ L, b < w.heap.size) (a0 : TLong) {v0_1 : Value} (h0_1 : Rep.R w L [v0_1] a0.fWords) (a1 : TLong) {v1_1 : Value} (h1_1 : Rep.R w L [v1_1] a1.fWords)  {r : TLong} (h : wide_Long_Common_p n a0 a1 = some r) :
    Calls Tryz.prog 64 #[.agg #[.bool a0.fBelow, v0_1], .agg #[.bool a1.fBelow, v1_1]] w (Gives w fun w' u => ∃ v0_1 : Value, u = .agg #[.bool r.fBelow, v0_1] ∧ Rep.R w' L [v0_1] r.fWords) := by
 unfold wide_Long_Common_p at h
 have hS0 := St.start w
 refine MX.start Tryz.func64 rfl rfl rfl (fun _ cs0 hb0 => ?_)
 refine MX.sr <| RG.new .plain rfl (Does.box (vs := [.bool a0.fBelow, v0_1]) hS0 rfl rfl) (fun w2 b5 hS3 hT4 => ?_)
 refine RG.new .plain rfl (Does.box (vs := [.bool a1.fBelow, v1_1]) hS3 rfl rfl) (fun w7 b0 hS8 hT9 => ?_)
 refine RG.new .plain rfl (Does.alloc (zs := [.bool false, vN]) hS8 (zB (by kernel_rfl))) (fun w0 b1 hS1 hT0 => ?_)
 refine RG.nil <| MX.seq <| MX.drawT 6 tb64_1 (by kernel_rfl) (by kernel_rfl) (by kernel_rfl) (fun kt0 kp0 => ?_)
 refine RD.vw 0 1 kt0 rfl kp0 (fun _ => FV.fa 1 rfl) rfl <| RD.vx 1 3 48 kt0 rfl kp0 (FV.l1 rfl ((hS1.memA (.tl (.tl .hd))) 1 _ rfl)) rfl <| RD.vw 2 7 kt0 rfl kp0 (fun _ => FV.fa 1 rfl) rfl <| RD.vx 3 15 32 kt0 rfl kp0 (FV.l1 rfl ((hS1.memA (.tl .hd)) 1 _ rfl)) rfl <| RD.vw 4 31 kt0 rfl kp0 (fun _ => FV.assign rfl) rfl <| RD.vw 5 63 kt0 rfl kp0 (fun _ => FV.assign rfl) rfl ?_
 refine RD.done (doneD_ok kt0 (by kernel_rfl)) <| MX.seq <| MX.block ?_
 obtain ⟨hS2, hT1⟩ := St.arrB hS1 (.one .hd .done)
 have hm0 := Rep.mv0 h0_1 hS2
 have hm1 := Rep.mv0 h1_1 hS2
 obtain ⟨o0, ho53, hh55⟩ := bind_in2 h
 refine MX.loop (α := (List UInt64) × (List UInt64) × Value × Value) (fun ⟨xs0, xs1, v0, v1⟩ => [(4, vP b1), (5, v0), (6, v1)]) (fun ⟨xs0, xs1, v0, v1⟩ wx0 => St w wx0 [.cells b1 [.bool false, vN] 100] ∧ Tr w0 [.cells b1 [.bool false, vN] 100] wx0 [.cells b1 [.bool false, vN] 100] ∧ Rep.R wx0 (bl [.cells b1 [.bool false, vN] 100] ++ L) [v0] xs0 ∧ Rep.R wx0 (bl [.cells b1 [.bool false, vN] 100] ++ L) [v1] xs1) (fun ⟨xs0, xs1, v0, v1⟩ => (xs0, xs1)) (a0.fWords, a1.fWords, v0_1, v1_1) ho53 ⟨rfl, rfl, rfl, trivial⟩ ⟨hS2, Tr.refl _ _, hm0, hm1⟩ ?_
 rintro J0 ⟨xs0, xs1, v0, v1⟩ wx0 hJ57 ⟨hS4, hT2, hr0, hr1⟩ h
 unfold wide_Long_Common_l1 at h
 try dsimp only at h
 refine MX.seq <| MX.sr <| RG.mo rfl ?_
 have hl58 : xs1.length ≤ 281474976710656 := Rep.lenle hr1
 refine RG.va (FV.len (xs := xs1) Tryz.underlying98 rfl hr1) <| RG.va (FV.gtrN (i := xs1.length) (j := 0) rfl rfl) <| RG.nil <| MX.ifd rfl h (fun c0 h => ?_) (fun c0 h => ?_)
 refine MX.skip <| MX.block <| MX.sr <| RG.mo rfl <| RG.mo rfl ?_
 obtain ⟨y0, hy0, h⟩ := bind_in h
 refine RG.call' (fst := []) (cap := []) .plain body87 rfl (e2 rfl rfl) (fun w9 hw9 => wide_divided_c n _ w9 (hS4.hL hL hw9) xs0 (Rep.keep0 hr0 hw9) xs1 (Rep.keep0 hr1 hw9) hy0) rfl (fun w1 vu0 hag0 ⟨v2, v3, hu_, hr2, hr3⟩ => ?_)
 subst hu_
 obtain ⟨hS5, hT3⟩ := hS4.agr hag0
 refine RG.mo rfl <| RG.va (FV.extract rfl rfl) <| RG.va (FV.extract rfl rfl) <| RG.so rfl <| RG.so rfl <| RG.nil ?_
 refine MX.region <| RG.mo rfl <| RG.mo rfl <| RG.so rfl <| RG.so rfl <| RG.nil ?_
 refine MX.inBlock ?_
 have hm2 := Rep.mv hr1 hT3
 exact hJ57 (xs1, y0.2, v1, v3) _ _ ⟨rfl, rfl, rfl, trivial⟩ ⟨hS5, (Tr.trans hT2 hT3), hm2, hr3⟩ h
 refine MX.exit rfl ?_
 have h := hh55 _ h
 try dsimp only at h
 refine MX.sr <| RG.mo rfl ?_
 obtain ⟨A71, c1, hv73, _⟩ := Rep.sl hr0
 refine RG.va (FV.buildV (vs := [v0]) (u := .agg #[.bool false, v0]) (e1 rfl) (fun w9 => by rw [hv73]; try kernel_rfl)) <| RG.now .plain (Acts.storeAll (news := [.bool false, v0]) hS4 .hd rfl rfl rfl rfl rfl rfl (o2 rfl (Rep.o1 hr0))) (fun w3 hS6 hT5 => ?_)
 refine RG.nil <| MX.ret rfl <| RT.leave hb0 Tryz.func64 rfl (.cons (.many (cs := [.bool false, v0]) (by kernel_rfl) rfl (hS6.memA .hd)) .nil) rfl ?_
 cases h
 have hm3 := Rep.mv hr0 hT5
 exact ⟨hS6.ag, fun w9 hw9 => ⟨v0, rfl, hS6.kd hm3 hw9⟩⟩
def wide_Long_Turned_p (n : Nat) (a0 : TLong) : Option TLong :=
  (wide_trimmed_p n (!a0.fBelow) a0.fWords).bind fun y0 => some y0
theorem wide_Long_Turned_c (n : Nat) (L : List Nat) (w : World) (hL : ∀ b ∈ L, b < w.heap.size) (a0 : TLong) {v0_1 : Value} (h0_1 : Rep.R w L [v0_1] a0.fWords)  {r : TLong} (h : wide_Long_Turned_p n a0 = some r) :
    Calls Tryz.prog 82 #[.agg #[.bool a0.fBelow, v0_1]] w (Gives w fun w' u => ∃ v0_1 : Value, u = .agg #[.bool r.fBelow, v0_1] ∧ Rep.R w' L [v0_1] r.fWords) := by
 unfold wide_Long_Turned_p at h
 have hS0 := St.start w
 refine MX.start Tryz.func82 rfl rfl rfl (fun _ cs0 hb0 => ?_)
 refine MX.sr <| RG.new .plain rfl (Does.box (vs := [.bool a0.fBelow, v0_1]) hS0 rfl rfl) (fun w2 b5 hS3 hT4 => ?_)
 refine RG.new .plain rfl (Does.alloc (zs := [.bool false, vN]) hS3 (zB (by kernel_rfl))) (fun w7 b0 hS8 hT9 => ?_)
 refine RG.nil <| MX.sr <| RG.fa 0 rfl <| RG.l1 rfl ((hS8.memA (.tl .hd)) 0 _ rfl) <| RG.va (FV.not rfl) <| RG.fa 1 rfl ?_
 refine RG.l1 rfl ((hS8.memA (.tl .hd)) 1 _ rfl) ?_
 obtain ⟨y0, hy0, h⟩ := bind_in h
 refine RG.call' (fst := []) (cap := []) .plain body103 rfl (e2 rfl rfl) (fun w9 hw9 => wide_trimmed_c n _ w9 (hS8.hL hL hw9) (!a0.fBelow) a0.fWords (hS8.km h0_1 hw9) hy0) rfl (fun w0 vu0 hag0 ⟨v0, hu_, hr0⟩ => ?_)
 subst hu_
 obtain ⟨hS1, hT0⟩ := hS8.agr hag0
 refine RG.now .plain (Acts.storeAll (news := [.bool y0.fBelow, v0]) hS1 .hd rfl rfl rfl rfl rfl rfl (o2 rfl (Rep.o1 hr0))) (fun w1 hS2 hT1 => ?_)
 refine RG.nil <| MX.ret rfl <| RT.leave hb0 Tryz.func82 rfl (.cons (.many (cs := [.bool y0.fBelow, v0]) (by kernel_rfl) rfl (hS2.memA .hd)) .nil) rfl ?_
 cases h
 have hm0 := Rep.mv hr0 hT1
 exact ⟨hS2.ag, fun w9 hw9 => ⟨v0, rfl, hS2.kd hm0 hw9⟩⟩
def wide_added_l1 (_n : Nat) (xs4 : List UInt64) (xs7 : List UInt64) (J0 : UInt64 × Nat × (List UInt64) → Option ((List UInt64) × UInt64)) : UInt64 × Nat × (List UInt64) → Option ((List UInt64) × UInt64)
  | (u0, i0, xs0) => (if i0 < xs4.length then (xs4[i0]?).bind fun x0 => jn (fun u1 => (add64 x0 u1 u0).bind fun z0 => (xs0[i0]?).bind fun x1 => (put xs0 ((i0 : Nat) : Int) z0.1).bind fun xs1 => J0 (z0.2, i0 + 1, xs1)) (fun J1 => (if i0 < xs7.length then (xs7[i0]?).bind fun x2 => J1 x2 else J1 (0 : UInt64))) else some (xs0, u0))
def wide_added_p (n : Nat) (a0 : List UInt64) (a1 : List UInt64) : Option (List UInt64) :=
  jn (fun (xs4, xs7) => (mk ((xs4.length + 1 : Nat) : Int) (0 : UInt64)).bind fun xs0 => Option.bind (loopF (wide_added_l1 n xs4 xs7) n ((0 : UInt64), 0, xs0)) (fun (xs1, u0) => (xs1[xs4.length]?).bind fun x0 => (put xs1 ((xs4.length : Nat) : Int) u0).bind fun xs2 => some xs2)) (fun J0 => (if a0.length < a1.length then J0 (a1, a0) else J0 (a0, a1)))
theorem wide_added_c (n : Nat) (L : List Nat) (w : World) (hL : ∀ b ∈ L, b < w.heap.size) (a0 : List UInt64) {v0_0 : Value} (h0_0 : Rep.R w L [v0_0] a0) (a1 : List UInt64) {v1_0 : Value} (h1_0 : Rep.R w L [v1_0] a1)  {r : List UInt64} (h : wide_added_p n a0 a1 = some r) :
    Calls Tryz.prog 122 #[v0_0, v1_0] w (Gives w fun w' u => ∃ v0_0 : Value, u = v0_0 ∧ Rep.R w' L [v0_0] r) := by
 unfold wide_added_p at h
 have hS0 := St.start w
 refine MX.start Tryz.func122 rfl rfl rfl (fun _ cs0 hb0 => ?_)
 refine MX.sr <| RG.so rfl <| RG.nil <| MX.seq <| MX.sr <| RG.mo rfl ?_
 have hl1 : a0.length ≤ 281474976710656 := Rep.lenle h0_0
 refine RG.va (FV.len (xs := a0) Tryz.underlying98 rfl h0_0) <| RG.mo rfl ?_
 have hl2 : a1.length ≤ 281474976710656 := Rep.lenle h1_0
 refine RG.va (FV.len (xs := a1) Tryz.underlying98 rfl h1_0) <| RG.va (FV.lssN (i := a0.length) (j := a1.length) rfl rfl) <| RG.nil <| MX.join (α := (List UInt64) × (List UInt64) × Value × Value) (fun ⟨xs4, xs7, v5, v8⟩ => [(0, v5), (1, v8)]) (fun ⟨xs4, xs7, v5, v8⟩ wx9 => St w wx9 [] ∧ Tr w [] wx9 [] ∧ Rep.R wx9 (bl [] ++ L) [v5] xs4 ∧ Rep.R wx9 (bl [] ++ L) [v8] xs7) (fun ⟨xs4, xs7, v5, v8⟩ => (xs4, xs7)) h ?_ ?_
 rintro ⟨xs4, xs7, v5, v8⟩ wx9 ⟨hS1, hT0, hr6, hr9⟩ h
 try dsimp only at h
 refine MX.sr <| RG.mo rfl ?_
 have hl15 : xs4.length ≤ 281474976710656 := Rep.lenle hr6
 refine RG.va (FV.len (xs := xs4) Tryz.underlying98 rfl hr6) <| RG.va (FV.addN (i := xs4.length) (j := 1) rfl rfl (by omega)) ?_
 obtain ⟨xs0, hxs17, h⟩ := bind_in h
 refine RG.new .plain rfl (Does.mk (α := UInt64) hxs17 hS1 el98 rfl) (fun w0 b0 hS2 hT1 => ?_)
 have hc0 := Cells.at_ (cs := (List.replicate ((xs4.length + 1 : Nat) : Int).toNat [.int .u64 0]).flatten) (xs := xs0) hS2 L (Cells.mk hxs17 rfl)
 refine RG.so rfl <| RG.nil <| MX.sr <| RG.so rfl <| RG.nil <| MX.seq ?_
 refine MX.sr <| RG.mo rfl ?_
 have hm0 := Rep.mv hr6 hT1
 refine RG.va (FV.len (xs := xs4) Tryz.underlying98 rfl hm0) <| RG.mo rfl <| RG.nil <| MX.block ?_
 obtain ⟨o0, ho164, hh166⟩ := bind_in2 h
 refine MX.loop (α := UInt64 × Nat × (List UInt64) × (List Value)) (fun ⟨u0, i0, xs1, cs1⟩ => [(0, v5), (1, v8), (5, (.slice (some ⟨b0, 0, none⟩) ((xs4.length + 1 : Nat) : Int).toNat ((xs4.length + 1 : Nat) : Int).toNat)), (6, .int .u64 (u0.toNat : Int)), (21, v5), (22, vI ((xs4.length : Nat) : Int)), (23, vI ((i0 : Nat) : Int))]) (fun ⟨u0, i0, xs1, cs1⟩ wx0 => St w wx0 [.row w.heap.size 35 (Rep.size UInt64) (.slice (some ⟨b0, 0, none⟩) ((xs4.length + 1 : Nat) : Int).toNat ((xs4.length + 1 : Nat) : Int).toNat) xs1.length cs1] ∧ Tr w0 [.row w.heap.size 35 (Rep.size UInt64) (.slice (some ⟨b0, 0, none⟩) ((xs4.length + 1 : Nat) : Int).toNat ((xs4.length + 1 : Nat) : Int).toNat) xs0.length ((List.replicate ((xs4.length + 1 : Nat) : Int).toNat [.int .u64 0]).flatten)] wx0 [.row w.heap.size 35 (Rep.size UInt64) (.slice (some ⟨b0, 0, none⟩) ((xs4.length + 1 : Nat) : Int).toNat ((xs4.length + 1 : Nat) : Int).toNat) xs1.length cs1] ∧ Cells wx0 (bl [.row w.heap.size 35 (Rep.size UInt64) (.slice (some ⟨b0, 0, none⟩) ((xs4.length + 1 : Nat) : Int).toNat ((xs4.length + 1 : Nat) : Int).toNat) xs1.length cs1] ++ L) cs1 xs1) (fun ⟨u0, i0, xs1, cs1⟩ => (u0, i0, xs1)) ((0 : UInt64), 0, xs0, (List.replicate ((xs4.length + 1 : Nat) : Int).toNat [.int .u64 0]).flatten) ho164 ⟨rfl, rfl, rfl, rfl, rfl, rfl, rfl, trivial⟩ ⟨hS2, Tr.refl _ _, hc0⟩ ?_
 rintro J0 ⟨u0, i0, xs1, cs1⟩ wx0 hJ168 ⟨hS3, hT2, hc1⟩ h
 unfold wide_added_l1 at h
 try dsimp only at h
 refine MX.sr <| RG.va (FV.lssN (i := i0) (j := xs4.length) rfl rfl) <| RG.nil <| MX.seq <| MX.ifd rfl h (fun c0 h => ?_) (fun c0 h => ?_)
 refine MX.skip <| MX.seq <| MX.block <| MX.sr <| RG.mo rfl ?_
 obtain ⟨x0, hx0, h⟩ := bind_in h
 have hm1 := Rep.mv hr6 (Tr.trans hT1 hT2)
 obtain ⟨A171, c1, he0, hk0, cs2, hr0, hm2⟩ := Rep.nth hm1 hx0
 have he1 : cs2 = [.int .u64 (x0.toNat : Int)] := hr0; subst he1
 refine RG.va (FV.ia 1 i0 rfl he0 rfl rfl hk0) <| RG.l1 rfl (hm2 0 _ rfl) <| RG.so rfl <| RG.so rfl <| RG.nil <| MX.sr ?_
 refine RG.so rfl <| RG.nil <| MX.seq <| MX.sr <| RG.mo rfl <| RG.mo rfl ?_
 have hm3 := Rep.mv hr9 (Tr.trans hT1 hT2)
 have hl180 : xs7.length ≤ 281474976710656 := Rep.lenle hm3
 refine RG.va (FV.len (xs := xs7) Tryz.underlying98 rfl hm3) <| RG.va (FV.lssN (i := i0) (j := xs7.length) rfl rfl) <| RG.nil <| MX.join (α := UInt64) (fun u1 => [(0, v5), (1, v8), (5, (.slice (some ⟨b0, 0, none⟩) ((xs4.length + 1 : Nat) : Int).toNat ((xs4.length + 1 : Nat) : Int).toNat)), (6, .int .u64 (u0.toNat : Int)), (21, v5), (22, vI ((xs4.length : Nat) : Int)), (23, vI ((i0 : Nat) : Int)), (7, vI ((i0 : Nat) : Int)), (8, .int .u64 (x0.toNat : Int)), (9, .int .u64 (u1.toNat : Int))]) (fun u1 wx1 => St w wx1 [.row w.heap.size 35 (Rep.size UInt64) (.slice (some ⟨b0, 0, none⟩) ((xs4.length + 1 : Nat) : Int).toNat ((xs4.length + 1 : Nat) : Int).toNat) xs1.length cs1] ∧ Tr wx0 [.row w.heap.size 35 (Rep.size UInt64) (.slice (some ⟨b0, 0, none⟩) ((xs4.length + 1 : Nat) : Int).toNat ((xs4.length + 1 : Nat) : Int).toNat) xs1.length cs1] wx1 [.row w.heap.size 35 (Rep.size UInt64) (.slice (some ⟨b0, 0, none⟩) ((xs4.length + 1 : Nat) : Int).toNat ((xs4.length + 1 : Nat) : Int).toNat) xs1.length cs1]) (fun u1 => u1) h ?_ ?_
 rintro u1 wx1 ⟨hS4, hT3⟩ h
 try dsimp only at h
 refine MX.region <| RG.mo rfl <| RG.mo rfl <| RG.mo rfl <| RG.mo rfl <| RG.mo rfl ?_
 obtain ⟨z0, hz198, h⟩ := bind_in h
 refine RG.va (FV.add64 (a := x0) (b := u1) (c := u0) Tryz.func124 rfl (by kernel_rfl) (by kernel_rfl) (by kernel_rfl) rfl rfl rfl hz198) <| RG.mo rfl <| RG.va (FV.extract rfl rfl) <| RG.va (FV.extract rfl rfl) ?_
 obtain ⟨x1, hx1, h⟩ := bind_in h
 have hm4 := Cells.mv hc1 hT3
 obtain ⟨A200, c2, he2, hk1, cs3, hr1, hm5⟩ := St.nth (α := UInt64) hS4 .hd hm4 hx1
 obtain ⟨b1, c3, he3⟩ := St.nthOwn (α := UInt64) hS4 .hd hk1
 obtain rfl : A200 = ⟨b1, 0, none⟩ := by rw [he3] at he2; cases he2; rfl
 have he4 : cs3 = [.int .u64 (x1.toNat : Int)] := hr1; subst he4
 refine RG.va (FV.ia 1 i0 rfl he2 rfl rfl hk1) ?_
 obtain ⟨xs2, hxs212, h⟩ := bind_in h
 refine RG.acts' .plain (Acts.set (α := UInt64) (i := i0) hxs212 hS4 he3 (fun _ => .hd) hm4 rfl rfl rfl rfl rfl (by kernel_rfl)) (fun w1 ⟨cs4, hS5, hT4, hc2⟩ => ?_)
 refine RG.so rfl <| RG.nil <| MX.inBlock <| MX.region <| RG.va (FV.addN (i := i0) (j := 1) rfl rfl (by omega)) <| RG.mo rfl ?_
 refine RG.nil ?_
 exact hJ168 (z0.2, i0 + 1, xs2, cs4) _ _ ⟨rfl, rfl, rfl, rfl, rfl, rfl, rfl, trivial⟩ ⟨hS5, (Tr.trans hT2 (Tr.trans hT3 hT4)), hc2⟩ h
 intro J1 hJ197 h
 try dsimp only at h
 refine MX.ifd rfl h (fun c4 h => ?_) (fun c4 h => ?_)
 refine MX.region <| RG.mo rfl <| RG.mo rfl ?_
 obtain ⟨x2, hx2, h⟩ := bind_in h
 obtain ⟨A220, c5, he5, hk2, cs5, hr2, hm6⟩ := Rep.nth hm3 hx2
 have he6 : cs5 = [.int .u64 (x2.toNat : Int)] := hr2; subst he6
 refine RG.va (FV.ia 1 i0 rfl he5 rfl rfl hk2) <| RG.l1 rfl (hm6 0 _ rfl) <| RG.so rfl <| RG.nil ?_
 exact hJ197 x2 _ _ ⟨rfl, rfl, rfl, rfl, rfl, rfl, rfl, rfl, rfl, rfl, trivial⟩ ⟨hS3, Tr.refl _ _⟩ h
 refine MX.skip ?_
 exact hJ197 (0 : UInt64) _ _ ⟨rfl, rfl, rfl, rfl, rfl, rfl, rfl, rfl, rfl, rfl, trivial⟩ ⟨hS3, Tr.refl _ _⟩ h
 refine MX.exit rfl ?_
 have h := hh166 _ h
 try dsimp only at h
 refine MX.sr <| RG.mo rfl <| RG.mo rfl ?_
 have hm7 := Rep.mv hr6 (Tr.trans hT1 hT2)
 refine RG.va (FV.len (xs := xs4) Tryz.underlying98 rfl hm7) <| RG.mo rfl ?_
 obtain ⟨x3, hx3, h⟩ := bind_in h
 obtain ⟨A230, c6, he7, hk3, cs6, hr3, hm8⟩ := St.nth (α := UInt64) hS3 .hd hc1 hx3
 obtain ⟨b2, c7, he8⟩ := St.nthOwn (α := UInt64) hS3 .hd hk3
 obtain rfl : A230 = ⟨b2, 0, none⟩ := by rw [he8] at he7; cases he7; rfl
 have he9 : cs6 = [.int .u64 (x3.toNat : Int)] := hr3; subst he9
 refine RG.va (FV.ia 1 (xs4.length) rfl he7 rfl rfl hk3) ?_
 obtain ⟨xs3, hxs241, h⟩ := bind_in h
 refine RG.acts' .plain (Acts.set (α := UInt64) (i := xs4.length) hxs241 hS3 he8 (fun _ => .hd) hc1 rfl rfl rfl rfl rfl (by kernel_rfl)) (fun w2 ⟨cs7, hS6, hT5, hc3⟩ => ?_)
 refine RG.nil <| MX.sr <| RG.mo rfl <| RG.so rfl <| RG.nil <| MX.ret rfl ?_
 have hr4 := St.freeze (α := UInt64) hS6 .hd hc3 hL
 have hS7 := St.delS hS6 .hd
 have hT6 := St.delT hS6 .hd
 have hr5 := Rep.at_ (α := UInt64) (v := (.slice (some ⟨b0, 0, none⟩) ((xs4.length + 1 : Nat) : Int).toNat ((xs4.length + 1 : Nat) : Int).toNat)) (xs := xs3) hS7 L hr4
 refine RT.t1 hb0 Tryz.func122 rfl rfl ?_
 cases h
 exact ⟨hS7.ag, fun w9 hw9 => ⟨(.slice (some ⟨b0, 0, none⟩) ((xs4.length + 1 : Nat) : Int).toNat ((xs4.length + 1 : Nat) : Int).toNat), rfl, hS7.kd hr5 hw9⟩⟩
 intro J2 hJ14 h
 try dsimp only at h
 refine MX.ifd rfl h (fun c8 h => ?_) (fun c8 h => ?_)
 refine MX.region <| RG.mo rfl <| RG.mo rfl <| RG.so rfl <| RG.so rfl <| RG.nil ?_
 exact hJ14 (a1, a0, v1_0, v0_0) _ _ ⟨rfl, rfl, trivial⟩ ⟨hS0, Tr.refl _ _, h1_0, h0_0⟩ h
 refine MX.skip ?_
 exact hJ14 (a0, a1, v0_0, v1_0) _ _ ⟨rfl, rfl, trivial⟩ ⟨hS0, Tr.refl _ _, h0_0, h1_0⟩ h
def tb111_2 : List (Nat × Nat × Nat) := [(0, 1024, 4), (1, 2048, 1024), (0, 4096, 4), (4, 8192, 4096), (0, 16384, 8), (16, 32768, 16384), (40, 65536, 40960), (66, 131072, 67584), (255, 0, 131088)]
def tb111_5 : List (Nat × Nat × Nat) := [(0, 67108864, 4), (1, 134217728, 67108864), (0, 268435456, 4), (4, 536870912, 268435456), (0, 1073741824, 8), (16, 2147483648, 1073741824), (40, 4294967296, 2684354560), (66, 8589934592, 4429185024), (255, 0, 8589934608)]
theorem body122 : bodyB Tryz.prog 122 = true := by kernel_rfl
def wide_Long_Plus_p (n : Nat) (a0 : TLong) (a1 : TLong) : Option TLong :=
  (if (a0.fBelow == a1.fBelow) = true then (wide_added_p n a0.fWords a1.fWords).bind fun y0 => (wide_trimmed_p n a0.fBelow y0).bind fun y1 => some y1 else (wide_compared_p n a0.fWords a1.fWords).bind fun y2 => jn (fun (q0, xs0, q1, xs1) => (wide_taken_p n xs1 xs0).bind fun y3 => (wide_trimmed_p n q1 y3).bind fun y4 => some y4) (fun J0 => (if y2 < 0 then J0 (a0.fBelow, a0.fWords, a1.fBelow, a1.fWords) else J0 (a1.fBelow, a1.fWords, a0.fBelow, a0.fWords))))
theorem wide_Long_Plus_c (n : Nat) (L : List Nat) (w : World) (hL : ∀ b ∈ L, b < w.heap.size) (a0 : TLong) {v0_1 : Value} (h0_1 : Rep.R w L [v0_1] a0.fWords) (a1 : TLong) {v1_1 : Value} (h1_1 : Rep.R w L [v1_1] a1.fWords)  {r : TLong} (h : wide_Long_Plus_p n a0 a1 = some r) :
    Calls Tryz.prog 111 #[.agg #[.bool a0.fBelow, v0_1], .agg #[.bool a1.fBelow, v1_1]] w (Gives w fun w' u => ∃ v0_1 : Value, u = .agg #[.bool r.fBelow, v0_1] ∧ Rep.R w' L [v0_1] r.fWords) := by
 unfold wide_Long_Plus_p at h
 have hS0 := St.start w
 refine MX.start Tryz.func111 rfl rfl rfl (fun _ cs0 hb0 => ?_)
 refine MX.sr <| RG.new .plain rfl (Does.box (vs := [.bool a0.fBelow, v0_1]) hS0 rfl rfl) (fun w2 b5 hS3 hT4 => ?_)
 refine RG.new .plain rfl (Does.box (vs := [.bool a1.fBelow, v1_1]) hS3 rfl rfl) (fun w7 b0 hS8 hT9 => ?_)
 refine RG.new .plain rfl (Does.alloc (zs := [.bool false, vN]) hS8 (zB (by kernel_rfl))) (fun w0 b1 hS1 hT0 => ?_)
 refine RG.nil <| MX.seq <| MX.sr <| RG.fa 0 rfl <| RG.l1 rfl ((hS1.memA (.tl (.tl .hd))) 0 _ rfl) <| RG.fa 0 rfl ?_
 refine RG.l1 rfl ((hS1.memA (.tl .hd)) 0 _ rfl) <| RG.va (FV.eqlB (a := a0.fBelow) (b := a1.fBelow) Tryz.underlying4 rfl rfl) <| RG.nil <| MX.ifb rfl h (fun c0 h => ?_) (fun c0 h => ?_)
 refine MX.seq <| MX.drawT 8 tb111_2 (by kernel_rfl) (by kernel_rfl) (by kernel_rfl) (fun kt0 kp0 => ?_)
 refine RD.vw 0 1 kt0 rfl kp0 (fun _ => FV.fa 0 rfl) rfl <| RD.vx 1 3 384 kt0 rfl kp0 (FV.l1 rfl ((hS1.memA (.tl (.tl .hd))) 0 _ rfl)) rfl <| RD.vw 2 7 kt0 rfl kp0 (fun _ => FV.fa 1 rfl) rfl <| RD.vx 3 15 448 kt0 rfl kp0 (FV.l1 rfl ((hS1.memA (.tl (.tl .hd))) 1 _ rfl)) rfl <| RD.vw 4 31 kt0 rfl kp0 (fun _ => FV.fa 1 rfl) rfl <| RD.vx 5 63 448 kt0 rfl kp0 (FV.l1 rfl ((hS1.memA (.tl .hd)) 1 _ rfl)) rfl ?_
 obtain ⟨y0, hy0, h⟩ := bind_in h
 refine RD.cl 6 127 kt0 rfl .plain body122 rfl (e2 rfl rfl) (fun w9 hw9 => wide_added_c n _ w9 (hS1.hL hL hw9) a0.fWords (hS1.km h0_1 hw9) a1.fWords (hS1.km h1_1 hw9) hy0) rfl (fun w1 vu0 hag0 ⟨v0, hu_, hr0⟩ => ?_)
 subst hu_
 obtain ⟨hS2, hT1⟩ := hS1.agr hag0
 obtain ⟨y1, hy1, h⟩ := bind_in h
 refine RD.cl 7 255 kt0 rfl .plain body103 rfl (e2 rfl rfl) (fun w9 hw9 => wide_trimmed_c n _ w9 (hS2.hL hL hw9) a0.fBelow y0 (Rep.keep0 hr0 hw9) hy1) rfl (fun w3 vu1 hag1 ⟨v1, hu_, hr1⟩ => ?_)
 subst hu_
 obtain ⟨hS4, hT2⟩ := hS2.agr hag1
 refine RD.nw 8 511 kt0 rfl rfl .plain (Acts.storeAll (news := [.bool y1.fBelow, v1]) hS4 .hd rfl rfl rfl rfl rfl rfl (o2 rfl (Rep.o1 hr1))) (fun w4 hS5 hT3 => ?_)
 refine RD.done (doneD_ok kt0 (by kernel_rfl)) <| MX.ret rfl <| RT.leave hb0 Tryz.func111 rfl (.cons (.many (cs := [.bool y1.fBelow, v1]) (by kernel_rfl) rfl (hS5.memA .hd)) .nil) rfl ?_
 cases h
 have hm0 := Rep.mv hr1 hT3
 exact ⟨hS5.ag, fun w9 hw9 => ⟨v1, rfl, hS5.kd hm0 hw9⟩⟩
 refine MX.skip <| MX.seq <| MX.sr <| RG.fa 1 rfl <| RG.l1 rfl ((hS1.memA (.tl (.tl .hd))) 1 _ rfl) <| RG.fa 1 rfl ?_
 refine RG.l1 rfl ((hS1.memA (.tl .hd)) 1 _ rfl) ?_
 obtain ⟨y2, hy2, h⟩ := bind_in h
 refine RG.cq (vI y2) body109 rfl (e2 rfl rfl) (fun w9 hw9 => wide_compared_c n _ w9 (hS1.hL0 hL hw9) a0.fWords (hS1.k0 h0_1 hw9) a1.fWords (hS1.k0 h1_1 hw9) hy2) rfl <| RG.va (FV.lss (i := y2) (j := 0) rfl rfl) <| RG.nil <| MX.join (α := Bool × (List UInt64) × Bool × (List UInt64) × Value × Value) (fun ⟨q0, xs0, q1, xs1, v2, v3⟩ => [(2, vP b5), (3, vP b0), (4, vP b1)]) (fun ⟨q0, xs0, q1, xs1, v2, v3⟩ wx0 => St w wx0 [.cells b1 [.bool false, vN] 100, .cells b0 [.bool q0, v2] 100, .cells b5 [.bool q1, v3] 100] ∧ Tr w0 [.cells b1 [.bool false, vN] 100, .cells b0 [.bool a1.fBelow, v1_1] 100, .cells b5 [.bool a0.fBelow, v0_1] 100] wx0 [.cells b1 [.bool false, vN] 100, .cells b0 [.bool q0, v2] 100, .cells b5 [.bool q1, v3] 100] ∧ Rep.R wx0 (bl [.cells b1 [.bool false, vN] 100, .cells b0 [.bool q0, v2] 100, .cells b5 [.bool q1, v3] 100] ++ L) [v2] xs0 ∧ Rep.R wx0 (bl [.cells b1 [.bool false, vN] 100, .cells b0 [.bool q0, v2] 100, .cells b5 [.bool q1, v3] 100] ++ L) [v3] xs1) (fun ⟨q0, xs0, q1, xs1, v2, v3⟩ => (q0, xs0, q1, xs1)) h ?_ ?_
 rintro ⟨q0, xs0, q1, xs1, v2, v3⟩ wx0 ⟨hS6, hT5, hr2, hr3⟩ h
 try dsimp only at h
 refine MX.seq <| MX.drawT 8 tb111_5 (by kernel_rfl) (by kernel_rfl) (by kernel_rfl) (fun kt1 kp1 => ?_)
 refine RD.vw 0 1 kt1 rfl kp1 (fun _ => FV.fa 0 rfl) rfl <| RD.vx 1 3 384 kt1 rfl kp1 (FV.l1 rfl ((hS6.memA (.tl (.tl .hd))) 0 _ rfl)) rfl <| RD.vw 2 7 kt1 rfl kp1 (fun _ => FV.fa 1 rfl) rfl <| RD.vx 3 15 448 kt1 rfl kp1 (FV.l1 rfl ((hS6.memA (.tl (.tl .hd))) 1 _ rfl)) rfl <| RD.vw 4 31 kt1 rfl kp1 (fun _ => FV.fa 1 rfl) rfl <| RD.vx 5 63 448 kt1 rfl kp1 (FV.l1 rfl ((hS6.memA (.tl .hd)) 1 _ rfl)) rfl ?_
 obtain ⟨y3, hy3, h⟩ := bind_in h
 refine RD.cl 6 127 kt1 rfl .plain body110 rfl (e2 rfl rfl) (fun w9 hw9 => wide_taken_c n _ w9 (hS6.hL hL hw9) xs1 (Rep.keep0 hr3 hw9) xs0 (Rep.keep0 hr2 hw9) hy3) rfl (fun w5 vu2 hag2 ⟨v4, hu_, hr4⟩ => ?_)
 subst hu_
 obtain ⟨hS7, hT6⟩ := hS6.agr hag2
 obtain ⟨y4, hy4, h⟩ := bind_in h
 refine RD.cl 7 255 kt1 rfl .plain body103 rfl (e2 rfl rfl) (fun w9 hw9 => wide_trimmed_c n _ w9 (hS7.hL hL hw9) q1 y3 (Rep.keep0 hr4 hw9) hy4) rfl (fun w6 vu3 hag3 ⟨v5, hu_, hr5⟩ => ?_)
 subst hu_
 obtain ⟨hS9, hT7⟩ := hS7.agr hag3
 refine RD.nw 8 511 kt1 rfl rfl .plain (Acts.storeAll (news := [.bool y4.fBelow, v5]) hS9 .hd rfl rfl rfl rfl rfl rfl (o2 rfl (Rep.o1 hr5))) (fun w8 hS81 hT8 => ?_)
 refine RD.done (doneD_ok kt1 (by kernel_rfl)) <| MX.ret rfl <| RT.leave hb0 Tryz.func111 rfl (.cons (.many (cs := [.bool y4.fBelow, v5]) (by kernel_rfl) rfl (hS81.memA .hd)) .nil) rfl ?_
 cases h
 have hm1 := Rep.mv hr5 hT8
 exact ⟨hS81.ag, fun w9 hw9 => ⟨v5, rfl, hS81.kd hm1 hw9⟩⟩
 intro J0 hJ61 h
 try dsimp only at h
 refine MX.ifd rfl h (fun c1 h => ?_) (fun c1 h => ?_)
 refine MX.region <| RG.va (FV.lN rfl (hS1.memA (.tl .hd))) <| RG.va (FV.lN rfl (hS1.memA (.tl (.tl .hd)))) ?_
 have hm2 := Rep.mv0 h1_1 hS1
 refine RG.now .plain (Acts.storeAll (news := [.bool a1.fBelow, v1_1]) hS1 (.tl (.tl .hd)) rfl rfl rfl rfl rfl rfl (o2 rfl (Rep.o1 hm2))) (fun w86 hS87 hT88 => ?_)
 have hm3 := Rep.mv0 h0_1 hS87
 refine RG.now .plain (Acts.storeAll (news := [.bool a0.fBelow, v0_1]) hS87 (.tl .hd) rfl rfl rfl rfl rfl rfl (o2 rfl (Rep.o1 hm3))) (fun w90 hS91 hT92 => ?_)
 refine RG.nil ?_
 have hm4 := Rep.mv0 h0_1 hS91
 have hm5 := Rep.mv0 h1_1 hS91
 exact hJ61 (a0.fBelow, a0.fWords, a1.fBelow, a1.fWords, v0_1, v1_1) _ _ ⟨rfl, rfl, rfl, trivial⟩ ⟨hS91, (Tr.trans hT88 hT92), hm4, hm5⟩ h
 refine MX.skip ?_
 have hm6 := Rep.mv0 h1_1 hS1
 have hm7 := Rep.mv0 h0_1 hS1
 exact hJ61 (a1.fBelow, a1.fWords, a0.fBelow, a0.fWords, v1_1, v0_1) _ _ ⟨rfl, rfl, rfl, trivial⟩ ⟨hS1, Tr.refl _ _, hm6, hm7⟩ h
def tb116_2 : List (Nat × Nat × Nat) := [(0, 262144, 4), (1, 524288, 262144), (0, 1048576, 8), (4, 2097152, 1048576), (10, 4194304, 2621440), (0, 8388608, 64), (48, 16777216, 12582912), (0, 33554432, 4), (128, 67108864, 33554432), (0, 134217728, 128), (832, 268435456, 201326592), (1151, 0, 16777232), (4095, 0, 268435488)]
def tb116_8 : List (Nat × Nat × Nat) := [(0, 35184372088832, 16), (0, 70368744177664, 32), (1, 0, 35184372088848), (7, 0, 70368744177696)]
theorem body111 : bodyB Tryz.prog 111 = true := by kernel_rfl
def wide_Long_Parts_p (n : Nat) (a0 : TLong) (a1 : TLong) : Option (TLong × TLong) :=
  (wide_divided_p n a0.fWords a1.fWords).bind fun y0 => (wide_trimmed_p n (!(a0.fBelow == a1.fBelow)) y0.1).bind fun y1 => (wide_trimmed_p n a0.fBelow y0.2).bind fun y2 => (if y2.fBelow = true then (wide_Long_Plus_p n y2 (⟨false, a1.fWords⟩ : TLong)).bind fun y3 => (wide_Long_Plus_p n y1 (⟨(!a1.fBelow), ([(1 : UInt64)] : List UInt64)⟩ : TLong)).bind fun y4 => some (y4, y3) else some (y1, y2))
theorem wide_Long_Parts_c (n : Nat) (L : List Nat) (w : World) (hL : ∀ b ∈ L, b < w.heap.size) (a0 : TLong) {v0_1 : Value} (h0_1 : Rep.R w L [v0_1] a0.fWords) (a1 : TLong) {v1_1 : Value} (h1_1 : Rep.R w L [v1_1] a1.fWords)  {r : TLong × TLong} (h : wide_Long_Parts_p n a0 a1 = some r) :
    Calls Tryz.prog 116 #[.agg #[.bool a0.fBelow, v0_1], .agg #[.bool a1.fBelow, v1_1]] w (Gives w fun w' u => ∃ v0_1 v1_1 : Value, u = .tuple #[.agg #[.bool r.1.fBelow, v0_1], .agg #[.bool r.2.fBelow, v1_1]] ∧ Rep.R w' L [v0_1] r.1.fWords ∧ Rep.R w' L [v1_1] r.2.fWords) := by
 unfold wide_Long_Parts_p at h
 have hS0 := St.start w
 refine MX.start Tryz.func116 rfl rfl rfl (fun _ cs0 hb0 => ?_)
 refine MX.sr <| RG.new .plain rfl (Does.box (vs := [.bool a0.fBelow, v0_1]) hS0 rfl rfl) (fun w2 b5 hS3 hT4 => ?_)
 refine RG.new .plain rfl (Does.box (vs := [.bool a1.fBelow, v1_1]) hS3 rfl rfl) (fun w7 b0 hS8 hT9 => ?_)
 refine RG.new .plain rfl (Does.alloc (zs := [.bool false, vN]) hS8 (zB (by kernel_rfl))) (fun w0 b1 hS1 hT0 => ?_)
 refine RG.new .plain rfl (Does.alloc (zs := [.bool false, vN]) hS1 (zB (by kernel_rfl))) (fun w1 b2 hS2 hT1 => ?_)
 refine RG.nil <| MX.sr <| RG.fa 1 rfl <| RG.va (FV.l1 rfl ((hS2.memA (.tl (.tl (.tl .hd)))) 1 _ rfl)) <| RG.fa 1 rfl <| RG.l1 rfl ((hS2.memA (.tl (.tl .hd))) 1 _ rfl) ?_
 obtain ⟨y0, hy0, h⟩ := bind_in h
 refine RG.call' (fst := []) (cap := []) .plain body87 rfl (e2 rfl rfl) (fun w9 hw9 => wide_divided_c n _ w9 (hS2.hL hL hw9) a0.fWords (hS2.km h0_1 hw9) a1.fWords (hS2.km h1_1 hw9) hy0) rfl (fun w3 vu0 hag0 ⟨v0, v1, hu_, hr0, hr1⟩ => ?_)
 subst hu_
 obtain ⟨hS4, hT2⟩ := hS2.agr hag0
 refine RG.mo rfl <| RG.va (FV.extract rfl rfl) <| RG.va (FV.extract rfl rfl) <| RG.so rfl <| RG.so rfl <| RG.nil ?_
 refine MX.seq <| MX.drawT 11 tb116_2 (by kernel_rfl) (by kernel_rfl) (by kernel_rfl) (fun kt0 kp0 => ?_)
 refine RD.vw 0 1 kt0 rfl kp0 (fun _ => FV.fa 0 rfl) rfl <| RD.vx 1 3 7248 kt0 rfl kp0 (FV.l1 rfl ((hS4.memA (.tl (.tl (.tl .hd)))) 0 _ rfl)) rfl <| RD.vw 2 7 kt0 rfl kp0 (fun _ => FV.fa 0 rfl) rfl <| RD.vx 3 15 7248 kt0 rfl kp0 (FV.l1 rfl ((hS4.memA (.tl (.tl .hd))) 0 _ rfl)) rfl <| RD.vw 4 31 kt0 rfl kp0 (fun _ => FV.neqB (a := a0.fBelow) (b := a1.fBelow) Tryz.underlying4 rfl rfl) rfl <| RD.vw 5 63 kt0 rfl kp0 (fun _ => FV.move rfl) rfl ?_
 refine RD.vw 7 191 kt0 rfl kp0 (fun _ => FV.fa 0 rfl) rfl <| RD.vx 8 447 7168 kt0 rfl kp0 (FV.l1 rfl ((hS4.memA (.tl (.tl (.tl .hd)))) 0 _ rfl)) rfl <| RD.vw 9 959 kt0 rfl kp0 (fun _ => FV.move rfl) rfl ?_
 obtain ⟨y1, hy1, h⟩ := bind_in h
 refine RD.cl 6 1023 kt0 rfl .plain body103 rfl (e2 rfl rfl) (fun w9 hw9 => wide_trimmed_c n _ w9 (hS4.hL hL hw9) (!(a0.fBelow == a1.fBelow)) y0.1 (Rep.keep0 hr0 hw9) hy1) rfl (fun w4 vu1 hag1 ⟨v2, hu_, hr2⟩ => ?_)
 subst hu_
 obtain ⟨hS5, hT3⟩ := hS4.agr hag1
 obtain ⟨y2, hy2, h⟩ := bind_in h
 have hm0 := Rep.mv hr1 hT3
 refine RD.cl 10 2047 kt0 rfl .plain body103 rfl (e2 rfl rfl) (fun w9 hw9 => wide_trimmed_c n _ w9 (hS5.hL hL hw9) a0.fBelow y0.2 (Rep.keep0 hm0 hw9) hy2) rfl (fun w5 vu2 hag2 ⟨v3, hu_, hr3⟩ => ?_)
 subst hu_
 obtain ⟨hS6, hT5⟩ := hS5.agr hag2
 have hm1 := Rep.mv hr2 hT5
 refine RD.nw 11 4095 kt0 rfl rfl .plain (Acts.storeAll (news := [.bool y1.fBelow, v2]) hS6 (.tl .hd) rfl rfl rfl rfl rfl rfl (o2 rfl (Rep.o1 hm1))) (fun w6 hS7 hT6 => ?_)
 have hm2 := Rep.mv hr3 hT6
 refine RD.nw 12 8191 kt0 rfl rfl .plain (Acts.storeAll (news := [.bool y2.fBelow, v3]) hS7 .hd rfl rfl rfl rfl rfl rfl (o2 rfl (Rep.o1 hm2))) (fun w8 hS9 hT7 => ?_)
 refine RD.done (doneD_ok kt0 (by kernel_rfl)) <| MX.seq <| MX.sr <| RG.fa 0 rfl <| RG.l1 rfl ((hS9.memA .hd) 0 _ rfl) <| RG.nil ?_
 refine MX.ifb rfl h (fun c0 h => ?_) (fun c0 h => ?_)
 refine MX.sr <| RG.fa 1 rfl <| RG.l1 rfl ((hS9.memA (.tl (.tl .hd))) 1 _ rfl) ?_
 have hm3 := Rep.mv0 h1_1 hS9
 obtain ⟨A59, c1, hv61, _⟩ := Rep.sl hm3
 refine RG.va (FV.buildV (vs := [v1_1]) (u := .agg #[.bool false, v1_1]) (e1 rfl) (fun w9 => by rw [hv61]; try kernel_rfl)) <| RG.new .plain rfl (Does.alloc (zs := [.bool false, vN]) hS9 (zB (by kernel_rfl))) (fun w64 b3 hS65 hT8 => ?_)
 have hm4 := Rep.mv0 h1_1 hS65
 refine RG.now .plain (Acts.storeAll (news := [.bool false, v1_1]) hS65 .hd rfl rfl rfl rfl rfl rfl (o2 rfl (Rep.o1 hm4))) (fun w69 hS70 hT71 => ?_)
 refine RG.nil <| MX.sr <| RG.va (FV.lN rfl (hS70.memA (.tl .hd))) <| RG.va (FV.lN rfl (hS70.memA .hd)) ?_
 obtain ⟨y3, hy3, h⟩ := bind_in h
 have hq73 := Tr.trans hT6 (Tr.trans hT7 (Tr.trans hT8 hT71))
 have hm5 := Rep.mv hr3 hq73
 refine RG.call' (fst := []) (cap := []) .plain body111 rfl (e2 rfl rfl) (fun w9 hw9 => wide_Long_Plus_c n _ w9 (hS70.hL hL hw9) y2 (Rep.keep0 hm5 hw9) (⟨false, a1.fWords⟩ : TLong) (hS70.km h1_1 hw9) hy3) rfl (fun w75 vu3 hag3 ⟨v4, hu_, hr4⟩ => ?_)
 subst hu_
 obtain ⟨hS78, hT79⟩ := hS70.agr hag3
 refine RG.now .plain (Acts.storeAll (news := [.bool y3.fBelow, v4]) hS78 (.tl .hd) rfl rfl rfl rfl rfl rfl (o2 rfl (Rep.o1 hr4))) (fun w82 hS83 hT84 => ?_)
 refine RG.nil <| MX.sr <| RG.fa 0 rfl <| RG.va (FV.l1 rfl ((hS83.memA (.tl (.tl (.tl .hd)))) 0 _ rfl)) <| RG.va (FV.not rfl) <| RG.new .plain rfl (Does.build (α := UInt64) (xs := ([(1 : UInt64)] : List UInt64)) (vs := [.int .u64 1]) (ds' := [.int .u64 1]) rfl hS83 el98 rfl (e1 rfl) (by kernel_rfl) rfl) (fun w86 b4 hS87 hT88 => ?_)
 have hc0 := Cells.at_ (cs := [.int .u64 1]) (xs := (([(1 : UInt64)] : List UInt64) : List UInt64)) hS87 L (Cells.cons (cs := [.int .u64 1]) (ds := []) rfl (Cells.nil _ _))
 refine RG.va (FV.buildV (vs := [.bool (!a1.fBelow), (vS b4 1)]) (u := .agg #[.bool (!a1.fBelow), (vS b4 1)]) (e2 rfl rfl) (fun w9 => by kernel_rfl)) <| RG.new .plain rfl (Does.alloc (zs := [.bool false, vN]) hS87 (zB (by kernel_rfl))) (fun w92 b6 hS93 hT94 => ?_)
 refine RG.now .plain (Acts.storeAll (news := [.bool (!a1.fBelow), (vS b4 1)]) hS93 .hd rfl rfl rfl rfl rfl rfl (o2 rfl (St.o1 (α := UInt64) hS93 (.tl .hd)))) (fun w96 hS97 hT98 => ?_)
 refine RG.nil <| MX.region <| RG.va (FV.lN rfl (hS97.memA (.tl (.tl (.tl (.tl .hd)))))) <| RG.va (FV.lN rfl (hS97.memA .hd)) ?_
 have hm6 := Cells.mv hc0 (Tr.trans hT94 hT98)
 have hr5 := St.freeze (α := UInt64) hS97 (.tl .hd) hm6 hL
 have hS10 := St.delS hS97 (.tl .hd)
 have hT10 := St.delT hS97 (.tl .hd)
 have hr6 := Rep.at_ (α := UInt64) (v := (vS b4 1)) (xs := ([(1 : UInt64)] : List UInt64)) hS10 L hr5
 obtain ⟨y4, hy4, h⟩ := bind_in h
 have hq105 := Tr.trans hT5 (Tr.trans hT6 (Tr.trans hT7 (Tr.trans hT8 (Tr.trans hT71 (Tr.trans hT79 (Tr.trans hT84 (Tr.trans hT88 (Tr.trans hT94 (Tr.trans hT98 hT10)))))))))
 have hm7 := Rep.mv hr2 hq105
 refine RG.call' (fst := []) (cap := []) .plain body111 rfl (e2 rfl rfl) (fun w9 hw9 => wide_Long_Plus_c n _ w9 (hS10.hL hL hw9) y1 (Rep.keep0 hm7 hw9) (⟨(!a1.fBelow), ([(1 : UInt64)] : List UInt64)⟩ : TLong) (Rep.keep0 hr6 hw9) hy4) rfl (fun w10 vu4 hag4 ⟨v5, hu_, hr7⟩ => ?_)
 subst hu_
 obtain ⟨hS11, hT11⟩ := hS10.agr hag4
 refine RG.now .plain (Acts.storeAll (news := [.bool y4.fBelow, v5]) hS11 (.tl (.tl (.tl .hd))) rfl rfl rfl rfl rfl rfl (o2 rfl (Rep.o1 hr7))) (fun w11 hS12 hT12 => ?_)
 refine RG.nil <| MX.seq <| MX.drawT 2 tb116_8 (by kernel_rfl) (by kernel_rfl) (by kernel_rfl) (fun kt1 kp1 => ?_)
 refine RD.vx 0 1 12 kt1 rfl kp1 (FV.lN rfl (hS12.memA (.tl (.tl (.tl .hd))))) rfl <| RD.meet (α := Unit) (fun () => [(4, vP b1), (5, vP b2), (46, .agg #[.bool y3.fBelow, v4])]) (fun () wx0 => St w wx0 [.cells b2 [.bool y3.fBelow, v4] 100, .cells b1 [.bool y4.fBelow, v5] 100] ∧ Tr w11 [.cells b6 [.bool (!a1.fBelow), (vS b4 1)] 100, .cells b3 [.bool false, v1_1] 100, .cells b2 [.bool y3.fBelow, v4] 100, .cells b1 [.bool y4.fBelow, v5] 100, .cells b0 [.bool a1.fBelow, v1_1] 100, .cells b5 [.bool a0.fBelow, v0_1] 100] wx0 [.cells b2 [.bool y3.fBelow, v4] 100, .cells b1 [.bool y4.fBelow, v5] 100]) 1 7 ?_ ?_
 rintro ⟨⟩ wx0 ⟨hS14, hT13⟩
 try dsimp only
 have hq1326 := Tr.trans hT84 (Tr.trans hT88 (Tr.trans hT94 (Tr.trans hT98 (Tr.trans hT10 (Tr.trans hT11 (Tr.trans hT12 hT13))))))
 have hm8 := Rep.mv hr4 hq1326
 refine RD.nw 3 15 kt1 rfl rfl .plain (Acts.storeAll (news := [.bool y3.fBelow, v4]) hS14 .hd rfl rfl rfl rfl rfl rfl (o2 rfl (Rep.o1 hm8))) (fun w13 hS15 hT15 => ?_)
 refine RD.done (doneD_ok kt1 (by kernel_rfl)) <| MX.ret rfl <| RT.leave hb0 Tryz.func116 rfl (.cons (.many (cs := [.bool y4.fBelow, v5]) (by kernel_rfl) rfl (hS15.memA (.tl .hd))) (.cons (.many (cs := [.bool y3.fBelow, v4]) (by kernel_rfl) rfl (hS15.memA .hd)) .nil)) rfl ?_
 cases h
 have hq1331 := Tr.trans hT12 (Tr.trans hT13 hT15)
 have hm9 := Rep.mv hr7 hq1331
 have hm10 := Rep.mv hr4 (Tr.trans hq1326 hT15)
 exact ⟨hS15.ag, fun w9 hw9 => ⟨v5, v4, rfl, hS15.kd hm9 hw9, hS15.kd hm10 hw9⟩⟩
 intro hJ1334
 refine RD.each [1, 2] (readyD_ok kt1 (by kernel_rfl)) ⟨?_, ?_, trivial⟩
 refine RO.val (m' := 3) (stepC_ok kt1 (by kernel_rfl)) rfl .plain rfl (FV.lN rfl (hS12.memA (.tl (.tl .hd)))) ?_
 have hm11 := Rep.mv hr7 hT12
 refine RD.nw 2 7 kt1 rfl rfl .plain (Acts.storeAll (news := [.bool y4.fBelow, v5]) hS12 (.tl (.tl (.tl .hd))) rfl rfl rfl rfl rfl rfl (o2 rfl (Rep.o1 hm11))) (fun w14 hS16 hT16 => ?_)
 obtain ⟨hS17, hT17⟩ := St.arrB hS16 (.one (.tl (.tl .hd)) (.one (.tl (.tl .hd)) .done))
 exact hJ1334 () _ _ ⟨rfl, rfl, rfl, trivial⟩ ⟨hS17, (Tr.trans hT16 hT17)⟩
 have hm11 := Rep.mv hr7 hT12
 refine RO.now (m' := 5) (stepC_ok kt1 (by kernel_rfl)) rfl rfl .plain (Acts.storeAll (news := [.bool y4.fBelow, v5]) hS12 (.tl (.tl (.tl .hd))) rfl rfl rfl rfl rfl rfl (o2 rfl (Rep.o1 hm11))) (fun w14 hS16 hT16 => ?_)
 refine RD.vx 1 7 8 kt1 rfl kp1 (FV.lN rfl (hS16.memA (.tl (.tl .hd)))) rfl ?_
 obtain ⟨hS19, hT18⟩ := St.arrB hS16 (.one (.tl (.tl .hd)) (.one (.tl (.tl .hd)) .done))
 exact hJ1334 () _ _ ⟨rfl, rfl, rfl, trivial⟩ ⟨hS19, (Tr.trans hT16 hT18)⟩
 refine MX.skip <| MX.seq <| MX.drawT 2 tb116_8 (by kernel_rfl) (by kernel_rfl) (by kernel_rfl) (fun kt2 kp2 => ?_)
 refine RD.vx 0 1 12 kt2 rfl kp2 (FV.lN rfl (hS9.memA (.tl .hd))) rfl <| RD.meet (α := Unit) (fun () => [(4, vP b1), (5, vP b2), (46, .agg #[.bool y2.fBelow, v3])]) (fun () wx1 => St w wx1 [.cells b2 [.bool y2.fBelow, v3] 100, .cells b1 [.bool y1.fBelow, v2] 100] ∧ Tr w8 [.cells b2 [.bool y2.fBelow, v3] 100, .cells b1 [.bool y1.fBelow, v2] 100, .cells b0 [.bool a1.fBelow, v1_1] 100, .cells b5 [.bool a0.fBelow, v0_1] 100] wx1 [.cells b2 [.bool y2.fBelow, v3] 100, .cells b1 [.bool y1.fBelow, v2] 100]) 1 7 ?_ ?_
 rintro ⟨⟩ wx1 ⟨hS20, hT20⟩
 try dsimp only
 have hq2549 := Tr.trans hT6 (Tr.trans hT7 hT20)
 have hm12 := Rep.mv hr3 hq2549
 refine RD.nw 3 15 kt2 rfl rfl .plain (Acts.storeAll (news := [.bool y2.fBelow, v3]) hS20 .hd rfl rfl rfl rfl rfl rfl (o2 rfl (Rep.o1 hm12))) (fun w15 hS21 hT21 => ?_)
 refine RD.done (doneD_ok kt2 (by kernel_rfl)) <| MX.ret rfl <| RT.leave hb0 Tryz.func116 rfl (.cons (.many (cs := [.bool y1.fBelow, v2]) (by kernel_rfl) rfl (hS21.memA (.tl .hd))) (.cons (.many (cs := [.bool y2.fBelow, v3]) (by kernel_rfl) rfl (hS21.memA .hd)) .nil)) rfl ?_
 cases h
 have hq2554 := Tr.trans hT5 (Tr.trans hT6 (Tr.trans hT7 (Tr.trans hT20 hT21)))
 have hm13 := Rep.mv hr2 hq2554
 have hm14 := Rep.mv hr3 (Tr.trans hq2549 hT21)
 exact ⟨hS21.ag, fun w9 hw9 => ⟨v2, v3, rfl, hS21.kd hm13 hw9, hS21.kd hm14 hw9⟩⟩
 intro hJ2557
 refine RD.each [1, 2] (readyD_ok kt2 (by kernel_rfl)) ⟨?_, ?_, trivial⟩
 refine RO.val (m' := 3) (stepC_ok kt2 (by kernel_rfl)) rfl .plain rfl (FV.lN rfl (hS9.memA .hd)) ?_
 have hq1941 := Tr.trans hT5 (Tr.trans hT6 hT7)
 have hm15 := Rep.mv hr2 hq1941
 refine RD.nw 2 7 kt2 rfl rfl .plain (Acts.storeAll (news := [.bool y1.fBelow, v2]) hS9 (.tl .hd) rfl rfl rfl rfl rfl rfl (o2 rfl (Rep.o1 hm15))) (fun w16 hS22 hT22 => ?_)
 obtain ⟨hS23, hT23⟩ := St.arrB hS22 (.one .hd (.one .hd .done))
 exact hJ2557 () _ _ ⟨rfl, rfl, rfl, trivial⟩ ⟨hS23, (Tr.trans hT22 hT23)⟩
 have hq1941 := Tr.trans hT5 (Tr.trans hT6 hT7)
 have hm15 := Rep.mv hr2 hq1941
 refine RO.now (m' := 5) (stepC_ok kt2 (by kernel_rfl)) rfl rfl .plain (Acts.storeAll (news := [.bool y1.fBelow, v2]) hS9 (.tl .hd) rfl rfl rfl rfl rfl rfl (o2 rfl (Rep.o1 hm15))) (fun w16 hS22 hT22 => ?_)
 refine RD.vx 1 7 8 kt2 rfl kp2 (FV.lN rfl (hS22.memA .hd)) rfl ?_
 obtain ⟨hS24, hT24⟩ := St.arrB hS22 (.one .hd (.one .hd .done))
 exact hJ2557 () _ _ ⟨rfl, rfl, rfl, trivial⟩ ⟨hS24, (Tr.trans hT22 hT24)⟩
def tb94_5 : List (Nat × Nat × Nat) := [(0, 134217728, 64), (1, 268435456, 134217728), (0, 536870912, 256), (6, 1073741824, 536870912), (11, 0, 268435520), (31, 0, 1073742080)]
theorem body64 : bodyB Tryz.prog 64 = true := by kernel_rfl
theorem body82 : bodyB Tryz.prog 82 = true := by kernel_rfl
theorem body116 : bodyB Tryz.prog 116 = true := by kernel_rfl
def share_Lowest_p (n : Nat) (a0 : TLong) (a1 : TLong) : Option TRatio :=
  (wide_Long_Common_p n a0 a1).bind fun y0 => (wide_Long_Parts_p n a0 y0).bind fun y1 => (wide_Long_Parts_p n a1 y0).bind fun y2 => (if y2.1.fBelow = true then (wide_Long_Turned_p n y1.1).bind fun y3 => (wide_Long_Turned_p n y2.1).bind fun y4 => some (⟨y3, y4⟩ : TRatio) else some (⟨y1.1, y2.1⟩ : TRatio))
theorem share_Lowest_c (n : Nat) (L : List Nat) (w : World) (hL : ∀ b ∈ L, b < w.heap.size) (a0 : TLong) {v0_1 : Value} (h0_1 : Rep.R w L [v0_1] a0.fWords) (a1 : TLong) {v1_1 : Value} (h1_1 : Rep.R w L [v1_1] a1.fWords)  {r : TRatio} (h : share_Lowest_p n a0 a1 = some r) :
    Calls Tryz.prog 94 #[.agg #[.bool a0.fBelow, v0_1], .agg #[.bool a1.fBelow, v1_1]] w (Gives w fun w' u => ∃ v0_1 v0_3 : Value, u = .agg #[.bool r.fLong.fBelow, v0_1, .bool r.fUnder.fBelow, v0_3] ∧ Rep.R w' L [v0_1] r.fLong.fWords ∧ Rep.R w' L [v0_3] r.fUnder.fWords) := by
 unfold share_Lowest_p at h
 have hS0 := St.start w
 refine MX.start Tryz.func94 rfl rfl rfl (fun _ cs0 hb0 => ?_)
 refine MX.sr <| RG.new .plain rfl (Does.box (vs := [.bool a0.fBelow, v0_1]) hS0 rfl rfl) (fun w2 b5 hS3 hT4 => ?_)
 refine RG.new .plain rfl (Does.box (vs := [.bool a1.fBelow, v1_1]) hS3 rfl rfl) (fun w7 b0 hS8 hT9 => ?_)
 refine RG.new .plain rfl (Does.alloc (zs := [.bool false, vN, .bool false, vN]) hS8 (zB (by kernel_rfl))) (fun w0 b1 hS1 hT0 => ?_)
 refine RG.nil <| MX.sr <| RG.va (FV.lN rfl (hS1.memA (.tl (.tl .hd)))) <| RG.va (FV.lN rfl (hS1.memA (.tl .hd))) ?_
 obtain ⟨y0, hy0, h⟩ := bind_in h
 refine RG.call' (fst := []) (cap := []) .plain body64 rfl (e2 rfl rfl) (fun w9 hw9 => wide_Long_Common_c n _ w9 (hS1.hL hL hw9) a0 (hS1.km h0_1 hw9) a1 (hS1.km h1_1 hw9) hy0) rfl (fun w1 vu0 hag0 ⟨v0, hu_, hr0⟩ => ?_)
 subst hu_
 obtain ⟨hS2, hT1⟩ := hS1.agr hag0
 refine RG.new .plain rfl (Does.alloc (zs := [.bool false, vN]) hS2 (zB (by kernel_rfl))) (fun w3 b2 hS4 hT2 => ?_)
 have hm0 := Rep.mv hr0 hT2
 refine RG.now .plain (Acts.storeAll (news := [.bool y0.fBelow, v0]) hS4 .hd rfl rfl rfl rfl rfl rfl (o2 rfl (Rep.o1 hm0))) (fun w4 hS5 hT3 => ?_)
 refine RG.nil <| MX.sr <| RG.va (FV.lN rfl (hS5.memA (.tl (.tl (.tl .hd))))) <| RG.va (FV.lN rfl (hS5.memA .hd)) ?_
 obtain ⟨y1, hy1, h⟩ := bind_in h
 have hm1 := Rep.mv hr0 (Tr.trans hT2 hT3)
 refine RG.call' (fst := []) (cap := []) .plain body116 rfl (e2 rfl rfl) (fun w9 hw9 => wide_Long_Parts_c n _ w9 (hS5.hL hL hw9) a0 (hS5.km h0_1 hw9) y0 (Rep.keep0 hm1 hw9) hy1) rfl (fun w5 vu1 hag1 ⟨v1, v2, hu_, hr1, hr2⟩ => ?_)
 subst hu_
 obtain ⟨hS6, hT5⟩ := hS5.agr hag1
 refine RG.mo rfl <| RG.va (FV.extract rfl rfl) <| RG.va (FV.extract rfl rfl) <| RG.new .plain rfl (Does.alloc (zs := [.bool false, vN]) hS6 (zB (by kernel_rfl))) (fun w6 b3 hS7 hT6 => ?_)
 refine RG.new .plain rfl (Does.alloc (zs := [.bool false, vN]) hS7 (zB (by kernel_rfl))) (fun w8 b4 hS9 hT7 => ?_)
 have hm2 := Rep.mv hr1 (Tr.trans hT6 hT7)
 refine RG.now .plain (Acts.storeAll (news := [.bool y1.1.fBelow, v1]) hS9 (.tl .hd) rfl rfl rfl rfl rfl rfl (o2 rfl (Rep.o1 hm2))) (fun w55 hS56 hT8 => ?_)
 have hq58 := Tr.trans hT6 (Tr.trans hT7 hT8)
 have hm3 := Rep.mv hr2 hq58
 refine RG.now .plain (Acts.storeAll (news := [.bool y1.2.fBelow, v2]) hS56 .hd rfl rfl rfl rfl rfl rfl (o2 rfl (Rep.o1 hm3))) (fun w60 hS61 hT62 => ?_)
 refine RG.nil <| MX.sr <| RG.va (FV.lN rfl (hS61.memA (.tl (.tl (.tl (.tl .hd)))))) <| RG.va (FV.lN rfl (hS61.memA (.tl (.tl .hd)))) ?_
 obtain ⟨y2, hy2, h⟩ := bind_in h
 have hq64 := Tr.trans hT2 (Tr.trans hT3 (Tr.trans hT5 (Tr.trans hT6 (Tr.trans hT7 (Tr.trans hT8 hT62)))))
 have hm4 := Rep.mv hr0 hq64
 refine RG.call' (fst := []) (cap := []) .plain body116 rfl (e2 rfl rfl) (fun w9 hw9 => wide_Long_Parts_c n _ w9 (hS61.hL hL hw9) a1 (hS61.km h1_1 hw9) y0 (Rep.keep0 hm4 hw9) hy2) rfl (fun w66 vu2 hag2 ⟨v3, v4, hu_, hr3, hr4⟩ => ?_)
 subst hu_
 obtain ⟨hS69, hT70⟩ := hS61.agr hag2
 refine RG.mo rfl <| RG.va (FV.extract rfl rfl) <| RG.va (FV.extract rfl rfl) <| RG.new .plain rfl (Does.alloc (zs := [.bool false, vN]) hS69 (zB (by kernel_rfl))) (fun w76 b6 hS77 hT78 => ?_)
 refine RG.new .plain rfl (Does.alloc (zs := [.bool false, vN]) hS77 (zB (by kernel_rfl))) (fun w81 b7 hS82 hT83 => ?_)
 have hm5 := Rep.mv hr3 (Tr.trans hT78 hT83)
 refine RG.now .plain (Acts.storeAll (news := [.bool y2.1.fBelow, v3]) hS82 (.tl .hd) rfl rfl rfl rfl rfl rfl (o2 rfl (Rep.o1 hm5))) (fun w86 hS87 hT88 => ?_)
 have hq89 := Tr.trans hT78 (Tr.trans hT83 hT88)
 have hm6 := Rep.mv hr4 hq89
 refine RG.now .plain (Acts.storeAll (news := [.bool y2.2.fBelow, v4]) hS87 .hd rfl rfl rfl rfl rfl rfl (o2 rfl (Rep.o1 hm6))) (fun w91 hS92 hT93 => ?_)
 refine RG.nil <| MX.seq <| MX.sr <| RG.fa 0 rfl <| RG.l1 rfl ((hS92.memA (.tl .hd)) 0 _ rfl) <| RG.nil ?_
 refine MX.ifb rfl h (fun c0 h => ?_) (fun c0 h => ?_)
 refine MX.drawT 4 tb94_5 (by kernel_rfl) (by kernel_rfl) (by kernel_rfl) (fun kt0 kp0 => ?_)
 refine RD.vx 0 1 58 kt0 rfl kp0 (FV.lN rfl (hS92.memA (.tl (.tl (.tl .hd))))) rfl <| RD.vx 2 5 56 kt0 rfl kp0 (FV.lN rfl (hS92.memA (.tl .hd))) rfl ?_
 obtain ⟨y3, hy3, h⟩ := bind_in h
 have hq98 := Tr.trans hq58 (Tr.trans hT62 (Tr.trans hT70 (Tr.trans hT78 (Tr.trans hT83 (Tr.trans hT88 hT93)))))
 have hm7 := Rep.mv hr1 hq98
 refine RD.cl 1 7 kt0 rfl .plain body82 rfl (e1 rfl) (fun w9 hw9 => wide_Long_Turned_c n _ w9 (hS92.hL hL hw9) y1.1 (Rep.keep0 hm7 hw9) hy3) rfl (fun w10 vu3 hag3 ⟨v5, hu_, hr5⟩ => ?_)
 subst hu_
 obtain ⟨hS10, hT10⟩ := hS92.agr hag3
 obtain ⟨y4, hy4, h⟩ := bind_in h
 have hq108 := Tr.trans hq89 (Tr.trans hT93 hT10)
 have hm8 := Rep.mv hr3 hq108
 refine RD.cl 3 15 kt0 rfl .plain body82 rfl (e1 rfl) (fun w9 hw9 => wide_Long_Turned_c n _ w9 (hS10.hL hL hw9) y2.1 (Rep.keep0 hm8 hw9) hy4) rfl (fun w11 vu4 hag4 ⟨v6, hu_, hr6⟩ => ?_)
 subst hu_
 obtain ⟨hS11, hT11⟩ := hS10.agr hag4
 have hm9 := Rep.mv hr5 hT11
 refine RD.nw 4 31 kt0 rfl rfl .plain (Acts.storeAll (news := [.bool y3.fBelow, v5]) hS11 (.tl (.tl (.tl .hd))) rfl rfl rfl rfl rfl rfl (o2 rfl (Rep.o1 hm9))) (fun w13 hS12 hT12 => ?_)
 have hm10 := Rep.mv hr6 hT12
 refine RD.nw 5 63 kt0 rfl rfl .plain (Acts.storeAll (news := [.bool y4.fBelow, v6]) hS12 (.tl .hd) rfl rfl rfl rfl rfl rfl (o2 rfl (Rep.o1 hm10))) (fun w14 hS14 hT13 => ?_)
 refine RD.done (doneD_ok kt0 (by kernel_rfl)) <| MX.sr <| RG.va (FV.lN rfl (hS14.memA (.tl (.tl (.tl .hd))))) <| RG.va (FV.lN rfl (hS14.memA (.tl .hd))) ?_
 have hq128 := Tr.trans hT11 (Tr.trans hT12 hT13)
 have hm11 := Rep.mv hr5 hq128
 obtain ⟨A125, c1, hv127, _⟩ := Rep.sl hm11
 have hm12 := Rep.mv hr6 (Tr.trans hT12 hT13)
 obtain ⟨A130, c2, hv132, _⟩ := Rep.sl hm12
 refine RG.va (FV.buildV (vs := [.agg #[.bool y3.fBelow, v5], .agg #[.bool y4.fBelow, v6]]) (u := .agg #[.bool y3.fBelow, v5, .bool y4.fBelow, v6]) (e2 rfl rfl) (fun w9 => by rw [hv127, hv132]; try kernel_rfl)) <| RG.now .plain (Acts.storeAll (news := [.bool y3.fBelow, v5, .bool y4.fBelow, v6]) hS14 (.tl (.tl (.tl (.tl (.tl .hd))))) rfl rfl rfl rfl rfl rfl (o4 rfl (Rep.o1 hm11) rfl (Rep.o1 hm12))) (fun w15 hS15 hT15 => ?_)
 refine RG.nil <| MX.ret rfl <| RT.leave hb0 Tryz.func94 rfl (.cons (.many (cs := [.bool y3.fBelow, v5, .bool y4.fBelow, v6]) (by kernel_rfl) rfl (hS15.memA (.tl (.tl (.tl (.tl (.tl .hd))))))) .nil) rfl ?_
 cases h
 have hm13 := Rep.mv hr5 (Tr.trans hq128 hT15)
 have hq138 := Tr.trans hT12 (Tr.trans hT13 hT15)
 have hm14 := Rep.mv hr6 hq138
 exact ⟨hS15.ag, fun w9 hw9 => ⟨v5, v6, rfl, hS15.kd hm13 hw9, hS15.kd hm14 hw9⟩⟩
 refine MX.skip <| MX.sr <| RG.va (FV.lN rfl (hS92.memA (.tl (.tl (.tl .hd))))) <| RG.va (FV.lN rfl (hS92.memA (.tl .hd))) ?_
 have hq143 := Tr.trans hq58 (Tr.trans hT62 (Tr.trans hT70 (Tr.trans hT78 (Tr.trans hT83 (Tr.trans hT88 hT93)))))
 have hm15 := Rep.mv hr1 hq143
 obtain ⟨A140, c3, hv142, _⟩ := Rep.sl hm15
 have hm16 := Rep.mv hr3 (Tr.trans hq89 hT93)
 obtain ⟨A145, c4, hv147, _⟩ := Rep.sl hm16
 refine RG.va (FV.buildV (vs := [.agg #[.bool y1.1.fBelow, v1], .agg #[.bool y2.1.fBelow, v3]]) (u := .agg #[.bool y1.1.fBelow, v1, .bool y2.1.fBelow, v3]) (e2 rfl rfl) (fun w9 => by rw [hv142, hv147]; try kernel_rfl)) <| RG.now .plain (Acts.storeAll (news := [.bool y1.1.fBelow, v1, .bool y2.1.fBelow, v3]) hS92 (.tl (.tl (.tl (.tl (.tl .hd))))) rfl rfl rfl rfl rfl rfl (o4 rfl (Rep.o1 hm15) rfl (Rep.o1 hm16))) (fun w16 hS16 hT16 => ?_)
 refine RG.nil <| MX.ret rfl <| RT.leave hb0 Tryz.func94 rfl (.cons (.many (cs := [.bool y1.1.fBelow, v1, .bool y2.1.fBelow, v3]) (by kernel_rfl) rfl (hS16.memA (.tl (.tl (.tl (.tl (.tl .hd))))))) .nil) rfl ?_
 cases h
 have hm17 := Rep.mv hr1 (Tr.trans hq143 hT16)
 have hq153 := Tr.trans hq89 (Tr.trans hT93 hT16)
 have hm18 := Rep.mv hr3 hq153
 exact ⟨hS16.ag, fun w9 hw9 => ⟨v1, v3, rfl, hS16.kd hm17 hw9, hS16.kd hm18 hw9⟩⟩
end Go.Proofs.YtmpoojncffgjoaaGreatDoor
