/- Functions of the program, and what they give: part 2. -/
import Derived.Test.YtmhgoecnjleagaaGreatDoorPK1
namespace Go.Proofs.YtmhgoecnjleagaaGreatDoor
open Go Go.RowKit

def cs_A34 (x : UInt64 × UInt64 × UInt64 × UInt64 × UInt64 × UInt64 × UInt64 × UInt64) : List Value := [.int .u64 (x.1.toNat : Int), .int .u64 (x.2.1.toNat : Int), .int .u64 (x.2.2.1.toNat : Int), .int .u64 (x.2.2.2.1.toNat : Int), .int .u64 (x.2.2.2.2.1.toNat : Int), .int .u64 (x.2.2.2.2.2.1.toNat : Int), .int .u64 (x.2.2.2.2.2.2.1.toNat : Int), .int .u64 (x.2.2.2.2.2.2.2.toNat : Int)]
def tb212_5 : List (Nat × Nat × Nat) := [(0, 4096, 128), (0, 8192, 128), (2, 16384, 8196), (4, 32768, 16384), (0, 65536, 128), (16, 131072, 65544), (32, 262144, 131072), (0, 524288, 64), (200, 1048576, 819200), (256, 2048, 1048576), (512, 2097152, 2048), (512, 4194304, 2048), (2047, 8388608, 4100), (6143, 0, 10485760), (16383, 64, 4194304)]
def wide_Size_minus_p (_n : Nat) (a0 : UInt64 × UInt64 × UInt64 × UInt64 × UInt64 × UInt64 × UInt64 × UInt64) (a1 : UInt64 × UInt64 × UInt64 × UInt64 × UInt64 × UInt64 × UInt64 × UInt64) : Option ((UInt64 × UInt64 × UInt64 × UInt64 × UInt64 × UInt64 × UInt64 × UInt64) × UInt64) :=
  (sub64 a0.1 a1.1 (0 : UInt64)).bind fun z18 => (sub64 a0.2.1 a1.2.1 z18.2).bind fun z24 => (sub64 a0.2.2.1 a1.2.2.1 z24.2).bind fun z30 => (sub64 a0.2.2.2.1 a1.2.2.2.1 z30.2).bind fun z36 => (sub64 a0.2.2.2.2.1 a1.2.2.2.2.1 z36.2).bind fun z42 => (sub64 a0.2.2.2.2.2.1 a1.2.2.2.2.2.1 z42.2).bind fun z48 => (sub64 a0.2.2.2.2.2.2.1 a1.2.2.2.2.2.2.1 z48.2).bind fun z54 => (sub64 a0.2.2.2.2.2.2.2 a1.2.2.2.2.2.2.2 z54.2).bind fun z60 => some ((z18.1, z24.1, z30.1, z36.1, z42.1, z48.1, z54.1, z60.1), z60.2)
set_option maxRecDepth 4000 in
set_option maxHeartbeats 4000000 in
theorem wide_Size_minus_c (n : Nat) (L : List Nat) (w : World) (_hL : ∀ b ∈ L, b < w.heap.size) (a0 : UInt64 × UInt64 × UInt64 × UInt64 × UInt64 × UInt64 × UInt64 × UInt64) (a1 : UInt64 × UInt64 × UInt64 × UInt64 × UInt64 × UInt64 × UInt64 × UInt64)  {r : (UInt64 × UInt64 × UInt64 × UInt64 × UInt64 × UInt64 × UInt64 × UInt64) × UInt64} (h : wide_Size_minus_p n a0 a1 = some r) :
    Calls Tryz.prog 212 #[.agg ((cs_A34 a0)).toArray, .agg ((cs_A34 a1)).toArray] w (Gives w fun _ u => u = .tuple #[.agg ((cs_A34 r.1)).toArray, .int .u64 (r.2.toNat : Int)]) := by
  unfold wide_Size_minus_p at h
  have hS0 := St.start w
  refine MX.start Tryz.func212 rfl rfl rfl (fun _ cs0 hb0 => ?_)
  refine MX.sr ?_
  refine RG.new .plain rfl (Does.box (vs := (cs_A34 a0)) hS0 rfl rfl) (fun w2 b5 hS3 hT4 => ?_)
  refine RG.new .plain rfl (Does.box (vs := (cs_A34 a1)) hS3 rfl rfl) (fun w7 b10 hS8 hT9 => ?_)
  refine RG.new .plain rfl (Does.alloc (zs := [.int .u64 0, .int .u64 0, .int .u64 0, .int .u64 0, .int .u64 0, .int .u64 0, .int .u64 0, .int .u64 0]) hS8 (zB (by kernel_rfl))) (fun w12 b15 hS13 hT14 => ?_)
  refine RG.sg rfl rfl ?_
  refine RG.nil ?_
  refine MX.sr ?_
  refine RG.sg rfl rfl ?_
  refine RG.nil ?_
  refine MX.seq ?_
  refine MX.sr ?_
  refine RG.mv rfl rfl ?_
  refine RG.nil ?_
  refine MX.block ?_
  refine MX.loop1 ?_
  refine MX.sr ?_
  refine RG.vv (FV.lssN (i := 0) (j := 8) rfl rfl) rfl ?_
  refine RG.nil ?_
  refine MX.seq ?_
  refine MX.cond_t rfl ?_
  refine MX.skip ?_
  refine MX.seq ?_
  refine MX.block ?_
  refine MX.sr ?_
  refine RG.mv rfl rfl ?_
  refine RG.sg rfl rfl ?_
  refine RG.nil ?_
  refine MX.drawT 13 tb212_5 (by kernel_rfl) (by kernel_rfl) (by kernel_rfl) (fun kt16 kp17 => ?_)
  refine RD.vw 0 1 kt16 rfl kp17 (fun _ => FV.move rfl) rfl ?_
  refine RD.vw 1 3 kt16 rfl kp17 (fun _ => FV.move rfl) rfl ?_
  refine RD.vw 2 7 kt16 rfl kp17 (fun _ => FV.indexArr (m := 1) (k := 0) (len := 8) (by kernel_rfl) rfl rfl rfl (by omega)) rfl ?_
  refine RD.vx 3 15 32512 kt16 rfl kp17 (FV.load1 (by kernel_rfl) rfl ((hS13.memA (.tl (.tl .hd))) 0 _ rfl)) rfl ?_
  refine RD.vw 4 31 kt16 rfl kp17 (fun _ => FV.move rfl) rfl ?_
  refine RD.vw 5 63 kt16 rfl kp17 (fun _ => FV.indexArr (m := 1) (k := 0) (len := 8) (by kernel_rfl) rfl rfl rfl (by omega)) rfl ?_
  refine RD.vx 6 127 32512 kt16 rfl kp17 (FV.load1 (by kernel_rfl) rfl ((hS13.memA (.tl .hd)) 0 _ rfl)) rfl ?_
  refine RD.vw 7 255 kt16 rfl kp17 (fun _ => FV.move rfl) rfl ?_
  obtain ⟨z18, hz18, h⟩ := bind_in h
  refine RD.vw 8 511 kt16 rfl kp17 (fun _ => FV.sub64 (a := a0.1) (b := a1.1) (c := (0 : UInt64)) Tryz.func197 rfl (by kernel_rfl) (by kernel_rfl) (by kernel_rfl) rfl rfl rfl hz18) rfl ?_
  refine RD.vw 9 1023 kt16 rfl kp17 (fun _ => FV.move rfl) rfl ?_
  refine RD.vw 10 2047 kt16 rfl kp17 (fun _ => FV.extract rfl rfl) rfl ?_
  refine RD.vw 11 4095 kt16 rfl kp17 (fun _ => FV.extract rfl rfl) rfl ?_
  refine RD.vw 12 8191 kt16 rfl kp17 (fun _ => FV.indexArr (m := 1) (k := 0) (len := 8) (by kernel_rfl) rfl rfl rfl (by omega)) rfl ?_
  refine RD.nw 13 16383 kt16 rfl rfl .plain (Acts.store (j := 0) (old := (cs_A34 a0)) (news := [.int .u64 (z18.1.toNat : Int)]) (new' := [.int .u64 (z18.1.toNat : Int), .int .u64 (a0.2.1.toNat : Int), .int .u64 (a0.2.2.1.toNat : Int), .int .u64 (a0.2.2.2.1.toNat : Int), .int .u64 (a0.2.2.2.2.1.toNat : Int), .int .u64 (a0.2.2.2.2.2.1.toNat : Int), .int .u64 (a0.2.2.2.2.2.2.1.toNat : Int), .int .u64 (a0.2.2.2.2.2.2.2.toNat : Int)]) hS13 (.tl (.tl .hd)) rfl rfl rfl rfl rfl rfl (ones_cons rfl ones_nil) rfl) (fun w19 hS20 hT21 => ?_)
  refine RD.one (i := 14) (readyD_ok kt16 (by kernel_rfl)) (RO.val (m' := 32767) (stepC_ok kt16 (by kernel_rfl)) rfl .plain rfl (FV.assign rfl) ?_)
  refine RD.done (doneD_ok kt16 (by kernel_rfl)) ?_
  refine MX.inBlock ?_
  refine MX.region ?_
  refine RG.vv (FV.add (i := 0) (j := 1) (r := 1) rfl rfl (by decide)) rfl ?_
  refine RG.mv rfl rfl ?_
  refine RG.nil ?_
  refine MX.again1 ?_
  refine MX.sr ?_
  refine RG.vv (FV.lssN (i := 1) (j := 8) rfl rfl) rfl ?_
  refine RG.nil ?_
  refine MX.seq ?_
  refine MX.cond_t rfl ?_
  refine MX.skip ?_
  refine MX.seq ?_
  refine MX.block ?_
  refine MX.sr ?_
  refine RG.mv rfl rfl ?_
  refine RG.sg rfl rfl ?_
  refine RG.nil ?_
  refine MX.drawT 13 tb212_5 (by kernel_rfl) (by kernel_rfl) (by kernel_rfl) (fun kt22 kp23 => ?_)
  refine RD.vw 0 1 kt22 rfl kp23 (fun _ => FV.move rfl) rfl ?_
  refine RD.vw 1 3 kt22 rfl kp23 (fun _ => FV.move rfl) rfl ?_
  refine RD.vw 2 7 kt22 rfl kp23 (fun _ => FV.indexArr (m := 1) (k := 1) (len := 8) (by kernel_rfl) rfl rfl rfl (by omega)) rfl ?_
  refine RD.vx 3 15 32512 kt22 rfl kp23 (FV.load1 (by kernel_rfl) rfl ((hS20.memA (.tl (.tl .hd))) 1 _ rfl)) rfl ?_
  refine RD.vw 4 31 kt22 rfl kp23 (fun _ => FV.move rfl) rfl ?_
  refine RD.vw 5 63 kt22 rfl kp23 (fun _ => FV.indexArr (m := 1) (k := 1) (len := 8) (by kernel_rfl) rfl rfl rfl (by omega)) rfl ?_
  refine RD.vx 6 127 32512 kt22 rfl kp23 (FV.load1 (by kernel_rfl) rfl ((hS20.memA (.tl .hd)) 1 _ rfl)) rfl ?_
  refine RD.vw 7 255 kt22 rfl kp23 (fun _ => FV.move rfl) rfl ?_
  obtain ⟨z24, hz24, h⟩ := bind_in h
  refine RD.vw 8 511 kt22 rfl kp23 (fun _ => FV.sub64 (a := a0.2.1) (b := a1.2.1) (c := z18.2) Tryz.func197 rfl (by kernel_rfl) (by kernel_rfl) (by kernel_rfl) rfl rfl rfl hz24) rfl ?_
  refine RD.vw 9 1023 kt22 rfl kp23 (fun _ => FV.move rfl) rfl ?_
  refine RD.vw 10 2047 kt22 rfl kp23 (fun _ => FV.extract rfl rfl) rfl ?_
  refine RD.vw 11 4095 kt22 rfl kp23 (fun _ => FV.extract rfl rfl) rfl ?_
  refine RD.vw 12 8191 kt22 rfl kp23 (fun _ => FV.indexArr (m := 1) (k := 1) (len := 8) (by kernel_rfl) rfl rfl rfl (by omega)) rfl ?_
  refine RD.nw 13 16383 kt22 rfl rfl .plain (Acts.store (j := 1) (old := [.int .u64 (z18.1.toNat : Int), .int .u64 (a0.2.1.toNat : Int), .int .u64 (a0.2.2.1.toNat : Int), .int .u64 (a0.2.2.2.1.toNat : Int), .int .u64 (a0.2.2.2.2.1.toNat : Int), .int .u64 (a0.2.2.2.2.2.1.toNat : Int), .int .u64 (a0.2.2.2.2.2.2.1.toNat : Int), .int .u64 (a0.2.2.2.2.2.2.2.toNat : Int)]) (news := [.int .u64 (z24.1.toNat : Int)]) (new' := [.int .u64 (z18.1.toNat : Int), .int .u64 (z24.1.toNat : Int), .int .u64 (a0.2.2.1.toNat : Int), .int .u64 (a0.2.2.2.1.toNat : Int), .int .u64 (a0.2.2.2.2.1.toNat : Int), .int .u64 (a0.2.2.2.2.2.1.toNat : Int), .int .u64 (a0.2.2.2.2.2.2.1.toNat : Int), .int .u64 (a0.2.2.2.2.2.2.2.toNat : Int)]) hS20 (.tl (.tl .hd)) rfl rfl rfl rfl rfl rfl (ones_cons rfl ones_nil) rfl) (fun w25 hS26 hT27 => ?_)
  refine RD.one (i := 14) (readyD_ok kt22 (by kernel_rfl)) (RO.val (m' := 32767) (stepC_ok kt22 (by kernel_rfl)) rfl .plain rfl (FV.assign rfl) ?_)
  refine RD.done (doneD_ok kt22 (by kernel_rfl)) ?_
  refine MX.inBlock ?_
  refine MX.region ?_
  refine RG.vv (FV.add (i := 1) (j := 1) (r := 2) rfl rfl (by decide)) rfl ?_
  refine RG.mv rfl rfl ?_
  refine RG.nil ?_
  refine MX.again1 ?_
  refine MX.sr ?_
  refine RG.vv (FV.lssN (i := 2) (j := 8) rfl rfl) rfl ?_
  refine RG.nil ?_
  refine MX.seq ?_
  refine MX.cond_t rfl ?_
  refine MX.skip ?_
  refine MX.seq ?_
  refine MX.block ?_
  refine MX.sr ?_
  refine RG.mv rfl rfl ?_
  refine RG.sg rfl rfl ?_
  refine RG.nil ?_
  refine MX.drawT 13 tb212_5 (by kernel_rfl) (by kernel_rfl) (by kernel_rfl) (fun kt28 kp29 => ?_)
  refine RD.vw 0 1 kt28 rfl kp29 (fun _ => FV.move rfl) rfl ?_
  refine RD.vw 1 3 kt28 rfl kp29 (fun _ => FV.move rfl) rfl ?_
  refine RD.vw 2 7 kt28 rfl kp29 (fun _ => FV.indexArr (m := 1) (k := 2) (len := 8) (by kernel_rfl) rfl rfl rfl (by omega)) rfl ?_
  refine RD.vx 3 15 32512 kt28 rfl kp29 (FV.load1 (by kernel_rfl) rfl ((hS26.memA (.tl (.tl .hd))) 2 _ rfl)) rfl ?_
  refine RD.vw 4 31 kt28 rfl kp29 (fun _ => FV.move rfl) rfl ?_
  refine RD.vw 5 63 kt28 rfl kp29 (fun _ => FV.indexArr (m := 1) (k := 2) (len := 8) (by kernel_rfl) rfl rfl rfl (by omega)) rfl ?_
  refine RD.vx 6 127 32512 kt28 rfl kp29 (FV.load1 (by kernel_rfl) rfl ((hS26.memA (.tl .hd)) 2 _ rfl)) rfl ?_
  refine RD.vw 7 255 kt28 rfl kp29 (fun _ => FV.move rfl) rfl ?_
  obtain ⟨z30, hz30, h⟩ := bind_in h
  refine RD.vw 8 511 kt28 rfl kp29 (fun _ => FV.sub64 (a := a0.2.2.1) (b := a1.2.2.1) (c := z24.2) Tryz.func197 rfl (by kernel_rfl) (by kernel_rfl) (by kernel_rfl) rfl rfl rfl hz30) rfl ?_
  refine RD.vw 9 1023 kt28 rfl kp29 (fun _ => FV.move rfl) rfl ?_
  refine RD.vw 10 2047 kt28 rfl kp29 (fun _ => FV.extract rfl rfl) rfl ?_
  refine RD.vw 11 4095 kt28 rfl kp29 (fun _ => FV.extract rfl rfl) rfl ?_
  refine RD.vw 12 8191 kt28 rfl kp29 (fun _ => FV.indexArr (m := 1) (k := 2) (len := 8) (by kernel_rfl) rfl rfl rfl (by omega)) rfl ?_
  refine RD.nw 13 16383 kt28 rfl rfl .plain (Acts.store (j := 2) (old := [.int .u64 (z18.1.toNat : Int), .int .u64 (z24.1.toNat : Int), .int .u64 (a0.2.2.1.toNat : Int), .int .u64 (a0.2.2.2.1.toNat : Int), .int .u64 (a0.2.2.2.2.1.toNat : Int), .int .u64 (a0.2.2.2.2.2.1.toNat : Int), .int .u64 (a0.2.2.2.2.2.2.1.toNat : Int), .int .u64 (a0.2.2.2.2.2.2.2.toNat : Int)]) (news := [.int .u64 (z30.1.toNat : Int)]) (new' := [.int .u64 (z18.1.toNat : Int), .int .u64 (z24.1.toNat : Int), .int .u64 (z30.1.toNat : Int), .int .u64 (a0.2.2.2.1.toNat : Int), .int .u64 (a0.2.2.2.2.1.toNat : Int), .int .u64 (a0.2.2.2.2.2.1.toNat : Int), .int .u64 (a0.2.2.2.2.2.2.1.toNat : Int), .int .u64 (a0.2.2.2.2.2.2.2.toNat : Int)]) hS26 (.tl (.tl .hd)) rfl rfl rfl rfl rfl rfl (ones_cons rfl ones_nil) rfl) (fun w31 hS32 hT33 => ?_)
  refine RD.one (i := 14) (readyD_ok kt28 (by kernel_rfl)) (RO.val (m' := 32767) (stepC_ok kt28 (by kernel_rfl)) rfl .plain rfl (FV.assign rfl) ?_)
  refine RD.done (doneD_ok kt28 (by kernel_rfl)) ?_
  refine MX.inBlock ?_
  refine MX.region ?_
  refine RG.vv (FV.add (i := 2) (j := 1) (r := 3) rfl rfl (by decide)) rfl ?_
  refine RG.mv rfl rfl ?_
  refine RG.nil ?_
  refine MX.again1 ?_
  refine MX.sr ?_
  refine RG.vv (FV.lssN (i := 3) (j := 8) rfl rfl) rfl ?_
  refine RG.nil ?_
  refine MX.seq ?_
  refine MX.cond_t rfl ?_
  refine MX.skip ?_
  refine MX.seq ?_
  refine MX.block ?_
  refine MX.sr ?_
  refine RG.mv rfl rfl ?_
  refine RG.sg rfl rfl ?_
  refine RG.nil ?_
  refine MX.drawT 13 tb212_5 (by kernel_rfl) (by kernel_rfl) (by kernel_rfl) (fun kt34 kp35 => ?_)
  refine RD.vw 0 1 kt34 rfl kp35 (fun _ => FV.move rfl) rfl ?_
  refine RD.vw 1 3 kt34 rfl kp35 (fun _ => FV.move rfl) rfl ?_
  refine RD.vw 2 7 kt34 rfl kp35 (fun _ => FV.indexArr (m := 1) (k := 3) (len := 8) (by kernel_rfl) rfl rfl rfl (by omega)) rfl ?_
  refine RD.vx 3 15 32512 kt34 rfl kp35 (FV.load1 (by kernel_rfl) rfl ((hS32.memA (.tl (.tl .hd))) 3 _ rfl)) rfl ?_
  refine RD.vw 4 31 kt34 rfl kp35 (fun _ => FV.move rfl) rfl ?_
  refine RD.vw 5 63 kt34 rfl kp35 (fun _ => FV.indexArr (m := 1) (k := 3) (len := 8) (by kernel_rfl) rfl rfl rfl (by omega)) rfl ?_
  refine RD.vx 6 127 32512 kt34 rfl kp35 (FV.load1 (by kernel_rfl) rfl ((hS32.memA (.tl .hd)) 3 _ rfl)) rfl ?_
  refine RD.vw 7 255 kt34 rfl kp35 (fun _ => FV.move rfl) rfl ?_
  obtain ⟨z36, hz36, h⟩ := bind_in h
  refine RD.vw 8 511 kt34 rfl kp35 (fun _ => FV.sub64 (a := a0.2.2.2.1) (b := a1.2.2.2.1) (c := z30.2) Tryz.func197 rfl (by kernel_rfl) (by kernel_rfl) (by kernel_rfl) rfl rfl rfl hz36) rfl ?_
  refine RD.vw 9 1023 kt34 rfl kp35 (fun _ => FV.move rfl) rfl ?_
  refine RD.vw 10 2047 kt34 rfl kp35 (fun _ => FV.extract rfl rfl) rfl ?_
  refine RD.vw 11 4095 kt34 rfl kp35 (fun _ => FV.extract rfl rfl) rfl ?_
  refine RD.vw 12 8191 kt34 rfl kp35 (fun _ => FV.indexArr (m := 1) (k := 3) (len := 8) (by kernel_rfl) rfl rfl rfl (by omega)) rfl ?_
  refine RD.nw 13 16383 kt34 rfl rfl .plain (Acts.store (j := 3) (old := [.int .u64 (z18.1.toNat : Int), .int .u64 (z24.1.toNat : Int), .int .u64 (z30.1.toNat : Int), .int .u64 (a0.2.2.2.1.toNat : Int), .int .u64 (a0.2.2.2.2.1.toNat : Int), .int .u64 (a0.2.2.2.2.2.1.toNat : Int), .int .u64 (a0.2.2.2.2.2.2.1.toNat : Int), .int .u64 (a0.2.2.2.2.2.2.2.toNat : Int)]) (news := [.int .u64 (z36.1.toNat : Int)]) (new' := [.int .u64 (z18.1.toNat : Int), .int .u64 (z24.1.toNat : Int), .int .u64 (z30.1.toNat : Int), .int .u64 (z36.1.toNat : Int), .int .u64 (a0.2.2.2.2.1.toNat : Int), .int .u64 (a0.2.2.2.2.2.1.toNat : Int), .int .u64 (a0.2.2.2.2.2.2.1.toNat : Int), .int .u64 (a0.2.2.2.2.2.2.2.toNat : Int)]) hS32 (.tl (.tl .hd)) rfl rfl rfl rfl rfl rfl (ones_cons rfl ones_nil) rfl) (fun w37 hS38 hT39 => ?_)
  refine RD.one (i := 14) (readyD_ok kt34 (by kernel_rfl)) (RO.val (m' := 32767) (stepC_ok kt34 (by kernel_rfl)) rfl .plain rfl (FV.assign rfl) ?_)
  refine RD.done (doneD_ok kt34 (by kernel_rfl)) ?_
  refine MX.inBlock ?_
  refine MX.region ?_
  refine RG.vv (FV.add (i := 3) (j := 1) (r := 4) rfl rfl (by decide)) rfl ?_
  refine RG.mv rfl rfl ?_
  refine RG.nil ?_
  refine MX.again1 ?_
  refine MX.sr ?_
  refine RG.vv (FV.lssN (i := 4) (j := 8) rfl rfl) rfl ?_
  refine RG.nil ?_
  refine MX.seq ?_
  refine MX.cond_t rfl ?_
  refine MX.skip ?_
  refine MX.seq ?_
  refine MX.block ?_
  refine MX.sr ?_
  refine RG.mv rfl rfl ?_
  refine RG.sg rfl rfl ?_
  refine RG.nil ?_
  refine MX.drawT 13 tb212_5 (by kernel_rfl) (by kernel_rfl) (by kernel_rfl) (fun kt40 kp41 => ?_)
  refine RD.vw 0 1 kt40 rfl kp41 (fun _ => FV.move rfl) rfl ?_
  refine RD.vw 1 3 kt40 rfl kp41 (fun _ => FV.move rfl) rfl ?_
  refine RD.vw 2 7 kt40 rfl kp41 (fun _ => FV.indexArr (m := 1) (k := 4) (len := 8) (by kernel_rfl) rfl rfl rfl (by omega)) rfl ?_
  refine RD.vx 3 15 32512 kt40 rfl kp41 (FV.load1 (by kernel_rfl) rfl ((hS38.memA (.tl (.tl .hd))) 4 _ rfl)) rfl ?_
  refine RD.vw 4 31 kt40 rfl kp41 (fun _ => FV.move rfl) rfl ?_
  refine RD.vw 5 63 kt40 rfl kp41 (fun _ => FV.indexArr (m := 1) (k := 4) (len := 8) (by kernel_rfl) rfl rfl rfl (by omega)) rfl ?_
  refine RD.vx 6 127 32512 kt40 rfl kp41 (FV.load1 (by kernel_rfl) rfl ((hS38.memA (.tl .hd)) 4 _ rfl)) rfl ?_
  refine RD.vw 7 255 kt40 rfl kp41 (fun _ => FV.move rfl) rfl ?_
  obtain ⟨z42, hz42, h⟩ := bind_in h
  refine RD.vw 8 511 kt40 rfl kp41 (fun _ => FV.sub64 (a := a0.2.2.2.2.1) (b := a1.2.2.2.2.1) (c := z36.2) Tryz.func197 rfl (by kernel_rfl) (by kernel_rfl) (by kernel_rfl) rfl rfl rfl hz42) rfl ?_
  refine RD.vw 9 1023 kt40 rfl kp41 (fun _ => FV.move rfl) rfl ?_
  refine RD.vw 10 2047 kt40 rfl kp41 (fun _ => FV.extract rfl rfl) rfl ?_
  refine RD.vw 11 4095 kt40 rfl kp41 (fun _ => FV.extract rfl rfl) rfl ?_
  refine RD.vw 12 8191 kt40 rfl kp41 (fun _ => FV.indexArr (m := 1) (k := 4) (len := 8) (by kernel_rfl) rfl rfl rfl (by omega)) rfl ?_
  refine RD.nw 13 16383 kt40 rfl rfl .plain (Acts.store (j := 4) (old := [.int .u64 (z18.1.toNat : Int), .int .u64 (z24.1.toNat : Int), .int .u64 (z30.1.toNat : Int), .int .u64 (z36.1.toNat : Int), .int .u64 (a0.2.2.2.2.1.toNat : Int), .int .u64 (a0.2.2.2.2.2.1.toNat : Int), .int .u64 (a0.2.2.2.2.2.2.1.toNat : Int), .int .u64 (a0.2.2.2.2.2.2.2.toNat : Int)]) (news := [.int .u64 (z42.1.toNat : Int)]) (new' := [.int .u64 (z18.1.toNat : Int), .int .u64 (z24.1.toNat : Int), .int .u64 (z30.1.toNat : Int), .int .u64 (z36.1.toNat : Int), .int .u64 (z42.1.toNat : Int), .int .u64 (a0.2.2.2.2.2.1.toNat : Int), .int .u64 (a0.2.2.2.2.2.2.1.toNat : Int), .int .u64 (a0.2.2.2.2.2.2.2.toNat : Int)]) hS38 (.tl (.tl .hd)) rfl rfl rfl rfl rfl rfl (ones_cons rfl ones_nil) rfl) (fun w43 hS44 hT45 => ?_)
  refine RD.one (i := 14) (readyD_ok kt40 (by kernel_rfl)) (RO.val (m' := 32767) (stepC_ok kt40 (by kernel_rfl)) rfl .plain rfl (FV.assign rfl) ?_)
  refine RD.done (doneD_ok kt40 (by kernel_rfl)) ?_
  refine MX.inBlock ?_
  refine MX.region ?_
  refine RG.vv (FV.add (i := 4) (j := 1) (r := 5) rfl rfl (by decide)) rfl ?_
  refine RG.mv rfl rfl ?_
  refine RG.nil ?_
  refine MX.again1 ?_
  refine MX.sr ?_
  refine RG.vv (FV.lssN (i := 5) (j := 8) rfl rfl) rfl ?_
  refine RG.nil ?_
  refine MX.seq ?_
  refine MX.cond_t rfl ?_
  refine MX.skip ?_
  refine MX.seq ?_
  refine MX.block ?_
  refine MX.sr ?_
  refine RG.mv rfl rfl ?_
  refine RG.sg rfl rfl ?_
  refine RG.nil ?_
  refine MX.drawT 13 tb212_5 (by kernel_rfl) (by kernel_rfl) (by kernel_rfl) (fun kt46 kp47 => ?_)
  refine RD.vw 0 1 kt46 rfl kp47 (fun _ => FV.move rfl) rfl ?_
  refine RD.vw 1 3 kt46 rfl kp47 (fun _ => FV.move rfl) rfl ?_
  refine RD.vw 2 7 kt46 rfl kp47 (fun _ => FV.indexArr (m := 1) (k := 5) (len := 8) (by kernel_rfl) rfl rfl rfl (by omega)) rfl ?_
  refine RD.vx 3 15 32512 kt46 rfl kp47 (FV.load1 (by kernel_rfl) rfl ((hS44.memA (.tl (.tl .hd))) 5 _ rfl)) rfl ?_
  refine RD.vw 4 31 kt46 rfl kp47 (fun _ => FV.move rfl) rfl ?_
  refine RD.vw 5 63 kt46 rfl kp47 (fun _ => FV.indexArr (m := 1) (k := 5) (len := 8) (by kernel_rfl) rfl rfl rfl (by omega)) rfl ?_
  refine RD.vx 6 127 32512 kt46 rfl kp47 (FV.load1 (by kernel_rfl) rfl ((hS44.memA (.tl .hd)) 5 _ rfl)) rfl ?_
  refine RD.vw 7 255 kt46 rfl kp47 (fun _ => FV.move rfl) rfl ?_
  obtain ⟨z48, hz48, h⟩ := bind_in h
  refine RD.vw 8 511 kt46 rfl kp47 (fun _ => FV.sub64 (a := a0.2.2.2.2.2.1) (b := a1.2.2.2.2.2.1) (c := z42.2) Tryz.func197 rfl (by kernel_rfl) (by kernel_rfl) (by kernel_rfl) rfl rfl rfl hz48) rfl ?_
  refine RD.vw 9 1023 kt46 rfl kp47 (fun _ => FV.move rfl) rfl ?_
  refine RD.vw 10 2047 kt46 rfl kp47 (fun _ => FV.extract rfl rfl) rfl ?_
  refine RD.vw 11 4095 kt46 rfl kp47 (fun _ => FV.extract rfl rfl) rfl ?_
  refine RD.vw 12 8191 kt46 rfl kp47 (fun _ => FV.indexArr (m := 1) (k := 5) (len := 8) (by kernel_rfl) rfl rfl rfl (by omega)) rfl ?_
  refine RD.nw 13 16383 kt46 rfl rfl .plain (Acts.store (j := 5) (old := [.int .u64 (z18.1.toNat : Int), .int .u64 (z24.1.toNat : Int), .int .u64 (z30.1.toNat : Int), .int .u64 (z36.1.toNat : Int), .int .u64 (z42.1.toNat : Int), .int .u64 (a0.2.2.2.2.2.1.toNat : Int), .int .u64 (a0.2.2.2.2.2.2.1.toNat : Int), .int .u64 (a0.2.2.2.2.2.2.2.toNat : Int)]) (news := [.int .u64 (z48.1.toNat : Int)]) (new' := [.int .u64 (z18.1.toNat : Int), .int .u64 (z24.1.toNat : Int), .int .u64 (z30.1.toNat : Int), .int .u64 (z36.1.toNat : Int), .int .u64 (z42.1.toNat : Int), .int .u64 (z48.1.toNat : Int), .int .u64 (a0.2.2.2.2.2.2.1.toNat : Int), .int .u64 (a0.2.2.2.2.2.2.2.toNat : Int)]) hS44 (.tl (.tl .hd)) rfl rfl rfl rfl rfl rfl (ones_cons rfl ones_nil) rfl) (fun w49 hS50 hT51 => ?_)
  refine RD.one (i := 14) (readyD_ok kt46 (by kernel_rfl)) (RO.val (m' := 32767) (stepC_ok kt46 (by kernel_rfl)) rfl .plain rfl (FV.assign rfl) ?_)
  refine RD.done (doneD_ok kt46 (by kernel_rfl)) ?_
  refine MX.inBlock ?_
  refine MX.region ?_
  refine RG.vv (FV.add (i := 5) (j := 1) (r := 6) rfl rfl (by decide)) rfl ?_
  refine RG.mv rfl rfl ?_
  refine RG.nil ?_
  refine MX.again1 ?_
  refine MX.sr ?_
  refine RG.vv (FV.lssN (i := 6) (j := 8) rfl rfl) rfl ?_
  refine RG.nil ?_
  refine MX.seq ?_
  refine MX.cond_t rfl ?_
  refine MX.skip ?_
  refine MX.seq ?_
  refine MX.block ?_
  refine MX.sr ?_
  refine RG.mv rfl rfl ?_
  refine RG.sg rfl rfl ?_
  refine RG.nil ?_
  refine MX.drawT 13 tb212_5 (by kernel_rfl) (by kernel_rfl) (by kernel_rfl) (fun kt52 kp53 => ?_)
  refine RD.vw 0 1 kt52 rfl kp53 (fun _ => FV.move rfl) rfl ?_
  refine RD.vw 1 3 kt52 rfl kp53 (fun _ => FV.move rfl) rfl ?_
  refine RD.vw 2 7 kt52 rfl kp53 (fun _ => FV.indexArr (m := 1) (k := 6) (len := 8) (by kernel_rfl) rfl rfl rfl (by omega)) rfl ?_
  refine RD.vx 3 15 32512 kt52 rfl kp53 (FV.load1 (by kernel_rfl) rfl ((hS50.memA (.tl (.tl .hd))) 6 _ rfl)) rfl ?_
  refine RD.vw 4 31 kt52 rfl kp53 (fun _ => FV.move rfl) rfl ?_
  refine RD.vw 5 63 kt52 rfl kp53 (fun _ => FV.indexArr (m := 1) (k := 6) (len := 8) (by kernel_rfl) rfl rfl rfl (by omega)) rfl ?_
  refine RD.vx 6 127 32512 kt52 rfl kp53 (FV.load1 (by kernel_rfl) rfl ((hS50.memA (.tl .hd)) 6 _ rfl)) rfl ?_
  refine RD.vw 7 255 kt52 rfl kp53 (fun _ => FV.move rfl) rfl ?_
  obtain ⟨z54, hz54, h⟩ := bind_in h
  refine RD.vw 8 511 kt52 rfl kp53 (fun _ => FV.sub64 (a := a0.2.2.2.2.2.2.1) (b := a1.2.2.2.2.2.2.1) (c := z48.2) Tryz.func197 rfl (by kernel_rfl) (by kernel_rfl) (by kernel_rfl) rfl rfl rfl hz54) rfl ?_
  refine RD.vw 9 1023 kt52 rfl kp53 (fun _ => FV.move rfl) rfl ?_
  refine RD.vw 10 2047 kt52 rfl kp53 (fun _ => FV.extract rfl rfl) rfl ?_
  refine RD.vw 11 4095 kt52 rfl kp53 (fun _ => FV.extract rfl rfl) rfl ?_
  refine RD.vw 12 8191 kt52 rfl kp53 (fun _ => FV.indexArr (m := 1) (k := 6) (len := 8) (by kernel_rfl) rfl rfl rfl (by omega)) rfl ?_
  refine RD.nw 13 16383 kt52 rfl rfl .plain (Acts.store (j := 6) (old := [.int .u64 (z18.1.toNat : Int), .int .u64 (z24.1.toNat : Int), .int .u64 (z30.1.toNat : Int), .int .u64 (z36.1.toNat : Int), .int .u64 (z42.1.toNat : Int), .int .u64 (z48.1.toNat : Int), .int .u64 (a0.2.2.2.2.2.2.1.toNat : Int), .int .u64 (a0.2.2.2.2.2.2.2.toNat : Int)]) (news := [.int .u64 (z54.1.toNat : Int)]) (new' := [.int .u64 (z18.1.toNat : Int), .int .u64 (z24.1.toNat : Int), .int .u64 (z30.1.toNat : Int), .int .u64 (z36.1.toNat : Int), .int .u64 (z42.1.toNat : Int), .int .u64 (z48.1.toNat : Int), .int .u64 (z54.1.toNat : Int), .int .u64 (a0.2.2.2.2.2.2.2.toNat : Int)]) hS50 (.tl (.tl .hd)) rfl rfl rfl rfl rfl rfl (ones_cons rfl ones_nil) rfl) (fun w55 hS56 hT57 => ?_)
  refine RD.one (i := 14) (readyD_ok kt52 (by kernel_rfl)) (RO.val (m' := 32767) (stepC_ok kt52 (by kernel_rfl)) rfl .plain rfl (FV.assign rfl) ?_)
  refine RD.done (doneD_ok kt52 (by kernel_rfl)) ?_
  refine MX.inBlock ?_
  refine MX.region ?_
  refine RG.vv (FV.add (i := 6) (j := 1) (r := 7) rfl rfl (by decide)) rfl ?_
  refine RG.mv rfl rfl ?_
  refine RG.nil ?_
  refine MX.again1 ?_
  refine MX.sr ?_
  refine RG.vv (FV.lssN (i := 7) (j := 8) rfl rfl) rfl ?_
  refine RG.nil ?_
  refine MX.seq ?_
  refine MX.cond_t rfl ?_
  refine MX.skip ?_
  refine MX.seq ?_
  refine MX.block ?_
  refine MX.sr ?_
  refine RG.mv rfl rfl ?_
  refine RG.sg rfl rfl ?_
  refine RG.nil ?_
  refine MX.drawT 13 tb212_5 (by kernel_rfl) (by kernel_rfl) (by kernel_rfl) (fun kt58 kp59 => ?_)
  refine RD.vw 0 1 kt58 rfl kp59 (fun _ => FV.move rfl) rfl ?_
  refine RD.vw 1 3 kt58 rfl kp59 (fun _ => FV.move rfl) rfl ?_
  refine RD.vw 2 7 kt58 rfl kp59 (fun _ => FV.indexArr (m := 1) (k := 7) (len := 8) (by kernel_rfl) rfl rfl rfl (by omega)) rfl ?_
  refine RD.vx 3 15 32512 kt58 rfl kp59 (FV.load1 (by kernel_rfl) rfl ((hS56.memA (.tl (.tl .hd))) 7 _ rfl)) rfl ?_
  refine RD.vw 4 31 kt58 rfl kp59 (fun _ => FV.move rfl) rfl ?_
  refine RD.vw 5 63 kt58 rfl kp59 (fun _ => FV.indexArr (m := 1) (k := 7) (len := 8) (by kernel_rfl) rfl rfl rfl (by omega)) rfl ?_
  refine RD.vx 6 127 32512 kt58 rfl kp59 (FV.load1 (by kernel_rfl) rfl ((hS56.memA (.tl .hd)) 7 _ rfl)) rfl ?_
  refine RD.vw 7 255 kt58 rfl kp59 (fun _ => FV.move rfl) rfl ?_
  obtain ⟨z60, hz60, h⟩ := bind_in h
  refine RD.vw 8 511 kt58 rfl kp59 (fun _ => FV.sub64 (a := a0.2.2.2.2.2.2.2) (b := a1.2.2.2.2.2.2.2) (c := z54.2) Tryz.func197 rfl (by kernel_rfl) (by kernel_rfl) (by kernel_rfl) rfl rfl rfl hz60) rfl ?_
  refine RD.vw 9 1023 kt58 rfl kp59 (fun _ => FV.move rfl) rfl ?_
  refine RD.vw 10 2047 kt58 rfl kp59 (fun _ => FV.extract rfl rfl) rfl ?_
  refine RD.vw 11 4095 kt58 rfl kp59 (fun _ => FV.extract rfl rfl) rfl ?_
  refine RD.vw 12 8191 kt58 rfl kp59 (fun _ => FV.indexArr (m := 1) (k := 7) (len := 8) (by kernel_rfl) rfl rfl rfl (by omega)) rfl ?_
  refine RD.nw 13 16383 kt58 rfl rfl .plain (Acts.store (j := 7) (old := [.int .u64 (z18.1.toNat : Int), .int .u64 (z24.1.toNat : Int), .int .u64 (z30.1.toNat : Int), .int .u64 (z36.1.toNat : Int), .int .u64 (z42.1.toNat : Int), .int .u64 (z48.1.toNat : Int), .int .u64 (z54.1.toNat : Int), .int .u64 (a0.2.2.2.2.2.2.2.toNat : Int)]) (news := [.int .u64 (z60.1.toNat : Int)]) (new' := [.int .u64 (z18.1.toNat : Int), .int .u64 (z24.1.toNat : Int), .int .u64 (z30.1.toNat : Int), .int .u64 (z36.1.toNat : Int), .int .u64 (z42.1.toNat : Int), .int .u64 (z48.1.toNat : Int), .int .u64 (z54.1.toNat : Int), .int .u64 (z60.1.toNat : Int)]) hS56 (.tl (.tl .hd)) rfl rfl rfl rfl rfl rfl (ones_cons rfl ones_nil) rfl) (fun w61 hS62 hT63 => ?_)
  refine RD.one (i := 14) (readyD_ok kt58 (by kernel_rfl)) (RO.val (m' := 32767) (stepC_ok kt58 (by kernel_rfl)) rfl .plain rfl (FV.assign rfl) ?_)
  refine RD.done (doneD_ok kt58 (by kernel_rfl)) ?_
  refine MX.inBlock ?_
  refine MX.region ?_
  refine RG.vv (FV.add (i := 7) (j := 1) (r := 8) rfl rfl (by decide)) rfl ?_
  refine RG.mv rfl rfl ?_
  refine RG.nil ?_
  refine MX.again1 ?_
  refine MX.sr ?_
  refine RG.vv (FV.lssN (i := 8) (j := 8) rfl rfl) rfl ?_
  refine RG.nil ?_
  refine MX.seq ?_
  refine MX.cond_f rfl ?_
  refine MX.exit rfl ?_
  refine MX.sr ?_
  refine RG.vv (FV.loadN (by kernel_rfl) rfl (hS62.memA (.tl (.tl .hd)))) rfl ?_
  refine RG.mv rfl rfl ?_
  refine RG.now .plain (Acts.storeAll (news := [.int .u64 (z18.1.toNat : Int), .int .u64 (z24.1.toNat : Int), .int .u64 (z30.1.toNat : Int), .int .u64 (z36.1.toNat : Int), .int .u64 (z42.1.toNat : Int), .int .u64 (z48.1.toNat : Int), .int .u64 (z54.1.toNat : Int), .int .u64 (z60.1.toNat : Int)]) hS62 .hd rfl rfl rfl rfl rfl rfl (onesB rfl)) (fun w64 hS65 hT66 => ?_)
  refine RG.sg rfl rfl ?_
  refine RG.nil ?_
  refine MX.ret rfl ?_
  refine RT.leave hb0 Tryz.func212 rfl (.cons (.many (cs := [.int .u64 (z18.1.toNat : Int), .int .u64 (z24.1.toNat : Int), .int .u64 (z30.1.toNat : Int), .int .u64 (z36.1.toNat : Int), .int .u64 (z42.1.toNat : Int), .int .u64 (z48.1.toNat : Int), .int .u64 (z54.1.toNat : Int), .int .u64 (z60.1.toNat : Int)]) (by kernel_rfl) rfl (hS65.memA .hd)) (.cons (.tmp rfl) .nil)) rfl ?_
  obtain rfl := Option.some.inj h
  exact ⟨hS65.ag, fun w9 hw9 => rfl⟩
def tb213_4 : List (Nat × Nat × Nat) := [(0, 1024, 32), (1, 2048, 1028), (2, 4096, 2048), (0, 8192, 32), (8, 16384, 8200), (16, 32768, 16384), (36, 65536, 36864)]
def tb213_5 : List (Nat × Nat × Nat) := [(0, 131072, 32), (1, 262144, 131076), (2, 524288, 262144), (0, 1048576, 32), (8, 2097152, 1048584), (16, 4194304, 2097152), (36, 8388608, 4718592)]
def wide_Size_order_l1 (_n : Nat) (a0 : UInt64 × UInt64 × UInt64 × UInt64 × UInt64 × UInt64 × UInt64 × UInt64) (a1 : UInt64 × UInt64 × UInt64 × UInt64 × UInt64 × UInt64 × UInt64 × UInt64) (J59 : Int → Option (Int ⊕ Unit)) : Int → Option (Int ⊕ Unit)
  | z51 => (if 0 ≤ z51 then (idx ([a0.1, a0.2.1, a0.2.2.1, a0.2.2.2.1, a0.2.2.2.2.1, a0.2.2.2.2.2.1, a0.2.2.2.2.2.2.1, a0.2.2.2.2.2.2.2] : List UInt64) z51).bind fun z64 => (idx ([a1.1, a1.2.1, a1.2.2.1, a1.2.2.2.1, a1.2.2.2.2.1, a1.2.2.2.2.2.1, a1.2.2.2.2.2.2.1, a1.2.2.2.2.2.2.2] : List UInt64) z51).bind fun z68 => (if z64 = z68 then (chk (z51 - 1)).bind fun s73 => J59 s73 else (if z64 < z68 then some (.inl (-1 : Int)) else some (.inl (1 : Int)))) else some (.inr ()))
def wide_Size_order_p (n : Nat) (a0 : UInt64 × UInt64 × UInt64 × UInt64 × UInt64 × UInt64 × UInt64 × UInt64) (a1 : UInt64 × UInt64 × UInt64 × UInt64 × UInt64 × UInt64 × UInt64 × UInt64) : Option Int :=
  thn (loopF (wide_Size_order_l1 n a0 a1) n 7) (fun _ => some (0 : Int))
set_option maxRecDepth 4000 in
set_option maxHeartbeats 4000000 in
theorem wide_Size_order_c (n : Nat) (L : List Nat) (w : World) (_hL : ∀ b ∈ L, b < w.heap.size) (a0 : UInt64 × UInt64 × UInt64 × UInt64 × UInt64 × UInt64 × UInt64 × UInt64) (a1 : UInt64 × UInt64 × UInt64 × UInt64 × UInt64 × UInt64 × UInt64 × UInt64)  {r : Int} (h : wide_Size_order_p n a0 a1 = some r) :
    Calls Tryz.prog 213 #[.agg ((cs_A34 a0)).toArray, .agg ((cs_A34 a1)).toArray] w (Gives w fun _ u => u = .int .i64 r) := by
  unfold wide_Size_order_p at h
  have hS0 := St.start w
  refine MX.start Tryz.func213 rfl rfl rfl (fun _ cs0 hb0 => ?_)
  refine MX.sr ?_
  refine RG.new .plain rfl (Does.box (vs := (cs_A34 a0)) hS0 rfl rfl) (fun w2 b5 hS3 hT4 => ?_)
  refine RG.new .plain rfl (Does.box (vs := (cs_A34 a1)) hS3 rfl rfl) (fun w7 b10 hS8 hT9 => ?_)
  refine RG.sg rfl rfl ?_
  refine RG.nil ?_
  refine MX.seq ?_
  refine MX.sr ?_
  refine RG.sg rfl rfl ?_
  refine RG.nil ?_
  refine MX.block ?_
  obtain ⟨o57, ho56, hh58⟩ := thn_in h
  refine MX.loop (α := Int) (fun z51 => [(2, .pointer (some ⟨b5, 0, none⟩)), (3, .pointer (some ⟨b10, 0, none⟩)), (5, .int .i64 z51)]) (fun z51 wx51 => St w wx51 [.cells b10 (cs_A34 a1) 215, .cells b5 (cs_A34 a0) 215] ∧ Tr w7 [.cells b10 (cs_A34 a1) 215, .cells b5 (cs_A34 a0) 215] wx51 [.cells b10 (cs_A34 a1) 215, .cells b5 (cs_A34 a0) 215]) (fun z51 => z51) 7 ho56 ⟨rfl, rfl, rfl, trivial⟩ ⟨hS8, Tr.refl _ _⟩ ?_
  rintro J59 z51 wx51 hJ60 ⟨hS52, hT53⟩ h
  unfold wide_Size_order_l1 at h
  try dsimp only at h
  refine MX.seq ?_
  refine MX.sr ?_
  refine RG.mv rfl rfl ?_
  refine RG.vv (FV.geq (i := z51) (j := 0) rfl rfl) rfl ?_
  refine RG.nil ?_
  refine MX.ifd rfl h (fun c61 h => ?_) (fun c61 h => ?_)
  ·skip
   refine MX.skip ?_
   refine MX.seq ?_
   refine MX.block ?_
   refine MX.seq ?_
   refine MX.drawT 7 tb213_4 (by kernel_rfl) (by kernel_rfl) (by kernel_rfl) (fun kt62 kp63 => ?_)
   refine RD.vw 0 1 kt62 rfl kp63 (fun _ => FV.move rfl) rfl ?_
   obtain ⟨z64, hz64, h⟩ := bind_in h
   obtain ⟨hi65, hx66⟩ := idx_in hz64
   have hm67 := mem_elem1 (p := ⟨b5, 0, none⟩) (cs := ([a0.1, a0.2.1, a0.2.2.1, a0.2.2.2.1, a0.2.2.2.2.1, a0.2.2.2.2.2.1, a0.2.2.2.2.2.2.1, a0.2.2.2.2.2.2.2] : List UInt64).map (fun z9 : UInt64 => (.int .u64 (z9.toNat : Int) : Value)) ++ []) (i := z51.toNat) (hS52.memA (.tl .hd)) (arr_get (fun z9 : UInt64 => (.int .u64 (z9.toNat : Int) : Value)) hx66)
   refine RD.vw 1 3 kt62 rfl kp63 (fun _ => FV.indexArr (m := 1) (k := z51.toNat) (len := 8) (by kernel_rfl) rfl rfl hi65 (arr_lt hx66 rfl)) rfl ?_
   refine RD.vx 2 7 64 kt62 rfl kp63 (FV.load1 (by kernel_rfl) rfl (hm67 0 _ rfl)) rfl ?_
   refine RD.vw 3 15 kt62 rfl kp63 (fun _ => FV.move rfl) rfl ?_
   obtain ⟨z68, hz68, h⟩ := bind_in h
   obtain ⟨hi69, hx70⟩ := idx_in hz68
   have hm71 := mem_elem1 (p := ⟨b10, 0, none⟩) (cs := ([a1.1, a1.2.1, a1.2.2.1, a1.2.2.2.1, a1.2.2.2.2.1, a1.2.2.2.2.2.1, a1.2.2.2.2.2.2.1, a1.2.2.2.2.2.2.2] : List UInt64).map (fun z9 : UInt64 => (.int .u64 (z9.toNat : Int) : Value)) ++ []) (i := z51.toNat) (hS52.memA .hd) (arr_get (fun z9 : UInt64 => (.int .u64 (z9.toNat : Int) : Value)) hx70)
   refine RD.vw 4 31 kt62 rfl kp63 (fun _ => FV.indexArr (m := 1) (k := z51.toNat) (len := 8) (by kernel_rfl) rfl rfl hi69 (arr_lt hx70 rfl)) rfl ?_
   refine RD.vx 5 63 64 kt62 rfl kp63 (FV.load1 (by kernel_rfl) rfl (hm71 0 _ rfl)) rfl ?_
   refine RD.vw 6 127 kt62 rfl kp63 (fun _ => FV.neqU (a := z64) (b := z68) rfl rfl) rfl ?_
   refine RD.done (doneD_ok kt62 (by kernel_rfl)) ?_
   refine MX.ifn rfl h (fun c72 h => ?_) (fun c72 h => ?_)
   ·skip
    refine MX.skip ?_
    refine MX.inBlock ?_
    refine MX.region ?_
    refine RG.mv rfl rfl ?_
    obtain ⟨s73, hs73, h⟩ := bind_in h
    refine RG.vv (FV.subc (i := z51) (j := 1) rfl rfl hs73) rfl ?_
    refine RG.sg rfl rfl ?_
    refine RG.nil ?_
    exact hJ60 s73 _ _ ⟨rfl, rfl, rfl, trivial⟩ ⟨hS52, hT53⟩ h
   refine MX.seq ?_
   refine MX.seq ?_
   refine MX.drawT 7 tb213_5 (by kernel_rfl) (by kernel_rfl) (by kernel_rfl) (fun kt74 kp75 => ?_)
   refine RD.vw 0 1 kt74 rfl kp75 (fun _ => FV.move rfl) rfl ?_
   have hm76 := mem_elem1 (p := ⟨b5, 0, none⟩) (cs := ([a0.1, a0.2.1, a0.2.2.1, a0.2.2.2.1, a0.2.2.2.2.1, a0.2.2.2.2.2.1, a0.2.2.2.2.2.2.1, a0.2.2.2.2.2.2.2] : List UInt64).map (fun z9 : UInt64 => (.int .u64 (z9.toNat : Int) : Value)) ++ []) (i := z51.toNat) (hS52.memA (.tl .hd)) (arr_get (fun z9 : UInt64 => (.int .u64 (z9.toNat : Int) : Value)) hx66)
   refine RD.vw 1 3 kt74 rfl kp75 (fun _ => FV.indexArr (m := 1) (k := z51.toNat) (len := 8) (by kernel_rfl) rfl rfl hi65 (arr_lt hx66 rfl)) rfl ?_
   refine RD.vx 2 7 64 kt74 rfl kp75 (FV.load1 (by kernel_rfl) rfl (hm76 0 _ rfl)) rfl ?_
   refine RD.vw 3 15 kt74 rfl kp75 (fun _ => FV.move rfl) rfl ?_
   have hm77 := mem_elem1 (p := ⟨b10, 0, none⟩) (cs := ([a1.1, a1.2.1, a1.2.2.1, a1.2.2.2.1, a1.2.2.2.2.1, a1.2.2.2.2.2.1, a1.2.2.2.2.2.2.1, a1.2.2.2.2.2.2.2] : List UInt64).map (fun z9 : UInt64 => (.int .u64 (z9.toNat : Int) : Value)) ++ []) (i := z51.toNat) (hS52.memA .hd) (arr_get (fun z9 : UInt64 => (.int .u64 (z9.toNat : Int) : Value)) hx70)
   refine RD.vw 4 31 kt74 rfl kp75 (fun _ => FV.indexArr (m := 1) (k := z51.toNat) (len := 8) (by kernel_rfl) rfl rfl hi69 (arr_lt hx70 rfl)) rfl ?_
   refine RD.vx 5 63 64 kt74 rfl kp75 (FV.load1 (by kernel_rfl) rfl (hm77 0 _ rfl)) rfl ?_
   refine RD.vw 6 127 kt74 rfl kp75 (fun _ => FV.lssU (a := z64) (b := z68) rfl rfl) rfl ?_
   refine RD.done (doneD_ok kt74 (by kernel_rfl)) ?_
   refine MX.ifd rfl h (fun c78 h => ?_) (fun c78 h => ?_)
   ·skip
    refine MX.sr ?_
    refine RG.sg rfl rfl ?_
    refine RG.nil ?_
    have h := thn_inl h hh58
    refine MX.ret rfl ?_
    refine RT.leave hb0 Tryz.func213 rfl (.cons (.tmp rfl) .nil) rfl ?_
    obtain rfl := Option.some.inj h
    exact ⟨hS52.ag, fun w9 hw9 => rfl⟩
   refine MX.skip ?_
   refine MX.sr ?_
   refine RG.sg rfl rfl ?_
   refine RG.nil ?_
   have h := thn_inl h hh58
   refine MX.ret rfl ?_
   refine RT.leave hb0 Tryz.func213 rfl (.cons (.tmp rfl) .nil) rfl ?_
   obtain rfl := Option.some.inj h
   exact ⟨hS52.ag, fun w9 hw9 => rfl⟩
  refine MX.exit rfl ?_
  have h := thn_inr h hh58
  try dsimp only at h
  refine MX.sr ?_
  refine RG.sg rfl rfl ?_
  refine RG.nil ?_
  refine MX.ret rfl ?_
  refine RT.leave hb0 Tryz.func213 rfl (.cons (.tmp rfl) .nil) rfl ?_
  obtain rfl := Option.some.inj h
  exact ⟨hS52.ag, fun w9 hw9 => rfl⟩
structure TNumber where
  fBelow : Bool
  fSize : UInt64 × UInt64 × UInt64 × UInt64 × UInt64 × UInt64 × UInt64 × UInt64
  deriving DecidableEq
instance : Rep TNumber := Rep.via (β := Bool × (UInt64 × UInt64 × UInt64 × UInt64 × UInt64 × UInt64 × UInt64 × UInt64)) fun x => (x.fBelow, x.fSize)
def cs_TNumber (x : TNumber) : List Value := [.bool x.fBelow, .int .u64 (x.fSize.1.toNat : Int), .int .u64 (x.fSize.2.1.toNat : Int), .int .u64 (x.fSize.2.2.1.toNat : Int), .int .u64 (x.fSize.2.2.2.1.toNat : Int), .int .u64 (x.fSize.2.2.2.2.1.toNat : Int), .int .u64 (x.fSize.2.2.2.2.2.1.toNat : Int), .int .u64 (x.fSize.2.2.2.2.2.2.1.toNat : Int), .int .u64 (x.fSize.2.2.2.2.2.2.2.toNat : Int)]
theorem body212 : bodyB Tryz.prog 212 = true := by kernel_rfl
theorem body213 : bodyB Tryz.prog 213 = true := by kernel_rfl
def wide_Number_Told_p (n : Nat) (a0 : TNumber) : Option ((UInt64 × UInt64 × UInt64 × UInt64 × UInt64 × UInt64 × UInt64 × UInt64) × Int) :=
  (wide_Size_order_p n a0.fSize ((0 : UInt64), (0 : UInt64), (0 : UInt64), (0 : UInt64), (0 : UInt64), (0 : UInt64), (0 : UInt64), (9223372036854775808 : UInt64))).bind fun y19 => (if 0 < y19 then some (((0 : UInt64), (0 : UInt64), (0 : UInt64), (0 : UInt64), (0 : UInt64), (0 : UInt64), (0 : UInt64), (0 : UInt64)), (6 : Int)) else (if y19 = 0 then (if a0.fBelow = true then (wide_Size_minus_p n ((0 : UInt64), (0 : UInt64), (0 : UInt64), (0 : UInt64), (0 : UInt64), (0 : UInt64), (0 : UInt64), (0 : UInt64)) a0.fSize).bind fun y26 => some (y26.1, (0 : Int)) else some (((0 : UInt64), (0 : UInt64), (0 : UInt64), (0 : UInt64), (0 : UInt64), (0 : UInt64), (0 : UInt64), (0 : UInt64)), (6 : Int))) else (if a0.fBelow = true then (wide_Size_minus_p n ((0 : UInt64), (0 : UInt64), (0 : UInt64), (0 : UInt64), (0 : UInt64), (0 : UInt64), (0 : UInt64), (0 : UInt64)) a0.fSize).bind fun y37 => some (y37.1, (0 : Int)) else some (a0.fSize, (0 : Int)))))
set_option maxRecDepth 4000 in
set_option maxHeartbeats 4000000 in
theorem wide_Number_Told_c (n : Nat) (L : List Nat) (w : World) (hL : ∀ b ∈ L, b < w.heap.size) (a0 : TNumber)  {r : (UInt64 × UInt64 × UInt64 × UInt64 × UInt64 × UInt64 × UInt64 × UInt64) × Int} (h : wide_Number_Told_p n a0 = some r) :
    Calls Tryz.prog 193 #[.agg ((cs_TNumber a0)).toArray] w (Gives w fun _ u => u = .tuple #[.agg ((cs_A34 r.1)).toArray, .int .i64 r.2]) := by
  unfold wide_Number_Told_p at h
  have hS0 := St.start w
  refine MX.start Tryz.func193 rfl rfl rfl (fun _ cs0 hb0 => ?_)
  refine MX.sr ?_
  refine RG.new .plain rfl (Does.box (vs := (cs_TNumber a0)) hS0 rfl rfl) (fun w2 b5 hS3 hT4 => ?_)
  refine RG.new .plain rfl (Does.alloc (zs := [.int .u64 0, .int .u64 0, .int .u64 0, .int .u64 0, .int .u64 0, .int .u64 0, .int .u64 0, .int .u64 0]) hS3 (zB (by kernel_rfl))) (fun w7 b10 hS8 hT9 => ?_)
  refine RG.sg rfl rfl ?_
  refine RG.nil ?_
  refine MX.sr ?_
  refine RG.vv (FV.buildV (vs := [.int .u64 9223372036854775808]) (u := .agg #[.int .u64 0, .int .u64 0, .int .u64 0, .int .u64 0, .int .u64 0, .int .u64 0, .int .u64 0, .int .u64 9223372036854775808]) (evs_cons rfl evs_nil) (fun w9 => by kernel_rfl)) rfl ?_
  refine RG.new .plain rfl (Does.alloc (zs := [.int .u64 0, .int .u64 0, .int .u64 0, .int .u64 0, .int .u64 0, .int .u64 0, .int .u64 0, .int .u64 0]) hS8 (zB (by kernel_rfl))) (fun w12 b15 hS13 hT14 => ?_)
  refine RG.now .plain (Acts.storeAll (news := [.int .u64 0, .int .u64 0, .int .u64 0, .int .u64 0, .int .u64 0, .int .u64 0, .int .u64 0, .int .u64 9223372036854775808]) hS13 .hd rfl rfl rfl rfl rfl rfl (onesB rfl)) (fun w16 hS17 hT18 => ?_)
  refine RG.nil ?_
  refine MX.seq ?_
  refine MX.sr ?_
  refine RG.vv (FV.fieldAddr (off := 1) (by kernel_rfl) rfl) rfl ?_
  refine RG.vv (FV.loadN (cs := (cs_A34 a0.fSize)) (by kernel_rfl) rfl (mem_part (hS17.memA (.tl (.tl .hd))) 1 8)) rfl ?_
  refine RG.vv (FV.loadN (by kernel_rfl) rfl (hS17.memA .hd)) rfl ?_
  obtain ⟨y19, hy19, h⟩ := bind_in h
  refine RG.cq (.int .i64 y19) body213 rfl (evs_cons rfl (evs_cons rfl evs_nil)) (fun w9 hw9 => wide_Size_order_c n _ w9 (hS17.hL0 hL hw9) a0.fSize ((0 : UInt64), (0 : UInt64), (0 : UInt64), (0 : UInt64), (0 : UInt64), (0 : UInt64), (0 : UInt64), (9223372036854775808 : UInt64)) hy19) rfl ?_
  refine RG.sg rfl rfl ?_
  refine RG.nil ?_
  refine MX.sr ?_
  refine RG.mv rfl rfl ?_
  refine RG.vv (FV.gtr (i := y19) (j := 0) rfl rfl) rfl ?_
  refine RG.mv rfl rfl ?_
  refine RG.ifd (s := 13) rfl h (fun c20 h => ?_) (fun c20 h => ?_)
  ·skip
   refine RG.off (.no rfl rfl) rfl ?_
   refine RG.off (.no rfl rfl) rfl ?_
   refine RG.off (.no rfl rfl) rfl ?_
   refine RG.off (.undef rfl rfl) rfl ?_
   refine RG.off (.undef rfl rfl) rfl ?_
   refine RG.off (.undef rfl rfl) rfl ?_
   refine RG.off (.no rfl rfl) rfl ?_
   refine RG.vv (FV.pick_t rfl rfl) rfl ?_
   refine RG.nil ?_
   refine MX.cond_t rfl ?_
   refine MX.sr ?_
   refine RG.vv (FV.buildV (vs := []) (u := .agg #[.int .u64 0, .int .u64 0, .int .u64 0, .int .u64 0, .int .u64 0, .int .u64 0, .int .u64 0, .int .u64 0]) evs_nil (fun w9 => by kernel_rfl)) rfl ?_
   refine RG.now .plain (Acts.storeAll (news := [.int .u64 0, .int .u64 0, .int .u64 0, .int .u64 0, .int .u64 0, .int .u64 0, .int .u64 0, .int .u64 0]) hS17 (.tl .hd) rfl rfl rfl rfl rfl rfl (onesB rfl)) (fun w21 hS22 hT23 => ?_)
   refine RG.sg rfl rfl ?_
   refine RG.nil ?_
   refine MX.ret rfl ?_
   refine RT.leave hb0 Tryz.func193 rfl (.cons (.many (cs := [.int .u64 0, .int .u64 0, .int .u64 0, .int .u64 0, .int .u64 0, .int .u64 0, .int .u64 0, .int .u64 0]) (by kernel_rfl) rfl (hS22.memA (.tl .hd))) (.cons (.tmp rfl) .nil)) rfl ?_
   obtain rfl := Option.some.inj h
   exact ⟨hS22.ag, fun w9 hw9 => rfl⟩
  refine RG.val' (.yes rfl rfl) (FV.move rfl) rfl ?_
  refine RG.val' (.yes rfl rfl) (FV.eql (i := y19) (j := 0) rfl rfl) rfl ?_
  refine RG.val' (.yes rfl rfl) (FV.move rfl) rfl ?_
  refine RG.ifd (s := 16) rfl h (fun c24 h => ?_) (fun c24 h => ?_)
  ·skip
   refine RG.val' (.yes rfl rfl) (FV.fieldAddr (off := 0) (by kernel_rfl) rfl) rfl ?_
   refine RG.val' (.yes rfl rfl) (FV.load1 (by kernel_rfl) rfl ((hS17.memA (.tl (.tl .hd))) 0 _ rfl)) rfl ?_
   refine RG.val' (.yes rfl rfl) (FV.not rfl) rfl ?_
   refine RG.val' (.yes rfl rfl) (FV.pick_t rfl rfl) rfl ?_
   refine RG.vv (FV.pick_f rfl rfl) rfl ?_
   refine RG.nil ?_
   refine MX.ifnb rfl h (fun c25 h => ?_) (fun c25 h => ?_)
   ·skip
    refine MX.skip ?_
    refine MX.seq ?_
    refine MX.sr ?_
    refine RG.vv (FV.fieldAddr (off := 0) (by kernel_rfl) rfl) rfl ?_
    refine RG.vv (FV.load1 (by kernel_rfl) rfl ((hS17.memA (.tl (.tl .hd))) 0 _ rfl)) rfl ?_
    refine RG.nil ?_
    refine MX.cond_kt rfl c25 ?_
    refine MX.region ?_
    refine RG.vv (FV.buildV (vs := []) (u := .agg #[.int .u64 0, .int .u64 0, .int .u64 0, .int .u64 0, .int .u64 0, .int .u64 0, .int .u64 0, .int .u64 0]) evs_nil (fun w9 => by kernel_rfl)) rfl ?_
    refine RG.vv (FV.fieldAddr (off := 1) (by kernel_rfl) rfl) rfl ?_
    refine RG.vv (FV.loadN (cs := (cs_A34 a0.fSize)) (by kernel_rfl) rfl (mem_part (hS17.memA (.tl (.tl .hd))) 1 8)) rfl ?_
    obtain ⟨y26, hy26, h⟩ := bind_in h
    refine RG.cq (.tuple #[.agg ((cs_A34 y26.1)).toArray, .int .u64 (y26.2.toNat : Int)]) body212 rfl (evs_cons rfl (evs_cons rfl evs_nil)) (fun w9 hw9 => wide_Size_minus_c n _ w9 (hS17.hL0 hL hw9) ((0 : UInt64), (0 : UInt64), (0 : UInt64), (0 : UInt64), (0 : UInt64), (0 : UInt64), (0 : UInt64), (0 : UInt64)) a0.fSize hy26) rfl ?_
    refine RG.mv rfl rfl ?_
    refine RG.vv (FV.extract rfl rfl) rfl ?_
    refine RG.vv (FV.extract rfl rfl) rfl ?_
    refine RG.vv (FV.fieldAddr (off := 1) (by kernel_rfl) rfl) rfl ?_
    refine RG.now .plain (Acts.store (j := 1) (old := (cs_TNumber a0)) (news := (cs_A34 y26.1)) (new' := (([.bool a0.fBelow] : List Value) ++ cs_A34 y26.1)) hS17 (.tl (.tl .hd)) rfl rfl rfl rfl rfl rfl (onesB rfl) rfl) (fun w27 hS28 hT29 => ?_)
    refine RG.nil ?_
    refine MX.sr ?_
    refine RG.vv (FV.fieldAddr (off := 1) (by kernel_rfl) rfl) rfl ?_
    refine RG.vv (FV.loadN (cs := (cs_A34 y26.1)) (by kernel_rfl) rfl (mem_part (hS28.memA (.tl (.tl .hd))) 1 8)) rfl ?_
    refine RG.now .plain (Acts.storeAll (news := (cs_A34 y26.1)) hS28 (.tl .hd) rfl rfl rfl rfl rfl rfl (onesB rfl)) (fun w30 hS31 hT32 => ?_)
    refine RG.sg rfl rfl ?_
    refine RG.nil ?_
    refine MX.ret rfl ?_
    refine RT.leave hb0 Tryz.func193 rfl (.cons (.many (cs := (cs_A34 y26.1)) (by kernel_rfl) rfl (hS31.memA (.tl .hd))) (.cons (.tmp rfl) .nil)) rfl ?_
    obtain rfl := Option.some.inj h
    exact ⟨hS31.ag, fun w9 hw9 => rfl⟩
   refine MX.sr ?_
   refine RG.vv (FV.buildV (vs := []) (u := .agg #[.int .u64 0, .int .u64 0, .int .u64 0, .int .u64 0, .int .u64 0, .int .u64 0, .int .u64 0, .int .u64 0]) evs_nil (fun w9 => by kernel_rfl)) rfl ?_
   refine RG.now .plain (Acts.storeAll (news := [.int .u64 0, .int .u64 0, .int .u64 0, .int .u64 0, .int .u64 0, .int .u64 0, .int .u64 0, .int .u64 0]) hS17 (.tl .hd) rfl rfl rfl rfl rfl rfl (onesB rfl)) (fun w33 hS34 hT35 => ?_)
   refine RG.sg rfl rfl ?_
   refine RG.nil ?_
   refine MX.ret rfl ?_
   refine RT.leave hb0 Tryz.func193 rfl (.cons (.many (cs := [.int .u64 0, .int .u64 0, .int .u64 0, .int .u64 0, .int .u64 0, .int .u64 0, .int .u64 0, .int .u64 0]) (by kernel_rfl) rfl (hS34.memA (.tl .hd))) (.cons (.tmp rfl) .nil)) rfl ?_
   obtain rfl := Option.some.inj h
   exact ⟨hS34.ag, fun w9 hw9 => rfl⟩
  refine RG.off (.no rfl rfl) rfl ?_
  refine RG.off (.no rfl rfl) rfl ?_
  refine RG.off (.no rfl rfl) rfl ?_
  refine RG.val' (.yes rfl rfl) (FV.pick_f rfl rfl) rfl ?_
  refine RG.vv (FV.pick_f rfl rfl) rfl ?_
  refine RG.nil ?_
  refine MX.cond_f rfl ?_
  refine MX.skip ?_
  refine MX.seq ?_
  refine MX.sr ?_
  refine RG.vv (FV.fieldAddr (off := 0) (by kernel_rfl) rfl) rfl ?_
  refine RG.vv (FV.load1 (by kernel_rfl) rfl ((hS17.memA (.tl (.tl .hd))) 0 _ rfl)) rfl ?_
  refine RG.nil ?_
  refine MX.ifb rfl h (fun c36 h => ?_) (fun c36 h => ?_)
  ·skip
   refine MX.region ?_
   refine RG.vv (FV.buildV (vs := []) (u := .agg #[.int .u64 0, .int .u64 0, .int .u64 0, .int .u64 0, .int .u64 0, .int .u64 0, .int .u64 0, .int .u64 0]) evs_nil (fun w9 => by kernel_rfl)) rfl ?_
   refine RG.vv (FV.fieldAddr (off := 1) (by kernel_rfl) rfl) rfl ?_
   refine RG.vv (FV.loadN (cs := (cs_A34 a0.fSize)) (by kernel_rfl) rfl (mem_part (hS17.memA (.tl (.tl .hd))) 1 8)) rfl ?_
   obtain ⟨y37, hy37, h⟩ := bind_in h
   refine RG.cq (.tuple #[.agg ((cs_A34 y37.1)).toArray, .int .u64 (y37.2.toNat : Int)]) body212 rfl (evs_cons rfl (evs_cons rfl evs_nil)) (fun w9 hw9 => wide_Size_minus_c n _ w9 (hS17.hL0 hL hw9) ((0 : UInt64), (0 : UInt64), (0 : UInt64), (0 : UInt64), (0 : UInt64), (0 : UInt64), (0 : UInt64), (0 : UInt64)) a0.fSize hy37) rfl ?_
   refine RG.mv rfl rfl ?_
   refine RG.vv (FV.extract rfl rfl) rfl ?_
   refine RG.vv (FV.extract rfl rfl) rfl ?_
   refine RG.vv (FV.fieldAddr (off := 1) (by kernel_rfl) rfl) rfl ?_
   refine RG.now .plain (Acts.store (j := 1) (old := (cs_TNumber a0)) (news := (cs_A34 y37.1)) (new' := (([.bool a0.fBelow] : List Value) ++ cs_A34 y37.1)) hS17 (.tl (.tl .hd)) rfl rfl rfl rfl rfl rfl (onesB rfl) rfl) (fun w38 hS39 hT40 => ?_)
   refine RG.nil ?_
   refine MX.sr ?_
   refine RG.vv (FV.fieldAddr (off := 1) (by kernel_rfl) rfl) rfl ?_
   refine RG.vv (FV.loadN (cs := (cs_A34 y37.1)) (by kernel_rfl) rfl (mem_part (hS39.memA (.tl (.tl .hd))) 1 8)) rfl ?_
   refine RG.now .plain (Acts.storeAll (news := (cs_A34 y37.1)) hS39 (.tl .hd) rfl rfl rfl rfl rfl rfl (onesB rfl)) (fun w41 hS42 hT43 => ?_)
   refine RG.sg rfl rfl ?_
   refine RG.nil ?_
   refine MX.ret rfl ?_
   refine RT.leave hb0 Tryz.func193 rfl (.cons (.many (cs := (cs_A34 y37.1)) (by kernel_rfl) rfl (hS42.memA (.tl .hd))) (.cons (.tmp rfl) .nil)) rfl ?_
   obtain rfl := Option.some.inj h
   exact ⟨hS42.ag, fun w9 hw9 => rfl⟩
  refine MX.skip ?_
  refine MX.sr ?_
  refine RG.vv (FV.fieldAddr (off := 1) (by kernel_rfl) rfl) rfl ?_
  refine RG.vv (FV.loadN (cs := (cs_A34 a0.fSize)) (by kernel_rfl) rfl (mem_part (hS17.memA (.tl (.tl .hd))) 1 8)) rfl ?_
  refine RG.now .plain (Acts.storeAll (news := (cs_A34 a0.fSize)) hS17 (.tl .hd) rfl rfl rfl rfl rfl rfl (onesB rfl)) (fun w44 hS45 hT46 => ?_)
  refine RG.sg rfl rfl ?_
  refine RG.nil ?_
  refine MX.ret rfl ?_
  refine RT.leave hb0 Tryz.func193 rfl (.cons (.many (cs := (cs_A34 a0.fSize)) (by kernel_rfl) rfl (hS45.memA (.tl .hd))) (.cons (.tmp rfl) .nil)) rfl ?_
  obtain rfl := Option.some.inj h
  exact ⟨hS45.ag, fun w9 hw9 => rfl⟩
structure TLong where
  fBelow : Bool
  fWords : List UInt64
  deriving DecidableEq
instance : Rep TLong := Rep.via (β := Bool × (List UInt64)) fun x => (x.fBelow, x.fWords)
def tb166_4 : List (Nat × Nat × Nat) := [(0, 8192, 16), (1, 16384, 8192), (0, 32768, 2), (4, 65536, 32768), (10, 131072, 81920)]
theorem body193 : bodyB Tryz.prog 193 = true := by kernel_rfl
def wide_Long_Told_p (n : Nat) (a0 : TLong) : Option ((UInt64 × UInt64 × UInt64 × UInt64 × UInt64 × UInt64 × UInt64 × UInt64) × Int) :=
  (if 8 < a0.fWords.length then some (((0 : UInt64), (0 : UInt64), (0 : UInt64), (0 : UInt64), (0 : UInt64), (0 : UInt64), (0 : UInt64), (0 : UInt64)), (6 : Int)) else (wide_Number_Told_p n (⟨a0.fBelow, (getA a0.fWords 0 (0 : UInt64), getA a0.fWords 1 (0 : UInt64), getA a0.fWords 2 (0 : UInt64), getA a0.fWords 3 (0 : UInt64), getA a0.fWords 4 (0 : UInt64), getA a0.fWords 5 (0 : UInt64), getA a0.fWords 6 (0 : UInt64), getA a0.fWords 7 (0 : UInt64))⟩ : TNumber)).bind fun y33 => some (y33.1, y33.2))
set_option maxRecDepth 4000 in
set_option maxHeartbeats 4000000 in
theorem wide_Long_Told_c (n : Nat) (L : List Nat) (w : World) (hL : ∀ b ∈ L, b < w.heap.size) (a0 : TLong) {v0_1 : Value} (h0_1 : Rep.R w L [v0_1] a0.fWords)  {r : (UInt64 × UInt64 × UInt64 × UInt64 × UInt64 × UInt64 × UInt64 × UInt64) × Int} (h : wide_Long_Told_p n a0 = some r) :
    Calls Tryz.prog 166 #[.agg #[.bool a0.fBelow, v0_1]] w (Gives w fun _ u => u = .tuple #[.agg ((cs_A34 r.1)).toArray, .int .i64 r.2]) := by
  unfold wide_Long_Told_p at h
  have hS0 := St.start w
  refine MX.start Tryz.func166 rfl rfl rfl (fun _ cs0 hb0 => ?_)
  refine MX.sr ?_
  refine RG.new .plain rfl (Does.box (vs := [.bool a0.fBelow, v0_1]) hS0 rfl rfl) (fun w2 b5 hS3 hT4 => ?_)
  refine RG.new .plain rfl (Does.alloc (zs := [.int .u64 0, .int .u64 0, .int .u64 0, .int .u64 0, .int .u64 0, .int .u64 0, .int .u64 0, .int .u64 0]) hS3 (zB (by kernel_rfl))) (fun w7 b10 hS8 hT9 => ?_)
  refine RG.sg rfl rfl ?_
  refine RG.nil ?_
  refine MX.seq ?_
  refine MX.sr ?_
  refine RG.vv (FV.fieldAddr (off := 1) (by kernel_rfl) rfl) rfl ?_
  refine RG.vv (FV.load1 (by kernel_rfl) rfl ((hS8.memA (.tl .hd)) 1 _ rfl)) rfl ?_
  have hm12 := Rep.mv h0_1 (Tr.trans hT4 hT9)
  have hl11 : a0.fWords.length ≤ 281474976710656 := Rep.lenle hm12
  refine RG.vv (FV.len (xs := a0.fWords) Tryz.underlying121 rfl hm12) rfl ?_
  refine RG.vv (FV.gtrN (i := a0.fWords.length) (j := 8) rfl rfl) rfl ?_
  refine RG.nil ?_
  refine MX.ifd rfl h (fun c13 h => ?_) (fun c13 h => ?_)
  ·skip
   refine MX.sr ?_
   refine RG.vv (FV.buildV (vs := []) (u := .agg #[.int .u64 0, .int .u64 0, .int .u64 0, .int .u64 0, .int .u64 0, .int .u64 0, .int .u64 0, .int .u64 0]) evs_nil (fun w9 => by kernel_rfl)) rfl ?_
   refine RG.now .plain (Acts.storeAll (news := [.int .u64 0, .int .u64 0, .int .u64 0, .int .u64 0, .int .u64 0, .int .u64 0, .int .u64 0, .int .u64 0]) hS8 .hd rfl rfl rfl rfl rfl rfl (onesB rfl)) (fun w14 hS15 hT16 => ?_)
   refine RG.sg rfl rfl ?_
   refine RG.nil ?_
   refine MX.ret rfl ?_
   refine RT.leave hb0 Tryz.func166 rfl (.cons (.many (cs := [.int .u64 0, .int .u64 0, .int .u64 0, .int .u64 0, .int .u64 0, .int .u64 0, .int .u64 0, .int .u64 0]) (by kernel_rfl) rfl (hS15.memA .hd)) (.cons (.tmp rfl) .nil)) rfl ?_
   obtain rfl := Option.some.inj h
   exact ⟨hS15.ag, fun w9 hw9 => rfl⟩
  refine MX.skip ?_
  refine MX.sr ?_
  refine RG.vv (FV.fieldAddr (off := 0) (by kernel_rfl) rfl) rfl ?_
  refine RG.vv (FV.load1 (by kernel_rfl) rfl ((hS8.memA (.tl .hd)) 0 _ rfl)) rfl ?_
  refine RG.vv (FV.buildV (vs := [.bool a0.fBelow]) (u := .agg #[.bool a0.fBelow, .int .u64 0, .int .u64 0, .int .u64 0, .int .u64 0, .int .u64 0, .int .u64 0, .int .u64 0, .int .u64 0]) (evs_cons rfl evs_nil) (fun w9 => by kernel_rfl)) rfl ?_
  refine RG.new .plain rfl (Does.alloc (zs := [.bool false, .int .u64 0, .int .u64 0, .int .u64 0, .int .u64 0, .int .u64 0, .int .u64 0, .int .u64 0, .int .u64 0]) hS8 (zB (by kernel_rfl))) (fun w18 b21 hS19 hT20 => ?_)
  refine RG.now .plain (Acts.storeAll (news := [.bool a0.fBelow, .int .u64 0, .int .u64 0, .int .u64 0, .int .u64 0, .int .u64 0, .int .u64 0, .int .u64 0, .int .u64 0]) hS19 .hd rfl rfl rfl rfl rfl rfl (onesB rfl)) (fun w22 hS23 hT24 => ?_)
  refine RG.nil ?_
  refine MX.seq ?_
  refine MX.drawT 4 tb166_4 (by kernel_rfl) (by kernel_rfl) (by kernel_rfl) (fun kt25 kp26 => ?_)
  refine RD.vw 0 1 kt25 rfl kp26 (fun _ => FV.fieldAddr (off := 1) (by kernel_rfl) rfl) rfl ?_
  refine RD.vx 1 3 16 kt25 rfl kp26 (FV.sliceA (len := 8) (m := 1) (p := Addr.add ⟨b21, 0, none⟩ 1) (by kernel_rfl) rfl) rfl ?_
  refine RD.vw 2 7 kt25 rfl kp26 (fun _ => FV.fieldAddr (off := 1) (by kernel_rfl) rfl) rfl ?_
  refine RD.vx 3 15 16 kt25 rfl kp26 (FV.load1 (by kernel_rfl) rfl ((hS23.memA (.tl (.tl .hd))) 1 _ rfl)) rfl ?_
  have hm32 := Rep.mv h0_1 (Tr.trans hT4 (Tr.trans hT9 (Tr.trans hT20 hT24)))
  refine RD.one (i := 4) (readyD_ok kt25 (by kernel_rfl)) (RO.doesL (m' := 31) (stepC_ok kt25 (by kernel_rfl)) rfl rfl .plain rfl (DoesL.copyArr (fun z9 : UInt64 => (.int .u64 (z9.toNat : Int) : Value)) (olds := ([(0 : UInt64), (0 : UInt64), (0 : UInt64), (0 : UInt64), (0 : UInt64), (0 : UInt64), (0 : UInt64), (0 : UInt64)] : List UInt64)) (ys := a0.fWords) (pre := [.bool a0.fBelow]) (post := []) (old := [.bool a0.fBelow, .int .u64 0, .int .u64 0, .int .u64 0, .int .u64 0, .int .u64 0, .int .u64 0, .int .u64 0, .int .u64 0]) (new' := [.bool a0.fBelow, .int .u64 ((getA a0.fWords 0 (0 : UInt64)).toNat : Int), .int .u64 ((getA a0.fWords 1 (0 : UInt64)).toNat : Int), .int .u64 ((getA a0.fWords 2 (0 : UInt64)).toNat : Int), .int .u64 ((getA a0.fWords 3 (0 : UInt64)).toNat : Int), .int .u64 ((getA a0.fWords 4 (0 : UInt64)).toNat : Int), .int .u64 ((getA a0.fWords 5 (0 : UInt64)).toNat : Int), .int .u64 ((getA a0.fWords 6 (0 : UInt64)).toNat : Int), .int .u64 ((getA a0.fWords 7 (0 : UInt64)).toNat : Int)]) rfl (fun _ _ _ _ h9 => h9) hS23 .hd (by kernel_rfl) rfl rfl rfl rfl rfl rfl rfl (Src.rep hm32)) (fun u30 w27 ⟨hu31, hS28, hT29⟩ => ?_))
  subst hu31
  refine RD.done (doneD_ok kt25 (by kernel_rfl)) ?_
  refine MX.sr ?_
  refine RG.vv (FV.loadN (by kernel_rfl) rfl (hS28.memA .hd)) rfl ?_
  obtain ⟨y33, hy33, h⟩ := bind_in h
  refine RG.cq (.tuple #[.agg ((cs_A34 y33.1)).toArray, .int .i64 y33.2]) body193 rfl (evs_cons rfl evs_nil) (fun w9 hw9 => wide_Number_Told_c n _ w9 (hS28.hL0 hL hw9) (⟨a0.fBelow, (getA a0.fWords 0 (0 : UInt64), getA a0.fWords 1 (0 : UInt64), getA a0.fWords 2 (0 : UInt64), getA a0.fWords 3 (0 : UInt64), getA a0.fWords 4 (0 : UInt64), getA a0.fWords 5 (0 : UInt64), getA a0.fWords 6 (0 : UInt64), getA a0.fWords 7 (0 : UInt64))⟩ : TNumber) hy33) rfl ?_
  refine RG.vv (FV.extract rfl rfl) rfl ?_
  refine RG.vv (FV.extract rfl rfl) rfl ?_
  refine RG.now .plain (Acts.storeAll (news := (cs_A34 y33.1)) hS28 (.tl .hd) rfl rfl rfl rfl rfl rfl (onesB rfl)) (fun w34 hS35 hT36 => ?_)
  refine RG.sg rfl rfl ?_
  refine RG.nil ?_
  refine MX.ret rfl ?_
  refine RT.leave hb0 Tryz.func166 rfl (.cons (.many (cs := (cs_A34 y33.1)) (by kernel_rfl) rfl (hS35.memA (.tl .hd))) (.cons (.tmp rfl) .nil)) rfl ?_
  obtain rfl := Option.some.inj h
  exact ⟨hS35.ag, fun w9 hw9 => rfl⟩
structure TRatio where
  fLong : TLong
  fUnder : TLong
  deriving DecidableEq
instance : Rep TRatio := Rep.via (β := TLong × TLong) fun x => (x.fLong, x.fUnder)
structure TShare where
  fN : UInt64 × UInt64 × UInt64 × UInt64 × UInt64 × UInt64 × UInt64 × UInt64
  fD : UInt64 × UInt64 × UInt64 × UInt64 × UInt64 × UInt64 × UInt64 × UInt64
  deriving DecidableEq
instance : Rep TShare := Rep.via (β := (UInt64 × UInt64 × UInt64 × UInt64 × UInt64 × UInt64 × UInt64 × UInt64) × (UInt64 × UInt64 × UInt64 × UInt64 × UInt64 × UInt64 × UInt64 × UInt64)) fun x => (x.fN, x.fD)
def cs_TShare (x : TShare) : List Value := [.int .u64 (x.fN.1.toNat : Int), .int .u64 (x.fN.2.1.toNat : Int), .int .u64 (x.fN.2.2.1.toNat : Int), .int .u64 (x.fN.2.2.2.1.toNat : Int), .int .u64 (x.fN.2.2.2.2.1.toNat : Int), .int .u64 (x.fN.2.2.2.2.2.1.toNat : Int), .int .u64 (x.fN.2.2.2.2.2.2.1.toNat : Int), .int .u64 (x.fN.2.2.2.2.2.2.2.toNat : Int), .int .u64 (x.fD.1.toNat : Int), .int .u64 (x.fD.2.1.toNat : Int), .int .u64 (x.fD.2.2.1.toNat : Int), .int .u64 (x.fD.2.2.2.1.toNat : Int), .int .u64 (x.fD.2.2.2.2.1.toNat : Int), .int .u64 (x.fD.2.2.2.2.2.1.toNat : Int), .int .u64 (x.fD.2.2.2.2.2.2.1.toNat : Int), .int .u64 (x.fD.2.2.2.2.2.2.2.toNat : Int)]
theorem body166 : bodyB Tryz.prog 166 = true := by kernel_rfl
def share_Ratio_Told_p (n : Nat) (a0 : TRatio) : Option (TShare × Int) :=
  (wide_Long_Told_p n a0.fLong).bind fun y11 => (wide_Long_Told_p n a0.fUnder).bind fun y21 => (if y11.2 = 0 then (if y21.2 = 0 then some ((⟨y11.1, y21.1⟩ : TShare), (0 : Int)) else some ((⟨((0 : UInt64), (0 : UInt64), (0 : UInt64), (0 : UInt64), (0 : UInt64), (0 : UInt64), (0 : UInt64), (0 : UInt64)), ((0 : UInt64), (0 : UInt64), (0 : UInt64), (0 : UInt64), (0 : UInt64), (0 : UInt64), (0 : UInt64), (0 : UInt64))⟩ : TShare), (6 : Int))) else some ((⟨((0 : UInt64), (0 : UInt64), (0 : UInt64), (0 : UInt64), (0 : UInt64), (0 : UInt64), (0 : UInt64), (0 : UInt64)), ((0 : UInt64), (0 : UInt64), (0 : UInt64), (0 : UInt64), (0 : UInt64), (0 : UInt64), (0 : UInt64), (0 : UInt64))⟩ : TShare), (6 : Int)))
set_option maxRecDepth 4000 in
set_option maxHeartbeats 4000000 in
theorem share_Ratio_Told_c (n : Nat) (L : List Nat) (w : World) (hL : ∀ b ∈ L, b < w.heap.size) (a0 : TRatio) {v0_1 : Value} (h0_1 : Rep.R w L [v0_1] a0.fLong.fWords) {v0_3 : Value} (h0_3 : Rep.R w L [v0_3] a0.fUnder.fWords)  {r : TShare × Int} (h : share_Ratio_Told_p n a0 = some r) :
    Calls Tryz.prog 129 #[.agg #[.bool a0.fLong.fBelow, v0_1, .bool a0.fUnder.fBelow, v0_3]] w (Gives w fun _ u => u = .tuple #[.agg ((cs_TShare r.1)).toArray, .int .i64 r.2]) := by
  unfold share_Ratio_Told_p at h
  have hS0 := St.start w
  refine MX.start Tryz.func129 rfl rfl rfl (fun _ cs0 hb0 => ?_)
  refine MX.sr ?_
  refine RG.new .plain rfl (Does.box (vs := [.bool a0.fLong.fBelow, v0_1, .bool a0.fUnder.fBelow, v0_3]) hS0 rfl rfl) (fun w2 b5 hS3 hT4 => ?_)
  refine RG.new .plain rfl (Does.alloc (zs := [.int .u64 0, .int .u64 0, .int .u64 0, .int .u64 0, .int .u64 0, .int .u64 0, .int .u64 0, .int .u64 0, .int .u64 0, .int .u64 0, .int .u64 0, .int .u64 0, .int .u64 0, .int .u64 0, .int .u64 0, .int .u64 0]) hS3 (zB (by kernel_rfl))) (fun w7 b10 hS8 hT9 => ?_)
  refine RG.sg rfl rfl ?_
  refine RG.nil ?_
  refine MX.sr ?_
  refine RG.vv (FV.fieldAddr (off := 0) (by kernel_rfl) rfl) rfl ?_
  refine RG.vv (FV.loadN (cs := [.bool a0.fLong.fBelow, v0_1]) (by kernel_rfl) rfl (mem_part (hS8.memA (.tl .hd)) 0 2)) rfl ?_
  obtain ⟨y11, hy11, h⟩ := bind_in h
  have hm12 := Rep.mv h0_1 (Tr.trans hT4 hT9)
  refine RG.cq (.tuple #[.agg ((cs_A34 y11.1)).toArray, .int .i64 y11.2]) body166 rfl (evs_cons rfl evs_nil) (fun w9 hw9 => wide_Long_Told_c n _ w9 (hS8.hL0 hL hw9) a0.fLong (Rep.keep0 (Rep.dropS hS8 hm12) hw9) hy11) rfl ?_
  refine RG.mv rfl rfl ?_
  refine RG.vv (FV.extract rfl rfl) rfl ?_
  refine RG.vv (FV.extract rfl rfl) rfl ?_
  refine RG.new .plain rfl (Does.alloc (zs := [.int .u64 0, .int .u64 0, .int .u64 0, .int .u64 0, .int .u64 0, .int .u64 0, .int .u64 0, .int .u64 0]) hS8 (zB (by kernel_rfl))) (fun w14 b17 hS15 hT16 => ?_)
  refine RG.now .plain (Acts.storeAll (news := (cs_A34 y11.1)) hS15 .hd rfl rfl rfl rfl rfl rfl (onesB rfl)) (fun w18 hS19 hT20 => ?_)
  refine RG.sg rfl rfl ?_
  refine RG.nil ?_
  refine MX.sr ?_
  refine RG.vv (FV.fieldAddr (off := 2) (by kernel_rfl) rfl) rfl ?_
  refine RG.vv (FV.loadN (cs := [.bool a0.fUnder.fBelow, v0_3]) (by kernel_rfl) rfl (mem_part (hS19.memA (.tl (.tl .hd))) 2 2)) rfl ?_
  obtain ⟨y21, hy21, h⟩ := bind_in h
  have hm22 := Rep.mv h0_3 (Tr.trans hT4 (Tr.trans hT9 (Tr.trans hT16 hT20)))
  refine RG.cq (.tuple #[.agg ((cs_A34 y21.1)).toArray, .int .i64 y21.2]) body166 rfl (evs_cons rfl evs_nil) (fun w9 hw9 => wide_Long_Told_c n _ w9 (hS19.hL0 hL hw9) a0.fUnder (Rep.keep0 (Rep.dropS hS19 hm22) hw9) hy21) rfl ?_
  refine RG.mv rfl rfl ?_
  refine RG.vv (FV.extract rfl rfl) rfl ?_
  refine RG.vv (FV.extract rfl rfl) rfl ?_
  refine RG.new .plain rfl (Does.alloc (zs := [.int .u64 0, .int .u64 0, .int .u64 0, .int .u64 0, .int .u64 0, .int .u64 0, .int .u64 0, .int .u64 0]) hS19 (zB (by kernel_rfl))) (fun w24 b27 hS25 hT26 => ?_)
  refine RG.now .plain (Acts.storeAll (news := (cs_A34 y21.1)) hS25 .hd rfl rfl rfl rfl rfl rfl (onesB rfl)) (fun w28 hS29 hT30 => ?_)
  refine RG.sg rfl rfl ?_
  refine RG.nil ?_
  refine MX.seq ?_
  refine MX.sr ?_
  refine RG.mv rfl rfl ?_
  refine RG.vv (FV.neq (i := y11.2) (j := 0) rfl rfl) rfl ?_
  refine RG.mv rfl rfl ?_
  refine RG.ifn (s := 22) rfl h (fun c31 h => ?_) (fun c31 h => ?_)
  ·skip
   refine RG.val' (.yes rfl rfl) (FV.move rfl) rfl ?_
   refine RG.val' (.yes rfl rfl) (FV.neq (i := y21.2) (j := 0) rfl rfl) rfl ?_
   refine RG.vv (FV.pick_f rfl rfl) rfl ?_
   refine RG.nil ?_
   refine MX.ifn rfl h (fun c32 h => ?_) (fun c32 h => ?_)
   ·skip
    refine MX.skip ?_
    refine MX.sr ?_
    refine RG.vv (FV.loadN (by kernel_rfl) rfl (hS29.memA (.tl .hd))) rfl ?_
    refine RG.vv (FV.loadN (by kernel_rfl) rfl (hS29.memA .hd)) rfl ?_
    refine RG.vv (FV.buildV (vs := [.agg ((cs_A34 y11.1)).toArray, .agg ((cs_A34 y21.1)).toArray]) (u := .agg ((cs_A34 y11.1 ++ cs_A34 y21.1)).toArray) (evs_cons rfl (evs_cons rfl evs_nil)) (fun w9 => by kernel_rfl)) rfl ?_
    refine RG.now .plain (Acts.storeAll (news := (cs_A34 y11.1 ++ cs_A34 y21.1)) hS29 (.tl (.tl .hd)) rfl rfl rfl rfl rfl rfl (onesB rfl)) (fun w33 hS34 hT35 => ?_)
    refine RG.sg rfl rfl ?_
    refine RG.nil ?_
    refine MX.ret rfl ?_
    refine RT.leave hb0 Tryz.func129 rfl (.cons (.many (cs := (cs_A34 y11.1 ++ cs_A34 y21.1)) (by kernel_rfl) rfl (hS34.memA (.tl (.tl .hd)))) (.cons (.tmp rfl) .nil)) rfl ?_
    obtain rfl := Option.some.inj h
    exact ⟨hS34.ag, fun w9 hw9 => rfl⟩
   refine MX.sr ?_
   refine RG.vv (FV.buildV (vs := []) (u := .agg #[.int .u64 0, .int .u64 0, .int .u64 0, .int .u64 0, .int .u64 0, .int .u64 0, .int .u64 0, .int .u64 0, .int .u64 0, .int .u64 0, .int .u64 0, .int .u64 0, .int .u64 0, .int .u64 0, .int .u64 0, .int .u64 0]) evs_nil (fun w9 => by kernel_rfl)) rfl ?_
   refine RG.now .plain (Acts.storeAll (news := [.int .u64 0, .int .u64 0, .int .u64 0, .int .u64 0, .int .u64 0, .int .u64 0, .int .u64 0, .int .u64 0, .int .u64 0, .int .u64 0, .int .u64 0, .int .u64 0, .int .u64 0, .int .u64 0, .int .u64 0, .int .u64 0]) hS29 (.tl (.tl .hd)) rfl rfl rfl rfl rfl rfl (onesB rfl)) (fun w36 hS37 hT38 => ?_)
   refine RG.sg rfl rfl ?_
   refine RG.nil ?_
   refine MX.ret rfl ?_
   refine RT.leave hb0 Tryz.func129 rfl (.cons (.many (cs := [.int .u64 0, .int .u64 0, .int .u64 0, .int .u64 0, .int .u64 0, .int .u64 0, .int .u64 0, .int .u64 0, .int .u64 0, .int .u64 0, .int .u64 0, .int .u64 0, .int .u64 0, .int .u64 0, .int .u64 0, .int .u64 0]) (by kernel_rfl) rfl (hS37.memA (.tl (.tl .hd)))) (.cons (.tmp rfl) .nil)) rfl ?_
   obtain rfl := Option.some.inj h
   exact ⟨hS37.ag, fun w9 hw9 => rfl⟩
  refine RG.off (.no rfl rfl) rfl ?_
  refine RG.off (.no rfl rfl) rfl ?_
  refine RG.vv (FV.pick_t rfl rfl) rfl ?_
  refine RG.nil ?_
  refine MX.cond_t rfl ?_
  refine MX.sr ?_
  refine RG.vv (FV.buildV (vs := []) (u := .agg #[.int .u64 0, .int .u64 0, .int .u64 0, .int .u64 0, .int .u64 0, .int .u64 0, .int .u64 0, .int .u64 0, .int .u64 0, .int .u64 0, .int .u64 0, .int .u64 0, .int .u64 0, .int .u64 0, .int .u64 0, .int .u64 0]) evs_nil (fun w9 => by kernel_rfl)) rfl ?_
  refine RG.now .plain (Acts.storeAll (news := [.int .u64 0, .int .u64 0, .int .u64 0, .int .u64 0, .int .u64 0, .int .u64 0, .int .u64 0, .int .u64 0, .int .u64 0, .int .u64 0, .int .u64 0, .int .u64 0, .int .u64 0, .int .u64 0, .int .u64 0, .int .u64 0]) hS29 (.tl (.tl .hd)) rfl rfl rfl rfl rfl rfl (onesB rfl)) (fun w39 hS40 hT41 => ?_)
  refine RG.sg rfl rfl ?_
  refine RG.nil ?_
  refine MX.ret rfl ?_
  refine RT.leave hb0 Tryz.func129 rfl (.cons (.many (cs := [.int .u64 0, .int .u64 0, .int .u64 0, .int .u64 0, .int .u64 0, .int .u64 0, .int .u64 0, .int .u64 0, .int .u64 0, .int .u64 0, .int .u64 0, .int .u64 0, .int .u64 0, .int .u64 0, .int .u64 0, .int .u64 0]) (by kernel_rfl) rfl (hS40.memA (.tl (.tl .hd)))) (.cons (.tmp rfl) .nil)) rfl ?_
  obtain rfl := Option.some.inj h
  exact ⟨hS40.ag, fun w9 hw9 => rfl⟩
theorem body129 : bodyB Tryz.prog 129 = true := by kernel_rfl
def share_told_p (n : Nat) (a0 : TRatio) (a1 : Int) : Option (TShare × Int) :=
  (if a1 = 0 then (share_Ratio_Told_p n a0).bind fun y12 => some (y12.1, y12.2) else some ((⟨((0 : UInt64), (0 : UInt64), (0 : UInt64), (0 : UInt64), (0 : UInt64), (0 : UInt64), (0 : UInt64), (0 : UInt64)), ((0 : UInt64), (0 : UInt64), (0 : UInt64), (0 : UInt64), (0 : UInt64), (0 : UInt64), (0 : UInt64), (0 : UInt64))⟩ : TShare), a1))
set_option maxRecDepth 4000 in
set_option maxHeartbeats 4000000 in
theorem share_told_c (n : Nat) (L : List Nat) (w : World) (hL : ∀ b ∈ L, b < w.heap.size) (a0 : TRatio) {v0_1 : Value} (h0_1 : Rep.R w L [v0_1] a0.fLong.fWords) {v0_3 : Value} (h0_3 : Rep.R w L [v0_3] a0.fUnder.fWords) (a1 : Int)  {r : TShare × Int} (h : share_told_p n a0 a1 = some r) :
    Calls Tryz.prog 79 #[.agg #[.bool a0.fLong.fBelow, v0_1, .bool a0.fUnder.fBelow, v0_3], .int .i64 a1] w (Gives w fun _ u => u = .tuple #[.agg ((cs_TShare r.1)).toArray, .int .i64 r.2]) := by
  unfold share_told_p at h
  have hS0 := St.start w
  refine MX.start Tryz.func79 rfl rfl rfl (fun _ cs0 hb0 => ?_)
  refine MX.sr ?_
  refine RG.new .plain rfl (Does.box (vs := [.bool a0.fLong.fBelow, v0_1, .bool a0.fUnder.fBelow, v0_3]) hS0 rfl rfl) (fun w2 b5 hS3 hT4 => ?_)
  refine RG.new .plain rfl (Does.alloc (zs := [.int .u64 0, .int .u64 0, .int .u64 0, .int .u64 0, .int .u64 0, .int .u64 0, .int .u64 0, .int .u64 0, .int .u64 0, .int .u64 0, .int .u64 0, .int .u64 0, .int .u64 0, .int .u64 0, .int .u64 0, .int .u64 0]) hS3 (zB (by kernel_rfl))) (fun w7 b10 hS8 hT9 => ?_)
  refine RG.sg rfl rfl ?_
  refine RG.nil ?_
  refine MX.seq ?_
  refine MX.sr ?_
  refine RG.mv rfl rfl ?_
  refine RG.vv (FV.neq (i := a1) (j := 0) rfl rfl) rfl ?_
  refine RG.nil ?_
  refine MX.ifn rfl h (fun c11 h => ?_) (fun c11 h => ?_)
  ·skip
   refine MX.skip ?_
   refine MX.sr ?_
   refine RG.vv (FV.loadN (by kernel_rfl) rfl (hS8.memA (.tl .hd))) rfl ?_
   obtain ⟨y12, hy12, h⟩ := bind_in h
   have hm13 := Rep.mv h0_1 (Tr.trans hT4 hT9)
   have hm14 := Rep.mv h0_3 (Tr.trans hT4 hT9)
   refine RG.cq (.tuple #[.agg ((cs_TShare y12.1)).toArray, .int .i64 y12.2]) body129 rfl (evs_cons rfl evs_nil) (fun w9 hw9 => share_Ratio_Told_c n _ w9 (hS8.hL0 hL hw9) a0 (Rep.keep0 (Rep.dropS hS8 hm13) hw9) (Rep.keep0 (Rep.dropS hS8 hm14) hw9) hy12) rfl ?_
   refine RG.vv (FV.extract rfl rfl) rfl ?_
   refine RG.vv (FV.extract rfl rfl) rfl ?_
   refine RG.now .plain (Acts.storeAll (news := (cs_TShare y12.1)) hS8 .hd rfl rfl rfl rfl rfl rfl (onesB rfl)) (fun w15 hS16 hT17 => ?_)
   refine RG.sg rfl rfl ?_
   refine RG.nil ?_
   refine MX.ret rfl ?_
   refine RT.leave hb0 Tryz.func79 rfl (.cons (.many (cs := (cs_TShare y12.1)) (by kernel_rfl) rfl (hS16.memA .hd)) (.cons (.tmp rfl) .nil)) rfl ?_
   obtain rfl := Option.some.inj h
   exact ⟨hS16.ag, fun w9 hw9 => rfl⟩
  refine MX.sr ?_
  refine RG.vv (FV.buildV (vs := []) (u := .agg #[.int .u64 0, .int .u64 0, .int .u64 0, .int .u64 0, .int .u64 0, .int .u64 0, .int .u64 0, .int .u64 0, .int .u64 0, .int .u64 0, .int .u64 0, .int .u64 0, .int .u64 0, .int .u64 0, .int .u64 0, .int .u64 0]) evs_nil (fun w9 => by kernel_rfl)) rfl ?_
  refine RG.mv rfl rfl ?_
  refine RG.now .plain (Acts.storeAll (news := [.int .u64 0, .int .u64 0, .int .u64 0, .int .u64 0, .int .u64 0, .int .u64 0, .int .u64 0, .int .u64 0, .int .u64 0, .int .u64 0, .int .u64 0, .int .u64 0, .int .u64 0, .int .u64 0, .int .u64 0, .int .u64 0]) hS8 .hd rfl rfl rfl rfl rfl rfl (onesB rfl)) (fun w18 hS19 hT20 => ?_)
  refine RG.sg rfl rfl ?_
  refine RG.nil ?_
  refine MX.ret rfl ?_
  refine RT.leave hb0 Tryz.func79 rfl (.cons (.many (cs := [.int .u64 0, .int .u64 0, .int .u64 0, .int .u64 0, .int .u64 0, .int .u64 0, .int .u64 0, .int .u64 0, .int .u64 0, .int .u64 0, .int .u64 0, .int .u64 0, .int .u64 0, .int .u64 0, .int .u64 0, .int .u64 0]) (by kernel_rfl) rfl (hS19.memA .hd)) (.cons (.tmp rfl) .nil)) rfl ?_
  obtain rfl := Option.some.inj h
  exact ⟨hS19.ag, fun w9 hw9 => rfl⟩
def wide_trimmed_l1 (_n : Nat) (a1 : List UInt64) (J191 : Int → Option Int) : Int → Option Int
  | z183 => (if 0 < z183 then (chk (z183 - 1)).bind fun s194 => (idx a1 s194).bind fun x195 => (if x195 = (0 : UInt64) then (chk (z183 - 1)).bind fun s208 => J191 s208 else some z183) else some z183)
def wide_trimmed_p (n : Nat) (a0 : Bool) (a1 : List UInt64) : Option TLong :=
  jn (fun z114 => (if a0 = true then (cut a1 0 z114).bind fun xs121 => some (⟨(decide (0 < z114)), xs121⟩ : TLong) else (cut a1 0 z114).bind fun xs132 => some (⟨false, xs132⟩ : TLong))) (fun J118 => Option.bind (loopF (wide_trimmed_l1 n a1) n ((a1.length : Nat) : Int)) (J118))
set_option maxRecDepth 4000 in
set_option maxHeartbeats 4000000 in
theorem wide_trimmed_c (n : Nat) (L : List Nat) (w : World) (_hL : ∀ b ∈ L, b < w.heap.size) (a0 : Bool) (a1 : List UInt64) {v1_0 : Value} (h1_0 : Rep.R w L [v1_0] a1)  {r : TLong} (h : wide_trimmed_p n a0 a1 = some r) :
    Calls Tryz.prog 169 #[.bool a0, v1_0] w (Gives w fun w' u => ∃ v0_1 : Value, u = .agg #[.bool r.fBelow, v0_1] ∧ Rep.R w' L [v0_1] r.fWords) := by
  unfold wide_trimmed_p at h
  have hS0 := St.start w
  refine MX.start Tryz.func169 rfl rfl rfl (fun _ cs0 hb0 => ?_)
  refine MX.sr ?_
  refine RG.new .plain rfl (Does.alloc (zs := [.bool false, .slice none 0 0]) hS0 (zB (by kernel_rfl))) (fun w2 b5 hS3 hT4 => ?_)
  refine RG.nil ?_
  refine MX.sr ?_
  refine RG.mv rfl rfl ?_
  have hm7 := Rep.mv h1_0 hT4
  have hl6 : a1.length ≤ 281474976710656 := Rep.lenle hm7
  refine RG.vv (FV.len (xs := a1) Tryz.underlying121 rfl hm7) rfl ?_
  refine RG.sg rfl rfl ?_
  refine RG.nil ?_
  refine MX.seq ?_
  refine MX.block ?_
  refine MX.joinx (α := Int) (fun z114 => [(0, .bool a0), (1, v1_0), (4, .pointer (some ⟨b5, 0, none⟩)), (5, .int .i64 z114)]) (fun z114 wx114 => St w wx114 [.cells b5 [.bool false, .slice none 0 0] 123] ∧ Tr w2 [.cells b5 [.bool false, .slice none 0 0] 123] wx114 [.cells b5 [.bool false, .slice none 0 0] 123]) (fun z114 => z114) (id := 0) rfl h ?_ ?_
  ·skip
   rintro z114 wx114 ⟨hS115, hT116⟩ h
   try dsimp only at h
   refine MX.sr ?_
   refine RG.mv rfl rfl ?_
   refine RG.mv rfl rfl ?_
   refine RG.ifb (s := 21) rfl h (fun c120 h => ?_) (fun c120 h => ?_)
   ·skip
    refine RG.val' (.yes rfl rfl) (FV.move rfl) rfl ?_
    refine RG.val' (.yes rfl rfl) (FV.gtr (i := z114) (j := 0) rfl rfl) rfl ?_
    refine RG.vv (FV.pick_t rfl rfl) rfl ?_
    refine RG.mv rfl rfl ?_
    refine RG.mv rfl rfl ?_
    obtain ⟨xs121, hxs121, h⟩ := bind_in h
    have hm124 := Rep.mv h1_0 (Tr.trans hT4 hT116)
    refine RG.valE .plain rfl (FV.cutL (α := UInt64) hxs121 (by kernel_rfl) rfl hm124 rfl ⟨_, rfl⟩) (fun v122 hr123 => ?_)
    obtain ⟨A125, c126, hv127, _⟩ := Rep.sl hr123
    refine RG.vv (FV.buildV (vs := [.bool (decide (0 < z114)), v122]) (u := .agg #[.bool (decide (0 < z114)), v122]) (evs_cons rfl (evs_cons rfl evs_nil)) (fun w9 => by rw [hv127]; try kernel_rfl)) rfl ?_
    refine RG.now .plain (Acts.storeAll (news := [.bool (decide (0 < z114)), v122]) hS115 .hd rfl rfl rfl rfl rfl rfl (ones_cons rfl (ones_cons (Rep.o1 hr123) ones_nil))) (fun w128 hS129 hT130 => ?_)
    refine RG.nil ?_
    refine MX.ret rfl ?_
    refine RT.leave hb0 Tryz.func169 rfl (.cons (.many (cs := [.bool (decide (0 < z114)), v122]) (by kernel_rfl) rfl (hS129.memA .hd)) .nil) rfl ?_
    obtain rfl := Option.some.inj h
    have hm131 := Rep.mv hr123 hT130
    exact ⟨hS129.ag, fun w9 hw9 => ⟨v122, rfl, Rep.keep0 (Rep.dropS hS129 hm131) hw9⟩⟩
   refine RG.off (.no rfl rfl) rfl ?_
   refine RG.off (.no rfl rfl) rfl ?_
   refine RG.vv (FV.pick_f rfl rfl) rfl ?_
   refine RG.mv rfl rfl ?_
   refine RG.mv rfl rfl ?_
   obtain ⟨xs132, hxs132, h⟩ := bind_in h
   have hm135 := Rep.mv h1_0 (Tr.trans hT4 hT116)
   refine RG.valE .plain rfl (FV.cutL (α := UInt64) hxs132 (by kernel_rfl) rfl hm135 rfl ⟨_, rfl⟩) (fun v133 hr134 => ?_)
   obtain ⟨A136, c137, hv138, _⟩ := Rep.sl hr134
   refine RG.vv (FV.buildV (vs := [.bool false, v133]) (u := .agg #[.bool false, v133]) (evs_cons rfl (evs_cons rfl evs_nil)) (fun w9 => by rw [hv138]; try kernel_rfl)) rfl ?_
   refine RG.now .plain (Acts.storeAll (news := [.bool false, v133]) hS115 .hd rfl rfl rfl rfl rfl rfl (ones_cons rfl (ones_cons (Rep.o1 hr134) ones_nil))) (fun w139 hS140 hT141 => ?_)
   refine RG.nil ?_
   refine MX.ret rfl ?_
   refine RT.leave hb0 Tryz.func169 rfl (.cons (.many (cs := [.bool false, v133]) (by kernel_rfl) rfl (hS140.memA .hd)) .nil) rfl ?_
   obtain rfl := Option.some.inj h
   have hm142 := Rep.mv hr134 hT141
   exact ⟨hS140.ag, fun w9 hw9 => ⟨v133, rfl, Rep.keep0 (Rep.dropS hS140 hm142) hw9⟩⟩
  ·skip
   intro J118 hJ119 h
   try dsimp only at h
   obtain ⟨o189, ho188, hh190⟩ := bind_in2 h
   refine MX.loop (α := Int) (fun z183 => [(0, .bool a0), (1, v1_0), (4, .pointer (some ⟨b5, 0, none⟩)), (5, .int .i64 z183)]) (fun z183 wx183 => St w wx183 [.cells b5 [.bool false, .slice none 0 0] 123] ∧ Tr w2 [.cells b5 [.bool false, .slice none 0 0] 123] wx183 [.cells b5 [.bool false, .slice none 0 0] 123]) (fun z183 => z183) ((a1.length : Nat) : Int) ho188 ⟨rfl, rfl, rfl, rfl, trivial⟩ ⟨hS3, Tr.refl _ _⟩ ?_
   rintro J191 z183 wx183 hJ192 ⟨hS184, hT185⟩ h
   unfold wide_trimmed_l1 at h
   try dsimp only at h
   refine MX.seq ?_
   refine MX.sr ?_
   refine RG.mv rfl rfl ?_
   refine RG.vv (FV.gtr (i := z183) (j := 0) rfl rfl) rfl ?_
   refine RG.mv rfl rfl ?_
   refine RG.ifd (s := 10) rfl h (fun c193 h => ?_) (fun c193 h => ?_)
   ·skip
    refine RG.val' (.yes rfl rfl) (FV.move rfl) rfl ?_
    refine RG.val' (.yes rfl rfl) (FV.move rfl) rfl ?_
    obtain ⟨s194, hs194, h⟩ := bind_in h
    refine RG.val' (.yes rfl rfl) (FV.subc (i := z183) (j := 1) rfl rfl hs194) rfl ?_
    obtain ⟨x195, hx195, h⟩ := bind_in h
    obtain ⟨hi196, hx197⟩ := idx_in hx195
    have hm205 := Rep.mv h1_0 (Tr.trans hT4 hT185)
    obtain ⟨A198, c199, he200, hk201, cs202, hr203, hm204⟩ := Rep.nth hm205 hx197
    have he206 : cs202 = [.int .u64 (x195.toNat : Int)] := hr203; subst he206
    refine RG.val' (.yes rfl rfl) (FV.idxAddr (m := 1) (i := s194.toNat) (by kernel_rfl) rfl he200 rfl hi196 hk201) rfl ?_
    refine RG.val' (.yes rfl rfl) (FV.load1 (by kernel_rfl) rfl (hm204 0 _ rfl)) rfl ?_
    refine RG.val' (.yes rfl rfl) (FV.eqlU (a := x195) (b := (0 : UInt64)) rfl rfl) rfl ?_
    refine RG.vv (FV.pick_t rfl rfl) rfl ?_
    refine RG.nil ?_
    refine MX.ifd rfl h (fun c207 h => ?_) (fun c207 h => ?_)
    ·skip
     refine MX.skip ?_
     refine MX.block ?_
     refine MX.region ?_
     refine RG.mv rfl rfl ?_
     obtain ⟨s208, hs208, h⟩ := bind_in h
     refine RG.vv (FV.subc (i := z183) (j := 1) rfl rfl hs208) rfl ?_
     refine RG.sg rfl rfl ?_
     refine RG.nil ?_
     refine MX.inBlock ?_
     exact hJ192 s208 _ _ ⟨rfl, rfl, rfl, rfl, trivial⟩ ⟨hS184, hT185⟩ h
    refine MX.exit rfl ?_
    have h := hh190 _ h
    try dsimp only at h
    exact hJ119 z183 _ _ ⟨rfl, rfl, rfl, rfl, trivial⟩ ⟨hS184, hT185⟩ h
   refine RG.off (.no rfl rfl) rfl ?_
   refine RG.off (.no rfl rfl) rfl ?_
   refine RG.off (.no rfl rfl) rfl ?_
   refine RG.off (.no rfl rfl) rfl ?_
   refine RG.off (.no rfl rfl) rfl ?_
   refine RG.off (.no rfl rfl) rfl ?_
   refine RG.vv (FV.pick_f rfl rfl) rfl ?_
   refine RG.nil ?_
   refine MX.cond_f rfl ?_
   refine MX.exit rfl ?_
   have h := hh190 _ h
   try dsimp only at h
   exact hJ119 z183 _ _ ⟨rfl, rfl, rfl, rfl, trivial⟩ ⟨hS184, hT185⟩ h
def wide_Read_p (n : Nat) (a0 : UInt64 × UInt64 × UInt64 × UInt64 × UInt64 × UInt64 × UInt64 × UInt64) : Option TNumber :=
  (if (shrU a0.2.2.2.2.2.2.2 63) = (1 : UInt64) then (wide_Size_minus_p n ((0 : UInt64), (0 : UInt64), (0 : UInt64), (0 : UInt64), (0 : UInt64), (0 : UInt64), (0 : UInt64), (0 : UInt64)) a0).bind fun y20 => some (⟨(decide ((shrU a0.2.2.2.2.2.2.2 63) = (1 : UInt64))), y20.1⟩ : TNumber) else some (⟨(decide ((shrU a0.2.2.2.2.2.2.2 63) = (1 : UInt64))), a0⟩ : TNumber))
set_option maxRecDepth 4000 in
set_option maxHeartbeats 4000000 in
theorem wide_Read_c (n : Nat) (L : List Nat) (w : World) (hL : ∀ b ∈ L, b < w.heap.size) (a0 : UInt64 × UInt64 × UInt64 × UInt64 × UInt64 × UInt64 × UInt64 × UInt64)  {r : TNumber} (h : wide_Read_p n a0 = some r) :
    Calls Tryz.prog 192 #[.agg ((cs_A34 a0)).toArray] w (Gives w fun _ u => u = .agg ((cs_TNumber r)).toArray) := by
  unfold wide_Read_p at h
  have hS0 := St.start w
  refine MX.start Tryz.func192 rfl rfl rfl (fun _ cs0 hb0 => ?_)
  refine MX.sr ?_
  refine RG.new .plain rfl (Does.box (vs := (cs_A34 a0)) hS0 rfl rfl) (fun w2 b5 hS3 hT4 => ?_)
  refine RG.new .plain rfl (Does.alloc (zs := [.bool false, .int .u64 0, .int .u64 0, .int .u64 0, .int .u64 0, .int .u64 0, .int .u64 0, .int .u64 0, .int .u64 0]) hS3 (zB (by kernel_rfl))) (fun w7 b10 hS8 hT9 => ?_)
  refine RG.nil ?_
  refine MX.sr ?_
  refine RG.vv (FV.indexArr (m := 1) (k := 7) (len := 8) (by kernel_rfl) rfl rfl rfl (by omega)) rfl ?_
  refine RG.vv (FV.load1 (by kernel_rfl) rfl ((hS8.memA (.tl .hd)) 7 _ rfl)) rfl ?_
  refine RG.vv (FV.shrU (a := a0.2.2.2.2.2.2.2) (j := 63) rfl rfl) rfl ?_
  refine RG.vv (FV.eqlU (a := shrU a0.2.2.2.2.2.2.2 63) (b := (1 : UInt64)) rfl rfl) rfl ?_
  refine RG.vv (FV.loadN (by kernel_rfl) rfl (hS8.memA (.tl .hd))) rfl ?_
  refine RG.vv (FV.buildV (vs := [.bool (decide ((shrU a0.2.2.2.2.2.2.2 63) = (1 : UInt64))), .agg ((cs_A34 a0)).toArray]) (u := .agg ((([.bool (decide ((shrU a0.2.2.2.2.2.2.2 63) = (1 : UInt64)))] : List Value) ++ cs_A34 a0)).toArray) (evs_cons rfl (evs_cons rfl evs_nil)) (fun w9 => by kernel_rfl)) rfl ?_
  refine RG.new .plain rfl (Does.alloc (zs := [.bool false, .int .u64 0, .int .u64 0, .int .u64 0, .int .u64 0, .int .u64 0, .int .u64 0, .int .u64 0, .int .u64 0]) hS8 (zB (by kernel_rfl))) (fun w12 b15 hS13 hT14 => ?_)
  refine RG.now .plain (Acts.storeAll (news := (([.bool (decide ((shrU a0.2.2.2.2.2.2.2 63) = (1 : UInt64)))] : List Value) ++ cs_A34 a0)) hS13 .hd rfl rfl rfl rfl rfl rfl (onesB rfl)) (fun w16 hS17 hT18 => ?_)
  refine RG.nil ?_
  refine MX.seq ?_
  refine MX.sr ?_
  refine RG.vv (FV.fieldAddr (off := 0) (by kernel_rfl) rfl) rfl ?_
  refine RG.vv (FV.load1 (by kernel_rfl) rfl ((hS17.memA .hd) 0 _ rfl)) rfl ?_
  refine RG.nil ?_
  refine MX.ifd rfl h (fun c19 h => ?_) (fun c19 h => ?_)
  ·skip
   refine MX.region ?_
   refine RG.vv (FV.buildV (vs := []) (u := .agg #[.int .u64 0, .int .u64 0, .int .u64 0, .int .u64 0, .int .u64 0, .int .u64 0, .int .u64 0, .int .u64 0]) evs_nil (fun w9 => by kernel_rfl)) rfl ?_
   refine RG.vv (FV.fieldAddr (off := 1) (by kernel_rfl) rfl) rfl ?_
   refine RG.vv (FV.loadN (cs := (cs_A34 a0)) (by kernel_rfl) rfl (mem_part (hS17.memA .hd) 1 8)) rfl ?_
   obtain ⟨y20, hy20, h⟩ := bind_in h
   refine RG.cq (.tuple #[.agg ((cs_A34 y20.1)).toArray, .int .u64 (y20.2.toNat : Int)]) body212 rfl (evs_cons rfl (evs_cons rfl evs_nil)) (fun w9 hw9 => wide_Size_minus_c n _ w9 (hS17.hL0 hL hw9) ((0 : UInt64), (0 : UInt64), (0 : UInt64), (0 : UInt64), (0 : UInt64), (0 : UInt64), (0 : UInt64), (0 : UInt64)) a0 hy20) rfl ?_
   refine RG.mv rfl rfl ?_
   refine RG.vv (FV.extract rfl rfl) rfl ?_
   refine RG.vv (FV.extract rfl rfl) rfl ?_
   refine RG.vv (FV.fieldAddr (off := 1) (by kernel_rfl) rfl) rfl ?_
   refine RG.now .plain (Acts.store (j := 1) (old := (([.bool (decide ((shrU a0.2.2.2.2.2.2.2 63) = (1 : UInt64)))] : List Value) ++ cs_A34 a0)) (news := (cs_A34 y20.1)) (new' := (([.bool (decide ((shrU a0.2.2.2.2.2.2.2 63) = (1 : UInt64)))] : List Value) ++ cs_A34 y20.1)) hS17 .hd rfl rfl rfl rfl rfl rfl (onesB rfl) rfl) (fun w21 hS22 hT23 => ?_)
   refine RG.nil ?_
   refine MX.sr ?_
   refine RG.vv (FV.loadN (by kernel_rfl) rfl (hS22.memA .hd)) rfl ?_
   refine RG.now .plain (Acts.storeAll (news := (([.bool (decide ((shrU a0.2.2.2.2.2.2.2 63) = (1 : UInt64)))] : List Value) ++ cs_A34 y20.1)) hS22 (.tl .hd) rfl rfl rfl rfl rfl rfl (onesB rfl)) (fun w24 hS25 hT26 => ?_)
   refine RG.nil ?_
   refine MX.ret rfl ?_
   refine RT.leave hb0 Tryz.func192 rfl (.cons (.many (cs := (([.bool (decide ((shrU a0.2.2.2.2.2.2.2 63) = (1 : UInt64)))] : List Value) ++ cs_A34 y20.1)) (by kernel_rfl) rfl (hS25.memA (.tl .hd))) .nil) rfl ?_
   obtain rfl := Option.some.inj h
   exact ⟨hS25.ag, fun w9 hw9 => rfl⟩
  refine MX.skip ?_
  refine MX.sr ?_
  refine RG.vv (FV.loadN (by kernel_rfl) rfl (hS17.memA .hd)) rfl ?_
  refine RG.now .plain (Acts.storeAll (news := (([.bool (decide ((shrU a0.2.2.2.2.2.2.2 63) = (1 : UInt64)))] : List Value) ++ cs_A34 a0)) hS17 (.tl .hd) rfl rfl rfl rfl rfl rfl (onesB rfl)) (fun w27 hS28 hT29 => ?_)
  refine RG.nil ?_
  refine MX.ret rfl ?_
  refine RT.leave hb0 Tryz.func192 rfl (.cons (.many (cs := (([.bool (decide ((shrU a0.2.2.2.2.2.2.2 63) = (1 : UInt64)))] : List Value) ++ cs_A34 a0)) (by kernel_rfl) rfl (hS28.memA (.tl .hd))) .nil) rfl ?_
  obtain rfl := Option.some.inj h
  exact ⟨hS28.ag, fun w9 hw9 => rfl⟩
def tb165_2 : List (Nat × Nat × Nat) := [(0, 64, 8), (1, 128, 64), (0, 256, 0), (0, 512, 8), (8, 1024, 512), (20, 2048, 1280), (34, 4096, 2176), (127, 0, 4100)]
theorem el121 : ElT Tryz.prog 121 33 (Rep.size UInt64) 8 (.int .u64 0) [.int .u64 0] := ⟨Tryz.underlying121, by kernel_rfl, rfl, rfl, rfl, rfl⟩
theorem body169 : bodyB Tryz.prog 169 = true := by kernel_rfl
theorem body192 : bodyB Tryz.prog 192 = true := by kernel_rfl
def wide_Longer_p (n : Nat) (a0 : UInt64 × UInt64 × UInt64 × UInt64 × UInt64 × UInt64 × UInt64 × UInt64) : Option TLong :=
  (wide_Read_p n a0).bind fun y11 => (app ([] : List UInt64) ([y11.fSize.1, y11.fSize.2.1, y11.fSize.2.2.1, y11.fSize.2.2.2.1, y11.fSize.2.2.2.2.1, y11.fSize.2.2.2.2.2.1, y11.fSize.2.2.2.2.2.2.1, y11.fSize.2.2.2.2.2.2.2] : List UInt64)).bind fun xs928 => (wide_trimmed_p n y11.fBelow xs928).bind fun y1542 => some y1542
set_option maxRecDepth 4000 in
set_option maxHeartbeats 4000000 in
theorem wide_Longer_c (n : Nat) (L : List Nat) (w : World) (hL : ∀ b ∈ L, b < w.heap.size) (a0 : UInt64 × UInt64 × UInt64 × UInt64 × UInt64 × UInt64 × UInt64 × UInt64)  {r : TLong} (h : wide_Longer_p n a0 = some r) :
    Calls Tryz.prog 165 #[.agg ((cs_A34 a0)).toArray] w (Gives w fun w' u => ∃ v0_1 : Value, u = .agg #[.bool r.fBelow, v0_1] ∧ Rep.R w' L [v0_1] r.fWords) := by
  unfold wide_Longer_p at h
  have hS0 := St.start w
  refine MX.start Tryz.func165 rfl rfl rfl (fun _ cs0 hb0 => ?_)
  refine MX.sr ?_
  refine RG.new .plain rfl (Does.box (vs := (cs_A34 a0)) hS0 rfl rfl) (fun w2 b5 hS3 hT4 => ?_)
  refine RG.new .plain rfl (Does.alloc (zs := [.bool false, .slice none 0 0]) hS3 (zB (by kernel_rfl))) (fun w7 b10 hS8 hT9 => ?_)
  refine RG.nil ?_
  refine MX.sr ?_
  refine RG.vv (FV.loadN (by kernel_rfl) rfl (hS8.memA (.tl .hd))) rfl ?_
  obtain ⟨y11, hy11, h⟩ := bind_in h
  refine RG.cq (.agg ((cs_TNumber y11)).toArray) body192 rfl (evs_cons rfl evs_nil) (fun w9 hw9 => wide_Read_c n _ w9 (hS8.hL0 hL hw9) a0 hy11) rfl ?_
  refine RG.new .plain rfl (Does.alloc (zs := [.bool false, .int .u64 0, .int .u64 0, .int .u64 0, .int .u64 0, .int .u64 0, .int .u64 0, .int .u64 0, .int .u64 0]) hS8 (zB (by kernel_rfl))) (fun w13 b16 hS14 hT15 => ?_)
  refine RG.now .plain (Acts.storeAll (news := (cs_TNumber y11)) hS14 .hd rfl rfl rfl rfl rfl rfl (onesB rfl)) (fun w17 hS18 hT19 => ?_)
  refine RG.nil ?_
  refine MX.seq ?_
  refine MX.drawT 5 tb165_2 (by kernel_rfl) (by kernel_rfl) (by kernel_rfl) (fun kt20 kp21 => ?_)
  refine RD.vw 0 1 kt20 rfl kp21 (fun _ => FV.fieldAddr (off := 0) (by kernel_rfl) rfl) rfl ?_
  refine RD.vw 3 9 kt20 rfl kp21 (fun _ => FV.fieldAddr (off := 1) (by kernel_rfl) rfl) rfl ?_
  refine RD.vx 4 25 224 kt20 rfl kp21 (FV.sliceA (len := 8) (m := 1) (p := Addr.add ⟨b16, 0, none⟩ 1) (by kernel_rfl) rfl) rfl ?_
  obtain ⟨xs928, hxs928, h⟩ := bind_in h
  refine RD.meet (α := Value × (List Value)) (fun ⟨v1536, cs1537⟩ => [(2, .pointer (some ⟨b10, 0, none⟩)), (7, .bool y11.fBelow), (11, v1536)]) (fun ⟨v1536, cs1537⟩ wx1538 => St w wx1538 [.row w.heap.size 33 (Rep.size UInt64) v1536 xs928.length cs1537, .cells b10 [.bool false, .slice none 0 0] 123] ∧ Tr w17 [.cells b16 (cs_TNumber y11) 217, .cells b10 [.bool false, .slice none 0 0] 123, .cells b5 (cs_A34 a0) 35] wx1538 [.row w.heap.size 33 (Rep.size UInt64) v1536 xs928.length cs1537, .cells b10 [.bool false, .slice none 0 0] 123] ∧ Cells wx1538 (bl [.row w.heap.size 33 (Rep.size UInt64) v1536 xs928.length cs1537, .cells b10 [.bool false, .slice none 0 0] 123] ++ L) cs1537 (xs928 : List UInt64)) 2 63 ?_ ?_
  ·skip
   rintro ⟨v1536, cs1537⟩ wx1538 ⟨hS1539, hT1540, hc1538⟩
   try dsimp only
   have hr1543 := St.freeze (α := UInt64) hS1539 .hd hc1538 hL
   have hS1544 := St.delS hS1539 .hd
   have hT1545 := St.delT hS1539 .hd
   have hr1546 := Rep.at_ (α := UInt64) (v := v1536) (xs := xs928) hS1544 L hr1543
   obtain ⟨y1542, hy1542, h⟩ := bind_in h
   refine RD.cl 6 127 kt20 rfl .plain body169 rfl (evs_cons rfl (evs_cons rfl evs_nil)) (fun w9 hw9 => wide_trimmed_c n _ w9 (hS1544.hL hL hw9) y11.fBelow xs928 (Rep.keep0 hr1546 hw9) hy1542) rfl (fun w1547 vu1548 hag1549 ⟨v1552, hu_, hr1553⟩ => ?_)
   subst hu_
   obtain ⟨hS1550, hT1551⟩ := hS1544.agr hag1549
   refine RD.nw 7 255 kt20 rfl rfl .plain (Acts.storeAll (news := [.bool y1542.fBelow, v1552]) hS1550 .hd rfl rfl rfl rfl rfl rfl (ones_cons rfl (ones_cons (Rep.o1 hr1553) ones_nil))) (fun w1554 hS1555 hT1556 => ?_)
   refine RD.done (doneD_ok kt20 (by kernel_rfl)) ?_
   refine MX.ret rfl ?_
   refine RT.leave hb0 Tryz.func165 rfl (.cons (.many (cs := [.bool y1542.fBelow, v1552]) (by kernel_rfl) rfl (hS1555.memA .hd)) .nil) rfl ?_
   obtain rfl := Option.some.inj h
   have hm1557 := Rep.mv hr1553 hT1556
   exact ⟨hS1555.ag, fun w9 hw9 => ⟨v1552, rfl, Rep.keep0 (Rep.dropS hS1555 hm1557) hw9⟩⟩
  ·skip
   intro hJ1558
   refine RD.each [1, 2] (readyD_ok kt20 (by kernel_rfl)) ⟨?_, ?_, trivial⟩
   ·skip
    refine RO.val (m' := 27) (stepC_ok kt20 (by kernel_rfl)) rfl .plain rfl (FV.load1 (by kernel_rfl) rfl ((hS18.memA .hd) 0 _ rfl)) ?_
    refine RD.nu 2 31 kt20 rfl .plain rfl (Does.build (α := UInt64) (xs := ([] : List UInt64)) (vs := []) (ds' := []) rfl hS18 el121 rfl evs_nil (by kernel_rfl) rfl) (fun w623 b626 hS624 hT625 => ?_)
    have hc627 := Cells.at_ (cs := []) (xs := (([] : List UInt64) : List UInt64)) hS624 L (Cells.nil _ _)
    refine RD.one (i := 5) (readyD_ok kt20 (by kernel_rfl)) (RO.doesL (m' := 63) (stepC_ok kt20 (by kernel_rfl)) rfl rfl .plain rfl (DoesL.app (α := UInt64) (ys := ([y11.fSize.1, y11.fSize.2.1, y11.fSize.2.2.1, y11.fSize.2.2.2.1, y11.fSize.2.2.2.2.1, y11.fSize.2.2.2.2.2.1, y11.fSize.2.2.2.2.2.2.1, y11.fSize.2.2.2.2.2.2.2] : List UInt64)) (F := fun v' cs' => [.row w.heap.size 33 (Rep.size UInt64) v' xs928.length cs', .cells b16 (cs_TNumber y11) 217, .cells b10 [.bool false, .slice none 0 0] 123, .cells b5 (cs_A34 a0) 35]) hxs928 hS624 (fun _ _ => .hd) el121 rfl rfl hc627 (Src.arr (ds := [.int .u64 (y11.fSize.1.toNat : Int), .int .u64 (y11.fSize.2.1.toNat : Int), .int .u64 (y11.fSize.2.2.1.toNat : Int), .int .u64 (y11.fSize.2.2.2.1.toNat : Int), .int .u64 (y11.fSize.2.2.2.2.1.toNat : Int), .int .u64 (y11.fSize.2.2.2.2.2.1.toNat : Int), .int .u64 (y11.fSize.2.2.2.2.2.2.1.toNat : Int), .int .u64 (y11.fSize.2.2.2.2.2.2.2.toNat : Int)]) (ys := ([y11.fSize.1, y11.fSize.2.1, y11.fSize.2.2.1, y11.fSize.2.2.2.1, y11.fSize.2.2.2.2.1, y11.fSize.2.2.2.2.2.1, y11.fSize.2.2.2.2.2.2.1, y11.fSize.2.2.2.2.2.2.2] : List UInt64)) (n := 8) (mem_part (hS624.memA (.tl .hd)) 1 8) (Cells.cons (cs := [.int .u64 (y11.fSize.1.toNat : Int)]) (ds := [.int .u64 (y11.fSize.2.1.toNat : Int), .int .u64 (y11.fSize.2.2.1.toNat : Int), .int .u64 (y11.fSize.2.2.2.1.toNat : Int), .int .u64 (y11.fSize.2.2.2.2.1.toNat : Int), .int .u64 (y11.fSize.2.2.2.2.2.1.toNat : Int), .int .u64 (y11.fSize.2.2.2.2.2.2.1.toNat : Int), .int .u64 (y11.fSize.2.2.2.2.2.2.2.toNat : Int)]) rfl (Cells.cons (cs := [.int .u64 (y11.fSize.2.1.toNat : Int)]) (ds := [.int .u64 (y11.fSize.2.2.1.toNat : Int), .int .u64 (y11.fSize.2.2.2.1.toNat : Int), .int .u64 (y11.fSize.2.2.2.2.1.toNat : Int), .int .u64 (y11.fSize.2.2.2.2.2.1.toNat : Int), .int .u64 (y11.fSize.2.2.2.2.2.2.1.toNat : Int), .int .u64 (y11.fSize.2.2.2.2.2.2.2.toNat : Int)]) rfl (Cells.cons (cs := [.int .u64 (y11.fSize.2.2.1.toNat : Int)]) (ds := [.int .u64 (y11.fSize.2.2.2.1.toNat : Int), .int .u64 (y11.fSize.2.2.2.2.1.toNat : Int), .int .u64 (y11.fSize.2.2.2.2.2.1.toNat : Int), .int .u64 (y11.fSize.2.2.2.2.2.2.1.toNat : Int), .int .u64 (y11.fSize.2.2.2.2.2.2.2.toNat : Int)]) rfl (Cells.cons (cs := [.int .u64 (y11.fSize.2.2.2.1.toNat : Int)]) (ds := [.int .u64 (y11.fSize.2.2.2.2.1.toNat : Int), .int .u64 (y11.fSize.2.2.2.2.2.1.toNat : Int), .int .u64 (y11.fSize.2.2.2.2.2.2.1.toNat : Int), .int .u64 (y11.fSize.2.2.2.2.2.2.2.toNat : Int)]) rfl (Cells.cons (cs := [.int .u64 (y11.fSize.2.2.2.2.1.toNat : Int)]) (ds := [.int .u64 (y11.fSize.2.2.2.2.2.1.toNat : Int), .int .u64 (y11.fSize.2.2.2.2.2.2.1.toNat : Int), .int .u64 (y11.fSize.2.2.2.2.2.2.2.toNat : Int)]) rfl (Cells.cons (cs := [.int .u64 (y11.fSize.2.2.2.2.2.1.toNat : Int)]) (ds := [.int .u64 (y11.fSize.2.2.2.2.2.2.1.toNat : Int), .int .u64 (y11.fSize.2.2.2.2.2.2.2.toNat : Int)]) rfl (Cells.cons (cs := [.int .u64 (y11.fSize.2.2.2.2.2.2.1.toNat : Int)]) (ds := [.int .u64 (y11.fSize.2.2.2.2.2.2.2.toNat : Int)]) rfl (Cells.cons (cs := [.int .u64 (y11.fSize.2.2.2.2.2.2.2.toNat : Int)]) (ds := []) rfl (Cells.nil _ _))))))))) rfl)) (fun v934 w929 ⟨cs933, hS930, hT931, hc932⟩ => ?_))
    obtain ⟨hS1559, hT1560⟩ := St.arrB hS930 (.one .hd (.one (.tl .hd) .done))
    have hm1561 := Cells.mv hc932 hT1560
    exact hJ1558 (v934, cs933) _ _ ⟨rfl, rfl, rfl, trivial⟩ ⟨hS1559, (Tr.trans hT625 (Tr.trans hT931 hT1560)), hm1561⟩
   ·skip
    refine RO.new (m' := 29) (stepC_ok kt20 (by kernel_rfl)) rfl .plain rfl (Does.build (α := UInt64) (xs := ([] : List UInt64)) (vs := []) (ds' := []) rfl hS18 el121 rfl evs_nil (by kernel_rfl) rfl) (fun w623 b626 hS624 hT625 => ?_)
    have hc627 := Cells.at_ (cs := []) (xs := (([] : List UInt64) : List UInt64)) hS624 L (Cells.nil _ _)
    refine RD.each [1, 5] (readyD_ok kt20 (by kernel_rfl)) ⟨?_, ?_, trivial⟩
    ·skip
     refine RO.val (m' := 31) (stepC_ok kt20 (by kernel_rfl)) rfl .plain rfl (FV.load1 (by kernel_rfl) rfl ((hS624.memA (.tl .hd)) 0 _ rfl)) ?_
     refine RD.one (i := 5) (readyD_ok kt20 (by kernel_rfl)) (RO.doesL (m' := 63) (stepC_ok kt20 (by kernel_rfl)) rfl rfl .plain rfl (DoesL.app (α := UInt64) (ys := ([y11.fSize.1, y11.fSize.2.1, y11.fSize.2.2.1, y11.fSize.2.2.2.1, y11.fSize.2.2.2.2.1, y11.fSize.2.2.2.2.2.1, y11.fSize.2.2.2.2.2.2.1, y11.fSize.2.2.2.2.2.2.2] : List UInt64)) (F := fun v' cs' => [.row w.heap.size 33 (Rep.size UInt64) v' xs928.length cs', .cells b16 (cs_TNumber y11) 217, .cells b10 [.bool false, .slice none 0 0] 123, .cells b5 (cs_A34 a0) 35]) hxs928 hS624 (fun _ _ => .hd) el121 rfl rfl hc627 (Src.arr (ds := [.int .u64 (y11.fSize.1.toNat : Int), .int .u64 (y11.fSize.2.1.toNat : Int), .int .u64 (y11.fSize.2.2.1.toNat : Int), .int .u64 (y11.fSize.2.2.2.1.toNat : Int), .int .u64 (y11.fSize.2.2.2.2.1.toNat : Int), .int .u64 (y11.fSize.2.2.2.2.2.1.toNat : Int), .int .u64 (y11.fSize.2.2.2.2.2.2.1.toNat : Int), .int .u64 (y11.fSize.2.2.2.2.2.2.2.toNat : Int)]) (ys := ([y11.fSize.1, y11.fSize.2.1, y11.fSize.2.2.1, y11.fSize.2.2.2.1, y11.fSize.2.2.2.2.1, y11.fSize.2.2.2.2.2.1, y11.fSize.2.2.2.2.2.2.1, y11.fSize.2.2.2.2.2.2.2] : List UInt64)) (n := 8) (mem_part (hS624.memA (.tl .hd)) 1 8) (Cells.cons (cs := [.int .u64 (y11.fSize.1.toNat : Int)]) (ds := [.int .u64 (y11.fSize.2.1.toNat : Int), .int .u64 (y11.fSize.2.2.1.toNat : Int), .int .u64 (y11.fSize.2.2.2.1.toNat : Int), .int .u64 (y11.fSize.2.2.2.2.1.toNat : Int), .int .u64 (y11.fSize.2.2.2.2.2.1.toNat : Int), .int .u64 (y11.fSize.2.2.2.2.2.2.1.toNat : Int), .int .u64 (y11.fSize.2.2.2.2.2.2.2.toNat : Int)]) rfl (Cells.cons (cs := [.int .u64 (y11.fSize.2.1.toNat : Int)]) (ds := [.int .u64 (y11.fSize.2.2.1.toNat : Int), .int .u64 (y11.fSize.2.2.2.1.toNat : Int), .int .u64 (y11.fSize.2.2.2.2.1.toNat : Int), .int .u64 (y11.fSize.2.2.2.2.2.1.toNat : Int), .int .u64 (y11.fSize.2.2.2.2.2.2.1.toNat : Int), .int .u64 (y11.fSize.2.2.2.2.2.2.2.toNat : Int)]) rfl (Cells.cons (cs := [.int .u64 (y11.fSize.2.2.1.toNat : Int)]) (ds := [.int .u64 (y11.fSize.2.2.2.1.toNat : Int), .int .u64 (y11.fSize.2.2.2.2.1.toNat : Int), .int .u64 (y11.fSize.2.2.2.2.2.1.toNat : Int), .int .u64 (y11.fSize.2.2.2.2.2.2.1.toNat : Int), .int .u64 (y11.fSize.2.2.2.2.2.2.2.toNat : Int)]) rfl (Cells.cons (cs := [.int .u64 (y11.fSize.2.2.2.1.toNat : Int)]) (ds := [.int .u64 (y11.fSize.2.2.2.2.1.toNat : Int), .int .u64 (y11.fSize.2.2.2.2.2.1.toNat : Int), .int .u64 (y11.fSize.2.2.2.2.2.2.1.toNat : Int), .int .u64 (y11.fSize.2.2.2.2.2.2.2.toNat : Int)]) rfl (Cells.cons (cs := [.int .u64 (y11.fSize.2.2.2.2.1.toNat : Int)]) (ds := [.int .u64 (y11.fSize.2.2.2.2.2.1.toNat : Int), .int .u64 (y11.fSize.2.2.2.2.2.2.1.toNat : Int), .int .u64 (y11.fSize.2.2.2.2.2.2.2.toNat : Int)]) rfl (Cells.cons (cs := [.int .u64 (y11.fSize.2.2.2.2.2.1.toNat : Int)]) (ds := [.int .u64 (y11.fSize.2.2.2.2.2.2.1.toNat : Int), .int .u64 (y11.fSize.2.2.2.2.2.2.2.toNat : Int)]) rfl (Cells.cons (cs := [.int .u64 (y11.fSize.2.2.2.2.2.2.1.toNat : Int)]) (ds := [.int .u64 (y11.fSize.2.2.2.2.2.2.2.toNat : Int)]) rfl (Cells.cons (cs := [.int .u64 (y11.fSize.2.2.2.2.2.2.2.toNat : Int)]) (ds := []) rfl (Cells.nil _ _))))))))) rfl)) (fun v934 w929 ⟨cs933, hS930, hT931, hc932⟩ => ?_))
     obtain ⟨hS1562, hT1563⟩ := St.arrB hS930 (.one .hd (.one (.tl .hd) .done))
     have hm1564 := Cells.mv hc932 hT1563
     exact hJ1558 (v934, cs933) _ _ ⟨rfl, rfl, rfl, trivial⟩ ⟨hS1562, (Tr.trans hT625 (Tr.trans hT931 hT1563)), hm1564⟩
    ·skip
     refine RO.doesL (m' := 61) (stepC_ok kt20 (by kernel_rfl)) rfl rfl .plain rfl (DoesL.app (α := UInt64) (ys := ([y11.fSize.1, y11.fSize.2.1, y11.fSize.2.2.1, y11.fSize.2.2.2.1, y11.fSize.2.2.2.2.1, y11.fSize.2.2.2.2.2.1, y11.fSize.2.2.2.2.2.2.1, y11.fSize.2.2.2.2.2.2.2] : List UInt64)) (F := fun v' cs' => [.row w.heap.size 33 (Rep.size UInt64) v' xs928.length cs', .cells b16 (cs_TNumber y11) 217, .cells b10 [.bool false, .slice none 0 0] 123, .cells b5 (cs_A34 a0) 35]) hxs928 hS624 (fun _ _ => .hd) el121 rfl rfl hc627 (Src.arr (ds := [.int .u64 (y11.fSize.1.toNat : Int), .int .u64 (y11.fSize.2.1.toNat : Int), .int .u64 (y11.fSize.2.2.1.toNat : Int), .int .u64 (y11.fSize.2.2.2.1.toNat : Int), .int .u64 (y11.fSize.2.2.2.2.1.toNat : Int), .int .u64 (y11.fSize.2.2.2.2.2.1.toNat : Int), .int .u64 (y11.fSize.2.2.2.2.2.2.1.toNat : Int), .int .u64 (y11.fSize.2.2.2.2.2.2.2.toNat : Int)]) (ys := ([y11.fSize.1, y11.fSize.2.1, y11.fSize.2.2.1, y11.fSize.2.2.2.1, y11.fSize.2.2.2.2.1, y11.fSize.2.2.2.2.2.1, y11.fSize.2.2.2.2.2.2.1, y11.fSize.2.2.2.2.2.2.2] : List UInt64)) (n := 8) (mem_part (hS624.memA (.tl .hd)) 1 8) (Cells.cons (cs := [.int .u64 (y11.fSize.1.toNat : Int)]) (ds := [.int .u64 (y11.fSize.2.1.toNat : Int), .int .u64 (y11.fSize.2.2.1.toNat : Int), .int .u64 (y11.fSize.2.2.2.1.toNat : Int), .int .u64 (y11.fSize.2.2.2.2.1.toNat : Int), .int .u64 (y11.fSize.2.2.2.2.2.1.toNat : Int), .int .u64 (y11.fSize.2.2.2.2.2.2.1.toNat : Int), .int .u64 (y11.fSize.2.2.2.2.2.2.2.toNat : Int)]) rfl (Cells.cons (cs := [.int .u64 (y11.fSize.2.1.toNat : Int)]) (ds := [.int .u64 (y11.fSize.2.2.1.toNat : Int), .int .u64 (y11.fSize.2.2.2.1.toNat : Int), .int .u64 (y11.fSize.2.2.2.2.1.toNat : Int), .int .u64 (y11.fSize.2.2.2.2.2.1.toNat : Int), .int .u64 (y11.fSize.2.2.2.2.2.2.1.toNat : Int), .int .u64 (y11.fSize.2.2.2.2.2.2.2.toNat : Int)]) rfl (Cells.cons (cs := [.int .u64 (y11.fSize.2.2.1.toNat : Int)]) (ds := [.int .u64 (y11.fSize.2.2.2.1.toNat : Int), .int .u64 (y11.fSize.2.2.2.2.1.toNat : Int), .int .u64 (y11.fSize.2.2.2.2.2.1.toNat : Int), .int .u64 (y11.fSize.2.2.2.2.2.2.1.toNat : Int), .int .u64 (y11.fSize.2.2.2.2.2.2.2.toNat : Int)]) rfl (Cells.cons (cs := [.int .u64 (y11.fSize.2.2.2.1.toNat : Int)]) (ds := [.int .u64 (y11.fSize.2.2.2.2.1.toNat : Int), .int .u64 (y11.fSize.2.2.2.2.2.1.toNat : Int), .int .u64 (y11.fSize.2.2.2.2.2.2.1.toNat : Int), .int .u64 (y11.fSize.2.2.2.2.2.2.2.toNat : Int)]) rfl (Cells.cons (cs := [.int .u64 (y11.fSize.2.2.2.2.1.toNat : Int)]) (ds := [.int .u64 (y11.fSize.2.2.2.2.2.1.toNat : Int), .int .u64 (y11.fSize.2.2.2.2.2.2.1.toNat : Int), .int .u64 (y11.fSize.2.2.2.2.2.2.2.toNat : Int)]) rfl (Cells.cons (cs := [.int .u64 (y11.fSize.2.2.2.2.2.1.toNat : Int)]) (ds := [.int .u64 (y11.fSize.2.2.2.2.2.2.1.toNat : Int), .int .u64 (y11.fSize.2.2.2.2.2.2.2.toNat : Int)]) rfl (Cells.cons (cs := [.int .u64 (y11.fSize.2.2.2.2.2.2.1.toNat : Int)]) (ds := [.int .u64 (y11.fSize.2.2.2.2.2.2.2.toNat : Int)]) rfl (Cells.cons (cs := [.int .u64 (y11.fSize.2.2.2.2.2.2.2.toNat : Int)]) (ds := []) rfl (Cells.nil _ _))))))))) rfl)) (fun v934 w929 ⟨cs933, hS930, hT931, hc932⟩ => ?_)
     refine RD.vx 1 63 192 kt20 rfl kp21 (FV.load1 (by kernel_rfl) rfl ((hS930.memA (.tl .hd)) 0 _ rfl)) rfl ?_
     obtain ⟨hS1565, hT1566⟩ := St.arrB hS930 (.one .hd (.one (.tl .hd) .done))
     have hm1567 := Cells.mv hc932 hT1566
     exact hJ1558 (v934, cs933) _ _ ⟨rfl, rfl, rfl, trivial⟩ ⟨hS1565, (Tr.trans hT625 (Tr.trans hT931 hT1566)), hm1567⟩
def tb130_1 : List (Nat × Nat × Nat) := [(0, 8, 2), (1, 16, 8), (2, 32, 16), (0, 64, 2), (8, 128, 64), (20, 256, 128), (36, 512, 288), (127, 0, 516)]
theorem body165 : bodyB Tryz.prog 165 = true := by kernel_rfl
def share_Read_p (n : Nat) (a0 : TShare) : Option TRatio :=
  (wide_Longer_p n a0.fN).bind fun y13 => (wide_Longer_p n a0.fD).bind fun y21 => some (⟨y13, y21⟩ : TRatio)
set_option maxRecDepth 4000 in
set_option maxHeartbeats 4000000 in
theorem share_Read_c (n : Nat) (L : List Nat) (w : World) (hL : ∀ b ∈ L, b < w.heap.size) (a0 : TShare)  {r : TRatio} (h : share_Read_p n a0 = some r) :
    Calls Tryz.prog 130 #[.agg ((cs_TShare a0)).toArray] w (Gives w fun w' u => ∃ v0_1 v0_3 : Value, u = .agg #[.bool r.fLong.fBelow, v0_1, .bool r.fUnder.fBelow, v0_3] ∧ Rep.R w' L [v0_1] r.fLong.fWords ∧ Rep.R w' L [v0_3] r.fUnder.fWords) := by
  unfold share_Read_p at h
  have hS0 := St.start w
  refine MX.start Tryz.func130 rfl rfl rfl (fun _ cs0 hb0 => ?_)
  refine MX.sr ?_
  refine RG.new .plain rfl (Does.box (vs := (cs_TShare a0)) hS0 rfl rfl) (fun w2 b5 hS3 hT4 => ?_)
  refine RG.new .plain rfl (Does.alloc (zs := [.bool false, .slice none 0 0, .bool false, .slice none 0 0]) hS3 (zB (by kernel_rfl))) (fun w7 b10 hS8 hT9 => ?_)
  refine RG.nil ?_
  refine MX.seq ?_
  refine MX.drawT 7 tb130_1 (by kernel_rfl) (by kernel_rfl) (by kernel_rfl) (fun kt11 kp12 => ?_)
  refine RD.vw 0 1 kt11 rfl kp12 (fun _ => FV.fieldAddr (off := 0) (by kernel_rfl) rfl) rfl ?_
  refine RD.vx 1 3 228 kt11 rfl kp12 (FV.loadN (cs := (cs_A34 a0.fN)) (by kernel_rfl) rfl (mem_part (hS8.memA (.tl .hd)) 0 8)) rfl ?_
  refine RD.vw 3 11 kt11 rfl kp12 (fun _ => FV.fieldAddr (off := 8) (by kernel_rfl) rfl) rfl ?_
  refine RD.vx 4 27 224 kt11 rfl kp12 (FV.loadN (cs := (cs_A34 a0.fD)) (by kernel_rfl) rfl (mem_part (hS8.memA (.tl .hd)) 8 8)) rfl ?_
  obtain ⟨y13, hy13, h⟩ := bind_in h
  refine RD.cl 2 31 kt11 rfl .plain body165 rfl (evs_cons rfl evs_nil) (fun w9 hw9 => wide_Longer_c n _ w9 (hS8.hL hL hw9) a0.fN hy13) rfl (fun w14 vu15 hag16 ⟨v19, hu_, hr20⟩ => ?_)
  subst hu_
  obtain ⟨hS17, hT18⟩ := hS8.agr hag16
  obtain ⟨y21, hy21, h⟩ := bind_in h
  refine RD.cl 5 63 kt11 rfl .plain body165 rfl (evs_cons rfl evs_nil) (fun w9 hw9 => wide_Longer_c n _ w9 (hS17.hL hL hw9) a0.fD hy21) rfl (fun w22 vu23 hag24 ⟨v27, hu_, hr28⟩ => ?_)
  subst hu_
  obtain ⟨hS25, hT26⟩ := hS17.agr hag24
  have hm32 := Rep.mv hr20 hT26
  obtain ⟨A29, c30, hv31, _⟩ := Rep.sl hm32
  obtain ⟨A33, c34, hv35, _⟩ := Rep.sl hr28
  refine RD.vw 6 127 kt11 rfl kp12 (fun _ => FV.buildV (vs := [.agg #[.bool y13.fBelow, v19], .agg #[.bool y21.fBelow, v27]]) (u := .agg #[.bool y13.fBelow, v19, .bool y21.fBelow, v27]) (evs_cons rfl (evs_cons rfl evs_nil)) (fun w9 => by rw [hv31, hv35]; try kernel_rfl)) rfl ?_
  refine RD.nw 7 255 kt11 rfl rfl .plain (Acts.storeAll (news := [.bool y13.fBelow, v19, .bool y21.fBelow, v27]) hS25 .hd rfl rfl rfl rfl rfl rfl (ones_cons rfl (ones_cons (Rep.o1 hm32) (ones_cons rfl (ones_cons (Rep.o1 hr28) ones_nil))))) (fun w36 hS37 hT38 => ?_)
  refine RD.done (doneD_ok kt11 (by kernel_rfl)) ?_
  refine MX.ret rfl ?_
  refine RT.leave hb0 Tryz.func130 rfl (.cons (.many (cs := [.bool y13.fBelow, v19, .bool y21.fBelow, v27]) (by kernel_rfl) rfl (hS37.memA .hd)) .nil) rfl ?_
  obtain rfl := Option.some.inj h
  have hm39 := Rep.mv hr20 (Tr.trans hT26 hT38)
  have hm40 := Rep.mv hr28 hT38
  exact ⟨hS37.ag, fun w9 hw9 => ⟨v19, v27, rfl, Rep.keep0 (Rep.dropS hS37 hm39) hw9, Rep.keep0 (Rep.dropS hS37 hm40) hw9⟩⟩
def wide_Long_Side_p (_n : Nat) (a0 : TLong) : Option Int :=
  (if a0.fBelow = true then some (-1 : Int) else (if a0.fWords.length = 0 then some (0 : Int) else some (1 : Int)))
set_option maxRecDepth 4000 in
set_option maxHeartbeats 4000000 in
theorem wide_Long_Side_c (n : Nat) (L : List Nat) (w : World) (_hL : ∀ b ∈ L, b < w.heap.size) (a0 : TLong) {v0_1 : Value} (h0_1 : Rep.R w L [v0_1] a0.fWords)  {r : Int} (h : wide_Long_Side_p n a0 = some r) :
    Calls Tryz.prog 144 #[.agg #[.bool a0.fBelow, v0_1]] w (Gives w fun _ u => u = .int .i64 r) := by
  unfold wide_Long_Side_p at h
  have hS0 := St.start w
  refine MX.start Tryz.func144 rfl rfl rfl (fun _ cs0 hb0 => ?_)
  refine MX.sr ?_
  refine RG.new .plain rfl (Does.box (vs := [.bool a0.fBelow, v0_1]) hS0 rfl rfl) (fun w2 b5 hS3 hT4 => ?_)
  refine RG.sg rfl rfl ?_
  refine RG.nil ?_
  refine MX.seq ?_
  refine MX.block ?_
  refine MX.sr ?_
  refine RG.vv (FV.fieldAddr (off := 0) (by kernel_rfl) rfl) rfl ?_
  refine RG.vv (FV.load1 (by kernel_rfl) rfl ((hS3.memA .hd) 0 _ rfl)) rfl ?_
  refine RG.sg rfl rfl ?_
  refine RG.nil ?_
  refine MX.ifb rfl h (fun c6 h => ?_) (fun c6 h => ?_)
  ·skip
   refine MX.sr ?_
   refine RG.sg rfl rfl ?_
   refine RG.nil ?_
   refine MX.ret rfl ?_
   refine RT.leave hb0 Tryz.func144 rfl (.cons (.tmp rfl) .nil) rfl ?_
   obtain rfl := Option.some.inj h
   exact ⟨hS3.ag, fun w9 hw9 => rfl⟩
  refine MX.sr ?_
  refine RG.vv (FV.fieldAddr (off := 1) (by kernel_rfl) rfl) rfl ?_
  refine RG.vv (FV.load1 (by kernel_rfl) rfl ((hS3.memA .hd) 1 _ rfl)) rfl ?_
  have hm8 := Rep.mv h0_1 hT4
  have hl7 : a0.fWords.length ≤ 281474976710656 := Rep.lenle hm8
  refine RG.vv (FV.len (xs := a0.fWords) Tryz.underlying121 rfl hm8) rfl ?_
  refine RG.vv (FV.eqlN (i := a0.fWords.length) (j := 0) rfl rfl) rfl ?_
  refine RG.sg rfl rfl ?_
  refine RG.nil ?_
  refine MX.ifd rfl h (fun c9 h => ?_) (fun c9 h => ?_)
  ·skip
   refine MX.sr ?_
   refine RG.sg rfl rfl ?_
   refine RG.nil ?_
   refine MX.ret rfl ?_
   refine RT.leave hb0 Tryz.func144 rfl (.cons (.tmp rfl) .nil) rfl ?_
   obtain rfl := Option.some.inj h
   exact ⟨hS3.ag, fun w9 hw9 => rfl⟩
  refine MX.skip ?_
  refine MX.inBlock ?_
  refine MX.sr ?_
  refine RG.sg rfl rfl ?_
  refine RG.nil ?_
  refine MX.ret rfl ?_
  refine RT.leave hb0 Tryz.func144 rfl (.cons (.tmp rfl) .nil) rfl ?_
  obtain rfl := Option.some.inj h
  exact ⟨hS3.ag, fun w9 hw9 => rfl⟩
def tb172_6 : List (Nat × Nat × Nat) := [(0, 16777216, 1), (0, 33554432, 32), (3, 67108864, 50331648), (4, 134217728, 67108864), (0, 268435456, 2), (0, 536870912, 32), (48, 1073741824, 805306368), (64, 2147483648, 1073741824), (136, 4294967296, 2281701376), (256, 8388608, 4294967296)]
def tb172_8 : List (Nat × Nat × Nat) := [(0, 17179869184, 1), (0, 34359738368, 32), (3, 68719476736, 51539607552), (4, 137438953472, 68719476736), (0, 274877906944, 2), (0, 549755813888, 32), (48, 1099511627776, 824633720832), (64, 2199023255552, 1099511627776), (136, 4398046511104, 2336462209024), (256, 8589934592, 4398046511104)]
def wide_compared_l1 (_n : Nat) (a0 : List UInt64) (a1 : List UInt64) (J48 : Int → Option (Int ⊕ Unit)) : Int → Option (Int ⊕ Unit)
  | z40 => (if 0 ≤ z40 then (idx a0 z40).bind fun x53 => (idx a1 z40).bind fun x65 => (if x53 < x65 then some (.inl (-1 : Int)) else (if x65 < x53 then some (.inl (1 : Int)) else (chk (z40 - 1)).bind fun s81 => J48 s81)) else some (.inr ()))
def wide_compared_p (n : Nat) (a0 : List UInt64) (a1 : List UInt64) : Option Int :=
  (if a0.length = a1.length then thn (loopF (wide_compared_l1 n a0 a1) n (((a0.length : Nat) : Int) - 1)) (fun _ => some (0 : Int)) else some (((a0.length : Nat) : Int) - ((a1.length : Nat) : Int)))
set_option maxRecDepth 4000 in
set_option maxHeartbeats 4000000 in
theorem wide_compared_c (n : Nat) (L : List Nat) (w : World) (_hL : ∀ b ∈ L, b < w.heap.size) (a0 : List UInt64) {v0_0 : Value} (h0_0 : Rep.R w L [v0_0] a0) (a1 : List UInt64) {v1_0 : Value} (h1_0 : Rep.R w L [v1_0] a1)  {r : Int} (h : wide_compared_p n a0 a1 = some r) :
    Calls Tryz.prog 172 #[v0_0, v1_0] w (Gives w fun _ u => u = .int .i64 r) := by
  unfold wide_compared_p at h
  have hS0 := St.start w
  refine MX.start Tryz.func172 rfl rfl rfl (fun _ cs0 hb0 => ?_)
  refine MX.sr ?_
  refine RG.sg rfl rfl ?_
  refine RG.nil ?_
  refine MX.seq ?_
  refine MX.sr ?_
  refine RG.mv rfl rfl ?_
  have hl1 : a0.length ≤ 281474976710656 := Rep.lenle h0_0
  refine RG.vv (FV.len (xs := a0) Tryz.underlying121 rfl h0_0) rfl ?_
  refine RG.mv rfl rfl ?_
  have hl2 : a1.length ≤ 281474976710656 := Rep.lenle h1_0
  refine RG.vv (FV.len (xs := a1) Tryz.underlying121 rfl h1_0) rfl ?_
  refine RG.vv (FV.neqN (i := a0.length) (j := a1.length) rfl rfl) rfl ?_
  refine RG.nil ?_
  refine MX.ifn rfl h (fun c3 h => ?_) (fun c3 h => ?_)
  ·skip
   refine MX.skip ?_
   refine MX.seq ?_
   refine MX.sr ?_
   refine RG.mv rfl rfl ?_
   refine RG.vv (FV.len (xs := a0) Tryz.underlying121 rfl h0_0) rfl ?_
   refine RG.vv (FV.subI (i := ((a0.length : Nat) : Int)) (j := 1) rfl rfl (by omega)) rfl ?_
   refine RG.sg rfl rfl ?_
   refine RG.nil ?_
   refine MX.block ?_
   obtain ⟨o46, ho45, hh47⟩ := thn_in h
   refine MX.loop (α := Int) (fun z40 => [(0, v0_0), (1, v1_0), (5, .int .i64 z40)]) (fun z40 wx40 => St w wx40 [] ∧ Tr w [] wx40 []) (fun z40 => z40) (((a0.length : Nat) : Int) - 1) ho45 ⟨rfl, rfl, rfl, trivial⟩ ⟨hS0, Tr.refl _ _⟩ ?_
   rintro J48 z40 wx40 hJ49 ⟨hS41, hT42⟩ h
   unfold wide_compared_l1 at h
   try dsimp only at h
   refine MX.seq ?_
   refine MX.sr ?_
   refine RG.mv rfl rfl ?_
   refine RG.vv (FV.geq (i := z40) (j := 0) rfl rfl) rfl ?_
   refine RG.nil ?_
   refine MX.ifd rfl h (fun c50 h => ?_) (fun c50 h => ?_)
   ·skip
    refine MX.skip ?_
    refine MX.seq ?_
    refine MX.block ?_
    refine MX.block ?_
    refine MX.seq ?_
    refine MX.drawT 10 tb172_6 (by kernel_rfl) (by kernel_rfl) (by kernel_rfl) (fun kt51 kp52 => ?_)
    refine RD.vw 0 1 kt51 rfl kp52 (fun _ => FV.move rfl) rfl ?_
    refine RD.vw 1 3 kt51 rfl kp52 (fun _ => FV.move rfl) rfl ?_
    obtain ⟨x53, hx53, h⟩ := bind_in h
    obtain ⟨hi54, hx55⟩ := idx_in hx53
    have hm63 := Rep.mv h0_0 hT42
    obtain ⟨A56, c57, he58, hk59, cs60, hr61, hm62⟩ := Rep.nth hm63 hx55
    have he64 : cs60 = [.int .u64 (x53.toNat : Int)] := hr61; subst he64
    refine RD.vw 2 7 kt51 rfl kp52 (fun _ => FV.idxAddr (m := 1) (i := z40.toNat) (by kernel_rfl) rfl he58 rfl hi54 hk59) rfl ?_
    refine RD.vx 3 15 768 kt51 rfl kp52 (FV.load1 (by kernel_rfl) rfl (hm62 0 _ rfl)) rfl ?_
    refine RD.vw 4 31 kt51 rfl kp52 (fun _ => FV.move rfl) rfl ?_
    refine RD.vw 5 63 kt51 rfl kp52 (fun _ => FV.move rfl) rfl ?_
    obtain ⟨x65, hx65, h⟩ := bind_in h
    obtain ⟨hi66, hx67⟩ := idx_in hx65
    have hm75 := Rep.mv h1_0 hT42
    obtain ⟨A68, c69, he70, hk71, cs72, hr73, hm74⟩ := Rep.nth hm75 hx67
    have he76 : cs72 = [.int .u64 (x65.toNat : Int)] := hr73; subst he76
    refine RD.vw 6 127 kt51 rfl kp52 (fun _ => FV.idxAddr (m := 1) (i := z40.toNat) (by kernel_rfl) rfl he70 rfl hi66 hk71) rfl ?_
    refine RD.vx 7 255 768 kt51 rfl kp52 (FV.load1 (by kernel_rfl) rfl (hm74 0 _ rfl)) rfl ?_
    refine RD.vw 8 511 kt51 rfl kp52 (fun _ => FV.lssU (a := x53) (b := x65) rfl rfl) rfl ?_
    refine RD.vw 9 1023 kt51 rfl kp52 (fun _ => FV.assign rfl) rfl ?_
    refine RD.done (doneD_ok kt51 (by kernel_rfl)) ?_
    refine MX.ifd rfl h (fun c77 h => ?_) (fun c77 h => ?_)
    ·skip
     refine MX.sr ?_
     refine RG.sg rfl rfl ?_
     refine RG.nil ?_
     have h := thn_inl h hh47
     refine MX.ret rfl ?_
     refine RT.leave hb0 Tryz.func172 rfl (.cons (.tmp rfl) .nil) rfl ?_
     obtain rfl := Option.some.inj h
     exact ⟨hS41.ag, fun w9 hw9 => rfl⟩
    refine MX.seq ?_
    refine MX.drawT 10 tb172_8 (by kernel_rfl) (by kernel_rfl) (by kernel_rfl) (fun kt78 kp79 => ?_)
    refine RD.vw 0 1 kt78 rfl kp79 (fun _ => FV.move rfl) rfl ?_
    refine RD.vw 1 3 kt78 rfl kp79 (fun _ => FV.move rfl) rfl ?_
    refine RD.vw 2 7 kt78 rfl kp79 (fun _ => FV.idxAddr (m := 1) (i := z40.toNat) (by kernel_rfl) rfl he58 rfl hi54 hk59) rfl ?_
    refine RD.vx 3 15 768 kt78 rfl kp79 (FV.load1 (by kernel_rfl) rfl (hm62 0 _ rfl)) rfl ?_
    refine RD.vw 4 31 kt78 rfl kp79 (fun _ => FV.move rfl) rfl ?_
    refine RD.vw 5 63 kt78 rfl kp79 (fun _ => FV.move rfl) rfl ?_
    refine RD.vw 6 127 kt78 rfl kp79 (fun _ => FV.idxAddr (m := 1) (i := z40.toNat) (by kernel_rfl) rfl he70 rfl hi66 hk71) rfl ?_
    refine RD.vx 7 255 768 kt78 rfl kp79 (FV.load1 (by kernel_rfl) rfl (hm74 0 _ rfl)) rfl ?_
    refine RD.vw 8 511 kt78 rfl kp79 (fun _ => FV.gtrU (a := x53) (b := x65) rfl rfl) rfl ?_
    refine RD.vw 9 1023 kt78 rfl kp79 (fun _ => FV.assign rfl) rfl ?_
    refine RD.done (doneD_ok kt78 (by kernel_rfl)) ?_
    refine MX.ifd rfl h (fun c80 h => ?_) (fun c80 h => ?_)
    ·skip
     refine MX.sr ?_
     refine RG.sg rfl rfl ?_
     refine RG.nil ?_
     have h := thn_inl h hh47
     refine MX.ret rfl ?_
     refine RT.leave hb0 Tryz.func172 rfl (.cons (.tmp rfl) .nil) rfl ?_
     obtain rfl := Option.some.inj h
     exact ⟨hS41.ag, fun w9 hw9 => rfl⟩
    refine MX.skip ?_
    refine MX.inBlock ?_
    refine MX.inBlock ?_
    refine MX.region ?_
    refine RG.mv rfl rfl ?_
    obtain ⟨s81, hs81, h⟩ := bind_in h
    refine RG.vv (FV.subc (i := z40) (j := 1) rfl rfl hs81) rfl ?_
    refine RG.sg rfl rfl ?_
    refine RG.nil ?_
    exact hJ49 s81 _ _ ⟨rfl, rfl, rfl, trivial⟩ ⟨hS41, hT42⟩ h
   refine MX.exit rfl ?_
   have h := thn_inr h hh47
   try dsimp only at h
   refine MX.sr ?_
   refine RG.sg rfl rfl ?_
   refine RG.nil ?_
   refine MX.ret rfl ?_
   refine RT.leave hb0 Tryz.func172 rfl (.cons (.tmp rfl) .nil) rfl ?_
   obtain rfl := Option.some.inj h
   exact ⟨hS41.ag, fun w9 hw9 => rfl⟩
  refine MX.sr ?_
  refine RG.mv rfl rfl ?_
  refine RG.vv (FV.len (xs := a0) Tryz.underlying121 rfl h0_0) rfl ?_
  refine RG.mv rfl rfl ?_
  refine RG.vv (FV.len (xs := a1) Tryz.underlying121 rfl h1_0) rfl ?_
  refine RG.vv (FV.subI (i := ((a0.length : Nat) : Int)) (j := ((a1.length : Nat) : Int)) rfl rfl (by omega)) rfl ?_
  refine RG.sg rfl rfl ?_
  refine RG.nil ?_
  refine MX.ret rfl ?_
  refine RT.leave hb0 Tryz.func172 rfl (.cons (.tmp rfl) .nil) rfl ?_
  obtain rfl := Option.some.inj h
  exact ⟨hS0.ag, fun w9 hw9 => rfl⟩
def wide_taken_l1 (_n : Nat) (a0 : List UInt64) (a1 : List UInt64) (J153 : UInt64 × Nat × (List UInt64) → Option (List UInt64)) : UInt64 × Nat × (List UInt64) → Option (List UInt64)
  | (u141, i142, xs143) => (if i142 < a0.length then (a0[i142]?).bind fun x156 => jn (fun u178 => (sub64 x156 u178 u141).bind fun z184 => (xs143[i142]?).bind fun x185 => (put xs143 ((i142 : Nat) : Int) z184.1).bind fun xs198 => J153 (z184.2, i142 + 1, xs198)) (fun J182 => (if i142 < a1.length then (a1[i142]?).bind fun x205 => J182 x205 else J182 (0 : UInt64))) else some xs143)
def wide_taken_p (n : Nat) (a0 : List UInt64) (a1 : List UInt64) : Option (List UInt64) :=
  (mk ((a0.length : Nat) : Int) (0 : UInt64)).bind fun xs3 => Option.bind (loopF (wide_taken_l1 n a0 a1) n ((0 : UInt64), 0, xs3)) (fun xs143 => some xs143)
set_option maxRecDepth 4000 in
set_option maxHeartbeats 4000000 in
theorem wide_taken_c (n : Nat) (L : List Nat) (w : World) (hL : ∀ b ∈ L, b < w.heap.size) (a0 : List UInt64) {v0_0 : Value} (h0_0 : Rep.R w L [v0_0] a0) (a1 : List UInt64) {v1_0 : Value} (h1_0 : Rep.R w L [v1_0] a1)  {r : List UInt64} (h : wide_taken_p n a0 a1 = some r) :
    Calls Tryz.prog 173 #[v0_0, v1_0] w (Gives w fun w' u => ∃ v0_0 : Value, u = v0_0 ∧ Rep.R w' L [v0_0] r) := by
  unfold wide_taken_p at h
  have hS0 := St.start w
  refine MX.start Tryz.func173 rfl rfl rfl (fun _ cs0 hb0 => ?_)
  refine MX.sr ?_
  refine RG.sg rfl rfl ?_
  refine RG.nil ?_
  refine MX.sr ?_
  refine RG.mv rfl rfl ?_
  have hl1 : a0.length ≤ 281474976710656 := Rep.lenle h0_0
  refine RG.vv (FV.len (xs := a0) Tryz.underlying121 rfl h0_0) rfl ?_
  obtain ⟨xs3, hxs3, h⟩ := bind_in h
  refine RG.new .plain rfl (Does.mk (α := UInt64) hxs3 hS0 el121 rfl) (fun w4 b7 hS5 hT6 => ?_)
  have hc8 := Cells.at_ (cs := (List.replicate ((a0.length : Nat) : Int).toNat [.int .u64 0]).flatten) (xs := xs3) hS5 L (Cells.mk hxs3 rfl)
  refine RG.sg rfl rfl ?_
  refine RG.nil ?_
  refine MX.sr ?_
  refine RG.sg rfl rfl ?_
  refine RG.nil ?_
  refine MX.seq ?_
  refine MX.sr ?_
  refine RG.mv rfl rfl ?_
  have hm9 := Rep.mv h0_0 hT6
  refine RG.vv (FV.len (xs := a0) Tryz.underlying121 rfl hm9) rfl ?_
  refine RG.mv rfl rfl ?_
  refine RG.nil ?_
  refine MX.block ?_
  obtain ⟨o151, ho150, hh152⟩ := bind_in2 h
  refine MX.loop (α := UInt64 × Nat × (List UInt64) × (List Value)) (fun ⟨u141, i142, xs143, cs144⟩ => [(1, v1_0), (5, (.slice (some ⟨b7, 0, none⟩) ((a0.length : Nat) : Int).toNat ((a0.length : Nat) : Int).toNat)), (6, .int .u64 (u141.toNat : Int)), (13, v0_0), (14, .int .i64 ((a0.length : Nat) : Int)), (15, .int .i64 ((i142 : Nat) : Int))]) (fun ⟨u141, i142, xs143, cs144⟩ wx145 => St w wx145 [.row w.heap.size 33 (Rep.size UInt64) (.slice (some ⟨b7, 0, none⟩) ((a0.length : Nat) : Int).toNat ((a0.length : Nat) : Int).toNat) xs143.length cs144] ∧ Tr w4 [.row w.heap.size 33 (Rep.size UInt64) (.slice (some ⟨b7, 0, none⟩) ((a0.length : Nat) : Int).toNat ((a0.length : Nat) : Int).toNat) xs3.length ((List.replicate ((a0.length : Nat) : Int).toNat [.int .u64 0]).flatten)] wx145 [.row w.heap.size 33 (Rep.size UInt64) (.slice (some ⟨b7, 0, none⟩) ((a0.length : Nat) : Int).toNat ((a0.length : Nat) : Int).toNat) xs143.length cs144] ∧ Cells wx145 (bl [.row w.heap.size 33 (Rep.size UInt64) (.slice (some ⟨b7, 0, none⟩) ((a0.length : Nat) : Int).toNat ((a0.length : Nat) : Int).toNat) xs143.length cs144] ++ L) cs144 xs143) (fun ⟨u141, i142, xs143, cs144⟩ => (u141, i142, xs143)) ((0 : UInt64), 0, xs3, (List.replicate ((a0.length : Nat) : Int).toNat [.int .u64 0]).flatten) ho150 ⟨rfl, rfl, rfl, rfl, rfl, rfl, trivial⟩ ⟨hS5, Tr.refl _ _, hc8⟩ ?_
  rintro J153 ⟨u141, i142, xs143, cs144⟩ wx145 hJ154 ⟨hS146, hT147, hc145⟩ h
  unfold wide_taken_l1 at h
  try dsimp only at h
  refine MX.sr ?_
  refine RG.vv (FV.lssN (i := i142) (j := a0.length) rfl rfl) rfl ?_
  refine RG.nil ?_
  refine MX.seq ?_
  refine MX.ifd rfl h (fun c155 h => ?_) (fun c155 h => ?_)
  ·skip
   refine MX.skip ?_
   refine MX.seq ?_
   refine MX.block ?_
   refine MX.sr ?_
   refine RG.mv rfl rfl ?_
   obtain ⟨x156, hx156, h⟩ := bind_in h
   have hm164 := Rep.mv h0_0 (Tr.trans hT6 hT147)
   obtain ⟨A157, c158, he159, hk160, cs161, hr162, hm163⟩ := Rep.nth hm164 hx156
   have he165 : cs161 = [.int .u64 (x156.toNat : Int)] := hr162; subst he165
   refine RG.vv (FV.idxAddr (m := 1) (i := i142) (by kernel_rfl) rfl he159 rfl rfl hk160) rfl ?_
   refine RG.vv (FV.load1 (by kernel_rfl) rfl (hm163 0 _ rfl)) rfl ?_
   refine RG.sg rfl rfl ?_
   refine RG.sg rfl rfl ?_
   refine RG.nil ?_
   refine MX.sr ?_
   refine RG.sg rfl rfl ?_
   refine RG.nil ?_
   refine MX.seq ?_
   refine MX.sr ?_
   refine RG.mv rfl rfl ?_
   refine RG.mv rfl rfl ?_
   have hm167 := Rep.mv h1_0 (Tr.trans hT6 hT147)
   have hl166 : a1.length ≤ 281474976710656 := Rep.lenle hm167
   refine RG.vv (FV.len (xs := a1) Tryz.underlying121 rfl hm167) rfl ?_
   refine RG.vv (FV.lssN (i := i142) (j := a1.length) rfl rfl) rfl ?_
   refine RG.nil ?_
   refine MX.join (α := UInt64) (fun u178 => [(1, v1_0), (5, (.slice (some ⟨b7, 0, none⟩) ((a0.length : Nat) : Int).toNat ((a0.length : Nat) : Int).toNat)), (6, .int .u64 (u141.toNat : Int)), (13, v0_0), (14, .int .i64 ((a0.length : Nat) : Int)), (15, .int .i64 ((i142 : Nat) : Int)), (7, .int .i64 ((i142 : Nat) : Int)), (8, .int .u64 (x156.toNat : Int)), (9, .int .u64 (u178.toNat : Int))]) (fun u178 wx178 => St w wx178 [.row w.heap.size 33 (Rep.size UInt64) (.slice (some ⟨b7, 0, none⟩) ((a0.length : Nat) : Int).toNat ((a0.length : Nat) : Int).toNat) xs143.length cs144] ∧ Tr wx145 [.row w.heap.size 33 (Rep.size UInt64) (.slice (some ⟨b7, 0, none⟩) ((a0.length : Nat) : Int).toNat ((a0.length : Nat) : Int).toNat) xs143.length cs144] wx178 [.row w.heap.size 33 (Rep.size UInt64) (.slice (some ⟨b7, 0, none⟩) ((a0.length : Nat) : Int).toNat ((a0.length : Nat) : Int).toNat) xs143.length cs144]) (fun u178 => u178) h ?_ ?_
   ·skip
    rintro u178 wx178 ⟨hS179, hT180⟩ h
    try dsimp only at h
    refine MX.region ?_
    refine RG.mv rfl rfl ?_
    refine RG.mv rfl rfl ?_
    refine RG.mv rfl rfl ?_
    refine RG.mv rfl rfl ?_
    refine RG.mv rfl rfl ?_
    obtain ⟨z184, hz184, h⟩ := bind_in h
    refine RG.vv (FV.sub64 (a := x156) (b := u178) (c := u141) Tryz.func197 rfl (by kernel_rfl) (by kernel_rfl) (by kernel_rfl) rfl rfl rfl hz184) rfl ?_
    refine RG.mv rfl rfl ?_
    refine RG.vv (FV.extract rfl rfl) rfl ?_
    refine RG.vv (FV.extract rfl rfl) rfl ?_
    obtain ⟨x185, hx185, h⟩ := bind_in h
    have hm193 := Cells.mv hc145 hT180
    obtain ⟨A186, c187, he188, hk189, cs190, hr191, hm192⟩ := St.nth (α := UInt64) hS179 .hd hm193 hx185
    obtain ⟨b194, c195, he196⟩ := St.nthOwn (α := UInt64) hS179 .hd hk189
    obtain rfl : A186 = ⟨b194, 0, none⟩ := by rw [he196] at he188; cases he188; rfl
    have he197 : cs190 = [.int .u64 (x185.toNat : Int)] := hr191; subst he197
    refine RG.vv (FV.idxAddr (m := 1) (i := i142) (by kernel_rfl) rfl he188 rfl rfl hk189) rfl ?_
    obtain ⟨xs198, hxs198, h⟩ := bind_in h
    refine RG.acts' .plain (Acts.set (α := UInt64) (i := i142) (F := fun cs' => [.row w.heap.size 33 (Rep.size UInt64) (.slice (some ⟨b7, 0, none⟩) ((a0.length : Nat) : Int).toNat ((a0.length : Nat) : Int).toNat) xs198.length cs']) hxs198 hS179 he196 (fun _ => .hd) hm193 rfl rfl rfl rfl rfl (by kernel_rfl)) (fun w199 ⟨cs203, hS200, hT201, hc202⟩ => ?_)
    refine RG.sg rfl rfl ?_
    refine RG.nil ?_
    refine MX.inBlock ?_
    refine MX.region ?_
    refine RG.vv (FV.addN (i := i142) (j := 1) rfl rfl (by omega)) rfl ?_
    refine RG.mv rfl rfl ?_
    refine RG.nil ?_
    exact hJ154 (z184.2, i142 + 1, xs198, cs203) _ _ ⟨rfl, rfl, rfl, rfl, rfl, rfl, trivial⟩ ⟨hS200, (Tr.trans hT147 (Tr.trans hT180 hT201)), hc202⟩ h
   ·skip
    intro J182 hJ183 h
    try dsimp only at h
    refine MX.ifd rfl h (fun c204 h => ?_) (fun c204 h => ?_)
    ·skip
     refine MX.region ?_
     refine RG.mv rfl rfl ?_
     refine RG.mv rfl rfl ?_
     obtain ⟨x205, hx205, h⟩ := bind_in h
     obtain ⟨A206, c207, he208, hk209, cs210, hr211, hm212⟩ := Rep.nth hm167 hx205
     have he213 : cs210 = [.int .u64 (x205.toNat : Int)] := hr211; subst he213
     refine RG.vv (FV.idxAddr (m := 1) (i := i142) (by kernel_rfl) rfl he208 rfl rfl hk209) rfl ?_
     refine RG.vv (FV.load1 (by kernel_rfl) rfl (hm212 0 _ rfl)) rfl ?_
     refine RG.sg rfl rfl ?_
     refine RG.nil ?_
     exact hJ183 x205 _ _ ⟨rfl, rfl, rfl, rfl, rfl, rfl, rfl, rfl, rfl, trivial⟩ ⟨hS146, Tr.refl _ _⟩ h
    refine MX.skip ?_
    exact hJ183 (0 : UInt64) _ _ ⟨rfl, rfl, rfl, rfl, rfl, rfl, rfl, rfl, rfl, trivial⟩ ⟨hS146, Tr.refl _ _⟩ h
  refine MX.exit rfl ?_
  have h := hh152 _ h
  try dsimp only at h
  refine MX.sr ?_
  refine RG.mv rfl rfl ?_
  refine RG.sg rfl rfl ?_
  refine RG.nil ?_
  refine MX.ret rfl ?_
  have hr214 := St.freeze (α := UInt64) hS146 .hd hc145 hL
  have hS215 := St.delS hS146 .hd
  have hT216 := St.delT hS146 .hd
  have hr217 := Rep.at_ (α := UInt64) (v := (.slice (some ⟨b7, 0, none⟩) ((a0.length : Nat) : Int).toNat ((a0.length : Nat) : Int).toNat)) (xs := xs143) hS215 L hr214
  refine RT.leave hb0 Tryz.func173 rfl (.cons (.tmp rfl) .nil) rfl ?_
  obtain rfl := Option.some.inj h
  exact ⟨hS215.ag, fun w9 hw9 => ⟨(.slice (some ⟨b7, 0, none⟩) ((a0.length : Nat) : Int).toNat ((a0.length : Nat) : Int).toNat), rfl, Rep.keep0 (Rep.dropS hS215 hr217) hw9⟩⟩
def stab0 : List UInt8 := [0, 1, 2, 2, 3, 3, 3, 3, 4, 4, 4, 4, 4, 4, 4, 4, 5, 5, 5, 5, 5, 5, 5, 5, 5, 5, 5, 5, 5, 5, 5, 5, 6, 6, 6, 6, 6, 6, 6, 6, 6, 6, 6, 6, 6, 6, 6, 6, 6, 6, 6, 6, 6, 6, 6, 6, 6, 6, 6, 6, 6, 6, 6, 6, 7, 7, 7, 7, 7, 7, 7, 7, 7, 7, 7, 7, 7, 7, 7, 7, 7, 7, 7, 7, 7, 7, 7, 7, 7, 7, 7, 7, 7, 7, 7, 7, 7, 7, 7, 7, 7, 7, 7, 7, 7, 7, 7, 7, 7, 7, 7, 7, 7, 7, 7, 7, 7, 7, 7, 7, 7, 7, 7, 7, 7, 7, 7, 7, 8, 8, 8, 8, 8, 8, 8, 8, 8, 8, 8, 8, 8, 8, 8, 8, 8, 8, 8, 8, 8, 8, 8, 8, 8, 8, 8, 8, 8, 8, 8, 8, 8, 8, 8, 8, 8, 8, 8, 8, 8, 8, 8, 8, 8, 8, 8, 8, 8, 8, 8, 8, 8, 8, 8, 8, 8, 8, 8, 8, 8, 8, 8, 8, 8, 8, 8, 8, 8, 8, 8, 8, 8, 8, 8, 8, 8, 8, 8, 8, 8, 8, 8, 8, 8, 8, 8, 8, 8, 8, 8, 8, 8, 8, 8, 8, 8, 8, 8, 8, 8, 8, 8, 8, 8, 8, 8, 8, 8, 8, 8, 8, 8, 8, 8, 8, 8, 8, 8, 8, 8, 8, 8, 8, 8, 8, 8, 8]
def math_bits_Len64_p (_n : Nat) (a0 : UInt64) : Option Int :=
  jn (fun (u2, i3) => jn (fun (u11, z12) => jn (fun (u20, z21) => (stab0[(u8of u20).toNat]?).bind fun z27 => (chk (z21 + ((z27.toNat : Nat) : Int))).bind fun s29 => some s29) (fun J25 => (if (256 : UInt64) ≤ u11 then (chk (z12 + 8)).bind fun s31 => J25 (shrU u11 8, s31) else J25 (u11, z12)))) (fun J16 => (if (65536 : UInt64) ≤ u2 then (chk (((i3 : Nat) : Int) + 16)).bind fun s33 => J16 (shrU u2 16, s33) else J16 (u2, ((i3 : Nat) : Int))))) (fun J7 => (if (4294967296 : UInt64) ≤ a0 then J7 (shrU a0 32, 32) else J7 (a0, 0)))
set_option maxRecDepth 4000 in
set_option maxHeartbeats 4000000 in
theorem math_bits_Len64_c (n : Nat) (L : List Nat) (w : World) (_hL : ∀ b ∈ L, b < w.heap.size) (a0 : UInt64)  {r : Int} (h : math_bits_Len64_p n a0 = some r) :
    Calls Tryz.prog 226 #[.int .u64 (a0.toNat : Int)] w (Gives w fun _ u => u = .int .i64 r) := by
  unfold math_bits_Len64_p at h
  have hS0 := St.start w
  refine MX.start Tryz.func226 rfl rfl rfl (fun _ cs0 hb0 => ?_)
  refine MX.sr ?_
  refine RG.sg rfl rfl ?_
  refine RG.nil ?_
  refine MX.seq ?_
  refine MX.sr ?_
  refine RG.mv rfl rfl ?_
  refine RG.vv (FV.geqU (a := a0) (b := (4294967296 : UInt64)) rfl rfl) rfl ?_
  refine RG.nil ?_
  refine MX.join (α := UInt64 × Nat) (fun ⟨u2, i3⟩ => [(0, .int .u64 (u2.toNat : Int)), (2, .int .i64 ((i3 : Nat) : Int))]) (fun ⟨u2, i3⟩ wx3 => St w wx3 [] ∧ Tr w [] wx3 []) (fun ⟨u2, i3⟩ => (u2, i3)) h ?_ ?_
  ·skip
   rintro ⟨u2, i3⟩ wx3 ⟨hS4, hT5⟩ h
   try dsimp only at h
   refine MX.seq ?_
   refine MX.sr ?_
   refine RG.mv rfl rfl ?_
   refine RG.vv (FV.geqU (a := u2) (b := (65536 : UInt64)) rfl rfl) rfl ?_
   refine RG.nil ?_
   refine MX.join (α := UInt64 × Int) (fun ⟨u11, z12⟩ => [(0, .int .u64 (u11.toNat : Int)), (2, .int .i64 z12)]) (fun ⟨u11, z12⟩ wx12 => St w wx12 [] ∧ Tr wx3 [] wx12 []) (fun ⟨u11, z12⟩ => (u11, z12)) h ?_ ?_
   ·skip
    rintro ⟨u11, z12⟩ wx12 ⟨hS13, hT14⟩ h
    try dsimp only at h
    refine MX.seq ?_
    refine MX.sr ?_
    refine RG.mv rfl rfl ?_
    refine RG.vv (FV.geqU (a := u11) (b := (256 : UInt64)) rfl rfl) rfl ?_
    refine RG.nil ?_
    refine MX.join (α := UInt64 × Int) (fun ⟨u20, z21⟩ => [(0, .int .u64 (u20.toNat : Int)), (2, .int .i64 z21)]) (fun ⟨u20, z21⟩ wx21 => St w wx21 [] ∧ Tr wx12 [] wx21 []) (fun ⟨u20, z21⟩ => (u20, z21)) h ?_ ?_
    ·skip
     rintro ⟨u20, z21⟩ wx21 ⟨hS22, hT23⟩ h
     try dsimp only at h
     refine MX.sr ?_
     refine RG.mv rfl rfl ?_
     refine RG.mv rfl rfl ?_
     refine RG.vv (FV.conv8 (a := u20) Tryz.underlying33 Tryz.underlying5 rfl) rfl ?_
     obtain ⟨z27, hz27, h⟩ := bind_in h
     refine RG.vv (FV.strIdx (k := (u8of u20).toNat) (tab := stab0) Tryz.underlying9 rfl rfl rfl rfl hz27) rfl ?_
     have hu28 := z27.toNat_lt
     refine RG.vv (FV.convN (i := z27.toNat) Tryz.underlying5 Tryz.underlying3 rfl (by omega)) rfl ?_
     obtain ⟨s29, hs29, h⟩ := bind_in h
     refine RG.vv (FV.addc (i := z21) (j := ((z27.toNat : Nat) : Int)) rfl rfl hs29) rfl ?_
     refine RG.sg rfl rfl ?_
     refine RG.nil ?_
     refine MX.ret rfl ?_
     refine RT.leave hb0 Tryz.func226 rfl (.cons (.tmp rfl) .nil) rfl ?_
     obtain rfl := Option.some.inj h
     exact ⟨hS22.ag, fun w9 hw9 => rfl⟩
    ·skip
     intro J25 hJ26 h
     try dsimp only at h
     refine MX.ifd rfl h (fun c30 h => ?_) (fun c30 h => ?_)
     ·skip
      refine MX.sr ?_
      refine RG.mv rfl rfl ?_
      refine RG.vv (FV.shrU (a := u11) (j := 8) rfl rfl) rfl ?_
      refine RG.sg rfl rfl ?_
      refine RG.nil ?_
      refine MX.region ?_
      refine RG.mv rfl rfl ?_
      obtain ⟨s31, hs31, h⟩ := bind_in h
      refine RG.vv (FV.addc (i := z12) (j := 8) rfl rfl hs31) rfl ?_
      refine RG.sg rfl rfl ?_
      refine RG.nil ?_
      exact hJ26 (shrU u11 8, s31) _ _ ⟨rfl, rfl, trivial⟩ ⟨hS13, Tr.refl _ _⟩ h
     refine MX.skip ?_
     exact hJ26 (u11, z12) _ _ ⟨rfl, rfl, trivial⟩ ⟨hS13, Tr.refl _ _⟩ h
   ·skip
    intro J16 hJ17 h
    try dsimp only at h
    refine MX.ifd rfl h (fun c32 h => ?_) (fun c32 h => ?_)
    ·skip
     refine MX.sr ?_
     refine RG.mv rfl rfl ?_
     refine RG.vv (FV.shrU (a := u2) (j := 16) rfl rfl) rfl ?_
     refine RG.sg rfl rfl ?_
     refine RG.nil ?_
     refine MX.region ?_
     refine RG.mv rfl rfl ?_
     obtain ⟨s33, hs33, h⟩ := bind_in h
     refine RG.vv (FV.addc (i := ((i3 : Nat) : Int)) (j := 16) rfl rfl hs33) rfl ?_
     refine RG.sg rfl rfl ?_
     refine RG.nil ?_
     exact hJ17 (shrU u2 16, s33) _ _ ⟨rfl, rfl, trivial⟩ ⟨hS4, Tr.refl _ _⟩ h
    refine MX.skip ?_
    exact hJ17 (u2, ((i3 : Nat) : Int)) _ _ ⟨rfl, rfl, trivial⟩ ⟨hS4, Tr.refl _ _⟩ h
  ·skip
   intro J7 hJ8 h
   try dsimp only at h
   refine MX.ifd rfl h (fun c34 h => ?_) (fun c34 h => ?_)
   ·skip
    refine MX.sr ?_
    refine RG.mv rfl rfl ?_
    refine RG.vv (FV.shrU (a := a0) (j := 32) rfl rfl) rfl ?_
    refine RG.sg rfl rfl ?_
    refine RG.nil ?_
    refine MX.region ?_
    refine RG.sg rfl rfl ?_
    refine RG.nil ?_
    exact hJ8 (shrU a0 32, 32) _ _ ⟨rfl, rfl, trivial⟩ ⟨hS0, Tr.refl _ _⟩ h
   refine MX.skip ?_
   exact hJ8 (a0, 0) _ _ ⟨rfl, rfl, trivial⟩ ⟨hS0, Tr.refl _ _⟩ h
theorem body226 : bodyB Tryz.prog 226 = true := by kernel_rfl
def math_bits_LeadingZeros64_p (n : Nat) (a0 : UInt64) : Option Int :=
  (math_bits_Len64_p n a0).bind fun y1 => (chk (64 - y1)).bind fun s2 => some s2
set_option maxRecDepth 4000 in
set_option maxHeartbeats 4000000 in
theorem math_bits_LeadingZeros64_c (n : Nat) (L : List Nat) (w : World) (hL : ∀ b ∈ L, b < w.heap.size) (a0 : UInt64)  {r : Int} (h : math_bits_LeadingZeros64_p n a0 = some r) :
    Calls Tryz.prog 222 #[.int .u64 (a0.toNat : Int)] w (Gives w fun _ u => u = .int .i64 r) := by
  unfold math_bits_LeadingZeros64_p at h
  have hS0 := St.start w
  refine MX.start Tryz.func222 rfl rfl rfl (fun _ cs0 hb0 => ?_)
  refine MX.sr ?_
  refine RG.sg rfl rfl ?_
  refine RG.nil ?_
  refine MX.sr ?_
  refine RG.mv rfl rfl ?_
  obtain ⟨y1, hy1, h⟩ := bind_in h
  refine RG.cq (.int .i64 y1) body226 rfl (evs_cons rfl evs_nil) (fun w9 hw9 => math_bits_Len64_c n _ w9 (hS0.hL0 hL hw9) a0 hy1) rfl ?_
  obtain ⟨s2, hs2, h⟩ := bind_in h
  refine RG.vv (FV.subc (i := 64) (j := y1) rfl rfl hs2) rfl ?_
  refine RG.sg rfl rfl ?_
  refine RG.nil ?_
  refine MX.ret rfl ?_
  refine RT.leave hb0 Tryz.func222 rfl (.cons (.tmp rfl) .nil) rfl ?_
  obtain rfl := Option.some.inj h
  exact ⟨hS0.ag, fun w9 hw9 => rfl⟩
end Go.Proofs.YtmhgoecnjleagaaGreatDoor
